/- Appends of bytes, in this program's numbers. No condition. -/
import Derived.Test.YtpaibalemjkkcaaMem
import Derived.WalkSpells
import Derived.WalkLawsBesides
namespace Go.Proofs.Ytpaibalemjkkcaa
open Go.RowKit

theorem u8_info : (Try.prog.info? 5).map (fun i => (i.zero, i.size, i.bytes)) = some (some (.int .u8 0), 1, 1) := by kernel_rfl

/-- an owned row of bytes -/
def Own (w : World) (B : Nat) (v : Value) (n : Nat) (l : List UInt8) : Prop := w.ownsRow B 5 1 v n (bv l)
theorem Own.form {w : World} {B : Nat} {v : Value} {n : Nat} {l : List UInt8} (h : Own w B v n l) : ∃ A c, v = .slice A n c := by
  rcases h.2 with ⟨rfl, rfl⟩ | ⟨g, cap, cur, rfl, _⟩
  · exact ⟨_, _, rfl⟩
  · exact ⟨_, _, rfl⟩
theorem Own.len {w : World} {B : Nat} {v : Value} {n : Nat} {l : List UInt8} (h : Own w B v n l) : l.length = n := by
  have := h.1; rw [bv_length] at this; omega
theorem Own.nil (w : World) (B : Nat) : Own w B (.slice none 0 0) 0 [] := World.ownsRow_nil w B _ _
theorem Own.reads {w : World} {B : Nat} {A : Option Addr} {n c : Nat} {l : List UInt8} (h : Own w B (.slice A n c) n l) : Reads w w.heap.size 1 A n (bv l) := Reads.of_own h
theorem Own.alloc {w : World} {B : Nat} {v : Value} {n : Nat} {l : List UInt8} (h : Own w B v n l) (o : Obj) : Own (w.alloc o) B v n l := World.ownsRow.alloc h o
theorem Own.more {w : World} {B B' : Nat} {v : Value} {n : Nat} {l : List UInt8} (h : Own w B v n l) (hB : B' ≤ B) : Own w B' v n l := by
  refine ⟨h.1, ?_⟩
  rcases h.2 with h0 | ⟨g, cap, cur, hv, hb, r⟩
  · exact .inl h0
  · exact .inr ⟨g, cap, cur, hv, by omega, r⟩
/-- kept while whatever it owns is untouched -/
theorem Own.below {w w' : World} {B C : Nat} {v : Value} {n : Nat} {l : List UInt8} (h : Own w B v n l) (hb : Below C w w') (hC : w.heap.size ≤ C) : Own w' B v n l := by
  refine ⟨h.1, ?_⟩
  rcases h.2 with h0 | ⟨g, cap, cur, hv, hbg, hg, r⟩
  · exact .inl h0
  · exact .inr ⟨g, cap, cur, hv, hbg, by rw [hb.block g (by have := (Array.getElem?_eq_some_iff.1 hg).1; omega)]; exact hg, r⟩

/-- 'append(b, x...)': b owned, x readable -/
theorem app_bytes {ops : Array Oper} {rest : List Oper} {o : Oper} {a : Act} {Q : Exit → Act → World → Prop} (w : World) (hgd : o.guard = none) (s x : Operand)
    (ho : o.op = .call { callee := .builtin .append, args := #[s, x], argTypes := #[23, 23] })
    (B : Nat) (v : Value) (n : Nat) (l : List UInt8) (hs : a.eval s = v) (hown : Own w B v n l)
    (C : Nat) (A : Option Addr) (m c : Nat) (news : List UInt8) (hx : a.eval x = .slice A m c) (hr : Reads w C 1 A m (bv news))
    (hbytes : n + m ≤ 140737488355328) (hbase : B ≤ w.heap.size)
    (h : ∀ A' c' w', Own w' B (.slice A' (n + m) c') (n + m) (l ++ news) → w.grownBy w' v.ownBlock → ((Value.slice A' (n + m) c').ownBlock = v.ownBlock ∨ (Value.slice A' (n + m) c').ownBlock = some w.heap.size) →
      wpList Try.prog ops Q rest (a.put o.dst (.slice A' (n + m) c')) w') : wpList Try.prog ops Q (o :: rest) a w := by
  obtain ⟨i0, hi0, hz0, hz1, hz2⟩ := info_parts u8_info
  refine wpList_append_any w hgd s x 23 ho B 5 i0 _ 1 1 Try.underlying23 hi0 hz0 hz1 hz2 rfl (by omega) v n (bv l) hs hown C A m c (bv news) hx hr (bv_one _)
    (by simp only [maxLen]; omega) (by omega) hbase ?_
  intro v' w' hown' hg hat
  have hO : Own w' B v' (n + m) (l ++ news) := by unfold Own; rw [bv_append]; exact hown'
  obtain ⟨A', c', rfl⟩ := hO.form
  exact h A' c' w' hO hg hat
/-- 'append([]byte(nil), x...)' -/
theorem app_copy {ops : Array Oper} {rest : List Oper} {o : Oper} {a : Act} {Q : Exit → Act → World → Prop} (w : World) (hgd : o.guard = none) (x : Operand)
    (ho : o.op = .call { callee := .builtin .append, args := #[.const (.slice none 0 0), x], argTypes := #[23, 23] })
    (C : Nat) (A : Option Addr) (m c : Nat) (news : List UInt8) (hx : a.eval x = .slice A m c) (hr : Reads w C 1 A m (bv news)) (hbytes : m ≤ 140737488355328)
    (h : ∀ A' c' w', Own w' w.heap.size (.slice A' m c') m news → Below w.heap.size w w' → wpList Try.prog ops Q rest (a.put o.dst (.slice A' m c')) w') : wpList Try.prog ops Q (o :: rest) a w := by
  refine app_bytes w hgd _ x ho w.heap.size (.slice none 0 0) 0 [] rfl (Own.nil _ _) C A m c news hx hr (by omega) (Nat.le_refl _) ?_
  intro A' c' w' hO hg _
  rw [Nat.zero_add] at hO ⊢
  exact h A' c' w' hO ((Below.refl _ _).grown hg (Nat.le_refl _) (by simp [Value.ownBlock]))
end Go.Proofs.Ytpaibalemjkkcaa
