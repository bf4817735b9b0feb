/- Appends of bytes, in this program's numbers. No condition. -/
import Derived.Test.YtajheglnhfjodaaDoorMem
import Derived.WalkSpells
import Derived.WalkLawsBesides
import Derived.ArgAppend
import Derived.Lib.AppendStr
set_option maxRecDepth 10000
namespace Go.Proofs.YtajheglnhfjodaaDoor
set_option linter.unusedVariables false
open Go.RowKit

theorem u8_info : (Tryd.prog.info? 5).map (fun i => (i.zero, i.size, i.bytes)) = some (some (.int .u8 0), 1, 1) := by kernel_rfl

/-- an owned row of bytes -/
def Own (w : World) (B : Nat) (v : Value) (n : Nat) (l : List UInt8) : Prop := w.ownsRow B 5 1 v n (bv l)
theorem Own.form {w : World} {B : Nat} {v : Value} {n : Nat} {l : List UInt8} (h : Own w B v n l) : ∃ A c, v = .slice A n c := by
  rcases h.2 with ⟨rfl, rfl⟩ | ⟨g, cap, cur, rfl, _⟩
  · exact ⟨_, _, rfl⟩
  · exact ⟨_, _, rfl⟩
theorem Own.len {w : World} {B : Nat} {v : Value} {n : Nat} {l : List UInt8} (h : Own w B v n l) : l.length = n := by
  have := h.1; rw [bv_length] at this; omega
theorem Own.nil (w : World) (B : Nat) : Own w B (.slice none 0 0) 0 [] := World.ownsRow_nil w B _ _
theorem Own.reads {w : World} {B : Nat} {A : Option Addr} {n c : Nat} {l : List UInt8} (h : Own w B (.slice A n c) n l) : Reads w w.heap.size 1 A n (bv l) := Reads.of_own h
theorem Own.alloc {w : World} {B : Nat} {v : Value} {n : Nat} {l : List UInt8} (h : Own w B v n l) (o : Obj) : Own (w.alloc o) B v n l := World.ownsRow.alloc h o
theorem Own.more {w : World} {B B' : Nat} {v : Value} {n : Nat} {l : List UInt8} (h : Own w B v n l) (hB : B' ≤ B) : Own w B' v n l := by
  refine ⟨h.1, ?_⟩
  rcases h.2 with h0 | ⟨g, cap, cur, hv, hb, r⟩
  · exact .inl h0
  · exact .inr ⟨g, cap, cur, hv, by omega, r⟩
/-- kept while whatever it owns is untouched -/
theorem Own.below {w w' : World} {B C : Nat} {v : Value} {n : Nat} {l : List UInt8} (h : Own w B v n l) (hb : Below C w w') (hC : w.heap.size ≤ C) : Own w' B v n l := by
  refine ⟨h.1, ?_⟩
  rcases h.2 with h0 | ⟨g, cap, cur, hv, hbg, hg, r⟩
  · exact .inl h0
  · exact .inr ⟨g, cap, cur, hv, hbg, by rw [hb.block g (by have := (Array.getElem?_eq_some_iff.1 hg).1; omega)]; exact hg, r⟩

/-- 'append(b, x...)': b owned, x readable -/
theorem app_bytes {ops : Array Oper} {rest : List Oper} {o : Oper} {a : Act} {Q : Exit → Act → World → Prop} (w : World) (hgd : o.guard = none) (s x : Operand)
    (ho : o.op = .call { callee := .builtin .append, args := #[s, x], argTypes := #[42, 42] })
    (B : Nat) (v : Value) (n : Nat) (l : List UInt8) (hs : a.eval s = v) (hown : Own w B v n l)
    (C : Nat) (A : Option Addr) (m c : Nat) (news : List UInt8) (hx : a.eval x = .slice A m c) (hr : Reads w C 1 A m (bv news))
    (hbytes : n + m ≤ 140737488355328) (hbase : B ≤ w.heap.size)
    (h : ∀ A' c' w', Own w' B (.slice A' (n + m) c') (n + m) (l ++ news) → w.grownBy w' v.ownBlock → ((Value.slice A' (n + m) c').ownBlock = v.ownBlock ∨ (Value.slice A' (n + m) c').ownBlock = some w.heap.size) →
      wpList Tryd.prog ops Q rest (a.put o.dst (.slice A' (n + m) c')) w') : wpList Tryd.prog ops Q (o :: rest) a w := by
  obtain ⟨i0, hi0, hz0, hz1, hz2⟩ := info_parts u8_info
  refine wpList_append_any w hgd s x 42 ho B 5 i0 _ 1 1 Tryd.underlying42 hi0 hz0 hz1 hz2 rfl (by omega) v n (bv l) hs hown C A m c (bv news) hx hr (bv_one _)
    (by simp only [maxLen]; omega) (by omega) hbase ?_
  intro v' w' hown' hg hat
  have hO : Own w' B v' (n + m) (l ++ news) := by unfold Own; rw [bv_append]; exact hown'
  obtain ⟨A', c', rfl⟩ := hO.form
  exact h A' c' w' hO hg hat
/-- 'append([]byte(nil), x...)' -/
theorem app_copy {ops : Array Oper} {rest : List Oper} {o : Oper} {a : Act} {Q : Exit → Act → World → Prop} (w : World) (hgd : o.guard = none) (x : Operand)
    (ho : o.op = .call { callee := .builtin .append, args := #[.const (.slice none 0 0), x], argTypes := #[42, 42] })
    (C : Nat) (A : Option Addr) (m c : Nat) (news : List UInt8) (hx : a.eval x = .slice A m c) (hr : Reads w C 1 A m (bv news)) (hbytes : m ≤ 140737488355328)
    (h : ∀ A' c' w', Own w' w.heap.size (.slice A' m c') m news → Below w.heap.size w w' → wpList Tryd.prog ops Q rest (a.put o.dst (.slice A' m c')) w') : wpList Tryd.prog ops Q (o :: rest) a w := by
  refine app_bytes w hgd _ x ho w.heap.size (.slice none 0 0) 0 [] rfl (Own.nil _ _) C A m c news hx hr (by omega) (Nat.le_refl _) ?_
  intro A' c' w' hO hg _
  rw [Nat.zero_add] at hO ⊢
  exact h A' c' w' hO ((Below.refl _ _).grown hg (Nat.le_refl _) (by simp [Value.ownBlock]))

/-- what 'append' may be called on without writing old memory: a row of the call's own, or a slice that came in and has no room -/
def AppB (w : World) (B : Nat) (v : Value) (n : Nat) (l : List UInt8) : Prop :=
  Own w B v n l ∨ ∃ A, v = .slice A n n ∧ Reads w B 1 A n (bv l) ∧ (A = none → n = 0)
theorem AppB.len {w : World} {B : Nat} {v : Value} {n : Nat} {l : List UInt8} (h : AppB w B v n l) : l.length = n := by
  rcases h with h | ⟨A, _, h, _⟩
  · exact h.len
  · have := h.1; rw [bv_length] at this; omega
theorem AppB.form {w : World} {B : Nat} {v : Value} {n : Nat} {l : List UInt8} (h : AppB w B v n l) : ∃ A c, v = .slice A n c ∧ n ≤ c ∧ (A = none → n = 0) := by
  rcases h with h | ⟨A, rfl, _, hn⟩
  · rcases h.2 with ⟨rfl, rfl⟩ | ⟨g, cap, cur, rfl, _, _, hnc, _⟩
    · exact ⟨_, _, rfl, Nat.le_refl _, fun _ => rfl⟩
    · exact ⟨_, _, rfl, hnc, fun h => by cases h⟩
  · exact ⟨_, _, rfl, Nat.le_refl _, hn⟩
theorem AppB.alloc {w : World} {B : Nat} {v : Value} {n : Nat} {l : List UInt8} (h : AppB w B v n l) (hB : B ≤ w.heap.size) (o : Obj) : AppB (w.alloc o) B v n l := by
  rcases h with h | ⟨A, rfl, hr, hn⟩
  · exact .inl (h.alloc o)
  · exact .inr ⟨A, rfl, hr.alloc hB o, hn⟩
theorem AppB.reads {w : World} {B : Nat} {A : Option Addr} {n c : Nat} {l : List UInt8} (h : AppB w B (.slice A n c) n l) (hB : B ≤ w.heap.size) : Reads w w.heap.size 1 A n (bv l) := by
  rcases h with h | ⟨A', e, hr, hn⟩
  · exact h.reads
  · injection e with e1 e2 e3
    subst e1
    exact hr.more hB
/-- 'append(b, x...)', x in a block, not empty: what comes out is the call's own -/
theorem app_grow {ops : Array Oper} {rest : List Oper} {o : Oper} {a : Act} {Q : Exit → Act → World → Prop} (w : World) (hgd : o.guard = none) (s x : Operand)
    (ho : o.op = .call { callee := .builtin .append, args := #[s, x], argTypes := #[42, 42] })
    (B : Nat) (v : Value) (n : Nat) (l : List UInt8) (hs : a.eval s = v) (hd : AppB w B v n l)
    (C : Nat) (ad : Addr) (m c : Nat) (news : List UInt8) (hx : a.eval x = .slice (some ad) m c) (hr : Reads w C 1 (some ad) m (bv news)) (hm : 1 ≤ m)
    (hbytes : n + m ≤ 140737488355328) (hbase : B ≤ w.heap.size)
    (h : ∀ A' c' w', Own w' B (.slice A' (n + m) c') (n + m) (l ++ news) → Below B w w' → wpList Tryd.prog ops Q rest (a.put o.dst (.slice A' (n + m) c')) w') : wpList Tryd.prog ops Q (o :: rest) a w := by
  rcases hd with hown | ⟨A, rfl, hra, hnil⟩
  · refine app_bytes w hgd s x ho B v n l hs hown C (some ad) m c news hx hr hbytes hbase ?_
    intro A' c' w' hO hg _
    refine h A' c' w' hO ((Below.refl _ _).grown hg hbase fun k hk => ?_)
    exact (World.ownsRow.lt hown k hk).1
  · obtain ⟨i0, hi0, hz0, hz1, hz2⟩ := info_parts u8_info
    refine wpList_append_grows w hgd s x 42 ho 5 i0 _ 1 1 Tryd.underlying42 hi0 hz0 hz1 hz2 rfl (by omega) A n n (bv l) hs (fun e => ⟨hnil e, hnil e⟩) hra.1
      (fun b e j u hu => ?_) ad m c (bv news) hx hr.1 (fun j u hu => ?_) (bv_one _) (by omega) (by simp only [maxLen]; omega) (by omega) ?_
    · have hn : 0 < n := by
        have h1 := (List.getElem?_eq_some_iff.1 hu).1
        have h2 := hra.1
        omega
      obtain ⟨ad', e', _, hc⟩ := hra.2 hn
      rw [e] at e'
      injection e' with e'
      subst e'
      exact hc j u hu
    · obtain ⟨ad', e', _, hc⟩ := hr.2 (by omega)
      injection e' with e'
      subst e'
      exact hc j u hu
    · intro v' w' hown' hg
      have hO : Own w' w.heap.size v' (n + m) (l ++ news) := by unfold Own; rw [bv_append]; exact hown'
      obtain ⟨A', c', rfl⟩ := hO.form
      exact h A' c' w' (hO.more hbase) ((Below.refl _ _).grown hg hbase (by simp))
/-- 'append(b, s...)', b owned, s a text -/
theorem app_text {ops : Array Oper} {rest : List Oper} {o : Oper} {a : Act} {Q : Exit → Act → World → Prop} (w : World) (hgd : o.guard = none) (s x : Operand)
    (ho : o.op = .call { callee := .builtin .append, args := #[s, x], argTypes := #[42, 9] })
    (B : Nat) (v : Value) (n : Nat) (l : List UInt8) (hs : a.eval s = v) (hown : Own w B v n l)
    (t : ByteArray) (hx : a.eval x = .string t) (hbytes : n + t.size ≤ 140737488355328) (hbase : B ≤ w.heap.size)
    (h : ∀ A' c' w', Own w' B (.slice A' (n + t.size) c') (n + t.size) (l ++ t.data.toList) → Below B w w' → wpList Tryd.prog ops Q rest (a.put o.dst (.slice A' (n + t.size) c')) w') : wpList Tryd.prog ops Q (o :: rest) a w := by
  obtain ⟨i0, hi0, hz0, hz1, hz2⟩ := info_parts u8_info
  refine Lib.wpList_append_own_string w hgd s x 42 9 ho B 5 i0 Tryd.underlying42 Tryd.underlying9 hi0 hz0 hz1 hz2 v n (bv l) hs hown t hx
    (by simp only [maxLen]; omega) hbytes hbase ?_
  intro v' w' hown' hg _
  have hO : Own w' B v' (n + t.size) (l ++ t.data.toList) := by unfold Own; rw [bv_append]; exact hown'
  obtain ⟨A', c', rfl⟩ := hO.form
  exact h A' c' w' hO ((Below.refl _ _).grown hg hbase fun k hk => (World.ownsRow.lt hown k hk).1)

/-! ### making and storing -/
def zeros (n : Nat) : Array Value := madeCells #[.int .u8 0] n
theorem zeros_list (n : Nat) : (zeros n).toList = bv (List.replicate n 0) := by
  unfold zeros
  rw [toList_madeCells_one]
  simp [bv]
theorem run_make_b (w : World) (n : Nat) (hn : n ≤ 281474976710656) :
    (Instr.makeSlice 42 (.int .i64 (n : Int)) (.int .i64 (n : Int))).run Tryd.prog w = .ok (.slice (some ⟨w.heap.size, 0, none⟩) n n) (w.alloc (.cells (zeros n) 5)) := by
  obtain ⟨i0, hi0, hz0, hz1, hz2⟩ := info_parts u8_info
  have h := run_make (P := Tryd.prog) w 42 5 i0 _ Tryd.underlying42 hi0 hz0 .i64 .i64 n n (by omega) (by omega) (by rw [hz2]; omega) (by omega)
  rw [h, hz1]
  simp [zeros, Value.cells]
theorem Own.made (w : World) (n : Nat) (hn : n ≤ 281474976710656) : Own (w.alloc (.cells (zeros n) 5)) w.heap.size (.slice (some ⟨w.heap.size, 0, none⟩) n n) n (List.replicate n 0) := by
  unfold Own
  rw [← zeros_list]
  exact World.ownsRow_lit w (zeros n) n (Nat.le_refl _) (by simp only [maxLen]; omega) (by unfold zeros; rw [size_madeCells]; omega)
theorem Own.at_ {w : World} {B g n c : Nat} {l : List UInt8} (h : Own w B (.slice (some ⟨g, 0, none⟩) n c) n l) {j : Nat} {x : UInt8} (hj : l[j]? = some x) :
    w.cell? ⟨g, j, none⟩ = some (.int .u8 (x.toNat : Int)) ∧ w.frozen? ⟨g, j, none⟩ = false := by
  have hl := h.len
  have hlt : j < n := by have := (List.getElem?_eq_some_iff.1 hj).1; omega
  refine ⟨?_, World.ownsRow.frozenAt h j⟩
  rw [World.ownsRow.cellAt h j (by omega)]
  simp [bv, hj]
theorem Own.set {w : World} {B g n c : Nat} {l : List UInt8} (h : Own w B (.slice (some ⟨g, 0, none⟩) n c) n l) (j : Nat) (y : UInt8) :
    Own (w.setCell ⟨g, j, none⟩ (.int .u8 (y.toNat : Int))) B (.slice (some ⟨g, 0, none⟩) n c) n (l.set j y) := by
  have h1 := (World.ownsRow.stored h j (.int .u8 (y.toNat : Int))).1
  unfold Own
  rw [show bv (l.set j y) = (bv l).set j (.int .u8 (y.toNat : Int)) from by simp [bv, List.map_set]]
  exact h1
theorem Own.at_block {w : World} {B g n c : Nat} {l : List UInt8} (h : Own w B (.slice (some ⟨g, 0, none⟩) n c) n l) : B ≤ g ∧ g < w.heap.size := World.ownsRow.lt h g rfl
theorem Own.drew {w : World} {B : Nat} {v : Value} {n : Nat} {l : List UInt8} (h : Own w B v n l) : Own w.drew B v n l := h.below (C := w.heap.size) ((Below.refl _ _).drew) (Nat.le_refl _)

/-! ### cutting bytes -/
/-- the head's address behind a cut at k -/
def cutA (A : Option Addr) (c k : Nat) : Option Addr := if c = k then A else A.map (·.add k)
theorem cutA_zero (A : Option Addr) (c : Nat) : cutA A c 0 = A := by
  unfold cutA
  split
  · rfl
  · cases A <;> simp [Addr.add]
theorem Reads.cutA {w : World} {B n c k : Nat} {A : Option Addr} {l : List UInt8} (h : Reads w B 1 A n (bv l)) (hk : k ≤ n) (hc : n ≤ c) : Reads w B 1 (cutA A c k) (n - k) (bv (l.drop k)) := by
  have := Reads.cut h hk hc
  simp only [Nat.mul_one] at this
  rw [bv_drop]
  exact this
theorem Reads.take {w : World} {B n k : Nat} {A : Option Addr} {l : List UInt8} (h : Reads w B 1 A n (bv l)) (hk : k ≤ n) : Reads w B 1 A k (bv (l.take k)) := by
  refine ⟨by rw [bv_take]; have := h.1; simp; omega, fun hk0 => ?_⟩
  obtain ⟨ad, rfl, hb, hc⟩ := h.2 (by omega)
  refine ⟨ad, rfl, hb, fun j u hu => ?_⟩
  rw [bv_take, List.getElem?_take] at hu
  split at hu
  · exact hc j u hu
  · cases hu
theorem slice_hi (w : World) (A : Option Addr) (n c k : Nat) (hk : k ≤ c) :
    (Instr.slice 42 (.slice A n c) none (some (.int .i64 (k : Int))) none).run Tryd.prog w = .ok (.slice A k c) w := by
  rw [run_slice_h w 42 A n c (by kernel_rfl) .i64 k (by omega) (by omega)]
  rw [show (sizeOf (Tryd.prog.elem 42)).run Tryd.prog w = .ok 1 w from by kernel_rfl]
  have h := cutA_zero A c
  unfold cutA at h
  simp [Result.andThen, sliced, h]
theorem slice_lo (w : World) (A : Option Addr) (n c k : Nat) (hk : k ≤ n) :
    (Instr.slice 42 (.slice A n c) (some (.int .i64 (k : Int))) none none).run Tryd.prog w = .ok (.slice (cutA A c k) (n - k) (c - k)) w := by
  rw [run_slice_l w 42 A n c (by kernel_rfl) .i64 k (by omega) (by omega)]
  rw [show (sizeOf (Tryd.prog.elem 42)).run Tryd.prog w = .ok 1 w from by kernel_rfl]
  simp [Result.andThen, sliced, cutA]
theorem slice_lh (w : World) (A : Option Addr) (n c k m : Nat) (hk : k ≤ m) (hm : m ≤ c) :
    (Instr.slice 42 (.slice A n c) (some (.int .i64 (k : Int))) (some (.int .i64 (m : Int))) none).run Tryd.prog w = .ok (.slice (cutA A c k) (m - k) (c - k)) w := by
  rw [run_slice_lh w 42 A n c (by kernel_rfl) .i64 .i64 k m (by omega) (by omega) (by omega)]
  rw [show (sizeOf (Tryd.prog.elem 42)).run Tryd.prog w = .ok 1 w from by kernel_rfl]
  simp [Result.andThen, sliced, cutA]
end Go.Proofs.YtajheglnhfjodaaDoor
