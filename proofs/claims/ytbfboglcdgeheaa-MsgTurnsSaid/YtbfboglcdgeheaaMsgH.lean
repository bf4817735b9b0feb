/- Reading messages: plain steps; apartness. No condition. -/
import Derived.Test.YtbfboglcdgeheaaMsgG
import Derived.Test.YtbfboglcdgeheaaVJ
namespace Go.Proofs.Ytbfboglcdgeheaa
set_option linter.unusedVariables false
open Go.RowKit

/-! ### the reads, one behind the other -/
def Msg.ist (s : Option (List UInt8)) : Nat → Option (List UInt8)
  | 0 => s
  | k + 1 => (Wire.intS (Msg.ist s k)).2
def Msg.iv (s : Option (List UInt8)) (k : Nat) : Int := (Wire.intS (Msg.ist s k)).1
def Msg.nx (most : Int) (s : Option (List UInt8)) : Msg.En × Option (List UInt8) :=
  (⟨(Wire.intS s).1, (Wire.boolS (Wire.intS s).2).1, (Wire.textS most (Wire.boolS (Wire.intS s).2).2).1⟩, (Wire.textS most (Wire.boolS (Wire.intS s).2).2).2)
def Msg.st (most : Int) (s : Option (List UInt8)) : Nat → Option (List UInt8)
  | 0 => s
  | k + 1 => (Msg.nx most (Msg.st most s k)).2
theorem Msg.st_succ (most : Int) : ∀ (k : Nat) (s : Option (List UInt8)), Msg.st most s (k + 1) = Msg.st most (Msg.nx most s).2 k
  | 0, s => rfl
  | k + 1, s => by
    show (Msg.nx most (Msg.st most s (k + 1))).2 = (Msg.nx most (Msg.st most (Msg.nx most s).2 k)).2
    rw [Msg.st_succ most k s]
theorem Msg.rdE_st (most : Int) : ∀ (n : Nat) (s : Option (List UInt8)), (Msg.rdE most n s).2 = Msg.st most s n
  | 0, s => rfl
  | n + 1, s => by
    rw [Msg.st_succ, ← Msg.rdE_st most n]
    rfl
theorem Msg.rdE_get (most : Int) : ∀ (n : Nat) (s : Option (List UInt8)) (k : Nat), k < n → (Msg.rdE most n s).1[k]? = some (Msg.nx most (Msg.st most s k)).1
  | n + 1, s, 0, _ => rfl
  | n + 1, s, k + 1, h => by
    rw [Msg.st_succ, ← Msg.rdE_get most n _ k (by omega)]
    rfl
theorem Msg.rdE_len (most : Int) : ∀ (n : Nat) (s : Option (List UInt8)), (Msg.rdE most n s).1.length = n
  | 0, s => rfl
  | n + 1, s => by
    show (_ :: (Msg.rdE most n _).1).length = n + 1
    rw [List.length_cons, Msg.rdE_len]
theorem Msg.count_in {most : Int} (h0 : 0 ≤ most) (s : Option (List UInt8)) : 0 ≤ (Wire.countS most s).1 ∧ (Wire.countS most s).1 ≤ most := by
  unfold Wire.countS
  split
  · exact ⟨Int.le_refl _, h0⟩
  · split
    · exact ⟨Int.le_refl _, h0⟩
    · simp only; omega

/-! ### a block without bytes -/
def notU8 : Value → Bool
  | .int .u8 _ => false
  | _ => true
theorem Reads.apartC {T : TypeId} {w w' : World} {k B n : Nat} {A : Option Addr} {cs : Array Value} {l : List UInt8} (h : Reads w B 1 A n (bv l)) (hk : Blk w k T cs) (hcs : cs.toList.all notU8 = true)
    (hb : w.grownBy w' (some k)) (hB : B ≤ w.heap.size) : Reads w' B 1 A n (bv l) := by
  refine ⟨h.1, fun hn => ?_⟩
  obtain ⟨ad, e, hlt, hc⟩ := h.2 hn
  have hl := h.1
  rw [bv_length] at hl
  have hne : ad.block ≠ k := by
    intro he
    obtain ⟨x, l', rfl⟩ : ∃ x l', l = x :: l' := by
      cases l with
      | nil => simp at hl; omega
      | cons x l' => exact ⟨x, l', rfl⟩
    have h0 := hc 0 (.int .u8 (x.toNat : Int)) (by simp [bv])
    rw [show ad.add 0 = ad from by simp [Addr.add]] at h0
    unfold World.cell? at h0
    rw [he] at h0
    unfold Blk at hk
    rw [hk] at h0
    simp only at h0
    split at h0
    · cases h0
    · have hm : (Value.int .u8 (x.toNat : Int)) ∈ cs.toList := by
        rw [← Array.getElem?_toList] at h0
        exact List.mem_of_getElem? h0
      have := List.all_eq_true.1 hcs _ hm
      cases this
  exact ⟨ad, e, hlt, fun j u hu => (World.cell?_of_block (hb.block _ (by rw [block_of_add]; omega) (by rw [block_of_add]; intro e; injection e with e; exact hne e))).trans (hc j u hu)⟩
theorem RS.apartC {T T' : TypeId} {w w' : World} {g k : Nat} {cs : Array Value} {s : Option (List UInt8)} (h : RS T w g s) (hk : Blk w k T' cs) (hcs : cs.toList.all notU8 = true) (hb : w.grownBy w' (some k)) (hne : g ≠ k) : RS T w' g s := by
  have hlt := h.lt
  obtain ⟨l, p, bad, ⟨A, n, c, h1, h2, h3⟩, h4⟩ := h
  exact ⟨l, p, bad, ⟨A, n, c, h1.grown hb (fun e => by injection e with e; exact hne e), h2.apartC hk hcs hb (by omega), h3⟩, h4⟩
theorem Lies.apartC {W W' : World} {B m g T : Nat} {A : Option Addr} {l : List UInt8} {cs : Array Value} (h : Lies W B A m l) (hb : Blk W g T cs) (hg : W.grownBy W' (some g)) (hne : 5 ≠ T) : Lies W' B A m l := h.blk hb hg hne
/-- seven numbers come, one after the other -/
def Msg.cel (v : Nat → Int) (k : Nat) : Array Value := #[.int .i64 (if 0 < k then v 0 else 0), .int .i64 (if 1 < k then v 1 else 0), .int .i64 (if 2 < k then v 2 else 0), .int .i64 (if 3 < k then v 3 else 0), .int .i64 (if 4 < k then v 4 else 0), .int .i64 (if 5 < k then v 5 else 0), .int .i64 (if 6 < k then v 6 else 0), .bool false, .slice none 0 0, .slice none 0 0]
theorem Msg.cel_set (v : Nat → Int) (k : Nat) (hk : k < 7) : (Msg.cel v k).setIfInBounds k (.int .i64 (v k)) = Msg.cel v (k + 1) := by
  match k, hk with
  | 0, _ => simp [Msg.cel]
  | 1, _ => simp [Msg.cel]
  | 2, _ => simp [Msg.cel]
  | 3, _ => simp [Msg.cel]
  | 4, _ => simp [Msg.cel]
  | 5, _ => simp [Msg.cel]
  | 6, _ => simp [Msg.cel]
theorem Msg.ptr7 (g k : Nat) (hk : k < 7) : (#[Value.pointer (some ((⟨g, 0, none⟩ : Addr).add 0)), .pointer (some ((⟨g, 0, none⟩ : Addr).add 1)), .pointer (some ((⟨g, 0, none⟩ : Addr).add 2)), .pointer (some ((⟨g, 0, none⟩ : Addr).add 3)), .pointer (some ((⟨g, 0, none⟩ : Addr).add 4)), .pointer (some ((⟨g, 0, none⟩ : Addr).add 5)), .pointer (some ((⟨g, 0, none⟩ : Addr).add 6))] : Array Value).toList[k]? = some (.pointer (some ⟨g, k, none⟩)) := by
  match k, hk with
  | 0, _ => simp [Addr.add]
  | 1, _ => simp [Addr.add]
  | 2, _ => simp [Addr.add]
  | 3, _ => simp [Addr.add]
  | 4, _ => simp [Addr.add]
  | 5, _ => simp [Addr.add]
  | 6, _ => simp [Addr.add]
def Msg.zero : Msg.Mg := ⟨0, 0, 0, 0, 0, 0, 0, false, [], []⟩
end Go.Proofs.Ytbfboglcdgeheaa
