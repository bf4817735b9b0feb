/- Two Readers do not touch each other. No condition. -/
import Derived.Test.YtpaibalemjkkcaaReadMore
namespace Go.Proofs.Ytpaibalemjkkcaa
set_option linter.unusedVariables false
open Go.RowKit

/-- bytes that lie below any mark are not a Reader's block -/
theorem Reads.apart {T : TypeId} {w w' : World} {k B n p : Nat} {A A' : Option Addr} {n' c' : Nat} {bad : Bool} {l : List UInt8} (h : Reads w B 1 A n (bv l)) (hk : Blk w k T #[.slice A' n' c', .int .i64 (p : Int), .bool bad])
    (hb : w.grownBy w' (some k)) (hB : B ≤ w.heap.size) : Reads w' B 1 A n (bv l) := by
  refine ⟨h.1, fun hn => ?_⟩
  obtain ⟨ad, e, hlt, hc⟩ := h.2 hn
  have hl := h.1
  rw [bv_length] at hl
  have hne : ad.block ≠ k := by
    intro he
    obtain ⟨x, l', rfl⟩ : ∃ x l', l = x :: l' := by
      cases l with
      | nil => simp at hl; omega
      | cons x l' => exact ⟨x, l', rfl⟩
    have h0 := hc 0 (.int .u8 (x.toNat : Int)) (by simp [bv])
    rw [show ad.add 0 = ad from by simp [Addr.add]] at h0
    unfold World.cell? at h0
    rw [he] at h0
    unfold Blk at hk
    rw [hk] at h0
    simp only at h0
    split at h0
    · cases h0
    · have hs := (Array.getElem?_eq_some_iff.1 h0).1
      simp at hs
      rcases (by omega : ad.off = 0 ∨ ad.off = 1 ∨ ad.off = 2) with ho | ho | ho <;> rw [ho] at h0 <;> simp at h0
  exact ⟨ad, e, hlt, fun j u hu => (World.cell?_of_block (hb.block _ (by rw [block_of_add]; omega) (by rw [block_of_add]; intro e; injection e with e; exact hne e))).trans (hc j u hu)⟩

theorem RS.apart {T T' : TypeId} {w w' : World} {g k : Nat} {s s' : Option (List UInt8)} (h : RS T w g s) (hk : RS T' w k s') (hb : w.grownBy w' (some k)) (hne : g ≠ k) : RS T w' g s := by
  have hlt := h.lt
  obtain ⟨l, p, bad, ⟨A, n, c, h1, h2, h3⟩, h4⟩ := h
  obtain ⟨l', p', bad', ⟨A', n', c', k1, k2, k3⟩, k4⟩ := hk
  exact ⟨l, p, bad, ⟨A, n, c, h1.grown hb (fun e => by injection e with e; exact hne e), h2.apart k1 hb (by omega), h3⟩, h4⟩
theorem RS.ne_ {T T' : TypeId} {w : World} {g k : Nat} {s s' : Option (List UInt8)} (h : RS T w g s) (hk : RS T' w k s') (hT : T ≠ T') : g ≠ k := by
  obtain ⟨l, p, bad, ⟨A, n, c, h1, h2, h3⟩, h4⟩ := h
  obtain ⟨l', p', bad', ⟨A', n', c', k1, k2, k3⟩, k4⟩ := hk
  exact h1.ne_ k1 hT
end Go.Proofs.Ytpaibalemjkkcaa
