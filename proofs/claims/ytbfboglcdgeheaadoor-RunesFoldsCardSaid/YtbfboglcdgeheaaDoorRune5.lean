/- The reference's pieces, one by one. No condition. -/
import Derived.Test.YtbfboglcdgeheaaDoorRune4
namespace Go.Proofs.YtbfboglcdgeheaaDoor
set_option linter.unusedVariables false
open Go.RowKit

/-- the k-th byte goes on a sequence -/
def ct (l : List UInt8) (k : Nat) : Prop := k < l.length ∧ 128 ≤ (l.getD k 0).toNat ∧ (l.getD k 0).toNat ≤ 191
instance (l : List UInt8) (k : Nat) : Decidable (ct l k) := inferInstanceAs (Decidable (k < l.length ∧ 128 ≤ (l.getD k 0).toNat ∧ (l.getD k 0).toNat ≤ 191))
def vv (l : List UInt8) (k : Nat) : Nat := (l.getD k 0).toNat - 128
theorem vv_lt {l : List UInt8} {k : Nat} (h : ct l k) : vv l k < 64 := by unfold vv; have := h.2; omega
set_option maxRecDepth 100000 in
set_option maxHeartbeats 4000000 in
theorem dec_num (n c b1 b2 b3 : Nat) (hc2 : c < 256) (k1 : b1 < 256) (k2 : b2 < 256) (k3 : b3 < 256) : Lib.decodeN n c b1 b2 b3 =
    if c < 128 then (c, 1)
    else if 194 ≤ c ∧ c ≤ 223 then (if (1 < n ∧ 128 ≤ b1 ∧ b1 ≤ 191) then ((c - 192) * 64 + (b1 - 128), 2) else (65533, 1))
    else if 224 ≤ c ∧ c ≤ 239 then (if (1 < n ∧ 128 ≤ b1 ∧ b1 ≤ 191) ∧ (2 < n ∧ 128 ≤ b2 ∧ b2 ≤ 191) then (if ((c - 224) * 64 + (b1 - 128)) * 64 + (b2 - 128) < 2048 ∨ (55296 ≤ ((c - 224) * 64 + (b1 - 128)) * 64 + (b2 - 128) ∧ ((c - 224) * 64 + (b1 - 128)) * 64 + (b2 - 128) ≤ 57343) then (65533, 1) else (((c - 224) * 64 + (b1 - 128)) * 64 + (b2 - 128), 3)) else (65533, 1))
    else if 240 ≤ c ∧ c ≤ 244 then (if (1 < n ∧ 128 ≤ b1 ∧ b1 ≤ 191) ∧ (2 < n ∧ 128 ≤ b2 ∧ b2 ≤ 191) ∧ (3 < n ∧ 128 ≤ b3 ∧ b3 ≤ 191) then (if (((c - 240) * 64 + (b1 - 128)) * 64 + (b2 - 128)) * 64 + (b3 - 128) < 65536 ∨ 1114111 < (((c - 240) * 64 + (b1 - 128)) * 64 + (b2 - 128)) * 64 + (b3 - 128) then (65533, 1) else ((((c - 240) * 64 + (b1 - 128)) * 64 + (b2 - 128)) * 64 + (b3 - 128), 4)) else (65533, 1))
    else (65533, 1) := by
  unfold Lib.decodeN
  repeat' split
  all_goals first
    | rfl
    | (exfalso; omega)
    | exact Prod.ext (by dsimp only; omega) rfl
theorem dec_by (l : List UInt8) (hl : 0 < l.length) (c : Nat) (hc : (l.getD 0 0).toNat = c) : Lib.decodeL l =
    if c < 128 then (c, 1)
    else if 194 ≤ c ∧ c ≤ 223 then (if ct l 1 then ((c - 192) * 64 + vv l 1, 2) else (65533, 1))
    else if 224 ≤ c ∧ c ≤ 239 then (if ct l 1 ∧ ct l 2 then (if ((c - 224) * 64 + vv l 1) * 64 + vv l 2 < 2048 ∨ (55296 ≤ ((c - 224) * 64 + vv l 1) * 64 + vv l 2 ∧ ((c - 224) * 64 + vv l 1) * 64 + vv l 2 ≤ 57343) then (65533, 1) else (((c - 224) * 64 + vv l 1) * 64 + vv l 2, 3)) else (65533, 1))
    else if 240 ≤ c ∧ c ≤ 244 then (if ct l 1 ∧ ct l 2 ∧ ct l 3 then (if (((c - 240) * 64 + vv l 1) * 64 + vv l 2) * 64 + vv l 3 < 65536 ∨ 1114111 < (((c - 240) * 64 + vv l 1) * 64 + vv l 2) * 64 + vv l 3 then (65533, 1) else ((((c - 240) * 64 + vv l 1) * 64 + vv l 2) * 64 + vv l 3, 4)) else (65533, 1))
    else (65533, 1) := by
  rw [Lib.decodeL_N, hc]
  exact dec_num _ c _ _ _ (by rw [← hc]; exact UInt8.toNat_lt _) (UInt8.toNat_lt _) (UInt8.toNat_lt _) (UInt8.toNat_lt _)
set_option maxRecDepth 10000 in
theorem more_yes (s : ByteArray) (i k : Nat) (w : World) (hs : s.size ≤ 1000000) (h : ct ((bl s).drop i) k) (j : Int) (hj : j = ((i + k : Nat) : Int)) :
    Calls Tryd.prog 49 #[.string s, .int .i64 j] w fun e w' => e = .returned (.tuple #[.int .i32 (vv ((bl s).drop i) k : Int), .bool true]) ∧ w = w' := by
  subst hj
  have hlen := bl_len s
  obtain ⟨h1, h2, h3⟩ := h
  rw [List.length_drop] at h1
  obtain ⟨b, hb⟩ : ∃ b, (bl s)[i + k]? = some b := ⟨_, List.getElem?_eq_getElem (by omega)⟩
  have hbv : ((bl s).drop i).getD k 0 = b := by rw [List.getD_eq_getElem?_getD, List.getElem?_drop, hb]; rfl
  unfold vv
  rw [hbv] at h2 h3 ⊢
  refine calls_vc Tryd.func49 rfl (by kernel_rfl) ?_
  ((conv => whnf); (repeat ((first | (refine VL.cons ?_) | (refine VL.nil ?_) | (refine VC.seqS rfl ?_) | (refine VC.region ?_) | (refine VC.draw ?_) | (refine VC.cond ?_) | (refine VC.block ?_) | (refine VC.exit ?_) | (refine VC.ret ?_) | (refine VC.skip ?_) | (refine VC.label ?_) | (refine VC.scope ?_) | (refine VQ.cons ?_) | (refine VQ.nil ?_) | (refine VG.nil ?_) | (refine VG.cons ?_)); (conv => whnf))))
  (repeat (first | ((first | (refine VL.cons ?_) | (refine VL.nil ?_) | (refine VC.seqS rfl ?_) | (refine VC.region ?_) | (refine VC.draw ?_) | (refine VC.cond ?_) | (refine VC.block ?_) | (refine VC.exit ?_) | (refine VC.ret ?_) | (refine VC.skip ?_) | (refine VC.label ?_) | (refine VC.scope ?_) | (refine VQ.cons ?_) | (refine VQ.nil ?_) | (refine VG.nil ?_) | (refine VG.cons ?_) | (refine VBool.t ?_) | (refine VBool.f ?_) | (refine VBool.dT (by omega) ?_) | (refine VBool.dF (by omega) ?_) | (refine VBool.nT (by omega) ?_) | (refine VBool.nF (by omega) ?_) | (refine VRead.lenS ?_) | (refine VRead.lenT ?_) | (refine VRead.fld ?_) | (refine VRead.load1 (by assumption) ?_) | (refine VRead.load (by assumption) ?_) | (refine VRead.neB ?_) | (refine VRead.eqPN ?_) | (refine VRead.nePN ?_) | (refine VRead.eqB ?_) | (refine VBool.nT rfl ?_) | (refine VBool.dT rfl ?_) | (refine VWrap.i64 (by omega) (by omega) ?_) | (refine VWrap.u64 (by omega) (by omega) ?_) | (refine VRead.at1 (by omega) ?_) | (refine VSem.convI ?_) | (refine VRead.convI ?_) | (refine VRead.rem (by omega) (by decide) ?_) | (refine VRead.neg ?_) | (refine VC.seq ?_)); (conv => whnf)) | (refine VRead.idxT hb ?_; (conv => whnf)) | (refine VWrap.u8 (by omega) (by omega) ?_; (conv => whnf)) | (refine VWrap.i32' (by omega) (by omega) ?_; (conv => whnf))))
  refine ⟨?_, rfl⟩
  rw [show ((b.toNat - 128 : Nat) : Int) = (b.toNat : Int) - 128 by omega]
  rfl
set_option maxRecDepth 10000 in
theorem more_no (s : ByteArray) (i k : Nat) (w : World) (hs : s.size ≤ 1000000) (h : ¬ ct ((bl s).drop i) k) (j : Int) (hj : j = ((i + k : Nat) : Int)) (hi : i + k ≤ 1000004) :
    Calls Tryd.prog 49 #[.string s, .int .i64 j] w fun e w' => e = .returned (.tuple #[.int .i32 0, .bool false]) ∧ w = w' := by
  subst hj
  have hlen := bl_len s
  refine calls_vc Tryd.func49 rfl (by kernel_rfl) ?_
  by_cases h1 : i + k < s.size
  · obtain ⟨b, hb⟩ : ∃ b, (bl s)[i + k]? = some b := ⟨_, List.getElem?_eq_getElem (by omega)⟩
    have hbv : ((bl s).drop i).getD k 0 = b := by rw [List.getD_eq_getElem?_getD, List.getElem?_drop, hb]; rfl
    unfold ct at h
    rw [hbv, List.length_drop] at h
    by_cases h2 : b.toNat < 128
    · ((conv => whnf); (repeat ((first | (refine VL.cons ?_) | (refine VL.nil ?_) | (refine VC.seqS rfl ?_) | (refine VC.region ?_) | (refine VC.draw ?_) | (refine VC.cond ?_) | (refine VC.block ?_) | (refine VC.exit ?_) | (refine VC.ret ?_) | (refine VC.skip ?_) | (refine VC.label ?_) | (refine VC.scope ?_) | (refine VQ.cons ?_) | (refine VQ.nil ?_) | (refine VG.nil ?_) | (refine VG.cons ?_)); (conv => whnf))))
      (repeat (first | ((first | (refine VL.cons ?_) | (refine VL.nil ?_) | (refine VC.seqS rfl ?_) | (refine VC.region ?_) | (refine VC.draw ?_) | (refine VC.cond ?_) | (refine VC.block ?_) | (refine VC.exit ?_) | (refine VC.ret ?_) | (refine VC.skip ?_) | (refine VC.label ?_) | (refine VC.scope ?_) | (refine VQ.cons ?_) | (refine VQ.nil ?_) | (refine VG.nil ?_) | (refine VG.cons ?_) | (refine VBool.t ?_) | (refine VBool.f ?_) | (refine VBool.dT (by omega) ?_) | (refine VBool.dF (by omega) ?_) | (refine VBool.nT (by omega) ?_) | (refine VBool.nF (by omega) ?_) | (refine VRead.lenS ?_) | (refine VRead.lenT ?_) | (refine VRead.fld ?_) | (refine VRead.load1 (by assumption) ?_) | (refine VRead.load (by assumption) ?_) | (refine VRead.neB ?_) | (refine VRead.eqPN ?_) | (refine VRead.nePN ?_) | (refine VRead.eqB ?_) | (refine VBool.nT rfl ?_) | (refine VBool.dT rfl ?_) | (refine VWrap.i64 (by omega) (by omega) ?_) | (refine VWrap.u64 (by omega) (by omega) ?_) | (refine VRead.at1 (by omega) ?_) | (refine VSem.convI ?_) | (refine VRead.convI ?_) | (refine VRead.rem (by omega) (by decide) ?_) | (refine VRead.neg ?_) | (refine VC.seq ?_)); (conv => whnf)) | (refine VRead.idxT hb ?_; (conv => whnf))))
      exact ⟨rfl, rfl⟩
    · have h3 : 191 < b.toNat := by omega
      ((conv => whnf); (repeat ((first | (refine VL.cons ?_) | (refine VL.nil ?_) | (refine VC.seqS rfl ?_) | (refine VC.region ?_) | (refine VC.draw ?_) | (refine VC.cond ?_) | (refine VC.block ?_) | (refine VC.exit ?_) | (refine VC.ret ?_) | (refine VC.skip ?_) | (refine VC.label ?_) | (refine VC.scope ?_) | (refine VQ.cons ?_) | (refine VQ.nil ?_) | (refine VG.nil ?_) | (refine VG.cons ?_)); (conv => whnf))))
      (repeat (first | ((first | (refine VL.cons ?_) | (refine VL.nil ?_) | (refine VC.seqS rfl ?_) | (refine VC.region ?_) | (refine VC.draw ?_) | (refine VC.cond ?_) | (refine VC.block ?_) | (refine VC.exit ?_) | (refine VC.ret ?_) | (refine VC.skip ?_) | (refine VC.label ?_) | (refine VC.scope ?_) | (refine VQ.cons ?_) | (refine VQ.nil ?_) | (refine VG.nil ?_) | (refine VG.cons ?_) | (refine VBool.t ?_) | (refine VBool.f ?_) | (refine VBool.dT (by omega) ?_) | (refine VBool.dF (by omega) ?_) | (refine VBool.nT (by omega) ?_) | (refine VBool.nF (by omega) ?_) | (refine VRead.lenS ?_) | (refine VRead.lenT ?_) | (refine VRead.fld ?_) | (refine VRead.load1 (by assumption) ?_) | (refine VRead.load (by assumption) ?_) | (refine VRead.neB ?_) | (refine VRead.eqPN ?_) | (refine VRead.nePN ?_) | (refine VRead.eqB ?_) | (refine VBool.nT rfl ?_) | (refine VBool.dT rfl ?_) | (refine VWrap.i64 (by omega) (by omega) ?_) | (refine VWrap.u64 (by omega) (by omega) ?_) | (refine VRead.at1 (by omega) ?_) | (refine VSem.convI ?_) | (refine VRead.convI ?_) | (refine VRead.rem (by omega) (by decide) ?_) | (refine VRead.neg ?_) | (refine VC.seq ?_)); (conv => whnf)) | (refine VRead.idxT hb ?_; (conv => whnf))))
      exact ⟨rfl, rfl⟩
  · ((conv => whnf); (repeat ((first | (refine VL.cons ?_) | (refine VL.nil ?_) | (refine VC.seqS rfl ?_) | (refine VC.region ?_) | (refine VC.draw ?_) | (refine VC.cond ?_) | (refine VC.block ?_) | (refine VC.exit ?_) | (refine VC.ret ?_) | (refine VC.skip ?_) | (refine VC.label ?_) | (refine VC.scope ?_) | (refine VQ.cons ?_) | (refine VQ.nil ?_) | (refine VG.nil ?_) | (refine VG.cons ?_)); (conv => whnf))))
    ((repeat ((first | (refine VL.cons ?_) | (refine VL.nil ?_) | (refine VC.seqS rfl ?_) | (refine VC.region ?_) | (refine VC.draw ?_) | (refine VC.cond ?_) | (refine VC.block ?_) | (refine VC.exit ?_) | (refine VC.ret ?_) | (refine VC.skip ?_) | (refine VC.label ?_) | (refine VC.scope ?_) | (refine VQ.cons ?_) | (refine VQ.nil ?_) | (refine VG.nil ?_) | (refine VG.cons ?_) | (refine VBool.t ?_) | (refine VBool.f ?_) | (refine VBool.dT (by omega) ?_) | (refine VBool.dF (by omega) ?_) | (refine VBool.nT (by omega) ?_) | (refine VBool.nF (by omega) ?_) | (refine VRead.lenS ?_) | (refine VRead.lenT ?_) | (refine VRead.fld ?_) | (refine VRead.load1 (by assumption) ?_) | (refine VRead.load (by assumption) ?_) | (refine VRead.neB ?_) | (refine VRead.eqPN ?_) | (refine VRead.nePN ?_) | (refine VRead.eqB ?_) | (refine VBool.nT rfl ?_) | (refine VBool.dT rfl ?_) | (refine VWrap.i64 (by omega) (by omega) ?_) | (refine VWrap.u64 (by omega) (by omega) ?_) | (refine VRead.at1 (by omega) ?_) | (refine VSem.convI ?_) | (refine VRead.convI ?_) | (refine VRead.rem (by omega) (by decide) ?_) | (refine VRead.neg ?_) | (refine VC.seq ?_)); (conv => whnf))))
    exact ⟨rfl, rfl⟩
end Go.Proofs.YtbfboglcdgeheaaDoor
