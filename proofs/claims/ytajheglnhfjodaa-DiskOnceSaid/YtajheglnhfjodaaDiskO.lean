/- DiskOnce: a full disk is told once, at its call. No condition. -/
import Derived.Test.YtajheglnhfjodaaDiskI
set_option maxRecDepth 10000
namespace Go.Proofs.Ytajheglnhfjodaa
set_option linter.unusedVariables false
open Go.RowKit
open Go.Maps (Keyed)
open Go.ChangeMaps Go.WideElems

/-- the disk of DiskOnce, after i appends of which the n-th finds the disk full -/
def onS (n i : Nat) (b : List UInt8) : DS := ⟨⟨1048576, 1 + i, decide (i ≤ n), 18, if i ≤ n then (n : Int) - i else 0, false⟩, [([97], ⟨b, 0⟩)]⟩
theorem onS_ne {n i : Nat} {b l : List UInt8} (hi : i ≠ n) (hb : b.length + l.length ≤ 1048576) : (onS n i b).append [97] l = (0, onS n (i + 1) (b ++ l)) := by
  have hput : ∀ K : Dk, K.room = 1048576 → DS.put ⟨K, [([97], ⟨b, 0⟩)]⟩ [97] ⟨b, 0⟩ l = (0, ⟨K, [([97], ⟨b ++ l, 0⟩)]⟩) := fun K hK => by
    unfold DS.put
    rw [if_neg (by simp only [hK, used]; omega)]
    rfl
  by_cases hlt : i < n
  · have hc : (onS n i b).k.call = (0, (onS n (i + 1) b).k) := by
      unfold Dk.call onS
      simp only [Bool.false_eq_true, if_false]
      rw [decide_eq_true (by omega : i ≤ n), decide_eq_true (by omega : i + 1 ≤ n), if_pos (by omega : i ≤ n), if_pos (by omega : i + 1 ≤ n)]
      simp only [Bool.not_true, Bool.false_eq_true, if_false]
      rw [if_pos (by omega)]
      simp only [Prod.mk.injEq, Dk.mk.injEq, true_and, and_true]
      omega
    unfold DS.append
    rw [hc, if_neg (by simp), if_neg (by decide)]
    show DS.put ⟨(onS n (i + 1) b).k, [([97], ⟨b, 0⟩)]⟩ [97] ⟨b, 0⟩ l = _
    rw [hput _ rfl]
    rfl
  · have hc : (onS n i b).k.call = (0, (onS n (i + 1) b).k) := by
      unfold Dk.call onS
      simp only [Bool.false_eq_true, if_false]
      rw [decide_eq_false (by omega : ¬ i ≤ n), decide_eq_false (by omega : ¬ i + 1 ≤ n), if_neg (by omega : ¬ i ≤ n), if_neg (by omega : ¬ i + 1 ≤ n)]
      simp only [Bool.not_false, if_true]
      simp only [Prod.mk.injEq, Dk.mk.injEq, true_and, and_true]
      omega
    unfold DS.append
    rw [hc, if_neg (by simp), if_neg (by decide)]
    show DS.put ⟨(onS n (i + 1) b).k, [([97], ⟨b, 0⟩)]⟩ [97] ⟨b, 0⟩ l = _
    rw [hput _ rfl]
    rfl
theorem onS_eq {n : Nat} {b l : List UInt8} (hb : b.length + l.length ≤ 1048576) : (onS n n b).append [97] l = (18, onS n (n + 1) (b ++ l.take (l.length / 2))) := by
  have hc : (onS n n b).k.call = (18, (onS n (n + 1) b).k) := by
    unfold Dk.call onS
    simp only [Bool.false_eq_true, if_false]
    rw [decide_eq_true (by omega : n ≤ n), decide_eq_false (by omega : ¬ n + 1 ≤ n), if_pos (by omega : n ≤ n), if_neg (by omega : ¬ n + 1 ≤ n)]
    simp only [Bool.not_true, Bool.false_eq_true, if_false]
    rw [if_neg (by omega)]
    simp only [Prod.mk.injEq, Dk.mk.injEq, true_and, and_true]
    exact ⟨by omega, by omega, rfl⟩
  have hl : (l.take (l.length / 2)).length ≤ l.length := by rw [List.length_take]; omega
  unfold DS.append
  rw [hc, if_pos (by simp)]
  refine congrArg (Prod.mk 18) ?_
  rw [if_pos (by exact ⟨rfl, by decide⟩)]
  show (DS.put ⟨(onS n (n + 1) b).k, [([97], ⟨b, 0⟩)]⟩ [97] ⟨b, 0⟩ (l.take (l.length / 2))).2 = _
  unfold DS.put
  rw [if_neg (by simp only [used]; show ¬ (1048576 : Int) < _; omega)]
  rfl
theorem on0 : (DS.new 1048576).create [97] = (0, ⟨⟨1048576, 1, false, 0, 0, false⟩, [([97], ⟨[], 0⟩)]⟩) := by rfl
theorem on1 (n : Nat) : DS.arm ⟨⟨1048576, 1, false, 0, 0, false⟩, [([97], ⟨[], 0⟩)]⟩ 18 (n : Int) = (0, onS n 0 []) := by
  unfold DS.arm Dk.arm
  rw [if_neg (by omega)]
  unfold onS
  rw [decide_eq_true (by omega : 0 ≤ n), if_pos (by omega : 0 ≤ n)]
  simp
set_option maxHeartbeats 1000000 in
theorem diskOnce_walk (after : Int) (A : Option Addr) (m c : Nat) (l : List UInt8) (W : World) (ha : -9223372036854775808 ≤ after ∧ after ≤ 9223372036854775807) (hb : InBytes W A m c l) :
    Calls Try.prog 4 #[.int .i64 after, .slice A m c] W fun e W' => e = .returned (.bool true) ∧ Below W.heap.size W W' := by
  have hln := hb.len
  obtain ⟨hr, hmc, hcc⟩ := hb
  refine calls_vc Try.func4 rfl (by kernel_rfl) ?_
  ((conv => whnf); (repeat ((first | (refine VL.cons ?_) | (refine VL.nil ?_) | (refine VC.seqS rfl ?_) | (refine VC.region ?_) | (refine VC.draw ?_) | (refine VC.cond ?_) | (refine VC.block ?_) | (refine VC.exit ?_) | (refine VC.ret ?_) | (refine VC.skip ?_) | (refine VC.label ?_) | (refine VC.scope ?_) | (refine VQ.cons ?_) | (refine VQ.nil ?_) | (refine VG.nil ?_) | (refine VG.cons ?_)); (conv => whnf))))
  ((repeat ((first | (refine VL.cons ?_) | (refine VL.nil ?_) | (refine VC.seqS rfl ?_) | (refine VC.region ?_) | (refine VC.draw ?_) | (refine VC.cond ?_) | (refine VC.block ?_) | (refine VC.exit ?_) | (refine VC.ret ?_) | (refine VC.skip ?_) | (refine VC.label ?_) | (refine VC.scope ?_) | (refine VQ.cons ?_) | (refine VQ.nil ?_) | (refine VG.nil ?_) | (refine VG.cons ?_) | (refine VBool.t ?_) | (refine VBool.f ?_) | (refine VBool.dT (by omega) ?_) | (refine VBool.dF (by omega) ?_) | (refine VBool.nT (by omega) ?_) | (refine VBool.nF (by omega) ?_) | (refine VRead.lenS ?_) | (refine VRead.lenT ?_) | (refine VRead.fld ?_) | (refine VRead.load1 (by assumption) ?_) | (refine VRead.load (by assumption) ?_) | (refine VRead.neB ?_) | (refine VRead.eqPN ?_) | (refine VRead.nePN ?_) | (refine VRead.eqB ?_) | (refine VBool.nT rfl ?_) | (refine VBool.dT rfl ?_) | (refine VWrap.i64 (by omega) (by omega) ?_) | (refine VWrap.u64 (by omega) (by omega) ?_) | (refine VRead.at1 (by omega) ?_) | (refine VRead.eqNN ?_) | (refine VSem.convI ?_) | (refine VRead.convI ?_) | (refine VRead.rem (by omega) (by decide) ?_) | (refine VRead.neg ?_) | (refine VC.seq ?_)); (conv => whnf))))
  refine VCall.of (awake17_any W) ?_
  rintro e W1 ⟨rfl, hB1⟩
  refine ⟨_, rfl, ?_⟩
  by_cases hbig : 500 < m
  · ((conv => whnf); (repeat ((first | (refine VL.cons ?_) | (refine VL.nil ?_) | (refine VC.seqS rfl ?_) | (refine VC.region ?_) | (refine VC.draw ?_) | (refine VC.cond ?_) | (refine VC.block ?_) | (refine VC.exit ?_) | (refine VC.ret ?_) | (refine VC.skip ?_) | (refine VC.label ?_) | (refine VC.scope ?_) | (refine VQ.cons ?_) | (refine VQ.nil ?_) | (refine VG.nil ?_) | (refine VG.cons ?_)); (conv => whnf))))
    ((repeat ((first | (refine VL.cons ?_) | (refine VL.nil ?_) | (refine VC.seqS rfl ?_) | (refine VC.region ?_) | (refine VC.draw ?_) | (refine VC.cond ?_) | (refine VC.block ?_) | (refine VC.exit ?_) | (refine VC.ret ?_) | (refine VC.skip ?_) | (refine VC.label ?_) | (refine VC.scope ?_) | (refine VQ.cons ?_) | (refine VQ.nil ?_) | (refine VG.nil ?_) | (refine VG.cons ?_) | (refine VBool.t ?_) | (refine VBool.f ?_) | (refine VBool.dT (by omega) ?_) | (refine VBool.dF (by omega) ?_) | (refine VBool.nT (by omega) ?_) | (refine VBool.nF (by omega) ?_) | (refine VRead.lenS ?_) | (refine VRead.lenT ?_) | (refine VRead.fld ?_) | (refine VRead.load1 (by assumption) ?_) | (refine VRead.load (by assumption) ?_) | (refine VRead.neB ?_) | (refine VRead.eqPN ?_) | (refine VRead.nePN ?_) | (refine VRead.eqB ?_) | (refine VBool.nT rfl ?_) | (refine VBool.dT rfl ?_) | (refine VWrap.i64 (by omega) (by omega) ?_) | (refine VWrap.u64 (by omega) (by omega) ?_) | (refine VRead.at1 (by omega) ?_) | (refine VRead.eqNN ?_) | (refine VSem.convI ?_) | (refine VRead.convI ?_) | (refine VRead.rem (by omega) (by decide) ?_) | (refine VRead.neg ?_) | (refine VC.seq ?_)); (conv => whnf))))
    refine VCall.of (awake17_any W1) ?_
    rintro e W2 ⟨rfl, hB2⟩
    refine ⟨_, rfl, ?_⟩
    ((conv => whnf); (repeat ((first | (refine VL.cons ?_) | (refine VL.nil ?_) | (refine VC.seqS rfl ?_) | (refine VC.region ?_) | (refine VC.draw ?_) | (refine VC.cond ?_) | (refine VC.block ?_) | (refine VC.exit ?_) | (refine VC.ret ?_) | (refine VC.skip ?_) | (refine VC.label ?_) | (refine VC.scope ?_) | (refine VQ.cons ?_) | (refine VQ.nil ?_) | (refine VG.nil ?_) | (refine VG.cons ?_)); (conv => whnf))))
    ((repeat ((first | (refine VL.cons ?_) | (refine VL.nil ?_) | (refine VC.seqS rfl ?_) | (refine VC.region ?_) | (refine VC.draw ?_) | (refine VC.cond ?_) | (refine VC.block ?_) | (refine VC.exit ?_) | (refine VC.ret ?_) | (refine VC.skip ?_) | (refine VC.label ?_) | (refine VC.scope ?_) | (refine VQ.cons ?_) | (refine VQ.nil ?_) | (refine VG.nil ?_) | (refine VG.cons ?_) | (refine VBool.t ?_) | (refine VBool.f ?_) | (refine VBool.dT (by omega) ?_) | (refine VBool.dF (by omega) ?_) | (refine VBool.nT (by omega) ?_) | (refine VBool.nF (by omega) ?_) | (refine VRead.lenS ?_) | (refine VRead.lenT ?_) | (refine VRead.fld ?_) | (refine VRead.load1 (by assumption) ?_) | (refine VRead.load (by assumption) ?_) | (refine VRead.neB ?_) | (refine VRead.eqPN ?_) | (refine VRead.nePN ?_) | (refine VRead.eqB ?_) | (refine VBool.nT rfl ?_) | (refine VBool.dT rfl ?_) | (refine VWrap.i64 (by omega) (by omega) ?_) | (refine VWrap.u64 (by omega) (by omega) ?_) | (refine VRead.at1 (by omega) ?_) | (refine VRead.eqNN ?_) | (refine VSem.convI ?_) | (refine VRead.convI ?_) | (refine VRead.rem (by omega) (by decide) ?_) | (refine VRead.neg ?_) | (refine VC.seq ?_)); (conv => whnf))))
    exact ⟨rfl, hB1.trans (hB2.mono hB1.size)⟩
  have hU : ∀ {X : World}, W.heap.size ≤ X.heap.size → Up (fun j => W.heap.size ≤ j) X := fun h => Up.from h
  ((conv => whnf); (repeat ((first | (refine VL.cons ?_) | (refine VL.nil ?_) | (refine VC.seqS rfl ?_) | (refine VC.region ?_) | (refine VC.draw ?_) | (refine VC.cond ?_) | (refine VC.block ?_) | (refine VC.exit ?_) | (refine VC.ret ?_) | (refine VC.skip ?_) | (refine VC.label ?_) | (refine VC.scope ?_) | (refine VQ.cons ?_) | (refine VQ.nil ?_) | (refine VG.nil ?_) | (refine VG.cons ?_)); (conv => whnf))))
  ((repeat ((first | (refine VL.cons ?_) | (refine VL.nil ?_) | (refine VC.seqS rfl ?_) | (refine VC.region ?_) | (refine VC.draw ?_) | (refine VC.cond ?_) | (refine VC.block ?_) | (refine VC.exit ?_) | (refine VC.ret ?_) | (refine VC.skip ?_) | (refine VC.label ?_) | (refine VC.scope ?_) | (refine VQ.cons ?_) | (refine VQ.nil ?_) | (refine VG.nil ?_) | (refine VG.cons ?_) | (refine VBool.t ?_) | (refine VBool.f ?_) | (refine VBool.dT (by omega) ?_) | (refine VBool.dF (by omega) ?_) | (refine VBool.nT (by omega) ?_) | (refine VBool.nF (by omega) ?_) | (refine VRead.lenS ?_) | (refine VRead.lenT ?_) | (refine VRead.fld ?_) | (refine VRead.load1 (by assumption) ?_) | (refine VRead.load (by assumption) ?_) | (refine VRead.neB ?_) | (refine VRead.eqPN ?_) | (refine VRead.nePN ?_) | (refine VRead.eqB ?_) | (refine VBool.nT rfl ?_) | (refine VBool.dT rfl ?_) | (refine VWrap.i64 (by omega) (by omega) ?_) | (refine VWrap.u64 (by omega) (by omega) ?_) | (refine VRead.at1 (by omega) ?_) | (refine VRead.eqNN ?_) | (refine VSem.convI ?_) | (refine VRead.convI ?_) | (refine VRead.rem (by omega) (by decide) ?_) | (refine VRead.neg ?_) | (refine VC.seq ?_)); (conv => whnf))))
  refine VCall.of (dNew_any W1 1048576) ?_
  rintro e W2 ⟨d, rfl, h2, hB2⟩
  refine ⟨_, rfl, ?_⟩
  replace h2 := h2.more (V := fun j => W.heap.size ≤ j) (fun j _ h => Nat.le_trans hB1.size h)
  replace hB2 := hB1.trans (hB2.mono hB1.size)
  ((conv => whnf); (repeat ((first | (refine VL.cons ?_) | (refine VL.nil ?_) | (refine VC.seqS rfl ?_) | (refine VC.region ?_) | (refine VC.draw ?_) | (refine VC.cond ?_) | (refine VC.block ?_) | (refine VC.exit ?_) | (refine VC.ret ?_) | (refine VC.skip ?_) | (refine VC.label ?_) | (refine VC.scope ?_) | (refine VQ.cons ?_) | (refine VQ.nil ?_) | (refine VG.nil ?_) | (refine VG.cons ?_)); (conv => whnf))))
  ((repeat ((first | (refine VL.cons ?_) | (refine VL.nil ?_) | (refine VC.seqS rfl ?_) | (refine VC.region ?_) | (refine VC.draw ?_) | (refine VC.cond ?_) | (refine VC.block ?_) | (refine VC.exit ?_) | (refine VC.ret ?_) | (refine VC.skip ?_) | (refine VC.label ?_) | (refine VC.scope ?_) | (refine VQ.cons ?_) | (refine VQ.nil ?_) | (refine VG.nil ?_) | (refine VG.cons ?_) | (refine VBool.t ?_) | (refine VBool.f ?_) | (refine VBool.dT (by omega) ?_) | (refine VBool.dF (by omega) ?_) | (refine VBool.nT (by omega) ?_) | (refine VBool.nF (by omega) ?_) | (refine VRead.lenS ?_) | (refine VRead.lenT ?_) | (refine VRead.fld ?_) | (refine VRead.load1 (by assumption) ?_) | (refine VRead.load (by assumption) ?_) | (refine VRead.neB ?_) | (refine VRead.eqPN ?_) | (refine VRead.nePN ?_) | (refine VRead.eqB ?_) | (refine VBool.nT rfl ?_) | (refine VBool.dT rfl ?_) | (refine VWrap.i64 (by omega) (by omega) ?_) | (refine VWrap.u64 (by omega) (by omega) ?_) | (refine VRead.at1 (by omega) ?_) | (refine VRead.eqNN ?_) | (refine VSem.convI ?_) | (refine VRead.convI ?_) | (refine VRead.rem (by omega) (by decide) ?_) | (refine VRead.neg ?_) | (refine VC.seq ?_)); (conv => whnf))))
  refine VCall.of (place_any after 5 W2 ha (by decide) (by decide)) ?_
  rintro e _ ⟨rfl, rfl⟩
  refine ⟨_, rfl, ?_⟩
  have ha5 := Int.emod_lt_of_pos after (show (0 : Int) < 5 by decide)
  obtain ⟨n, hn⟩ := Int.eq_ofNat_of_zero_le (Int.emod_nonneg after (show (5 : Int) ≠ 0 by decide))
  rw [hn] at ha5 ⊢
  ((conv => whnf); (repeat ((first | (refine VL.cons ?_) | (refine VL.nil ?_) | (refine VC.seqS rfl ?_) | (refine VC.region ?_) | (refine VC.draw ?_) | (refine VC.cond ?_) | (refine VC.block ?_) | (refine VC.exit ?_) | (refine VC.ret ?_) | (refine VC.skip ?_) | (refine VC.label ?_) | (refine VC.scope ?_) | (refine VQ.cons ?_) | (refine VQ.nil ?_) | (refine VG.nil ?_) | (refine VG.cons ?_)); (conv => whnf))))
  ((repeat ((first | (refine VL.cons ?_) | (refine VL.nil ?_) | (refine VC.seqS rfl ?_) | (refine VC.region ?_) | (refine VC.draw ?_) | (refine VC.cond ?_) | (refine VC.block ?_) | (refine VC.exit ?_) | (refine VC.ret ?_) | (refine VC.skip ?_) | (refine VC.label ?_) | (refine VC.scope ?_) | (refine VQ.cons ?_) | (refine VQ.nil ?_) | (refine VG.nil ?_) | (refine VG.cons ?_) | (refine VBool.t ?_) | (refine VBool.f ?_) | (refine VBool.dT (by omega) ?_) | (refine VBool.dF (by omega) ?_) | (refine VBool.nT (by omega) ?_) | (refine VBool.nF (by omega) ?_) | (refine VRead.lenS ?_) | (refine VRead.lenT ?_) | (refine VRead.fld ?_) | (refine VRead.load1 (by assumption) ?_) | (refine VRead.load (by assumption) ?_) | (refine VRead.neB ?_) | (refine VRead.eqPN ?_) | (refine VRead.nePN ?_) | (refine VRead.eqB ?_) | (refine VBool.nT rfl ?_) | (refine VBool.dT rfl ?_) | (refine VWrap.i64 (by omega) (by omega) ?_) | (refine VWrap.u64 (by omega) (by omega) ?_) | (refine VRead.at1 (by omega) ?_) | (refine VRead.eqNN ?_) | (refine VSem.convI ?_) | (refine VRead.convI ?_) | (refine VRead.rem (by omega) (by decide) ?_) | (refine VRead.neg ?_) | (refine VC.seq ?_)); (conv => whnf))))
  refine VCall.of (dCreate_any _ _ d _ [97] h2 (by decide) (by decide) (hU hB2.size)) ?_
  rw [on0]
  rintro e W3 ⟨rfl, h3, hO3⟩
  refine ⟨_, rfl, ?_⟩
  have hB3 := hB2.trans (hO3.from hB2.size)
  ((conv => whnf); (repeat ((first | (refine VL.cons ?_) | (refine VL.nil ?_) | (refine VC.seqS rfl ?_) | (refine VC.region ?_) | (refine VC.draw ?_) | (refine VC.cond ?_) | (refine VC.block ?_) | (refine VC.exit ?_) | (refine VC.ret ?_) | (refine VC.skip ?_) | (refine VC.label ?_) | (refine VC.scope ?_) | (refine VQ.cons ?_) | (refine VQ.nil ?_) | (refine VG.nil ?_) | (refine VG.cons ?_)); (conv => whnf))))
  ((repeat ((first | (refine VL.cons ?_) | (refine VL.nil ?_) | (refine VC.seqS rfl ?_) | (refine VC.region ?_) | (refine VC.draw ?_) | (refine VC.cond ?_) | (refine VC.block ?_) | (refine VC.exit ?_) | (refine VC.ret ?_) | (refine VC.skip ?_) | (refine VC.label ?_) | (refine VC.scope ?_) | (refine VQ.cons ?_) | (refine VQ.nil ?_) | (refine VG.nil ?_) | (refine VG.cons ?_) | (refine VBool.t ?_) | (refine VBool.f ?_) | (refine VBool.dT (by omega) ?_) | (refine VBool.dF (by omega) ?_) | (refine VBool.nT (by omega) ?_) | (refine VBool.nF (by omega) ?_) | (refine VRead.lenS ?_) | (refine VRead.lenT ?_) | (refine VRead.fld ?_) | (refine VRead.load1 (by assumption) ?_) | (refine VRead.load (by assumption) ?_) | (refine VRead.neB ?_) | (refine VRead.eqPN ?_) | (refine VRead.nePN ?_) | (refine VRead.eqB ?_) | (refine VBool.nT rfl ?_) | (refine VBool.dT rfl ?_) | (refine VWrap.i64 (by omega) (by omega) ?_) | (refine VWrap.u64 (by omega) (by omega) ?_) | (refine VRead.at1 (by omega) ?_) | (refine VRead.eqNN ?_) | (refine VSem.convI ?_) | (refine VRead.convI ?_) | (refine VRead.rem (by omega) (by decide) ?_) | (refine VRead.neg ?_) | (refine VC.seq ?_)); (conv => whnf))))
  refine VCall.of (dArm_any _ _ d _ 18 n h3 (by omega)) ?_
  rw [on1]
  rintro e W4 ⟨rfl, h4, hO4⟩
  refine ⟨_, rfl, ?_⟩
  have hB4 := hB3.trans (hO4.from hB3.size)
  ((conv => whnf); (repeat ((first | (refine VL.cons ?_) | (refine VL.nil ?_) | (refine VC.seqS rfl ?_) | (refine VC.region ?_) | (refine VC.draw ?_) | (refine VC.cond ?_) | (refine VC.block ?_) | (refine VC.exit ?_) | (refine VC.ret ?_) | (refine VC.skip ?_) | (refine VC.label ?_) | (refine VC.scope ?_) | (refine VQ.cons ?_) | (refine VQ.nil ?_) | (refine VG.nil ?_) | (refine VG.cons ?_)); (conv => whnf))))
  ((repeat ((first | (refine VL.cons ?_) | (refine VL.nil ?_) | (refine VC.seqS rfl ?_) | (refine VC.region ?_) | (refine VC.draw ?_) | (refine VC.cond ?_) | (refine VC.block ?_) | (refine VC.exit ?_) | (refine VC.ret ?_) | (refine VC.skip ?_) | (refine VC.label ?_) | (refine VC.scope ?_) | (refine VQ.cons ?_) | (refine VQ.nil ?_) | (refine VG.nil ?_) | (refine VG.cons ?_) | (refine VBool.t ?_) | (refine VBool.f ?_) | (refine VBool.dT (by omega) ?_) | (refine VBool.dF (by omega) ?_) | (refine VBool.nT (by omega) ?_) | (refine VBool.nF (by omega) ?_) | (refine VRead.lenS ?_) | (refine VRead.lenT ?_) | (refine VRead.fld ?_) | (refine VRead.load1 (by assumption) ?_) | (refine VRead.load (by assumption) ?_) | (refine VRead.neB ?_) | (refine VRead.eqPN ?_) | (refine VRead.nePN ?_) | (refine VRead.eqB ?_) | (refine VBool.nT rfl ?_) | (refine VBool.dT rfl ?_) | (refine VWrap.i64 (by omega) (by omega) ?_) | (refine VWrap.u64 (by omega) (by omega) ?_) | (refine VRead.at1 (by omega) ?_) | (refine VRead.eqNN ?_) | (refine VSem.convI ?_) | (refine VRead.convI ?_) | (refine VRead.rem (by omega) (by decide) ?_) | (refine VRead.neg ?_) | (refine VC.seq ?_)); (conv => whnf))))
  refine VC.loop [7, 8] [(4, 4), (7, 9), (30, 53)] (fun q vs w => ∃ (i : Nat) (b : List UInt8), vs = [.int .i64 (b.length : Int), .int .i64 (i : Int)] ∧ q = 7 - i ∧ i ≤ 7 ∧ Disk w (fun j => W.heap.size ≤ j) d (onS n i b) ∧ b.length ≤ 500 * i ∧ Below W.heap.size W w) (by kernel_rfl)
    ⟨_, 0, [], rfl, rfl, by omega, h4, by simp, hB4⟩ ?_
  rintro q τ vs w ⟨i, b, rfl, rfl, hi, hD, hbl, hBw⟩
  by_cases hlt : i < 7
  · ((conv => whnf); (repeat ((first | (refine VL.cons ?_) | (refine VL.nil ?_) | (refine VC.seqS rfl ?_) | (refine VC.region ?_) | (refine VC.draw ?_) | (refine VC.cond ?_) | (refine VC.block ?_) | (refine VC.exit ?_) | (refine VC.ret ?_) | (refine VC.skip ?_) | (refine VC.label ?_) | (refine VC.scope ?_) | (refine VQ.cons ?_) | (refine VQ.nil ?_) | (refine VG.nil ?_) | (refine VG.cons ?_)); (conv => whnf))))
    ((repeat ((first | (refine VL.cons ?_) | (refine VL.nil ?_) | (refine VC.seqS rfl ?_) | (refine VC.region ?_) | (refine VC.draw ?_) | (refine VC.cond ?_) | (refine VC.block ?_) | (refine VC.exit ?_) | (refine VC.ret ?_) | (refine VC.skip ?_) | (refine VC.label ?_) | (refine VC.scope ?_) | (refine VQ.cons ?_) | (refine VQ.nil ?_) | (refine VG.nil ?_) | (refine VG.cons ?_) | (refine VBool.t ?_) | (refine VBool.f ?_) | (refine VBool.dT (by omega) ?_) | (refine VBool.dF (by omega) ?_) | (refine VBool.nT (by omega) ?_) | (refine VBool.nF (by omega) ?_) | (refine VRead.lenS ?_) | (refine VRead.lenT ?_) | (refine VRead.fld ?_) | (refine VRead.load1 (by assumption) ?_) | (refine VRead.load (by assumption) ?_) | (refine VRead.neB ?_) | (refine VRead.eqPN ?_) | (refine VRead.nePN ?_) | (refine VRead.eqB ?_) | (refine VBool.nT rfl ?_) | (refine VBool.dT rfl ?_) | (refine VWrap.i64 (by omega) (by omega) ?_) | (refine VWrap.u64 (by omega) (by omega) ?_) | (refine VRead.at1 (by omega) ?_) | (refine VRead.eqNN ?_) | (refine VSem.convI ?_) | (refine VRead.convI ?_) | (refine VRead.rem (by omega) (by decide) ?_) | (refine VRead.neg ?_) | (refine VC.seq ?_)); (conv => whnf))))
    refine VCall.of (bytes_any A m c _ l w (by omega) ((hr.below hBw).more hBw.size)) ?_
    rintro e w1 ⟨A1, c1, rfl, hO1, hb1⟩
    refine ⟨_, rfl, ?_⟩
    have hD1 := hD.below hb1 (Nat.le_refl _)
    have hBw1 := hBw.trans (hb1.mono hBw.size)
    ((conv => whnf); (repeat ((first | (refine VL.cons ?_) | (refine VL.nil ?_) | (refine VC.seqS rfl ?_) | (refine VC.region ?_) | (refine VC.draw ?_) | (refine VC.cond ?_) | (refine VC.block ?_) | (refine VC.exit ?_) | (refine VC.ret ?_) | (refine VC.skip ?_) | (refine VC.label ?_) | (refine VC.scope ?_) | (refine VQ.cons ?_) | (refine VQ.nil ?_) | (refine VG.nil ?_) | (refine VG.cons ?_)); (conv => whnf))))
    ((repeat ((first | (refine VL.cons ?_) | (refine VL.nil ?_) | (refine VC.seqS rfl ?_) | (refine VC.region ?_) | (refine VC.draw ?_) | (refine VC.cond ?_) | (refine VC.block ?_) | (refine VC.exit ?_) | (refine VC.ret ?_) | (refine VC.skip ?_) | (refine VC.label ?_) | (refine VC.scope ?_) | (refine VQ.cons ?_) | (refine VQ.nil ?_) | (refine VG.nil ?_) | (refine VG.cons ?_) | (refine VBool.t ?_) | (refine VBool.f ?_) | (refine VBool.dT (by omega) ?_) | (refine VBool.dF (by omega) ?_) | (refine VBool.nT (by omega) ?_) | (refine VBool.nF (by omega) ?_) | (refine VRead.lenS ?_) | (refine VRead.lenT ?_) | (refine VRead.fld ?_) | (refine VRead.load1 (by assumption) ?_) | (refine VRead.load (by assumption) ?_) | (refine VRead.neB ?_) | (refine VRead.eqPN ?_) | (refine VRead.nePN ?_) | (refine VRead.eqB ?_) | (refine VBool.nT rfl ?_) | (refine VBool.dT rfl ?_) | (refine VWrap.i64 (by omega) (by omega) ?_) | (refine VWrap.u64 (by omega) (by omega) ?_) | (refine VRead.at1 (by omega) ?_) | (refine VRead.eqNN ?_) | (refine VSem.convI ?_) | (refine VRead.convI ?_) | (refine VRead.rem (by omega) (by decide) ?_) | (refine VRead.neg ?_) | (refine VC.seq ?_)); (conv => whnf))))
    refine VCall.of (dAppend_any w1 _ d _ [97] m c1 A1 l hD1 ?_ (by decide) (Src.of_own hO1) (by omega) hO1.cap (hU hBw1.size)) ?_
    · show (1 : Int) + i < 1000000
      omega
    rintro e w2 ⟨rfl, hD2, hO2⟩
    refine ⟨_, rfl, ?_⟩
    have hBw2 := hBw1.trans (hO2.from hBw1.size)
    by_cases hin : i = n
    · subst hin
      rw [onS_eq (by omega)] at hD2 ⊢
      have hlen : (b ++ l.take (l.length / 2)).length = b.length + m / 2 := by rw [List.length_append, List.length_take]; omega
      ((conv => whnf); (repeat ((first | (refine VL.cons ?_) | (refine VL.nil ?_) | (refine VC.seqS rfl ?_) | (refine VC.region ?_) | (refine VC.draw ?_) | (refine VC.cond ?_) | (refine VC.block ?_) | (refine VC.exit ?_) | (refine VC.ret ?_) | (refine VC.skip ?_) | (refine VC.label ?_) | (refine VC.scope ?_) | (refine VQ.cons ?_) | (refine VQ.nil ?_) | (refine VG.nil ?_) | (refine VG.cons ?_)); (conv => whnf))))
      (repeat (first | ((first | (refine VL.cons ?_) | (refine VL.nil ?_) | (refine VC.seqS rfl ?_) | (refine VC.region ?_) | (refine VC.draw ?_) | (refine VC.cond ?_) | (refine VC.block ?_) | (refine VC.exit ?_) | (refine VC.ret ?_) | (refine VC.skip ?_) | (refine VC.label ?_) | (refine VC.scope ?_) | (refine VQ.cons ?_) | (refine VQ.nil ?_) | (refine VG.nil ?_) | (refine VG.cons ?_) | (refine VBool.t ?_) | (refine VBool.f ?_) | (refine VBool.dT (by omega) ?_) | (refine VBool.dF (by omega) ?_) | (refine VBool.nT (by omega) ?_) | (refine VBool.nF (by omega) ?_) | (refine VRead.lenS ?_) | (refine VRead.lenT ?_) | (refine VRead.fld ?_) | (refine VRead.load1 (by assumption) ?_) | (refine VRead.load (by assumption) ?_) | (refine VRead.neB ?_) | (refine VRead.eqPN ?_) | (refine VRead.nePN ?_) | (refine VRead.eqB ?_) | (refine VBool.nT rfl ?_) | (refine VBool.dT rfl ?_) | (refine VWrap.i64 (by omega) (by omega) ?_) | (refine VWrap.u64 (by omega) (by omega) ?_) | (refine VRead.at1 (by omega) ?_) | (refine VRead.eqNN ?_) | (refine VSem.convI ?_) | (refine VRead.convI ?_) | (refine VRead.rem (by omega) (by decide) ?_) | (refine VRead.neg ?_) | (refine VC.seq ?_)); (conv => whnf)) | (refine VRead.quo64 (by omega) (by omega) (by omega) ?_; (conv => whnf))))
      exact ⟨_, by omega, i + 1, _, by rw [hlen]; rfl, rfl, by omega, hD2, by omega, hBw2⟩
    · rw [onS_ne hin (by omega)] at hD2 ⊢
      have hlen : (b ++ l).length = b.length + m := by rw [List.length_append]; omega
      ((conv => whnf); (repeat ((first | (refine VL.cons ?_) | (refine VL.nil ?_) | (refine VC.seqS rfl ?_) | (refine VC.region ?_) | (refine VC.draw ?_) | (refine VC.cond ?_) | (refine VC.block ?_) | (refine VC.exit ?_) | (refine VC.ret ?_) | (refine VC.skip ?_) | (refine VC.label ?_) | (refine VC.scope ?_) | (refine VQ.cons ?_) | (refine VQ.nil ?_) | (refine VG.nil ?_) | (refine VG.cons ?_)); (conv => whnf))))
      ((repeat ((first | (refine VL.cons ?_) | (refine VL.nil ?_) | (refine VC.seqS rfl ?_) | (refine VC.region ?_) | (refine VC.draw ?_) | (refine VC.cond ?_) | (refine VC.block ?_) | (refine VC.exit ?_) | (refine VC.ret ?_) | (refine VC.skip ?_) | (refine VC.label ?_) | (refine VC.scope ?_) | (refine VQ.cons ?_) | (refine VQ.nil ?_) | (refine VG.nil ?_) | (refine VG.cons ?_) | (refine VBool.t ?_) | (refine VBool.f ?_) | (refine VBool.dT (by omega) ?_) | (refine VBool.dF (by omega) ?_) | (refine VBool.nT (by omega) ?_) | (refine VBool.nF (by omega) ?_) | (refine VRead.lenS ?_) | (refine VRead.lenT ?_) | (refine VRead.fld ?_) | (refine VRead.load1 (by assumption) ?_) | (refine VRead.load (by assumption) ?_) | (refine VRead.neB ?_) | (refine VRead.eqPN ?_) | (refine VRead.nePN ?_) | (refine VRead.eqB ?_) | (refine VBool.nT rfl ?_) | (refine VBool.dT rfl ?_) | (refine VWrap.i64 (by omega) (by omega) ?_) | (refine VWrap.u64 (by omega) (by omega) ?_) | (refine VRead.at1 (by omega) ?_) | (refine VRead.eqNN ?_) | (refine VSem.convI ?_) | (refine VRead.convI ?_) | (refine VRead.rem (by omega) (by decide) ?_) | (refine VRead.neg ?_) | (refine VC.seq ?_)); (conv => whnf))))
      exact ⟨_, by omega, i + 1, _, by rw [hlen]; rfl, rfl, by omega, hD2, by omega, hBw2⟩
  · obtain rfl : i = 7 := by omega
    ((conv => whnf); (repeat ((first | (refine VL.cons ?_) | (refine VL.nil ?_) | (refine VC.seqS rfl ?_) | (refine VC.region ?_) | (refine VC.draw ?_) | (refine VC.cond ?_) | (refine VC.block ?_) | (refine VC.exit ?_) | (refine VC.ret ?_) | (refine VC.skip ?_) | (refine VC.label ?_) | (refine VC.scope ?_) | (refine VQ.cons ?_) | (refine VQ.nil ?_) | (refine VG.nil ?_) | (refine VG.cons ?_)); (conv => whnf))))
    ((repeat ((first | (refine VL.cons ?_) | (refine VL.nil ?_) | (refine VC.seqS rfl ?_) | (refine VC.region ?_) | (refine VC.draw ?_) | (refine VC.cond ?_) | (refine VC.block ?_) | (refine VC.exit ?_) | (refine VC.ret ?_) | (refine VC.skip ?_) | (refine VC.label ?_) | (refine VC.scope ?_) | (refine VQ.cons ?_) | (refine VQ.nil ?_) | (refine VG.nil ?_) | (refine VG.cons ?_) | (refine VBool.t ?_) | (refine VBool.f ?_) | (refine VBool.dT (by omega) ?_) | (refine VBool.dF (by omega) ?_) | (refine VBool.nT (by omega) ?_) | (refine VBool.nF (by omega) ?_) | (refine VRead.lenS ?_) | (refine VRead.lenT ?_) | (refine VRead.fld ?_) | (refine VRead.load1 (by assumption) ?_) | (refine VRead.load (by assumption) ?_) | (refine VRead.neB ?_) | (refine VRead.eqPN ?_) | (refine VRead.nePN ?_) | (refine VRead.eqB ?_) | (refine VBool.nT rfl ?_) | (refine VBool.dT rfl ?_) | (refine VWrap.i64 (by omega) (by omega) ?_) | (refine VWrap.u64 (by omega) (by omega) ?_) | (refine VRead.at1 (by omega) ?_) | (refine VRead.eqNN ?_) | (refine VSem.convI ?_) | (refine VRead.convI ?_) | (refine VRead.rem (by omega) (by decide) ?_) | (refine VRead.neg ?_) | (refine VC.seq ?_)); (conv => whnf))))
    refine VCall.of (dUsed_any w _ d _ hD) ?_
    rintro e w1 ⟨rfl, hb1⟩
    refine ⟨_, rfl, ?_⟩
    have hD1 := hD.below hb1 (Nat.le_refl _)
    ((conv => whnf); (repeat ((first | (refine VL.cons ?_) | (refine VL.nil ?_) | (refine VC.seqS rfl ?_) | (refine VC.region ?_) | (refine VC.draw ?_) | (refine VC.cond ?_) | (refine VC.block ?_) | (refine VC.exit ?_) | (refine VC.ret ?_) | (refine VC.skip ?_) | (refine VC.label ?_) | (refine VC.scope ?_) | (refine VQ.cons ?_) | (refine VQ.nil ?_) | (refine VG.nil ?_) | (refine VG.cons ?_)); (conv => whnf))))
    ((repeat ((first | (refine VL.cons ?_) | (refine VL.nil ?_) | (refine VC.seqS rfl ?_) | (refine VC.region ?_) | (refine VC.draw ?_) | (refine VC.cond ?_) | (refine VC.block ?_) | (refine VC.exit ?_) | (refine VC.ret ?_) | (refine VC.skip ?_) | (refine VC.label ?_) | (refine VC.scope ?_) | (refine VQ.cons ?_) | (refine VQ.nil ?_) | (refine VG.nil ?_) | (refine VG.cons ?_) | (refine VBool.t ?_) | (refine VBool.f ?_) | (refine VBool.dT (by omega) ?_) | (refine VBool.dF (by omega) ?_) | (refine VBool.nT (by omega) ?_) | (refine VBool.nF (by omega) ?_) | (refine VRead.lenS ?_) | (refine VRead.lenT ?_) | (refine VRead.fld ?_) | (refine VRead.load1 (by assumption) ?_) | (refine VRead.load (by assumption) ?_) | (refine VRead.neB ?_) | (refine VRead.eqPN ?_) | (refine VRead.nePN ?_) | (refine VRead.eqB ?_) | (refine VBool.nT rfl ?_) | (refine VBool.dT rfl ?_) | (refine VWrap.i64 (by omega) (by omega) ?_) | (refine VWrap.u64 (by omega) (by omega) ?_) | (refine VRead.at1 (by omega) ?_) | (refine VRead.eqNN ?_) | (refine VSem.convI ?_) | (refine VRead.convI ?_) | (refine VRead.rem (by omega) (by decide) ?_) | (refine VRead.neg ?_) | (refine VC.seq ?_)); (conv => whnf))))
    refine VCall.of (dCalls_any w1 _ d _ hD1) ?_
    rintro e w2 ⟨rfl, rfl⟩
    refine ⟨_, rfl, ?_⟩
    ((conv => whnf); (repeat ((first | (refine VL.cons ?_) | (refine VL.nil ?_) | (refine VC.seqS rfl ?_) | (refine VC.region ?_) | (refine VC.draw ?_) | (refine VC.cond ?_) | (refine VC.block ?_) | (refine VC.exit ?_) | (refine VC.ret ?_) | (refine VC.skip ?_) | (refine VC.label ?_) | (refine VC.scope ?_) | (refine VQ.cons ?_) | (refine VQ.nil ?_) | (refine VG.nil ?_) | (refine VG.cons ?_)); (conv => whnf))))
    ((repeat ((first | (refine VL.cons ?_) | (refine VL.nil ?_) | (refine VC.seqS rfl ?_) | (refine VC.region ?_) | (refine VC.draw ?_) | (refine VC.cond ?_) | (refine VC.block ?_) | (refine VC.exit ?_) | (refine VC.ret ?_) | (refine VC.skip ?_) | (refine VC.label ?_) | (refine VC.scope ?_) | (refine VQ.cons ?_) | (refine VQ.nil ?_) | (refine VG.nil ?_) | (refine VG.cons ?_) | (refine VBool.t ?_) | (refine VBool.f ?_) | (refine VBool.dT (by omega) ?_) | (refine VBool.dF (by omega) ?_) | (refine VBool.nT (by omega) ?_) | (refine VBool.nF (by omega) ?_) | (refine VRead.lenS ?_) | (refine VRead.lenT ?_) | (refine VRead.fld ?_) | (refine VRead.load1 (by assumption) ?_) | (refine VRead.load (by assumption) ?_) | (refine VRead.neB ?_) | (refine VRead.eqPN ?_) | (refine VRead.nePN ?_) | (refine VRead.eqB ?_) | (refine VBool.nT rfl ?_) | (refine VBool.dT rfl ?_) | (refine VWrap.i64 (by omega) (by omega) ?_) | (refine VWrap.u64 (by omega) (by omega) ?_) | (refine VRead.at1 (by omega) ?_) | (refine VRead.eqNN ?_) | (refine VSem.convI ?_) | (refine VRead.convI ?_) | (refine VRead.rem (by omega) (by decide) ?_) | (refine VRead.neg ?_) | (refine VC.seq ?_)); (conv => whnf))))
    exact ⟨rfl, hBw.trans (hb1.mono hBw.size)⟩
end Go.Proofs.Ytajheglnhfjodaa
