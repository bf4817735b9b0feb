/- The walk of SumThree. No condition. -/
import Derived.Test.YtpaibalemjkkcaaSumFns
import Derived.Test.YtpaibalemjkkcaaReg
import Derived.Deep.DeepCutAuto
namespace Go.Proofs.Ytpaibalemjkkcaa
set_option linter.unusedVariables false
open Go.RowKit

set_option maxHeartbeats 800000 in
theorem sumThree_walk (A0 : Option Addr) (n0 c0 : Nat) (l0 : List UInt8) (A1 : Option Addr) (n1 c1 : Nat) (l1 : List UInt8) (A2 : Option Addr) (n2 c2 : Nat) (l2 : List UInt8) (w : World)
    (hb0 : InBytes w A0 n0 c0 l0) (hb1 : InBytes w A1 n1 c1 l1) (hb2 : InBytes w A2 n2 c2 l2) :
    Calls Try.prog 6 #[.slice A0 n0 c0, .slice A1 n1 c1, .slice A2 n2 c2] w fun e w' => e = .returned (.bool true) ∧ Below w.heap.size w w' := by
  have hl0 := Lib.hid hb0.len
  have hl1 := Lib.hid hb1.len
  have hl2 := Lib.hid hb2.len
  obtain ⟨r0, hc0, hd0⟩ := hb0
  obtain ⟨r1, hc1, hd1⟩ := hb1
  obtain ⟨r2, hc2, hd2⟩ := hb2
  go_enter Try.func6, Try.ntmps6
  go_upto_region 1 with fail
  go_cut [7] (fun s7 wx => wx = w ∧ ∃ N : Nat, s7 = .int .i64 (N : Int) ∧ N ≤ n0 ∧ N ≤ n1 ∧ N ≤ n2)
  case first =>
    go_wp2
    all_goals go_meet
    · exact ⟨rfl, n2, rfl, by omega, by omega, by omega⟩
    · exact ⟨rfl, n1, rfl, by omega, by omega, by omega⟩
    · exact ⟨rfl, n0, rfl, by omega, by omega, by omega⟩
  case rest =>
    obtain ⟨rfl, N, rfl, h0, h1, h2⟩ := hcut
    have hmk := fun w => run_make_b w N (by omega)
    have HO := Own.made wc N (by omega)
    have hB : Below wc.heap.size wc (wc.alloc (.cells (zeros N) 5)) := (Below.refl _ _).alloc (Nat.le_refl _) _
    generalize hW : wc.alloc (.cells (zeros N) 5) = W0 at HO hB
    go_wp2
    clear hmk hW
    go_loopw [9] (fun i wr => ∃ (k : Nat) (L : List UInt8), k ≤ N ∧ i = .int .i64 (k : Int) ∧ Own wr wc.heap.size (.slice (some ⟨wc.heap.size, 0, none⟩) N N) N L ∧
        Hid (L.take k = (List.zipWith (· ^^^ ·) (List.zipWith (· ^^^ ·) l0 l1) l2).take k) ∧ Below wc.heap.size wc wr) (fun i _ => N - (intOf i).toNat)
    case atStart => exact ⟨0, _, by omega, rfl, HO, rfl, hB⟩
    case round =>
      obtain ⟨k, L, hk, rfl, hO, HL, hbr⟩ := hrel
      clear HO hB
      by_cases hlt : k < N
      · obtain ⟨ad0, u0, rfl, _, hx0, hcc0⟩ := (r0.below hbr).at_ (show k < n0 by omega)
        obtain ⟨ad1, u1, rfl, _, hx1, hcc1⟩ := (r1.below hbr).at_ (show k < n1 by omega)
        obtain ⟨ad2, u2, rfl, _, hx2, hcc2⟩ := (r2.below hbr).at_ (show k < n2 by omega)
        obtain ⟨x0, hx0', rfl⟩ := bv_at hx0
        obtain ⟨x1, hx1', rfl⟩ := bv_at hx1
        obtain ⟨x2, hx2', rfl⟩ := bv_at hx2
        have e1 := u8x x0 x1
        have e2 := u8x3 x0 x1 x2
        have hLk : k < L.length := by have := hO.len; omega
        obtain ⟨hcg, hfg⟩ := hO.at_ (List.getElem?_eq_getElem hLk)
        clear hx0 hx1 hx2
        have HX0 := Lib.hid hx0'
        have HX1 := Lib.hid hx1'
        have HX2 := Lib.hid hx2'
        clear hx0' hx1' hx2'
        go_wp2
        go_region
        go_wp2
        have hfin : Own (wr.setCell ⟨wc.heap.size, k, none⟩ (.int .u8 ((x0.toNat ^^^ x1.toNat ^^^ x2.toNat : Nat) : Int))) wc.heap.size (.slice (some ⟨wc.heap.size, 0, none⟩) N N) N (L.set k (x0 ^^^ x1 ^^^ x2)) := by
          have := hO.set k (x0 ^^^ x1 ^^^ x2)
          rwa [UInt8.toNat_xor, UInt8.toNat_xor] at this
        go_roundw
        case rel =>
          refine ⟨k + 1, _, by omega, by go_num, hfin.drew, ?_, (hbr.setCell (by simp) _).drew⟩
          show _ = _
          rw [take_snoc (x := x0 ^^^ x1 ^^^ x2) (by simp [hLk]), take_snoc (x := x0 ^^^ x1 ^^^ x2) (by rw [List.getElem?_zipWith, List.getElem?_zipWith, HX0.out, HX1.out, HX2.out]), ← HL.out,
            List.take_set_of_le (Nat.le_refl _)]
        case measure => simp [intOf]; omega
      · have hkN : k = N := by omega
        subst hkN
        have hLl := hO.len
        have hLe : L.take k = L := List.take_of_length_le (by omega)
        rw [hLe] at HL
        clear hLe
        have ht : Crc.more 0 (l0.take k) ^^^ Crc.more 0 (l1.take k) ^^^ Crc.more 0 (l2.take k) = Crc.more 0 L := by
          have a0 := hl0.out
          have a1 := hl1.out
          have a2 := hl2.out
          rw [Crc.more_three _ _ _ (by simp; omega) (by simp; omega), HL.out]
          simp [List.take_zipWith]
        have g0 := Crc.more_lt (s := 0) (by omega) (l0.take k)
        have g1 := Crc.more_lt (s := 0) (by omega) (l1.take k)
        have g2 := Crc.more_lt (s := 0) (by omega) (l2.take k)
        have e1 := u32_xor_nat _ _ g0 g1
        have e2 := u32_xor_nat _ _ (Crc.xor_lt g0 g1) g2
        rw [ht] at e2
        clear ht hLl g0 g1 g2
        have s0 := fun w => slice_hi w A0 n0 c0 k (by omega)
        have s1 := fun w => slice_hi w A1 n1 c1 k (by omega)
        have s2 := fun w => slice_hi w A2 n2 c2 k (by omega)
        have q0 := (r0.take (k := k) (by omega)).below hbr
        have q1 := (r1.take (k := k) (by omega)).below hbr
        have q2 := (r2.take (k := k) (by omega)).below hbr
        have q3 := hO.reads
        go_wp2_with fail
        refine region_tail 18 (by kernel_rfl) (by kernel_rfl) (fun W hW => ?_)
        simp only [List.take_succ_cons, List.take_zero, List.drop_succ_cons, List.drop_zero]
        iterate 3 still_step
        still_call (still (of_any _ _ _ _ _ W (by unfold maxLen; omega) (q0.below (hW.mono hbr.size))))
        iterate 3 still_step
        still_call (still (of_any _ _ _ _ _ W (by unfold maxLen; omega) (q1.below (hW.mono hbr.size))))
        iterate 4 still_step
        still_call (still (of_any _ _ _ _ _ W (by unfold maxLen; omega) (q2.below (hW.mono hbr.size))))
        iterate 2 still_step
        still_call (still (of_any _ _ _ _ _ W (by unfold maxLen; omega) (q3.below hW)))
        iterate 2 still_step
        refine wpStill_nil ?_
        go_wp2_with fail
        refine (awake2_any _).mono ?_
        rintro e w2 ⟨rfl, hb2⟩
        go_wp2
        go_ret
        exact ⟨rfl, hbr.trans ((hW.mono hbr.size).trans (hb2.mono (Nat.le_trans hbr.size hW.size)))⟩

end Go.Proofs.Ytpaibalemjkkcaa
