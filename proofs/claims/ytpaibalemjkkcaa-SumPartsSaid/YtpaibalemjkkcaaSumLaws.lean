/- The walks of SumOf, SumParts, SumBytes: laws of layer 2. No condition. -/
import Derived.Test.YtpaibalemjkkcaaSumFns
import Derived.Test.YtpaibalemjkkcaaReg
import Derived.Deep.DeepCutAuto
namespace Go.Proofs.Ytpaibalemjkkcaa
set_option linter.unusedVariables false
open Go.RowKit

set_option maxHeartbeats 800000 in
theorem sumOf_walk (s : Nat) (A : Option Addr) (n c : Nat) (l : List UInt8) (w : World) (hs : s < 4294967296) (hb : InBytes w A n c l) :
    Calls Try.prog 3 #[.int .u32 (s : Int), .slice A n c] w fun e w' => e = .returned (.bool true) ∧ Below w.heap.size w w' := by
  obtain ⟨hrd, hnc, hc⟩ := hb
  have kc := fun (w : World) {B : Nat} {A : Option Addr} {n : Nat} (c : Nat) {l : List UInt8} (h : Reads w B 1 A n (bv l)) => run_string_of (P := Try.prog) w Try.underlying23 Try.underlying5 Try.underlying9 c h
  go_enter Try.func3, Try.ntmps3
  go_wp2_with fail
  refine (bytes_any _ _ _ _ l _ (by omega) hrd).mono ?_
  rintro e w1 ⟨A', c', rfl, hO, hb⟩
  have hrd1 := hrd.below hb
  have hrO := hO.reads
  go_wp2_with fail
  refine (of_any _ _ _ _ l _ (by unfold maxLen; omega) hrO).mono ?_
  rintro e w' ⟨rfl, rfl⟩
  go_wp2_with fail
  refine (refOf_any _ _ _ _ l _ (by unfold maxLen; omega) hrd1).mono ?_
  rintro e w' ⟨rfl, rfl⟩
  go_wp2_with fail
  refine (more_any s hs _ _ _ _ l _ (by unfold maxLen; omega) hrO).mono ?_
  rintro e w' ⟨rfl, rfl⟩
  go_wp2_with fail
  refine (refMore_any s hs _ _ _ _ l _ (by unfold maxLen; omega) hrd1).mono ?_
  rintro e w' ⟨rfl, rfl⟩
  have k1 := kc w1 c' hrO
  have k2 := kc w1 c hrd1
  clear kc
  go_wp2_with fail
  refine (awake2_any _).mono ?_
  rintro e w2 ⟨rfl, hb2⟩
  go_wp2
  go_ret
  exact ⟨rfl, hb.trans (hb2.mono hb.size)⟩

set_option maxHeartbeats 800000 in
theorem sumParts_walk (A : Option Addr) (n c : Nat) (l : List UInt8) (at_ : Int) (w : World) (hb : InBytes w A n c l) (ha : -9223372036854775808 ≤ at_ ∧ at_ ≤ 9223372036854775807) :
    Calls Try.prog 4 #[.slice A n c, .int .i64 at_] w fun e w' => e = .returned (.bool true) ∧ Below w.heap.size w w' := by
  have hll := hb.len
  obtain ⟨hrd, hnc, hc⟩ := hb
  have hpm : 0 ≤ at_ % ((n : Int) + 1) := Int.emod_nonneg _ (by omega)
  have hpl : at_ % ((n : Int) + 1) < (n : Int) + 1 := Int.emod_lt_of_pos _ (by omega)
  go_enter Try.func4, Try.ntmps4
  go_wp2_with fail
  refine (place_any at_ _ _ ha (by omega) (by omega)).mono ?_
  rintro e w' ⟨rfl, rfl⟩
  obtain ⟨k, hk⟩ := Int.eq_ofNat_of_zero_le hpm
  rw [hk] at hpl ⊢
  clear hk hpm ha
  have hs1 := fun w => slice_hi w A n c k (by omega)
  have hs2 := fun w => slice_lo w A n c k (by omega)
  have r1 := hrd.take (k := k) (by omega)
  have r2 := hrd.cutA (k := k) (by omega) hnc
  have he : Crc.more (Crc.more 0 (l.take k)) (l.drop k) = Crc.more 0 l := by rw [Crc.more_append (by omega), List.take_append_drop]
  have HE := Lib.hid he
  clear he
  have hm0 : Crc.more 0 (l.take k) < 4294967296 := Crc.more_lt (by omega) _
  go_wp2_with fail
  refine region_tail 12 (by kernel_rfl) (by kernel_rfl) (fun W hW => ?_)
  simp only [List.take_succ_cons, List.take_zero, List.drop_succ_cons, List.drop_zero]
  iterate 3 still_step
  still_call (still (of_any _ _ _ _ _ W (by unfold maxLen; omega) (r1.below hW)))
  iterate 3 still_step
  still_call (still (more_any _ hm0 _ _ _ _ _ W (by unfold maxLen; omega) (r2.below hW)))
  rw [HE.out]
  still_step
  still_call (still (of_any _ _ _ _ _ W (by unfold maxLen; omega) (hrd.below hW)))
  iterate 2 still_step
  refine wpStill_nil ?_
  go_wp2_with fail
  refine (awake2_any _).mono ?_
  rintro e w2 ⟨rfl, hb2⟩
  go_wp2
  go_ret
  exact ⟨rfl, hW.trans (hb2.mono hW.size)⟩

set_option maxHeartbeats 800000 in
theorem sumBytes_walk (s : Nat) (A : Option Addr) (n c : Nat) (l : List UInt8) (w : World) (hs : s < 4294967296) (hb : InBytes w A n c l) :
    Calls Try.prog 7 #[.int .u32 (s : Int), .slice A n c] w fun e w' => e = .returned (.bool true) ∧ Below w.heap.size w w' := by
  have hll := Lib.hid hb.len
  obtain ⟨hrd, hnc, hc⟩ := hb
  go_enter Try.func7, Try.ntmps7
  go_wp2
  go_loop [5, 6] (fun x i => ∃ k q : Nat, k ≤ n ∧ q < 4294967296 ∧ Hid (Crc.more s (l.take k) = q) ∧ x = .int .u32 (q : Int) ∧ i = .int .i64 (k : Int)) (fun _ i => n - (intOf i).toNat)
  case atStart => exact ⟨0, s, by omega, hs, Crc.more_nil hs, rfl, rfl⟩
  case round =>
    obtain ⟨k, q, hk, hq, HQ, rfl, rfl⟩ := hrel
    by_cases hlt : k < n
    · have hs1 : ∀ w, (Instr.slice 23 (.slice A n c) (some (.int .i64 (k : Int))) (some (.int .i64 ((k : Int) + 1))) none).run Try.prog w = .ok (.slice (cutA A c k) (k + 1 - k) (c - k)) w :=
        fun w => slice_lh w A n c k (k + 1) (by omega) (by omega)
      rw [show k + 1 - k = 1 from by omega] at hs1
      have r1 := (hrd.take (k := k + 1) (by omega)).cutA (k := k) (c := c) (by omega) (by omega)
      rw [show k + 1 - k = 1 from by omega] at r1
      have he : Crc.more q ((l.take (k + 1)).drop k) = Crc.more s (l.take (k + 1)) := by
        have e1 := List.take_append_drop k (l.take (k + 1))
        rw [List.take_take, Nat.min_eq_left (by omega)] at e1
        rw [← show Crc.more s (l.take k) = q from HQ, Crc.more_append hs, e1]
      have HE := Lib.hid he
      clear he
      go_wp2_with fail
      refine (more_any q hq _ _ _ _ _ _ (by decide) r1).mono ?_
      rintro e w' ⟨rfl, rfl⟩
      go_wp2
      go_round
      case rel => exact ⟨k + 1, _, by omega, Crc.more_lt hq _, HE.out.symm, rfl, by go_num⟩
      case measure => simp [intOf]; omega
    · have hkn : l.take k = l := List.take_of_length_le (by have := hll.out; omega)
      rw [hkn] at HQ
      clear hkn
      go_wp2_with fail
      refine (more_any s hs _ _ _ _ l _ (by unfold maxLen; omega) hrd).mono ?_
      rintro e w' ⟨rfl, rfl⟩
      rw [show Crc.more s l = q from HQ]
      go_wp2_with fail
      refine (more_any s hs none 0 0 0 [] _ (by decide) Reads.none_).mono ?_
      rintro e w' ⟨rfl, rfl⟩
      rw [Crc.more_nil hs]
      go_wp2_with fail
      refine (awake2_any _).mono ?_
      rintro e w2 ⟨rfl, hb2⟩
      go_wp2
      go_ret
      exact ⟨rfl, hb2⟩

end Go.Proofs.Ytpaibalemjkkcaa
