/- Of, the law's Bytes and Place, awake. No condition. -/
import Derived.Test.YtpaibalemjkkcaaSum
import Derived.Test.YtpaibalemjkkcaaBytes
import Derived.Lib.SlBytesConst
namespace Go.Proofs.Ytpaibalemjkkcaa
set_option linter.unusedVariables false
open Go.RowKit

set_option maxHeartbeats 400000 in
theorem of_any (A : Option Addr) (n c B : Nat) (l : List UInt8) (w : World) (hl : n ≤ maxLen) (hrd : Reads w B 1 A n (bv l)) :
    Calls Try.prog 23 #[.slice A n c] w fun e w' => e = .returned (.int .u32 (Crc.more 0 l : Nat)) ∧ w = w' := by
  go_enter Try.func23, Try.ntmps23
  go_wp2_with fail
  refine (more_any 0 (by omega) _ _ _ B l _ hl hrd).mono ?_
  rintro e w' ⟨rfl, rfl⟩
  go_wp2
  go_ret
  exact ⟨rfl, rfl⟩
set_option maxHeartbeats 400000 in
theorem refOf_any (A : Option Addr) (n c B : Nat) (l : List UInt8) (w : World) (hl : n ≤ maxLen) (hrd : Reads w B 1 A n (bv l)) :
    Calls Try.prog 24 #[.slice A n c] w fun e w' => e = .returned (.int .u32 (Crc.more 0 l : Nat)) ∧ w = w' := by
  go_enter Try.func24, Try.ntmps24
  go_wp2_with fail
  refine (refMore_any 0 (by omega) _ _ _ B l _ hl hrd).mono ?_
  rintro e w' ⟨rfl, rfl⟩
  go_wp2
  go_ret
  exact ⟨rfl, rfl⟩

set_option maxHeartbeats 400000 in
theorem bytes_any (A : Option Addr) (n c B : Nat) (l : List UInt8) (w : World) (hn : n ≤ 140737488355328) (hrd : Reads w B 1 A n (bv l)) :
    Calls Try.prog 22 #[.slice A n c] w fun e w' => ∃ A' c', e = .returned (.slice A' n c') ∧ Own w' w.heap.size (.slice A' n c') n l ∧ Below w.heap.size w w' := by
  go_enter Try.func22, Try.ntmps22
  go_wp2_with (at_builtin; refine app_copy _ rfl _ rfl B A n c l rfl hrd hn ?_; intro A' c' w' hO hb)
  go_ret
  exact ⟨A', c', rfl, hO, hb⟩

set_option maxHeartbeats 400000 in
theorem place_any (v n : Int) (w : World) (hv : -9223372036854775808 ≤ v ∧ v ≤ 9223372036854775807) (h0 : 1 ≤ n) (hn : n ≤ 4611686018427387904) :
    Calls Try.prog 28 #[.int .i64 v, .int .i64 n] w fun e w' => e = .returned (.int .i64 (v % n)) ∧ w = w' := by
  have t1 : -n < v.tmod n := Int.lt_tmod_of_pos v (by omega)
  have t2 : v.tmod n < n := Int.tmod_lt_of_pos v (by omega)
  have t3 : v.tmod n < 0 → v % n = v.tmod n + n := fun h => by
    rw [Int.tmod_eq_emod] at h ⊢
    split at h <;> rename_i hc
    · have := Int.emod_nonneg v (show n ≠ 0 by omega); omega
    · rw [if_neg hc]; omega
  have t4 : 0 ≤ v.tmod n → v % n = v.tmod n := fun h => by
    have hn' := Int.emod_lt_of_pos v (show 0 < n by omega)
    rw [Int.tmod_eq_emod] at h ⊢
    split at h <;> rename_i hc
    · rw [if_pos hc]; omega
    · omega
  have T3 := Lib.hid t3
  have T4 := Lib.hid t4
  clear t3 t4
  go_enter Try.func28, Try.ntmps28
  go_wp2
  · go_ret
    exact ⟨by rw [T3.out ‹_›]; rfl, rfl⟩
  · go_ret
    exact ⟨by rw [T4.out ‹_›]; rfl, rfl⟩

theorem awake_crc : Crc.more 0 [49, 50, 51, 52, 53, 54, 55, 56, 57] = 3421780262 := by decide +kernel
set_option maxHeartbeats 400000 in
theorem awake2_any (w : World) :
    Calls Try.prog 27 #[] w fun e w' => e = .returned (.bool true) ∧ Below w.heap.size w w' := by
  have kc := fun (w : World) (C : Array Value) (n c : Nat) => Lib.run_convert_bytes_const (P := Try.prog) w 23 5 C n c Try.underlying23 Try.underlying5
  go_enter Try.func27, Try.ntmps27
  go_wp2_with fail
  refine (of_any _ _ _ _ [49, 50, 51, 52, 53, 54, 55, 56, 57] _ (by decide) (reads_new w _ _ _ _ rfl _ rfl)).mono ?_
  rintro e w' ⟨rfl, rfl⟩
  rw [awake_crc]
  go_wp2
  go_ret
  exact ⟨rfl, (Below.refl _ _).alloc (Nat.le_refl _) _⟩
end Go.Proofs.Ytpaibalemjkkcaa
