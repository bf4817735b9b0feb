/- Of, the law's Bytes and Place, awake. No condition. -/
import Derived.Test.YtajheglnhfjodaaDoorSum
import Derived.Test.YtajheglnhfjodaaDoorBytes
import Derived.Lib.SlBytesConst
namespace Go.Proofs.YtajheglnhfjodaaDoor
set_option linter.unusedVariables false
open Go.RowKit

set_option maxHeartbeats 400000 in
theorem bytes_anyS (A : Option Addr) (n c B : Nat) (l : List UInt8) (w : World) (hn : n ≤ 140737488355328) (hrd : Reads w B 1 A n (bv l)) :
    Calls Tryd.prog 42 #[.slice A n c] w fun e w' => ∃ A' c', e = .returned (.slice A' n c') ∧ Own w' w.heap.size (.slice A' n c') n l ∧ Below w.heap.size w w' := by
  go_enter Tryd.func42, Tryd.ntmps42
  go_wp2_with (at_builtin; refine app_copy _ rfl _ rfl B A n c l rfl hrd hn ?_; intro A' c' w' hO hb)
  go_ret
  exact ⟨A', c', rfl, hO, hb⟩

set_option maxHeartbeats 400000 in
theorem place_anyS (v n : Int) (w : World) (hv : -9223372036854775808 ≤ v ∧ v ≤ 9223372036854775807) (h0 : 1 ≤ n) (hn : n ≤ 4611686018427387904) :
    Calls Tryd.prog 9 #[.int .i64 v, .int .i64 n] w fun e w' => e = .returned (.int .i64 (v % n)) ∧ w = w' := by
  have t1 : -n < v.tmod n := Int.lt_tmod_of_pos v (by omega)
  have t2 : v.tmod n < n := Int.tmod_lt_of_pos v (by omega)
  have t3 : v.tmod n < 0 → v % n = v.tmod n + n := fun h => by
    rw [Int.tmod_eq_emod] at h ⊢
    split at h <;> rename_i hc
    · have := Int.emod_nonneg v (show n ≠ 0 by omega); omega
    · rw [if_neg hc]; omega
  have t4 : 0 ≤ v.tmod n → v % n = v.tmod n := fun h => by
    have hn' := Int.emod_lt_of_pos v (show 0 < n by omega)
    rw [Int.tmod_eq_emod] at h ⊢
    split at h <;> rename_i hc
    · rw [if_pos hc]; omega
    · omega
  have T3 := Lib.hid t3
  have T4 := Lib.hid t4
  clear t3 t4
  go_enter Tryd.func9, Tryd.ntmps9
  go_wp2
  · go_ret
    exact ⟨by rw [T3.out ‹_›]; rfl, rfl⟩
  · go_ret
    exact ⟨by rw [T4.out ‹_›]; rfl, rfl⟩
end Go.Proofs.YtajheglnhfjodaaDoor
