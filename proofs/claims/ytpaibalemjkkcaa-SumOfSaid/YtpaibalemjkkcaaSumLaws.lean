/- The walks of the five laws of layer 2. No condition. -/
import Derived.Test.YtpaibalemjkkcaaSumFns
namespace Go.Proofs.Ytpaibalemjkkcaa
open Go.RowKit

set_option maxHeartbeats 800000 in
theorem sumOf_walk (s : Nat) (A : Option Addr) (n c : Nat) (l : List UInt8) (w : World) (hs : s < 4294967296) (hb : InBytes w A n c l) :
    Calls Try.prog 3 #[.int .u32 (s : Int), .slice A n c] w fun e w' => e = .returned (.bool true) ∧ Below w.heap.size w w' := by
  obtain ⟨hrd, hnc, hc⟩ := hb
  have kc := fun (w : World) {B : Nat} {A : Option Addr} {n : Nat} (c : Nat) {l : List UInt8} (h : Reads w B 1 A n (bv l)) => run_string_of (P := Try.prog) w Try.underlying23 Try.underlying5 Try.underlying9 c h
  go_enter Try.func3, Try.ntmps3
  go_wp2_with fail
  refine (bytes_any _ _ _ _ l _ (by omega) hrd).mono ?_
  rintro e w1 ⟨A', c', rfl, hO, hb⟩
  have hrd1 := hrd.below hb
  have hrO := hO.reads
  go_wp2_with fail
  refine (of_any _ _ _ _ l _ (by unfold maxLen; omega) hrO).mono ?_
  rintro e w' ⟨rfl, rfl⟩
  go_wp2_with fail
  refine (refOf_any _ _ _ _ l _ (by unfold maxLen; omega) hrd1).mono ?_
  rintro e w' ⟨rfl, rfl⟩
  go_wp2_with fail
  refine (more_any s hs _ _ _ _ l _ (by unfold maxLen; omega) hrO).mono ?_
  rintro e w' ⟨rfl, rfl⟩
  go_wp2_with fail
  refine (refMore_any s hs _ _ _ _ l _ (by unfold maxLen; omega) hrd1).mono ?_
  rintro e w' ⟨rfl, rfl⟩
  have k1 := kc w1 c' hrO
  have k2 := kc w1 c hrd1
  clear kc
  go_wp2_with fail
  refine (awake2_any _).mono ?_
  rintro e w2 ⟨rfl, hb2⟩
  go_wp2
  go_ret
  exact ⟨rfl, hb.trans (hb2.mono hb.size)⟩
end Go.Proofs.Ytpaibalemjkkcaa
