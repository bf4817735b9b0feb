/- The walks of the Readers' small methods. No condition. -/
import Derived.Test.YtajheglnhfjodaaDoorReadInt
namespace Go.Proofs.YtajheglnhfjodaaDoor
set_option linter.unusedVariables false
open Go.RowKit

set_option maxHeartbeats 400000 in
theorem rLeft_any (w : World) (g : Nat) (s : Option (List UInt8)) (hr : RS 68 w g s) :
    Calls Tryd.prog 44 #[.pointer (some ⟨g, 0, none⟩)] w fun e w' => e = .returned (.int .i64 (Wire.leftS s : Nat)) ∧ ∃ N, w' = w.drewN N := by
  obtain ⟨l, p, bad, ⟨A, n, c, hb, hrd, hnc, hc, hp⟩, rfl⟩ := hr
  have h0 := hb.cell 0
  have h1 := hb.cell 1
  have h2 := hb.cell 2
  have f1 := hb.frozen 1
  have f2 := hb.frozen 2
  have hgl := hb.lt
  have hln : Hid (l.length = n) := by have := hrd.1; rw [bv_length] at this; show _ = _; omega
  simp at h0 h1 h2
  cases bad
  · have hlf : Wire.leftS (some (l.drop p)) = n - p := by have := hln.out; simp [Wire.leftS]; omega
    have HLF := Lib.hid hlf
    clear hlf
    go_enter Tryd.func44, Tryd.ntmps44
    go_wp2
    go_quiet (fail)
    go_wp2
    go_ret
    refine ⟨?_, _, rfl⟩
    show _ = Ending.returned (.int .i64 (Wire.leftS (some (l.drop p)) : Nat))
    rw [HLF.out]
    exact ret_i64 (by omega)
  · 
    go_enter Tryd.func44, Tryd.ntmps44
    go_wp2
    go_ret
    exact ⟨rfl, 0, rfl⟩

set_option maxHeartbeats 400000 in
theorem rEnd_any (w : World) (g : Nat) (s : Option (List UInt8)) (hr : RS 68 w g s) :
    Calls Tryd.prog 19 #[.pointer (some ⟨g, 0, none⟩)] w fun e w' => e = .returned (.bool (Wire.endS s)) ∧ ∃ N, w' = w.drewN N := by
  obtain ⟨l, p, bad, ⟨A, n, c, hb, hrd, hnc, hc, hp⟩, rfl⟩ := hr
  have h0 := hb.cell 0
  have h1 := hb.cell 1
  have h2 := hb.cell 2
  have f1 := hb.frozen 1
  have f2 := hb.frozen 2
  have hgl := hb.lt
  have hln : Hid (l.length = n) := by have := hrd.1; rw [bv_length] at this; show _ = _; omega
  simp at h0 h1 h2
  cases bad
  · have hlf : (((p : Int)) == (n : Int)) = Wire.endS (some (l.drop p)) := by
      have := hln.out
      unfold Wire.endS
      rw [Bool.eq_iff_iff, beq_iff_eq]
      simp
      omega
    have HLF := Lib.hid hlf
    clear hlf
    go_enter Tryd.func19, Tryd.ntmps19
    go_wp2
    go_quiet (fail)
    go_wp2
    go_ret
    refine ⟨?_, _, rfl⟩
    show _ = Ending.returned (.bool (Wire.endS (some (l.drop p))))
    rw [← HLF.out]
    rfl
  · 
    go_enter Tryd.func19, Tryd.ntmps19
    go_wp2
    go_quiet (fail)
    go_wp2
    go_ret
    exact ⟨rfl, _, rfl⟩

set_option maxHeartbeats 400000 in
theorem fLeft_any (w : World) (g : Nat) (s : Option (List UInt8)) (hr : RS 81 w g s) :
    Calls Tryd.prog 45 #[.pointer (some ⟨g, 0, none⟩)] w fun e w' => e = .returned (.int .i64 (Wire.leftS s : Nat)) ∧ ∃ N, w' = w.drewN N := by
  obtain ⟨l, p, bad, ⟨A, n, c, hb, hrd, hnc, hc, hp⟩, rfl⟩ := hr
  have h0 := hb.cell 0
  have h1 := hb.cell 1
  have h2 := hb.cell 2
  have f1 := hb.frozen 1
  have f2 := hb.frozen 2
  have hgl := hb.lt
  have hln : Hid (l.length = n) := by have := hrd.1; rw [bv_length] at this; show _ = _; omega
  simp at h0 h1 h2
  cases bad
  · have hlf : Wire.leftS (some (l.drop p)) = n - p := by have := hln.out; simp [Wire.leftS]; omega
    have HLF := Lib.hid hlf
    clear hlf
    go_enter Tryd.func45, Tryd.ntmps45
    go_wp2
    go_quiet (fail)
    go_wp2
    go_ret
    refine ⟨?_, _, rfl⟩
    show _ = Ending.returned (.int .i64 (Wire.leftS (some (l.drop p)) : Nat))
    rw [HLF.out]
    exact ret_i64 (by omega)
  · 
    go_enter Tryd.func45, Tryd.ntmps45
    go_wp2
    go_ret
    exact ⟨rfl, 0, rfl⟩

set_option maxHeartbeats 400000 in
theorem fEnd_any (w : World) (g : Nat) (s : Option (List UInt8)) (hr : RS 81 w g s) :
    Calls Tryd.prog 75 #[.pointer (some ⟨g, 0, none⟩)] w fun e w' => e = .returned (.bool (Wire.endS s)) ∧ ∃ N, w' = w.drewN N := by
  obtain ⟨l, p, bad, ⟨A, n, c, hb, hrd, hnc, hc, hp⟩, rfl⟩ := hr
  have h0 := hb.cell 0
  have h1 := hb.cell 1
  have h2 := hb.cell 2
  have f1 := hb.frozen 1
  have f2 := hb.frozen 2
  have hgl := hb.lt
  have hln : Hid (l.length = n) := by have := hrd.1; rw [bv_length] at this; show _ = _; omega
  simp at h0 h1 h2
  cases bad
  · have hlf : (((p : Int)) == (n : Int)) = Wire.endS (some (l.drop p)) := by
      have := hln.out
      unfold Wire.endS
      rw [Bool.eq_iff_iff, beq_iff_eq]
      simp
      omega
    have HLF := Lib.hid hlf
    clear hlf
    go_enter Tryd.func75, Tryd.ntmps75
    go_wp2
    go_quiet (fail)
    go_wp2
    go_ret
    refine ⟨?_, _, rfl⟩
    show _ = Ending.returned (.bool (Wire.endS (some (l.drop p))))
    rw [← HLF.out]
    rfl
  · 
    go_enter Tryd.func75, Tryd.ntmps75
    go_wp2
    go_quiet (fail)
    go_wp2
    go_ret
    exact ⟨rfl, _, rfl⟩

end Go.Proofs.YtajheglnhfjodaaDoor
