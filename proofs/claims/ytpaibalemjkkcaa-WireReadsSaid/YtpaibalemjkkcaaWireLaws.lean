/- The laws of layer 3: awake, WireOrder, WirePuts. No condition. -/
import Derived.Test.YtpaibalemjkkcaaReadMore
import Derived.Test.YtpaibalemjkkcaaVarB
import Derived.Deep.RegionHeld3
import Derived.LaidEql
namespace Go.Proofs.Ytpaibalemjkkcaa
set_option linter.unusedVariables false
open Go.RowKit

theorem aw1 : Wire.intS (some [2, 128, 0]) = (1, some [128, 0]) := by decide +kernel
theorem aw2 : Wire.intS (some [128, 0]) = (0, none) := by decide +kernel
theorem aw3 : Wire.int (-1) = [1] := by decide +kernel

set_option maxHeartbeats 800000 in
theorem awake3_any (w : World) :
    Calls Try.prog 30 #[] w fun e w' => e = .returned (.bool true) ∧ Below w.heap.size w w' := by
  go_enter Try.func30, Try.ntmps30
  go_wp2_with fail
  refine (rNew_any _ _ _ _ [2, 128, 0] _ (by decide) (reads_new w _ _ _ _ rfl _ rfl)).mono ?_
  rintro e w1 ⟨g, rfl, hg, hr, hb⟩
  have hB1 : Below w.heap.size w w1 := ((Below.refl _ _).alloc (Nat.le_refl _) _).trans (hb.mono (by simp))
  clear hb
  simp at hg
  have hlt := hr.lt
  go_wp2_with fail
  refine (putInt_any none 0 0 [] (-1) _ (by omega) (by omega) (by omega) Reads.none_).mono ?_
  rintro e w2 ⟨A2, m2, c2, rfl, hO2, hb2⟩
  have k2 := run_string_of (P := Try.prog) w2 Try.underlying23 Try.underlying5 Try.underlying9 c2 hO2.reads
  rw [aw3] at k2
  have hr2 := hr.below hb2 hlt
  have hB2 := hB1.trans (hb2.mono hB1.size)
  clear hO2 hb2 hr hB1
  go_wp2_with fail
  refine (rInt_any _ _ _ hr2).mono ?_
  rintro e w3 ⟨rfl, hr3, hg3⟩
  rw [aw1] at hr3 ⊢
  have hB3 := only_new hB2 hg3 (by omega) hB2.size
  clear hB2 hr2 hg3
  go_wp2_with fail
  refine (rInt_any _ _ _ hr3).mono ?_
  rintro e w4 ⟨rfl, hr4, hg4⟩
  rw [aw2] at hr4 ⊢
  have hB4 := only_new hB3 hg4 (by omega) hB3.size
  clear hB3 hr3 hg4
  go_wp2_with fail
  refine (rOk_any _ _ _ hr4).mono ?_
  rintro e w' ⟨rfl, rfl⟩
  go_wp2_with fail
  refine (rLeft_any _ _ _ hr4).mono ?_
  rintro e w' ⟨rfl, N, rfl⟩
  go_wp2_with fail
  refine (rEnd_any _ _ _ (hr4.drewN N)).mono ?_
  rintro e w' ⟨rfl, N', rfl⟩
  go_wp2
  go_ret
  exact ⟨rfl, below_drewN hB4 _⟩

set_option maxHeartbeats 1600000 in
theorem wireOrder_walk (a b : Int) (w : World) (ha : -9223372036854775808 ≤ a ∧ a ≤ 9223372036854775807) (hb : -9223372036854775808 ≤ b ∧ b ≤ 9223372036854775807) :
    Calls Try.prog 8 #[.int .i64 a, .int .i64 b] w fun e w' => e = .returned (.bool true) ∧ Below w.heap.size w w' := by
  have hm := @Wire.int_mono a b
  have h1 := Wire.int_one a
  have h2 := Wire.int_len a
  go_enter Try.func8, Try.ntmps8
  go_wp2_with fail
  refine (putInt_any none 0 0 [] a _ (by omega) (by omega) ha Reads.none_).mono ?_
  rintro e w1 ⟨A1, x, c1, rfl, hO1, hb1⟩
  have hl1 := hO1.len
  rw [List.nil_append] at hl1
  rw [hl1] at hm h1 h2
  clear hl1 hO1
  go_wp2_with fail
  refine (putInt_any none 0 0 [] b _ (by omega) (by omega) hb Reads.none_).mono ?_
  rintro e w2 ⟨A2, y, c2, rfl, hO2, hb2⟩
  have hl2 := hO2.len
  rw [List.nil_append] at hl2
  rw [hl2] at hm
  clear hl2 hO2
  have hB := hb1.trans (hb2.mono hb1.size)
  clear hb1 hb2 ha hb
  have hx1 : decide ((1 : Int) ≤ (x : Int)) = true := by simp; omega
  have hx1' : decide (1 ≤ x) = true := by simp; omega
  have hx2 : decide ((x : Int) ≤ 10) = true := by simp; omega
  have HM := Lib.hid hm
  have H1 := Lib.hid h1
  clear hm h1 h2
  by_cases p : 0 ≤ a
  · have v0 : decide (0 ≤ a) = true := by simpa using p
    have v1 : decide (a < 0) = false := by simpa using p
    have v2 : decide (-64 ≤ a) = true := by simp; omega
    by_cases q : a ≤ b
    · have v3 : decide (a ≤ b) = true := by simpa using q
      have v4 : decide ((y : Int) < (x : Int)) = false := by have := HM.out (.inl ⟨p, q⟩); simp; omega
      have v5 : decide (y < x) = false := by have := HM.out (.inl ⟨p, q⟩); simp; omega
      by_cases t : a < 64
      · have v6 : decide (a < 64) = true := by simpa using t
        have v7 : ((x : Int) == 1) = true := by have := H1.out.2 ⟨by omega, t⟩; rw [beq_iff_eq]; omega
        clear p t q
        go_wp2_with (go_at_call 30; refine (awake3_any _).mono ?_; rintro e w3 ⟨rfl, hb3⟩)
        go_ret
        exact ⟨rfl, hB.trans (hb3.mono hB.size)⟩
      · have v6 : decide (a < 64) = false := by simpa using t
        have v7 : ((x : Int) == 1) = false := by have := H1.out; rw [beq_eq_false_iff_ne]; omega
        clear p t q
        go_wp2_with (go_at_call 30; refine (awake3_any _).mono ?_; rintro e w3 ⟨rfl, hb3⟩)
        go_ret
        exact ⟨rfl, hB.trans (hb3.mono hB.size)⟩
    · have v3 : decide (a ≤ b) = false := by simpa using q
      by_cases t : a < 64
      · have v6 : decide (a < 64) = true := by simpa using t
        have v7 : ((x : Int) == 1) = true := by have := H1.out.2 ⟨by omega, t⟩; rw [beq_iff_eq]; omega
        clear p t q
        go_wp2_with (go_at_call 30; refine (awake3_any _).mono ?_; rintro e w3 ⟨rfl, hb3⟩)
        go_ret
        exact ⟨rfl, hB.trans (hb3.mono hB.size)⟩
      · have v6 : decide (a < 64) = false := by simpa using t
        have v7 : ((x : Int) == 1) = false := by have := H1.out; rw [beq_eq_false_iff_ne]; omega
        clear p t q
        go_wp2_with (go_at_call 30; refine (awake3_any _).mono ?_; rintro e w3 ⟨rfl, hb3⟩)
        go_ret
        exact ⟨rfl, hB.trans (hb3.mono hB.size)⟩
  · have v0 : decide (0 ≤ a) = false := by simpa using p
    have v1 : decide (a < 0) = true := by simpa using p
    have v6 : decide (a < 64) = true := by simp; omega
    by_cases q : b ≤ a
    · have v3 : decide (b ≤ a) = true := by simpa using q
      have v4 : decide ((y : Int) < (x : Int)) = false := by have := HM.out (.inr ⟨by omega, q⟩); simp; omega
      have v5 : decide (y < x) = false := by have := HM.out (.inr ⟨by omega, q⟩); simp; omega
      by_cases t : -64 ≤ a
      · have v2 : decide (-64 ≤ a) = true := by simpa using t
        have v7 : ((x : Int) == 1) = true := by have := H1.out.2 ⟨t, by omega⟩; rw [beq_iff_eq]; omega
        clear p t q
        go_wp2_with (go_at_call 30; refine (awake3_any _).mono ?_; rintro e w3 ⟨rfl, hb3⟩)
        go_ret
        exact ⟨rfl, hB.trans (hb3.mono hB.size)⟩
      · have v2 : decide (-64 ≤ a) = false := by simpa using t
        have v7 : ((x : Int) == 1) = false := by have := H1.out; rw [beq_eq_false_iff_ne]; omega
        clear p t q
        go_wp2_with (go_at_call 30; refine (awake3_any _).mono ?_; rintro e w3 ⟨rfl, hb3⟩)
        go_ret
        exact ⟨rfl, hB.trans (hb3.mono hB.size)⟩
    · have v3 : decide (b ≤ a) = false := by simpa using q
      by_cases t : -64 ≤ a
      · have v2 : decide (-64 ≤ a) = true := by simpa using t
        have v7 : ((x : Int) == 1) = true := by have := H1.out.2 ⟨t, by omega⟩; rw [beq_iff_eq]; omega
        clear p t q
        go_wp2_with (go_at_call 30; refine (awake3_any _).mono ?_; rintro e w3 ⟨rfl, hb3⟩)
        go_ret
        exact ⟨rfl, hB.trans (hb3.mono hB.size)⟩
      · have v2 : decide (-64 ≤ a) = false := by simpa using t
        have v7 : ((x : Int) == 1) = false := by have := H1.out; rw [beq_eq_false_iff_ne]; omega
        clear p t q
        go_wp2_with (go_at_call 30; refine (awake3_any _).mono ?_; rintro e w3 ⟨rfl, hb3⟩)
        go_ret
        exact ⟨rfl, hB.trans (hb3.mono hB.size)⟩
end Go.Proofs.Ytpaibalemjkkcaa
