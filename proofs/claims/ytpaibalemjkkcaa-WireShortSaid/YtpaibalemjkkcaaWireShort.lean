/- The law WireShort. No condition. -/
import Derived.Test.YtpaibalemjkkcaaWireLaws
import Derived.Test.YtpaibalemjkkcaaMore
import Derived.Test.YtpaibalemjkkcaaRegC
import Derived.Test.YtpaibalemjkkcaaApart
namespace Go.Proofs.Ytpaibalemjkkcaa
set_option linter.unusedVariables false
open Go.RowKit

theorem textS_short (t : List UInt8) (ht : t.length ≤ 9223372036854775807) : Wire.textS (t.length : Int) (some (Wire.text t).dropLast) = ([], none) := by
  have hc : Wire.countS (t.length : Int) (some (Wire.text t).dropLast) = (0, none) := by
    by_cases h0 : t = []
    · subst h0
      decide +kernel
    · unfold Wire.text
      rw [List.dropLast_append_of_ne_nil h0, Wire.countS_int ⟨by omega, by omega⟩, if_pos]
      have : 0 < t.length := List.length_pos_iff.2 h0
      simp
      omega
  unfold Wire.textS
  rw [hc]
theorem dropLast_take (l : List UInt8) : l.take (l.length - 1) = l.dropLast := (List.dropLast_eq_take).symm

set_option maxRecDepth 100000 in
set_option maxHeartbeats 1600000 in
theorem wireShort_walk (n : Int) (s : ByteArray) (t : Bool) (w : World) (hn : -9223372036854775808 ≤ n ∧ n ≤ 9223372036854775807) (hs : s.size ≤ 140737488351232) :
    Calls Try.prog 14 #[.int .i64 n, .string s, .bool t] w fun e w' => e = .returned (.bool true) ∧ Below w.heap.size w w' := by
  go_enter Try.func14, Try.ntmps14
  go_wp2_with fail
  refine (putInt_any none 0 0 [] n _ (by omega) (by omega) hn Reads.none_).mono ?_
  rintro e w1 ⟨A1, m1, c1, rfl, hO1, hb1⟩
  rw [List.nil_append] at hO1
  have hl1 := hO1.len
  have hm1 : 1 ≤ m1 ∧ m1 ≤ 10 := by
    have := Wire.int_len n
    omega
  have HL1 := Lib.hid hl1
  clear hl1
  go_wp2_with fail
  refine (putText_any none 0 0 [] s _ (by omega) (by omega) Reads.none_).mono ?_
  rintro e w2 ⟨A2, m2, c2, rfl, hO2, hb2⟩
  rw [List.nil_append] at hO2
  have hl2 := hO2.len
  have hsl : s.data.toList.length = s.size := by rw [Array.length_toList]; rfl
  have hm2 : 1 ≤ m2 ∧ m2 ≤ 140737488355328 := by
    unfold Wire.text at hl2
    rw [List.length_append, hsl] at hl2
    have := Wire.int_len (s.size : Int)
    omega
  have HL2 := Lib.hid hl2
  clear hl2
  have hO1' := hO1.below hb2 (Nat.le_refl _)
  have hB2 := hb1.trans (hb2.mono hb1.size)
  clear hO1 hb2
  go_wp2_with fail
  refine (putBool_any none 0 0 [] t _ (by omega) (by omega) Reads.none_).mono ?_
  rintro e w3 ⟨A3, c3, rfl, hO3, hb3⟩
  rw [Nat.zero_add, List.nil_append] at hO3
  rw [Nat.zero_add]
  have hO1'' := hO1'.below (hb3.mono (Nat.le_refl _)) (Nat.le_refl _)
  have hO2' := hO2.below hb3 (Nat.le_refl _)
  have hB3 := hB2.trans (hb3.mono hB2.size)
  have r1 := hO1''.reads.take (k := m1 - 1) (by omega)
  have r2 := hO2'.reads.take (k := m2 - 1) (by omega)
  have e1 : (Wire.int n).take (m1 - 1) = (Wire.int n).dropLast := by have := HL1.out; subst this; exact dropLast_take _
  have e2 : (Wire.text s.data.toList).take (m2 - 1) = (Wire.text s.data.toList).dropLast := by have := HL2.out; subst this; exact dropLast_take _
  rw [e1] at r1
  rw [e2] at r2
  have q1 : ((m1 : Int) == 0) = false := by simp; omega
  have q2 : ((m2 : Int) == 0) = false := by simp; omega
  have cap1 := hO1''.cap
  have cap2 := hO2'.cap
  obtain ⟨d1, hd1⟩ : ∃ d1 : Nat, d1 = m1 - 1 := ⟨_, rfl⟩
  obtain ⟨d2, hd2⟩ : ∃ d2 : Nat, d2 = m2 - 1 := ⟨_, rfl⟩
  rw [← hd1] at r1
  rw [← hd2] at r2
  have k1 : (m1 : Int) - 1 = (d1 : Int) := by omega
  have k2 : (m2 : Int) - 1 = (d2 : Int) := by omega
  have s1 := fun W => slice_hi W A1 m1 c1 d1 (by omega)
  have s2 := fun W => slice_hi W A2 m2 c2 d2 (by omega)
  have b1 : d1 ≤ 10 := by omega
  have b2 : d2 ≤ 140737488355328 := by omega
  have ts := textS_short s.data.toList (by omega)
  rw [hsl] at ts
  have TS := Lib.hid ts
  clear hd1 hd2 e1 e2 hO1'' hO2' hO1' hO2 hO3 hb3 hB2 hb1 hm1 hm2 hsl ts
  go_wp2_with fail
  refine (rNew_any _ _ _ _ _ _ (by omega) r1).mono ?_
  rintro e w4 ⟨g4, rfl, hg4, hr4, hb4⟩
  have hB4 := hB3.trans (hb4.mono hB3.size)
  have r2' := r2.below hb4
  have hgw4 : w.heap.size ≤ g4 := Nat.le_trans hB3.size hg4
  clear r1 r2 hb4 s1
  go_wp2_with fail
  refine (rNew_any _ _ _ _ _ _ (by omega) r2').mono ?_
  rintro e w5 ⟨g5, rfl, hg5, hr5, hb5⟩
  have hB5 := hB4.trans (hb5.mono hB4.size)
  have hgw5 : w.heap.size ≤ g5 := Nat.le_trans hB4.size hg5
  have hr45 := hr4.below hb5 hr4.lt
  have ne45 : g4 < g5 := by have := hr4.lt; omega
  clear r2' hb5 s2 hr4
  go_wp2_with fail
  refine (rNew_any none 0 0 0 [] _ (by omega) Reads.none_).mono ?_
  rintro e w6 ⟨g6, rfl, hg6, hr6, hb6⟩
  have hB6 := hB5.trans (hb6.mono hB5.size)
  have hgw6 : w.heap.size ≤ g6 := Nat.le_trans hB5.size hg6
  have hr46 := hr45.below hb6 hr45.lt
  have hr56 := hr5.below hb6 hr5.lt
  have ne56 : g5 < g6 := by have := hr5.lt; omega
  clear hb6 hr5 hr45 hg4 hg5 hg6 hB3 hB4 hB5
  have IS := Lib.hid (Wire.intS_short n)
  go_wp2_with fail
  refine (rInt_any _ _ _ hr46).mono ?_
  rintro e w7 ⟨rfl, hr7, hg7⟩
  rw [IS.out] at hr7 ⊢
  have hr57 := hr56.apart hr46 hg7 (by omega)
  have hr67 := hr6.apart hr46 hg7 (by omega)
  have hB7 := only_new hB6 hg7 hgw4 hB6.size
  clear hr46 hr56 hr6 hg7 hB6
  go_wp2_with fail
  refine (rOk_any _ _ _ hr7).mono ?_
  rintro e w' ⟨rfl, rfl⟩
  go_wp2_with fail
  refine (rText_any _ _ _ _ hr57).mono ?_
  rintro e w8 ⟨rfl, hr8, hg8⟩
  rw [TS.out] at hr8 ⊢
  have hr68 := hr67.apart hr57 hg8 (by omega)
  have hB8 := only_new hB7 hg8 hgw5 hB7.size
  clear hr57 hr67 hr7 hg8 hB7
  go_wp2_with fail
  refine (rOk_any _ _ _ hr8).mono ?_
  rintro e w' ⟨rfl, rfl⟩
  go_wp2_with fail
  refine (rBool_any _ _ _ hr68).mono ?_
  rintro e w9 ⟨rfl, hr9, hg9⟩
  rw [show Wire.boolS (some []) = (false, none) from rfl] at hr9 ⊢
  have hB9 := only_new hB8 hg9 hgw6 hB8.size
  clear hr68 hr8 hg9 hB8
  go_wp2_with fail
  refine (rOk_any _ _ _ hr9).mono ?_
  rintro e w' ⟨rfl, rfl⟩
  go_wp2_with fail
  refine (awake3_any _).mono ?_
  rintro e wA ⟨rfl, hbA⟩
  go_wp2
  go_ret
  exact ⟨rfl, hB9.trans (hbA.mono hB9.size)⟩
end Go.Proofs.Ytpaibalemjkkcaa
