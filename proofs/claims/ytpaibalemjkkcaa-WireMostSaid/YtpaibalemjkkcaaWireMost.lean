/- The law WireMost. No condition. -/
import Derived.Test.YtpaibalemjkkcaaWireLaws
import Derived.Test.YtpaibalemjkkcaaMore
import Derived.Test.YtpaibalemjkkcaaRegC
namespace Go.Proofs.Ytpaibalemjkkcaa
set_option linter.unusedVariables false
open Go.RowKit

set_option maxRecDepth 100000 in
set_option maxHeartbeats 1600000 in
theorem wireMost_walk (s : ByteArray) (most n : Int) (w : World) (hs : s.size ≤ 140737488351232) (hm : -9223372036854775808 ≤ most ∧ most ≤ 9223372036854775807) (hn : -9223372036854775808 ≤ n ∧ n ≤ 9223372036854775807) :
    Calls Try.prog 11 #[.string s, .int .i64 most, .int .i64 n] w fun e w' => e = .returned (.bool true) ∧ Below w.heap.size w w' := by
  go_enter Try.func11, Try.ntmps11
  go_wp2_with fail
  refine (putText_any none 0 0 [] s _ (by omega) (by omega) Reads.none_).mono ?_
  rintro e w1 ⟨A1, m1, c1, rfl, hO1, hb1⟩
  rw [List.nil_append] at hO1
  have hsl : s.data.toList.length = s.size := by rw [Array.length_toList]; rfl
  have hm1 := hO1.len
  have hm1' : m1 ≤ 140737488355328 := by
    unfold Wire.text at hm1
    rw [List.length_append, hsl] at hm1
    have := Wire.int_len (s.size : Int)
    omega
  have HM := Lib.hid hm1
  clear hm1
  go_wp2_with fail
  refine (rNew_any _ _ _ _ _ _ hm1' hO1.reads).mono ?_
  rintro e w2 ⟨g, rfl, hg, hr2, hb2⟩
  have hB2 := hb1.trans (hb2.mono hb1.size)
  have hgw : w.heap.size ≤ g := Nat.le_trans hb1.size hg
  clear hO1 hb1 hb2 hm1'
  have HL := Lib.hid hsl
  obtain ⟨T, S, hT, hok, hTT⟩ : ∃ T S, Wire.textS most (some (Wire.text s.data.toList)) = (T, S) ∧ decide ((s.size : Int) ≤ most) = Wire.okS S ∧ Value.string (txt T) = if Wire.okS S = true then Value.string s else Value.string (txt []) := by
    by_cases h : (s.size : Int) ≤ most
    · have := Wire.textS_text (most := most) s.data.toList [] (by omega) (by rw [hsl]; exact h)
      rw [List.append_nil] at this
      exact ⟨_, _, this, by simp [Wire.okS, h], rfl⟩
    · have := Wire.textS_more (most := most) s.data.toList [] (by omega) (by rw [hsl]; exact h)
      rw [List.append_nil] at this
      exact ⟨_, _, this, by simp [Wire.okS]; omega, rfl⟩
  have HT := Lib.hid hT
  clear hT hsl
  go_wp2_with fail
  refine (rText_any _ _ _ _ hr2).mono ?_
  rintro e w3 ⟨rfl, hr3, hg3⟩
  rw [HT.out] at hr3 ⊢
  have hB3 := only_new hB2 hg3 hgw hB2.size
  clear hr2 hg3 hB2
  have hk : Wire.okS S = true ∨ Wire.okS S = false := by cases Wire.okS S <;> simp
  simp only [hTT]
  clear hTT
  have hOk := rOk_any _ _ _ hr3
  clear hr3
  go_upto_region 3 with fail
  go_cut [8, 42] (fun _ u wx => u = .bool false ∧ Below w.heap.size w wx)
  case first =>
    rcases hk with hk | hk
    · rw [hk] at hok hOk
      simp only [hk, if_true]
      go_wp2_with (first
        | (go_at_call 38; refine hOk.mono ?_; rintro e w' ⟨rfl, rfl⟩))
      go_meet
      exact ⟨rfl, hB3⟩
    · rw [hk] at hok hOk
      simp only [hk, Bool.false_eq_true, if_false]
      go_wp2_with (first
        | (go_at_call 38; refine hOk.mono ?_; rintro e w' ⟨rfl, rfl⟩))
      go_meet
      exact ⟨rfl, hB3⟩
  case rest =>
    clear hOk hok hk HT hB3 HL hg hgw
    obtain ⟨rfl, hcut⟩ := hcut
    go_wp2_with fail
    refine (putInt_any none 0 0 [] n _ (by omega) (by omega) hn Reads.none_).mono ?_
    rintro e w4 ⟨A4, m4, c4, rfl, hO4, hb4⟩
    rw [List.nil_append] at hO4
    have hm4 : m4 ≤ 10 := by
      have := hO4.len
      have := Wire.int_len n
      omega
    have hB4 := hcut.trans (hb4.mono hcut.size)
    go_wp2_with (at_builtin; refine app_grow _ rfl (.tmp 44) (.tmp 45) rfl _ _ m4 _ rfl (.inl (hO4.alloc _)) _ ⟨w4.heap.size, 0, none⟩ 3 3 [1, 2, 3] rfl (reads_new w4 [1, 2, 3] _ _ _ rfl 3 rfl) (by decide) (by omega) (Nat.le_trans hb4.size (by simp)) ?_; intro A5 c5 w5 hO5 hb5)
    go_wp2_with fail
    refine (rNew_any _ _ _ _ _ _ (by omega) hO5.reads).mono ?_
    rintro e w6 ⟨g6, rfl, hg6, hr6, hb6⟩
    have hB5 : Below w.heap.size w w5 := (hB4.alloc hB4.size _).trans (hb5.mono hcut.size)
    have hB6 := hB5.trans (hb6.mono hB5.size)
    have hgw6 : w.heap.size ≤ g6 := Nat.le_trans hB5.size hg6
    clear hO4 hO5 hb4 hb5 hb6 hm4 hB4
    obtain ⟨C, S', hC, hok, hCv⟩ : ∃ C S', Wire.countS most (some (Wire.int n ++ [1, 2, 3])) = (C, S') ∧ Wire.okS S' = (decide (0 ≤ n) && decide (n ≤ most) && decide (n ≤ 3)) ∧ C = if Wire.okS S' = true then n else 0 := by
      rw [Wire.countS_int hn]
      split
      · rename_i h
        refine ⟨_, _, rfl, ?_, by simp [Wire.okS]⟩
        simp [Wire.okS] at h ⊢
        omega
      · rename_i h
        refine ⟨_, _, rfl, ?_, by simp [Wire.okS]⟩
        simp [Wire.okS] at h ⊢
        omega
    have HC := Lib.hid hC
    have HV := Lib.hid hCv
    clear hC hCv
    go_wp2_with fail
    refine (rCount_any _ _ _ _ hr6).mono ?_
    rintro e w7 ⟨rfl, hr7, hg7⟩
    rw [HC.out] at hr7 ⊢
    have hB7 := only_new hB6 hg7 hgw6 hB6.size
    have hOk := rOk_any _ _ _ hr7
    clear hr6 hg7 hB6 hr7
    go_upto_region 7 with fail
    go_cut [11] (fun u wx => u = .bool (Wire.okS S') ∧ wx = w7)
    case first =>
      clear hOk
      cases h1 : decide ((0 : Int) ≤ n) <;> cases h2 : decide (n ≤ most) <;> cases h3 : decide (n ≤ (3 : Int)) <;> (simp only [h1, h2, h3] at hok; go_wp2; go_meet; exact ⟨by rw [hok]; rfl, rfl⟩)
    case rest =>
      obtain ⟨rfl, rfl⟩ := hcut
      clear hok
      have hk : Wire.okS S' = true ∨ Wire.okS S' = false := by cases Wire.okS S' <;> simp
      rcases hk with hk | hk
      · have hv : C = n := by rw [HV.out, hk]; rfl
        subst hv
        rw [hk] at hOk ⊢
        go_wp2_with (first
          | (go_at_call 38; refine hOk.mono ?_; rintro e w' ⟨rfl, rfl⟩)
          | (go_at_call 30; refine (awake3_any _).mono ?_; rintro e w8 ⟨rfl, hb8⟩))
        go_ret
        exact ⟨rfl, hB7.trans (hb8.mono hB7.size)⟩
      · have hv : C = 0 := by rw [HV.out, hk]; rfl
        subst hv
        rw [hk] at hOk ⊢
        by_cases h0 : n = 0
        · subst h0
          go_wp2_with (first
            | (go_at_call 38; refine hOk.mono ?_; rintro e w' ⟨rfl, rfl⟩)
            | (go_at_call 30; refine (awake3_any _).mono ?_; rintro e w8 ⟨rfl, hb8⟩))
          go_ret
          exact ⟨rfl, hB7.trans (hb8.mono hB7.size)⟩
        · have h1 : ((0 : Int) == n) = false := by simp; omega
          have h2 : (n == (0 : Int)) = false := by simp; omega
          go_wp2_with (first
            | (go_at_call 38; refine hOk.mono ?_; rintro e w' ⟨rfl, rfl⟩)
            | (go_at_call 30; refine (awake3_any _).mono ?_; rintro e w8 ⟨rfl, hb8⟩))
          go_ret
          exact ⟨rfl, hB7.trans (hb8.mono hB7.size)⟩
end Go.Proofs.Ytpaibalemjkkcaa
