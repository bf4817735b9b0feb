/- The law WireBack. No condition. -/
import Derived.Test.YtpaibalemjkkcaaWireLaws
import Derived.Test.YtpaibalemjkkcaaMore
import Derived.Test.YtpaibalemjkkcaaRegC
namespace Go.Proofs.Ytpaibalemjkkcaa
set_option linter.unusedVariables false
open Go.RowKit

set_option maxRecDepth 100000 in
set_option maxHeartbeats 1600000 in
theorem wireBack_walk (A : Option Addr) (n c : Nat) (l : List UInt8) (w : World) (hb : InBytes w A n c l) :
    Calls Try.prog 10 #[.slice A n c] w fun e w' => e = .returned (.bool true) ∧ Below w.heap.size w w' := by
  have hll := Lib.hid hb.len
  obtain ⟨hrd, hnc, hc⟩ := hb
  go_enter Try.func10, Try.ntmps10
  go_wp2_with fail
  refine (bytes_any _ _ _ _ l _ (by omega) hrd).mono ?_
  rintro e w1 ⟨A1, c1, rfl, hO1, hB1⟩
  go_wp2_with fail
  refine (rNew_any _ _ _ _ l _ (by omega) hO1.reads).mono ?_
  rintro e w2 ⟨g, rfl, hg, hr2, hb2⟩
  have hB2 := hB1.trans (hb2.mono hB1.size)
  have hgw : w.heap.size ≤ g := Nat.le_trans hB1.size hg
  clear hO1 hb2 hB1
  obtain ⟨v, s', hI⟩ : ∃ v s', Wire.intS (some l) = (v, s') := ⟨_, _, rfl⟩
  have HI := Lib.hid hI
  clear hI
  go_wp2_with fail
  refine (rInt_any _ _ _ hr2).mono ?_
  rintro e w3 ⟨rfl, hr3, hg3⟩
  rw [HI.out] at hr3 ⊢
  have hB3 := only_new hB2 hg3 hgw hB2.size
  clear hr2 hg3 hB2
  have hlt3 := hr3.lt
  go_wp2_with fail
  refine (rOk_any _ _ _ hr3).mono ?_
  rintro e w' ⟨rfl, rfl⟩
  go_upto_if 16 with fail
  go_cut [2, 5] (fun _ _ wx => Below w.heap.size w wx)
  case first =>
    cases s' with
    | none =>
      have hv0 := Wire.intS_bad HI.out
      subst hv0
      go_wp2
      go_meet
      exact hB3
    | some r =>
      obtain ⟨hlr, hv⟩ := Wire.intS_back HI.out
      have HL := Lib.hid hlr
      clear hlr
      go_wp2_with fail
      refine (putInt_any none 0 0 [] v _ (by omega) (by omega) hv Reads.none_).mono ?_
      rintro e w4 ⟨A4, m4, c4, rfl, hO4, hb4⟩
      rw [List.nil_append] at hO4
      have hr4 := hr3.below hb4 hlt3
      have hB4 := hB3.trans (hb4.mono hB3.size)
      have hrd4 := (hrd.below hB4).more hB4.size
      have hm4 := Lib.hid hO4.len
      have hlen : m4 ≤ n ∧ Wire.leftS (some r) = n - m4 ∧ l.take m4 = Wire.int v := by
        have h1 := hll.out
        have h2 := hm4.out
        have h3 := HL.out
        rw [h3, List.length_append] at h1
        refine ⟨by omega, by simp [Wire.leftS]; omega, ?_⟩
        rw [h3, List.take_append_of_le_length (by omega), List.take_of_length_le (by omega)]
      obtain ⟨hmn, hleft, htake⟩ := hlen
      have HLF : Hid (Wire.leftS (some r) = n - m4) := hleft
      have hs1 := fun W => slice_hi W A n c m4 (by omega)
      have hrt := hrd4.take (k := m4) hmn
      rw [htake] at hrt
      have k1 := fun N => run_string_of (P := Try.prog) (w4.drewN N) Try.underlying23 Try.underlying5 Try.underlying9 c (hrt.drewN N)
      have k2 := fun N => run_string_of (P := Try.prog) (w4.drewN N) Try.underlying23 Try.underlying5 Try.underlying9 c4 (hO4.reads.drewN N)
      have t1 : decide ((n : Int) < (m4 : Int)) = false := by simp; omega
      have t1' : decide (n < m4) = false := by simp; omega
      have hsub : (n : Int) - (m4 : Int) = ((n - m4 : Nat) : Int) := by omega
      have tne : ((((n - m4 : Nat) : Int)) != ((n - m4 : Nat) : Int)) = false := by simp
      have hleft4 := fun N => rLeft_any _ g _ (hr4.drewN N)
      rw [hleft] at hleft4
      clear hleft htake hrt hrd4 hO4 hb4 hr4 hr3 hB3 hv
      go_wp2
      go_quiet ((go_at_call 39; exact Calls.quiet_of (hleft4 _)))
      go_wp2
      go_meet
      exact below_drewN hB4 _
  case rest =>
    clear hr3 hB3 HI hlt3 hg hgw
    have hrdc := (hrd.below hcut).more hcut.size
    go_wp2_with fail
    refine (bytes_any _ _ _ _ l _ (by omega) hrdc).mono ?_
    rintro e w5 ⟨A5, c5, rfl, hO5, hb5⟩
    have hB5 := hcut.trans (hb5.mono hcut.size)
    go_wp2_with fail
    refine (rNew_any _ _ _ _ l _ (by omega) hO5.reads).mono ?_
    rintro e w6 ⟨g6, rfl, hg6, hr6, hb6⟩
    have hB6 := hB5.trans (hb6.mono hB5.size)
    have hgw6 : w.heap.size ≤ g6 := Nat.le_trans hB5.size hg6
    clear hO5 hb5 hb6 hB5 hrdc
    obtain ⟨t, s6, hT⟩ : ∃ t s6, Wire.textS (n : Int) (some l) = (t, s6) := ⟨_, _, rfl⟩
    have HT := Lib.hid hT
    clear hT
    go_wp2_with fail
    refine (rText_any _ _ _ _ hr6).mono ?_
    rintro e w7 ⟨rfl, hr7, hg7⟩
    rw [HT.out] at hr7 ⊢
    have hB7 := only_new hB6 hg7 hgw6 hB6.size
    have hlt7 := hr7.lt
    clear hr6 hg7 hB6
    go_wp2_with fail
    refine (rOk_any _ _ _ hr7).mono ?_
    rintro e w' ⟨rfl, rfl⟩
    cases s6 with
    | none =>
      have ht0 := Wire.textS_bad HT.out
      subst ht0
      go_wp2_with fail
      refine (awake3_any _).mono ?_
      rintro e w8 ⟨rfl, hb8⟩
      go_wp2
      go_ret
      exact ⟨rfl, hB7.trans (hb8.mono hB7.size)⟩
    | some r =>
      obtain ⟨hlr, htn⟩ := Wire.textS_back HT.out
      have HL := Lib.hid hlr
      clear hlr
      have hts : (txt t).size ≤ n := by rw [txt_size]; omega
      go_wp2_with fail
      refine (putText_any none 0 0 [] (txt t) _ (by omega) (by omega) Reads.none_).mono ?_
      rintro e w8 ⟨A8, m8, c8, rfl, hO8, hb8⟩
      rw [List.nil_append, txt_list] at hO8
      have hr8 := hr7.below hb8 hlt7
      have hB8 := hB7.trans (hb8.mono hB7.size)
      have hrd8 := (hrd.below hB8).more hB8.size
      have hm8 := Lib.hid hO8.len
      have hlen : m8 ≤ n ∧ Wire.leftS (some r) = n - m8 ∧ l.take m8 = Wire.text t := by
        have h1 := hll.out
        have h2 := hm8.out
        have h3 := HL.out
        rw [h3, List.length_append] at h1
        refine ⟨by omega, by simp [Wire.leftS]; omega, ?_⟩
        rw [h3, List.take_append_of_le_length (by omega), List.take_of_length_le (by omega)]
      obtain ⟨hmn, hleft, htake⟩ := hlen
      obtain ⟨d, hd⟩ : ∃ d : Nat, d = n - m8 := ⟨_, rfl⟩
      rw [← hd] at hleft
      have hs1 := fun W => slice_hi W A n c m8 (by omega)
      have hrt := hrd8.take (k := m8) hmn
      rw [htake] at hrt
      have k1 : ∀ W, Below w8.heap.size w8 W → (convert 23 9 (.slice A m8 c)).run Try.prog W = .ok (.string (txt (Wire.text t))) W :=
        fun W hW => run_string_of (P := Try.prog) W Try.underlying23 Try.underlying5 Try.underlying9 c (hrt.below hW)
      have k2 : ∀ W, Below w8.heap.size w8 W → (convert 23 9 (.slice A8 m8 c8)).run Try.prog W = .ok (.string (txt (Wire.text t))) W :=
        fun W hW => run_string_of (P := Try.prog) W Try.underlying23 Try.underlying5 Try.underlying9 c8 (hO8.reads.below hW)
      have t1 : decide ((m8 : Int) ≤ (n : Int)) = true := by simp; omega
      have t1' : decide (m8 ≤ n) = true := by simp; omega
      have hsub : (n : Int) - (m8 : Int) = (d : Int) := by omega
      have hlt8 := hr8.lt
      have hleft8 : ∀ W, Below w8.heap.size w8 W → Calls Try.prog 39 #[.pointer (some ⟨g6, 0, none⟩)] W fun e w' => e = .returned (.int .i64 (d : Int)) ∧ ∃ N, w' = W.drewN N := fun W hW => by
        have := rLeft_any W g6 _ (hr8.below hW hlt8)
        rwa [hleft] at this
      have H8 := Lib.hid hleft8
      clear hleft8 hleft hd htake hrt hrd8 hO8 hb8 hr8 hr7 hB7
      go_wp2
      refine region_class (by kernel_rfl) (by kernel_rfl) (fun hC => ?_)
      repeat (go_big_quiet_step (first
          | (intro hW; rw [k1 _ hW]; exact ⟨rfl, rfl⟩)
          | (intro hW; rw [k2 _ hW]; exact ⟨rfl, rfl⟩)
          | (intro hW; go_at_call 39; exact (H8.out _ hW).mono fun e w' ⟨he, N, hN⟩ => ⟨he, by rw [hN]; exact below_drewN hW N⟩)
          | (intro hW; go_at_call 30; exact (awake3_any _).mono fun e w' ⟨he, hb⟩ => ⟨he, hW.trans (hb.mono hW.size)⟩)))
      refine wpQuiet_nil ?_
      intro W hW
      go_wp2
      go_ret
      exact ⟨rfl, hB8.trans (hW.mono hB8.size)⟩
end Go.Proofs.Ytpaibalemjkkcaa
