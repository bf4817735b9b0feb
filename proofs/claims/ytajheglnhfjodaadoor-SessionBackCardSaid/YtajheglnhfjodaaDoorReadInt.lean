/- The walk of the Reader's Int. No condition. -/
import Derived.Test.YtajheglnhfjodaaDoorReader
namespace Go.Proofs.YtajheglnhfjodaaDoor
set_option linter.unusedVariables false
open Go.RowKit

/-- the frame at the jump -/
def JumpFrame (g : Nat) (a : Act) : Prop := ∃ (u2 u3 u4 u5 u6 u7 u8 u9 u10 u11 u12 u13 u14 u15 u16 u17 u18 u19 u20 u21 u22 u23 u24 u25 u26 u27 u28 u29 u30 u31 u32 u33 u34 u35 u36 u37 u38 u39 u40 u41 u42 u43 u44 u45 u46 u47 u48 u49 u50 u51 u52 u53 u54 u55 u56 u57 u58 u59 u60 u61 u62 u63 u64 u65 u66 u67 u68 u69 u70 u71 u72 u73 u74 u75 u76 u77 u78 u79 u80 : Value), a = { tmps := #[.pointer (some ⟨g, 0, none⟩), undef, u2, u3, u4, u5, u6, u7, u8, u9, u10, u11, u12, u13, u14, u15, u16, u17, u18, u19, u20, u21, u22, u23, u24, u25, u26, u27, u28, u29, u30, u31, u32, u33, u34, u35, u36, u37, u38, u39, u40, u41, u42, u43, u44, u45, u46, u47, u48, u49, u50, u51, u52, u53, u54, u55, u56, u57, u58, u59, u60, u61, u62, u63, u64, u65, u66, u67, u68, u69, u70, u71, u72, u73, u74, u75, u76, u77, u78, u79, u80], defers := [] }

set_option maxRecDepth 100000 in
set_option maxHeartbeats 1000000 in
theorem rInt_ok (w : World) (g : Nat) (l : List UInt8) (a0 : Nat) (hr : Rdr 68 w g l a0 false) :
    Calls Tryd.prog 32 #[.pointer (some ⟨g, 0, none⟩)] w fun e w' =>
      e = .returned (.int .i64 (Wire.intS (some (l.drop a0))).1) ∧ RS 68 w' g (Wire.intS (some (l.drop a0))).2 ∧ w.grownBy w' (some g) := by
  obtain ⟨A, n, c, hb, hrd, hnc, hc, han⟩ := hr
  have hgl := hb.lt
  have hln : Hid (l.length = n) := by have := hrd.1; rw [bv_length] at this; show _ = _; omega
  go_enter Tryd.func32, Tryd.ntmps32
  go_wp2
  refine wp_scope_jumps 0 (fun a' w' => JumpFrame g a' ∧ Hid (Wire.intS (some (l.drop a0)) = (0, none)) ∧ (∃ (A' : Option Addr) (n' c' p' : Nat), Blk w' g 68 #[.slice A' n' c', .int .i64 (p' : Int), .bool false] ∧ Reads w' g 1 A' n' (bv l) ∧ n' ≤ c' ∧ n' ≤ 4611686018427387904 ∧ p' ≤ n') ∧ w.grownBy w' (some g)) (fun _ _ => 0) rfl ?_ ?_
  case refine_2 =>
    rintro a' w' ⟨⟨u2, u3, u4, u5, u6, u7, u8, u9, u10, u11, u12, u13, u14, u15, u16, u17, u18, u19, u20, u21, u22, u23, u24, u25, u26, u27, u28, u29, u30, u31, u32, u33, u34, u35, u36, u37, u38, u39, u40, u41, u42, u43, u44, u45, u46, u47, u48, u49, u50, u51, u52, u53, u54, u55, u56, u57, u58, u59, u60, u61, u62, u63, u64, u65, u66, u67, u68, u69, u70, u71, u72, u73, u74, u75, u76, u77, u78, u79, u80, rfl⟩, HI, ⟨A', n', c', p', hbj, hrj, hnj, hcj, hpj⟩, hgj⟩
    have h0 := hbj.cell 0
    have h1 := hbj.cell 1
    have h2 := hbj.cell 2
    have f2 := hbj.frozen 2
    have hbk : Blk (w'.setCell ⟨g, 2, none⟩ (.bool true)) g 68 #[.slice A' n' c', .int .i64 (p' : Int), .bool true] := hbj.set_ 2 (.bool true)
    have hgk : w.grownBy (w'.setCell ⟨g, 2, none⟩ (.bool true)) (some g) := only_setCell hgj (.inl rfl) _
    simp at h0 h1 h2
    go_wp2
    simp only [Exit.jump]
    go_ret
    rw [HI.out]
    exact ⟨rfl, RS.mk hbk (hrj.only (only_setCell (only_refl w' g) (.inl rfl) _) (Nat.le_of_lt hbj.lt) (Nat.le_refl _)) hnj hcj hpj rfl, hgk⟩
  go_wp2
  go_loopw [3, 4, 5] (fun u i _ wr => ∃ (k q p : Nat), u = .int .u64 (q : Int) ∧ i = .int .i64 (k : Int) ∧ k ≤ 9 ∧ Hid (q < 128 ^ k) ∧ Hid (p = a0 + k) ∧ p ≤ n ∧ Blk wr g 68 #[.slice A n c, .int .i64 (p : Int), .bool false] ∧
      Hid (Wire.dec 9 true (l.drop a0) = (Wire.dec (9 - k) (decide (k = 0)) (l.drop p)).map fun r => (q + 128 ^ k * r.1, r.2)) ∧ w.grownBy wr (some g)) (fun _ i _ _ => 9 - (intOf i).toNat)
  case atStart => exact ⟨0, 0, a0, rfl, rfl, by omega, by show _ < _; simp, rfl, han, hb, by show _ = _; simp, only_refl w g⟩
  case round =>
    obtain ⟨k, q, p, rfl, rfl, hk, hq, HP, hak, hbw, HD, hgr⟩ := hrel
    have h0 := hbw.cell 0
    have h1 := hbw.cell 1
    have h2 := hbw.cell 2
    have f1 := hbw.frozen 1
    have f2 := hbw.frozen 2
    have hszr := hgr.size
    simp at h0 h1 h2
    have t1 : decide ((k : Int) < 10) = true := by simp; omega
    by_cases hlt : p < n
    · obtain ⟨ad, u, hAd, _, hx, hcx⟩ := (hrd.only hgr (by omega) (Nat.le_refl _)).at_ hlt
      obtain ⟨x, hx', rfl⟩ := bv_at hx
      subst hAd
      have hcw : wr.cell? (ad.add p) = some (.int .u8 (x.toNat : Int)) := hcx
      have hld : l.drop p = x :: l.drop (p + 1) := by
        have e := List.drop_eq_getElem_cons (l := l) (i := p) (by have := hln.out; omega)
        rw [e]
        congr 1
        have := List.getElem?_eq_some_iff.1 hx'
        exact this.2
      have HL := Lib.hid hld
      clear hx' hx hcx hld
      have hways : (k = 9 ∧ 1 < x.toNat) ∨ (k = 9 ∧ x.toNat = 0) ∨ (k < 9 ∧ 0 < k ∧ x.toNat = 0) ∨ (k = 9 ∧ x.toNat = 1) ∨ (k < 9 ∧ 0 < k ∧ 0 < x.toNat ∧ x.toNat < 128) ∨ (k = 0 ∧ x.toNat < 128) ∨ (k < 9 ∧ 0 < k ∧ 128 ≤ x.toNat) ∨ (k = 0 ∧ 128 ≤ x.toNat) := by have := x.toNat_lt; omega
      have hbq : ∀ N, Blk ((wr.drewN N).setCell ⟨g, 1, none⟩ (.int .i64 ((p : Int) + 1))) g 68 #[.slice (some ad) n c, .int .i64 ((p + 1 : Nat) : Int), .bool false] := fun N => (hbw.drewN N).set_ 1 (.int .i64 ((p : Int) + 1))
      have hgq : ∀ N, w.grownBy ((wr.drewN N).setCell ⟨g, 1, none⟩ (.int .i64 ((p : Int) + 1))) (some g) := fun N => only_setCell (only_drewN hgr N) (.inl rfl) _
      rcases hways with hway | hway | hway | hway | hway | hway | hway | hway
      · have HW := Lib.hid hway
        have t9 : ((k : Int) == 9) = true := by rw [beq_iff_eq]; omega
        have u1 : decide ((1 : Int) < (x.toNat : Int)) = true := by simp; omega
        clear hway
        go_wp2
        go_quiet (fail)
        go_wp2
        go_quiet (fail)
        go_wp2
        go_step3
        have hde : Wire.intS (some (l.drop a0)) = (0, none) := by
          have hw := HW.out
          apply Wire.intS_none
          rw [HD.out, HL.out, Wire.dec_stop (by simp; omega)]
          rfl
        refine ⟨rfl, ?_, hde, ⟨some ad, n, c, p + 1, hbq _, hrd.only (hgq _) (by omega) (Nat.le_refl _), hnc, hc, by omega⟩, hgq _⟩
        unfold JumpFrame
        repeat apply Exists.intro
        rfl
      · have HW := Lib.hid hway
        have t9 : ((k : Int) == 9) = true := by rw [beq_iff_eq]; omega
        have u1 : decide ((1 : Int) < (x.toNat : Int)) = false := by simp; omega
        have u0 : decide ((0 : Int) < (k : Int)) = true := by simp; omega
        have u0' : decide (0 < k) = true := by simp; omega
        have uz : ((x.toNat : Int) == 0) = true := by rw [beq_iff_eq]; omega
        clear hway
        go_wp2
        go_quiet (fail)
        go_wp2
        go_quiet (fail)
        go_wp2
        go_step3
        have hde : Wire.intS (some (l.drop a0)) = (0, none) := by
          have hw := HW.out
          apply Wire.intS_none
          rw [HD.out, HL.out, Wire.dec_stop (by simp; omega)]
          rfl
        refine ⟨rfl, ?_, hde, ⟨some ad, n, c, p + 1, hbq _, hrd.only (hgq _) (by omega) (Nat.le_refl _), hnc, hc, by omega⟩, hgq _⟩
        unfold JumpFrame
        repeat apply Exists.intro
        rfl
      · have HW := Lib.hid hway
        have t9 : ((k : Int) == 9) = false := by rw [beq_eq_false_iff_ne]; omega
        have u0 : decide ((0 : Int) < (k : Int)) = true := by simp; omega
        have u0' : decide (0 < k) = true := by simp; omega
        have uz : ((x.toNat : Int) == 0) = true := by rw [beq_iff_eq]; omega
        clear hway
        go_wp2
        go_quiet (fail)
        go_wp2
        go_quiet (fail)
        go_wp2
        go_step3
        have hde : Wire.intS (some (l.drop a0)) = (0, none) := by
          have hw := HW.out
          apply Wire.intS_none
          rw [HD.out, HL.out, Wire.dec_stop (by simp; omega)]
          rfl
        refine ⟨rfl, ?_, hde, ⟨some ad, n, c, p + 1, hbq _, hrd.only (hgq _) (by omega) (Nat.le_refl _), hnc, hc, by omega⟩, hgq _⟩
        unfold JumpFrame
        repeat apply Exists.intro
        rfl
      · have HW := Lib.hid hway
        have t9 : ((k : Int) == 9) = true := by rw [beq_iff_eq]; omega
        have u1 : decide ((1 : Int) < (x.toNat : Int)) = false := by simp; omega
        have u0 : decide ((0 : Int) < (k : Int)) = true := by simp; omega
        have u0' : decide (0 < k) = true := by simp; omega
        have uz : ((x.toNat : Int) == 0) = false := by rw [beq_eq_false_iff_ne]; omega
        have u8 : decide ((x.toNat : Int) < 128) = true := by simp; omega
        obtain ⟨y, z, s, hst, hse, hs64⟩ := intStep x k q hk hq.out (by omega)
        obtain ⟨e1, e2, e3⟩ := hst
        have HSE := Lib.hid hse
        have HS := Lib.hid hs64
        clear hse hs64
        clear hway
        go_wp2
        go_quiet (fail)
        go_wp2
        go_quiet (fail)
        go_wp2
        rw [uz_go HS.out]
        simp only [Exit.jump]
        go_ret
        have hde : Wire.intS (some (l.drop a0)) = (Wire.uz s, some (l.drop (p + 1))) := by
          have hw := HW.out
          apply Wire.intS_some
          rw [HD.out, HL.out, Wire.dec_end (by omega) (by simp; omega) (by omega), HSE.out, Nat.mod_eq_of_lt (by omega)]
          rfl
        rw [hde]
        exact ⟨rfl, RS.mk (p := p + 1) (hbq _) (hrd.only (hgq _) (by omega) (Nat.le_refl _)) hnc hc (by omega) rfl, hgq _⟩
      · have HW := Lib.hid hway
        have t9 : ((k : Int) == 9) = false := by rw [beq_eq_false_iff_ne]; omega
        have u0 : decide ((0 : Int) < (k : Int)) = true := by simp; omega
        have u0' : decide (0 < k) = true := by simp; omega
        have uz : ((x.toNat : Int) == 0) = false := by rw [beq_eq_false_iff_ne]; omega
        have u8 : decide ((x.toNat : Int) < 128) = true := by simp; omega
        obtain ⟨y, z, s, hst, hse, hs64⟩ := intStep x k q hk hq.out (by omega)
        obtain ⟨e1, e2, e3⟩ := hst
        have HSE := Lib.hid hse
        have HS := Lib.hid hs64
        clear hse hs64
        clear hway
        go_wp2
        go_quiet (fail)
        go_wp2
        go_quiet (fail)
        go_wp2
        rw [uz_go HS.out]
        simp only [Exit.jump]
        go_ret
        have hde : Wire.intS (some (l.drop a0)) = (Wire.uz s, some (l.drop (p + 1))) := by
          have hw := HW.out
          apply Wire.intS_some
          rw [HD.out, HL.out, Wire.dec_end (by omega) (by simp; omega) (by omega), HSE.out, Nat.mod_eq_of_lt (by omega)]
          rfl
        rw [hde]
        exact ⟨rfl, RS.mk (p := p + 1) (hbq _) (hrd.only (hgq _) (by omega) (Nat.le_refl _)) hnc hc (by omega) rfl, hgq _⟩
      · have HW := Lib.hid hway
        have t9 : ((k : Int) == 9) = false := by rw [beq_eq_false_iff_ne]; omega
        have u0 : decide ((0 : Int) < (k : Int)) = false := by simp; omega
        have u0' : decide (0 < k) = false := by simp; omega
        have u8 : decide ((x.toNat : Int) < 128) = true := by simp; omega
        obtain ⟨y, z, s, hst, hse, hs64⟩ := intStep x k q hk hq.out (by omega)
        obtain ⟨e1, e2, e3⟩ := hst
        have HSE := Lib.hid hse
        have HS := Lib.hid hs64
        clear hse hs64
        clear hway
        go_wp2
        go_quiet (fail)
        go_wp2
        go_quiet (fail)
        go_wp2
        rw [uz_go HS.out]
        simp only [Exit.jump]
        go_ret
        have hde : Wire.intS (some (l.drop a0)) = (Wire.uz s, some (l.drop (p + 1))) := by
          have hw := HW.out
          apply Wire.intS_some
          rw [HD.out, HL.out, Wire.dec_end (by omega) (by simp; omega) (by omega), HSE.out, Nat.mod_eq_of_lt (by omega)]
          rfl
        rw [hde]
        exact ⟨rfl, RS.mk (p := p + 1) (hbq _) (hrd.only (hgq _) (by omega) (Nat.le_refl _)) hnc hc (by omega) rfl, hgq _⟩
      · have HW := Lib.hid hway
        have t9 : ((k : Int) == 9) = false := by rw [beq_eq_false_iff_ne]; omega
        have u0 : decide ((0 : Int) < (k : Int)) = true := by simp; omega
        have u0' : decide (0 < k) = true := by simp; omega
        have uz : ((x.toNat : Int) == 0) = false := by rw [beq_eq_false_iff_ne]; omega
        have u8 : decide ((x.toNat : Int) < 128) = false := by simp; omega
        obtain ⟨y, z, s, hst, hse, hs64⟩ := intStep x k q hk hq.out (by omega)
        obtain ⟨e1, e2, e3⟩ := hst
        have HSE := Lib.hid hse
        have HS := Lib.hid hs64
        clear hse hs64
        clear hway
        go_wp2
        go_quiet (fail)
        go_wp2
        go_quiet (fail)
        go_wp2
        go_roundw
        case rel =>
          have hw := HW.out
          have hs := HSE.out
          have hq' := hq.out
          have hp' := HP.out
          have hxm : x.toNat % 128 = x.toNat - 128 := by have := x.toNat_lt; omega
          refine ⟨k + 1, s, p + 1, rfl, by go_num, by omega, ?_, ?_, by omega, hbq _, ?_, hgq _⟩
          · show s < 128 ^ (k + 1)
            have h7 : 128 ^ k * (x.toNat % 128) ≤ 128 ^ k * 127 := Nat.mul_le_mul (Nat.le_refl _) (by omega)
            rw [Nat.pow_succ]
            omega
          · show p + 1 = a0 + (k + 1)
            omega
          · show _ = _
            rw [HD.out, HL.out, show 9 - k = (9 - (k + 1)) + 1 from by omega, Wire.dec_more (by omega), Option.map_map, decide_eq_false (by omega)]
            congr 1
            funext r
            simp only [Function.comp_apply, Prod.mk.injEq, and_true]
            rw [hs, hxm, Nat.pow_succ, Nat.mul_add, ← Nat.mul_assoc, Nat.add_assoc]
        case measure =>
          have hw := HW.out
          simp [intOf]; omega
      · have HW := Lib.hid hway
        have t9 : ((k : Int) == 9) = false := by rw [beq_eq_false_iff_ne]; omega
        have u0 : decide ((0 : Int) < (k : Int)) = false := by simp; omega
        have u0' : decide (0 < k) = false := by simp; omega
        have u8 : decide ((x.toNat : Int) < 128) = false := by simp; omega
        obtain ⟨y, z, s, hst, hse, hs64⟩ := intStep x k q hk hq.out (by omega)
        obtain ⟨e1, e2, e3⟩ := hst
        have HSE := Lib.hid hse
        have HS := Lib.hid hs64
        clear hse hs64
        clear hway
        go_wp2
        go_quiet (fail)
        go_wp2
        go_quiet (fail)
        go_wp2
        go_roundw
        case rel =>
          have hw := HW.out
          have hs := HSE.out
          have hq' := hq.out
          have hp' := HP.out
          have hxm : x.toNat % 128 = x.toNat - 128 := by have := x.toNat_lt; omega
          refine ⟨k + 1, s, p + 1, rfl, by go_num, by omega, ?_, ?_, by omega, hbq _, ?_, hgq _⟩
          · show s < 128 ^ (k + 1)
            have h7 : 128 ^ k * (x.toNat % 128) ≤ 128 ^ k * 127 := Nat.mul_le_mul (Nat.le_refl _) (by omega)
            rw [Nat.pow_succ]
            omega
          · show p + 1 = a0 + (k + 1)
            omega
          · show _ = _
            rw [HD.out, HL.out, show 9 - k = (9 - (k + 1)) + 1 from by omega, Wire.dec_more (by omega), Option.map_map, decide_eq_false (by omega)]
            congr 1
            funext r
            simp only [Function.comp_apply, Prod.mk.injEq, and_true]
            rw [hs, hxm, Nat.pow_succ, Nat.mul_add, ← Nat.mul_assoc, Nat.add_assoc]
        case measure =>
          have hw := HW.out
          simp [intOf]; omega
    · have hdn : l.drop p = [] := List.drop_eq_nil_of_le (by have := hln.out; omega)
      have HI : Hid (Wire.intS (some (l.drop a0)) = (0, none)) := by
        apply Wire.intS_none
        rw [HD.out, hdn]
        cases h : 9 - k <;> rfl
      have t2 : decide ((p : Int) < (n : Int)) = false := by simp; omega
      have t2' : decide (p < n) = false := by simp; omega
      clear hdn
      have hbk : ∀ N, Blk ((wr.drewN N).setCell ⟨g, 2, none⟩ (.bool true)) g 68 #[.slice A n c, .int .i64 (p : Int), .bool true] := fun N => (hbw.drewN N).set_ 2 (.bool true)
      have hgk : ∀ N, w.grownBy ((wr.drewN N).setCell ⟨g, 2, none⟩ (.bool true)) (some g) := fun N => only_setCell (only_drewN hgr N) (.inl rfl) _
      go_wp2
      go_quiet (fail)
      go_wp2
      go_step3
      go_wp2
      simp only [Exit.jump]
      go_ret
      rw [HI.out]
      exact ⟨rfl, RS.mk (hbk _) (hrd.only (hgk _) (by omega) (Nat.le_refl _)) hnc hc hak rfl, hgk _⟩

set_option maxRecDepth 100000 in
set_option maxHeartbeats 400000 in
theorem rInt_bad (w : World) (g : Nat) (l : List UInt8) (a0 : Nat) (hr : Rdr 68 w g l a0 true) :
    Calls Tryd.prog 32 #[.pointer (some ⟨g, 0, none⟩)] w fun e w' =>
      e = .returned (.int .i64 0) ∧ RS 68 w' g none ∧ w.grownBy w' (some g) := by
  obtain ⟨A, n, c, hb, hrd, hnc, hc, han⟩ := hr
  have h0 := hb.cell 0
  have h1 := hb.cell 1
  have h2 := hb.cell 2
  have f2 := hb.frozen 2
  have hgl := hb.lt
  simp at h0 h1 h2
  have hbk : ∀ N, Blk ((w.drewN N).setCell ⟨g, 2, none⟩ (.bool true)) g 68 #[.slice A n c, .int .i64 (a0 : Int), .bool true] := fun N => (hb.drewN N).set_ 2 (.bool true)
  have hgk : ∀ N, w.grownBy ((w.drewN N).setCell ⟨g, 2, none⟩ (.bool true)) (some g) := fun N => only_setCell (only_drewN (only_refl w g) N) (.inl rfl) _
  go_enter Tryd.func32, Tryd.ntmps32
  go_wp2
  go_step3
  go_wp2
  refine wp_loop_rounds 1 ?_
  rw [rounds_succ]
  go_wp2
  go_quiet (fail)
  go_wp2
  go_step3
  go_wp2
  rw [Exit.noGoto_ret]
  go_ret
  exact ⟨rfl, RS.mk (hbk _) (hrd.only (hgk _) (by omega) (Nat.le_refl _)) hnc hc han rfl, hgk _⟩

theorem rInt_any (w : World) (g : Nat) (s : Option (List UInt8)) (hr : RS 68 w g s) :
    Calls Tryd.prog 32 #[.pointer (some ⟨g, 0, none⟩)] w fun e w' =>
      e = .returned (.int .i64 (Wire.intS s).1) ∧ RS 68 w' g (Wire.intS s).2 ∧ w.grownBy w' (some g) := by
  obtain ⟨l, p, bad, h, rfl⟩ := hr
  cases bad
  · exact rInt_ok w g l p h
  · exact rInt_bad w g l p h
end Go.Proofs.YtajheglnhfjodaaDoor
