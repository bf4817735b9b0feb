/- The walk of the reference's Int. No condition. -/
import Derived.Test.YtajheglnhfjodaaDoorReader
namespace Go.Proofs.YtajheglnhfjodaaDoor
set_option linter.unusedVariables false
open Go.RowKit

structure RefStep (x : UInt8) (k q z s h : Nat) : Prop where
  r1 : IntKind.u64.wrap ((x.toNat : Int) % 128 * 2 ^ (7 * k)) = (z : Int)
  r2 : IntKind.u64.wrap ((q : Int) + (z : Int)) = (s : Int)
  r3 : IntKind.u64.wrap ((s : Int).tdiv 2) = (h : Int)
  r4 : IntKind.u64.wrap ((s : Int) / 2) = (h : Int)
theorem refStep (x : UInt8) (k q : Nat) (hk : k ≤ 9) (hq : q < 128 ^ k) (h9 : k = 9 → x.toNat ≤ 1) : ∃ z s h, RefStep x k q z s h ∧ s = q + 128 ^ k * (x.toNat % 128) ∧ s < 18446744073709551616 ∧ h = s / 2 := by
  obtain ⟨y, z, s, ⟨e1, e2, e3⟩, hs, hs64⟩ := intStep x k q hk hq h9
  have hp : 2 ^ (7 * k) = 128 ^ k := by rw [Nat.pow_mul]
  refine ⟨x.toNat % 128 * 128 ^ k, s, s / 2, ⟨?_, ?_, ?_, ?_⟩, hs, hs64, rfl⟩
  · have e : ((x.toNat : Int) % 128) * 2 ^ (7 * k) = ((x.toNat % 128 * 128 ^ k : Nat) : Int) := by rw [← hp]; simp
    rw [e, IntWalk.u64_in _ (by rw [Nat.mul_comm] at hs; omega)]
  · rw [show ((q : Int) + ((x.toNat % 128 * 128 ^ k : Nat) : Int)) = (s : Int) from by rw [hs, Nat.mul_comm (128 ^ k)]; simp, IntWalk.u64_in _ (by omega)]
  · rw [Int.tdiv_eq_ediv_of_nonneg (by omega), IntWalk.u64_in _ (by omega)]; omega
  · rw [IntWalk.u64_in _ (by omega)]; omega
theorem uz_odd {s h : Nat} (hs : s < 18446744073709551616) (hh : h = s / 2) (ho : ((s : Int) % 2 == 1) = true) : wrap64 (wrap64 (-wrap64 (h : Int)) - 1) = Wire.uz s := by
  have ho' : s % 2 = 1 := by rw [beq_iff_eq] at ho; omega
  subst hh
  unfold Wire.uz
  rw [if_pos ho', IntWalk.wrap64_in ((s / 2 : Nat) : Int) ⟨by omega, by omega⟩, IntWalk.wrap64_in (-((s / 2 : Nat) : Int)) ⟨by omega, by omega⟩, IntWalk.wrap64_in _ ⟨by omega, by omega⟩]
theorem uz_even {s h : Nat} (hs : s < 18446744073709551616) (hh : h = s / 2) (ho : ((s : Int) % 2 == 1) = false) : wrap64 (h : Int) = Wire.uz s := by
  have ho' : ¬ s % 2 = 1 := by rw [beq_eq_false_iff_ne] at ho; omega
  subst hh
  unfold Wire.uz
  rw [if_neg ho', IntWalk.wrap64_in ((s / 2 : Nat) : Int) ⟨by omega, by omega⟩]

set_option maxRecDepth 100000 in
set_option maxHeartbeats 1000000 in
theorem fInt_ok (w : World) (g : Nat) (l : List UInt8) (a0 : Nat) (hr : Rdr 81 w g l a0 false) :
    Calls Tryd.prog 55 #[.pointer (some ⟨g, 0, none⟩)] w fun e w' =>
      e = .returned (.int .i64 (Wire.intS (some (l.drop a0))).1) ∧ RS 81 w' g (Wire.intS (some (l.drop a0))).2 ∧ w.grownBy w' (some g) := by
  obtain ⟨A, n, c, hb, hrd, hnc, hc, han⟩ := hr
  have hgl := hb.lt
  have hln : Hid (l.length = n) := by have := hrd.1; rw [bv_length] at this; show _ = _; omega
  go_enter Tryd.func55, Tryd.ntmps55
  go_wp2
  go_loopw [3, 4, 5] (fun u i _ wr => ∃ (k q p : Nat), u = .int .u64 (q : Int) ∧ i = .int .i64 (k : Int) ∧ k ≤ 9 ∧ Hid (q < 128 ^ k) ∧ Hid (p = a0 + k) ∧ p ≤ n ∧ Blk wr g 81 #[.slice A n c, .int .i64 (p : Int), .bool false] ∧
      Hid (Wire.dec 9 true (l.drop a0) = (Wire.dec (9 - k) (decide (k = 0)) (l.drop p)).map fun r => (q + 128 ^ k * r.1, r.2)) ∧ w.grownBy wr (some g)) (fun _ i _ _ => 9 - (intOf i).toNat)
  case atStart => exact ⟨0, 0, a0, rfl, rfl, by omega, by show _ < _; simp, rfl, han, hb, by show _ = _; simp, only_refl w g⟩
  case round =>
    obtain ⟨k, q, p, rfl, rfl, hk, hq, HP, hak, hbw, HD, hgr⟩ := hrel
    have h0 := hbw.cell 0
    have h1 := hbw.cell 1
    have h2 := hbw.cell 2
    have f1 := hbw.frozen 1
    have f2 := hbw.frozen 2
    have hszr := hgr.size
    simp at h0 h1 h2
    have t1 : decide ((k : Int) < 10) = true := by simp; omega
    by_cases hlt : p < n
    · obtain ⟨ad, u, hAd, _, hx, hcx⟩ := (hrd.only hgr (by omega) (Nat.le_refl _)).at_ hlt
      obtain ⟨x, hx', rfl⟩ := bv_at hx
      subst hAd
      have hcw : wr.cell? (ad.add p) = some (.int .u8 (x.toNat : Int)) := hcx
      have hld : l.drop p = x :: l.drop (p + 1) := by
        have e := List.drop_eq_getElem_cons (l := l) (i := p) (by have := hln.out; omega)
        rw [e]
        congr 1
        have := List.getElem?_eq_some_iff.1 hx'
        exact this.2
      have HL := Lib.hid hld
      clear hx' hx hcx hld
      have hways : (k = 9 ∧ 1 < x.toNat) ∨ (k = 9 ∧ x.toNat = 0) ∨ (k < 9 ∧ 0 < k ∧ x.toNat = 0) ∨ (k = 9 ∧ x.toNat = 1) ∨ (k < 9 ∧ 0 < k ∧ 0 < x.toNat ∧ x.toNat < 128) ∨ (k = 0 ∧ x.toNat < 128) ∨ (k < 9 ∧ 0 < k ∧ 128 ≤ x.toNat) ∨ (k = 0 ∧ 128 ≤ x.toNat) := by have := x.toNat_lt; omega
      have hbq : ∀ N, Blk ((wr.drewN N).setCell ⟨g, 1, none⟩ (.int .i64 ((p : Int) + 1))) g 81 #[.slice (some ad) n c, .int .i64 ((p + 1 : Nat) : Int), .bool false] := fun N => (hbw.drewN N).set_ 1 (.int .i64 ((p : Int) + 1))
      have hgq : ∀ N, w.grownBy ((wr.drewN N).setCell ⟨g, 1, none⟩ (.int .i64 ((p : Int) + 1))) (some g) := fun N => only_setCell (only_drewN hgr N) (.inl rfl) _
      rcases hways with hway | hway | hway | hway | hway | hway | hway | hway
      · have HW := Lib.hid hway
        have t9 : ((k : Int) == 9) = true := by rw [beq_iff_eq]; omega
        have u1 : decide ((1 : Int) < (x.toNat : Int)) = true := by simp; omega
        have hbs : ∀ N, Blk (((wr.drewN N).setCell ⟨g, 1, none⟩ (.int .i64 ((p : Int) + 1))).setCell ⟨g, 2, none⟩ (.bool true)) g 81 #[.slice (some ad) n c, .int .i64 ((p + 1 : Nat) : Int), .bool true] := fun N => (hbq N).set_ 2 (.bool true)
        have hgs : ∀ N, w.grownBy (((wr.drewN N).setCell ⟨g, 1, none⟩ (.int .i64 ((p : Int) + 1))).setCell ⟨g, 2, none⟩ (.bool true)) (some g) := fun N => only_setCell (hgq N) (.inl rfl) _
        clear hway
        go_wp2
        go_quiet (fail)
        go_wp2
        go_quiet (fail)
        go_wp2
        go_ret
        have hde : Wire.intS (some (l.drop a0)) = (0, none) := by
          have hw := HW.out
          apply Wire.intS_none
          rw [HD.out, HL.out, Wire.dec_stop (by simp; omega)]
          rfl
        rw [hde]
        exact ⟨rfl, RS.mk (p := p + 1) (hbs _) (hrd.only (hgs _) (by omega) (Nat.le_refl _)) hnc hc (by omega) rfl, hgs _⟩
      · have HW := Lib.hid hway
        have t9 : ((k : Int) == 9) = true := by rw [beq_iff_eq]; omega
        have u1 : decide ((1 : Int) < (x.toNat : Int)) = false := by simp; omega
        have u0 : decide ((0 : Int) < (k : Int)) = true := by simp; omega
        have u0' : decide (0 < k) = true := by simp; omega
        have uz : ((x.toNat : Int) == 0) = true := by rw [beq_iff_eq]; omega
        have hbs : ∀ N, Blk (((wr.drewN N).setCell ⟨g, 1, none⟩ (.int .i64 ((p : Int) + 1))).setCell ⟨g, 2, none⟩ (.bool true)) g 81 #[.slice (some ad) n c, .int .i64 ((p + 1 : Nat) : Int), .bool true] := fun N => (hbq N).set_ 2 (.bool true)
        have hgs : ∀ N, w.grownBy (((wr.drewN N).setCell ⟨g, 1, none⟩ (.int .i64 ((p : Int) + 1))).setCell ⟨g, 2, none⟩ (.bool true)) (some g) := fun N => only_setCell (hgq N) (.inl rfl) _
        clear hway
        go_wp2
        go_quiet (fail)
        go_wp2
        go_quiet (fail)
        go_wp2
        go_ret
        have hde : Wire.intS (some (l.drop a0)) = (0, none) := by
          have hw := HW.out
          apply Wire.intS_none
          rw [HD.out, HL.out, Wire.dec_stop (by simp; omega)]
          rfl
        rw [hde]
        exact ⟨rfl, RS.mk (p := p + 1) (hbs _) (hrd.only (hgs _) (by omega) (Nat.le_refl _)) hnc hc (by omega) rfl, hgs _⟩
      · have HW := Lib.hid hway
        have t9 : ((k : Int) == 9) = false := by rw [beq_eq_false_iff_ne]; omega
        have u0 : decide ((0 : Int) < (k : Int)) = true := by simp; omega
        have u0' : decide (0 < k) = true := by simp; omega
        have uz : ((x.toNat : Int) == 0) = true := by rw [beq_iff_eq]; omega
        have hbs : ∀ N, Blk (((wr.drewN N).setCell ⟨g, 1, none⟩ (.int .i64 ((p : Int) + 1))).setCell ⟨g, 2, none⟩ (.bool true)) g 81 #[.slice (some ad) n c, .int .i64 ((p + 1 : Nat) : Int), .bool true] := fun N => (hbq N).set_ 2 (.bool true)
        have hgs : ∀ N, w.grownBy (((wr.drewN N).setCell ⟨g, 1, none⟩ (.int .i64 ((p : Int) + 1))).setCell ⟨g, 2, none⟩ (.bool true)) (some g) := fun N => only_setCell (hgq N) (.inl rfl) _
        clear hway
        go_wp2
        go_quiet (fail)
        go_wp2
        go_quiet (fail)
        go_wp2
        go_ret
        have hde : Wire.intS (some (l.drop a0)) = (0, none) := by
          have hw := HW.out
          apply Wire.intS_none
          rw [HD.out, HL.out, Wire.dec_stop (by simp; omega)]
          rfl
        rw [hde]
        exact ⟨rfl, RS.mk (p := p + 1) (hbs _) (hrd.only (hgs _) (by omega) (Nat.le_refl _)) hnc hc (by omega) rfl, hgs _⟩
      · have HW := Lib.hid hway
        have t9 : ((k : Int) == 9) = true := by rw [beq_iff_eq]; omega
        have u1 : decide ((1 : Int) < (x.toNat : Int)) = false := by simp; omega
        have u0 : decide ((0 : Int) < (k : Int)) = true := by simp; omega
        have u0' : decide (0 < k) = true := by simp; omega
        have uz : ((x.toNat : Int) == 0) = false := by rw [beq_eq_false_iff_ne]; omega
        have u8 : decide ((x.toNat : Int) < 128) = true := by simp; omega
        obtain ⟨z, s, h, hst, hse, hs64, hh⟩ := refStep x k q hk hq.out (by omega)
        obtain ⟨r1, r2, r3, r4⟩ := hst
        have HSE := Lib.hid hse
        have HS := Lib.hid hs64
        have HH := Lib.hid hh
        clear hse hs64 hh
        clear hway
        go_wp2
        go_quiet (fail)
        go_wp2
        go_quiet (fail)
        go_wp2
        all_goals
          have hde : Wire.intS (some (l.drop a0)) = (Wire.uz s, some (l.drop (p + 1))) := by
            have hw := HW.out
            apply Wire.intS_some
            rw [HD.out, HL.out, Wire.dec_end (by omega) (by simp; omega) (by omega), HSE.out, Nat.mod_eq_of_lt (by omega)]
            rfl
          rw [hde]
          first
            | rw [uz_odd HS.out HH.out ‹_›]
            | rw [uz_even HS.out HH.out ‹_›]
          go_ret
          exact ⟨rfl, RS.mk (p := p + 1) (hbq _) (hrd.only (hgq _) (by omega) (Nat.le_refl _)) hnc hc (by omega) rfl, hgq _⟩
      · have HW := Lib.hid hway
        have t9 : ((k : Int) == 9) = false := by rw [beq_eq_false_iff_ne]; omega
        have u0 : decide ((0 : Int) < (k : Int)) = true := by simp; omega
        have u0' : decide (0 < k) = true := by simp; omega
        have uz : ((x.toNat : Int) == 0) = false := by rw [beq_eq_false_iff_ne]; omega
        have u8 : decide ((x.toNat : Int) < 128) = true := by simp; omega
        obtain ⟨z, s, h, hst, hse, hs64, hh⟩ := refStep x k q hk hq.out (by omega)
        obtain ⟨r1, r2, r3, r4⟩ := hst
        have HSE := Lib.hid hse
        have HS := Lib.hid hs64
        have HH := Lib.hid hh
        clear hse hs64 hh
        clear hway
        go_wp2
        go_quiet (fail)
        go_wp2
        go_quiet (fail)
        go_wp2
        all_goals
          have hde : Wire.intS (some (l.drop a0)) = (Wire.uz s, some (l.drop (p + 1))) := by
            have hw := HW.out
            apply Wire.intS_some
            rw [HD.out, HL.out, Wire.dec_end (by omega) (by simp; omega) (by omega), HSE.out, Nat.mod_eq_of_lt (by omega)]
            rfl
          rw [hde]
          first
            | rw [uz_odd HS.out HH.out ‹_›]
            | rw [uz_even HS.out HH.out ‹_›]
          go_ret
          exact ⟨rfl, RS.mk (p := p + 1) (hbq _) (hrd.only (hgq _) (by omega) (Nat.le_refl _)) hnc hc (by omega) rfl, hgq _⟩
      · have HW := Lib.hid hway
        have t9 : ((k : Int) == 9) = false := by rw [beq_eq_false_iff_ne]; omega
        have u0 : decide ((0 : Int) < (k : Int)) = false := by simp; omega
        have u0' : decide (0 < k) = false := by simp; omega
        have u8 : decide ((x.toNat : Int) < 128) = true := by simp; omega
        obtain ⟨z, s, h, hst, hse, hs64, hh⟩ := refStep x k q hk hq.out (by omega)
        obtain ⟨r1, r2, r3, r4⟩ := hst
        have HSE := Lib.hid hse
        have HS := Lib.hid hs64
        have HH := Lib.hid hh
        clear hse hs64 hh
        clear hway
        go_wp2
        go_quiet (fail)
        go_wp2
        go_quiet (fail)
        go_wp2
        all_goals
          have hde : Wire.intS (some (l.drop a0)) = (Wire.uz s, some (l.drop (p + 1))) := by
            have hw := HW.out
            apply Wire.intS_some
            rw [HD.out, HL.out, Wire.dec_end (by omega) (by simp; omega) (by omega), HSE.out, Nat.mod_eq_of_lt (by omega)]
            rfl
          rw [hde]
          first
            | rw [uz_odd HS.out HH.out ‹_›]
            | rw [uz_even HS.out HH.out ‹_›]
          go_ret
          exact ⟨rfl, RS.mk (p := p + 1) (hbq _) (hrd.only (hgq _) (by omega) (Nat.le_refl _)) hnc hc (by omega) rfl, hgq _⟩
      · have HW := Lib.hid hway
        have t9 : ((k : Int) == 9) = false := by rw [beq_eq_false_iff_ne]; omega
        have u0 : decide ((0 : Int) < (k : Int)) = true := by simp; omega
        have u0' : decide (0 < k) = true := by simp; omega
        have uz : ((x.toNat : Int) == 0) = false := by rw [beq_eq_false_iff_ne]; omega
        have u8 : decide ((x.toNat : Int) < 128) = false := by simp; omega
        obtain ⟨z, s, h, hst, hse, hs64, hh⟩ := refStep x k q hk hq.out (by omega)
        obtain ⟨r1, r2, r3, r4⟩ := hst
        have HSE := Lib.hid hse
        have HS := Lib.hid hs64
        have HH := Lib.hid hh
        clear hse hs64 hh
        clear hway
        go_wp2
        go_quiet (fail)
        go_wp2
        go_quiet (fail)
        go_wp2
        go_roundw
        case rel =>
          have hw := HW.out
          have hs := HSE.out
          have hq' := hq.out
          have hp' := HP.out
          have hxm : x.toNat % 128 = x.toNat - 128 := by have := x.toNat_lt; omega
          refine ⟨k + 1, s, p + 1, rfl, by go_num, by omega, ?_, ?_, by omega, hbq _, ?_, hgq _⟩
          · show s < 128 ^ (k + 1)
            have h7 : 128 ^ k * (x.toNat % 128) ≤ 128 ^ k * 127 := Nat.mul_le_mul (Nat.le_refl _) (by omega)
            rw [Nat.pow_succ]
            omega
          · show p + 1 = a0 + (k + 1)
            omega
          · show _ = _
            rw [HD.out, HL.out, show 9 - k = (9 - (k + 1)) + 1 from by omega, Wire.dec_more (by omega), Option.map_map, decide_eq_false (by omega)]
            congr 1
            funext r
            simp only [Function.comp_apply, Prod.mk.injEq, and_true]
            rw [hs, hxm, Nat.pow_succ, Nat.mul_add, ← Nat.mul_assoc, Nat.add_assoc]
        case measure =>
          have hw := HW.out
          simp [intOf]; omega
      · have HW := Lib.hid hway
        have t9 : ((k : Int) == 9) = false := by rw [beq_eq_false_iff_ne]; omega
        have u0 : decide ((0 : Int) < (k : Int)) = false := by simp; omega
        have u0' : decide (0 < k) = false := by simp; omega
        have u8 : decide ((x.toNat : Int) < 128) = false := by simp; omega
        obtain ⟨z, s, h, hst, hse, hs64, hh⟩ := refStep x k q hk hq.out (by omega)
        obtain ⟨r1, r2, r3, r4⟩ := hst
        have HSE := Lib.hid hse
        have HS := Lib.hid hs64
        have HH := Lib.hid hh
        clear hse hs64 hh
        clear hway
        go_wp2
        go_quiet (fail)
        go_wp2
        go_quiet (fail)
        go_wp2
        go_roundw
        case rel =>
          have hw := HW.out
          have hs := HSE.out
          have hq' := hq.out
          have hp' := HP.out
          have hxm : x.toNat % 128 = x.toNat - 128 := by have := x.toNat_lt; omega
          refine ⟨k + 1, s, p + 1, rfl, by go_num, by omega, ?_, ?_, by omega, hbq _, ?_, hgq _⟩
          · show s < 128 ^ (k + 1)
            have h7 : 128 ^ k * (x.toNat % 128) ≤ 128 ^ k * 127 := Nat.mul_le_mul (Nat.le_refl _) (by omega)
            rw [Nat.pow_succ]
            omega
          · show p + 1 = a0 + (k + 1)
            omega
          · show _ = _
            rw [HD.out, HL.out, show 9 - k = (9 - (k + 1)) + 1 from by omega, Wire.dec_more (by omega), Option.map_map, decide_eq_false (by omega)]
            congr 1
            funext r
            simp only [Function.comp_apply, Prod.mk.injEq, and_true]
            rw [hs, hxm, Nat.pow_succ, Nat.mul_add, ← Nat.mul_assoc, Nat.add_assoc]
        case measure =>
          have hw := HW.out
          simp [intOf]; omega
    · have hdn : l.drop p = [] := List.drop_eq_nil_of_le (by have := hln.out; omega)
      have HI : Hid (Wire.intS (some (l.drop a0)) = (0, none)) := by
        apply Wire.intS_none
        rw [HD.out, hdn]
        cases h : 9 - k <;> rfl
      have t2 : decide ((n : Int) ≤ (p : Int)) = true := by simp; omega
      have t2' : decide (n ≤ p) = true := by simp; omega
      clear hdn
      have hbk : ∀ N, Blk ((wr.drewN N).setCell ⟨g, 2, none⟩ (.bool true)) g 81 #[.slice A n c, .int .i64 (p : Int), .bool true] := fun N => (hbw.drewN N).set_ 2 (.bool true)
      have hgk : ∀ N, w.grownBy ((wr.drewN N).setCell ⟨g, 2, none⟩ (.bool true)) (some g) := fun N => only_setCell (only_drewN hgr N) (.inl rfl) _
      go_wp2
      go_quiet (fail)
      go_wp2
      go_ret
      rw [HI.out]
      exact ⟨rfl, RS.mk (hbk _) (hrd.only (hgk _) (by omega) (Nat.le_refl _)) hnc hc hak rfl, hgk _⟩

set_option maxRecDepth 100000 in
set_option maxHeartbeats 400000 in
theorem fInt_bad (w : World) (g : Nat) (l : List UInt8) (a0 : Nat) (hr : Rdr 81 w g l a0 true) :
    Calls Tryd.prog 55 #[.pointer (some ⟨g, 0, none⟩)] w fun e w' =>
      e = .returned (.int .i64 0) ∧ RS 81 w' g none ∧ w.grownBy w' (some g) := by
  obtain ⟨A, n, c, hb, hrd, hnc, hc, han⟩ := hr
  have h0 := hb.cell 0
  have h1 := hb.cell 1
  have h2 := hb.cell 2
  have f2 := hb.frozen 2
  have hgl := hb.lt
  simp at h0 h1 h2
  have hbk : ∀ N, Blk ((w.drewN N).setCell ⟨g, 2, none⟩ (.bool true)) g 81 #[.slice A n c, .int .i64 (a0 : Int), .bool true] := fun N => (hb.drewN N).set_ 2 (.bool true)
  have hgk : ∀ N, w.grownBy ((w.drewN N).setCell ⟨g, 2, none⟩ (.bool true)) (some g) := fun N => only_setCell (only_drewN (only_refl w g) N) (.inl rfl) _
  go_enter Tryd.func55, Tryd.ntmps55
  go_wp2
  refine wp_loop_rounds 1 ?_
  rw [rounds_succ]
  go_wp2
  go_quiet (fail)
  go_wp2
  go_ret
  exact ⟨rfl, RS.mk (hbk _) (hrd.only (hgk _) (by omega) (Nat.le_refl _)) hnc hc han rfl, hgk _⟩

theorem fInt_any (w : World) (g : Nat) (s : Option (List UInt8)) (hr : RS 81 w g s) :
    Calls Tryd.prog 55 #[.pointer (some ⟨g, 0, none⟩)] w fun e w' =>
      e = .returned (.int .i64 (Wire.intS s).1) ∧ RS 81 w' g (Wire.intS s).2 ∧ w.grownBy w' (some g) := by
  obtain ⟨l, p, bad, h, rfl⟩ := hr
  cases bad
  · exact fInt_ok w g l p h
  · exact fInt_bad w g l p h
end Go.Proofs.YtajheglnhfjodaaDoor
