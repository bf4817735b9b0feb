/- The walks of the Readers' small methods. No condition. -/
import Derived.Test.YtbfboglcdgeheaaReadInt
namespace Go.Proofs.Ytbfboglcdgeheaa
set_option linter.unusedVariables false
open Go.RowKit

set_option maxHeartbeats 400000 in
theorem rLeft_any (w : World) (g : Nat) (s : Option (List UInt8)) (hr : RS 75 w g s) :
    Calls Try.prog 51 #[.pointer (some ⟨g, 0, none⟩)] w fun e w' => e = .returned (.int .i64 (Wire.leftS s : Nat)) ∧ ∃ N, w' = w.drewN N := by
  obtain ⟨l, p, bad, ⟨A, n, c, hb, hrd, hnc, hc, hp⟩, rfl⟩ := hr
  have h0 := hb.cell 0
  have h1 := hb.cell 1
  have h2 := hb.cell 2
  have f1 := hb.frozen 1
  have f2 := hb.frozen 2
  have hgl := hb.lt
  have hln : Hid (l.length = n) := by have := hrd.1; rw [bv_length] at this; show _ = _; omega
  simp at h0 h1 h2
  cases bad
  · have hlf : Wire.leftS (some (l.drop p)) = n - p := by have := hln.out; simp [Wire.leftS]; omega
    have HLF := Lib.hid hlf
    clear hlf
    go_enter Try.func51, Try.ntmps51
    go_wp2
    go_quiet (fail)
    go_wp2
    go_ret
    refine ⟨?_, _, rfl⟩
    show _ = Ending.returned (.int .i64 (Wire.leftS (some (l.drop p)) : Nat))
    rw [HLF.out]
    exact ret_i64 (by omega)
  · 
    go_enter Try.func51, Try.ntmps51
    go_wp2
    go_ret
    exact ⟨rfl, 0, rfl⟩

set_option maxHeartbeats 400000 in
theorem rEnd_any (w : World) (g : Nat) (s : Option (List UInt8)) (hr : RS 75 w g s) :
    Calls Try.prog 34 #[.pointer (some ⟨g, 0, none⟩)] w fun e w' => e = .returned (.bool (Wire.endS s)) ∧ ∃ N, w' = w.drewN N := by
  obtain ⟨l, p, bad, ⟨A, n, c, hb, hrd, hnc, hc, hp⟩, rfl⟩ := hr
  have h0 := hb.cell 0
  have h1 := hb.cell 1
  have h2 := hb.cell 2
  have f1 := hb.frozen 1
  have f2 := hb.frozen 2
  have hgl := hb.lt
  have hln : Hid (l.length = n) := by have := hrd.1; rw [bv_length] at this; show _ = _; omega
  simp at h0 h1 h2
  cases bad
  · have hlf : (((p : Int)) == (n : Int)) = Wire.endS (some (l.drop p)) := by
      have := hln.out
      unfold Wire.endS
      rw [Bool.eq_iff_iff, beq_iff_eq]
      simp
      omega
    have HLF := Lib.hid hlf
    clear hlf
    go_enter Try.func34, Try.ntmps34
    go_wp2
    go_quiet (fail)
    go_wp2
    go_ret
    refine ⟨?_, _, rfl⟩
    show _ = Ending.returned (.bool (Wire.endS (some (l.drop p))))
    rw [← HLF.out]
    rfl
  · 
    go_enter Try.func34, Try.ntmps34
    go_wp2
    go_quiet (fail)
    go_wp2
    go_ret
    exact ⟨rfl, _, rfl⟩

set_option maxRecDepth 100000 in
set_option maxHeartbeats 400000 in
theorem rBool_any (w : World) (g : Nat) (s : Option (List UInt8)) (hr : RS 75 w g s) :
    Calls Try.prog 31 #[.pointer (some ⟨g, 0, none⟩)] w fun e w' => e = .returned (.bool (Wire.boolS s).1) ∧ RS 75 w' g (Wire.boolS s).2 ∧ w.grownBy w' (some g) := by
  obtain ⟨l, p, bad, ⟨A, n, c, hb, hrd, hnc, hc, hp⟩, rfl⟩ := hr
  have h0 := hb.cell 0
  have h1 := hb.cell 1
  have h2 := hb.cell 2
  have f1 := hb.frozen 1
  have f2 := hb.frozen 2
  have hgl := hb.lt
  have hln : Hid (l.length = n) := by have := hrd.1; rw [bv_length] at this; show _ = _; omega
  simp at h0 h1 h2
  have hbk : ∀ N, Blk ((w.drewN N).setCell ⟨g, 2, none⟩ (.bool true)) g 75 #[.slice A n c, .int .i64 (p : Int), .bool true] := fun N => (hb.drewN N).set_ 2 (.bool true)
  have hgk : ∀ N, w.grownBy ((w.drewN N).setCell ⟨g, 2, none⟩ (.bool true)) (some g) := fun N => only_setCell (only_drewN (only_refl w g) N) (.inl rfl) _
  have hbad : ∀ N, RS 75 ((w.drewN N).setCell ⟨g, 2, none⟩ (.bool true)) g none := fun N => RS.mk (hbk N) (hrd.only (hgk N) (by omega) (Nat.le_refl _)) hnc hc hp rfl
  clear hbk
  cases bad
  · by_cases hlt : p < n
    · obtain ⟨ad, u, hAd, _, hx, hcx⟩ := hrd.at_ hlt
      obtain ⟨x, hx', rfl⟩ := bv_at hx
      subst hAd
      have hld : l.drop p = x :: l.drop (p + 1) := by
        rw [List.drop_eq_getElem_cons (l := l) (i := p) (by have := hln.out; omega)]
        congr 1
        exact (List.getElem?_eq_some_iff.1 hx').2
      have t1 : decide ((n : Int) ≤ (p : Int)) = false := by simp; omega
      by_cases hx1 : x.toNat ≤ 1
      · have hs : Wire.boolS (some (l.drop p)) = (decide (x.toNat = 1), some (l.drop (p + 1))) := by rw [hld]; simp [Wire.boolS]; omega
        have HS := Lib.hid hs
        have t2 : decide ((1 : Int) < (x.toNat : Int)) = false := by simp; omega
        have t3 : (((x.toNat : Int)) == 1) = decide (x.toNat = 1) := by rw [Bool.eq_iff_iff, beq_iff_eq, decide_eq_true_iff]; omega
        generalize decide (x.toNat = 1) = bx at t3 HS
        clear hs hld hx' hx hx1 hbad hgk
        have hbj : ∀ N, Blk ((w.drewN N).setCell ⟨g, 1, none⟩ (.int .i64 ((p : Int) + 1))) g 75 #[.slice (some ad) n c, .int .i64 ((p + 1 : Nat) : Int), .bool false] := fun N => (hb.drewN N).set_ 1 (.int .i64 ((p : Int) + 1))
        have hgj : ∀ N, w.grownBy ((w.drewN N).setCell ⟨g, 1, none⟩ (.int .i64 ((p : Int) + 1))) (some g) := fun N => only_setCell (only_drewN (only_refl w g) N) (.inl rfl) _
        have hrj : ∀ N, RS 75 ((w.drewN N).setCell ⟨g, 1, none⟩ (.int .i64 ((p : Int) + 1))) g (some (l.drop (p + 1))) := fun N => RS.mk (p := p + 1) (hbj N) (hrd.only (hgj N) (by omega) (Nat.le_refl _)) hnc hc (by omega) rfl
        clear hbj
        have hc' : ∀ N v, ((w.drewN N).setCell ⟨g, 1, none⟩ v).cell? (ad.add p) = some (.int .u8 (x.toNat : Int)) := fun N v => by
          rw [World.cell?_setCell_other _ _ _ _ (fun e => by have := congrArg Addr.block e; rw [block_of_add] at this; simp at this; omega)]; exact hcx
        go_enter Try.func31, Try.ntmps31
        go_wp2
        go_quiet (fail)
        go_wp2
        go_quiet (fail)
        go_wp2
        go_ret
        show _ = Ending.returned (.bool (Wire.boolS (some (l.drop p))).1) ∧ RS 75 _ g (Wire.boolS (some (l.drop p))).2 ∧ _
        rw [HS.out]
        exact ⟨rfl, (hrj _).drewN _, only_drewN (hgj _) _⟩
      · have hs : Wire.boolS (some (l.drop p)) = (false, none) := by rw [hld]; simp [Wire.boolS]; omega
        have HS := Lib.hid hs
        have t2 : decide ((1 : Int) < (x.toNat : Int)) = true := by simp; omega
        clear hs hld hx' hx hx1
        go_enter Try.func31, Try.ntmps31
        go_wp2
        go_quiet (fail)
        go_wp2
        go_ret
        show _ = Ending.returned (.bool (Wire.boolS (some (l.drop p))).1) ∧ RS 75 _ g (Wire.boolS (some (l.drop p))).2 ∧ _
        rw [HS.out]
        exact ⟨rfl, hbad _, hgk _⟩
    · have hs : Wire.boolS (some (l.drop p)) = (false, none) := by rw [List.drop_eq_nil_of_le (by have := hln.out; omega)]; rfl
      have HS := Lib.hid hs
      have t1 : decide ((n : Int) ≤ (p : Int)) = true := by simp; omega
      clear hs
      go_enter Try.func31, Try.ntmps31
      go_wp2
      go_quiet (fail)
      go_wp2
      go_ret
      show _ = Ending.returned (.bool (Wire.boolS (some (l.drop p))).1) ∧ RS 75 _ g (Wire.boolS (some (l.drop p))).2 ∧ _
      rw [HS.out]
      exact ⟨rfl, hbad _, hgk _⟩
  · 
    go_enter Try.func31, Try.ntmps31
    go_wp2
    go_quiet (fail)
    go_wp2
    go_ret
    exact ⟨rfl, hbad _, hgk _⟩

set_option maxHeartbeats 400000 in
theorem fLeft_any (w : World) (g : Nat) (s : Option (List UInt8)) (hr : RS 66 w g s) :
    Calls Try.prog 55 #[.pointer (some ⟨g, 0, none⟩)] w fun e w' => e = .returned (.int .i64 (Wire.leftS s : Nat)) ∧ ∃ N, w' = w.drewN N := by
  obtain ⟨l, p, bad, ⟨A, n, c, hb, hrd, hnc, hc, hp⟩, rfl⟩ := hr
  have h0 := hb.cell 0
  have h1 := hb.cell 1
  have h2 := hb.cell 2
  have f1 := hb.frozen 1
  have f2 := hb.frozen 2
  have hgl := hb.lt
  have hln : Hid (l.length = n) := by have := hrd.1; rw [bv_length] at this; show _ = _; omega
  simp at h0 h1 h2
  cases bad
  · have hlf : Wire.leftS (some (l.drop p)) = n - p := by have := hln.out; simp [Wire.leftS]; omega
    have HLF := Lib.hid hlf
    clear hlf
    go_enter Try.func55, Try.ntmps55
    go_wp2
    go_quiet (fail)
    go_wp2
    go_ret
    refine ⟨?_, _, rfl⟩
    show _ = Ending.returned (.int .i64 (Wire.leftS (some (l.drop p)) : Nat))
    rw [HLF.out]
    exact ret_i64 (by omega)
  · 
    go_enter Try.func55, Try.ntmps55
    go_wp2
    go_ret
    exact ⟨rfl, 0, rfl⟩

set_option maxHeartbeats 400000 in
theorem fEnd_any (w : World) (g : Nat) (s : Option (List UInt8)) (hr : RS 66 w g s) :
    Calls Try.prog 44 #[.pointer (some ⟨g, 0, none⟩)] w fun e w' => e = .returned (.bool (Wire.endS s)) ∧ ∃ N, w' = w.drewN N := by
  obtain ⟨l, p, bad, ⟨A, n, c, hb, hrd, hnc, hc, hp⟩, rfl⟩ := hr
  have h0 := hb.cell 0
  have h1 := hb.cell 1
  have h2 := hb.cell 2
  have f1 := hb.frozen 1
  have f2 := hb.frozen 2
  have hgl := hb.lt
  have hln : Hid (l.length = n) := by have := hrd.1; rw [bv_length] at this; show _ = _; omega
  simp at h0 h1 h2
  cases bad
  · have hlf : (((p : Int)) == (n : Int)) = Wire.endS (some (l.drop p)) := by
      have := hln.out
      unfold Wire.endS
      rw [Bool.eq_iff_iff, beq_iff_eq]
      simp
      omega
    have HLF := Lib.hid hlf
    clear hlf
    go_enter Try.func44, Try.ntmps44
    go_wp2
    go_quiet (fail)
    go_wp2
    go_ret
    refine ⟨?_, _, rfl⟩
    show _ = Ending.returned (.bool (Wire.endS (some (l.drop p))))
    rw [← HLF.out]
    rfl
  · 
    go_enter Try.func44, Try.ntmps44
    go_wp2
    go_quiet (fail)
    go_wp2
    go_ret
    exact ⟨rfl, _, rfl⟩

set_option maxRecDepth 100000 in
set_option maxHeartbeats 400000 in
theorem fBool_any (w : World) (g : Nat) (s : Option (List UInt8)) (hr : RS 66 w g s) :
    Calls Try.prog 41 #[.pointer (some ⟨g, 0, none⟩)] w fun e w' => e = .returned (.bool (Wire.boolS s).1) ∧ RS 66 w' g (Wire.boolS s).2 ∧ w.grownBy w' (some g) := by
  obtain ⟨l, p, bad, ⟨A, n, c, hb, hrd, hnc, hc, hp⟩, rfl⟩ := hr
  have h0 := hb.cell 0
  have h1 := hb.cell 1
  have h2 := hb.cell 2
  have f1 := hb.frozen 1
  have f2 := hb.frozen 2
  have hgl := hb.lt
  have hln : Hid (l.length = n) := by have := hrd.1; rw [bv_length] at this; show _ = _; omega
  simp at h0 h1 h2
  have hbk : ∀ N, Blk ((w.drewN N).setCell ⟨g, 2, none⟩ (.bool true)) g 66 #[.slice A n c, .int .i64 (p : Int), .bool true] := fun N => (hb.drewN N).set_ 2 (.bool true)
  have hgk : ∀ N, w.grownBy ((w.drewN N).setCell ⟨g, 2, none⟩ (.bool true)) (some g) := fun N => only_setCell (only_drewN (only_refl w g) N) (.inl rfl) _
  have hbad : ∀ N, RS 66 ((w.drewN N).setCell ⟨g, 2, none⟩ (.bool true)) g none := fun N => RS.mk (hbk N) (hrd.only (hgk N) (by omega) (Nat.le_refl _)) hnc hc hp rfl
  clear hbk
  cases bad
  · by_cases hlt : p < n
    · obtain ⟨ad, u, hAd, _, hx, hcx⟩ := hrd.at_ hlt
      obtain ⟨x, hx', rfl⟩ := bv_at hx
      subst hAd
      have hld : l.drop p = x :: l.drop (p + 1) := by
        rw [List.drop_eq_getElem_cons (l := l) (i := p) (by have := hln.out; omega)]
        congr 1
        exact (List.getElem?_eq_some_iff.1 hx').2
      have t1 : decide ((n : Int) ≤ (p : Int)) = false := by simp; omega
      by_cases hx1 : x.toNat ≤ 1
      · have hs : Wire.boolS (some (l.drop p)) = (decide (x.toNat = 1), some (l.drop (p + 1))) := by rw [hld]; simp [Wire.boolS]; omega
        have HS := Lib.hid hs
        have t2 : decide ((1 : Int) < (x.toNat : Int)) = false := by simp; omega
        have t3 : (((x.toNat : Int)) == 1) = decide (x.toNat = 1) := by rw [Bool.eq_iff_iff, beq_iff_eq, decide_eq_true_iff]; omega
        generalize decide (x.toNat = 1) = bx at t3 HS
        clear hs hld hx' hx hx1 hbad hgk
        have hbj : ∀ N, Blk ((w.drewN N).setCell ⟨g, 1, none⟩ (.int .i64 ((p : Int) + 1))) g 66 #[.slice (some ad) n c, .int .i64 ((p + 1 : Nat) : Int), .bool false] := fun N => (hb.drewN N).set_ 1 (.int .i64 ((p : Int) + 1))
        have hgj : ∀ N, w.grownBy ((w.drewN N).setCell ⟨g, 1, none⟩ (.int .i64 ((p : Int) + 1))) (some g) := fun N => only_setCell (only_drewN (only_refl w g) N) (.inl rfl) _
        have hrj : ∀ N, RS 66 ((w.drewN N).setCell ⟨g, 1, none⟩ (.int .i64 ((p : Int) + 1))) g (some (l.drop (p + 1))) := fun N => RS.mk (p := p + 1) (hbj N) (hrd.only (hgj N) (by omega) (Nat.le_refl _)) hnc hc (by omega) rfl
        clear hbj
        have hc' : ∀ N v, ((w.drewN N).setCell ⟨g, 1, none⟩ v).cell? (ad.add p) = some (.int .u8 (x.toNat : Int)) := fun N v => by
          rw [World.cell?_setCell_other _ _ _ _ (fun e => by have := congrArg Addr.block e; rw [block_of_add] at this; simp at this; omega)]; exact hcx
        go_enter Try.func41, Try.ntmps41
        go_wp2
        go_quiet (fail)
        go_wp2
        go_quiet (fail)
        go_wp2
        go_ret
        show _ = Ending.returned (.bool (Wire.boolS (some (l.drop p))).1) ∧ RS 66 _ g (Wire.boolS (some (l.drop p))).2 ∧ _
        rw [HS.out]
        exact ⟨rfl, (hrj _).drewN _, only_drewN (hgj _) _⟩
      · have hs : Wire.boolS (some (l.drop p)) = (false, none) := by rw [hld]; simp [Wire.boolS]; omega
        have HS := Lib.hid hs
        have t2 : decide ((1 : Int) < (x.toNat : Int)) = true := by simp; omega
        clear hs hld hx' hx hx1
        go_enter Try.func41, Try.ntmps41
        go_wp2
        go_quiet (fail)
        go_wp2
        go_ret
        show _ = Ending.returned (.bool (Wire.boolS (some (l.drop p))).1) ∧ RS 66 _ g (Wire.boolS (some (l.drop p))).2 ∧ _
        rw [HS.out]
        exact ⟨rfl, hbad _, hgk _⟩
    · have hs : Wire.boolS (some (l.drop p)) = (false, none) := by rw [List.drop_eq_nil_of_le (by have := hln.out; omega)]; rfl
      have HS := Lib.hid hs
      have t1 : decide ((n : Int) ≤ (p : Int)) = true := by simp; omega
      clear hs
      go_enter Try.func41, Try.ntmps41
      go_wp2
      go_quiet (fail)
      go_wp2
      go_ret
      show _ = Ending.returned (.bool (Wire.boolS (some (l.drop p))).1) ∧ RS 66 _ g (Wire.boolS (some (l.drop p))).2 ∧ _
      rw [HS.out]
      exact ⟨rfl, hbad _, hgk _⟩
  · 
    go_enter Try.func41, Try.ntmps41
    go_wp2
    go_quiet (fail)
    go_wp2
    go_ret
    exact ⟨rfl, hbad _, hgk _⟩
end Go.Proofs.Ytbfboglcdgeheaa
