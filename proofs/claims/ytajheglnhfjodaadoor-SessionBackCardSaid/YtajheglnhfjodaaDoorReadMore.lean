/- The walks of the Readers' Count and Text; Ok, Fail, New. No condition. -/
import Derived.Test.YtajheglnhfjodaaDoorReadFns
import Derived.Test.YtajheglnhfjodaaDoorReadRef
namespace Go.Proofs.YtajheglnhfjodaaDoor
set_option linter.unusedVariables false
open Go.RowKit

theorem RS.split {T : TypeId} {w : World} {g : Nat} {s : Option (List UInt8)} (h : RS T w g s) :
    ∃ (l : List UInt8) (p : Nat) (A : Option Addr) (n c : Nat), Blk w g T #[.slice A n c, .int .i64 (p : Int), .bool (s == none)] ∧ Reads w g 1 A n (bv l) ∧ n ≤ c ∧ n ≤ 4611686018427387904 ∧ p ≤ n ∧ l.length = n ∧ (∀ r, s = some r → r = l.drop p) := by
  obtain ⟨l, p, bad, ⟨A, n, c, hb, hrd, hnc, hc, hp⟩, rfl⟩ := h
  have hln : l.length = n := by have := hrd.1; rw [bv_length] at this; omega
  cases bad
  · exact ⟨l, p, A, n, c, hb, hrd, hnc, hc, hp, hln, fun r hr => by simp at hr; exact hr.symm⟩
  · exact ⟨l, p, A, n, c, hb, hrd, hnc, hc, hp, hln, fun r hr => by simp at hr⟩

set_option maxHeartbeats 800000 in
theorem rCount_any (w : World) (g : Nat) (s : Option (List UInt8)) (most : Int) (hr : RS 68 w g s) :
    Calls Tryd.prog 31 #[.pointer (some ⟨g, 0, none⟩), .int .i64 most] w fun e w' => e = .returned (.int .i64 (Wire.countS most s).1) ∧ RS 68 w' g (Wire.countS most s).2 ∧ w.grownBy w' (some g) := by
  obtain ⟨v, s', hI⟩ : ∃ v s', Wire.intS s = (v, s') := ⟨_, _, rfl⟩
  have HI := Lib.hid hI
  cases s' with
  | none =>
    have hcs : Wire.countS most s = (0, none) := by unfold Wire.countS; rw [hI]
    clear hI
    have HC := Lib.hid hcs
    clear hcs
    go_enter Tryd.func31, Tryd.ntmps31
    go_wp2_with fail
    refine (rInt_any w g s hr).mono ?_
    rintro e w1 ⟨rfl, hr1, hg1⟩
    rw [HI.out] at hr1 ⊢
    obtain ⟨l, p, A, n, c, hb, hrd, hnc, hc, hp, hln, hsr⟩ := hr1.split
    have hsl := hr1.lt
    have h0 := hb.cell 0
    have h1 := hb.cell 1
    have h2 := hb.cell 2
    have f2 := hb.frozen 2
    simp at h0 h1 h2
    have hbk : ∀ N, Blk ((w1.drewN N).setCell ⟨g, 2, none⟩ (.bool true)) g 68 #[.slice A n c, .int .i64 (p : Int), .bool true] := fun N => (hb.drewN N).set_ 2 (.bool true)
    have hgk : ∀ N, w1.grownBy ((w1.drewN N).setCell ⟨g, 2, none⟩ (.bool true)) (some g) := fun N => only_setCell (only_drewN (only_refl w1 g) N) (.inl rfl) _
    have hbad : ∀ N, RS 68 ((w1.drewN N).setCell ⟨g, 2, none⟩ (.bool true)) g none := fun N => RS.mk (hbk N) (hrd.only (hgk N) (by omega) (Nat.le_refl _)) hnc hc hp rfl
    clear hbk hln hsr hb hrd
    go_wp2
    go_ret
    rw [HC.out]
    exact ⟨rfl, hbad 0, only_trans hg1 (hgk 0)⟩
  | some r =>
    by_cases hv0 : v < 0
    · have hcs : Wire.countS most s = (0, none) := by unfold Wire.countS; rw [hI]; simp [hv0]
      clear hI
      have t0 : decide (v < 0) = true := by simpa using hv0
      have HC := Lib.hid hcs
      clear hcs
      go_enter Tryd.func31, Tryd.ntmps31
      go_wp2_with fail
      refine (rInt_any w g s hr).mono ?_
      rintro e w1 ⟨rfl, hr1, hg1⟩
      rw [HI.out] at hr1 ⊢
      obtain ⟨l, p, A, n, c, hb, hrd, hnc, hc, hp, hln, hsr⟩ := hr1.split
      have hsl := hr1.lt
      have h0 := hb.cell 0
      have h1 := hb.cell 1
      have h2 := hb.cell 2
      have f2 := hb.frozen 2
      simp at h0 h1 h2
      have hbk : ∀ N, Blk ((w1.drewN N).setCell ⟨g, 2, none⟩ (.bool true)) g 68 #[.slice A n c, .int .i64 (p : Int), .bool true] := fun N => (hb.drewN N).set_ 2 (.bool true)
      have hgk : ∀ N, w1.grownBy ((w1.drewN N).setCell ⟨g, 2, none⟩ (.bool true)) (some g) := fun N => only_setCell (only_drewN (only_refl w1 g) N) (.inl rfl) _
      have hbad : ∀ N, RS 68 ((w1.drewN N).setCell ⟨g, 2, none⟩ (.bool true)) g none := fun N => RS.mk (hbk N) (hrd.only (hgk N) (by omega) (Nat.le_refl _)) hnc hc hp rfl
      clear hbk hln hsr hb hrd
      go_wp2
      go_ret
      rw [HC.out]
      exact ⟨rfl, hbad 0, only_trans hg1 (hgk 0)⟩
    · have t0 : decide (v < 0) = false := by simpa using hv0
      by_cases hvm : most < v
      · have hcs : Wire.countS most s = (0, none) := by unfold Wire.countS; rw [hI]; simp [hvm]
        clear hI
        have t1 : decide (most < v) = true := by simpa using hvm
        have HC := Lib.hid hcs
        clear hcs
        go_enter Tryd.func31, Tryd.ntmps31
        go_wp2_with fail
        refine (rInt_any w g s hr).mono ?_
        rintro e w1 ⟨rfl, hr1, hg1⟩
        rw [HI.out] at hr1 ⊢
        obtain ⟨l, p, A, n, c, hb, hrd, hnc, hc, hp, hln, hsr⟩ := hr1.split
        have hsl := hr1.lt
        have h0 := hb.cell 0
        have h1 := hb.cell 1
        have h2 := hb.cell 2
        have f2 := hb.frozen 2
        simp at h0 h1 h2
        have hbk : ∀ N, Blk ((w1.drewN N).setCell ⟨g, 2, none⟩ (.bool true)) g 68 #[.slice A n c, .int .i64 (p : Int), .bool true] := fun N => (hb.drewN N).set_ 2 (.bool true)
        have hgk : ∀ N, w1.grownBy ((w1.drewN N).setCell ⟨g, 2, none⟩ (.bool true)) (some g) := fun N => only_setCell (only_drewN (only_refl w1 g) N) (.inl rfl) _
        have hbad : ∀ N, RS 68 ((w1.drewN N).setCell ⟨g, 2, none⟩ (.bool true)) g none := fun N => RS.mk (hbk N) (hrd.only (hgk N) (by omega) (Nat.le_refl _)) hnc hc hp rfl
        clear hbk hln hsr hb hrd
        go_wp2
        go_ret
        rw [HC.out]
        exact ⟨rfl, hbad 0, only_trans hg1 (hgk 0)⟩
      · have t1 : decide (most < v) = false := by simpa using hvm
        by_cases hvl : (r.length : Int) < v
        · have hcs : Wire.countS most s = (0, none) := by unfold Wire.countS; rw [hI]; simp [hvl]
          clear hI
          have t2 : decide ((Wire.leftS (some r) : Int) < v) = true := decide_eq_true hvl
          have HC := Lib.hid hcs
          clear hcs
          go_enter Tryd.func31, Tryd.ntmps31
          go_wp2_with fail
          refine (rInt_any w g s hr).mono ?_
          rintro e w1 ⟨rfl, hr1, hg1⟩
          rw [HI.out] at hr1 ⊢
          obtain ⟨l, p, A, n, c, hb, hrd, hnc, hc, hp, hln, hsr⟩ := hr1.split
          have hsl := hr1.lt
          have h0 := hb.cell 0
          have h1 := hb.cell 1
          have h2 := hb.cell 2
          have f2 := hb.frozen 2
          simp at h0 h1 h2
          have hbk : ∀ N, Blk ((w1.drewN N).setCell ⟨g, 2, none⟩ (.bool true)) g 68 #[.slice A n c, .int .i64 (p : Int), .bool true] := fun N => (hb.drewN N).set_ 2 (.bool true)
          have hgk : ∀ N, w1.grownBy ((w1.drewN N).setCell ⟨g, 2, none⟩ (.bool true)) (some g) := fun N => only_setCell (only_drewN (only_refl w1 g) N) (.inl rfl) _
          have hbad : ∀ N, RS 68 ((w1.drewN N).setCell ⟨g, 2, none⟩ (.bool true)) g none := fun N => RS.mk (hbk N) (hrd.only (hgk N) (by omega) (Nat.le_refl _)) hnc hc hp rfl
          clear hbk hln hsr hb hrd
          go_wp2_with fail
          refine (rLeft_any _ g _ hr1).mono ?_
          rintro e w2 ⟨rfl, N, rfl⟩
          go_wp2
          go_ret
          rw [HC.out]
          exact ⟨rfl, hbad N, only_trans hg1 (hgk N)⟩
        · have hcs : Wire.countS most s = (v, some r) := by unfold Wire.countS; rw [hI]; simp; omega
          have HC := Lib.hid hcs
          clear hcs hI
          have t2 : decide ((Wire.leftS (some r) : Int) < v) = false := decide_eq_false hvl
          go_enter Tryd.func31, Tryd.ntmps31
          go_wp2_with fail
          refine (rInt_any w g s hr).mono ?_
          rintro e w1 ⟨rfl, hr1, hg1⟩
          rw [HI.out] at hr1 ⊢
          obtain ⟨l, p, A, n, c, hb, hrd, hnc, hc, hp, hln, hsr⟩ := hr1.split
          have h2 := hb.cell 2
          simp at h2
          clear hln hsr hb hrd
          go_wp2_with fail
          refine (rLeft_any _ g _ hr1).mono ?_
          rintro e w2 ⟨rfl, N, rfl⟩
          go_wp2
          go_ret
          rw [HC.out]
          exact ⟨rfl, hr1.drewN N, only_drewN hg1 N⟩

set_option maxRecDepth 100000 in
set_option maxHeartbeats 800000 in
theorem rText_any (w : World) (g : Nat) (s : Option (List UInt8)) (most : Int) (hr : RS 68 w g s) :
    Calls Tryd.prog 34 #[.pointer (some ⟨g, 0, none⟩), .int .i64 most] w fun e w' => e = .returned (.string (txt (Wire.textS most s).1)) ∧ RS 68 w' g (Wire.textS most s).2 ∧ w.grownBy w' (some g) := by
  obtain ⟨v, s', hI⟩ : ∃ v s', Wire.countS most s = (v, s') := ⟨_, _, rfl⟩
  have HI := Lib.hid hI
  cases s' with
  | none =>
    have hcs : Wire.textS most s = ([], none) := by unfold Wire.textS; rw [hI]
    have HC := Lib.hid hcs
    clear hI hcs
    go_enter Tryd.func34, Tryd.ntmps34
    go_wp2_with fail
    refine (rCount_any w g s most hr).mono ?_
    rintro e w1 ⟨rfl, hr1, hg1⟩
    rw [HI.out] at hr1 ⊢
    obtain ⟨l, p, A, n, c, hb, hrd, hnc, hc, hp, hln, hsr⟩ := hr1.split
    have h2 := hb.cell 2
    simp at h2
    clear hln hsr hb hrd
    go_wp2
    go_ret
    rw [HC.out]
    exact ⟨rfl, hr1, hg1⟩
  | some r =>
    have hv := Wire.countS_range hI
    have hcs : Wire.textS most s = (r.take v.toNat, some (r.drop v.toNat)) := by unfold Wire.textS; rw [hI]
    have HC := Lib.hid hcs
    clear hI hcs
    obtain ⟨k, rfl⟩ := Int.eq_ofNat_of_zero_le hv.1
    have hv2 := hv.2
    have HV := Lib.hid hv2
    clear hv hv2
    go_enter Tryd.func34, Tryd.ntmps34
    go_wp2_with fail
    refine (rCount_any w g s most hr).mono ?_
    rintro e w1 ⟨rfl, hr1, hg1⟩
    rw [HI.out] at hr1 ⊢
    obtain ⟨l, p, A, n, c, hb, hrd, hnc, hc, hp, hln, hsr⟩ := hr1.split
    have hrr := hsr r rfl
    subst hrr
    have hkn : p + k ≤ n := by have := HV.out; rw [List.length_drop] at this; omega
    have h0 := hb.cell 0
    have h1 := hb.cell 1
    have h2 := hb.cell 2
    have f1 := hb.frozen 1
    simp at h0 h1 h2
    have hbk : Blk (w1.setCell ⟨g, 1, none⟩ (.int .i64 ((p : Int) + (k : Int)))) g 68 #[.slice A n c, .int .i64 ((p + k : Nat) : Int), .bool false] := hb.set_ 1 (.int .i64 ((p : Int) + (k : Int)))
    have hgk : w1.grownBy (w1.setCell ⟨g, 1, none⟩ (.int .i64 ((p : Int) + (k : Int)))) (some g) := only_setCell (only_refl w1 g) (.inl rfl) _
    have hrk := hrd.only hgk (by have := hb.lt; omega) (Nat.le_refl _)
    have hs1 : ∀ W, (Instr.slice 42 (.slice A n c) (some (.int .i64 (p : Int))) (some (.int .i64 ((p : Int) + (k : Int)))) none).run Tryd.prog W = .ok (.slice (cutA A c p) (p + k - p) (c - p)) W :=
      fun W => slice_lh W A n c p (p + k) (by omega) (by omega)
    rw [show p + k - p = k from by omega] at hs1
    have hrt := (hrk.take (k := p + k) (by omega)).cutA (k := p) (c := c) (by omega) (by omega)
    rw [show p + k - p = k from by omega] at hrt
    have kc := fun N => run_string_of (P := Tryd.prog) ((w1.setCell ⟨g, 1, none⟩ (.int .i64 ((p : Int) + (k : Int)))).drewN N) Tryd.underlying42 Tryd.underlying5 Tryd.underlying9 (c - p) (hrt.drewN N)
    have hend : RS 68 (w1.setCell ⟨g, 1, none⟩ (.int .i64 ((p : Int) + (k : Int)))) g (some ((l.drop p).drop k)) := RS.mk (p := p + k) hbk hrk hnc hc hkn (by simp)
    have hte : (l.take (p + k)).drop p = (l.drop p).take k := by rw [List.drop_take]; congr 1; omega
    rw [hte] at kc
    have HLN := Lib.hid hln
    have hen : ((p : Int) + (k : Int)) - (k : Int) = (p : Int) := by omega
    clear hln hsr hrd hrk hrt hbk hb hr1 hte
    go_wp2
    go_quiet (fail)
    go_wp2
    go_ret
    rw [HC.out, Int.toNat_natCast]
    exact ⟨rfl, hend.drewN _, only_drewN (only_trans hg1 hgk) _⟩

set_option maxHeartbeats 800000 in
theorem fCount_any (w : World) (g : Nat) (s : Option (List UInt8)) (most : Int) (hr : RS 81 w g s) :
    Calls Tryd.prog 54 #[.pointer (some ⟨g, 0, none⟩), .int .i64 most] w fun e w' => e = .returned (.int .i64 (Wire.countS most s).1) ∧ RS 81 w' g (Wire.countS most s).2 ∧ w.grownBy w' (some g) := by
  obtain ⟨v, s', hI⟩ : ∃ v s', Wire.intS s = (v, s') := ⟨_, _, rfl⟩
  have HI := Lib.hid hI
  cases s' with
  | none =>
    have hcs : Wire.countS most s = (0, none) := by unfold Wire.countS; rw [hI]
    clear hI
    have HC := Lib.hid hcs
    clear hcs
    go_enter Tryd.func54, Tryd.ntmps54
    go_wp2_with fail
    refine (fInt_any w g s hr).mono ?_
    rintro e w1 ⟨rfl, hr1, hg1⟩
    rw [HI.out] at hr1 ⊢
    obtain ⟨l, p, A, n, c, hb, hrd, hnc, hc, hp, hln, hsr⟩ := hr1.split
    have hsl := hr1.lt
    have h0 := hb.cell 0
    have h1 := hb.cell 1
    have h2 := hb.cell 2
    have f2 := hb.frozen 2
    simp at h0 h1 h2
    have hbk : ∀ N, Blk ((w1.drewN N).setCell ⟨g, 2, none⟩ (.bool true)) g 81 #[.slice A n c, .int .i64 (p : Int), .bool true] := fun N => (hb.drewN N).set_ 2 (.bool true)
    have hgk : ∀ N, w1.grownBy ((w1.drewN N).setCell ⟨g, 2, none⟩ (.bool true)) (some g) := fun N => only_setCell (only_drewN (only_refl w1 g) N) (.inl rfl) _
    have hbad : ∀ N, RS 81 ((w1.drewN N).setCell ⟨g, 2, none⟩ (.bool true)) g none := fun N => RS.mk (hbk N) (hrd.only (hgk N) (by omega) (Nat.le_refl _)) hnc hc hp rfl
    clear hbk hln hsr hb hrd
    go_wp2
    go_ret
    rw [HC.out]
    exact ⟨rfl, hbad 0, only_trans hg1 (hgk 0)⟩
  | some r =>
    by_cases hv0 : v < 0
    · have hcs : Wire.countS most s = (0, none) := by unfold Wire.countS; rw [hI]; simp [hv0]
      clear hI
      have t0 : decide (v < 0) = true := by simpa using hv0
      have HC := Lib.hid hcs
      clear hcs
      go_enter Tryd.func54, Tryd.ntmps54
      go_wp2_with fail
      refine (fInt_any w g s hr).mono ?_
      rintro e w1 ⟨rfl, hr1, hg1⟩
      rw [HI.out] at hr1 ⊢
      obtain ⟨l, p, A, n, c, hb, hrd, hnc, hc, hp, hln, hsr⟩ := hr1.split
      have hsl := hr1.lt
      have h0 := hb.cell 0
      have h1 := hb.cell 1
      have h2 := hb.cell 2
      have f2 := hb.frozen 2
      simp at h0 h1 h2
      have hbk : ∀ N, Blk ((w1.drewN N).setCell ⟨g, 2, none⟩ (.bool true)) g 81 #[.slice A n c, .int .i64 (p : Int), .bool true] := fun N => (hb.drewN N).set_ 2 (.bool true)
      have hgk : ∀ N, w1.grownBy ((w1.drewN N).setCell ⟨g, 2, none⟩ (.bool true)) (some g) := fun N => only_setCell (only_drewN (only_refl w1 g) N) (.inl rfl) _
      have hbad : ∀ N, RS 81 ((w1.drewN N).setCell ⟨g, 2, none⟩ (.bool true)) g none := fun N => RS.mk (hbk N) (hrd.only (hgk N) (by omega) (Nat.le_refl _)) hnc hc hp rfl
      clear hbk hln hsr hb hrd
      go_wp2
      go_ret
      rw [HC.out]
      exact ⟨rfl, hbad 0, only_trans hg1 (hgk 0)⟩
    · have t0 : decide (v < 0) = false := by simpa using hv0
      by_cases hvm : most < v
      · have hcs : Wire.countS most s = (0, none) := by unfold Wire.countS; rw [hI]; simp [hvm]
        clear hI
        have t1 : decide (most < v) = true := by simpa using hvm
        have HC := Lib.hid hcs
        clear hcs
        go_enter Tryd.func54, Tryd.ntmps54
        go_wp2_with fail
        refine (fInt_any w g s hr).mono ?_
        rintro e w1 ⟨rfl, hr1, hg1⟩
        rw [HI.out] at hr1 ⊢
        obtain ⟨l, p, A, n, c, hb, hrd, hnc, hc, hp, hln, hsr⟩ := hr1.split
        have hsl := hr1.lt
        have h0 := hb.cell 0
        have h1 := hb.cell 1
        have h2 := hb.cell 2
        have f2 := hb.frozen 2
        simp at h0 h1 h2
        have hbk : ∀ N, Blk ((w1.drewN N).setCell ⟨g, 2, none⟩ (.bool true)) g 81 #[.slice A n c, .int .i64 (p : Int), .bool true] := fun N => (hb.drewN N).set_ 2 (.bool true)
        have hgk : ∀ N, w1.grownBy ((w1.drewN N).setCell ⟨g, 2, none⟩ (.bool true)) (some g) := fun N => only_setCell (only_drewN (only_refl w1 g) N) (.inl rfl) _
        have hbad : ∀ N, RS 81 ((w1.drewN N).setCell ⟨g, 2, none⟩ (.bool true)) g none := fun N => RS.mk (hbk N) (hrd.only (hgk N) (by omega) (Nat.le_refl _)) hnc hc hp rfl
        clear hbk hln hsr hb hrd
        go_wp2
        go_ret
        rw [HC.out]
        exact ⟨rfl, hbad 0, only_trans hg1 (hgk 0)⟩
      · have t1 : decide (most < v) = false := by simpa using hvm
        by_cases hvl : (r.length : Int) < v
        · have hcs : Wire.countS most s = (0, none) := by unfold Wire.countS; rw [hI]; simp [hvl]
          clear hI
          have t2 : decide ((Wire.leftS (some r) : Int) < v) = true := decide_eq_true hvl
          have HC := Lib.hid hcs
          clear hcs
          go_enter Tryd.func54, Tryd.ntmps54
          go_wp2_with fail
          refine (fInt_any w g s hr).mono ?_
          rintro e w1 ⟨rfl, hr1, hg1⟩
          rw [HI.out] at hr1 ⊢
          obtain ⟨l, p, A, n, c, hb, hrd, hnc, hc, hp, hln, hsr⟩ := hr1.split
          have hsl := hr1.lt
          have h0 := hb.cell 0
          have h1 := hb.cell 1
          have h2 := hb.cell 2
          have f2 := hb.frozen 2
          simp at h0 h1 h2
          have hbk : ∀ N, Blk ((w1.drewN N).setCell ⟨g, 2, none⟩ (.bool true)) g 81 #[.slice A n c, .int .i64 (p : Int), .bool true] := fun N => (hb.drewN N).set_ 2 (.bool true)
          have hgk : ∀ N, w1.grownBy ((w1.drewN N).setCell ⟨g, 2, none⟩ (.bool true)) (some g) := fun N => only_setCell (only_drewN (only_refl w1 g) N) (.inl rfl) _
          have hbad : ∀ N, RS 81 ((w1.drewN N).setCell ⟨g, 2, none⟩ (.bool true)) g none := fun N => RS.mk (hbk N) (hrd.only (hgk N) (by omega) (Nat.le_refl _)) hnc hc hp rfl
          clear hbk hln hsr hb hrd
          go_wp2_with fail
          refine (fLeft_any _ g _ hr1).mono ?_
          rintro e w2 ⟨rfl, N, rfl⟩
          go_wp2
          go_ret
          rw [HC.out]
          exact ⟨rfl, hbad N, only_trans hg1 (hgk N)⟩
        · have hcs : Wire.countS most s = (v, some r) := by unfold Wire.countS; rw [hI]; simp; omega
          have HC := Lib.hid hcs
          clear hcs hI
          have t2 : decide ((Wire.leftS (some r) : Int) < v) = false := decide_eq_false hvl
          go_enter Tryd.func54, Tryd.ntmps54
          go_wp2_with fail
          refine (fInt_any w g s hr).mono ?_
          rintro e w1 ⟨rfl, hr1, hg1⟩
          rw [HI.out] at hr1 ⊢
          obtain ⟨l, p, A, n, c, hb, hrd, hnc, hc, hp, hln, hsr⟩ := hr1.split
          have h2 := hb.cell 2
          simp at h2
          clear hln hsr hb hrd
          go_wp2_with fail
          refine (fLeft_any _ g _ hr1).mono ?_
          rintro e w2 ⟨rfl, N, rfl⟩
          go_wp2
          go_ret
          rw [HC.out]
          exact ⟨rfl, hr1.drewN N, only_drewN hg1 N⟩

set_option maxRecDepth 100000 in
set_option maxHeartbeats 800000 in
theorem fText_any (w : World) (g : Nat) (s : Option (List UInt8)) (most : Int) (hr : RS 81 w g s) :
    Calls Tryd.prog 56 #[.pointer (some ⟨g, 0, none⟩), .int .i64 most] w fun e w' => e = .returned (.string (txt (Wire.textS most s).1)) ∧ RS 81 w' g (Wire.textS most s).2 ∧ w.grownBy w' (some g) := by
  obtain ⟨v, s', hI⟩ : ∃ v s', Wire.countS most s = (v, s') := ⟨_, _, rfl⟩
  have HI := Lib.hid hI
  cases s' with
  | none =>
    have hcs : Wire.textS most s = ([], none) := by unfold Wire.textS; rw [hI]
    have HC := Lib.hid hcs
    clear hI hcs
    go_enter Tryd.func56, Tryd.ntmps56
    go_wp2_with fail
    refine (fCount_any w g s most hr).mono ?_
    rintro e w1 ⟨rfl, hr1, hg1⟩
    rw [HI.out] at hr1 ⊢
    obtain ⟨l, p, A, n, c, hb, hrd, hnc, hc, hp, hln, hsr⟩ := hr1.split
    have h2 := hb.cell 2
    simp at h2
    clear hln hsr hb hrd
    go_wp2
    go_ret
    rw [HC.out]
    exact ⟨rfl, hr1, hg1⟩
  | some r =>
    have hv := Wire.countS_range hI
    have hcs : Wire.textS most s = (r.take v.toNat, some (r.drop v.toNat)) := by unfold Wire.textS; rw [hI]
    have HC := Lib.hid hcs
    clear hI hcs
    obtain ⟨k, rfl⟩ := Int.eq_ofNat_of_zero_le hv.1
    have hv2 := hv.2
    have HV := Lib.hid hv2
    clear hv hv2
    go_enter Tryd.func56, Tryd.ntmps56
    go_wp2_with fail
    refine (fCount_any w g s most hr).mono ?_
    rintro e w1 ⟨rfl, hr1, hg1⟩
    rw [HI.out] at hr1 ⊢
    obtain ⟨l, p, A, n, c, hb, hrd, hnc, hc, hp, hln, hsr⟩ := hr1.split
    have hrr := hsr r rfl
    subst hrr
    have hkn : p + k ≤ n := by have := HV.out; rw [List.length_drop] at this; omega
    have h0 := hb.cell 0
    have h1 := hb.cell 1
    have h2 := hb.cell 2
    have f1 := hb.frozen 1
    simp at h0 h1 h2
    have hbk : Blk (w1.setCell ⟨g, 1, none⟩ (.int .i64 ((p : Int) + (k : Int)))) g 81 #[.slice A n c, .int .i64 ((p + k : Nat) : Int), .bool false] := hb.set_ 1 (.int .i64 ((p : Int) + (k : Int)))
    have hgk : w1.grownBy (w1.setCell ⟨g, 1, none⟩ (.int .i64 ((p : Int) + (k : Int)))) (some g) := only_setCell (only_refl w1 g) (.inl rfl) _
    have hrk := hrd.only hgk (by have := hb.lt; omega) (Nat.le_refl _)
    have hs1 : ∀ W, (Instr.slice 42 (.slice A n c) (some (.int .i64 (p : Int))) (some (.int .i64 ((p : Int) + (k : Int)))) none).run Tryd.prog W = .ok (.slice (cutA A c p) (p + k - p) (c - p)) W :=
      fun W => slice_lh W A n c p (p + k) (by omega) (by omega)
    rw [show p + k - p = k from by omega] at hs1
    have hrt := (hrk.take (k := p + k) (by omega)).cutA (k := p) (c := c) (by omega) (by omega)
    rw [show p + k - p = k from by omega] at hrt
    have kc := fun N => run_string_of (P := Tryd.prog) ((w1.setCell ⟨g, 1, none⟩ (.int .i64 ((p : Int) + (k : Int)))).drewN N) Tryd.underlying42 Tryd.underlying5 Tryd.underlying9 (c - p) (hrt.drewN N)
    have hend : RS 81 (w1.setCell ⟨g, 1, none⟩ (.int .i64 ((p : Int) + (k : Int)))) g (some ((l.drop p).drop k)) := RS.mk (p := p + k) hbk hrk hnc hc hkn (by simp)
    have hte : (l.take (p + k)).drop p = (l.drop p).take k := by rw [List.drop_take]; congr 1; omega
    rw [hte] at kc
    have HLN := Lib.hid hln
    have hen : ((p : Int) + (k : Int)) - (k : Int) = (p : Int) := by omega
    clear hln hsr hrd hrk hrt hbk hb hr1 hte
    go_wp2
    go_quiet (fail)
    go_wp2
    go_ret
    rw [HC.out, Int.toNat_natCast]
    exact ⟨rfl, hend.drewN _, only_drewN (only_trans hg1 hgk) _⟩

theorem rOk_any (w : World) (g : Nat) (s : Option (List UInt8)) (hr : RS 68 w g s) :
    Calls Tryd.prog 35 #[.pointer (some ⟨g, 0, none⟩)] w fun e w' => e = .returned (.bool (Wire.okS s)) ∧ w = w' := by
  obtain ⟨l, p, A, n, c, hb, _⟩ := hr.split
  have h2 := hb.cell 2
  simp at h2
  go_enter Tryd.func35, Tryd.ntmps35
  go_wp2
  go_ret
  exact ⟨by cases s <;> rfl, rfl⟩

set_option maxHeartbeats 400000 in
theorem rNew_any (A : Option Addr) (n c B : Nat) (l : List UInt8) (w : World) (hn : n ≤ 140737488355328) (hrd : Reads w B 1 A n (bv l)) :
    Calls Tryd.prog 16 #[.slice A n c] w fun e w' => ∃ g, e = .returned (.pointer (some ⟨g, 0, none⟩)) ∧ w.heap.size ≤ g ∧ RS 68 w' g (some l) ∧ Below w.heap.size w w' := by
  go_enter Tryd.func16, Tryd.ntmps16
  go_wp2_with (at_builtin; refine app_copy _ rfl _ rfl B A n c l rfl hrd hn ?_; intro A' c' w1 hO hb)
  go_ret
  obtain ⟨A1, c1, e1, hc1, _⟩ := (AppB.form (.inl hO) : _)
  injection e1 with e1 e2 e3
  subst e1; subst e3
  refine ⟨_, rfl, hb.size, RS.mk (p := 0) (Blk.new w1 _ _) (hO.reads.alloc (Nat.le_refl _) _) hc1 (by omega) (by omega) rfl, hb.alloc hb.size _⟩
end Go.Proofs.YtajheglnhfjodaaDoor
