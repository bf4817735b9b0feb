/- Texts joined: WkB. No condition. -/
import Derived.Test.YtebeidnmplnlpaaPkg4
import Derived.Test.YtebeidnmplnlpaaPkg2
section
set_option maxRecDepth 10000
namespace Go.Proofs.Ytebeidnmplnlpaa
set_option linter.unusedVariables false
open Go.RowKit

theorem ints_get {W : World} {A : Option Addr} {n i : Nat} {l : List Int} (hr : Reads W W.heap.size 1 A n (iv .i64 l)) (hi : i < n) : ∃ a, A = some a ∧ ∀ Y, Below W.heap.size W Y → Y.cell? (a.add i) = some (.int .i64 (l.getD i 0)) := by
  obtain ⟨a, u, rfl, ha, hu, hf⟩ := hr.at_ hi
  obtain ⟨x, hx, rfl⟩ := map_at hu
  refine ⟨a, rfl, fun Y hY => ?_⟩
  rw [List.getD_eq_getElem?_getD, hx]
  exact (World.cell?_of_block (by rw [adb]; exact hY.block _ ha)).trans hf
set_option maxHeartbeats 4000000 in
theorem walKeeps_walk (A1 : Option Addr) (n1 c1 : Nat) (ts : List Int) (from_ : Int) (A2 : Option Addr) (n2 c2 : Nat) (ls : List Int) (after : Int) (A3 : Option Addr) (n3 c3 : Nat) (ps : List Int) (W : World)
    (h1 : InInts W A1 n1 c1 ts) (hfr : -9223372036854775808 ≤ from_ ∧ from_ ≤ 9223372036854775807) (h2 : InInts W A2 n2 c2 ls) (haf : -9223372036854775808 ≤ after ∧ after ≤ 9223372036854775807) (h3 : InInts W A3 n3 c3 ps) :
    Calls Try.prog 11 #[.slice A1 n1 c1, .int .i64 from_, .slice A2 n2 c2, .int .i64 after, .slice A3 n3 c3] W fun e W' => e = .returned (.bool true) ∧ Below W.heap.size W W' := by
  obtain ⟨hr1, hnc1, hcc1, hzs1⟩ := h1
  obtain ⟨hr2, hnc2, hcc2, hzs2⟩ := h2
  obtain ⟨hr3, hnc3, hcc3, hzs3⟩ := h3
  have hin1 : ∀ i, i < n1 → -9223372036854775808 ≤ ts.getD i 0 ∧ ts.getD i 0 ≤ 9223372036854775807 := fun i hi => by
    have hl : ts.length = n1 := by have := hr1.1; unfold iv at this; simp at this; omega
    rw [List.getD_eq_getElem?_getD, List.getElem?_eq_getElem (by omega)]
    exact hzs1 _ (List.getElem_mem _)
  refine calls_vc Try.func11 rfl (by kernel_rfl) ?_
  ((conv => whnf); (repeat ((first | (refine VL.cons ?_) | (refine VL.nil ?_) | (refine VC.seqS rfl ?_) | (refine VC.region ?_)); (conv => whnf))))
  ((repeat ((fail); (conv => whnf))))
  refine VCall.of (oNew W 1048576) ?_
  rintro e W1 ⟨d, U, rfl, hd1, hUB, hB1⟩
  refine ⟨_, rfl, ?_⟩
  ((conv => whnf); (repeat ((first | (refine VL.cons ?_) | (refine VL.nil ?_) | (refine VC.seqS rfl ?_) | (refine VC.region ?_)); (conv => whnf))))
  ((repeat ((fail); (conv => whnf))))
  refine VCall.of (walOpen_any W1 U d (DS.new 1048576) hd1 (by decide)) ?_
  rw [lgS_new (room := 1048576) (by decide) (by decide) (by decide)]
  rintro e W2 ⟨U2, hd2, st2, g, Ak, nk, ck, rfl, hw2, hg2, hgl2, hE2⟩
  refine ⟨_, rfl, ?_⟩
  simp only at hd2 hw2 hE2 ⊢
  have hUB2 := st2.min hUB hB1.size
  have hB2 : Below W.heap.size W W2 := hB1.trans (st2.below hUB hB1.size)
  ((conv => whnf); (repeat ((first | (refine VL.cons ?_)); (conv => whnf))))
  ((repeat ((fail); (conv => whnf))))
  refine VSem.allocZ (z := .agg (kC Kp.zero none 0 0)) (by kernel_rfl) ?_
  intro W3 q hq hqe hql hB3
  ((conv => whnf); (repeat ((first | (refine VL.cons ?_)); (conv => whnf))))
  ((repeat ((fail); (conv => whnf))))
  refine VUnit.storeAB hq rfl rfl rfl (by simp [kC, Kp.zero, Value.oneCell']) ?_
  intro X hq4 hg4
  have hB24 : Below W2.heap.size W2 X := only_new hB3 hg4 (by omega) (by omega)
  have hd := hd2.below hB24
  have hw := hw2.later hB24
  have hX := hB2.trans (hB24.mono hB2.size)
  have hgW : W.heap.size ≤ g := by have := hB1.size; omega
  have zX := hX.size
  clear hq hqe hql hB3 hq4 hg4 hB24 hE2 hd2 hw2 hB2 st2 hUB hd1 hgl2 hB1
  ((conv => whnf); (repeat ((first | (refine VL.cons ?_) | (refine VL.nil ?_)); (conv => whnf))))
  ((repeat ((fail); (conv => whnf))))
  ((refine VC.seq ?_; (conv => whnf)))
  ((repeat ((first | (refine VL.cons ?_) | (refine VL.nil ?_) | (refine VC.seqS rfl ?_) | (refine VC.region ?_) | (refine VC.cond ?_) | (refine VC.skip ?_) | (refine VBool.f ?_) | (refine VRead.eqPN ?_)); (conv => whnf))))
  refine VC.cut [15] [(15, 16), (38, 63)] (fun vs Y => ∃ (j : Nat) (Al : Option Addr) (cl : Nat), vs = [.slice Al j cl] ∧ j ≤ 15 ∧ ERow Y (fun q => X.heap.size ≤ q) X.heap.size (.slice Al j cl) (aK ts j) ∧ Below X.heap.size X Y) (by kernel_rfl) ?_ ?_
  · ((conv => whnf); (repeat ((first | (refine VL.cons ?_) | (refine VL.nil ?_) | (refine VC.seqS rfl ?_) | (refine VC.region ?_) | (refine VC.block ?_)); (conv => whnf))))
    ((repeat ((fail); (conv => whnf))))
    refine VC.loop [15, 16] [(15, 16), (38, 63)] (fun m vs Y => ∃ (j : Nat) (Al : Option Addr) (cl : Nat), vs = [.slice Al j cl, .int .i64 (j : Int)] ∧ m = 15 - j ∧ j ≤ 15 ∧ ERow Y (fun q => X.heap.size ≤ q) X.heap.size (.slice Al j cl) (aK ts j) ∧ Below X.heap.size X Y) (by kernel_rfl)
      ⟨_, 0, none, 0, rfl, rfl, by omega, ERow.nil _ _ _, Below.refl _ _⟩ ?_
    rintro m τ vs Y ⟨j, Al, cl, rfl, rfl, hj, hE, hY⟩
    by_cases hlt : j < n1 ∧ j < 15
    case neg =>
      have hcase : ¬ j < n1 ∨ (j < n1 ∧ ¬ j < 15) := by omega
      rcases hcase with hh | ⟨ha, hh⟩
      all_goals
        ((conv => whnf); (repeat ((fail); (conv => whnf))))
        ((repeat ((first | (refine VL.cons ?_) | (refine VL.nil ?_) | (refine VC.seqS rfl ?_) | (refine VC.region ?_) | (refine VC.cond ?_) | (refine VC.exit ?_) | (refine VBool.t ?_) | (refine VBool.f ?_) | (refine VBool.dT (by omega) ?_) | (refine VBool.dF (by omega) ?_) | (refine VRead.lenS ?_) | (refine VC.seq ?_)); (conv => whnf))))
        exact ⟨j, Al, cl, rfl, hj, hE, hY⟩
    obtain ⟨i1, i2⟩ := hlt
    obtain ⟨a, rfl, hf⟩ := ints_get hr1 i1
    have hWY := hX.trans (hY.mono zX)
    have f1 := hf Y hWY
    have p0 := Int.emod_nonneg (ts.getD j 0) (show (9 : Int) ≠ 0 by decide)
    have p1 := Int.emod_lt_of_pos (ts.getD j 0) (show (0 : Int) < 9 by decide)
    ((conv => whnf); (repeat ((fail); (conv => whnf))))
    (repeat ((first | (refine VRead.at1 i1 ?_) | (refine VL.cons ?_) | (refine VL.nil ?_) | (refine VC.seqS rfl ?_) | (refine VC.region ?_) | (refine VC.cond ?_) | (refine VC.block ?_) | (refine VC.skip ?_) | (refine VBool.t ?_) | (refine VBool.dT (by omega) ?_) | (refine VRead.lenS ?_) | (refine VRead.load1 (by assumption) ?_) | (refine VC.seq ?_)); (conv => whnf)))
    refine VCall.of (place_any (ts.getD j 0) 9 Y (hin1 j i1) (by decide) (by decide)) ?_
    rintro e Y' ⟨rfl, eW⟩
    obtain rfl := eW.symm
    refine ⟨_, rfl, ?_⟩
    ((conv => whnf); (repeat ((first | (refine VL.cons ?_)); (conv => whnf))))
    (repeat ((first | (refine VRead.rem (by omega) (by decide) ?_) | (refine VWrap.u8 (by omega) (by omega) ?_) | (refine VL.cons ?_) | (refine VWrap.i64 (by omega) (by omega) ?_) | (refine VSem.convI ?_)); (conv => whnf)))
    refine VSem.buildR (ps := [(0, .int .u8 (j : Int))]) rfl rfl (by simp [Value.oneCell']) (by omega) ?_
    intro Y1 hO1 hB1' hz1
    replace hO1 : Own Y1 Y.heap.size (.slice (some ⟨Y.heap.size, 0, none⟩) 1 1) 1 (aE ts j).data := by
      show Y1.ownsRow _ _ _ _ _ (bv [UInt8.ofNat j])
      rw [bv1' (by omega)]
      exact hO1
    ((conv => whnf); (repeat ((first | (refine VL.cons ?_)); (conv => whnf))))
    ((repeat ((fail); (conv => whnf))))
    refine VRead.ofW (v := .agg #[.int .i64 (1 + ts.getD j 0 % 9), .bool (decide (((j : Int) % 2) = 0)), .slice (some ⟨Y.heap.size, 0, none⟩) 1 1]) (fun _ => by kernel_rfl) ?_
    ((conv => whnf); (repeat ((first | (refine VL.cons ?_)); (conv => whnf))))
    ((repeat ((fail); (conv => whnf))))
    refine VSem.of (v := .slice (some ⟨Y1.heap.size, 0, none⟩) 1 1) (w' := Y1.alloc (.cells #[.int .i64 (1 + ts.getD j 0 % 9), .bool (decide (((j : Int) % 2) = 0)), .slice (some ⟨Y.heap.size, 0, none⟩) 1 1] 67)) (by kernel_rfl) ?_
    have hnew := Blk.new Y1 67 #[.int .i64 (1 + ts.getD j 0 % 9), .bool (decide (((j : Int) % 2) = 0)), .slice (some ⟨Y.heap.size, 0, none⟩) 1 1]
    have hB2' : Below Y1.heap.size Y1 (Y1.alloc (.cells #[.int .i64 (1 + ts.getD j 0 % 9), .bool (decide (((j : Int) % 2) = 0)), .slice (some ⟨Y.heap.size, 0, none⟩) 1 1] 67)) := (Below.refl _ Y1).alloc (Nat.le_refl _) _
    generalize Y1.alloc (.cells #[.int .i64 (1 + ts.getD j 0 % 9), .bool (decide (((j : Int) % 2) = 0)), .slice (some ⟨Y.heap.size, 0, none⟩) 1 1] 67) = Y2 at *
    have zY := hY.size
    have hYY := hB1'.trans (hB2'.mono hB1'.size)
    have hX2 := hY.trans (hYY.mono zY)
    have z2 := hX2.size
    have hO2 := hO1.below hB2' (Nat.le_refl _)
    have hE2 := hE.below hYY
    ((conv => whnf); (repeat ((first | (refine VL.cons ?_)); (conv => whnf))))
    ((repeat ((fail); (conv => whnf))))
    refine ERow.app hE2 (EnAt.one (e := aE ts j) hnew (by show X.heap.size ≤ Y1.heap.size; omega) (Nat.le_refl 1) (Lies.of_own (B := X.heap.size) (hO2.more (B' := X.heap.size) zY) (fun j hj => hj))) (by omega) (by omega) (fun j hj => by show X.heap.size ≤ j; omega) ?_
    intro A7 c7 Y3 hE3 hg3
    rw [← aK_succ] at hE3
    ((conv => whnf); (repeat ((first | (refine VL.cons ?_) | (refine VL.nil ?_) | (refine VC.region ?_)); (conv => whnf))))
    ((repeat ((first | (refine VL.cons ?_) | (refine VL.nil ?_) | (refine VWrap.i64 (by omega) (by omega) ?_)); (conv => whnf))))
    exact ⟨_, by omega, j + 1, A7, c7, rfl, rfl, by omega, hE3, hX2.grown hg3 z2 (fun j hj => (hE2.lt hj).2)⟩
  rintro τ vs Y ⟨na, Aa, ca, rfl, hna, hEa0, hXY⟩
  have hal := aK_len ts na
  have haA := aK_all (ts := ts) (n := na)
  have hd' := hd.below hXY
  have hw' := hw.later hXY
  have hWY := hX.trans (hXY.mono zX)
  have hca := hEa0.at_.2.1
  have hUl := hd.lt
  have hgl := hw.lt
  have hEa : ERow Y (NotU (addF U2 g)) X.heap.size (.slice Aa na ca) (aK ts na) := hEa0.more (Nat.le_refl _) (fun j _ hj hu => by
    have hj' : X.heap.size ≤ j := hj
    rcases hu with hu | hu
    · have := hUl j hu; omega
    · omega)
  have hUg : ∀ j, addF U2 g j → W.heap.size ≤ j := fun j hj => by
    rcases hj with hj | hj
    · exact hUB2 j hj
    · omega
  clear hEa0 hd hw
  generalize aK ts na = a at *
  refine VC.seq ?_
  refine VC.cut [82] [(64, 82)] (fun vs Z => vs = [.bool false] ∧ ∃ (U3 : Foot) (bs : List (List UInt8)), Dsk Z U3 d (lgS 1048576 6 1 bs) ∧ Blk Z g 105 (wlC d ⟨1, 0, na⟩) ∧ ¬ U3 g ∧ (∀ j, addF U3 g j → W.heap.size ≤ j) ∧ Says bs ⟨10, 1, 0, 0, a⟩ ∧ Frame.Good bs ∧ (Frame.laid bs).length ≤ 10000 ∧
    ERow Z (NotU (addF U3 g)) X.heap.size (.slice Aa na ca) a ∧ Below W.heap.size W Z) (by kernel_rfl) ?_ ?_
  · have hok : WlOk ⟨1, 0, 0⟩ := ⟨by decide, by decide, by decide, by decide, by decide, by decide⟩
    by_cases h0 : 0 < na
    · obtain ⟨bs, s1, s2, s3, s4⟩ := keeps_first (a := a) haA (by omega) (fr := 1) (.inl ⟨rfl, fun e => by rw [e] at hal; simp at hal; omega⟩)
      ((conv => whnf); (repeat ((first | (refine VL.cons ?_) | (refine VC.region ?_)); (conv => whnf))))
      ((repeat ((first | (refine VL.cons ?_) | (refine VBool.t ?_) | (refine VBool.dT (by omega) ?_) | (refine VRead.lenS ?_)); (conv => whnf))))
      refine VCall.of (walSave_any Y U2 g d (lgS 1048576 4 1 (waBs Kp.zero)) ⟨1, 0, 0⟩ true 10 1 1 Aa na ca a hd' hw' hg2 hok (hEa.at_.1.more (fun j hj _ => hj)) (by omega) (by decide) (by decide) (by show (4 : Int) + 10 < 1000000; decide)) ?_
      rw [s1]
      rintro e Z ⟨rfl, U3, hd3, hw3, hg3, st3⟩
      refine ⟨_, rfl, ?_⟩
      simp only at hd3 hw3 ⊢
      rw [hal] at hw3
      ((conv => whnf); (repeat ((first | (refine VL.cons ?_)); (conv => whnf))))
      ((repeat ((first | (refine VL.cons ?_) | (refine VL.nil ?_) | (refine VBool.t ?_) | (refine VBool.f ?_) | (refine VBool.dF (by omega) ?_) | (refine VRead.lenS ?_)); (conv => whnf))))
      exact ⟨rfl, U3, bs, hd3, hw3, hg3, st3.min hUg hWY.size, s2, s3, s4, hEa.step st3, hWY.trans (st3.below hUg hWY.size)⟩
    · obtain rfl : na = 0 := by omega
      obtain rfl := List.eq_nil_of_length_eq_zero hal
      obtain ⟨bs, s1, s2, s3, s4⟩ := keeps_first (a := []) haA (by simp) (fr := 0) (.inr ⟨rfl, rfl⟩)
      ((conv => whnf); (repeat ((first | (refine VL.cons ?_) | (refine VC.region ?_)); (conv => whnf))))
      ((repeat ((first | (refine VL.cons ?_) | (refine VBool.t ?_) | (refine VBool.f ?_) | (refine VRead.lenS ?_)); (conv => whnf))))
      refine VCall.of (walSave_any Y U2 g d (lgS 1048576 4 1 (waBs Kp.zero)) ⟨1, 0, 0⟩ true 10 1 0 none 0 0 [] hd' hw' hg2 hok (EnAt.nil _ _ _) (by omega) (by decide) (by decide) (by show (4 : Int) + 10 < 1000000; decide)) ?_
      rw [s1]
      rintro e Z ⟨rfl, U3, hd3, hw3, hg3, st3⟩
      refine ⟨_, rfl, ?_⟩
      simp only at hd3 hw3 ⊢
      ((conv => whnf); (repeat ((first | (refine VL.cons ?_)); (conv => whnf))))
      ((repeat ((first | (refine VL.cons ?_) | (refine VL.nil ?_) | (refine VBool.t ?_) | (refine VBool.f ?_)); (conv => whnf))))
      exact ⟨rfl, U3, bs, hd3, hw3, hg3, st3.min hUg hWY.size, s2, s3, s4, hEa.step st3, hWY.trans (st3.below hUg hWY.size)⟩
  clear hd' hw' hg2 hUg hEa hXY hUB2 hUl
  rintro τ vs Z ⟨rfl, U3, bs, hd3, hw3, hg3, hU3, hS, hgd, hbl, hEa, hWZ⟩
  have zZ := hWZ.size
  have q0 := Int.emod_nonneg from_ (show ((na : Int) + 1) ≠ 0 by omega)
  have q1 := Int.emod_lt_of_pos from_ (show (0 : Int) < (na : Int) + 1 by omega)
  obtain ⟨k, hk⟩ : ∃ k : Nat, from_ % ((na : Int) + 1) = (k : Int) := ⟨(from_ % ((na : Int) + 1)).toNat, by omega⟩
  rw [hk] at q0 q1
  ((conv => whnf); (repeat ((first | (refine VC.cond ?_)); (conv => whnf))))
  ((repeat ((first | (refine VL.cons ?_) | (refine VC.seqS rfl ?_) | (refine VC.region ?_) | (refine VC.skip ?_) | (refine VBool.f ?_) | (refine VRead.lenS ?_) | (refine VWrap.i64 (by omega) (by omega) ?_)); (conv => whnf))))
  refine VCall.of (place_any from_ ((na : Int) + 1) Z hfr (by omega) (by omega)) ?_
  rintro e Z' ⟨rfl, eW⟩
  obtain rfl := eW.symm
  refine ⟨_, rfl, ?_⟩
  rw [hk]
  ((conv => whnf); (repeat ((first | (refine VL.cons ?_)); (conv => whnf))))
  ((repeat ((first | (refine VL.cons ?_) | (refine VL.nil ?_) | (refine VC.seqS rfl ?_) | (refine VC.region ?_) | (refine VWrap.i64 (by omega) (by omega) ?_)); (conv => whnf))))
  refine VC.cut [18] [(18, 19), (89, 110)] (fun vs Y => ∃ (j : Nat) (Al : Option Addr) (cl : Nat), vs = [.slice Al j cl] ∧ j ≤ 10 ∧ ERow Y (fun q => Z.heap.size ≤ q) Z.heap.size (.slice Al j cl) (bK ls j) ∧ Below Z.heap.size Z Y) (by kernel_rfl) ?_ ?_
  · ((conv => whnf); (repeat ((first | (refine VL.cons ?_) | (refine VL.nil ?_) | (refine VC.seqS rfl ?_) | (refine VC.region ?_) | (refine VC.block ?_)); (conv => whnf))))
    ((repeat ((fail); (conv => whnf))))
    refine VC.loop [18, 19] [(18, 19), (89, 110)] (fun m vs Y => ∃ (j : Nat) (Al : Option Addr) (cl : Nat), vs = [.slice Al j cl, .int .i64 (j : Int)] ∧ m = 10 - j ∧ j ≤ 10 ∧ ERow Y (fun q => Z.heap.size ≤ q) Z.heap.size (.slice Al j cl) (bK ls j) ∧ Below Z.heap.size Z Y) (by kernel_rfl)
      ⟨_, 0, none, 0, rfl, rfl, by omega, ERow.nil _ _ _, Below.refl _ _⟩ ?_
    rintro m τ vs Y ⟨j, Al, cl, rfl, rfl, hj, hE, hY⟩
    by_cases hlt : j < n2 ∧ j < 10
    case neg =>
      have hcase : ¬ j < n2 ∨ (j < n2 ∧ ¬ j < 10) := by omega
      rcases hcase with hh | ⟨ha, hh⟩
      all_goals
        ((conv => whnf); (repeat ((fail); (conv => whnf))))
        ((repeat ((first | (refine VL.cons ?_) | (refine VL.nil ?_) | (refine VC.seqS rfl ?_) | (refine VC.region ?_) | (refine VC.cond ?_) | (refine VC.exit ?_) | (refine VBool.t ?_) | (refine VBool.f ?_) | (refine VBool.dT (by omega) ?_) | (refine VBool.dF (by omega) ?_) | (refine VRead.lenS ?_) | (refine VC.seq ?_)); (conv => whnf))))
        exact ⟨j, Al, cl, rfl, hj, hE, hY⟩
    obtain ⟨i1, i2⟩ := hlt
    obtain ⟨a', rfl, hf⟩ := ints_get hr2 i1
    have hWY := hWZ.trans (hY.mono zZ)
    have f1 := hf Y hWY
    ((conv => whnf); (repeat ((fail); (conv => whnf))))
    (repeat ((first | (refine VRead.at1 i1 ?_) | (refine VWrap.u8 (by omega) (by omega) ?_) | (refine VWrap.of (u8_wrap _) ?_) | (refine VL.cons ?_) | (refine VL.nil ?_) | (refine VC.seqS rfl ?_) | (refine VC.region ?_) | (refine VC.cond ?_) | (refine VC.block ?_) | (refine VC.skip ?_) | (refine VBool.t ?_) | (refine VBool.dT (by omega) ?_) | (refine VRead.lenS ?_) | (refine VRead.load1 (by assumption) ?_) | (refine VSem.convI ?_) | (refine VC.seq ?_)); (conv => whnf)))
    refine VSem.buildR (ps := [(0, .int .u8 (ls.getD j 0 % 256)), (1, .int .u8 (j : Int))]) rfl rfl (by simp [Value.oneCell']) (by omega) ?_
    intro Y1 hO1 hB1' hz1
    replace hO1 : Own Y1 Y.heap.size (.slice (some ⟨Y.heap.size, 0, none⟩) 2 2) 2 (bE ls j).data := by
      show Y1.ownsRow _ _ _ _ _ (bv [UInt8.ofNat (ls.getD j 0 % 256).toNat, UInt8.ofNat j])
      rw [bE_bv (by omega)]
      exact hO1
    ((conv => whnf); (repeat ((first | (refine VL.cons ?_)); (conv => whnf))))
    ((repeat ((fail); (conv => whnf))))
    refine VRead.ofW (v := .agg #[.int .i64 11, .bool false, .slice (some ⟨Y.heap.size, 0, none⟩) 2 2]) (fun _ => by kernel_rfl) ?_
    ((conv => whnf); (repeat ((first | (refine VL.cons ?_)); (conv => whnf))))
    ((repeat ((fail); (conv => whnf))))
    refine VSem.of (v := .slice (some ⟨Y1.heap.size, 0, none⟩) 1 1) (w' := Y1.alloc (.cells #[.int .i64 11, .bool false, .slice (some ⟨Y.heap.size, 0, none⟩) 2 2] 67)) (by kernel_rfl) ?_
    have hnew := Blk.new Y1 67 #[.int .i64 11, .bool false, .slice (some ⟨Y.heap.size, 0, none⟩) 2 2]
    have hB2' : Below Y1.heap.size Y1 (Y1.alloc (.cells #[.int .i64 11, .bool false, .slice (some ⟨Y.heap.size, 0, none⟩) 2 2] 67)) := (Below.refl _ Y1).alloc (Nat.le_refl _) _
    generalize Y1.alloc (.cells #[.int .i64 11, .bool false, .slice (some ⟨Y.heap.size, 0, none⟩) 2 2] 67) = Y2 at *
    have zY := hY.size
    have hYY := hB1'.trans (hB2'.mono hB1'.size)
    have hX2 := hY.trans (hYY.mono zY)
    have z2 := hX2.size
    have hO2 := hO1.below hB2' (Nat.le_refl _)
    have hE2 := hE.below hYY
    ((conv => whnf); (repeat ((first | (refine VL.cons ?_)); (conv => whnf))))
    ((repeat ((fail); (conv => whnf))))
    refine ERow.app hE2 (EnAt.one (e := bE ls j) hnew (by show Z.heap.size ≤ Y1.heap.size; omega) (Nat.le_refl 2) (Lies.of_own (B := Z.heap.size) (hO2.more (B' := Z.heap.size) zY) (fun j hj => hj))) (by omega) (by omega) (fun j hj => by show Z.heap.size ≤ j; omega) ?_
    intro A7 c7 Y3 hE3 hg3
    rw [← bK_succ] at hE3
    ((conv => whnf); (repeat ((first | (refine VL.cons ?_) | (refine VL.nil ?_) | (refine VC.region ?_)); (conv => whnf))))
    ((repeat ((first | (refine VL.cons ?_) | (refine VL.nil ?_) | (refine VWrap.i64 (by omega) (by omega) ?_)); (conv => whnf))))
    exact ⟨_, by omega, j + 1, A7, c7, rfl, rfl, by omega, hE3, hX2.grown hg3 z2 (fun j hj => (hE2.lt hj).2)⟩
  rintro τ vs Y ⟨nb, Ab, cb, rfl, hnb, hEb0, hZY⟩
  have hbl' := bK_len ls nb
  have hbA := bK_all (ls := ls) (n := nb)
  have hWY := hWZ.trans (hZY.mono zZ)
  have hEa' := hEa.below hZY
  have hUl := hd3.lt
  have hgl := hw3.lt
  have hEb : ERow Y (NotU (addF U3 g)) Z.heap.size (.slice Ab nb cb) (bK ls nb) := hEb0.more (Nat.le_refl _) (fun j _ hj hu => by
    have hj' : Z.heap.size ≤ j := hj
    rcases hu with hu | hu
    · have := hUl j hu; omega
    · omega)
  have hcb := hEb0.at_.2.1
  have hca' := hEa.at_.2.1
  clear hEb0 hEa
  generalize bK ls nb = b at *
  have r0 := Int.emod_nonneg after (show (3 : Int) ≠ 0 by decide)
  have r1 := Int.emod_lt_of_pos after (show (0 : Int) < 3 by decide)
  ((conv => whnf); (repeat ((first | (refine VL.cons ?_) | (refine VC.seqS rfl ?_) | (refine VC.region ?_)); (conv => whnf))))
  ((repeat ((fail); (conv => whnf))))
  refine VCall.of (place_any after 3 Y haf (by decide) (by decide)) ?_
  rintro e Y' ⟨rfl, eW⟩
  obtain rfl := eW.symm
  refine ⟨_, rfl, ?_⟩
  generalize after % 3 = n at *
  ((conv => whnf); (repeat ((first | (refine VL.cons ?_) | (refine VL.nil ?_)); (conv => whnf))))
  ((repeat ((first | (refine VL.cons ?_) | (refine VC.seqS rfl ?_) | (refine VC.region ?_) | (refine VC.seq ?_)); (conv => whnf))))
  refine VCall.of (oArm Y U3 d _ 19 n (hd3.below hZY) (by omega)) ?_
  have earm : DS.arm (lgS 1048576 6 1 bs) 19 n = (0, ⟨kp 1048576 6 n, [(wName 1, fullF (Frame.laid bs))]⟩) := by
    unfold DS.arm Dk.arm
    rw [if_neg (by omega)]
    rfl
  rw [earm]
  rintro e Y1 ⟨rfl, U4, hd4, st4⟩
  refine ⟨_, rfl, ?_⟩
  simp only at hd4 ⊢
  obtain ⟨hw4, hg4⟩ := st4.blk (hw3.later hZY) hg3
  have hU3' : ∀ j, U3 j → W.heap.size ≤ j := fun j hj => hU3 j (.inl hj)
  have hU4 := st4.min hU3' hWY.size
  have hW1 := hWY.trans (st4.below hU3' hWY.size)
  have hEa1 := hEa'.step (st4.add g)
  have hEb1 := hEb.step (st4.add g)
  have zY1 := hW1.size
  clear hEa' hEb hd3 hw3 hg3 hU3 hUl
  ((conv => whnf); (repeat ((first | (refine VL.cons ?_) | (refine VL.nil ?_) | (refine VC.cond ?_)); (conv => whnf))))
  ((repeat ((first | (refine VL.cons ?_) | (refine VC.seqS rfl ?_) | (refine VC.region ?_) | (refine VC.skip ?_) | (refine VBool.f ?_)); (conv => whnf))))
  refine VCall.of (entriesW_any b Ab nb cb _ Y1 hEb1.at_.1 (by omega) (fun e he => Nat.le_trans (hbA e he).2.1 (by decide))) ?_
  rintro e Y2 ⟨Ac, cc, rfl, hEc, hB2⟩
  refine ⟨_, rfl, ?_⟩
  have hW2 := hW1.trans (hB2.mono hW1.size)
  obtain ⟨R, hR⟩ : ∃ R, DS.wsave ⟨kp 1048576 6 n, [(wName 1, fullF (Frame.laid bs))]⟩ ⟨1, 0, na⟩ true 11 2 (1 + (k : Int)) b = R := ⟨_, rfl⟩
  have key := keeps_open (c := 6) (n := n) (bs := bs) (a := a) (b := b) (k := k) r0 hS hgd hbl (fun e he => (haA e he).1) (fun e he => (haA e he).2.1) (by omega) (fun e he => (hbA e he).1) (fun e he => (hbA e he).2.1) (by omega) (by omega) ps R (by rw [hal]; exact hR)
  obtain ⟨key1, key2, key3, wl, K, key4, key5⟩ := key
  ((conv => whnf); (repeat ((first | (refine VL.cons ?_)); (conv => whnf))))
  ((repeat ((fail); (conv => whnf))))
  refine VCall.of (walSave_any Y2 U4 g d ⟨kp 1048576 6 n, [(wName 1, fullF (Frame.laid bs))]⟩ ⟨1, 0, na⟩ true 11 2 (1 + (k : Int)) Ac nb cc b (hd4.below hB2) (hw4.later hB2) hg4 ⟨by show (0 : Int) ≤ 1; decide, by show (1 : Int) ≤ 99999999; decide, by show (0 : Int) ≤ 0; decide, by show (0 : Int) ≤ 1099511627776; decide, by show (0 : Int) ≤ na; omega, by show (na : Int) ≤ 1100000000000000; omega⟩
    (hEc.at_.1.more (fun j hj _ => hj)) (by omega) (by decide) (by decide) (by show (6 : Int) + 10 < 1000000; decide)) ?_
  rw [hR]
  rintro e Y3 ⟨rfl, U5, hd5, hw5, hg5, st5⟩
  refine ⟨_, rfl, ?_⟩
  have hU4a : ∀ j, addF U4 g j → W.heap.size ≤ j := fun j hj => by
    rcases hj with hj | hj
    · exact hU4 j hj
    · omega
  have hU5 := st5.min hU4a hW2.size
  have hW3 := hW2.trans (st5.below hU4a hW2.size)
  have hEa3 := (hEa1.below hB2).step st5
  have hEb3 := (hEb1.below hB2).step st5
  clear hEa1 hEb1 hEc hd4 hw4 hg4
  ((conv => whnf); (repeat ((first | (refine VL.cons ?_) | (refine VL.nil ?_)); (conv => whnf))))
  (repeat (first | ((first | (refine VL.cons ?_) | (refine VL.nil ?_) | (refine VC.seqS rfl ?_) | (refine VC.region ?_) | (refine VC.cond ?_) | (refine VC.skip ?_) | (refine VRead.neB ?_) | (refine VC.seq ?_)); (conv => whnf)) | (refine VBool.nT (decide_eq_decide.2 key1) ?_; (conv => whnf))))
  refine VCall.of (ints_any A3 n3 c3 _ ps Y3 (by omega) (hr3.below hW3)) ?_
  rintro e Y4 ⟨Ap, cp, rfl, hOp, hB4⟩
  refine ⟨_, rfl, ?_⟩
  have hW4 := hW3.trans (hB4.mono hW3.size)
  ((conv => whnf); (repeat ((first | (refine VL.cons ?_)); (conv => whnf))))
  ((repeat ((fail); (conv => whnf))))
  refine VCall.of (oCrash Y4 U5 d R.1.2 n3 cp Ap ps (hd5.below hB4) (Reads.row hOp) (fun h0 => ?_) (by omega)) ?_
  · obtain ⟨ad, hAd, _, _⟩ := (Reads.row hOp).2 h0
    subst hAd
    exact ⟨ad, rfl, Free.new hOp hd5.lt _ rfl⟩
  rintro e Y5 ⟨rfl, U6, hd6, st6⟩
  refine ⟨_, rfl, ?_⟩
  have hU5' : ∀ j, U5 j → W.heap.size ≤ j := fun j hj => hU5 j (.inl hj)
  have hU6 := st6.min hU5' hW4.size
  have hW5 := hW4.trans (st6.below hU5' hW4.size)
  have hEa5 := (hEa3.below hB4).step (st6.add g)
  have hEb5 := (hEb3.below hB4).step (st6.add g)
  clear hEa3 hEb3 hOp hd5
  ((conv => whnf); (repeat ((first | (refine VL.cons ?_) | (refine VL.nil ?_) | (refine VC.seqS rfl ?_) | (refine VC.region ?_)); (conv => whnf))))
  ((repeat ((fail); (conv => whnf))))
  refine VCall.of (walOpen_any Y5 U6 d (R.1.2.crash ps) hd6 (by omega)) ?_
  rw [key3, key4]
  rintro e Y6 ⟨U7, hd7, st7, gv, Av, nv, cv, rfl, hv7, hgv, hgly, hEv⟩
  refine ⟨_, rfl, ?_⟩
  have hW6 := hW5.trans (st7.below hU6 hW5.size)
  have hEa6 := (hEa5.step (st7.add g)).unU
  have hEb6 := (hEb5.step (st7.add g)).unU
  have hnv := hEv.at_.2.2
  simp only at hnv hEv ⊢
  ((conv => whnf); (repeat ((first | (refine VL.cons ?_)); (conv => whnf))))
  ((repeat ((fail); (conv => whnf))))
  refine VSem.allocZ (z := .agg (kC Kp.zero none 0 0)) (by kernel_rfl) ?_
  intro Y7 p hp hpe hpl hB7
  ((conv => whnf); (repeat ((first | (refine VL.cons ?_)); (conv => whnf))))
  ((repeat ((fail); (conv => whnf))))
  refine VUnit.storeAB hp rfl rfl rfl (by simp [kC, Value.oneCell']) ?_
  intro Y8 hp8 hg8
  rw [setFrom_allW (vs := kC K Av nv cv) (by rfl)] at hp8
  have hB68 : Below Y6.heap.size Y6 Y8 := only_new hB7 hg8 (by omega) (by omega)
  have hW8 := hW6.trans (hB68.mono hW6.size)
  have hEa8 := hEa6.below hB68
  have hEb8 := hEb6.below hB68
  have hEv8 := hEv.below hB68
  have hcv := hEv.at_.2.1
  have hca8 := hEa8.at_.2.1
  have hcb8 := hEb8.at_.2.1
  clear hp hpe hpl hB7 hg8 hEa5 hEb5 hEa6 hEb6 hEv hB68 hd7 hv7
  rcases key5 with ⟨hR0, rfl⟩ | ⟨q, hq, hqR, rfl⟩
  · simp only at hnv hEv8
    obtain rfl : nv = na := by omega
    ((conv => whnf); (repeat ((first | (refine VL.cons ?_) | (refine VL.nil ?_)); (conv => whnf))))
    (repeat (first | ((first | (refine VL.cons ?_) | (refine VL.nil ?_) | (refine VC.seqS rfl ?_) | (refine VC.region ?_) | (refine VC.cond ?_) | (refine VC.skip ?_) | (refine VBool.t ?_) | (refine VBool.f ?_) | (refine VBool.nF (by omega) ?_) | (refine VRead.fld ?_) | (refine VC.seq ?_)); (conv => whnf)) | (refine VRead.loadB hp8 rfl rfl ?_; (conv => whnf)) | (refine VBool.nF hR0 ?_; (conv => whnf))))
    refine VCall.of (sameEntriesW_any a a Av Aa nv cv nv ca _ _ Y8 hEv8.at_.1 hEa8.at_.1 (by omega)) ?_
    rintro e Y9 ⟨rfl, hB9⟩
    refine ⟨_, rfl, ?_⟩
    rw [decide_eq_true rfl]
    have hW9 := hW8.trans (hB9.mono hW8.size)
    ((conv => whnf); (repeat ((first | (refine VL.cons ?_)); (conv => whnf))))
    ((repeat ((first | (refine VBool.dT rfl ?_)); (conv => whnf))))
    refine VCall.of (awake18_any Y9) ?_
    rintro e Y10 ⟨rfl, hB10⟩
    refine ⟨_, rfl, ?_⟩
    ((conv => whnf); (repeat ((first | (refine VL.cons ?_) | (refine VL.nil ?_) | (refine VC.ret ?_)); (conv => whnf))))
    ((repeat ((fail); (conv => whnf))))
    exact ⟨rfl, hW9.trans (hB10.mono hW9.size)⟩
  by_cases h0 : 0 < q
  case neg =>
    simp only [if_neg h0] at hnv hEv8 hp8 ⊢
    obtain rfl : nv = na := by omega
    have hcase : nb = 0 ∨ (¬ nb = 0 ∧ R.1.1 ≠ 0) := by
      by_cases h : R.1.1 = 0
      · have := hqR h; omega
      · by_cases h2 : nb = 0
        · exact .inl h2
        · exact .inr ⟨h2, h⟩
    ((conv => whnf); (repeat ((first | (refine VL.cons ?_) | (refine VL.nil ?_)); (conv => whnf))))
    (repeat (first | ((first | (refine VL.cons ?_) | (refine VL.nil ?_) | (refine VC.seqS rfl ?_) | (refine VC.region ?_) | (refine VC.cond ?_) | (refine VC.skip ?_) | (refine VBool.f ?_) | (refine VRead.fld ?_) | (refine VC.seq ?_)); (conv => whnf)) | (refine VRead.loadB hp8 rfl rfl ?_; (conv => whnf))))
    refine VCall.of (sameEntriesW_any a a Av Aa nv cv nv ca _ _ Y8 hEv8.at_.1 hEa8.at_.1 (by omega)) ?_
    rintro e Y9 ⟨rfl, hB9⟩
    refine ⟨_, rfl, ?_⟩
    rw [decide_eq_true rfl]
    have hW9 := hW8.trans (hB9.mono hW8.size)
    rcases hcase with hn0 | ⟨hn0, hR0⟩
    all_goals
      ((conv => whnf); (repeat ((first | (refine VL.cons ?_)); (conv => whnf))))
      (repeat (first | ((first | (refine VL.cons ?_) | (refine VL.nil ?_) | (refine VC.seqS rfl ?_) | (refine VC.region ?_) | (refine VC.cond ?_) | (refine VBool.t ?_) | (refine VBool.f ?_) | (refine VBool.dT (by omega) ?_) | (refine VBool.dF (by omega) ?_) | (refine VBool.nF (by omega) ?_) | (refine VRead.lenS ?_) | (refine VBool.dT rfl ?_)); (conv => whnf)) | (refine VBool.nF hR0 ?_; (conv => whnf)) | (refine VBool.nT hR0 ?_; (conv => whnf))))
      refine VCall.of (awake18_any Y9) ?_
      rintro e Y10 ⟨rfl, hB10⟩
      refine ⟨_, rfl, ?_⟩
      ((conv => whnf); (repeat ((first | (refine VL.cons ?_) | (refine VL.nil ?_) | (refine VC.ret ?_)); (conv => whnf))))
      ((repeat ((fail); (conv => whnf))))
      exact ⟨rfl, hW9.trans (hB10.mono hW9.size)⟩
  simp only [if_pos h0] at hnv hEv8 hp8 ⊢
  have hne := keeps_new (fun e he => (haA e he).2.2) (fun e he => (hbA e he).2.2) (k := k) (q := q) (a := a) (b := b) (by omega) h0 hq
  have htl : (a.take k).length = k := by rw [List.length_take]; omega
  have hbl2 : (b.take q).length = q := by rw [List.length_take]; omega
  rw [List.length_append, htl, hbl2] at hnv
  obtain rfl : k + q = nv := hnv
  have e1 : (a.take k ++ b.take q).take k = a.take k := by rw [List.take_append, htl, Nat.sub_self, List.take_zero, List.append_nil, List.take_take, Nat.min_self]
  have e2 : (a.take k ++ b.take q).drop k = b.take q := by rw [List.drop_append, htl, Nat.sub_self, List.drop_zero, List.drop_eq_nil_of_le (by omega), List.nil_append]
  ((conv => whnf); (repeat ((first | (refine VL.cons ?_) | (refine VL.nil ?_)); (conv => whnf))))
  (repeat (first | ((first | (refine VL.cons ?_) | (refine VL.nil ?_) | (refine VC.seqS rfl ?_) | (refine VC.region ?_) | (refine VC.cond ?_) | (refine VC.skip ?_) | (refine VBool.f ?_) | (refine VRead.fld ?_) | (refine VC.seq ?_)); (conv => whnf)) | (refine VRead.loadB hp8 rfl rfl ?_; (conv => whnf))))
  refine VCall.of (sameEntriesW_any (a.take k ++ b.take q) a Av Aa (k + q) cv na ca _ _ Y8 hEv8.at_.1 hEa8.at_.1 (by omega)) ?_
  rintro e Y9 ⟨rfl, hB9⟩
  refine ⟨_, rfl, ?_⟩
  rw [decide_eq_false hne]
  have hW9 := hW8.trans (hB9.mono hW8.size)
  have hp9 := hp8.later hB9
  have hEa9 := hEa8.below hB9
  have hEb9 := hEb8.below hB9
  have hEv9 := hEv8.below hB9
  ((conv => whnf); (repeat ((first | (refine VL.cons ?_)); (conv => whnf))))
  (repeat ((first | (refine VRead.loadB hp9 rfl rfl ?_) | (refine VL.cons ?_) | (refine VL.nil ?_) | (refine VC.seqS rfl ?_) | (refine VC.region ?_) | (refine VC.cond ?_) | (refine VC.skip ?_) | (refine VBool.f ?_) | (refine VRead.lenS ?_) | (refine VRead.fld ?_) | (refine VWrap.i64 (by omega) (by omega) ?_)); (conv => whnf)))
  refine VC.seq ?_
  refine VC.cut [203] [(186, 203)] (fun vs T => ∃ bb : Bool, vs = [.bool bb] ∧ bb = false ∧ T = Y9) (by kernel_rfl) ?_ ?_
  · by_cases hR0 : R.1.1 = 0
    · have hqn := hqR hR0
      ((conv => whnf); (repeat ((first | (refine VL.cons ?_) | (refine VC.region ?_)); (conv => whnf))))
      (repeat (first | ((first | (refine VL.cons ?_) | (refine VL.nil ?_) | (refine VBool.t ?_) | (refine VBool.f ?_) | (refine VBool.dT (by omega) ?_) | (refine VBool.dF (by omega) ?_) | (refine VRead.lenS ?_)); (conv => whnf)) | (refine VBool.dT hR0 ?_; (conv => whnf))))
      refine ⟨_, rfl, ?_, rfl⟩
      rw [decide_eq_true (by omega)]
      rfl
    · ((conv => whnf); (repeat ((first | (refine VL.cons ?_) | (refine VC.region ?_)); (conv => whnf))))
      (repeat (first | ((first | (refine VL.cons ?_) | (refine VL.nil ?_) | (refine VBool.f ?_) | (refine VBool.dF (by omega) ?_) | (refine VRead.lenS ?_)); (conv => whnf)) | (refine VBool.dF hR0 ?_; (conv => whnf))))
      exact ⟨_, rfl, rfl, rfl⟩
  rintro τ3 vs T ⟨bb, rfl, rfl, eT⟩
  subst eT
  have hE1 : Below T.heap.size T (T.drewN 1) := below_drewN (Below.refl _ _) 1
  replace hEa9 := hEa9.below hE1
  replace hEb9 := hEb9.below hE1
  replace hEv9 := hEv9.below hE1
  replace hp9 := hp9.later hE1
  replace hW9 := hW9.trans (hE1.mono hW9.size)
  ((conv => whnf); (repeat ((first | (refine VC.cond ?_)); (conv => whnf))))
  ((repeat ((first | (refine VC.draw ?_) | (refine VC.skip ?_) | (refine VBool.f ?_) | (refine VC.seq ?_)); (conv => whnf))))
  refine VDraw.seg (fun Y => Blk Y p 63 (kC ⟨11, 2, 0, 0, a.take k ++ b.take q⟩ Av (k + q) cv)) [([0, 1, 2, 3, 4, 5, 6, 7, 8], 9), ([10, 11, 12, 13, 14, 15, 16, 17, 18], 19), ([20, 21], 22)] [23, 24] (by kernel_rfl) (by kernel_rfl) hp9 ?_
  generalize T.drewN 1 = Y10 at *
  (conv => whnf)
  (repeat ((first | (refine VRead.loadBS (fun Y hY => hY) rfl rfl ?_) | (refine VRead.cutKH k (by omega) (by omega) ?_) | (refine VQ.cons ?_) | (refine VQ.nil ?_) | (refine VG.cons ?_) | (refine VRead.fld ?_) | (refine VWrap.i64 (by omega) (by omega) ?_)); (conv => whnf)))
  have hs1 := sameEntriesW_any ((a.take k ++ b.take q).take k) (a.take k) Av Aa k cv k ca _ _ Y10 (hEv9.at_.1.take (m := k) (by omega)) (hEa9.at_.1.take (m := k) (by omega)) (by omega)
  rw [e1, decide_eq_true rfl] at hs1
  refine VCall.of hs1 ?_
  rintro e Y11 ⟨rfl, hB11⟩
  refine ⟨_, rfl, ?_⟩
  have hp11 := hp9.later hB11
  have hEb11 := hEb9.below hB11
  have hEv11 := hEv9.below hB11
  have hW11 := hW9.trans (hB11.mono hW9.size)
  (conv => whnf)
  refine Keep.mk hp11 ?_
  (conv => whnf)
  (repeat ((first | (refine VRead.loadBS (fun Y hY => hY) rfl rfl ?_) | (refine VQ.cons ?_) | (refine VG.cons ?_) | (refine VBool.t ?_) | (refine VRead.fld ?_) | (refine VWrap.i64 (by omega) (by omega) ?_)); (conv => whnf)))
  refine VRead.cutKL k (by omega) (by omega) ?_
  (conv => whnf)
  ((repeat ((first | (refine VQ.cons ?_) | (refine VBool.t ?_)); (conv => whnf))))
  refine VRead.cutKH q (by omega) (by omega) ?_
  (conv => whnf)
  ((repeat ((first | (refine VQ.nil ?_) | (refine VBool.t ?_)); (conv => whnf))))
  have hs2 := sameEntriesW_any ((a.take k ++ b.take q).drop k) (b.take q) (cutK Av cv k 3) Ab (k + q - k) (cv - k) q cb _ _ Y11 (hEv11.at_.1.drop (m := k) (by omega) (by omega)) (hEb11.at_.1.take (m := q) (by omega)) (by omega)
  rw [e2, decide_eq_true rfl] at hs2
  refine VCall.of hs2 ?_
  rintro e Y12 ⟨rfl, hB12⟩
  refine ⟨_, rfl, ?_⟩
  have hp12 := hp11.later hB12
  have hW12 := hW11.trans (hB12.mono hW11.size)
  (conv => whnf)
  refine Keep.mk hp12 ?_
  (conv => whnf)
  ((repeat ((first | (refine VQ.cons ?_) | (refine VQ.nil ?_) | (refine VG.cons ?_) | (refine VBool.t ?_)); (conv => whnf))))
  refine VCall.of (awake18_any Y12) ?_
  rintro e Y13 ⟨rfl, hB13⟩
  refine ⟨_, rfl, ?_⟩
  have hp13 := hp12.later hB13
  (conv => whnf)
  refine Keep.mk hp13 ?_
  (conv => whnf)
  ((repeat ((first | (refine VC.ret ?_) | (refine VQ.cons ?_) | (refine VQ.nil ?_) | (refine VG.nil ?_)); (conv => whnf))))
  exact ⟨rfl, hW12.trans (hB13.mono hW12.size)⟩
end Go.Proofs.Ytebeidnmplnlpaa
end
