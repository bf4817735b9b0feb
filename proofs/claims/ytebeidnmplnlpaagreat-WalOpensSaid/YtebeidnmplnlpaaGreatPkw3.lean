/- Texts joined: FrameR, FrameG, RF, FrameA, FrameE, SnapB, SnapC, LaidL, Frs, RS, SnapD, RdB, In, DiskQ, RdC, RdD, WalA, WalB, WalC. No condition. -/
import Derived.Test.YtebeidnmplnlpaaGreatPkw0
import Derived.Test.YtebeidnmplnlpaaGreatPkw2
import Derived.RangeFuncRecord
import Derived.RangeFuncLeaves
import Derived.Test.YtebeidnmplnlpaaGreatPkw1
import Derived.SliceStrings
import Derived.Deep.Grids
import Derived.Deep.Slices
import Derived.OpenShut
section
namespace Go.Proofs.YtebeidnmplnlpaaGreat
set_option linter.unusedVariables false
open Go.RowKit

theorem Own.storeApart {w w' : World} {B : Nat} {v : Value} {n g : Nat} {l : List UInt8} (h : Own w B v n l) (hg : w.grownBy w' (some g)) (hne : v.ownBlock ≠ some g) : Own w' B v n l := by
  refine ⟨h.1, ?_⟩
  rcases h.2 with h0 | ⟨k, cap, cur, hv, hbg, hk, r⟩
  · exact .inl h0
  · refine .inr ⟨k, cap, cur, hv, hbg, ?_, r⟩
    rw [hg.block k (by have := (Array.getElem?_eq_some_iff.1 hk).1; omega) (fun e => hne (by rw [hv]; simp [Value.ownBlock]; injection e))]
    exact hk
theorem Own.blk_ne {w : World} {B g T n : Nat} {v : Value} {l : List UInt8} {cs : Array Value} (h : Own w B v n l) (hb : Blk w g T cs) (hne : 5 ≠ T) : v.ownBlock ≠ some g := own_blk_ne h hb hne

/-- what 'one' makes of the bytes from a place on -/
def oneV (l : List UInt8) (a : Nat) (A : Option Addr) (m c : Nat) : Value := match Frame.first (l.drop a) with
  | none => .tuple #[.agg #[.int .i64 0, .slice none 0 0, .int .i64 0], .bool false]
  | some (body, r) => .tuple #[.agg #[.int .i64 (a : Int), .slice A m c, .int .i64 ((a : Int) + (Frame.put body).length)], .bool true]
def oneB (l : List UInt8) (a : Nat) : List UInt8 := match Frame.first (l.drop a) with | none => [] | some (body, _) => body
set_option maxRecDepth 10000 in
theorem refOne_any (A : Option Addr) (n c : Nat) (l : List UInt8) (a : Nat) (w : World) (hn : n ≤ 140737488355328) (hnc : n ≤ c) (ha : a ≤ n) (hr : Reads w w.heap.size 1 A n (bv l)) :
    Calls Tryz.prog 94 #[.slice A n c, .int .i64 (a : Int)] w fun e w' => ∃ A' m c', e = .returned (oneV l a A' m c') ∧ Own w' w.heap.size (.slice A' m c') m (oneB l a) ∧ Below w.heap.size w w' := by
  have hln : l.length = n := by have := hr.1; rw [bv_length] at this; omega
  have hLn : (l.drop a).length = n - a := by rw [List.length_drop, hln]
  refine calls_vc Tryz.func94 rfl (by kernel_rfl) ?_
  ((conv => whnf); (repeat ((first | (refine VL.cons ?_) | (refine VC.seqS rfl ?_) | (refine VC.region ?_)); (conv => whnf))))
  refine VSem.allocZ (z := .agg #[.int .i64 0, .slice none 0 0, .int .i64 0]) (by kernel_rfl) ?_
  intro w1 g4 hb4 hg4 hl4 hB1
  ((conv => whnf); (repeat ((first | (refine VL.cons ?_) | (refine VL.nil ?_) | (refine VC.seqS rfl ?_) | (refine VC.region ?_)); (conv => whnf))))
  ((repeat ((fail); (conv => whnf))))
  refine VRead.ofW (v := .agg #[.slice A n c, .int .i64 (a : Int), .bool false]) (fun _ => by kernel_rfl) ?_
  ((conv => whnf); (repeat ((first | (refine VL.cons ?_)); (conv => whnf))))
  refine VSem.boxB ?_
  intro w2 g hb hg hlg hB2
  have hB2' := hB1.trans (hB2.mono hB1.size)
  have hr2 := (hr.below hB2').more (show w.heap.size ≤ g by rw [hg]; exact hB1.size)
  ((conv => whnf); (repeat ((first | (refine VL.cons ?_) | (refine VL.nil ?_) | (refine VC.seqS rfl ?_) | (refine VC.region ?_)); (conv => whnf))))
  ((repeat ((fail); (conv => whnf))))
  refine VCall.of (fIntX w2 g A n c a l hb hr2 (by omega) ha) ?_
  rintro e w3 ⟨rfl, p', bad, hb3, hp', hI, hg3⟩
  refine ⟨_, rfl, ?_⟩
  have hne : g4 ≠ g := by omega
  have hb4 : Blk w3 g4 122 #[.int .i64 0, .slice none 0 0, .int .i64 0] := (hb4.below hB2 (by omega)).grown hg3 (fun e => hne (by injection e))
  have hB3 : Below w.heap.size w w3 := only_new hB2' hg3 (by rw [hg]; exact hB1.size) hB2'.size
  have hr3 := hr.below hB3
  have hw4 : w.heap.size ≤ g4 := by omega
  have hl4' : g4 < w3.heap.size := hb4.lt
  clear hB2' hB2 hB1 hr2 hb
  have no : ∀ w6, Blk w6 g4 122 #[.int .i64 0, .slice none 0 0, .int .i64 0] → Below w.heap.size w w6 → Frame.first (l.drop a) = none → ∃ A' m c', Ending.returned (.tuple #[.agg #[.int .i64 0, .slice none 0 0, .int .i64 0], .bool false]) = .returned (oneV l a A' m c') ∧ Own w6 w.heap.size (.slice A' m c') m (oneB l a) ∧ Below w.heap.size w w6 := by
    intro w6 _ h6 hF
    exact ⟨none, 0, 0, by unfold oneV; rw [hF], by unfold oneB; rw [hF]; exact Own.nil _ _, h6⟩
  cases hv : Wire.intS (some (l.drop a)) with
  | mk v o =>
    rw [hv] at hI
    simp only at hI
    cases bad
    · simp only [Bool.false_eq_true, if_false] at hI
      subst hI
      obtain ⟨e, hv1, hv2⟩ := Wire.intS_back hv
      have j1 := hb3.cell 1
      have j2 := hb3.cell 2
      simp at j1 j2
      by_cases hvb : v < 1 ∨ 1048576 < v ∨ ((n : Int) - p' - 4 < v)
      · have hF : Frame.first (l.drop a) = none := by
          unfold Frame.first; rw [hv]; simp only; rw [if_neg (by simp; omega)]
        ((conv => whnf); (repeat ((first | (refine VL.cons ?_) | (refine VL.nil ?_)); (conv => whnf))))
        ((repeat' ((first | (refine VL.cons ?_) | (refine VL.nil ?_) | (refine VC.seqS rfl ?_) | (refine VC.region ?_) | (refine VC.cond ?_) | (refine VBool.t ?_) | (refine VBool.f ?_) | (refine VBool.dT (by omega) ?_) | (refine VRead.lenS ?_) | (refine VRead.fld ?_) | (refine VRead.load1 (by assumption) ?_) | (refine VWrap.i64 (by omega) (by omega) ?_) | (refine VC.seq ?_) | (refine VBool.dec (fun h => ?_) (fun h => ?_))); (conv => whnf))))
        all_goals
          refine VRead.ofW (v := .agg #[.int .i64 0, .slice none 0 0, .int .i64 0]) (fun _ => by kernel_rfl) ?_
          ((conv => whnf); (repeat ((first | (refine VL.cons ?_)); (conv => whnf))))
          refine VUnit.storeAB hb4 rfl rfl rfl (by simp [Value.oneCell']) ?_
          intro w6 hb6 hg6
          ((conv => whnf); (repeat ((first | (refine VL.cons ?_) | (refine VL.nil ?_) | (refine VC.ret ?_)); (conv => whnf))))
          ((repeat ((fail); (conv => whnf))))
          refine VRes.cellTmp rfl hb6 rfl ?_
          exact no w6 hb6 (only_new hB3 hg6 hw4 hB3.size) hF
      · obtain ⟨m, rfl⟩ : ∃ m : Nat, v = (m : Int) := ⟨v.toNat, by omega⟩
        have hi10 := Wire.int_len (m : Int)
        have hpl : p' = a + (Wire.int (m : Int)).length := by
          have := congrArg List.length e
          rw [hLn, List.length_append, List.length_drop, hln] at this
          omega
        generalize hr' : l.drop p' = r at e
        have hrl : r.length = n - p' := by rw [← hr', List.length_drop, hln]
        rw [hr'] at hv
        have hbl : (l.take (p' + 4 + m)).drop (p' + 4) = (r.drop 4).take m := by
          rw [List.drop_take, ← List.drop_drop, hr', show p' + 4 + m - (p' + 4) = m by omega]
        have hbm : ((r.drop 4).take m).length = m := by rw [List.length_take, List.length_drop]; omega
        have hall : (l.take (p' + 4 + m)).drop a = Wire.int (m : Int) ++ (r.take 4 ++ (r.drop 4).take m) := by
          rw [List.drop_take, e, List.take_append, List.take_of_length_le (by omega), show p' + 4 + m - a - (Wire.int (m : Int)).length = 4 + m by omega, List.take_add]
        ((conv => whnf); (repeat ((first | (refine VL.cons ?_) | (refine VL.nil ?_)); (conv => whnf))))
        ((repeat ((first | (refine VL.cons ?_) | (refine VL.nil ?_) | (refine VC.seqS rfl ?_) | (refine VC.region ?_) | (refine VC.cond ?_) | (refine VC.skip ?_) | (refine VBool.f ?_) | (refine VBool.dF (by omega) ?_) | (refine VRead.lenS ?_) | (refine VRead.fld ?_) | (refine VRead.load1 (by assumption) ?_) | (refine VWrap.i64 (by omega) (by omega) ?_) | (refine VC.seq ?_)); (conv => whnf))))
        refine VRead.cutR (p' + 4) (p' + 4 + m) hr3 (by omega) (by omega) (by omega) (by omega) hnc ?_
        intro A5 hr5
        rw [show p' + 4 + m - (p' + 4) = m by omega, hbl] at hr5
        rw [show p' + 4 + m - (p' + 4) = m by omega]
        ((conv => whnf); (repeat ((first | (refine VL.cons ?_)); (conv => whnf))))
        refine VSem.appO (Own.nil _ w3.heap.size) hr5 (by omega) (Nat.le_refl _) ?_
        intro A7 c7 w7 hO7 _ hb7
        rw [Nat.zero_add] at hO7 ⊢
        rw [List.nil_append] at hO7
        have hB7 := hB3.trans (hb7.mono hB3.size)
        have hb47 := hb4.below hb7 hl4'
        ((conv => whnf); (repeat ((first | (refine VL.cons ?_) | (refine VL.nil ?_) | (refine VC.seqS rfl ?_) | (refine VC.region ?_)); (conv => whnf))))
        ((repeat ((fail); (conv => whnf))))
        refine VCall.of (refPut_any A7 m c7 _ w7 (by omega) hO7.reads) ?_
        rintro e8 w8 ⟨A8, m8, c8, rfl, hO8, hb8⟩
        refine ⟨_, rfl, ?_⟩
        have hO78 := hO7.below hb8 (Nat.le_refl _)
        have hB8 := hB7.trans (hb8.mono hB7.size)
        have hb48 := hb47.below hb8 hb47.lt
        have hr8 := hr.below hB8
        ((conv => whnf); (repeat ((first | (refine VL.cons ?_) | (refine VL.nil ?_)); (conv => whnf))))
        ((repeat ((first | (refine VC.draw ?_) | (refine VC.seq ?_)); (conv => whnf))))
        (refine VDraw.seg (Eq (World.drewN _ 1)) [] [0, 1, 2, 3, 4, 5, 6, 7, 8, 9] (by kernel_rfl) (by kernel_rfl) rfl ?_; (conv => whnf))
        ((repeat ((first | (refine VQ.cons ?_) | (refine VG.nil ?_)); (conv => whnf))))
        refine VRead.convT1 (w := w8.drewN 1) hO8.reads ?_
        ((conv => whnf); (repeat ((first | (refine VQ.cons ?_)); (conv => whnf))))
        ((repeat ((first | (refine VQ.cons ?_) | (refine VWrap.i64 (by omega) (by omega) ?_)); (conv => whnf))))
        refine VRead.cutR a (p' + 4 + m) hr8 rfl (by omega) (by omega) (by omega) hnc ?_
        intro A9 hr9
        rw [hall] at hr9
        ((conv => whnf); (repeat ((first | (refine VQ.cons ?_)); (conv => whnf))))
        ((repeat ((fail); (conv => whnf))))
        refine VRead.convT1 (w := w8.drewN 1) hr9 ?_
        ((conv => whnf); (repeat ((first | (refine VC.cond ?_) | (refine VQ.cons ?_) | (refine VQ.nil ?_)); (conv => whnf))))
        ((repeat ((fail); (conv => whnf))))
        by_cases hs : r.take 4 = Frame.le4 (Frame.sum ((r.drop 4).take m))
        · have hF : Frame.first (l.drop a) = some ((r.drop 4).take m, r.drop (4 + m)) := by
            unfold Frame.first; rw [hv]; simp only [Int.toNat_natCast]
            rw [if_pos ⟨by omega, by omega, by omega, hs⟩]
          have hq : txt (Frame.put ((r.drop 4).take m)) = txt (Wire.int (m : Int) ++ (r.take 4 ++ (r.drop 4).take m)) := by
            rw [txt_inj, hs]; unfold Frame.put; rw [hbm, List.append_assoc]
          have hpl2 : (Frame.put ((r.drop 4).take m)).length = (Wire.int (m : Int)).length + 4 + m := by rw [Frame.put_len, hbm]
          refine VBool.nT hq ?_
          ((conv => whnf); (repeat ((first | (refine VL.cons ?_) | (refine VC.seqS rfl ?_) | (refine VC.region ?_) | (refine VC.skip ?_)); (conv => whnf))))
          ((repeat ((first | (refine VL.cons ?_) | (refine VWrap.i64 (by omega) (by omega) ?_)); (conv => whnf))))
          refine VRead.ofW (v := .agg #[.int .i64 (a : Int), .slice A7 m c7, .int .i64 ((p' : Int) + 4 + m)]) (fun _ => by kernel_rfl) ?_
          ((conv => whnf); (repeat ((first | (refine VL.cons ?_)); (conv => whnf))))
          refine VUnit.storeAB (hb48.drewN 1) rfl rfl rfl (by simp [Value.oneCell']) ?_
          intro w6 hb6 hg6
          have hg6 := only_of_drewN hg6
          ((conv => whnf); (repeat ((first | (refine VL.cons ?_) | (refine VL.nil ?_) | (refine VC.ret ?_)); (conv => whnf))))
          ((repeat ((fail); (conv => whnf))))
          refine VRes.cellTmp rfl hb6 rfl ?_
          refine ⟨A7, m, c7, ?_, ?_, only_new hB8 hg6 hw4 hB8.size⟩
          · unfold oneV
            rw [hF]
            simp only
            rw [hpl2, show (a : Int) + (((Wire.int (m : Int)).length + 4 + m : Nat) : Int) = (p' : Int) + 4 + m by omega]
            rfl
          · unfold oneB
            rw [hF]
            exact (hO78.storeApart hg6 (hO78.blk_ne hb48 (by decide))).more hB3.size
        · have hF : Frame.first (l.drop a) = none := by
            unfold Frame.first; rw [hv]; simp only [Int.toNat_natCast]
            rw [if_neg (fun h => hs h.2.2.2)]
          have hq : ¬ txt (Frame.put ((r.drop 4).take m)) = txt (Wire.int (m : Int) ++ (r.take 4 ++ (r.drop 4).take m)) := by
            rw [txt_inj]; unfold Frame.put; rw [hbm, List.append_assoc]
            intro h
            have h := List.append_cancel_left h
            exact hs (List.append_inj_left h (by rw [Frame.le4_len, List.length_take]; omega)).symm
          refine VBool.nF hq ?_
          ((conv => whnf); (repeat ((first | (refine VL.cons ?_) | (refine VC.seqS rfl ?_) | (refine VC.region ?_)); (conv => whnf))))
          ((repeat ((fail); (conv => whnf))))
          refine VRead.ofW (v := .agg #[.int .i64 0, .slice none 0 0, .int .i64 0]) (fun _ => by kernel_rfl) ?_
          ((conv => whnf); (repeat ((first | (refine VL.cons ?_)); (conv => whnf))))
          refine VUnit.storeAB (hb48.drewN 1) rfl rfl rfl (by simp [Value.oneCell']) ?_
          intro w6 hb6 hg6
          ((conv => whnf); (repeat ((first | (refine VL.cons ?_) | (refine VL.nil ?_) | (refine VC.ret ?_)); (conv => whnf))))
          ((repeat ((fail); (conv => whnf))))
          refine VRes.cellTmp rfl hb6 rfl ?_
          exact no w6 hb6 (only_new hB8 (only_of_drewN hg6) hw4 hB8.size) hF
    · simp only [if_true] at hI
      subst hI
      have hF : Frame.first (l.drop a) = none := by unfold Frame.first; rw [hv]
      have j2 := hb3.cell 2
      simp at j2
      ((conv => whnf); (repeat ((first | (refine VL.cons ?_) | (refine VL.nil ?_)); (conv => whnf))))
      ((repeat ((first | (refine VL.cons ?_) | (refine VL.nil ?_) | (refine VC.seqS rfl ?_) | (refine VC.region ?_) | (refine VC.cond ?_) | (refine VBool.t ?_) | (refine VRead.fld ?_) | (refine VRead.load1 (by assumption) ?_) | (refine VC.seq ?_)); (conv => whnf))))
      refine VRead.ofW (v := .agg #[.int .i64 0, .slice none 0 0, .int .i64 0]) (fun _ => by kernel_rfl) ?_
      ((conv => whnf); (repeat ((first | (refine VL.cons ?_)); (conv => whnf))))
      refine VUnit.storeAB hb4 rfl rfl rfl (by simp [Value.oneCell']) ?_
      intro w6 hb6 hg6
      ((conv => whnf); (repeat ((first | (refine VL.cons ?_) | (refine VL.nil ?_) | (refine VC.ret ?_)); (conv => whnf))))
      ((repeat ((fail); (conv => whnf))))
      refine VRes.cellTmp rfl hb6 rfl ?_
      exact no w6 hb6 (only_new hB3 hg6 hw4 hB3.size) hF
end Go.Proofs.YtebeidnmplnlpaaGreat
end

section
namespace Go.Proofs.YtebeidnmplnlpaaGreat
set_option linter.unusedVariables false
open Go.RowKit

end Go.Proofs.YtebeidnmplnlpaaGreat
end

section
namespace Go.Proofs.YtebeidnmplnlpaaGreat
set_option linter.unusedVariables false
open Go.RowKit

/-! ### a round -/
def setPs : List Nat → List Value → Env → Env
  | t :: ts, v :: vs, σ => setPs ts vs (setE σ t v)
  | _, _, σ => σ
theorem Agr.foldPs {n : Nat} : ∀ (ps : List Nat) (vs : List Value) (tm : Array Value) (σ : Env), (∀ t ∈ ps, t < n) → Agr n [] { tmps := tm, defers := [] } σ → Agr n [] { tmps := (ps.zip vs).foldl (fun t p => t.setIfInBounds p.1 p.2) tm, defers := [] } (setPs ps vs σ)
  | [], vs, tm, σ, h, hA => by simpa [setPs] using hA
  | t :: ts, [], tm, σ, h, hA => by simpa [setPs] using hA
  | t :: ts, v :: vs, tm, σ, h, hA => by
    simp only [List.zip_cons_cons, List.foldl_cons, setPs]
    exact Agr.foldPs ts vs _ _ (fun u hu => h u (List.mem_cons_of_mem _ hu)) (hA.put (d := some t) (fun u hu => by injection hu with hu; subst hu; exact h _ (by simp)) v)
/-- what a round's end makes of the loop's record, and what yield hands back -/
def loopP (l : Nat) (K : Value → World → Prop) : Post := fun e σ w => match e with
  | .normal => ∃ r, w.heap[l]? = some (.loop r) ∧ K (.bool true) (w.putObj l (.loop { r with state := .ready, pending := none }))
  | .ret => ∃ r, w.heap[l]? = some (.loop r) ∧ K (.bool false) (w.putObj l (.loop { r with state := .done, pending := some .ret }))
  | .exit id => ∃ r, w.heap[l]? = some (.loop r) ∧ K (.bool false) (w.putObj l (.loop { r with state := .done, pending := some (.exit id) }))
  | _ => False
theorem VYield.of {P : Program} {n l : Nat} {args : List Value} {w : World} {K : Value → World → Prop} {r : Loop} {σ : Env} (hl : w.heap[l]? = some (.loop r)) (hr : r.state = .ready) (hA : Agr n [] { tmps := r.tmps, defers := [] } σ)
    (hok : (codeOk n r.assign && codeOk n r.body && calm r.assign && calm r.body && Nat.beq args.length r.params.toList.length && r.params.toList.all fun t => Nat.blt t n) = true)
    (h : VC P n r.assign (thenP (fun σ1 w1 => ∃ r1, w1.heap[l]? = some (.loop r1) ∧ r1.state = .ready ∧ VC P n r.body (loopP l K) σ1 (w1.putObj l (.loop { r1 with state := .busy }))) (fun _ _ _ => False)) (setPs r.params.toList args σ) w) :
    VYield P l args w K := by
  simp only [Bool.and_eq_true] at hok
  obtain ⟨⟨⟨⟨⟨h1, h2⟩, h3⟩, h4⟩, h5⟩, h6⟩ := hok
  refine ⟨⟨_, _, _, _, run_yield hl ?_, roundIn_of_wpIn trivial ?_⟩⟩
  · rw [List.size_toArray, Nat.eq_of_beq_eq_true h5]; simp
  have hA2 := Agr.foldPs r.params.toList args r.tmps σ (fun t ht => Nat.blt_eq ▸ List.all_eq_true.1 h6 t ht) hA
  have e : (r.params.zip args.toArray).foldl (fun tmps (t, a) => tmps.setIfInBounds t a) r.tmps = (r.params.toList.zip args).foldl (fun t p => t.setIfInBounds p.1 p.2) r.tmps := by
    rw [← Array.foldl_toList]; simp [Array.toList_zip]
  rw [e]
  refine wpIn_mono (vc_soundIn (ro := some l) (m := 0) r.assign _ _ _ _ h1 (.inr h3) hA2 h.out) fun x a1 w1 hx => ?_
  cases x with
  | normal =>
    obtain ⟨σ1, hA1, _, r1, g1, g2, g3⟩ := hx
    refine ⟨_, run_beginRound g1 g2, ?_⟩
    refine wpIn_mono (vc_soundIn (ro := some l) (m := 0) r.body _ _ _ _ h2 (.inr h4) hA1 g3.out) fun y a2 w2 hy => ?_
    cases y with
    | normal =>
      obtain ⟨σ2, hA2, _, r2, k1, k2⟩ := hy
      exact ⟨_, _, run_endRound none k1, _, rfl, k2⟩
    | ret =>
      obtain ⟨σ2, hA2, _, r2, k1, k2⟩ := hy
      exact ⟨_, _, run_endRound (some .ret) k1, _, rfl, k2⟩
    | exit id =>
      obtain ⟨σ2, hA2, _, r2, k1, k2⟩ := hy
      exact ⟨_, _, run_endRound (some (.exit id)) k1, _, rfl, k2⟩
    | goto _ => obtain ⟨_, _, _, k⟩ := hy; exact False.elim k
    | panic _ => exact hy
    | outgrown => exact hy
  | panic _ => exact hx
  | outgrown => exact hx
  | ret => obtain ⟨_, _, _, k⟩ := hx; exact k
  | exit _ => obtain ⟨_, _, _, k⟩ := hx; exact k
  | goto _ => obtain ⟨_, _, _, k⟩ := hx; exact k

/-! ### code that may hold the statement -/
abbrev PostD := List Deferred → Post
def LiftW (n : Nat) (Q : PostD) : Exit → Act → World → Prop := fun e a w => match e with
  | .panic _ | .outgrown => False
  | e => ∃ ds σ, Agr n ds a σ ∧ Q ds e σ w
structure VW (P : Program) (n : Nat) (ds : List Deferred) (c : Code) (Q : PostD) (σ : Env) (w : World) : Prop where
  out : ∀ a, Agr n ds a σ → c.wpIn Fence.wide 0 P (LiftW n Q) a w
def thenD (K : List Deferred → Env → World → Prop) (Q : PostD) : PostD := fun ds e σ w => match e with | .normal => K ds σ w | e => Q ds e σ w
section
variable {P : Program} {n : Nat} {ds : List Deferred} {Q : PostD} {σ : Env} {w : World}
theorem VW.seq {x y : Code} (h : VW P n ds x (thenD (fun ds' => VW P n ds' y Q) Q) σ w) : VW P n ds (.seq x y) Q σ w := by
  refine ⟨fun a hA => wpIn_seq (wpIn_mono (h.out a hA) fun e a1 w1 hl => ?_)⟩
  cases e with
  | normal => obtain ⟨ds', σ1, hA1, h1⟩ := hl; exact h1.out _ hA1
  | _ => exact hl
theorem VW.vc {c : Code} (hok : codeOk n c = true) (h : VC P n c (Q ds) σ w) : VW P n ds c Q σ w := by
  refine ⟨fun a hA => wpIn_mono (vc_soundIn (ro := none) (m := 0) c _ _ _ _ hok (.inl rfl) hA h.out) fun e a1 w1 hl => ?_⟩
  unfold Lift at hl
  unfold LiftW
  cases e <;> simp only at hl ⊢
  all_goals first
    | exact hl
    | (obtain ⟨σ1, hA1, _, hq⟩ := hl; exact ⟨ds, σ1, hA1, hq⟩)
theorem VW.block {id : Nat} {c : Code} (h : VW P n ds c (fun ds => blockP id (Q ds)) σ w) : VW P n ds (.block id c) Q σ w := by
  refine ⟨fun a hA => wpIn_block (wpIn_mono (h.out a hA) fun e a1 w1 hl => ?_)⟩
  cases e with
  | exit id' =>
    obtain ⟨ds', σ1, hA1, h1⟩ := hl
    simp only [blockP] at h1
    simp only [Exit.inBlock]
    by_cases hid : id' = id
    · rw [if_pos hid]
      have : Nat.beq id' id = true := by rw [hid]; exact Nat.beq_refl id
      rw [this] at h1
      exact ⟨ds', σ1, hA1, h1⟩
    · rw [if_neg hid]
      have : Nat.beq id' id = false := by rw [Bool.eq_false_iff]; intro e; exact hid (Nat.eq_of_beq_eq_true e)
      rw [this] at h1
      exact ⟨ds', σ1, hA1, h1⟩
  | _ => exact hl
/-- how the statement goes on when the function has returned -/
def pendP (Q : PostD) (ds : List Deferred) (j : Option Code) (σ : Env) (w : World) : Prop := match j with
  | none => Q ds .normal σ w
  | some .ret => Q ds .ret σ w
  | some (.exit id) => Q ds (.exit id) σ w
  | _ => False
theorem VW.range {g : Operand} {ps : Array Tmp} {assign body : Code} {gf : Nat} {lb : Array Value} (hg : ev σ g = .func (.func gf) #[] lb) (he : enters P gf = true)
    (h : ∀ (r : Loop) (w1 : World), r.state = .ready → r.pending = none → r.params = ps → r.assign = assign → r.body = body → Agr n [] { tmps := r.tmps, defers := [] } σ → Below w.heap.size w w1 →
      w1.heap[w.heap.size]? = some (.deferred (some [])) → w1.heap[w.heap.size + 1]? = some (.loop r) → w1.heap.size = w.heap.size + 2 →
      VCall P gf (.func (.yield (w.heap.size + 1)) #[] #[] :: lb.toList) w1 (fun _ w2 => ∃ r2, w2.heap[w.heap.size + 1]? = some (.loop r2) ∧ r2.state ≠ .busy ∧
        pendP Q (⟨.collected w.heap.size, #[]⟩ :: ds) r2.pending σ (w2.putObj (w.heap.size + 1) (.loop { r2 with state := .exhausted })))) : VW P n ds (.rangeFunc g ps assign body) Q σ w := by
  refine ⟨fun a hA => wpIn_rangeFunc fun fn _ => ?_⟩
  let r : Loop := { state := .ready, pending := none, fn, tmps := a.tmps, params := ps, assign, body, defers := w.heap.size }
  let w1 : World := (w.alloc (.deferred (some []))).alloc (.loop r)
  have hB : Below w.heap.size w w1 := ((Below.refl _ _).alloc (Nat.le_refl _) _).alloc (by rw [World.size_alloc]; omega) _
  have hD : w1.heap[w.heap.size]? = some (.deferred (some [])) := by
    rw [show w1 = (w.alloc (.deferred (some []))).alloc (.loop r) from rfl, Below.heap_alloc _ _ _ (by rw [World.size_alloc]; omega), World.alloc_heap_new]
  have hL : w1.heap[w.heap.size + 1]? = some (.loop r) := by
    have := World.alloc_heap_new (w.alloc (.deferred (some []))) (.loop r)
    rwa [World.size_alloc] at this
  have hS : w1.heap.size = w.heap.size + 2 := by show ((w.alloc _).alloc _).heap.size = _; rw [World.size_alloc, World.size_alloc]
  have hc := h r w1 rfl rfl rfl rfl rfl ⟨hA.size, hA.val, rfl⟩ hB hD hL hS
  simp only [VCall_eq] at hc
  obtain ⟨hc1, hc2⟩ := hc
  refine ⟨_, _, w1, ⟨.fn (.func gf) lb, #[.func (.yield (w.heap.size + 1)) #[] #[]]⟩, w1, gf, #[.func (.yield (w.heap.size + 1)) #[] #[]] ++ lb, w1, run_enterLoop_outer _ _ _ _ _, ?_, fun _ _ => trivial, ?_, fun h => (by exact absurd h (by decide)), ?_⟩
  · unfold resolve
    simp only [hA.eval, hg]
    simp [Deferred.ofValue, ev]
  · unfold invoke
    exact callFunc_run he
  · refine callsIn_wide.2 ?_
    have e3 : (Value.func (.yield (w.heap.size + 1)) #[] #[] :: lb.toList).toArray = #[.func (.yield (w.heap.size + 1)) #[] #[]] ++ lb := by rw [← Array.toList_inj]; simp
    rw [e3] at hc2
    refine hc2.mono fun e w2 hh => ?_
    obtain ⟨v, rfl, r2, k1, k2, k3⟩ := hh
    refine ⟨_, _, run_endLoop k1 k2, ?_⟩
    have hA' : Agr n (⟨.collected w.heap.size, #[]⟩ :: ds) { a with defers := [⟨.collected w.heap.size, #[]⟩] ++ a.defers } σ := ⟨hA.size, hA.val, by simp [hA.defers]⟩
    unfold pendP at k3
    generalize r2.pending = j at k3 ⊢
    cases j with
    | none => exact ⟨_, _, hA', k3⟩
    | some c =>
      cases c with
      | ret => exact wpIn_ret ⟨_, _, hA', k3⟩
      | exit id => exact wpIn_exit ⟨_, _, hA', k3⟩
      | _ => exact k3.elim
end

/-! ### a function that holds one -/
def leaveD : List Deferred → World → (World → Prop) → Prop
  | [], w, K => K w
  | d :: ds, w, K => match d.target with
    | .collected r => w.heap[r]? = some (.deferred (some [])) ∧ leaveD ds (w.putObj r (.deferred none)) K
    | _ => False
def retD (P : Program) (rs : List ResultVar) (R : Ending → World → Prop) : PostD := fun ds e σ w => match e with
  | .normal | .ret => leaveD ds w (fun w' => vres P rs σ w' R)
  | _ => False
theorem leaveD_out {P : Program} {m : Nat} {fn : Func} {tm : Array Value} {R : Ending → World → Prop} {K : World → Prop} (hK : ∀ w, K w → ∃ v, (results fn tm).run P w = .ok v w ∧ R (.returned v) w) : ∀ (ds : List Deferred) (w : World), leaveD ds w K → LeavesInM Fence.wide m P fn tm R ds .returning w
  | [], w, h => hK w h
  | d :: ds, w, h => by
    unfold leaveD at h
    split at h
    · rename_i r e
      exact ⟨by simp, .inl ⟨r, _, e, run_takeDeferred h.1, leaveD_out hK ds _ h.2⟩⟩
    · exact h.elim
theorem calls_vw {P : Program} {f : FuncId} {fn : Func} {c : Code} {args : List Value} {w : World} {R : Ending → World → Prop} (hf : P.funcs[f]? = some fn) (hb : fn.body = some c)
    (hok : Nat.ble args.length fn.ntmps = true) (h : VW P fn.ntmps [] c (retD P fn.results.toList R) (envOf args) w) : Calls P f args.toArray w R := by
  refine callsIn_wide.1 (callsIn_of_wp_marks (n := 0) hf hb trivial (wpIn_mono (h.out _ (Agr.enter _ args (Nat.le_of_ble_eq_true hok))) fun e a' w' hl => ?_))
  unfold LiftW at hl
  cases e <;> simp only at hl
  all_goals first
    | exact hl.elim
    | (obtain ⟨ds, σ, hA, hr⟩ := hl
       first
         | exact hr.elim
         | (show LeavesInM _ _ _ _ _ _ _ _ _
            rw [hA.defers]
            refine leaveD_out (fun w hw => ?_) _ _ hr
            obtain ⟨v, h1, h2⟩ := vres_out hw
            exact ⟨v, by rw [resE_run (P := P) hA]; exact h1, h2⟩))
end Go.Proofs.YtebeidnmplnlpaaGreat
end

section
namespace Go.Proofs.YtebeidnmplnlpaaGreat
set_option linter.unusedVariables false
open Go.RowKit

namespace Frame
/-- the place of the k-th frame -/
def place (l : List UInt8) : Nat → Int
  | 0 => 0
  | k + 1 => (get l (place l k)).2.1
def okAt (l : List UInt8) (k : Nat) : Prop := (get l (place l k)).2.2 = 0
def body (l : List UInt8) (k : Nat) : List UInt8 := (get l (place l k)).1
theorem get_ok {l : List UInt8} {a : Int} (h : (get l a).2.2 = 0) : 0 ≤ a ∧ a + 6 ≤ (get l a).2.1 ∧ (get l a).2.1 ≤ l.length ∧ (get l a).2.1 = a + (put (get l a).1).length ∧ 1 ≤ (get l a).1.length := by
  unfold get at h ⊢
  split at h
  · exact absurd h (by decide)
  · rename_i h1
    rw [if_neg h1]
    split at h
    · exact absurd h (by decide)
    · rename_i h2
      rw [if_neg h2]
      split at h
      · exact absurd h (by decide)
      · rename_i body r e
        obtain ⟨e2, h3, h4⟩ := first_some e
        have e3 : (l.drop a.toNat).length = (put body).length + r.length := by rw [e2, List.length_append]
        rw [List.length_drop] at e3
        have h5 := put_len body
        have h6 := (Wire.int_len (body.length : Int)).1
        simp only at h ⊢
        refine ⟨by omega, by omega, by omega, trivial, h3⟩
theorem place_ok {l : List UInt8} {k : Nat} (h : okAt l k) : 0 ≤ place l k ∧ place l k + 6 ≤ place l (k + 1) ∧ place l (k + 1) ≤ l.length := by
  have := get_ok h
  exact ⟨this.1, this.2.1, this.2.2.1⟩
theorem place_le {l : List UInt8} {k : Nat} (h : ∀ i, i < k → okAt l i) : 0 ≤ place l k ∧ place l k ≤ l.length := by
  cases k with
  | zero => exact ⟨by unfold place; omega, by unfold place; omega⟩
  | succ k => have := place_ok (h k (by omega)); exact ⟨by omega, this.2.2⟩
end Frame

/-- a call of a value: a function's, or a loop's round -/
def VVal (P : Program) (y : Value) (args : List Value) (w : World) (K : Value → World → Prop) : Prop := match y with
  | .func (.func g) _ cap => VCall P g (args ++ cap.toList) w K
  | .func (.yield k) _ _ => VYield P k args w K
  | _ => False
structure AllJ (l : List UInt8) (y : Value) (bx : Addr) (A : Option Addr) (n c : Nat) (J Jx : Nat → World → Prop) : Prop where
  read : ∀ k W, J k W → W.cell? bx = some (.slice A n c) ∧ Reads W W.heap.size 1 A n (bv l)
  later : ∀ k W W', J k W → Below W.heap.size W W' → J k W'
  step : ∀ k W, (∀ i, i < k → Frame.okAt l i) → Frame.okAt l k → J k W → ∀ B v m, Own W B v m (Frame.body l k) →
    VVal Tryz.prog y [.int .i64 (Frame.place l k), v] W (fun res W2 => (res = .bool true ∧ J (k + 1) W2) ∨ (res = .bool false ∧ Jx (k + 1) W2))
set_option maxRecDepth 10000 in
theorem all1 (y : Value) (bx : Addr) (A : Option Addr) (n c : Nat) (l : List UInt8) (J Jx : Nat → World → Prop) (w : World) (hn : n ≤ 140737488355328) (hnc : n ≤ c) (hln : l.length = n)
    (hy : (∃ g p1 p2 p3, y = .func (.func g) #[] #[.pointer p1, .pointer p2, .pointer p3]) ∨ ∃ k, y = .func (.yield k) #[] #[]) (hj : AllJ l y bx A n c J Jx) (h0 : J 0 w) :
    Calls Tryz.prog 87 #[y, .pointer (some bx)] w fun e w' => e = .returned (.tuple #[]) ∧
      ∃ k, (∀ i, i < k → Frame.okAt l i) ∧ ((¬ Frame.okAt l k ∧ J k w') ∨ (0 < k ∧ Jx k w')) := by
  obtain ⟨hread, hlater, hstep⟩ := hj
  rcases hy with ⟨g, p1, p2, p3, rfl⟩ | ⟨g, rfl⟩
  all_goals
    refine calls_vc Tryz.func87 rfl (by kernel_rfl) ?_
    ((conv => whnf); (repeat ((first | (refine VL.cons ?_) | (refine VL.nil ?_) | (refine VC.seqS rfl ?_) | (refine VC.region ?_) | (refine VC.block ?_) | (refine VC.label ?_) | (refine VC.scope ?_)); (conv => whnf))))
    ((repeat ((fail); (conv => whnf))))
    refine VC.loop [3] [(3, 23)] (fun q vs W => ∃ k, vs = [.int .i64 (Frame.place l k)] ∧ q = (n - Frame.place l k).toNat ∧ (∀ i, i < k → Frame.okAt l i) ∧ J k W) (by kernel_rfl) ⟨_, 0, rfl, rfl, fun i hi => absurd hi (Nat.not_lt_zero i), h0⟩ ?_
    rintro q τ vs W ⟨k, rfl, rfl, hk, hJ⟩
    have hp := Frame.place_le hk
    obtain ⟨hc, hR⟩ := hread k W hJ
    ((conv => whnf); (repeat ((first | (refine VL.cons ?_) | (refine VC.seqS rfl ?_) | (refine VC.region ?_) | (refine VC.block ?_)); (conv => whnf))))
    ((repeat ((first | (refine VL.cons ?_) | (refine VRead.load1 (by assumption) ?_)); (conv => whnf))))
    refine VCall.of (frGet_any A n c l (Frame.place l k) W hn hnc (by omega) hR) ?_
    rintro e W1 ⟨A1, m1, c1, rfl, hO, hB⟩
    refine ⟨_, rfl, ?_⟩
    have hJ1 := hlater k W W1 hJ hB
    by_cases hok : (Frame.get l (Frame.place l k)).2.2 = 0
    · have hp1 := Frame.place_ok hok
      ((conv => whnf); (repeat ((first | (refine VL.cons ?_) | (refine VL.nil ?_)); (conv => whnf))))
      ((repeat ((first | (refine VL.cons ?_) | (refine VC.seqS rfl ?_) | (refine VC.region ?_) | (refine VBool.f ?_) | (refine VBool.nT (by omega) ?_) | (refine VC.seq ?_)); (conv => whnf))))
      first
        | refine VCall.mono (hstep k W1 hk hok hJ1 _ _ _ hO) ?_
        | refine VYield.mono (hstep k W1 hk hok hJ1 _ _ _ hO) ?_
      rintro res W2 (⟨rfl, hJ2⟩ | ⟨rfl, hX⟩)
      · ((conv => whnf); (repeat ((first | (refine VL.cons ?_)); (conv => whnf))))
        ((repeat ((first | (refine VL.cons ?_) | (refine VL.nil ?_) | (refine VC.region ?_) | (refine VC.cond ?_) | (refine VC.skip ?_) | (refine VBool.f ?_)); (conv => whnf))))
        refine ⟨_, ?_, k + 1, rfl, rfl, fun i hi => ?_, hJ2⟩
        · omega
        · rcases Nat.lt_or_ge i k with h | h
          · exact hk i h
          · rw [show i = k by omega]; exact hok
      · ((conv => whnf); (repeat ((first | (refine VL.cons ?_)); (conv => whnf))))
        ((repeat ((first | (refine VL.cons ?_) | (refine VL.nil ?_) | (refine VC.cond ?_) | (refine VC.exit ?_) | (refine VBool.t ?_) | (refine VBool.f ?_)); (conv => whnf))))
        refine ⟨rfl, k + 1, fun i hi => ?_, .inr ⟨by omega, hX⟩⟩
        rcases Nat.lt_or_ge i k with h | h
        · exact hk i h
        · rw [show i = k by omega]; exact hok
    · ((conv => whnf); (repeat ((first | (refine VL.cons ?_) | (refine VL.nil ?_)); (conv => whnf))))
      ((repeat ((first | (refine VL.cons ?_) | (refine VL.nil ?_) | (refine VC.seqS rfl ?_) | (refine VC.region ?_) | (refine VC.cond ?_) | (refine VC.exit ?_) | (refine VBool.t ?_) | (refine VBool.nF (by omega) ?_) | (refine VC.seq ?_)); (conv => whnf))))
      exact ⟨rfl, k, hk, .inl ⟨hok, hJ1⟩⟩
theorem frAll_any (v : Value) (hv : ∃ A n c, v = .slice A n c) (w : World) :
    Calls Tryz.prog 61 #[v] w fun e w' => ∃ g, e = .returned (.func (.func 87) #[] #[.pointer (some ⟨g, 0, none⟩)]) ∧ Blk w' g 33 #[v] ∧ w.heap.size ≤ g ∧ Below w.heap.size w w' := by
  obtain ⟨A, n, c, rfl⟩ := hv
  refine calls_vc Tryz.func61 rfl (by kernel_rfl) ?_
  ((conv => whnf); (repeat ((first | (refine VL.cons ?_) | (refine VC.seqS rfl ?_) | (refine VC.region ?_)); (conv => whnf))))
  ((repeat ((fail); (conv => whnf))))
  refine VSem.boxB ?_
  intro w1 g hb hg hl hB
  ((conv => whnf); (repeat ((first | (refine VL.cons ?_) | (refine VL.nil ?_) | (refine VC.seqS rfl ?_) | (refine VC.region ?_)); (conv => whnf))))
  ((repeat ((fail); (conv => whnf))))
  refine VSem.of rfl ?_
  ((conv => whnf); (repeat ((first | (refine VL.cons ?_) | (refine VL.nil ?_) | (refine VC.ret ?_)); (conv => whnf))))
  ((repeat ((fail); (conv => whnf))))
  exact ⟨g, rfl, hb, by omega, hB⟩
theorem Below.putObj {B : Nat} {a w : World} (h : Below B a w) {r : Nat} (hr : B ≤ r) (o : Obj) : Below B a (w.putObj r o) :=
  ⟨h.os, h.tape, h.output, by rw [World.putObj_size]; exact h.size, fun k hk => by rw [World.putObj_heap_other (by omega)]; exact h.block k hk⟩
theorem Blk.putObj {w : World} {g r : Nat} {T : TypeId} {cs : Array Value} (h : Blk w g T cs) (hne : g ≠ r) (o : Obj) : Blk (w.putObj r o) g T cs := by
  unfold Blk at *; rw [World.putObj_heap_other hne]; exact h
theorem Blk.later {w w' : World} {g : Nat} {T : TypeId} {cs : Array Value} (h : Blk w g T cs) (hb : Below w.heap.size w w') : Blk w' g T cs := by
  unfold Blk at *; rw [hb.block g (Array.getElem?_eq_some_iff.1 h).1]; exact h
theorem obj_later {w w' : World} {g : Nat} {o : Obj} (h : w.heap[g]? = some o) (hb : Below w.heap.size w w') : w'.heap[g]? = some o := by
  rw [hb.block g (Array.getElem?_eq_some_iff.1 h).1]; exact h
end Go.Proofs.YtebeidnmplnlpaaGreat
end

section
namespace Go.Proofs.YtebeidnmplnlpaaGreat
set_option linter.unusedVariables false
open Go.RowKit

/-- what stands between two rounds of Ends -/
structure EndsJ (l : List UInt8) (v : Value) (w : World) (r : Loop) (D g1 g4 gx : Nat) (k : Nat) (W : World) : Prop where
  b1 : Blk W g1 33 #[v]
  b4 : Blk W g4 3 #[.int .i64 (Frame.place l k)]
  bx : Blk W gx 33 #[v]
  dd : W.heap[D]? = some (.deferred (some []))
  ll : W.heap[D + 1]? = some (.loop r)
  since : Below w.heap.size w W
theorem EndsJ.later {l : List UInt8} {v : Value} {w : World} {r : Loop} {D g1 g4 gx k : Nat} {W W' : World} (h : EndsJ l v w r D g1 g4 gx k W) (hb : Below W.heap.size W W') : EndsJ l v w r D g1 g4 gx k W' :=
  ⟨h.b1.later hb, h.b4.later hb, h.bx.later hb, obj_later h.dd hb, obj_later h.ll hb, h.since.trans (hb.mono h.since.size)⟩
theorem obj_only {w w' : World} {g i : Nat} {o : Obj} (h : w.heap[i]? = some o) (hg : w.grownBy w' (some g)) (hne : i ≠ g) : w'.heap[i]? = some o := by
  rw [hg.block i (Array.getElem?_eq_some_iff.1 h).1 (fun e => by injection e with e; exact hne (by omega))]; exact h
theorem Blk.only {w w' : World} {g i : Nat} {T : TypeId} {cs : Array Value} (h : Blk w i T cs) (hg : w.grownBy w' (some g)) (hne : i ≠ g) : Blk w' i T cs := obj_only h hg hne
theorem blk_lt {w : World} {g : Nat} {T : TypeId} {cs : Array Value} (h : Blk w g T cs) : g < w.heap.size := (Array.getElem?_eq_some_iff.1 h).1
theorem put_same {w : World} {i : Nat} {o o' : Obj} (h : w.heap[i]? = some o) : (w.putObj i o').heap[i]? = some o' := World.putObj_heap_same (Array.getElem?_eq_some_iff.1 h).1
theorem put_other {w : World} {i r : Nat} {o o' : Obj} (h : w.heap[i]? = some o) (hne : i ≠ r) : (w.putObj r o').heap[i]? = some o := by rw [World.putObj_heap_other hne]; exact h
set_option maxRecDepth 10000 in
theorem frEnds_any (A : Option Addr) (n c : Nat) (l : List UInt8) (w : World) (hn : n ≤ 140737488355328) (hnc : n ≤ c) (hr : Reads w w.heap.size 1 A n (bv l)) :
    Calls Tryz.prog 60 #[.slice A n c] w fun e w' => ∃ k, (∀ i, i < k → Frame.okAt l i) ∧ ¬ Frame.okAt l k ∧
      e = .returned (.tuple #[.int .i64 (Frame.place l k), .bool (decide (Frame.place l k = n))]) ∧ Below w.heap.size w w' := by
  have hln : l.length = n := by have := hr.1; rw [bv_length] at this; omega
  refine calls_vw Tryz.func60 rfl (by kernel_rfl) ?_
  refine VW.seq (VW.vc (by kernel_rfl) ?_)
  ((conv => whnf); (repeat ((first | (refine VL.cons ?_) | (refine VC.region ?_)); (conv => whnf))))
  ((repeat ((fail); (conv => whnf))))
  refine VSem.boxB ?_
  intro w1 g1 hb1 hg1 hl1 hB1
  ((conv => whnf); (repeat ((first | (refine VL.cons ?_) | (refine VL.nil ?_)); (conv => whnf))))
  ((repeat ((fail); (conv => whnf))))
  refine VW.seq (VW.vc (by kernel_rfl) ?_)
  ((conv => whnf); (repeat ((first | (refine VL.cons ?_) | (refine VC.region ?_)); (conv => whnf))))
  ((repeat ((fail); (conv => whnf))))
  refine VSem.allocZ (z := .int .i64 0) (by kernel_rfl) ?_
  intro w2 g4 hb4 hg4 hl4 hB2
  ((conv => whnf); (repeat ((first | (refine VL.cons ?_)); (conv => whnf))))
  ((repeat ((fail); (conv => whnf))))
  refine VUnit.storeB hb4 rfl rfl rfl ?_
  intro w3 hb4' hg3
  have hB3 : Below w1.heap.size w1 w3 := only_new hB2 hg3 (by omega) (by omega)
  have hb1' := hb1.later hB3
  ((conv => whnf); (repeat ((first | (refine VL.nil ?_)); (conv => whnf))))
  ((repeat ((fail); (conv => whnf))))
  refine VW.seq (VW.seq (VW.vc (by kernel_rfl) ?_))
  ((conv => whnf); (repeat ((first | (refine VL.cons ?_) | (refine VC.region ?_)); (conv => whnf))))
  ((repeat ((fail); (conv => whnf))))
  refine VRead.loadB hb1' rfl rfl ?_
  ((conv => whnf); (repeat ((first | (refine VL.cons ?_)); (conv => whnf))))
  ((repeat ((fail); (conv => whnf))))
  refine VCall.of (frAll_any (.slice A n c) ⟨_, _, _, rfl⟩ w3) ?_
  rintro e w4 ⟨gx, rfl, hbx, hgx, hB4⟩
  refine ⟨_, rfl, ?_⟩
  ((conv => whnf); (repeat ((first | (refine VL.nil ?_)); (conv => whnf))))
  ((repeat ((fail); (conv => whnf))))
  have hB14 : Below w.heap.size w w4 := (hB1.trans (hB3.mono hB1.size)).trans (hB4.mono (by have := hB1.size; have := hB3.size; omega))
  refine VW.block (VW.range rfl (by kernel_rfl) ?_)
  intro r w5 hr1 hr2 hr3 hr4 hr5 hA5 hB5 hD5 hL5 hS5
  have hJ0 : EndsJ l (.slice A n c) w r w4.heap.size g1 g4 gx 0 w5 :=
    ⟨(hb1'.later hB4).later hB5, (hb4'.later hB4).later hB5, hbx.later hB5, hD5, hL5, hB14.trans (hB5.mono hB14.size)⟩
  refine VCall.of (all1 _ ⟨gx, 0, none⟩ A n c l (EndsJ l (.slice A n c) w r w4.heap.size g1 g4 gx) (fun _ _ => False) w5 hn hnc hln (.inr ⟨_, rfl⟩) ?_ hJ0) ?_
  · refine ⟨fun k W hJ => ⟨?_, ?_⟩, fun k W W' hJ hb => hJ.later hb, fun k W hk hok hJ B v m hO => ?_⟩
    · rw [hJ.bx.cell 0]; rfl
    · exact (hr.below hJ.since).more hJ.since.size
    refine VYield.of hJ.ll hr1 hA5 (by rw [hr3, hr4, hr5]; kernel_rfl) ?_
    rw [hr3, hr4, hr5]
    have hs1 : g1 < w4.heap.size := by have := blk_lt hb1'; have := hB4.size; omega
    have hs4 : g4 < w4.heap.size := by have := blk_lt hb4'; have := hB4.size; omega
    have hsx : gx < w4.heap.size := blk_lt hbx
    have hs43 : g4 < w3.heap.size := blk_lt hb4'
    have hp := Frame.place_ok hok
    have hsW : w4.heap.size + 1 < W.heap.size := (Array.getElem?_eq_some_iff.1 hJ.ll).1
    ((conv => whnf); (repeat ((first | (refine VL.cons ?_) | (refine VL.nil ?_) | (refine VC.region ?_)); (conv => whnf))))
    refine ⟨r, hJ.ll, hr1, ?_⟩
    obtain ⟨W2, hW2⟩ : ∃ W2, W2 = W.putObj (w4.heap.size + 1) (.loop { r with state := .busy }) := ⟨_, rfl⟩
    rw [← hW2]
    have k1 : Blk W2 g1 33 #[.slice A n c] := by rw [hW2]; exact hJ.b1.putObj (by omega) _
    have k4 : Blk W2 g4 3 #[.int .i64 (Frame.place l k)] := by rw [hW2]; exact hJ.b4.putObj (by omega) _
    have kx : Blk W2 gx 33 #[.slice A n c] := by rw [hW2]; exact hJ.bx.putObj (by omega) _
    have kd : W2.heap[w4.heap.size]? = some (.deferred (some [])) := by rw [hW2]; exact put_other hJ.dd (by omega)
    have kl : W2.heap[w4.heap.size + 1]? = some (.loop { r with state := .busy }) := by rw [hW2]; exact put_same hJ.ll
    have ks : Below w.heap.size w W2 := by rw [hW2]; exact Below.putObj hJ.since (by have := hB14.size; omega) _
    clear hW2
    ((conv => whnf); (repeat ((first | (refine VL.cons ?_) | (refine VC.region ?_) | (refine VC.block ?_)); (conv => whnf))))
    ((repeat ((fail); (conv => whnf))))
    refine VRead.loadB k1 rfl rfl ?_
    ((conv => whnf); (repeat ((first | (refine VL.cons ?_)); (conv => whnf))))
    ((repeat ((fail); (conv => whnf))))
    refine VCall.of (frGet_any A n c l (Frame.place l k) W2 hn hnc (by omega) ((hr.below ks).more ks.size)) ?_
    rintro e W3 ⟨A1, m1, c1, rfl, hO1, hB⟩
    refine ⟨_, rfl, ?_⟩
    have q1 := k1.later hB
    have q4 := k4.later hB
    have qx := kx.later hB
    have qd := obj_later kd hB
    have ql := obj_later kl hB
    have qs := ks.trans (hB.mono ks.size)
    ((conv => whnf); (repeat ((first | (refine VL.cons ?_)); (conv => whnf))))
    ((repeat ((fail); (conv => whnf))))
    refine VUnit.storeB q4 rfl rfl rfl ?_
    intro W4 p4 hg
    ((conv => whnf); (repeat ((first | (refine VL.nil ?_)); (conv => whnf))))
    ((repeat ((fail); (conv => whnf))))
    refine ⟨_, obj_only ql hg (by omega), .inl ⟨rfl, ?_⟩⟩
    have p1 := q1.only hg (by omega)
    have px := qx.only hg (by omega)
    have pd := obj_only qd hg (by omega)
    have pl := obj_only ql hg (by omega)
    have ps : Below w.heap.size w W4 := only_new qs hg (by omega) qs.size
    have er : (Loop.mk .ready none r.fn r.tmps r.params r.assign r.body r.defers) = r := by
      cases r; simp only at hr1 hr2; subst hr1 hr2; rfl
    have hsz := hB14.size
    refine ⟨p1.putObj (by omega) _, p4.putObj (by omega) _, px.putObj (by omega) _, put_other pd (by omega), ?_, Below.putObj ps (by omega) _⟩
    rw [put_same pl]
    exact congrArg (fun x => some (Obj.loop x)) er
  · rintro e W ⟨rfl, k, hk, hh⟩
    obtain ⟨hno, hJ⟩ := hh.resolve_right (fun h => h.2)
    refine ⟨_, rfl, r, hJ.ll, by rw [hr1]; decide, ?_⟩
    rw [hr2]
    have hs1 : g1 < w4.heap.size := by have := blk_lt hb1'; have := hB4.size; omega
    have hs4 : g4 < w4.heap.size := by have := blk_lt hb4'; have := hB4.size; omega
    have hsz := hB14.size
    have hp := Frame.place_le hk
    (conv => whnf)
    obtain ⟨W2, hW2⟩ : ∃ W2, W2 = W.putObj (w4.heap.size + 1) (.loop { r with state := .exhausted, pending := none }) := ⟨_, rfl⟩
    rw [← hW2]
    have k1 : Blk W2 g1 33 #[.slice A n c] := by rw [hW2]; exact hJ.b1.putObj (by omega) _
    have k4 : Blk W2 g4 3 #[.int .i64 (Frame.place l k)] := by rw [hW2]; exact hJ.b4.putObj (by omega) _
    have kd : W2.heap[w4.heap.size]? = some (.deferred (some [])) := by rw [hW2]; exact put_other hJ.dd (by omega)
    have ks : Below w.heap.size w W2 := by rw [hW2]; exact Below.putObj hJ.since (by omega) _
    clear hW2
    have hc1 : ∀ W, World.drewN W2 1 = W → W.cell? ⟨g1, 0, none⟩ = some (.slice A n c) := by rintro W rfl; exact k1.cell 0
    have hc4 : ∀ W, World.drewN W2 1 = W → W.cell? ⟨g4, 0, none⟩ = some (.int .i64 (Frame.place l k)) := by rintro W rfl; exact k4.cell 0
    refine VW.vc (by kernel_rfl) ?_
    ((conv => whnf); (repeat ((fail); (conv => whnf))))
    refine VC.seq ?_
    refine VC.draw ?_
    (refine VDraw.seg (Eq (World.drewN _ 1)) [] [0, 1, 2, 3, 4, 5, 6] (by kernel_rfl) (by kernel_rfl) rfl ?_; (conv => whnf))
    ((conv => whnf); (repeat ((first | (refine VQ.cons ?_) | (refine VG.nil ?_)); (conv => whnf))))
    ((repeat ((first | (refine VC.ret ?_) | (refine VQ.cons ?_) | (refine VQ.nil ?_) | (refine VRead.lenS ?_) | (refine VRead.load (by assumption) ?_)); (conv => whnf))))
    refine ⟨kd, ?_⟩
    exact ⟨k, hk, hno, rfl, Below.putObj (below_drewN ks 1) (by omega) _⟩
end Go.Proofs.YtebeidnmplnlpaaGreat
end

section
set_option maxRecDepth 10000
namespace Go.Proofs.YtebeidnmplnlpaaGreat
set_option linter.unusedVariables false
open Go.RowKit

/-! ### small things -/
theorem Off.of_own {w : World} {U : Foot} {B n c : Nat} {A : Option Addr} {l : List UInt8} (h : Own w B (.slice A n c) n l) (hf : Free U (.slice A n c)) : Off U A n := fun h0 => by
  obtain ⟨ad, rfl, _, _⟩ := h.reads.2 h0
  exact ⟨ad, rfl, hf _ rfl⟩
theorem Off.take {U : Foot} {A : Option Addr} {n m : Nat} (h : Off U A n) (hm : m ≤ n) : Off U A m := fun h0 => h (by omega)
theorem Off.cutA {U : Foot} {A : Option Addr} {n c m : Nat} (h : Off U A n) (hm : m ≤ n) : Off U (Go.Proofs.YtebeidnmplnlpaaGreat.cutA A c m) (n - m) := fun h0 => by
  obtain ⟨ad, rfl, hu⟩ := h (by omega)
  unfold Go.Proofs.YtebeidnmplnlpaaGreat.cutA
  split
  · exact ⟨ad, rfl, hu⟩
  · refine ⟨_, rfl, ?_⟩
    have : (ad.add m).block = ad.block := by unfold Addr.add; split <;> rfl
    rw [this]; exact hu
theorem pInt_up {B : Nat} (A : Option Addr) (n c : Nat) (l : List UInt8) (v : Int) (w : World) (hB : B ≤ w.heap.size) (hn : n + 10 ≤ 140737488355328) (hnc : n ≤ c) (hv : -9223372036854775808 ≤ v ∧ v ≤ 9223372036854775807) (hrd : Reads w w.heap.size 1 A n (bv l)) :
    Calls Tryz.prog 71 #[.slice A n c, .int .i64 v] w fun e w' => ∃ A' m c', e = .returned (.slice A' m c') ∧ Own w' B (.slice A' m c') m (l ++ Wire.int v) ∧ m ≤ n + 10 ∧ n + 1 ≤ m ∧ m ≤ c' ∧ Below w.heap.size w w' := by
  refine (putInt_any A n c l v w hn hnc hv hrd).mono ?_
  rintro e w' ⟨A', m, c', rfl, h1, h2⟩
  have hl := h1.len
  have h3 := Wire.int_len v
  have h4 : l.length = n := by have := hrd.1; rw [bv_length] at this; omega
  rw [List.length_append] at hl
  exact ⟨A', m, c', rfl, rows_more h1 hB, by omega, by omega, h1.cap, h2⟩
def isPre (pre s : List UInt8) : Bool := decide (s.take pre.length = pre)
theorem hasPrefix_any (s pre : List UInt8) (w : World) (hs : s.length ≤ 9223372036854775807) (hp : pre.length ≤ 9223372036854775807) :
    Calls Tryz.prog 70 #[.string (txt s), .string (txt pre)] w fun e w' => e = .returned (.bool (isPre pre s)) ∧ w' = w := by
  have z1 : ByteArray.size (txt pre) = pre.length := txt_size _
  have z2 : ByteArray.size (txt s) = s.length := txt_size _
  have inner : Calls Tryz.prog 93 #[.string (txt s), .string (txt pre)] w fun e w' => e = .returned (.bool (isPre pre s)) ∧ w' = w := by
    refine calls_vc Tryz.func93 rfl (by kernel_rfl) ?_
    by_cases hl : pre.length ≤ s.length
    · ((conv => whnf); (repeat ((first | (refine VL.cons ?_) | (refine VL.nil ?_) | (refine VC.seqS rfl ?_) | (refine VC.region ?_)); (conv => whnf))))
      ((repeat ((first | (refine VL.cons ?_) | (refine VBool.t ?_) | (refine VBool.dT (by omega) ?_) | (refine VRead.lenT ?_)); (conv => whnf))))
      refine VRead.txtH pre.length (by omega) hl ?_
      ((conv => whnf); (repeat ((first | (refine VL.cons ?_)); (conv => whnf))))
      ((repeat ((first | (refine VL.cons ?_) | (refine VL.nil ?_) | (refine VC.ret ?_) | (refine VBool.t ?_)); (conv => whnf))))
      refine ⟨?_, rfl⟩
      show Ending.returned (.bool (decide (txt (s.take pre.length) = txt pre))) = _
      rw [txt_dec]
      rfl
    · have e : isPre pre s = false := by
        unfold isPre
        rw [decide_eq_false]
        intro h
        have := congrArg List.length h
        rw [List.length_take] at this
        omega
      rw [e]
      ((conv => whnf); (repeat ((first | (refine VL.cons ?_) | (refine VL.nil ?_) | (refine VC.seqS rfl ?_) | (refine VC.region ?_)); (conv => whnf))))
      ((repeat ((first | (refine VL.cons ?_) | (refine VL.nil ?_) | (refine VC.ret ?_) | (refine VBool.f ?_) | (refine VBool.dF (by omega) ?_) | (refine VRead.lenT ?_)); (conv => whnf))))
      exact ⟨rfl, rfl⟩
  refine calls_vc Tryz.func70 rfl (by kernel_rfl) ?_
  ((conv => whnf); (repeat ((first | (refine VL.cons ?_) | (refine VL.nil ?_) | (refine VC.seqS rfl ?_) | (refine VC.region ?_)); (conv => whnf))))
  ((repeat ((fail); (conv => whnf))))
  refine VCall.of inner ?_
  rintro e w' ⟨rfl, rfl⟩
  refine ⟨_, rfl, ?_⟩
  ((conv => whnf); (repeat ((first | (refine VL.cons ?_) | (refine VL.nil ?_) | (refine VC.ret ?_)); (conv => whnf))))
  ((repeat ((fail); (conv => whnf))))
  exact ⟨rfl, rfl⟩

/-! ### plain -/
def frN : List UInt8 := [115, 110, 97, 112, 45, 116, 109, 112]
def chunksN : Nat → List UInt8 → List (List UInt8)
  | 0, _ => []
  | n + 1, l => if l = [] then [] else l.take 1000 :: chunksN n (l.drop 1000)
theorem chunksN_fuel : ∀ (n m : Nat) (l : List UInt8), l.length ≤ n → l.length ≤ m → chunksN n l = chunksN m l
  | 0, 0, _, _, _ => rfl
  | 0, m + 1, l, h, _ => by
    obtain rfl : l = [] := List.eq_nil_of_length_eq_zero (by omega)
    simp [chunksN]
  | n + 1, 0, l, _, h => by
    obtain rfl : l = [] := List.eq_nil_of_length_eq_zero (by omega)
    simp [chunksN]
  | n + 1, m + 1, l, h1, h2 => by
    unfold chunksN
    by_cases h : l = []
    · rw [if_pos h, if_pos h]
    · have : 0 < l.length := List.length_pos_iff.2 h
      rw [if_neg h, if_neg h, chunksN_fuel n m (l.drop 1000) (by rw [List.length_drop]; omega) (by rw [List.length_drop]; omega)]
def chunks (l : List UInt8) : List (List UInt8) := chunksN l.length l
theorem chunks_nil : chunks [] = [] := rfl
theorem chunks_cons {l : List UInt8} (h : l ≠ []) : chunks l = l.take 1000 :: chunks (l.drop 1000) := by
  have h0 : 0 < l.length := List.length_pos_iff.2 h
  unfold chunks
  rw [chunksN_fuel l.length (l.length + 1) l (Nat.le_refl _) (by omega)]
  show (if l = [] then [] else l.take 1000 :: chunksN l.length (l.drop 1000)) = _
  rw [if_neg h, chunksN_fuel l.length (l.drop 1000).length (l.drop 1000) (by rw [List.length_drop]; omega) (Nat.le_refl _)]
def hdB (i t : Int) (n : Nat) : List UInt8 := Wire.int i ++ Wire.int t ++ Wire.int (n : Int)
/-- one thing after another, till one fails -/
def andT (A : Int × DS) (f : DS → Int × DS) : Int × DS := if A.1 = 0 then f A.2 else A
def DS.appends (S : DS) (nm : List UInt8) : List (List UInt8) → Int × DS
  | [] => (0, S)
  | b :: r => andT (S.append nm (Frame.put b)) fun S' => DS.appends S' nm r
def DS.clear (S : DS) (pre nm : List UInt8) : List (List UInt8) → Int × DS
  | [] => (0, S)
  | x :: r => if isPre pre x = true ∧ x ≠ nm then andT (S.remove x) fun S' => DS.clear S' pre nm r else DS.clear S pre nm r
def DS.keys (S : DS) : List (List UInt8) := S.t.map (·.1)
def svBad (i t : Int) (n : Nat) : Prop := snName i = [] ∨ t < 1 ∨ 1099511627776 < t ∨ n < 1 ∨ 1048576 < n
instance (i t : Int) (n : Nat) : Decidable (svBad i t n) := by unfold svBad; infer_instance
def DS.save (S : DS) (i t : Int) (data : List UInt8) : Int × DS :=
  if svBad i t data.length then (1, S) else
  andT (S.create frN) fun S1 => andT (S1.appends frN (hdB i t data.length :: chunks data)) fun S2 => andT (S2.sync frN) fun S3 =>
    andT (S3.rename frN (snName i)) fun S4 => S4.clear snPre (snName i) S4.keys
theorem andT_ok {A : Int × DS} {f : DS → Int × DS} (h : A.1 = 0) : andT A f = f A.2 := by unfold andT; rw [if_pos h]
theorem andT_no {A : Int × DS} {f : DS → Int × DS} (h : ¬ A.1 = 0) : andT A f = A := by unfold andT; rw [if_neg h]
end Go.Proofs.YtebeidnmplnlpaaGreat
end

section
set_option maxRecDepth 10000
namespace Go.Proofs.YtebeidnmplnlpaaGreat
set_option linter.unusedVariables false
open Go.RowKit

end Go.Proofs.YtebeidnmplnlpaaGreat
end

section
namespace Go.Proofs.YtebeidnmplnlpaaGreat.Frame
set_option linter.unusedVariables false

theorem stop_le {l : List UInt8} {k j : Nat} (hk : ∀ i, i < k → okAt l i) (hj : ¬ okAt l j) : k ≤ j := by
  rcases Nat.lt_or_ge j k with h | h
  · exact absurd (hk j h) hj
  · exact h
def laid (bs : List (List UInt8)) : List UInt8 := (bs.map put).flatten
def Good (bs : List (List UInt8)) : Prop := ∀ b ∈ bs, 1 ≤ b.length ∧ b.length ≤ 2000
def ends (bs : List (List UInt8)) : List Int := (List.range bs.length).map fun i => ((laid (bs.take (i + 1))).length : Int)
theorem laid_append (a b : List (List UInt8)) : laid (a ++ b) = laid a ++ laid b := by simp [laid]
theorem laid_one (b : List UInt8) : laid [b] = put b := by simp [laid]
theorem take_succ {α : Type} {l : List α} {i : Nat} {x : α} (h : l[i]? = some x) : l.take (i + 1) = l.take i ++ [x] := by
  rw [List.take_add_one, h]; rfl
theorem put_pos (b : List UInt8) : 5 ≤ (put b).length := by
  have := (Wire.int_len (b.length : Int)).1
  rw [put_len]; omega
theorem laid_split {bs : List (List UInt8)} {i : Nat} {b : List UInt8} (h : bs[i]? = some b) : laid bs = laid (bs.take i) ++ (put b ++ laid (bs.drop (i + 1))) := by
  have hlt := (List.getElem?_eq_some_iff.1 h).1
  have h2 := (List.getElem?_eq_some_iff.1 h).2
  have e : bs = bs.take i ++ (b :: bs.drop (i + 1)) := by
    rw [← h2, ← List.drop_eq_getElem_cons hlt, List.take_append_drop]
  calc laid bs = laid (bs.take i ++ (b :: bs.drop (i + 1))) := by rw [← e]
    _ = _ := by rw [laid_append]; rfl
theorem get_mid {p b r : List UInt8} (h1 : 1 ≤ b.length) (h2 : b.length ≤ 1048576) : get (p ++ (put b ++ r)) (p.length : Int) = (b, (p.length : Int) + (put b).length, 0) := by
  have h5 := put_pos b
  unfold get
  rw [if_neg (by simp only [List.length_append]; omega), if_neg (by simp only [List.length_append]; omega), Int.toNat_natCast, List.drop_left' rfl, first_put r h1 h2]
theorem get_stop {p t : List UInt8} (h : first t = none) : (get (p ++ t) (p.length : Int)).2.2 ≠ 0 := by
  unfold get
  rw [if_neg (by simp only [List.length_append]; omega)]
  split
  · decide
  · rw [Int.toNat_natCast, List.drop_left' rfl, h]; exact (by decide : (4 : Int) ≠ 0)
section
variable {l t : List UInt8} {bs : List (List UInt8)} (e : l = laid bs ++ t) (hg : Good bs)
include e hg
end
end Go.Proofs.YtebeidnmplnlpaaGreat.Frame
end

section
namespace Go.Proofs.YtebeidnmplnlpaaGreat.Frame
set_option linter.unusedVariables false
open Go.RowKit

def Ok1 (bs : List (List UInt8)) : Prop := ∀ b ∈ bs, 1 ≤ b.length ∧ b.length ≤ 1048576
def parse : Nat → List UInt8 → List (List UInt8) × List UInt8
  | 0, l => ([], l)
  | n + 1, l => match first l with
    | none => ([], l)
    | some (b, r) => (b :: (parse n r).1, (parse n r).2)
def bodies (l : List UInt8) : List (List UInt8) := (parse l.length l).1
def rest (l : List UInt8) : List UInt8 := (parse l.length l).2
theorem laid_cons (b : List UInt8) (bs : List (List UInt8)) : laid (b :: bs) = put b ++ laid bs := by simp [laid]
theorem laid_nil : laid [] = [] := rfl
theorem parse_spec : ∀ (n : Nat) (l : List UInt8), l.length ≤ n → l = laid (parse n l).1 ++ (parse n l).2 ∧ first (parse n l).2 = none ∧ Ok1 (parse n l).1
  | 0, l, h => by
    obtain rfl : l = [] := List.eq_nil_of_length_eq_zero (by omega)
    exact ⟨rfl, first_nil, fun b hb => by simp [parse] at hb⟩
  | n + 1, l, h => by
    unfold parse
    cases hf : first l with
    | none => exact ⟨rfl, hf, fun b hb => by simp at hb⟩
    | some p =>
      obtain ⟨b, r⟩ := p
      obtain ⟨e, h1, h2⟩ := first_some hf
      have hp := put_pos b
      have hl := congrArg List.length e
      rw [List.length_append] at hl
      obtain ⟨i1, i2, i3⟩ := parse_spec n r (by omega)
      refine ⟨?_, i2, fun x hx => ?_⟩
      · simp only
        rw [laid_cons, List.append_assoc, ← i1]
        exact e
      · rcases List.mem_cons.1 hx with rfl | hx
        · exact ⟨h1, h2⟩
        · exact i3 x hx
theorem bodies_spec (l : List UInt8) : l = laid (bodies l) ++ rest l ∧ first (rest l) = none ∧ Ok1 (bodies l) := parse_spec l.length l (Nat.le_refl _)
theorem parse_laid : ∀ (bs : List (List UInt8)) (t : List UInt8) (n : Nat), Ok1 bs → first t = none → (laid bs ++ t).length ≤ n → parse n (laid bs ++ t) = (bs, t)
  | [], t, 0, _, ht, h => rfl
  | [], t, n + 1, _, ht, h => by
    unfold parse
    rw [laid_nil, List.nil_append, ht]
  | b :: bs, t, 0, hb, ht, h => by
    have := put_pos b
    rw [laid_cons] at h
    simp only [List.length_append] at h
    omega
  | b :: bs, t, n + 1, hb, ht, h => by
    have hp := put_pos b
    have hbb := hb b (by simp)
    rw [laid_cons, List.append_assoc] at h ⊢
    unfold parse
    rw [first_put _ hbb.1 hbb.2]
    simp only
    rw [parse_laid bs t n (fun x hx => hb x (List.mem_cons_of_mem _ hx)) ht (by rw [List.length_append] at h; omega)]
theorem bodies_laid {bs : List (List UInt8)} {t : List UInt8} (hb : Ok1 bs) (ht : first t = none) : bodies (laid bs ++ t) = bs ∧ rest (laid bs ++ t) = t := by
  unfold bodies rest
  rw [parse_laid bs t _ hb ht (Nat.le_refl _)]
  exact ⟨rfl, rfl⟩
theorem bodies_all {bs : List (List UInt8)} (hb : Ok1 bs) : bodies (laid bs) = bs ∧ rest (laid bs) = [] := by
  have := bodies_laid hb first_nil
  rwa [List.append_nil] at this
section
variable {l t : List UInt8} {bs : List (List UInt8)} (e : l = laid bs ++ t) (hg : Ok1 bs)
include e hg
theorem each_get {i : Nat} {b : List UInt8} (h : bs[i]? = some b) : get l ((laid (bs.take i)).length : Int) = (b, ((laid (bs.take (i + 1))).length : Int), 0) := by
  have hb := hg b (List.mem_of_getElem? h)
  rw [e, laid_split h, List.append_assoc, List.append_assoc, get_mid hb.1 hb.2, take_succ h, laid_append, laid_one, List.length_append]
  simp
theorem each_place : ∀ i, i ≤ bs.length → place l i = ((laid (bs.take i)).length : Int)
  | 0, _ => by simp [laid, place]
  | i + 1, h => by
    obtain ⟨b, hb⟩ : ∃ b, bs[i]? = some b := ⟨_, List.getElem?_eq_getElem (by omega)⟩
    have e1 : place l (i + 1) = (get l (place l i)).2.1 := rfl
    rw [e1, each_place i (by omega), each_get e hg hb]
theorem each_ok {i : Nat} (h : i < bs.length) : okAt l i := by
  obtain ⟨b, hb⟩ : ∃ b, bs[i]? = some b := ⟨_, List.getElem?_eq_getElem (by omega)⟩
  show (get l (place l i)).2.2 = 0
  rw [each_place e hg i (by omega), each_get e hg hb]
theorem each_body {i : Nat} {b : List UInt8} (h : bs[i]? = some b) : body l i = b := by
  have hlt := (List.getElem?_eq_some_iff.1 h).1
  show (get l (place l i)).1 = b
  rw [each_place e hg i (by omega), each_get e hg h]
theorem each_no (ht : first t = none) : ¬ okAt l bs.length := by
  show ¬ (get l (place l bs.length)).2.2 = 0
  rw [each_place e hg _ (Nat.le_refl _), List.take_of_length_le (Nat.le_refl _), e]
  exact get_stop ht
end
/-- how far the frames go -/
theorem reach_le {l : List UInt8} {k : Nat} (hk : ∀ i, i < k → okAt l i) : k ≤ (bodies l).length := by
  obtain ⟨e, ht, hg⟩ := bodies_spec l
  exact stop_le hk (each_no e hg ht)
theorem reach_eq {l : List UInt8} {k : Nat} (hk : ∀ i, i < k → okAt l i) (hno : ¬ okAt l k) : k = (bodies l).length := by
  obtain ⟨e, ht, hg⟩ := bodies_spec l
  have h1 := reach_le hk
  by_cases h : k = (bodies l).length
  · exact h
  · exact absurd (each_ok e hg (by omega)) hno
theorem whole_iff {l : List UInt8} : place l (bodies l).length = (l.length : Int) ↔ rest l = [] := by
  obtain ⟨e, ht, hg⟩ := bodies_spec l
  rw [each_place e hg _ (Nat.le_refl _), List.take_of_length_le (Nat.le_refl _)]
  have hl := congrArg List.length e
  rw [List.length_append] at hl
  constructor
  · intro h
    exact List.eq_nil_of_length_eq_zero (by omega)
  · intro h
    rw [h] at hl
    simp at hl
    omega
theorem body_at {l : List UInt8} {i : Nat} {b : List UInt8} (h : (bodies l)[i]? = some b) : body l i = b := by
  obtain ⟨e, ht, hg⟩ := bodies_spec l
  exact each_body e hg h
theorem body_ok {l : List UInt8} {i : Nat} {b : List UInt8} (h : (bodies l)[i]? = some b) : 1 ≤ b.length ∧ b.length ≤ 1048576 := (bodies_spec l).2.2 b (List.mem_of_getElem? h)
theorem place_at {l : List UInt8} {i : Nat} (h : i ≤ (bodies l).length) : place l i = ((laid ((bodies l).take i)).length : Int) := by
  obtain ⟨e, ht, hg⟩ := bodies_spec l
  exact each_place e hg i h
theorem place_zero {l : List UInt8} {i : Nat} (h : i < (bodies l).length) : (place l i = 0) ↔ i = 0 := by
  rw [place_at (by omega)]
  constructor
  · intro h0
    cases i with
    | zero => rfl
    | succ i =>
      obtain ⟨b, hb⟩ : ∃ b, (bodies l)[i]? = some b := ⟨_, List.getElem?_eq_getElem (by omega)⟩
      rw [take_succ hb, laid_append, laid_one, List.length_append] at h0
      have := put_pos b
      omega
  · rintro rfl; simp [laid]
end Go.Proofs.YtebeidnmplnlpaaGreat.Frame
end

section
set_option maxRecDepth 10000
namespace Go.Proofs.YtebeidnmplnlpaaGreat
set_option linter.unusedVariables false
open Go.RowKit

/-! ### a block without bytes -/
def notU8 : Value → Bool
  | .int .u8 _ => false
  | _ => true
theorem Reads.apartC {T : TypeId} {w w' : World} {k B n : Nat} {A : Option Addr} {cs : Array Value} {l : List UInt8} (h : Reads w B 1 A n (bv l)) (hk : Blk w k T cs) (hcs : cs.toList.all notU8 = true)
    (hb : w.grownBy w' (some k)) (hB : B ≤ w.heap.size) : Reads w' B 1 A n (bv l) := by
  refine ⟨h.1, fun hn => ?_⟩
  obtain ⟨ad, e, hlt, hc⟩ := h.2 hn
  have hl := h.1
  rw [bv_length] at hl
  have hne : ad.block ≠ k := by
    intro he
    obtain ⟨x, l', rfl⟩ : ∃ x l', l = x :: l' := by
      cases l with
      | nil => simp at hl; omega
      | cons x l' => exact ⟨x, l', rfl⟩
    have h0 := hc 0 (.int .u8 (x.toNat : Int)) (by simp [bv])
    rw [show ad.add 0 = ad from by simp [Addr.add]] at h0
    unfold World.cell? at h0
    rw [he] at h0
    unfold Blk at hk
    rw [hk] at h0
    simp only at h0
    split at h0
    · cases h0
    · have hm : (Value.int .u8 (x.toNat : Int)) ∈ cs.toList := by
        rw [← Array.getElem?_toList] at h0
        exact List.mem_of_getElem? h0
      have := List.all_eq_true.1 hcs _ hm
      cases this
  exact ⟨ad, e, hlt, fun j u hu => (World.cell?_of_block (hb.block _ (by rw [block_of_add]; omega) (by rw [block_of_add]; intro e; injection e with e; exact hne e))).trans (hc j u hu)⟩
theorem RS.apartC {T T' : TypeId} {w w' : World} {g k : Nat} {cs : Array Value} {s : Option (List UInt8)} (h : RS T w g s) (hk : Blk w k T' cs) (hcs : cs.toList.all notU8 = true) (hb : w.grownBy w' (some k)) (hne : g ≠ k) : RS T w' g s := by
  have hlt := h.lt
  obtain ⟨l, p, bad, ⟨A, n, c, h1, h2, h3⟩, h4⟩ := h
  exact ⟨l, p, bad, ⟨A, n, c, h1.grown hb (fun e => by injection e with e; exact hne e), h2.apartC hk hcs hb (by omega), h3⟩, h4⟩
end Go.Proofs.YtebeidnmplnlpaaGreat
end

section
set_option maxRecDepth 10000
namespace Go.Proofs.YtebeidnmplnlpaaGreat
set_option linter.unusedVariables false
open Go.RowKit

/-! ### plain -/
def hA (h : List UInt8) : Int := (Wire.intS (some h)).1
def hT (h : List UInt8) : Int := (Wire.intS (Wire.intS (some h)).2).1
def hN (h : List UInt8) : Int := (Wire.intS (Wire.intS (Wire.intS (some h)).2).2).1
def hE (h : List UInt8) : Bool := Wire.endS (Wire.intS (Wire.intS (Wire.intS (some h)).2).2).2
structure HdOk (h : List UInt8) (idx : Int) : Prop where
  e : hE h = true
  a : hA h = idx
  t1 : 1 ≤ hT h
  t2 : hT h ≤ 1099511627776
  n1 : 1 ≤ hN h
  n2 : hN h ≤ 1048576
instance (h : List UInt8) (idx : Int) : Decidable (HdOk h idx) :=
  decidable_of_iff (hE h = true ∧ hA h = idx ∧ 1 ≤ hT h ∧ hT h ≤ 1099511627776 ∧ 1 ≤ hN h ∧ hN h ≤ 1048576) ⟨fun ⟨a, b, c, d, e, f⟩ => ⟨a, b, c, d, e, f⟩, fun h => ⟨h.e, h.a, h.t1, h.t2, h.n1, h.n2⟩⟩
def gather (n : Int) : List UInt8 → List (List UInt8) → Option (List UInt8)
  | acc, [] => some acc
  | acc, b :: r => if (b.length : Int) = min 1000 (n - acc.length) then gather n (acc ++ b) r else none
theorem own_form {w : World} {B n : Nat} {v : Value} {l : List UInt8} (h : Own w B v n l) : ∃ A c, v = .slice A n c := by
  rcases h.2 with ⟨rfl, e0⟩ | ⟨g, cap, cur, e1, _⟩
  · exact ⟨none, 0, by rw [e0]⟩
  · exact ⟨_, _, e1⟩
/-- what stays while the frames are read -/
structure RdFix (v : Value) (w : World) (D : Nat) (o : Obj) (idx : Int) (g3 g4 g5 g6 gx : Nat) (W : World) : Prop where
  b3 : Blk W g3 3 #[.int .i64 idx]
  b4 : Blk W g4 3 #[.int .i64 0]
  b5 : Blk W g5 33 #[.slice none 0 0]
  b6 : Blk W g6 4 #[.bool false]
  bx : Blk W gx 33 #[v]
  dd : W.heap[D]? = some (.deferred (some []))
  ll : W.heap[D + 1]? = some o
  since : Below w.heap.size w W
section
variable {v : Value} {w W W' : World} {D : Nat} {o o' : Obj} {idx : Int} {g3 g4 g5 g6 gx g : Nat}
theorem RdFix.later (h : RdFix v w D o idx g3 g4 g5 g6 gx W) (hb : Below W.heap.size W W') : RdFix v w D o idx g3 g4 g5 g6 gx W' :=
  ⟨h.b3.later hb, h.b4.later hb, h.b5.later hb, h.b6.later hb, h.bx.later hb, obj_later h.dd hb, obj_later h.ll hb, h.since.trans (hb.mono h.since.size)⟩
theorem RdFix.only (h : RdFix v w D o idx g3 g4 g5 g6 gx W) (hg : W.grownBy W' (some g)) (h3 : g3 ≠ g) (h4 : g4 ≠ g) (h5 : g5 ≠ g) (h6 : g6 ≠ g) (hx : gx ≠ g) (hd : D ≠ g) (hl : D + 1 ≠ g) (hw : w.heap.size ≤ g) : RdFix v w D o idx g3 g4 g5 g6 gx W' :=
  ⟨h.b3.only hg h3, h.b4.only hg h4, h.b5.only hg h5, h.b6.only hg h6, h.bx.only hg hx, obj_only h.dd hg hd, obj_only h.ll hg hl, only_new h.since hg hw h.since.size⟩
theorem RdFix.loop (h : RdFix v w D o idx g3 g4 g5 g6 gx W) (h3 : g3 < D) (h4 : g4 < D) (h5 : g5 < D) (h6 : g6 < D) (hx : gx < D) (hw : w.heap.size ≤ D) : RdFix v w D o' idx g3 g4 g5 g6 gx (W.putObj (D + 1) o') :=
  ⟨h.b3.putObj (by omega) _, h.b4.putObj (by omega) _, h.b5.putObj (by omega) _, h.b6.putObj (by omega) _, h.bx.putObj (by omega) _, put_other h.dd (by omega), put_same h.ll, Below.putObj h.since (by omega) _⟩
theorem Own.loop {r : Loop} {B n : Nat} {u : Value} {l : List UInt8} (h : Own W B u n l) (hl : W.heap[D]? = some (.loop r)) (o : Obj) : Own (W.putObj D o) B u n l :=
  ownsRow_stay h (fun g hg => by
    obtain ⟨cs, hc⟩ := (row_cells h g hg).2
    refine World.putObj_heap_other (fun e => ?_)
    subst e
    rw [hl] at hc; cases hc)
end
/-- what the frames have said so far -/
def RdAcc (bs : List (List UInt8)) (idx : Int) (D g9 g10 g11 g12 : Nat) (k : Nat) (W : World) : Prop :=
  (k = 0 ∧ Blk W g9 3 #[.int .i64 0] ∧ Blk W g10 3 #[.int .i64 0] ∧ Blk W g11 3 #[.int .i64 0] ∧ Blk W g12 33 #[.slice none 0 0]) ∨
  (∃ h cs, bs = h :: cs ∧ 1 ≤ k ∧ HdOk h idx ∧ Blk W g9 3 #[.int .i64 (hA h)] ∧ Blk W g10 3 #[.int .i64 (hT h)] ∧ Blk W g11 3 #[.int .i64 (hN h)] ∧
    ∃ Ad cd acc, Blk W g12 33 #[.slice Ad acc.length cd] ∧ Own W D (.slice Ad acc.length cd) acc.length acc ∧ gather (hN h) [] (cs.take (k - 1)) = some acc)
theorem RdAcc.later {bs : List (List UInt8)} {idx : Int} {D g9 g10 g11 g12 k : Nat} {W W' : World} (h : RdAcc bs idx D g9 g10 g11 g12 k W) (hb : Below W.heap.size W W') : RdAcc bs idx D g9 g10 g11 g12 k W' := by
  rcases h with ⟨h0, h1, h2, h3, h4⟩ | ⟨h, cs, e1, e2, e3, h1, h2, h3, Ad, cd, acc, h4, h5, h6⟩
  · exact .inl ⟨h0, h1.later hb, h2.later hb, h3.later hb, h4.later hb⟩
  · exact .inr ⟨h, cs, e1, e2, e3, h1.later hb, h2.later hb, h3.later hb, Ad, cd, acc, h4.later hb, rows_below h5 hb (Nat.le_refl _), h6⟩
theorem RdAcc.loop {bs : List (List UInt8)} {idx : Int} {D g9 g10 g11 g12 k : Nat} {W : World} {r : Loop} (h : RdAcc bs idx D g9 g10 g11 g12 k W) (hl : W.heap[D + 1]? = some (.loop r)) (h9 : g9 < D) (h10 : g10 < D) (h11 : g11 < D) (h12 : g12 < D) (o : Obj) : RdAcc bs idx D g9 g10 g11 g12 k (W.putObj (D + 1) o) := by
  rcases h with ⟨h0, h1, h2, h3, h4⟩ | ⟨h, cs, e1, e2, e3, h1, h2, h3, Ad, cd, acc, h4, h5, h6⟩
  · exact .inl ⟨h0, h1.putObj (by omega) _, h2.putObj (by omega) _, h3.putObj (by omega) _, h4.putObj (by omega) _⟩
  · exact .inr ⟨h, cs, e1, e2, e3, h1.putObj (by omega) _, h2.putObj (by omega) _, h3.putObj (by omega) _, Ad, cd, acc, h4.putObj (by omega) _, h5.loop hl o, h6⟩
end Go.Proofs.YtebeidnmplnlpaaGreat
end

section
set_option maxRecDepth 10000
namespace Go.Proofs.YtebeidnmplnlpaaGreat
set_option linter.unusedVariables false
open Go.RowKit

theorem rdNew_any (W : World) (room : Int) :
    Calls Tryz.prog 5 #[.int .i64 room] W fun e W' => ∃ r, e = .returned (.pointer (some ⟨r, 0, none⟩)) ∧ RefD W' (fun j => W.heap.size ≤ j) r (DS.new room) ∧ Below W.heap.size W W' := by
  refine calls_vc Tryz.func5 rfl (by kernel_rfl) ?_
  ((conv => whnf); (repeat ((first | (refine VL.cons ?_) | (refine VL.nil ?_) | (refine VC.seqS rfl ?_) | (refine VC.region ?_)); (conv => whnf))))
  ((repeat ((fail); (conv => whnf))))
  refine VRead.maxZ (z := max room 0) (by split <;> omega) ?_
  ((conv => whnf); (repeat ((first | (refine VL.cons ?_)); (conv => whnf))))
  refine VRead.minZ (z := max 0 (min room 16777216)) (by split <;> omega) ?_
  ((conv => whnf); (repeat ((first | (refine VL.cons ?_)); (conv => whnf))))
  refine VRead.ofW (v := .agg (rC (Dk.new room) none 0 0)) (fun _ => by kernel_rfl) ?_
  ((conv => whnf); (repeat ((first | (refine VL.cons ?_)); (conv => whnf))))
  refine VSem.boxB ?_
  intro W2 g hb2 hg2 hl2 hB2
  ((conv => whnf); (repeat ((first | (refine VL.cons ?_) | (refine VL.nil ?_) | (refine VC.ret ?_)); (conv => whnf))))
  ((repeat ((fail); (conv => whnf))))
  exact ⟨g, rfl, ⟨DWf.new room, none, 0, [], ⟨Nat.le_of_eq hg2.symm, hb2, ⟨World.ownsRow_nil _ _ _ _, fun g h => (by simp [Value.ownBlock] at h), (by simp [FEls, DS.new])⟩⟩⟩, hB2⟩
theorem rNamed_any (W : World) (s : List UInt8) (hs : s.length ≤ 1000) : Calls Tryz.prog 26 #[encStr s] W fun e W' => e = .returned (.bool (decide (nameOk s))) ∧ W' = W := by
  have hsz : ByteArray.size ⟨s.toArray⟩ = s.length := txt_size s
  refine calls_vc Tryz.func26 rfl (by kernel_rfl) ?_
  by_cases h1 : 1 ≤ s.length
  · ((conv => whnf); (repeat ((first | (refine VL.cons ?_) | (refine VL.nil ?_) | (refine VC.seqS rfl ?_) | (refine VC.region ?_)); (conv => whnf))))
    ((repeat ((first | (refine VL.cons ?_) | (refine VL.nil ?_) | (refine VC.ret ?_) | (refine VBool.t ?_) | (refine VBool.dT (by omega) ?_) | (refine VRead.lenT ?_)); (conv => whnf))))
    refine ⟨?_, rfl⟩
    by_cases h2 : s.length ≤ 32
    · rw [decide_eq_true (p := nameOk s) ⟨h1, h2⟩]
      show Ending.returned (.bool (decide (((ByteArray.size ⟨s.toArray⟩ : Nat) : Int) ≤ 32))) = _
      rw [decide_eq_true (by omega)]
    · rw [decide_eq_false (p := nameOk s) (fun h => h2 h.2)]
      show Ending.returned (.bool (decide (((ByteArray.size ⟨s.toArray⟩ : Nat) : Int) ≤ 32))) = _
      rw [decide_eq_false (by omega)]
  · rw [decide_eq_false (p := nameOk s) (fun h => h1 h.1)]
    ((conv => whnf); (repeat ((first | (refine VL.cons ?_) | (refine VL.nil ?_) | (refine VC.seqS rfl ?_) | (refine VC.region ?_)); (conv => whnf))))
    ((repeat ((first | (refine VL.cons ?_) | (refine VL.nil ?_) | (refine VC.ret ?_) | (refine VBool.f ?_) | (refine VBool.dF (by omega) ?_) | (refine VRead.lenT ?_)); (conv => whnf))))
    exact ⟨rfl, rfl⟩
section
variable {U : Foot} {r c : Nat} {A : Option Addr} {xs : List Value} {K : Dk} {T : PT}
set_option maxHeartbeats 1000000 in
theorem rCall_at (W : World) (h : RefAt W U r A c xs K T) (hw : KWf K) :
    Calls Tryz.prog 25 #[.pointer (some ⟨r, 0, none⟩)] W fun e W' => e = .returned (.int .i64 K.call.1) ∧ RefAt W' U r A c xs K.call.2 T ∧ W.grownBy W' (some r) := by
  obtain ⟨room, calls, armed, kind, after, off⟩ := K
  have hc := hw.calls
  have ha := hw.after
  simp only at hc ha
  have hb : Blk W r 47 #[.slice A T.length c, .int .i64 room, .int .i64 calls, .bool armed, .int .i64 kind, .int .i64 after, .bool off] := h.blk
  refine calls_vc Tryz.func25 rfl (by kernel_rfl) ?_
  ((conv => whnf); (repeat ((first | (refine VL.cons ?_) | (refine VL.nil ?_) | (refine VC.seqS rfl ?_) | (refine VC.region ?_)); (conv => whnf))))
  (repeat (first | ((first | (refine VL.cons ?_) | (refine VRead.fld ?_) | (refine VWrap.i64 (by omega) (by omega) ?_)); (conv => whnf)) | (refine VRead.loadB hb rfl rfl ?_; (conv => whnf))))
  refine VUnit.storeB hb rfl rfl rfl ?_
  intro W1 hb1 hg1
  replace hb1 : Blk W1 r 47 #[.slice A T.length c, .int .i64 room, .int .i64 (calls + 1), .bool armed, .int .i64 kind, .int .i64 after, .bool off] := hb1
  have h1 : RefAt W1 U r A c xs ⟨room, calls + 1, armed, kind, after, off⟩ T := h.own hb1 hg1
  ((conv => whnf); (repeat ((first | (refine VL.nil ?_)); (conv => whnf))))
  (repeat (first | ((first | (refine VL.cons ?_) | (refine VL.nil ?_) | (refine VC.seqS rfl ?_) | (refine VC.region ?_) | (refine VC.cond ?_) | (refine VRead.fld ?_) | (refine VC.seq ?_)); (conv => whnf)) | (refine VRead.loadB hb1 rfl rfl ?_; (conv => whnf))))
  cases off with
  | true =>
    ((repeat ((first | (refine VL.cons ?_) | (refine VL.nil ?_) | (refine VC.seqS rfl ?_) | (refine VC.region ?_) | (refine VC.ret ?_) | (refine VBool.t ?_)); (conv => whnf))))
    exact ⟨rfl, h1, hg1⟩
  | false =>
    ((repeat ((first | (refine VL.cons ?_) | (refine VC.seqS rfl ?_) | (refine VC.region ?_) | (refine VC.skip ?_) | (refine VBool.f ?_) | (refine VRead.fld ?_) | (refine VC.seq ?_)); (conv => whnf))))
    (repeat (first | ((first | (refine VL.cons ?_) | (refine VL.nil ?_) | (refine VC.cond ?_)); (conv => whnf)) | (refine VRead.loadB hb1 rfl rfl ?_; (conv => whnf))))
    cases armed with
    | false =>
      ((repeat ((first | (refine VL.cons ?_) | (refine VL.nil ?_) | (refine VC.seqS rfl ?_) | (refine VC.region ?_) | (refine VC.ret ?_) | (refine VBool.t ?_)); (conv => whnf))))
      exact ⟨rfl, h1, hg1⟩
    | true =>
      ((repeat ((first | (refine VL.cons ?_) | (refine VC.seqS rfl ?_) | (refine VC.region ?_) | (refine VC.skip ?_) | (refine VBool.f ?_) | (refine VRead.fld ?_) | (refine VC.seq ?_)); (conv => whnf))))
      (repeat (first | ((first | (refine VL.cons ?_) | (refine VL.nil ?_) | (refine VC.cond ?_)); (conv => whnf)) | (refine VRead.loadB hb1 rfl rfl ?_; (conv => whnf))))
      by_cases ha0 : 0 < after
      · ((repeat ((first | (refine VL.cons ?_) | (refine VC.seqS rfl ?_) | (refine VC.region ?_) | (refine VBool.dT (by omega) ?_) | (refine VRead.fld ?_)); (conv => whnf))))
        (repeat (first | ((first | (refine VL.cons ?_) | (refine VRead.fld ?_) | (refine VWrap.i64 (by omega) (by omega) ?_)); (conv => whnf)) | (refine VRead.loadB hb1 rfl rfl ?_; (conv => whnf))))
        refine VUnit.storeB hb1 rfl rfl rfl ?_
        intro W2 hb2 hg2
        replace hb2 : Blk W2 r 47 #[.slice A T.length c, .int .i64 room, .int .i64 (calls + 1), .bool true, .int .i64 kind, .int .i64 (after - 1), .bool false] := hb2
        ((conv => whnf); (repeat ((first | (refine VL.cons ?_) | (refine VL.nil ?_) | (refine VC.seqS rfl ?_) | (refine VC.region ?_) | (refine VC.ret ?_)); (conv => whnf))))
        ((repeat ((fail); (conv => whnf))))
        have e : Dk.call ⟨room, calls, true, kind, after, false⟩ = (0, ⟨room, calls + 1, true, kind, after - 1, false⟩) := by simp [Dk.call, ha0]
        rw [e]
        refine ⟨rfl, ?_, only_trans hg1 hg2⟩
        · have : RefAt W2 U r A c xs ⟨room, calls + 1, true, kind, after - 1, false⟩ T := h1.own hb2 hg2
          exact this
      · ((repeat ((first | (refine VL.cons ?_) | (refine VC.seqS rfl ?_) | (refine VC.region ?_) | (refine VC.skip ?_) | (refine VBool.dF (by omega) ?_) | (refine VRead.fld ?_)); (conv => whnf))))
        refine VUnit.storeB hb1 rfl rfl rfl ?_
        intro W2 hb2 hg2
        replace hb2 : Blk W2 r 47 #[.slice A T.length c, .int .i64 room, .int .i64 (calls + 1), .bool false, .int .i64 kind, .int .i64 after, .bool false] := hb2
        have h2 : RefAt W2 U r A c xs ⟨room, calls + 1, false, kind, after, false⟩ T := h1.own hb2 hg2
        ((conv => whnf); (repeat ((first | (refine VL.cons ?_) | (refine VL.nil ?_) | (refine VC.seqS rfl ?_) | (refine VC.region ?_)); (conv => whnf))))
        (repeat (first | ((first | (refine VL.cons ?_) | (refine VRead.fld ?_)); (conv => whnf)) | (refine VRead.loadB hb2 rfl rfl ?_; (conv => whnf))))
        refine VUnit.storeB hb2 rfl rfl rfl ?_
        intro W3 hb3 hg3
        replace hb3 : Blk W3 r 47 #[.slice A T.length c, .int .i64 room, .int .i64 (calls + 1), .bool false, .int .i64 kind, .int .i64 after, .bool (decide (kind = 19))] := hb3
        have h3 : RefAt W3 U r A c xs ⟨room, calls + 1, false, kind, after, decide (kind = 19)⟩ T := h2.own hb3 hg3
        ((conv => whnf); (repeat ((first | (refine VL.cons ?_) | (refine VL.nil ?_) | (refine VC.seqS rfl ?_) | (refine VC.region ?_)); (conv => whnf))))
        (repeat (first | ((first | (refine VL.cons ?_) | (refine VL.nil ?_) | (refine VC.ret ?_) | (refine VRead.fld ?_)); (conv => whnf)) | (refine VRead.loadB hb3 rfl rfl ?_; (conv => whnf))))
        have e : Dk.call ⟨room, calls, true, kind, after, false⟩ = (kind, ⟨room, calls + 1, false, kind, after, decide (kind = 19)⟩) := by simp [Dk.call, ha0]
        rw [e]
        exact ⟨rfl, h3, only_trans hg1 (only_trans hg2 hg3)⟩
/-- where a name stands -/
def Stands (T : PT) (s : List UInt8) (k : Int) : Prop := (tfind T s = none ∧ k = -1) ∨ ∃ A f B, T = A ++ (s, f) :: B ∧ tfind T s = some f ∧ k = A.length
set_option maxHeartbeats 1000000 in
theorem rFind_at (W : World) (s : List UInt8) (h : RefAt W U r A c xs K T) (hR : Rising T) (hfew : T.length ≤ 1000) :
    Calls Tryz.prog 27 #[.pointer (some ⟨r, 0, none⟩), encStr s] W fun e W' => (∃ k, e = .returned (.int .i64 k) ∧ Stands T s k) ∧ W' = W := by
  have hb : Blk W r 47 #[.slice A T.length c, .int .i64 K.room, .int .i64 K.calls, .bool K.armed, .int .i64 K.kind, .int .i64 K.after, .bool K.off] := h.blk
  refine calls_vc Tryz.func27 rfl (by kernel_rfl) ?_
  ((conv => whnf); (repeat ((first | (refine VL.cons ?_) | (refine VL.nil ?_) | (refine VC.seqS rfl ?_) | (refine VC.region ?_)); (conv => whnf))))
  ((repeat ((first | (refine VL.cons ?_) | (refine VL.nil ?_) | (refine VC.seqS rfl ?_) | (refine VC.region ?_) | (refine VC.block ?_) | (refine VC.seq ?_)); (conv => whnf))))
  refine VC.loop [5] [(4, 25)] (fun q vs w => ∃ T0 T1 : PT, vs = [.int .i64 (T0.length : Int)] ∧ q = T1.length ∧ T = T0 ++ T1 ∧ s ∉ T0.map (·.1) ∧ w = W) (by kernel_rfl) ⟨_, [], T, rfl, rfl, rfl, by simp, rfl⟩ ?_
  rintro q τ vs w ⟨T0, T1, rfl, rfl, hT, hn, rfl⟩
  have hTl : T.length = T0.length + T1.length := by rw [hT]; simp
  cases T1 with
  | nil =>
    simp only [List.length_nil] at hTl
    rw [List.append_nil] at hT
    subst hT
    ((conv => whnf); (repeat ((fail); (conv => whnf))))
    (repeat (first | ((first | (refine VL.cons ?_) | (refine VL.nil ?_) | (refine VC.seqS rfl ?_) | (refine VC.region ?_) | (refine VC.cond ?_) | (refine VC.exit ?_) | (refine VC.ret ?_) | (refine VBool.dF (by omega) ?_) | (refine VRead.lenS ?_) | (refine VRead.fld ?_) | (refine VC.seq ?_)); (conv => whnf)) | (refine VRead.loadB hb rfl rfl ?_; (conv => whnf))))
    exact ⟨⟨-1, rfl, .inl ⟨tfind_not hn, rfl⟩⟩, rfl⟩
  | cons p T1 =>
    simp only [List.length_cons] at hTl
    have hels := h.fr.els
    rw [hT] at hels
    obtain ⟨x1, a, b, c', x2, hxs, hx1, _, hel, _⟩ := hels.at_
    obtain ⟨rfl, _⟩ := hel
    obtain ⟨g, rfl, hgl, hcell⟩ := h.fr.cell (i := T0.length) (k := 0) (v := encStr p.1) (by rw [hxs, List.getElem?_append_right (by omega)]; simp [hx1])
    by_cases he : p.1 = s
    · have hf : tfind T s = some p.2 := tfind_of hR.nd (by rw [hT, ← he]; simp)
      subst he
      ((conv => whnf); (repeat ((fail); (conv => whnf))))
      (repeat (first | ((first | (refine VL.cons ?_) | (refine VL.nil ?_) | (refine VC.seqS rfl ?_) | (refine VC.region ?_) | (refine VC.cond ?_) | (refine VC.block ?_) | (refine VC.ret ?_) | (refine VC.skip ?_) | (refine VBool.dT (by omega) ?_) | (refine VRead.lenS ?_) | (refine VRead.fld ?_) | (refine VRead.load1 (by assumption) ?_) | (refine VBool.dT rfl ?_) | (refine VC.seq ?_)); (conv => whnf)) | (refine VRead.loadB hb rfl rfl ?_; (conv => whnf)) | (refine VRead.atK (by omega) ?_; (conv => whnf)) | (refine VRead.load1 hcell ?_; (conv => whnf))))
      exact ⟨⟨_, rfl, .inr ⟨T0, p.2, T1, hT, hf, rfl⟩⟩, rfl⟩
    · have hne : ¬ (⟨p.1.toArray⟩ : ByteArray) = ⟨s.toArray⟩ := fun h => he (txt_inj.1 h)
      ((conv => whnf); (repeat ((fail); (conv => whnf))))
      (repeat (first | ((first | (refine VL.cons ?_) | (refine VL.nil ?_) | (refine VC.seqS rfl ?_) | (refine VC.region ?_) | (refine VC.cond ?_) | (refine VC.block ?_) | (refine VC.skip ?_) | (refine VBool.dT (by omega) ?_) | (refine VBool.dF (by omega) ?_) | (refine VRead.lenS ?_) | (refine VRead.fld ?_) | (refine VRead.load1 (by assumption) ?_) | (refine VWrap.i64 (by omega) (by omega) ?_) | (refine VC.seq ?_)); (conv => whnf)) | (refine VRead.loadB hb rfl rfl ?_; (conv => whnf)) | (refine VRead.atK (by omega) ?_; (conv => whnf)) | (refine VRead.load1 hcell ?_; (conv => whnf)) | (refine VBool.dF hne ?_; (conv => whnf))))
      exact ⟨_, by simp, T0 ++ [p], T1, by simp only [List.length_append, List.length_cons, List.length_nil]; rfl, rfl, by rw [hT]; simp, by simp [hn]; exact fun e => he e.symm, rfl⟩
end
end Go.Proofs.YtebeidnmplnlpaaGreat
end

section
namespace Go.Proofs.YtebeidnmplnlpaaGreat
set_option linter.unusedVariables false
open Go.ChangeShapes Go.WideShapes Go.ChangeAt Go.RowKit
open Go.Deep (open_bools boolRow)

def InInts (w : World) (A : Option Addr) (n c : Nat) (l : List Int) : Prop :=
  Reads w w.heap.size 1 A n (iv .i64 l) ∧ n ≤ c ∧ c ≤ 17592186043904 ∧ ∀ x ∈ l, -9223372036854775808 ≤ x ∧ x ≤ 9223372036854775807
theorem row_block {x : Addr} {n : Nat} {W : World} (hn : 0 < n) {q : List MemPlace} (h : ∀ y ∈ MemPlace.row x n ++ q, y.block < W.heap.size) : x.block < W.heap.size :=
  h (.cell x.block x.off) (by
    rw [List.mem_append]; left
    unfold MemPlace.row
    rw [List.mem_map]
    exact ⟨0, by simp; omega, by simp⟩)
theorem Reads.of_cells0 {W : World} {x : Addr} {n m : Nat} {xs : List Value} {q : List MemPlace} (hl : xs.length = n) (hnm : n ≤ m) (hb : ∀ y ∈ MemPlace.row x m ++ q, y.block < W.heap.size) (h : ∀ j u, xs[j]? = some u → W.cell? (x.add j) = some u) : Reads W W.heap.size 1 (some x) n xs :=
  ⟨by omega, fun hn => ⟨x, rfl, row_block (by omega) hb, h⟩⟩

section
variable {H : Type} {enc : TypeId × Value → H} {P : Program}
theorem in_ints {t e : TypeId} (ht : P.underlying t = some (.slice e)) (he : P.underlying e = some (.int .i64)) (hc : P.cellsOf e = 1) (hby : P.bytesOf e = 8)
    {W : World} {A : Option Addr} {n c : Nat} {d : DataW H} {p : List MemPlace} (h : DataW.Trod enc P W 0 (fun _ => true) true t (.slice A n c) d p)
    {ts : List TypeId} {ds : List (DataW H)} (hsz : (DataW.weightsEach P ts ds).all (· ≤ reachBytes) = true) {j : Nat} (hj : ts[j]? = some t) (hd : ds[j]? = some d) :
    ∃ l, InInts W A n c l ∧ n + 1 ≤ Rows.uptoBulk d := by
  have hlt : ∀ x ∈ p, x.block < W.heap.size := by obtain ⟨m, hm⟩ := h; exact DataW.trod_lt m _ _ _ hm
  obtain ⟨fuel, hf⟩ := h
  rcases open_ints ht he hc hf with ⟨hcs, hx⟩ | ⟨x, l, c', zs, hcs, _, hl, hm, hz, hx, hcell, hwz⟩
  · simp [Value.cells] at hcs
    obtain ⟨rfl, rfl, rfl⟩ := hcs
    simp only [Prod.mk.injEq] at hx
    obtain ⟨rfl, rfl⟩ := hx
    exact ⟨[], ⟨Reads.none_, Nat.le_refl _, by omega, fun x hx => by cases hx⟩, by simp [Rows.uptoBulk]⟩
  · simp [Value.cells] at hcs
    obtain ⟨rfl, rfl, rfl⟩ := hcs
    simp only [if_true] at hz
    simp only [Prod.mk.injEq] at hx
    obtain ⟨rfl, rfl⟩ := hx
    have hreach := sized_slice hsz hj hd ht
    simp [lits, hby, reachBytes] at hreach
    refine ⟨zs.take n, ⟨Reads.of_cells0 (q := []) (by simp [iv]; omega) (by omega : n ≤ zs.length) (by simpa using hlt) ?_, hl, by omega, fun y hy => ?_⟩, ?_⟩
    · intro i u hu
      unfold iv at hu
      rw [List.getElem?_map, Option.map_eq_some_iff] at hu
      obtain ⟨y, hy, rfl⟩ := hu
      have hi : i < n := by have := (List.getElem?_eq_some_iff.1 hy).1; simp at this; omega
      rw [List.getElem?_take_of_lt hi] at hy
      rw [hcell i (by omega)]
      simp [List.getD, hy]
    · exact int_bounds (hwz y (List.mem_of_mem_take hy))
    · have e1 := bulk_slice (H := H) (lits .i64 (zs.take n)) (lits .i64 (zs.drop n))
      simp [lits] at e1
      simp [lits]
      omega

end
end Go.Proofs.YtebeidnmplnlpaaGreat
end

section
set_option maxRecDepth 10000
namespace Go.Proofs.YtebeidnmplnlpaaGreat
set_option linter.unusedVariables false
open Go.ChangeShapes Go.WideShapes Go.ChangeAt Go.RowKit

structure Op17 where
  kind : Int
  a : Int
  b : Int
  n : Int
  data : List UInt8
  picks : List Int
instance : Inhabited Op17 := ⟨⟨0, 0, 0, 0, [], []⟩⟩
def i64 (z : Int) : Prop := -9223372036854775808 ≤ z ∧ z ≤ 9223372036854775807
structure Op17.Ok (W : World) (B : Nat) (o : Op17) (Ad : Option Addr) (m k : Nat) (Ap : Option Addr) (mp kp : Nat) : Prop where
  kind : i64 o.kind
  a : i64 o.a
  b : i64 o.b
  n : i64 o.n
  le : m ≤ k
  k : k ≤ 140737488351232
  data : Reads W B 1 Ad m (bv o.data)
  lep : mp ≤ kp
  kp : kp ≤ 17592186043904
  picks : Reads W B 1 Ap mp (iv .i64 o.picks)
  each : ∀ x ∈ o.picks, i64 x
def opC (o : Op17) (Ad : Option Addr) (m k : Nat) (Ap : Option Addr) (mp kp : Nat) : Array Value := #[.int .i64 o.kind, .int .i64 o.a, .int .i64 o.b, .int .i64 o.n, .slice Ad m k, .slice Ap mp kp]
def OpsAt (W : World) (B : Nat) (A : Option Addr) (n : Nat) (ops : List Op17) : Prop :=
  ops.length = n ∧ (0 < n → ∃ x, A = some x ∧ x.block < B ∧ ∀ i o, ops[i]? = some o → ∃ Ad m k Ap mp kp, (∀ j u, (opC o Ad m k Ap mp kp).toList[j]? = some u → W.cell? (x.add (6 * i + j)) = some u) ∧ o.Ok W B Ad m k Ap mp kp)
section
variable {H : Type} {enc : TypeId × Value → H}
end
theorem add_blk (x : Addr) (j : Nat) : (x.add j).block = x.block := by unfold Addr.add; split <;> rfl
theorem OpsAt.len {W : World} {B n : Nat} {A : Option Addr} {ops : List Op17} (h : OpsAt W B A n ops) : ops.length = n := h.1
theorem Op17.Ok.below {W W' : World} {B C : Nat} {o : Op17} {Ad Ap : Option Addr} {m k mp kp : Nat} (h : o.Ok W B Ad m k Ap mp kp) (hb : Below B W W') : o.Ok W' B Ad m k Ap mp kp :=
  ⟨h.kind, h.a, h.b, h.n, h.le, h.k, h.data.below hb, h.lep, h.kp, h.picks.below hb, h.each⟩
/-- an operation of a number, in all later worlds -/
theorem OpsAt.later {W : World} {B i n : Nat} {A : Option Addr} {ops : List Op17} {o : Op17} (h : OpsAt W B A n ops) (ho : ops[i]? = some o) :
    ∃ x Ad m k Ap mp kp, A = some x ∧ ∀ W', Below B W W' → (∀ j u, (opC o Ad m k Ap mp kp).toList[j]? = some u → W'.cell? ((x.add (i * 6)).add j) = some u) ∧ o.Ok W' B Ad m k Ap mp kp := by
  have hi := (List.getElem?_eq_some_iff.1 ho).1
  have h1 := h.1
  obtain ⟨x, hA, hx, h3⟩ := h.2 (by omega)
  obtain ⟨Ad, m, k, Ap, mp, kp, e1, e2⟩ := h3 i o ho
  refine ⟨x, Ad, m, k, Ap, mp, kp, hA, fun W' hb => ⟨fun j u hu => ?_, e2.below (C := 0) hb⟩⟩
  rw [hb.cell (by rw [add_blk, add_blk]; exact hx), Deep.add_add, Nat.mul_comm i 6]
  exact e1 j u hu
/-- a struct's value, read where it lies -/
theorem run_load_list {P : Program} {W : World} {t k : Nat} {p : Addr} {cs : List Value} (a : TAgg P t k) (hc : ∀ j v, cs[j]? = some v → W.cell? (p.add j) = some v) (hs : cs.length = k) : (Instr.loadAt t (.pointer (some p))).run P W = .ok (.agg cs.toArray) W := by
  have hl : (loadCells p k).run P W = .ok cs.toArray W := by
    have := run_loadCells_list (P := P) W p cs hc
    rw [hs] at this
    exact this
  unfold Instr.loadAt Instr.sureAddr loadVar
  simp [run_isAgg_agg a, run_size a.s, hl]
theorem VRead.loadL {P : Program} {w : World} {t k : Nat} {p : Addr} {cs : Array Value} {K : Value → Prop} [a : TAgg P t k] (hc : ∀ j v, cs.toList[j]? = some v → w.cell? (p.add j) = some v) (hs : Nat.beq cs.size k = true) (hk : K (.agg cs)) : VRead P (Eq w) (Instr.loadAt t (.pointer (some p))) K :=
  .of1 (by have := run_load_list a hc (by rw [Array.length_toList]; exact Nat.eq_of_beq_eq_true hs); simpa using this) hk
end Go.Proofs.YtebeidnmplnlpaaGreat
end

section
set_option maxRecDepth 10000
namespace Go.Proofs.YtebeidnmplnlpaaGreat
set_option linter.unusedVariables false
open Go.RowKit

section
variable {U : Foot} {r c : Nat} {A : Option Addr} {xs : List Value} {K : Dk} {T : PT}
theorem used_app : ∀ (A B : PT), used (A ++ B) = used A + used B
  | [], B => by simp [used]
  | p :: A, B => by simp only [List.cons_append, used, used_app A B]; omega
theorem rCell {W : World} {T0 T1 : PT} {p : List UInt8 × Fl} (h : FRow W U A T.length c xs T) (hT : T = T0 ++ p :: T1) :
    ∃ g As cs Ap cp, A = some ⟨g, 0, none⟩ ∧ g < W.heap.size ∧ W.cell? (((⟨g, 0, none⟩ : Addr).add (T0.length * 3)).add 0) = some (encStr p.1) ∧
      W.cell? (((⟨g, 0, none⟩ : Addr).add (T0.length * 3)).add 1) = some (.slice As p.2.sure cs) ∧ W.cell? (((⟨g, 0, none⟩ : Addr).add (T0.length * 3)).add 2) = some (.slice Ap (p.2.b.length - p.2.sure) cp) ∧
      Lies W U As p.2.sure (p.2.b.take p.2.sure) ∧ Lies W U Ap (p.2.b.length - p.2.sure) (p.2.b.drop p.2.sure) ∧ p.2.sure ≤ cs ∧ p.2.b.length - p.2.sure ≤ cp := by
  have hels := h.els
  rw [hT] at hels
  obtain ⟨x1, a, b, c', x2, hxs, hx1, _, hel, _⟩ := hels.at_
  obtain ⟨rfl, ⟨As, cs, rfl, hls, hcs⟩, Ap, cp, rfl, hlp, hcp⟩ := hel
  obtain ⟨g, rfl, hgl, h0⟩ := h.cell (i := T0.length) (k := 0) (v := encStr p.1) (by rw [hxs, List.getElem?_append_right (by omega)]; simp [hx1])
  obtain ⟨g', e1, _, h1⟩ := h.cell (i := T0.length) (k := 1) (v := .slice As p.2.sure cs) (by rw [hxs, List.getElem?_append_right (by omega)]; simp [hx1])
  obtain ⟨g'', e2, _, h2⟩ := h.cell (i := T0.length) (k := 2) (v := .slice Ap (p.2.b.length - p.2.sure) cp) (by rw [hxs, List.getElem?_append_right (by omega)]; simp [hx1])
  injection e1 with e1; injection e1 with e1; subst e1
  injection e2 with e2; injection e2 with e2; subst e2
  exact ⟨g, As, cs, Ap, cp, rfl, hgl, h0, h1, h2, hls, hlp, hcs, hcp⟩
theorem rUsed_at (W : World) (h : RefAt W U r A c xs K T) (hroom : K.room ≤ 16777216) (hw : TWf K.room T) :
    Calls Tryz.prog 31 #[.pointer (some ⟨r, 0, none⟩)] W fun e W' => e = .returned (.int .i64 (used T : Int)) ∧ Below W.heap.size W W' := by
  have hb : Blk W r 47 #[.slice A T.length c, .int .i64 K.room, .int .i64 K.calls, .bool K.armed, .int .i64 K.kind, .int .i64 K.after, .bool K.off] := h.blk
  have hfit := hw.fit
  have hfew := hw.few
  refine calls_vc Tryz.func31 rfl (by kernel_rfl) ?_
  ((conv => whnf); (repeat ((first | (refine VL.cons ?_) | (refine VL.nil ?_) | (refine VC.seqS rfl ?_) | (refine VC.region ?_)); (conv => whnf))))
  ((repeat ((first | (refine VL.cons ?_) | (refine VL.nil ?_) | (refine VC.seqS rfl ?_) | (refine VC.region ?_) | (refine VC.block ?_) | (refine VC.seq ?_)); (conv => whnf))))
  refine VC.loop [3, 4] [(3, 34)] (fun q vs w => ∃ T0 T1 : PT, vs = [.int .i64 (used T0 : Int), .int .i64 (T0.length : Int)] ∧ q = T1.length ∧ T = T0 ++ T1 ∧ Below W.heap.size W w) (by kernel_rfl) ⟨_, [], T, rfl, rfl, rfl, Below.refl _ _⟩ ?_
  rintro q τ vs w ⟨T0, T1, rfl, rfl, hT, hB⟩
  have hb1 := hb.below hB hb.lt
  have hTl : T.length = T0.length + T1.length := by rw [hT]; simp
  have hTu : used T = used T0 + used T1 := by rw [hT, used_app]
  cases T1 with
  | nil =>
    simp only [List.length_nil] at hTl
    rw [List.append_nil] at hT
    subst hT
    ((conv => whnf); (repeat ((fail); (conv => whnf))))
    (repeat (first | ((first | (refine VL.cons ?_) | (refine VL.nil ?_) | (refine VC.seqS rfl ?_) | (refine VC.region ?_) | (refine VC.cond ?_) | (refine VC.exit ?_) | (refine VC.ret ?_) | (refine VBool.dF (by omega) ?_) | (refine VRead.lenS ?_) | (refine VRead.fld ?_) | (refine VC.seq ?_)); (conv => whnf)) | (refine VRead.loadB hb1 rfl rfl ?_; (conv => whnf))))
    exact ⟨rfl, hB⟩
  | cons p T1 =>
    simp only [List.length_cons] at hTl
    have hsu := hw.sure p (by rw [hT]; simp)
    have hTu2 : used T = used T0 + (p.2.b.length + used T1) := hTu
    obtain ⟨g, As, cs, Ap, cp, rfl, hgl, c0, c1, c2, hls, hlp, hcs, hcp⟩ := rCell (h.below hB (Nat.le_refl _)).fr hT
    ((conv => whnf); (repeat ((fail); (conv => whnf))))
    (repeat (first | ((first | (refine VL.cons ?_) | (refine VL.nil ?_) | (refine VC.seqS rfl ?_) | (refine VC.region ?_) | (refine VC.draw ?_) | (refine VC.cond ?_) | (refine VC.block ?_) | (refine VC.skip ?_) | (refine VBool.dT (by omega) ?_) | (refine VRead.lenS ?_) | (refine VRead.fld ?_) | (refine VC.seq ?_)); (conv => whnf)) | (refine VRead.loadB hb1 rfl rfl ?_; (conv => whnf))))
    (refine VDraw.seg (Eq (World.drewN _ 1)) [] [0, 1, 2, 3, 4, 5, 6, 7, 8, 9, 10, 11, 12, 13, 14, 15, 16, 17, 18, 19, 20, 21] (by kernel_rfl) (by kernel_rfl) rfl ?_; (conv => whnf))
    (repeat ((first | (refine VRead.loadB hb1 rfl rfl ?_) | (refine VRead.atK (by omega) ?_) | (refine VRead.load1 c1 ?_) | (refine VRead.load1 c2 ?_) | (refine VL.cons ?_) | (refine VL.nil ?_) | (refine VC.region ?_) | (refine VQ.cons ?_) | (refine VQ.nil ?_) | (refine VG.nil ?_) | (refine VRead.lenS ?_) | (refine VRead.fld ?_) | (refine VWrap.i64 (by omega) (by omega) ?_)); (conv => whnf)))
    ((repeat ((fail); (conv => whnf))))
    refine ⟨_, by simp, T0 ++ [p], T1, ?_, rfl, by rw [hT]; simp, below_drewN hB 1⟩
    have e : used (T0 ++ [p]) = used T0 + p.2.sure + (p.2.b.length - p.2.sure) := by rw [used_app]; simp only [used]; omega
    rw [e]
    simp only [List.length_append, List.length_cons, List.length_nil, Int.natCast_add]
    rfl
theorem rList_any (W : World) {S : DS} (h : RefD W U r S) :
    Calls Tryz.prog 38 #[.pointer (some ⟨r, 0, none⟩)] W fun e W' => ∃ A k, e = .returned (.slice A S.t.length k) ∧ W'.ownsRow W.heap.size 9 1 (.slice A S.t.length k) S.t.length ((S.t.map (·.1)).map encStr) ∧ Below W.heap.size W W' := by
  obtain ⟨⟨hk, hw⟩, A, c, xs, h⟩ := h
  obtain ⟨K, T⟩ := S
  simp only at h hk hw ⊢
  have hb : Blk W r 47 #[.slice A T.length c, .int .i64 K.room, .int .i64 K.calls, .bool K.armed, .int .i64 K.kind, .int .i64 K.after, .bool K.off] := h.blk
  have hfew := hw.few
  refine calls_vc Tryz.func38 rfl (by kernel_rfl) ?_
  ((conv => whnf); (repeat ((first | (refine VL.cons ?_) | (refine VL.nil ?_) | (refine VC.seqS rfl ?_) | (refine VC.region ?_)); (conv => whnf))))
  ((repeat ((first | (refine VL.cons ?_) | (refine VL.nil ?_) | (refine VC.seqS rfl ?_) | (refine VC.region ?_) | (refine VC.block ?_) | (refine VC.seq ?_)); (conv => whnf))))
  refine VC.loop [3, 4] [(3, 24)] (fun q vs w => ∃ T0 T1 : PT, ∃ A k, vs = [.slice A T0.length k, .int .i64 (T0.length : Int)] ∧ q = T1.length ∧ T = T0 ++ T1 ∧ w.ownsRow W.heap.size 9 1 (.slice A T0.length k) T0.length ((T0.map (·.1)).map encStr) ∧ Below W.heap.size W w) (by kernel_rfl)
    ⟨_, [], T, _, _, rfl, rfl, rfl, World.ownsRow_nil W _ _ _, Below.refl _ _⟩ ?_
  rintro q τ vs w ⟨T0, T1, B, k, rfl, rfl, hT, hO, hB⟩
  have hTl : T.length = T0.length + T1.length := by rw [hT]; simp
  have hb1 := hb.below hB hb.lt
  cases T1 with
  | nil =>
    simp only [List.length_nil] at hTl
    rw [List.append_nil] at hT
    subst hT
    ((conv => whnf); (repeat ((fail); (conv => whnf))))
    (repeat (first | ((first | (refine VL.cons ?_) | (refine VL.nil ?_) | (refine VC.seqS rfl ?_) | (refine VC.region ?_) | (refine VC.cond ?_) | (refine VC.exit ?_) | (refine VC.ret ?_) | (refine VBool.dF (by omega) ?_) | (refine VRead.lenS ?_) | (refine VRead.fld ?_) | (refine VC.seq ?_)); (conv => whnf)) | (refine VRead.loadB hb1 rfl rfl ?_; (conv => whnf))))
    exact ⟨B, k, rfl, hO, hB⟩
  | cons p T1 =>
    simp only [List.length_cons] at hTl
    obtain ⟨g, As, cs, Ap, cp, rfl, hgl, c0, c1, c2, hls, hlp, hcs, hcp⟩ := rCell (h.below hB (Nat.le_refl _)).fr hT
    ((conv => whnf); (repeat ((fail); (conv => whnf))))
    (repeat (first | ((first | (refine VL.cons ?_) | (refine VL.nil ?_) | (refine VC.seqS rfl ?_) | (refine VC.region ?_) | (refine VC.cond ?_) | (refine VC.block ?_) | (refine VC.skip ?_) | (refine VBool.dT (by omega) ?_) | (refine VRead.lenS ?_) | (refine VRead.fld ?_) | (refine VRead.load1 (by assumption) ?_) | (refine VC.seq ?_)); (conv => whnf)) | (refine VRead.loadB hb1 rfl rfl ?_; (conv => whnf)) | (refine VRead.atK (by omega) ?_; (conv => whnf)) | (refine VRead.load1 c0 ?_; (conv => whnf))))
    refine VSem.one rfl ?_
    intro w2 hr2 hB2 hz2
    have hO2 := rows_below hO hB2 (Nat.le_refl _)
    have hBw2 := hB.trans (hB2.mono hB.size)
    ((conv => whnf); (repeat ((first | (refine VL.cons ?_)); (conv => whnf))))
    ((repeat ((fail); (conv => whnf))))
    refine VSem.push str_info rfl hO2 hr2 rfl (by omega) (by decide) hBw2.size ?_
    intro A' k' w3 hO3 hg3
    have hBw3 := hBw2.grown hg3 hBw2.size (fun j hj => (row_cells hO2 j hj).1)
    ((conv => whnf); (repeat ((first | (refine VL.cons ?_) | (refine VL.nil ?_) | (refine VC.region ?_)); (conv => whnf))))
    ((repeat ((first | (refine VL.cons ?_) | (refine VL.nil ?_) | (refine VWrap.i64 (by omega) (by omega) ?_)); (conv => whnf))))
    refine ⟨_, by simp, T0 ++ [p], T1, A', k', ?_, rfl, by rw [hT]; simp, ?_, hBw3⟩
    · simp only [List.length_append, List.length_cons, List.length_nil]; rfl
    · simpa only [List.length_append, List.length_cons, List.length_nil, List.map_append, List.map_cons, List.map_nil] using hO3
theorem rRead_any (W : World) {S : DS} (s : List UInt8) (h : RefD W U r S) :
    Calls Tryz.prog 40 #[.pointer (some ⟨r, 0, none⟩), encStr s] W fun e W' => ∃ v, e = .returned v ∧ readR W' W.heap.size S.t s v ∧ Below W.heap.size W W' := by
  obtain ⟨⟨hk, hw⟩, A, c, xs, h⟩ := h
  obtain ⟨K, T⟩ := S
  simp only at h hk hw ⊢
  have hb : Blk W r 47 #[.slice A T.length c, .int .i64 K.room, .int .i64 K.calls, .bool K.armed, .int .i64 K.kind, .int .i64 K.after, .bool K.off] := h.blk
  have hfew := hw.few
  have hfit := hw.fit
  have hroom := hk.room
  unfold readR
  refine calls_vc Tryz.func40 rfl (by kernel_rfl) ?_
  ((conv => whnf); (repeat ((first | (refine VL.cons ?_) | (refine VL.nil ?_) | (refine VC.seqS rfl ?_) | (refine VC.region ?_)); (conv => whnf))))
  ((repeat ((fail); (conv => whnf))))
  refine VCall.of (rFind_at W s h hw.ris (by omega)) ?_
  rintro e W1 ⟨⟨k, rfl, hst⟩, eW⟩
  obtain rfl := eW.symm
  refine ⟨_, rfl, ?_⟩
  rcases hst with ⟨hf, rfl⟩ | ⟨T0, f, T1, hT, hf, rfl⟩
  · rw [hf]
    ((conv => whnf); (repeat ((first | (refine VL.cons ?_) | (refine VL.nil ?_)); (conv => whnf))))
    ((repeat ((first | (refine VL.cons ?_) | (refine VL.nil ?_) | (refine VC.seqS rfl ?_) | (refine VC.region ?_) | (refine VC.cond ?_) | (refine VC.ret ?_) | (refine VBool.t ?_) | (refine VC.seq ?_)); (conv => whnf))))
    exact ⟨_, rfl, rfl, Below.refl _ _⟩
  · rw [hf]
    have hTl : T.length = T0.length + (T1.length + 1) := by rw [hT]; simp
    have hlen := len_used (T := T) (p := (s, f)) (tfind_mem hf)
    have hsu := hw.sure (s, f) (tfind_mem hf)
    obtain ⟨g, As, cs, Ap, cp, rfl, hgl, c0, c1, c2, hls, hlp, hcs, hcp⟩ := rCell h.fr hT
    simp only at hlen hsu c1 c2 hls hlp hcs hcp
    have hS : Below W.heap.size W (W.drewN 1) := below_drewN (Below.refl _ _) 1
    have kB : ∀ X, Below W.heap.size W X → Blk X r 47 #[.slice (some ⟨g, 0, none⟩) T.length c, .int .i64 K.room, .int .i64 K.calls, .bool K.armed, .int .i64 K.kind, .int .i64 K.after, .bool K.off] := fun X hX => hb.below hX hb.lt
    have kc : ∀ {j : Nat} {v : Value}, W.cell? (((⟨g, 0, none⟩ : Addr).add (T0.length * 3)).add j) = some v → ∀ X, Below W.heap.size W X → X.cell? (((⟨g, 0, none⟩ : Addr).add (T0.length * 3)).add j) = some v := fun h X hX => by rw [hX.cell (by rw [add_blk, add_blk]; exact hgl)]; exact h
    ((conv => whnf); (repeat ((first | (refine VL.cons ?_) | (refine VL.nil ?_)); (conv => whnf))))
    ((repeat ((first | (refine VL.cons ?_) | (refine VL.nil ?_) | (refine VC.seqS rfl ?_) | (refine VC.region ?_) | (refine VC.draw ?_) | (refine VC.cond ?_) | (refine VC.skip ?_) | (refine VBool.f ?_) | (refine VC.seq ?_)); (conv => whnf))))
    refine VDraw.seg (fun X => Below W.heap.size W X) [([0, 1, 2, 3, 4, 5, 6, 7, 9, 10, 11, 12, 13, 14, 15, 16], 8), ([], 17)] [18, 19] (by kernel_rfl) (by kernel_rfl) hS ?_
    (conv => whnf)
    (repeat ((first | (refine VRead.loadBS kB rfl rfl ?_) | (refine VRead.atK (by omega) ?_) | (refine VRead.load (kc c1) ?_) | (refine VRead.load (kc c2) ?_) | (refine VQ.cons ?_) | (refine VQ.nil ?_) | (refine VG.cons ?_) | (refine VRead.fld ?_)); (conv => whnf)))
    refine VSem.appO (Own.nil (W.drewN 1) W.heap.size) (hls.below hS (Nat.le_refl _)).1 (by omega) (Nat.le_refl _) ?_
    intro A' k' W1 hO1 _ hB1
    rw [Nat.zero_add, List.nil_append] at hO1
    rw [Nat.zero_add]
    have hS1 := hS.trans hB1
    (conv => whnf)
    refine Keep.mk hS1 ?_
    (conv => whnf)
    (repeat ((first | (refine VQ.nil ?_) | (refine VG.cons ?_)); (conv => whnf)))
    refine VSem.appO hO1 (hlp.below hS1 (Nat.le_refl _)).1 (by omega) hS1.size ?_
    intro A2 k2 W2 hO2 _ hB2
    rw [List.take_append_drop] at hO2
    have e : f.sure + (f.b.length - f.sure) = f.b.length := by omega
    rw [e] at hO2 ⊢
    have hS2 := hS1.trans hB2
    (conv => whnf)
    refine Keep.mk hS2 ?_
    (conv => whnf)
    ((repeat ((first | (refine VC.ret ?_) | (refine VQ.cons ?_) | (refine VQ.nil ?_) | (refine VG.nil ?_)); (conv => whnf))))
    exact ⟨_, rfl, ⟨A2, k2, rfl, hO2⟩, hS2⟩
end
end Go.Proofs.YtebeidnmplnlpaaGreat
end

section
set_option maxRecDepth 10000
namespace Go.Proofs.YtebeidnmplnlpaaGreat
set_option linter.unusedVariables false
open Go.RowKit

/-! ### rules -/
def cutK (A : Option Addr) (c z k : Nat) : Option Addr := if c = z then A else A.map (·.add (z * k))
theorem VRead.cutKL {P : Program} {S : World → Prop} {t e k : Nat} {A : Option Addr} {n c : Nat} {Z : Int} {kk : IntKind} {K : Value → Prop} [i : TSlice P t e k] (z : Nat) (hz : Z = (z : Int)) (h : z ≤ n) (hk : K (.slice (cutK A c z k) (n - z) (c - z))) :
    VRead P S (Instr.sliceAt t (.slice A n c) (some (.int kk Z)) none none) K := by
  subst hz
  exact .ofW (fun W => by
    rw [run_sliceAt_slice W t _ _ _ _ (elem_of i.u), run_slice_l W t A n c (elem_of i.u) kk _ (by omega) (by omega), show P.elem t = e from by unfold Program.elem; rw [i.u], run_size i.s]
    simp [sliced, cutK]) hk
theorem VRead.cutKH {P : Program} {S : World → Prop} {t e k : Nat} {A : Option Addr} {n c : Nat} {Z : Int} {kk : IntKind} {K : Value → Prop} [i : TSlice P t e k] (z : Nat) (hz : Z = (z : Int)) (h : z ≤ c) (hk : K (.slice A z c)) :
    VRead P S (Instr.sliceAt t (.slice A n c) none (some (.int kk Z)) none) K := by
  subst hz
  exact .ofW (fun W => by
    rw [run_sliceAt_slice W t _ _ _ _ (elem_of i.u), run_slice_h W t A n c (elem_of i.u) kk _ (by omega) (by omega), show P.elem t = e from by unfold Program.elem; rw [i.u], run_size i.s]
    have h0 : A.map (fun x : Addr => x.add 0) = A := by cases A <;> simp [Addr.add]
    simp [sliced, h0]) hk
theorem Reads.takeK {w : World} {B k n z : Nat} {A : Option Addr} {xs : List Value} (h : Reads w B k A n xs) (hz : z ≤ n) : Reads w B k A z (xs.take (z * k)) := by
  refine ⟨by rw [List.length_take, h.1]; exact Nat.min_eq_left (Nat.mul_le_mul_right _ hz), fun h0 => ?_⟩
  obtain ⟨ad, e, hb, hc⟩ := h.2 (by omega)
  refine ⟨ad, e, hb, fun j u hu => hc j u ?_⟩
  rw [List.getElem?_take] at hu
  split at hu
  · exact hu
  · cases hu
theorem bytes_lt : ∀ (x y : List UInt8), Op.bytesLess x y = decide (x < y)
  | [], [] => by simp [Op.bytesLess]
  | _ :: _, [] => by simp [Op.bytesLess]
  | [], _ :: _ => by simp [Op.bytesLess]
  | a :: x, b :: y => by
    rw [Op.bytesLess, bytes_lt x y]
    simp only [List.cons_lt_cons_iff]
    by_cases h1 : a < b <;> by_cases h2 : a = b <;> by_cases h3 : x < y <;> simp [h1, h2, h3]
theorem VRead.sLt {P : Program} {S : World → Prop} {t : TypeId} {x y : Operand} {a b : List UInt8} {K : Value → Prop} (hk : K (.bool (decide (a < b)))) :
    VRead P S (do eqGuard .lss t x y (encStr a) (encStr b); binOp .lss t (encStr a) (encStr b)) K := by
  refine VRead.ofW (fun W => ?_) hk
  rw [eqGuard_lss, show encStr a = .string (txt a) from rfl, show encStr b = .string (txt b) from rfl, binOp_string_lss, bytes_lt, Lib.toList_data, Lib.toList_data]
  rfl
/-- a cell of a row is stored -/
theorem VUnit.storeRw {P : Program} {w : World} {t : TypeId} {p : Addr} {g j B e k n c : Nat} {xs : List Value} {v : Value} {Q : World → Prop} [i : TCell P t] (hO : w.ownsRow B e k (.slice (some ⟨g, 0, none⟩) n c) n xs) (hp : p = ⟨g, j, none⟩) (hj : j < n * k) (hv : v.oneCell' = true)
    (h : ∀ w', w'.ownsRow B e k (.slice (some ⟨g, 0, none⟩) n c) n (xs.set j v) → w.grownBy w' (some g) → Q w') : VUnit P (Instr.storeAt t (.pointer (some p)) v) w Q := by
  subst hp
  have hl := hO.1
  have h1 := hO.cellAt j hj
  rw [List.getElem?_eq_getElem (by omega)] at h1
  obtain ⟨h2, h3⟩ := hO.stored j v
  exact VUnit.store h1 (hO.frozenAt j) hv (h _ h2 h3)
/-! ### the row turns -/
section
variable {W W' : World} {U : Foot} {r n c c' : Nat} {A A' : Option Addr} {xs xs' : List Value} {K K' : Dk} {T T' : PT}
theorem FEl.own {p : List UInt8 × Fl} {a b d : Value} {cs : Array Value} (h : FEl W U p a b d) (hb : Blk W r 47 cs) (hg : W.grownBy W' (some r)) : FEl W' U p a b d := h.stay (fun A m l hl => hl.blk hb hg (by decide))
theorem FRow.own (h : FRow W U A n c xs T) {cs : Array Value} (hb : Blk W r 47 cs) (hg : W.grownBy W' (some r)) : FRow W' U A n c xs T := by
  refine ⟨ownsRow_stay h.row (fun g hg' => ?_), h.foot, h.els.stay (fun A m l hl => hl.blk hb hg (by decide))⟩
  refine hg.block g (World.ownsRow.lt h.row g hg').2 (fun e => ?_)
  injection e with e
  subst e
  obtain ⟨_, cs, hc⟩ := row_cells h.row _ hg'
  have hb' := hb
  unfold Blk at hb'
  rw [hc] at hb'
  injection hb' with hb'
  injection hb' with _ h2 _
  exact absurd h2 (by decide)
/-- the disk's own cells turn, its row as well -/
theorem RefAt.turn (h : RefAt W U r A c xs K T) (hF : FRow W U A' T'.length c' xs' T') (hb : Blk W' r 47 (rC K' A' T'.length c')) (hg : W.grownBy W' (some r)) : RefAt W' U r A' c' xs' K' T' :=
  ⟨h.hr, hb, hF.own h.blk hg⟩
theorem F_info : (Tryz.prog.info? 67).map (fun i => (i.zero, i.size, i.bytes)) = some (some (.agg #[.string ByteArray.empty, .slice none 0 0, .slice none 0 0]), 3, 64) := by kernel_rfl
/-- files more -/
theorem VSem.appF {w : World} {ty : TypeId} {C m c B : Nat} {xs' : List Value} {T' : PT} {Q : Value → World → Prop} (h : FRow w U A n c xs T) (hn : T.length = n) (hU : Up U w) (hr : Reads w C 3 A' m xs') (he : FEls w U T' xs') (hm : T'.length = m) (hfew : n + m ≤ 100000)
    (hB : B ≤ w.heap.size) (hown : ∀ g, (Value.slice A n c).ownBlock = some g → B ≤ g) (hk : ∀ A2 c2 w', FRow w' U A2 (n + m) c2 (xs ++ xs') (T ++ T') → Below B w w' → (∀ g, (Value.slice A2 (n + m) c2).ownBlock = some g → B ≤ g) → Q (.slice A2 (n + m) c2) w') :
    VSem Tryz.prog (Builtin.append_ #[45, 45] ty [.slice A n c, .slice A' m c'].toArray) w Q := by
  obtain ⟨i0, hi0, hz0, hz1, hz2⟩ := info_parts F_info
  refine VSem.appR Tryz.underlying45 hi0 hz0 hz1 hz2 rfl (by decide) h.row hr he.one (by simp only [maxLen]; omega) (by omega) (Nat.zero_le _) fun A2 c2 w' k1 k2 k3 => ?_
  have hl : ∀ (A : Option Addr) (m : Nat) (l : List UInt8), Lies w U A m l → Lies w' U A m l := fun A m l hl => hl.row h.row k2 (by decide)
  refine hk A2 c2 w' ⟨k1, fun g hg => ?_, (h.els.stay hl).append (he.stay hl)⟩ ((Below.refl _ _).grown k2 hB hown) (fun g hg => ?_)
  · rcases k3 with e | e
    · rw [e] at hg; exact h.foot g hg
    · rw [e] at hg; injection hg with hg; subst hg; exact hU _ (Nat.le_refl _)
  · rcases k3 with e | e
    · rw [e] at hg; exact hown g hg
    · rw [e] at hg; injection hg with hg; subst hg; exact hB
theorem FRow.cap (h : FRow W U A n c xs T) : n ≤ c := by
  rcases h.row.2 with ⟨e, h0⟩ | ⟨g, cap, cur, e, _, _, h1, _⟩
  · omega
  · injection e with e1 e2 e3
    omega
theorem FRow.nil (W : World) (U : Foot) : FRow W U none 0 0 [] [] := ⟨World.ownsRow_nil _ _ _ _, fun g h => by simp [Value.ownBlock] at h, by simp [FEls]⟩
end
/-! ### the plain insertion -/
theorem tset_mid {A B : PT} {s : List UInt8} {f : Fl} (hA : ∀ p ∈ A, p.1 < s) (hB : ∀ p ∈ B, s < p.1) : tset (A ++ B) s f = A ++ (s, f) :: B := by
  induction A with
  | nil =>
    cases B with
    | nil => rfl
    | cons q B =>
      obtain ⟨j, y⟩ := q
      simp only [List.nil_append, tset]
      rw [if_pos (hB (j, y) (by simp))]
  | cons q A ih =>
    obtain ⟨j, y⟩ := q
    have h1 : j < s := hA (j, y) (by simp)
    simp only [List.cons_append, tset]
    rw [if_neg (fun h => TO.irr _ (TO.tr _ _ _ h1 h)), if_neg (fun h => by subst h; exact TO.irr _ h1), ih (fun p hp => hA p (by simp [hp]))]
theorem tset_del {T : PT} {s : List UInt8} {f : Fl} (hR : Rising T) : tset (tdel T s) s f = tset T s f := by
  cases hf : tfind T s with
  | none => rw [tdel_not (tfind_none hf)]
  | some y =>
    obtain ⟨A, B, rfl⟩ := tfind_some hf
    rw [tdel_eq hR.nd, tset_old hR]
    unfold Rising at hR
    rw [List.map_append, List.pairwise_append] at hR
    obtain ⟨h1, h2, h3⟩ := hR
    rw [List.map_cons, List.pairwise_cons] at h2
    exact tset_mid (fun p hp => h3 _ (List.mem_map_of_mem hp) _ (by simp)) (fun p hp => h2.1 _ (List.mem_map_of_mem hp))
theorem rising_last {A B : PT} {q : List UInt8 × Fl} {s : List UInt8} (hR : Rising (A ++ q :: B)) (hs : s ∉ (A ++ q :: B).map (·.1)) (hq : ¬ s < q.1) : ∀ p ∈ A ++ [q], p.1 < s := by
  have h1 : q.1 < s := by
    rcases TO.tri q.1 s with h | h | h
    · exact h
    · exact absurd (by rw [← h]; simp) hs
    · exact absurd h hq
  intro p hp
  rcases List.mem_append.1 hp with hp | hp
  · unfold Rising at hR
    rw [List.map_append, List.pairwise_append] at hR
    exact TO.tr _ _ _ (hR.2.2 _ (List.mem_map_of_mem hp) q.1 (by simp)) h1
  · simp at hp; subst hp; exact h1
end Go.Proofs.YtebeidnmplnlpaaGreat
end

section
set_option maxRecDepth 10000
namespace Go.Proofs.YtebeidnmplnlpaaGreat
set_option linter.unusedVariables false
open Go.RowKit

/-! ### plain -/
structure En where
  term : Int
  cmd : Bool
  data : List UInt8
deriving DecidableEq
def mayE (e : En) : Prop := 1 ≤ e.term ∧ e.term ≤ 1099511627776 ∧ e.data.length ≤ 1048476
instance (e : En) : Decidable (mayE e) := by unfold mayE; infer_instance
structure Kp where
  term : Int
  vote : Int
  base : Int
  bterm : Int
  es : List En
def Kp.zero : Kp := ⟨0, 0, 0, 0, []⟩
def inR (v most : Int) : Prop := 0 ≤ v ∧ v ≤ most
instance (v most : Int) : Decidable (inR v most) := by unfold inR; infer_instance
def mayK (k : Kp) : Prop := (∀ e ∈ k.es, mayE e) ∧ inR k.base 1099511627776 ∧ inR k.bterm 1099511627776 ∧ inR k.term 1099511627776 ∧ inR k.vote 7
instance (k : Kp) : Decidable (mayK k) := by unfold mayK; infer_instance
def tk0 (k : Kp) (r : List UInt8) : Option Kp :=
  if Wire.endS (Wire.intS (Wire.intS (some r)).2).2 = true ∧ inR (Wire.intS (some r)).1 1099511627776 ∧ inR (Wire.intS (Wire.intS (some r)).2).1 1099511627776 then
    some { k with base := (Wire.intS (some r)).1, bterm := (Wire.intS (Wire.intS (some r)).2).1 } else none
def tk1 (k : Kp) (r : List UInt8) : Option Kp :=
  if Wire.endS (Wire.intS (Wire.intS (some r)).2).2 = true ∧ inR (Wire.intS (some r)).1 1099511627776 ∧ inR (Wire.intS (Wire.intS (some r)).2).1 7 then
    some { k with term := (Wire.intS (some r)).1, vote := (Wire.intS (Wire.intS (some r)).2).1 } else none
def eI (r : List UInt8) : Int × Option (List UInt8) := Wire.intS (some r)
def eT (r : List UInt8) : Int × Option (List UInt8) := Wire.intS (eI r).2
def eC (r : List UInt8) : Bool × Option (List UInt8) := Wire.boolS (eT r).2
def eD (r : List UInt8) : List UInt8 × Option (List UInt8) := Wire.textS 1048476 (eC r).2
def eE (r : List UInt8) : En := ⟨(eT r).1, (eC r).1, (eD r).1⟩
def tk2 (k : Kp) (r : List UInt8) : Option Kp :=
  if Wire.endS (eD r).2 = true ∧ mayE (eE r) ∧ k.base < (eI r).1 ∧ (eI r).1 ≤ k.base + k.es.length + 1 then
    some { k with es := k.es.take ((eI r).1 - k.base - 1).toNat ++ [eE r] } else none
def takes (k : Kp) (b : List UInt8) (start : Bool) : Option Kp := match b with
  | [] => none
  | x :: r => if decide (x.toNat = 0) = start then (if x.toNat = 0 then tk0 k r else if x.toNat = 1 then tk1 k r else if x.toNat = 2 then tk2 k r else none) else none
def takesA (st : Bool) (k : Kp) : List (List UInt8) → Option Kp
  | [] => some k
  | b :: r => match takes k b st with
    | some k' => takesA false k' r
    | none => none
def readW (l : List UInt8) : Option Kp := if Frame.bodies l = [] then none else takesA true Kp.zero (Frame.bodies l)
theorem takesA_snoc {b : List UInt8} : ∀ {cs : List (List UInt8)} {st : Bool} {k : Kp}, takesA st k (cs ++ [b]) = match takesA st k cs with | some k' => takes k' b (st && cs.isEmpty) | none => none
  | [], st, k => by
    show (match takes k b st with | some k' => takesA false k' [] | none => none) = takes k b (st && true)
    rw [Bool.and_true]
    cases takes k b st <;> rfl
  | c :: cs, st, k => by
    show (match takes k c st with | some k' => takesA false k' (cs ++ [b]) | none => none) = match (match takes k c st with | some k' => takesA false k' cs | none => none) with | some k' => takes k' b (st && false) | none => none
    cases takes k c st with
    | none => rfl
    | some k' =>
      simp only
      rw [takesA_snoc, Bool.false_and, Bool.and_false]
theorem takesA_app {ds : List (List UInt8)} : ∀ {cs : List (List UInt8)} {st : Bool} {k : Kp}, takesA st k (cs ++ ds) = match takesA st k cs with | some k' => takesA (st && cs.isEmpty) k' ds | none => none
  | [], st, k => by simp [takesA]
  | c :: cs, st, k => by
    show (match takes k c st with | some k' => takesA false k' (cs ++ ds) | none => none) = match (match takes k c st with | some k' => takesA false k' cs | none => none) with | some k' => takesA (st && false) k' ds | none => none
    cases takes k c st with
    | none => rfl
    | some k' =>
      simp only
      rw [takesA_app, Bool.false_and, Bool.and_false]
theorem takesA_none {st : Bool} {k : Kp} {cs : List (List UInt8)} {m : Nat} (h : takesA st k (cs.take m) = none) : takesA st k cs = none := by
  have e : cs = cs.take m ++ cs.drop m := (List.take_append_drop m cs).symm
  rw [e, takesA_app, h]
theorem takes_in {k k' : Kp} {b : List UInt8} {st : Bool} (h : takes k b st = some k') (hb : inR k.base 1099511627776) : inR k'.base 1099511627776 ∧ k'.es.length ≤ k.es.length + 1 := by
  unfold takes at h
  split at h
  · cases h
  · rename_i x r
    split at h
    · split at h
      · unfold tk0 at h
        split at h
        · rename_i hc; injection h with h; subst h; exact ⟨hc.2.1, by simp⟩
        · cases h
      · split at h
        · unfold tk1 at h
          split at h
          · rename_i hc; injection h with h; subst h; exact ⟨hb, by simp⟩
          · cases h
        · split at h
          · unfold tk2 at h
            split at h
            · rename_i hc; injection h with h; subst h; exact ⟨hb, by simp only [List.length_append, List.length_take, List.length_cons, List.length_nil]; omega⟩
            · cases h
          · cases h
    · cases h
def isWhole (l : List UInt8) : Bool := decide (Frame.rest l = [])

/-! ### entries in memory -/
abbrev NotU (U : Foot) : Foot := fun j => ¬ U j
def EnAt (W : World) (V : Foot) (A : Option Addr) (n : Nat) (es : List En) : Prop :=
  es.length = n ∧ (0 < n → ∃ x, A = some x ∧ x.block < W.heap.size ∧ V x.block ∧ ∀ i e, es[i]? = some e → ∃ A' m k, W.cell? (x.add (3 * i)) = some (.int .i64 e.term) ∧ W.cell? (x.add (3 * i + 1)) = some (.bool e.cmd) ∧ W.cell? (x.add (3 * i + 2)) = some (.slice A' m k) ∧ m ≤ k ∧ Lies W V A' m e.data)
def ERow (W : World) (V : Foot) (B : Nat) (v : Value) (es : List En) : Prop := ∃ xs : List Value, W.ownsRow B 56 3 v es.length xs ∧ (∀ g, v.ownBlock = some g → V g) ∧
  ∀ i e, es[i]? = some e → ∃ A m c, xs[3 * i]? = some (.int .i64 e.term) ∧ xs[3 * i + 1]? = some (.bool e.cmd) ∧ xs[3 * i + 2]? = some (.slice A m c) ∧ m ≤ c ∧ Lies W V A m e.data
theorem adb (x : Addr) (j : Nat) : (x.add j).block = x.block := by unfold Addr.add; split <;> rfl
section
variable {W W' : World} {V V' U U' : Foot} {B B' n c : Nat} {A : Option Addr} {v : Value} {es : List En}
theorem EnAt.nil (W : World) (V : Foot) (A : Option Addr) : EnAt W V A 0 [] := ⟨rfl, fun h => absurd h (Nat.lt_irrefl 0)⟩
theorem EnAt.stay (h : EnAt W V A n es) (hs : W.heap.size ≤ W'.heap.size) (hk : ∀ j, j < W.heap.size → V j → W'.heap[j]? = W.heap[j]?) : EnAt W' V A n es :=
  ⟨h.1, fun hn => by
    obtain ⟨x, hA, hx, hv, h3⟩ := h.2 hn
    have key : ∀ j u, W.cell? (x.add j) = some u → W'.cell? (x.add j) = some u := fun j u hu => (World.cell?_of_block (by rw [adb]; exact hk _ hx hv)).trans hu
    exact ⟨x, hA, Nat.lt_of_lt_of_le hx hs, hv, fun i e he => by
      obtain ⟨A', m, k, e1, e2, e3, e4, e5⟩ := h3 i e he
      exact ⟨A', m, k, key _ _ e1, key _ _ e2, key _ _ e3, e4, e5.stay hs hk⟩⟩⟩
theorem EnAt.below (h : EnAt W V A n es) (hb : Below W.heap.size W W') : EnAt W' V A n es := h.stay hb.size (fun j hj _ => hb.block j hj)
theorem EnAt.more (h : EnAt W V A n es) (hV : ∀ j, j < W.heap.size → V j → V' j) : EnAt W V' A n es :=
  ⟨h.1, fun hn => by
    obtain ⟨x, hA, hx, hv, h3⟩ := h.2 hn
    exact ⟨x, hA, hx, hV _ hx hv, fun i e he => by
      obtain ⟨A', m, k, e1, e2, e3, e4, e5⟩ := h3 i e he
      exact ⟨A', m, k, e1, e2, e3, e4, e5.more hV⟩⟩⟩
theorem EnAt.step (h : EnAt W (NotU U) A n es) (hs : Step W U W' U') : EnAt W' (NotU U') A n es := by
  refine (h.more (V' := fun j => ¬ U j ∧ j < W.heap.size) (fun j h1 h2 => ⟨h2, h1⟩)).stay hs.size (fun j h1 h2 => hs.out.block j h1 h2.1) |>.more (fun j h1 h2 hu => ?_)
  rcases hs.sub j hu with h' | h'
  · exact h2.1 h'
  · have := h2.2; omega
theorem EnAt.take (h : EnAt W V A n es) {m : Nat} (hm : m ≤ n) : EnAt W V A m (es.take m) :=
  ⟨by rw [List.length_take, h.1]; omega, fun h0 => by
    obtain ⟨x, hA, hx, hv, h3⟩ := h.2 (by omega)
    exact ⟨x, hA, hx, hv, fun i e he => h3 i e (by
      rw [List.getElem?_take] at he
      split at he
      · exact he
      · cases he)⟩⟩
theorem EnAt.drop (h : EnAt W V A n es) {m : Nat} (hm : m ≤ n) (hc : n ≤ c) : EnAt W V (cutK A c m 3) (n - m) (es.drop m) :=
  ⟨by rw [List.length_drop, h.1], fun h0 => by
    obtain ⟨x, rfl, hx, hv, h3⟩ := h.2 (by omega)
    have hcm : ¬ c = m := by omega
    refine ⟨x.add (m * 3), by unfold cutK; rw [if_neg hcm]; rfl, by rw [adb]; exact hx, by rw [adb]; exact hv, fun i e he => ?_⟩
    rw [List.getElem?_drop] at he
    obtain ⟨A', k, l, e1, e2, e3, e4, e5⟩ := h3 _ e he
    refine ⟨A', k, l, ?_, ?_, ?_, e4, e5⟩
    all_goals rw [Deep.add_add]
    · rw [show m * 3 + 3 * i = 3 * (m + i) from by omega]; exact e1
    · rw [show m * 3 + (3 * i + 1) = 3 * (m + i) + 1 from by omega]; exact e2
    · rw [show m * 3 + (3 * i + 2) = 3 * (m + i) + 2 from by omega]; exact e3⟩
theorem EnAt.at_ {i : Nat} {e : En} (h : EnAt W V A n es) (he : es[i]? = some e) :
    ∃ x A' m k, A = some x ∧ W.cell? ((x.add (i * 3)).add 0) = some (.int .i64 e.term) ∧ W.cell? ((x.add (i * 3)).add 1) = some (.bool e.cmd) ∧ W.cell? ((x.add (i * 3)).add 2) = some (.slice A' m k) ∧ m ≤ k ∧ e.data.length = m ∧ Lies W V A' m e.data := by
  have hi := (List.getElem?_eq_some_iff.1 he).1
  have h1 := h.1
  obtain ⟨x, hA, hx, hv, h3⟩ := h.2 (by omega)
  obtain ⟨A', m, k, e1, e2, e3, e4, e5⟩ := h3 i e he
  refine ⟨x, A', m, k, hA, ?_, ?_, ?_, e4, e5.len, e5⟩
  all_goals rw [Deep.add_add, Nat.mul_comm i 3]
  · exact e1
  · exact e2
  · exact e3
theorem EnAt.xs (h : EnAt W V A n es) : ∃ xs, Reads W W.heap.size 3 A n xs ∧ (∀ u ∈ xs, u.oneCell' = true) ∧ ∀ i e, es[i]? = some e → ∃ A' m k, xs[3 * i]? = some (.int .i64 e.term) ∧ xs[3 * i + 1]? = some (.bool e.cmd) ∧ xs[3 * i + 2]? = some (.slice A' m k) ∧ m ≤ k ∧ Lies W V A' m e.data := by
  by_cases hn : 0 < n
  case neg =>
    obtain rfl : n = 0 := by omega
    obtain rfl := List.eq_nil_of_length_eq_zero h.1
    exact ⟨[], Reads.none_, by simp, fun i e he => by simp at he⟩
  obtain ⟨x, rfl, hx, hv, h3⟩ := h.2 hn
  have hcl : ∀ j, j < n * 3 → ∃ u, W.cell? (x.add j) = some u ∧ u.oneCell' = true := fun j hj => by
    obtain ⟨e, he⟩ : ∃ e, es[j / 3]? = some e := ⟨_, List.getElem?_eq_getElem (by have := h.1; omega)⟩
    obtain ⟨A', m, k, e1, e2, e3, e4, e5⟩ := h3 _ e he
    have hj3 : j = 3 * (j / 3) ∨ j = 3 * (j / 3) + 1 ∨ j = 3 * (j / 3) + 2 := by omega
    rcases hj3 with h' | h' | h'
    · exact ⟨_, by rw [h']; exact e1, rfl⟩
    · exact ⟨_, by rw [h']; exact e2, rfl⟩
    · exact ⟨_, by rw [h']; exact e3, rfl⟩
  refine ⟨(List.range (n * 3)).map fun j => (W.cell? (x.add j)).getD default, ⟨by simp, fun _ => ⟨x, rfl, hx, fun j u hu => ?_⟩⟩, fun u hu => ?_, fun i e he => ?_⟩
  · obtain ⟨j', hj', rfl⟩ := map_at hu
    obtain ⟨hjl, hje⟩ := List.getElem?_eq_some_iff.1 hj'
    rw [List.getElem_range] at hje
    subst hje
    obtain ⟨u, hu, _⟩ := hcl _ (by simpa using hjl)
    rw [hu]; rfl
  · obtain ⟨j, hj, rfl⟩ := List.mem_map.1 hu
    obtain ⟨u, hu, h1⟩ := hcl j (by simpa using hj)
    rw [hu]; exact h1
  · have hi := (List.getElem?_eq_some_iff.1 he).1
    have h1 := h.1
    obtain ⟨A', m, k, e1, e2, e3, e4, e5⟩ := h3 _ e he
    refine ⟨A', m, k, ?_, ?_, ?_, e4, e5⟩
    all_goals rw [List.getElem?_map, List.getElem?_range (by omega)]
    · rw [Option.map_some, e1]; rfl
    · rw [Option.map_some, e2]; rfl
    · rw [Option.map_some, e3]; rfl
theorem ERow.nil (W : World) (V : Foot) (B : Nat) : ERow W V B (.slice none 0 0) [] := ⟨[], World.ownsRow_nil W _ _ _, fun g hg => by simp [Value.ownBlock] at hg, fun i e he => by simp at he⟩
theorem ERow.form (h : ERow W V B v es) : ∃ A c, v = .slice A es.length c := by
  obtain ⟨xs, h1, _⟩ := h
  rcases h1.2 with ⟨rfl, e0⟩ | ⟨g, cap, cur, e1, _⟩
  · exact ⟨none, 0, by rw [e0]⟩
  · exact ⟨_, _, e1⟩
theorem ERow.at_ (h : ERow W V B (.slice A n c) es) : EnAt W V A n es ∧ n ≤ c ∧ es.length = n := by
  obtain ⟨A', c', e⟩ := h.form
  injection e with e1 e2 e3
  subst e1 e2 e3
  obtain ⟨xs, h1, h2, h3⟩ := h
  have hr := Reads.row h1
  refine ⟨⟨rfl, fun hn => ?_⟩, ?_, rfl⟩
  · obtain ⟨x, rfl, hx, hc⟩ := hr.2 hn
    refine ⟨x, rfl, hx, h2 _ rfl, fun i e he => ?_⟩
    obtain ⟨A', m, k, e1, e2, e3, e4, e5⟩ := h3 i e he
    exact ⟨A', m, k, hc _ _ e1, hc _ _ e2, hc _ _ e3, e4, e5⟩
  · rcases h1.2 with ⟨e, e0⟩ | ⟨g, cap, cur, e1, _, _, h4, _⟩
    · omega
    · injection e1 with _ _ e3
      omega
theorem ERow.stay (h : ERow W V B v es) (hs : W.heap.size ≤ W'.heap.size) (hk : ∀ j, j < W.heap.size → V j → W'.heap[j]? = W.heap[j]?) : ERow W' V B v es := by
  obtain ⟨xs, h1, h2, h3⟩ := h
  refine ⟨xs, ownsRow_stay h1 (fun g hg => hk g (World.ownsRow.lt h1 g hg).2 (h2 g hg)), h2, fun i e he => ?_⟩
  obtain ⟨A', m, k, e1, e2, e3, e4, e5⟩ := h3 i e he
  exact ⟨A', m, k, e1, e2, e3, e4, e5.stay hs hk⟩
theorem ERow.below (h : ERow W V B v es) (hb : Below W.heap.size W W') : ERow W' V B v es := h.stay hb.size (fun j hj _ => hb.block j hj)
theorem ERow.more (h : ERow W V B v es) (hB : B' ≤ B) (hV : ∀ j, j < W.heap.size → V j → V' j) : ERow W V' B' v es := by
  obtain ⟨xs, h1, h2, h3⟩ := h
  refine ⟨xs, rows_more h1 hB, fun g hg => hV g (World.ownsRow.lt h1 g hg).2 (h2 g hg), fun i e he => ?_⟩
  obtain ⟨A', m, k, e1, e2, e3, e4, e5⟩ := h3 i e he
  exact ⟨A', m, k, e1, e2, e3, e4, e5.more hV⟩
theorem ERow.step (h : ERow W (NotU U) B v es) (hs : Step W U W' U') : ERow W' (NotU U') B v es := by
  refine ((h.more (Nat.le_refl _) (V' := fun j => ¬ U j ∧ j < W.heap.size) (fun j h1 h2 => ⟨h2, h1⟩)).stay hs.size (fun j h1 h2 => hs.out.block j h1 h2.1)).more (Nat.le_refl _) (fun j h1 h2 hu => ?_)
  rcases hs.sub j hu with h' | h'
  · exact h2.1 h'
  · have := h2.2; omega
/-- a row cut shorter -/
theorem ERow.take (h : ERow W V B (.slice A n c) es) {m : Nat} (hm : m ≤ n) : ERow W V B (.slice A m c) (es.take m) := by
  have hlen := h.at_.2.2
  obtain ⟨xs, h1, h2, h3⟩ := h
  have hl : (es.take m).length = m := by rw [List.length_take]; omega
  refine ⟨xs.take (m * 3), ?_, fun g hg => h2 g (by
    cases A with
    | none => simp [Value.ownBlock] at hg
    | some x => simpa [Value.ownBlock] using hg), fun i e he => ?_⟩
  · rw [hl]
    rcases h1.2 with ⟨e, e0⟩ | ⟨g, cap, cur, e1, hg, hc, h4, h5, h6, h7⟩
    · injection e with a1 a2 a3
      subst a1 a2 a3
      obtain rfl : m = 0 := by omega
      simpa using World.ownsRow_nil W B _ 3
    · injection e1 with a1 a2 a3
      subst a1 a3
      refine ⟨by rw [List.length_take, h1.1]; omega, .inr ⟨g, _, cur, rfl, hg, hc, by omega, h5, h6, ?_⟩⟩
      rw [← h7, List.take_take]
      congr 1
      omega
  · rw [List.getElem?_take] at he
    split at he
    · rename_i hi
      obtain ⟨A', p, k, e1, e2, e3, e4, e5⟩ := h3 i e he
      refine ⟨A', p, k, ?_, ?_, ?_, e4, e5⟩
      all_goals rw [List.getElem?_take, if_pos (by omega)]
      · exact e1
      · exact e2
      · exact e3
    · cases he
theorem ERow.blk {g T : Nat} {cs : Array Value} (h : ERow W V B v es) (hb : Blk W g T cs) (hg : W.grownBy W' (some g)) (hT : 5 ≠ T) (hT2 : 56 ≠ T) : ERow W' V B v es := by
  obtain ⟨xs, h1, h2, h3⟩ := h
  refine ⟨xs, rows_apart h1 hg (fun q e hq => ?_), h2, fun i e he => ?_⟩
  · obtain rfl : g = q := by injection e
    rcases h1.2 with ⟨rfl, _⟩ | ⟨g', cap, cur, rfl, _, hc, _⟩
    · simp [Value.ownBlock] at hq
    · have : g' = g := by simpa [Value.ownBlock] using hq
      subst this
      unfold Blk at hb
      rw [hc] at hb
      injection hb with hb
      injection hb with _ h2 _
      exact hT2 h2
  · obtain ⟨A', m, k, e1, e2, e3, e4, e5⟩ := h3 i e he
    exact ⟨A', m, k, e1, e2, e3, e4, e5.blk hb hg hT⟩
end
theorem en_info : (Tryz.prog.info? 56).map (fun i => (i.zero, i.size, i.bytes)) = some (some (.agg #[.int .i64 0, .bool false, .slice none 0 0]), 3, 40) := by kernel_rfl
/-- entries behind entries -/
theorem ERow.app {W : World} {V : Foot} {B n c m k ty : Nat} {A A' : Option Addr} {es fs : List En} {K : Value → World → Prop} (h : ERow W V B (.slice A n c) es) (h2 : EnAt W V A' m fs) (hk : n + m ≤ 100000000) (hB : B ≤ W.heap.size) (hV : ∀ j, W.heap.size ≤ j → V j)
    (hK : ∀ A2 c2 W', ERow W' V B (.slice A2 (n + m) c2) (es ++ fs) → W.grownBy W' (Value.slice A n c).ownBlock → K (.slice A2 (n + m) c2) W') :
    VSem Tryz.prog (Builtin.append_ #[48, 48] ty [.slice A n c, .slice A' m k].toArray) W K := by
  have hlen := h.at_.2.2
  have hm2 := h2.1
  obtain ⟨xs, hrow, hV1, hels⟩ := h
  obtain ⟨ys, hr, h1, hys⟩ := h2.xs
  obtain ⟨i0, hi0, hz0, hz1, hz2⟩ := info_parts en_info
  rw [hlen] at hrow
  refine VSem.appR (base := B) Tryz.underlying48 hi0 hz0 hz1 hz2 rfl (by decide) hrow hr h1 (by simp only [maxLen]; omega) (by omega) hB ?_
  intro A6 c6 W6 hrow6 hg6 hblk
  have hxl := hrow.1
  refine hK A6 c6 W6 ⟨_, by rw [List.length_append, hlen, hm2]; exact hrow6, fun g hg => ?_, fun i e' he' => ?_⟩ hg6
  · rcases hblk with h' | h'
    · rw [h'] at hg; exact hV1 g hg
    · rw [h'] at hg; injection hg with hg; subst hg; exact hV _ (Nat.le_refl _)
  · rcases Nat.lt_or_ge i n with h | h
    · rw [List.getElem?_append_left (by omega)] at he'
      obtain ⟨A', m', c', e1, e2, e3, e5, e4⟩ := hels i e' he'
      refine ⟨A', m', c', ?_, ?_, ?_, e5, e4.row hrow hg6 (by decide)⟩
      · rw [List.getElem?_append_left (by omega)]; exact e1
      · rw [List.getElem?_append_left (by omega)]; exact e2
      · rw [List.getElem?_append_left (by omega)]; exact e3
    · rw [List.getElem?_append_right (by omega)] at he'
      obtain ⟨A', m', c', e1, e2, e3, e5, e4⟩ := hys _ e' he'
      refine ⟨A', m', c', ?_, ?_, ?_, e5, e4.row hrow hg6 (by decide)⟩
      · rw [List.getElem?_append_right (by omega), show 3 * i - xs.length = 3 * (i - es.length) by omega]; exact e1
      · rw [List.getElem?_append_right (by omega), show 3 * i + 1 - xs.length = 3 * (i - es.length) + 1 by omega]; exact e2
      · rw [List.getElem?_append_right (by omega), show 3 * i + 2 - xs.length = 3 * (i - es.length) + 2 by omega]; exact e3
/-- one entry in a block -/
theorem EnAt.one {W : World} {V : Foot} {g m c : Nat} {A : Option Addr} {e : En} (hb : Blk W g 56 #[.int .i64 e.term, .bool e.cmd, .slice A m c]) (hV : V g) (hmc : m ≤ c) (hL : Lies W V A m e.data) : EnAt W V (some ⟨g, 0, none⟩) 1 [e] := by
  refine ⟨rfl, fun _ => ⟨_, rfl, hb.lt, hV, fun i e' he => ?_⟩⟩
  have hi : i = 0 := by have := (List.getElem?_eq_some_iff.1 he).1; simpa using this
  subst hi
  obtain rfl : e = e' := by simpa using he
  refine ⟨A, m, c, ?_, ?_, ?_, hmc, hL⟩
  all_goals rw [add_lit, hb.cell]; rfl
end Go.Proofs.YtebeidnmplnlpaaGreat
end

section
set_option maxRecDepth 10000
namespace Go.Proofs.YtebeidnmplnlpaaGreat
set_option linter.unusedVariables false
open Go.RowKit

/-! ### names -/
def wPre : List UInt8 := [119, 97, 108, 45]
def wTmp : List UInt8 := [119, 97, 108, 45, 116, 109, 112]
def wName (i : Int) : List UInt8 := if i < 1 ∨ 99999999 < i then [] else nameN wPre 8 i.toNat
def wNum (s : List UInt8) : Option Nat := match numN wPre 8 s with | some n => if 1 ≤ n then some n else none | none => none
theorem wName_of {n : Nat} (h1 : 1 ≤ n) (h2 : n ≤ 99999999) : wName (n : Int) = nameN wPre 8 n := by unfold wName; rw [if_neg (by omega), Int.toNat_natCast]
theorem wName_len {n : Nat} (h1 : 1 ≤ n) (h2 : n ≤ 99999999) : (wName (n : Int)).length = 12 := by rw [wName_of h1 h2, nameN_len]; rfl
theorem wNum_name {n : Nat} (h1 : 1 ≤ n) (h2 : n ≤ 99999999) : wNum (wName (n : Int)) = some n := by
  have : (10 : Nat) ^ 8 = 100000000 := by decide
  unfold wNum
  rw [wName_of h1 h2, numN_name (by omega)]
  simp only
  rw [if_pos h1]
theorem wNum_some {s : List UInt8} {n : Nat} (h : wNum s = some n) : s = wName (n : Int) ∧ 1 ≤ n ∧ n ≤ 99999999 := by
  unfold wNum at h
  cases hN : numN wPre 8 s with
  | none => rw [hN] at h; cases h
  | some m =>
    have h3 := numN_some hN
    have : (10 : Nat) ^ 8 = 100000000 := by decide
    rw [hN] at h
    simp only at h
    split at h
    · rename_i hc
      injection h with h
      subst h
      exact ⟨by rw [wName_of hc (by omega)]; exact h3.1, hc, by omega⟩
    · cases h
theorem wName_le (i : Int) : (wName i).length ≤ 12 := by
  unfold wName
  split
  · simp
  · rw [nameN_len]; decide
theorem walName_any (i : Int) (w : World) (hi : -9223372036854775808 ≤ i ∧ i ≤ 9223372036854775807) :
    Calls Tryz.prog 21 #[.int .i64 i] w fun e w' => e = .returned (.string (txt (wName i))) ∧ Below w.heap.size w w' := by
  refine calls_vc Tryz.func21 rfl (by kernel_rfl) ?_
  by_cases h1 : i < 1
  · have e : wName i = [] := by unfold wName; rw [if_pos (.inl h1)]
    rw [e]
    ((conv => whnf); (repeat ((first | (refine VL.cons ?_) | (refine VL.nil ?_) | (refine VC.seqS rfl ?_) | (refine VC.region ?_)); (conv => whnf))))
    ((repeat ((first | (refine VL.cons ?_) | (refine VL.nil ?_) | (refine VC.seqS rfl ?_) | (refine VC.region ?_) | (refine VC.cond ?_) | (refine VC.ret ?_) | (refine VBool.t ?_) | (refine VBool.dT (by omega) ?_) | (refine VC.seq ?_)); (conv => whnf))))
    exact ⟨rfl, Below.refl _ _⟩
  by_cases h2 : 99999999 < i
  · have e : wName i = [] := by unfold wName; rw [if_pos (.inr h2)]
    rw [e]
    ((conv => whnf); (repeat ((first | (refine VL.cons ?_) | (refine VL.nil ?_) | (refine VC.seqS rfl ?_) | (refine VC.region ?_)); (conv => whnf))))
    ((repeat ((first | (refine VL.cons ?_) | (refine VL.nil ?_) | (refine VC.seqS rfl ?_) | (refine VC.region ?_) | (refine VC.cond ?_) | (refine VC.ret ?_) | (refine VBool.f ?_) | (refine VBool.dT (by omega) ?_) | (refine VBool.dF (by omega) ?_) | (refine VC.seq ?_)); (conv => whnf))))
    exact ⟨rfl, Below.refl _ _⟩
  obtain ⟨n, rfl⟩ : ∃ n : Nat, i = (n : Int) := ⟨i.toNat, by omega⟩
  rw [wName_of (by omega) (by omega)]
  ((conv => whnf); (repeat ((first | (refine VL.cons ?_) | (refine VL.nil ?_) | (refine VC.seqS rfl ?_) | (refine VC.region ?_)); (conv => whnf))))
  ((repeat ((first | (refine VL.cons ?_) | (refine VL.nil ?_) | (refine VC.seqS rfl ?_) | (refine VC.region ?_) | (refine VC.cond ?_) | (refine VC.skip ?_) | (refine VBool.f ?_) | (refine VBool.dF (by omega) ?_) | (refine VC.seq ?_)); (conv => whnf))))
  refine VCall.of (plainName_any wPre n 8 w (by decide) (by omega) (by decide)) ?_
  rintro e w1 ⟨rfl, hB⟩
  refine ⟨_, rfl, ?_⟩
  ((conv => whnf); (repeat ((first | (refine VL.cons ?_) | (refine VL.nil ?_) | (refine VC.ret ?_)); (conv => whnf))))
  ((repeat ((fail); (conv => whnf))))
  exact ⟨rfl, hB⟩
theorem walNumber_any (s : List UInt8) (w : World) (hs : s.length ≤ 9223372036854775807) :
    Calls Tryz.prog 41 #[.string (txt s)] w fun e w' => e = .returned (numV (wNum s)) ∧ Below w.heap.size w w' := by
  refine calls_vc Tryz.func41 rfl (by kernel_rfl) ?_
  ((conv => whnf); (repeat ((first | (refine VL.cons ?_) | (refine VL.nil ?_) | (refine VC.seqS rfl ?_) | (refine VC.region ?_)); (conv => whnf))))
  ((repeat ((fail); (conv => whnf))))
  refine VCall.of (plainNumber_any wPre s 8 w (by decide) hs (by decide)) ?_
  rintro e w1 ⟨rfl, hB⟩
  refine ⟨_, rfl, ?_⟩
  cases hN : numN wPre 8 s with
  | none =>
    have e0 : wNum s = none := by unfold wNum; rw [hN]
    ((conv => whnf); (repeat ((first | (refine VL.cons ?_) | (refine VL.nil ?_)); (conv => whnf))))
    ((repeat ((first | (refine VL.cons ?_) | (refine VL.nil ?_) | (refine VC.seqS rfl ?_) | (refine VC.region ?_) | (refine VC.cond ?_) | (refine VC.ret ?_) | (refine VBool.t ?_) | (refine VC.seq ?_)); (conv => whnf))))
    exact ⟨by rw [e0]; rfl, hB⟩
  | some n =>
    by_cases hc : 1 ≤ n
    · have e0 : wNum s = some n := by unfold wNum; rw [hN]; simp only; rw [if_pos hc]
      ((conv => whnf); (repeat ((first | (refine VL.cons ?_) | (refine VL.nil ?_)); (conv => whnf))))
      ((repeat ((first | (refine VL.cons ?_) | (refine VL.nil ?_) | (refine VC.seqS rfl ?_) | (refine VC.region ?_) | (refine VC.cond ?_) | (refine VC.ret ?_) | (refine VC.skip ?_) | (refine VBool.f ?_) | (refine VBool.dF (by omega) ?_) | (refine VC.seq ?_)); (conv => whnf))))
      exact ⟨by rw [e0]; rfl, hB⟩
    · have e0 : wNum s = none := by unfold wNum; rw [hN]; simp only; rw [if_neg hc]
      ((conv => whnf); (repeat ((first | (refine VL.cons ?_) | (refine VL.nil ?_)); (conv => whnf))))
      ((repeat ((first | (refine VL.cons ?_) | (refine VL.nil ?_) | (refine VC.seqS rfl ?_) | (refine VC.region ?_) | (refine VC.cond ?_) | (refine VC.ret ?_) | (refine VBool.f ?_) | (refine VBool.dT (by omega) ?_) | (refine VC.seq ?_)); (conv => whnf))))
      exact ⟨by rw [e0]; rfl, hB⟩

/-! ### may it be? -/
theorem walIn_any (v m : Int) (w : World) : Calls Tryz.prog 45 #[.int .i64 v, .int .i64 m] w fun e w' => e = .returned (.bool (decide (inR v m))) ∧ w' = w := by
  refine calls_vc Tryz.func45 rfl (by kernel_rfl) ?_
  by_cases h1 : 0 ≤ v
  · ((conv => whnf); (repeat ((first | (refine VL.cons ?_) | (refine VL.nil ?_) | (refine VC.seqS rfl ?_) | (refine VC.region ?_)); (conv => whnf))))
    ((repeat ((first | (refine VL.cons ?_) | (refine VL.nil ?_) | (refine VC.ret ?_) | (refine VBool.t ?_) | (refine VBool.dT (by omega) ?_)); (conv => whnf))))
    refine ⟨?_, rfl⟩
    rw [show decide (inR v m) = decide (v ≤ m) from decide_eq_decide.2 ⟨fun h => h.2, fun h => ⟨h1, h⟩⟩]
    rfl
  · rw [decide_eq_false (fun h : inR v m => h1 h.1)]
    ((conv => whnf); (repeat ((first | (refine VL.cons ?_) | (refine VL.nil ?_) | (refine VC.seqS rfl ?_) | (refine VC.region ?_)); (conv => whnf))))
    ((repeat ((first | (refine VL.cons ?_) | (refine VL.nil ?_) | (refine VC.ret ?_) | (refine VBool.f ?_) | (refine VBool.dF (by omega) ?_)); (conv => whnf))))
    exact ⟨rfl, rfl⟩
theorem mayEntry_any (e : En) (A : Option Addr) (n c : Nat) (w : World) (hn : e.data.length = n) : Calls Tryz.prog 48 #[.agg #[.int .i64 e.term, .bool e.cmd, .slice A n c]] w fun r w' => r = .returned (.bool (decide (mayE e))) ∧ Below w.heap.size w w' := by
  refine calls_vc Tryz.func48 rfl (by kernel_rfl) ?_
  ((conv => whnf); (repeat ((first | (refine VL.cons ?_) | (refine VC.seqS rfl ?_) | (refine VC.region ?_)); (conv => whnf))))
  ((repeat ((fail); (conv => whnf))))
  refine VSem.boxB ?_
  intro w1 g hb hg hl hB1
  replace hb : Blk w1 g 56 #[.int .i64 e.term, .bool e.cmd, .slice A n c] := hb
  by_cases h1 : 1 ≤ e.term
  case neg =>
    rw [decide_eq_false (fun h : mayE e => h1 h.1)]
    ((conv => whnf); (repeat ((first | (refine VL.cons ?_) | (refine VL.nil ?_) | (refine VC.seqS rfl ?_) | (refine VC.region ?_)); (conv => whnf))))
    (repeat (first | ((first | (refine VL.cons ?_) | (refine VL.nil ?_) | (refine VC.ret ?_) | (refine VBool.f ?_) | (refine VBool.dF (by omega) ?_) | (refine VRead.fld ?_)); (conv => whnf)) | (refine VRead.loadB hb rfl rfl ?_; (conv => whnf))))
    exact ⟨rfl, hB1⟩
  by_cases h2 : e.term ≤ 1099511627776
  case neg =>
    rw [decide_eq_false (fun h : mayE e => h2 h.2.1)]
    ((conv => whnf); (repeat ((first | (refine VL.cons ?_) | (refine VL.nil ?_) | (refine VC.seqS rfl ?_) | (refine VC.region ?_)); (conv => whnf))))
    (repeat (first | ((first | (refine VL.cons ?_) | (refine VL.nil ?_) | (refine VC.ret ?_) | (refine VBool.t ?_) | (refine VBool.f ?_) | (refine VBool.dT (by omega) ?_) | (refine VBool.dF (by omega) ?_) | (refine VRead.fld ?_)); (conv => whnf)) | (refine VRead.loadB hb rfl rfl ?_; (conv => whnf))))
    exact ⟨rfl, hB1⟩
  ((conv => whnf); (repeat ((first | (refine VL.cons ?_) | (refine VL.nil ?_) | (refine VC.seqS rfl ?_) | (refine VC.region ?_)); (conv => whnf))))
  (repeat (first | ((first | (refine VL.cons ?_) | (refine VL.nil ?_) | (refine VC.ret ?_) | (refine VBool.t ?_) | (refine VBool.dT (by omega) ?_) | (refine VRead.lenS ?_) | (refine VRead.fld ?_)); (conv => whnf)) | (refine VRead.loadB hb rfl rfl ?_; (conv => whnf))))
  refine ⟨?_, hB1⟩
  rw [show decide (mayE e) = decide ((n : Int) ≤ 1048476) from decide_eq_decide.2 ⟨fun h => by have := h.2.2; omega, fun h => ⟨h1, h2, by omega⟩⟩]
  rfl

/-! ### records -/
def numB (l : List Int) : List UInt8 := l.flatMap Wire.int
def recB (kind : UInt8) (l : List Int) : List UInt8 := kind :: numB l
theorem numB_len (l : List Int) : (numB l).length ≤ 10 * l.length ∧ l.length ≤ (numB l).length := by
  induction l with
  | nil => exact ⟨by simp [numB], by simp⟩
  | cons a l ih =>
    have h1 := Wire.int_len a
    have e : numB (a :: l) = Wire.int a ++ numB l := by unfold numB; rw [List.flatMap_cons]
    rw [e, List.length_append, List.length_cons]
    omega
theorem numB_succ {l : List Int} {k : Nat} {v : Int} (h : l[k]? = some v) : numB (l.take (k + 1)) = numB (l.take k) ++ Wire.int v := by
  unfold numB
  rw [List.take_add_one, h, List.flatMap_append]
  simp
theorem recB_len (kind : UInt8) (l : List Int) : (recB kind l).length ≤ 10 * l.length + 1 ∧ l.length + 1 ≤ (recB kind l).length := by
  have := numB_len l
  unfold recB
  rw [List.length_cons]
  omega
set_option maxHeartbeats 1000000 in
theorem record_any (kind : UInt8) (l : List Int) (A : Option Addr) (n c : Nat) (w : World) (hn : n ≤ 100) (hb : ∀ v ∈ l, -9223372036854775808 ≤ v ∧ v ≤ 9223372036854775807) (hr : Reads w w.heap.size 1 A n (iv .i64 l)) :
    Calls Tryz.prog 47 #[.int .u8 (kind.toNat : Int), .slice A n c] w fun e w' => ∃ A' m c', e = .returned (.slice A' m c') ∧ Own w' w.heap.size (.slice A' m c') m (recB kind l) ∧ m ≤ c' ∧ Below w.heap.size w w' := by
  have hln : l.length = n := by have := hr.1; simpa [iv] using this
  refine calls_vc Tryz.func47 rfl (by kernel_rfl) ?_
  ((conv => whnf); (repeat ((first | (refine VL.cons ?_) | (refine VL.nil ?_) | (refine VC.seqS rfl ?_) | (refine VC.region ?_)); (conv => whnf))))
  ((repeat ((fail); (conv => whnf))))
  refine VSem.buildR (ps := [(0, .int .u8 (kind.toNat : Int))]) rfl rfl (by simp [Value.oneCell']) (by omega) ?_
  intro w1 hw1 hB1 hz1
  replace hw1 : Own w1 w.heap.size (.slice (some ⟨w.heap.size, 0, none⟩) 1 1) 1 (recB kind (l.take 0)) := hw1
  ((conv => whnf); (repeat ((first | (refine VL.cons ?_) | (refine VL.nil ?_)); (conv => whnf))))
  ((repeat ((first | (refine VL.cons ?_) | (refine VL.nil ?_) | (refine VC.seqS rfl ?_) | (refine VC.region ?_) | (refine VC.block ?_) | (refine VRead.lenS ?_) | (refine VC.seq ?_)); (conv => whnf))))
  refine VC.loop [5, 12] [(5, 5), (7, 7), (12, 19)] (fun q vs W => ∃ (k m c' : Nat) (A' : Option Addr), vs = [.slice A' m c', .int .i64 (k : Int)] ∧ q = n - k ∧ k ≤ n ∧ Own W w.heap.size (.slice A' m c') m (recB kind (l.take k)) ∧ Below w.heap.size w W) (by kernel_rfl)
    ⟨_, 0, 1, 1, _, rfl, rfl, by omega, hw1, hB1⟩ ?_
  rintro q τ vs W ⟨k, m, c', A', rfl, rfl, hk, hO, hB⟩
  have hml := hO.len
  have hrl := (recB_len kind (l.take k)).1
  rw [List.length_take] at hrl
  by_cases hlt : k < n
  · obtain ⟨v, hv⟩ : ∃ v, l[k]? = some v := ⟨_, List.getElem?_eq_getElem (by omega)⟩
    have hvb := hb v (List.mem_of_getElem? hv)
    obtain ⟨ad, u, rfl, _, hu, hcell⟩ := (hr.below hB).at_ hlt
    obtain ⟨v', hv', rfl⟩ := map_at hu
    rw [hv] at hv'
    obtain rfl := Option.some.inj hv'
    have e1 : recB kind (l.take k) ++ Wire.int v = recB kind (l.take (k + 1)) := by unfold recB; rw [numB_succ hv, List.cons_append]
    ((conv => whnf); (repeat ((first | (refine VL.cons ?_) | (refine VL.nil ?_) | (refine VC.seqS rfl ?_) | (refine VC.region ?_)); (conv => whnf))))
    (repeat (first | ((first | (refine VL.cons ?_) | (refine VL.nil ?_) | (refine VC.seqS rfl ?_) | (refine VC.region ?_) | (refine VC.cond ?_) | (refine VC.block ?_) | (refine VC.skip ?_) | (refine VBool.dT (by omega) ?_) | (refine VRead.load1 (by assumption) ?_) | (refine VRead.at1 (by omega) ?_) | (refine VC.seq ?_)); (conv => whnf)) | (refine VRead.at1 hlt ?_; (conv => whnf))))
    refine VCall.of (pInt_up (B := w.heap.size) A' m c' _ v W hB.size (by omega) hO.cap hvb hO.reads) ?_
    rintro e W2 ⟨A2, m2, c2, rfl, hO2, hm2, hm3, hc2, hB2⟩
    refine ⟨_, rfl, ?_⟩
    rw [e1] at hO2
    ((conv => whnf); (repeat ((first | (refine VL.cons ?_) | (refine VL.nil ?_) | (refine VC.region ?_)); (conv => whnf))))
    ((repeat ((first | (refine VL.cons ?_) | (refine VL.nil ?_) | (refine VWrap.i64 (by omega) (by omega) ?_)); (conv => whnf))))
    exact ⟨_, by omega, k + 1, m2, c2, A2, rfl, rfl, by omega, hO2, hB.trans (hB2.mono hB.size)⟩
  · obtain rfl : k = n := by omega
    rw [List.take_of_length_le (by omega)] at hO
    ((conv => whnf); (repeat ((first | (refine VL.cons ?_) | (refine VL.nil ?_) | (refine VC.seqS rfl ?_) | (refine VC.region ?_)); (conv => whnf))))
    ((repeat ((first | (refine VL.cons ?_) | (refine VL.nil ?_) | (refine VC.seqS rfl ?_) | (refine VC.region ?_) | (refine VC.cond ?_) | (refine VC.exit ?_) | (refine VC.ret ?_) | (refine VBool.dF (by omega) ?_) | (refine VC.seq ?_)); (conv => whnf))))
    exact ⟨A', m, c', rfl, hO, hO.cap, hB⟩
/-- one entry's record -/
def entB (i : Int) (e : En) : List UInt8 := recB 2 [i, e.term] ++ Wire.bool e.cmd ++ Wire.text e.data
def written (i : Int) : List En → List UInt8
  | [] => []
  | e :: r => Frame.put (entB i e) ++ written (i + 1) r
theorem text_len (d : List UInt8) : (Wire.text d).length ≤ 10 + d.length ∧ d.length + 1 ≤ (Wire.text d).length := by
  have := Wire.int_len (d.length : Int)
  unfold Wire.text
  rw [List.length_append]
  omega
theorem entB_len (i : Int) (e : En) : 5 ≤ (entB i e).length ∧ (entB i e).length ≤ 32 + e.data.length := by
  have h1 := recB_len 2 [i, e.term]
  have h2 := text_len e.data
  have h3 : (Wire.bool e.cmd).length = 1 := rfl
  simp only [List.length_cons, List.length_nil] at h1
  unfold entB
  rw [List.length_append, List.length_append]
  omega
theorem written_cons (i : Int) (e : En) (r : List En) : written i (e :: r) = Frame.put (entB i e) ++ written (i + 1) r := rfl
theorem written_append (es fs : List En) (i : Int) : written i (es ++ fs) = written i es ++ written (i + es.length) fs := by
  induction es generalizing i with
  | nil => simp [written]
  | cons e es ih =>
    rw [List.cons_append, written_cons, written_cons, ih, List.append_assoc, List.length_cons]
    rw [show i + 1 + (es.length : Int) = i + ((es.length + 1 : Nat) : Int) by omega]
theorem written_one (i : Int) (e : En) : written i [e] = Frame.put (entB i e) := by simp [written]
theorem put_le (b : List UInt8) : (Frame.put b).length ≤ b.length + 30 := by
  have h1 := Frame.put_len b
  have h2 := (Wire.int_len (b.length : Int)).2
  omega
theorem written_len {es : List En} {i : Int} (h : ∀ e ∈ es, mayE e) : (written i es).length ≤ 1100000 * es.length := by
  induction es generalizing i with
  | nil => simp [written]
  | cons e es ih =>
    have h1 := (entB_len i e).2
    have h2 := (h e (by simp)).2.2
    have h3 := put_le (entB i e)
    have h4 := ih (i := i + 1) (fun x hx => h x (List.mem_cons_of_mem _ hx))
    unfold written
    rw [List.length_append, List.length_cons]
    omega
theorem Blk.fldW {W X : World} {g i : Nat} {T : TypeId} {cs : Array Value} {v : Value} (hb : Blk W g T cs) (hv : cs.toList[i]? = some v) (hX : Below W.heap.size W X) : X.cell? ((⟨g, 0, none⟩ : Addr).add i) = some v := by
  have h := (hb.below hX hb.lt).cell i
  rw [add_lit, h, ← hv]
  simp
end Go.Proofs.YtebeidnmplnlpaaGreat
end

section
set_option maxRecDepth 10000
namespace Go.Proofs.YtebeidnmplnlpaaGreat
set_option linter.unusedVariables false
open Go.RowKit

theorem run_load_listW {P : Program} {W : World} {t k : Nat} {p : Addr} {cs : List Value} (a : TAgg P t k) (hc : ∀ j v, cs[j]? = some v → W.cell? (p.add j) = some v) (hs : cs.length = k) : (Instr.loadAt t (.pointer (some p))).run P W = .ok (.agg cs.toArray) W := by
  have hl : (loadCells p k).run P W = .ok cs.toArray W := by
    have := run_loadCells_list (P := P) W p cs hc
    rw [hs] at this
    exact this
  unfold Instr.loadAt Instr.sureAddr loadVar
  simp [run_isAgg_agg a, run_size a.s, hl]
theorem VRead.load3W {P : Program} {w : World} {t : Nat} {p : Addr} {u v z : Value} {K : Value → Prop} [a : TAgg P t 3] (h0 : w.cell? (p.add 0) = some u) (h1 : w.cell? (p.add 1) = some v) (h2 : w.cell? (p.add 2) = some z) (hk : K (.agg #[u, v, z])) : VRead P (Eq w) (Instr.loadAt t (.pointer (some p))) K :=
  .of1 (run_load_listW (cs := [u, v, z]) a (fun j x hj => by
    match j, hj with
    | 0, hj => rw [h0]; simpa using hj
    | 1, hj => rw [h1]; simpa using hj
    | 2, hj => rw [h2]; simpa using hj) rfl) hk
theorem setFrom_listW : ∀ (vs : List Value) (i : Nat) (cs : Array Value), cs.size = i + vs.length → (setFrom cs i vs).toList = cs.toList.take i ++ vs
  | [], i, cs, h => by simp only [setFrom, List.append_nil]; rw [List.take_of_length_le]; rw [Array.length_toList]; simp at h; omega
  | v :: r, i, cs, h => by
    simp only [List.length_cons] at h
    have := setFrom_listW r (i + 1) (cs.setIfInBounds i v) (by simp; omega)
    simp only [setFrom]
    rw [this, Array.toList_setIfInBounds, List.take_add_one, List.take_set_of_le (by omega), List.getElem?_set_self (by rw [Array.length_toList]; omega)]
    simp
theorem setFrom_allW {vs cs : Array Value} (h : cs.size = vs.size) : setFrom cs 0 vs.toList = vs := by
  have := setFrom_listW vs.toList 0 cs (by simpa using h)
  rw [List.take_zero, List.nil_append] at this
  exact Array.toList_inj.1 this
theorem EnAt.belowB {W W' : World} {B n : Nat} {A : Option Addr} {es : List En} (h : EnAt W (fun j => j < B) A n es) (hb : Below B W W') : EnAt W' (fun j => j < B) A n es := h.stay hb.size (fun j _ hj => hb.block j hj)
theorem VSem.appOb {w : World} {ty : TypeId} {B : Nat} {v : Value} {n : Nat} {l : List UInt8} {C : Nat} {A : Option Addr} {m c : Nat} {news : List UInt8} {K : Value → World → Prop} (hown : Own w B v n l) (hr : Reads w C 1 A m (bv news))
    (hbytes : n + m ≤ 140737488355328) (hbase : B ≤ w.heap.size)
    (h : ∀ A' c' w', Own w' B (.slice A' (n + m) c') (n + m) (l ++ news) → w.grownBy w' v.ownBlock → ((Value.slice A' (n + m) c').ownBlock = v.ownBlock ∨ (Value.slice A' (n + m) c').ownBlock = some w.heap.size) → K (.slice A' (n + m) c') w') :
    VSem Tryz.prog (Builtin.append_ #[33, 33] ty [v, .slice A m c].toArray) w K := by
  obtain ⟨i0, hi0, hz0, hz1, hz2⟩ := info_parts u8_info
  refine VSem.appR Tryz.underlying33 hi0 hz0 hz1 hz2 rfl (by decide) hown hr (bv_one _) (by simp only [maxLen]; omega) (by omega) hbase fun A' c' w' k1 k2 k3 => h A' c' w' ?_ k2 k3
  rw [← bv_append] at k1
  exact k1
theorem Out.later {F : Foot} {w W W' : World} (h : Out F w W) (hb : Below W.heap.size W W') : Out F w W' := h.trans (Out.new hb)
theorem Out.rowG {F : Foot} {w W W' : World} {row : Option Nat} (h : Out F w W) (hg : W.grownBy W' row) (hq : ∀ j, row = some j → F j ∨ w.heap.size ≤ j) : Out F w W' :=
  ⟨hg.os.trans h.os, hg.tape.trans h.tape, hg.output.trans h.output, Nat.le_trans h.size hg.size, fun j hj hu => (hg.block j (Nat.lt_of_lt_of_le hj h.size) (fun e => by
    rcases hq j e.symm with hq | hq
    · exact hu hq
    · omega)).trans (h.block j hj hu)⟩
def kC (k : Kp) (A : Option Addr) (n c : Nat) : Array Value := #[.int .i64 k.term, .int .i64 k.vote, .int .i64 k.base, .int .i64 k.bterm, .slice A n c]
set_option maxHeartbeats 2000000 in
theorem written_any (A Ae : Option Addr) (n c ne ce B : Nat) (i : Int) (l : List UInt8) (es : List En) (w : World) (hO : Own w B (.slice A n c) n l) (hE : EnAt w (fun j => j < B) Ae ne es) (hB : B ≤ w.heap.size) (hn : n ≤ 10000) (hne : ne ≤ 100000000) (hi : -4611686018427387904 ≤ i ∧ i ≤ 4611686018427387904) (hm : ∀ e ∈ es, mayE e) :
    Calls Tryz.prog 49 #[.slice A n c, .int .i64 i, .slice Ae ne ce] w fun r w' => ∃ A' m c', r = .returned (.slice A' m c') ∧ Own w' B (.slice A' m c') m (l ++ written i es) ∧ Below B w w' ∧ Out (fun j => (Value.slice A n c).ownBlock = some j) w w' := by
  have hel := hE.1
  have hln := hO.len
  refine calls_vc Tryz.func49 rfl (by kernel_rfl) ?_
  ((conv => whnf); (repeat ((first | (refine VL.cons ?_) | (refine VL.nil ?_) | (refine VC.seqS rfl ?_) | (refine VC.region ?_)); (conv => whnf))))
  ((repeat ((first | (refine VL.cons ?_) | (refine VL.nil ?_) | (refine VC.seqS rfl ?_) | (refine VC.region ?_) | (refine VC.block ?_) | (refine VRead.lenS ?_) | (refine VC.seq ?_)); (conv => whnf))))
  refine VC.loop [0, 14] [(0, 0), (7, 11), (14, 41)] (fun q vs W => ∃ (k m c' : Nat) (A' : Option Addr), vs = [.slice A' m c', .int .i64 (k : Int)] ∧ q = ne - k ∧ k ≤ ne ∧ Own W B (.slice A' m c') m (l ++ written i (es.take k)) ∧ Below B w W ∧ Out (fun j => (Value.slice A n c).ownBlock = some j) w W ∧ ∀ j, (Value.slice A' m c').ownBlock = some j → (Value.slice A n c).ownBlock = some j ∨ w.heap.size ≤ j) (by kernel_rfl)
    ⟨_, 0, n, c, A, rfl, rfl, by omega, by simpa [written] using hO, Below.refl _ _, Out.refl _ _, fun j hj => .inl hj⟩ ?_
  clear hO
  rintro q τ vs W ⟨k, m, c', A', rfl, rfl, hk, hO, hW, hout, hown⟩
  by_cases hlt : k < ne
  case neg =>
    obtain rfl : k = ne := by omega
    rw [List.take_of_length_le (by omega)] at hO
    ((conv => whnf); (repeat ((first | (refine VL.cons ?_) | (refine VL.nil ?_) | (refine VC.seqS rfl ?_) | (refine VC.region ?_)); (conv => whnf))))
    ((repeat ((first | (refine VL.cons ?_) | (refine VL.nil ?_) | (refine VC.seqS rfl ?_) | (refine VC.region ?_) | (refine VC.cond ?_) | (refine VC.exit ?_) | (refine VC.ret ?_) | (refine VBool.dF (by omega) ?_) | (refine VC.seq ?_)); (conv => whnf))))
    exact ⟨A', m, c', rfl, hO, hW, hout⟩
  obtain ⟨e, he⟩ : ∃ e, es[k]? = some e := ⟨_, List.getElem?_eq_getElem (by omega)⟩
  have hem := hm e (List.mem_of_getElem? he)
  have hml := hO.len
  have hwl := written_len (es := es.take k) (i := i) (fun x hx => hm x (List.mem_of_mem_take hx))
  rw [List.length_append] at hml
  rw [List.length_take] at hwl
  have hol : l.length ≤ m := by omega
  obtain ⟨x, D, dn, dc, rfl, f0, f1, f2, hdc, hdl, hdr⟩ := (hE.belowB hW).at_ he
  have hBW : B ≤ W.heap.size := Nat.le_trans hB hW.size
  have e1 : l ++ written i (es.take (k + 1)) = (l ++ written i (es.take k)) ++ Frame.put (entB (i + k) e) := by
    rw [take_snoc he, written_append, written_one, List.append_assoc, List.length_take, show min k es.length = k by omega]
  ((conv => whnf); (repeat ((first | (refine VL.cons ?_) | (refine VL.nil ?_) | (refine VC.seqS rfl ?_) | (refine VC.region ?_)); (conv => whnf))))
  (repeat ((first | (refine VRead.atK hlt ?_) | (refine VRead.load3W f0 f1 f2 ?_) | (refine VL.cons ?_) | (refine VC.seqS rfl ?_) | (refine VC.region ?_) | (refine VC.cond ?_) | (refine VC.block ?_) | (refine VC.skip ?_) | (refine VBool.dT (by omega) ?_) | (refine VC.seq ?_)); (conv => whnf)))
  refine VSem.allocZ (z := .agg #[.int .i64 0, .bool false, .slice none 0 0]) (by kernel_rfl) ?_
  intro X2 b hbb hgb hlb hB5
  ((conv => whnf); (repeat ((first | (refine VL.cons ?_)); (conv => whnf))))
  ((repeat ((fail); (conv => whnf))))
  refine VUnit.storeAB hbb rfl rfl rfl (by simp [Value.oneCell']) ?_
  intro X3 hb6 hg6
  replace hb6 : Blk X3 b 56 #[.int .i64 e.term, .bool e.cmd, .slice D dn dc] := hb6
  have hB13 : Below W.heap.size W X3 := only_new hB5 hg6 (by omega) (by omega)
  have h03 : Below B w X3 := hW.trans (hB13.mono hBW)
  have hO6 := hO.below hB13 (Nat.le_refl _)
  have hd6 := hdr.below hB13 (Nat.le_refl _)
  have hz3 := hB13.size
  ((conv => whnf); (repeat ((first | (refine VL.nil ?_)); (conv => whnf))))
  ((repeat ((first | (refine VC.draw ?_) | (refine VC.seq ?_)); (conv => whnf))))
  have q0 : ∀ Y, Below X3.heap.size X3 Y → Y.cell? ((⟨b, 0, none⟩ : Addr).add 0) = some (.int .i64 e.term) := fun Y hY => hb6.fldW rfl hY
  have q1 : ∀ Y, Below X3.heap.size X3 Y → Y.cell? ((⟨b, 0, none⟩ : Addr).add 1) = some (.bool e.cmd) := fun Y hY => hb6.fldW rfl hY
  have hS : Below X3.heap.size X3 (X3.drewN 1) := below_drewN (Below.refl _ _) 1
  refine VDraw.seg (fun Y => Below X3.heap.size X3 Y) [([0, 1, 2, 3, 4, 7, 8], 5), ([], 6), ([], 9)] [10] (by kernel_rfl) (by kernel_rfl) hS ?_
  (conv => whnf)
  (repeat ((first | (refine VRead.load q0 ?_) | (refine VRead.load q1 ?_) | (refine VQ.cons ?_) | (refine VQ.nil ?_) | (refine VG.cons ?_) | (refine VRead.fld ?_) | (refine VWrap.i64 (by omega) (by omega) ?_)); (conv => whnf)))
  refine VSem.buildR (ps := [(0, .int .i64 (i + k)), (1, .int .i64 e.term)]) rfl rfl (by simp [Value.oneCell']) (by omega) ?_
  intro Y1 hw1 hB7 hz7
  have hS1 := hS.trans (hB7.mono hS.size)
  have hr1 : Reads Y1 Y1.heap.size 1 (some ⟨(X3.drewN 1).heap.size, 0, none⟩) 2 (iv .i64 [i + k, e.term]) := Reads.row hw1
  (conv => whnf)
  refine Keep.mk hS1 ?_
  (conv => whnf)
  (repeat ((first | (refine VQ.nil ?_) | (refine VG.cons ?_)); (conv => whnf)))
  refine VCall.of (record_any 2 [i + k, e.term] _ 2 2 Y1 (by omega) (fun v hv => ?_) hr1) ?_
  · obtain ⟨h1, h2, _⟩ := hem
    simp only [List.mem_cons, List.not_mem_nil, or_false] at hv
    rcases hv with rfl | rfl <;> omega
  rintro y Y2 ⟨A5, n5, c5, rfl, hO7, hc5, hB8⟩
  refine ⟨_, rfl, ?_⟩
  have hS2 := hS1.trans (hB8.mono hS1.size)
  have hl7 := hO7.len
  have hrl := (recB_len 2 [i + k, e.term]).1
  simp only [List.length_cons, List.length_nil] at hrl
  (conv => whnf)
  refine Keep.mk hS2 ?_
  (conv => whnf)
  (repeat ((first | (refine VQ.nil ?_) | (refine VG.cons ?_)); (conv => whnf)))
  refine VCall.of (putBool_any A5 n5 c5 _ e.cmd Y2 (by omega) hc5 hO7.reads) ?_
  rintro y Y3 ⟨A6, c6, rfl, hO8, hB9⟩
  refine ⟨_, rfl, ?_⟩
  have hS3 := hS2.trans (hB9.mono hS2.size)
  (conv => whnf)
  refine Keep.mk hS3 ?_
  have h06 : Below B w Y3 := h03.trans (hS3.mono (by omega))
  have hb9 := hb6.below hS3 hb6.lt
  have hO9 := hO6.below hS3 (Nat.le_refl _)
  have hd9 := hd6.below hS3 (Nat.le_refl _)
  have hz9 := hS3.size
  clear hO hO6 hd6 hb6 hr1 hw1 hbb f0 f1 f2 q0 q1 hdr
  have hdt : (txt e.data).size = dn := by rw [txt_size]; exact hdl
  ((conv => whnf); (repeat ((first | (refine VL.cons ?_) | (refine VC.seqS rfl ?_) | (refine VC.region ?_) | (refine VQ.cons ?_) | (refine VQ.nil ?_) | (refine VG.nil ?_)); (conv => whnf))))
  (repeat ((first | (refine VRead.loadB hb9 rfl rfl ?_) | (refine VL.cons ?_) | (refine VRead.fld ?_)); (conv => whnf)))
  refine VSem.convT hd9.1 ?_
  ((conv => whnf); (repeat ((first | (refine VL.cons ?_)); (conv => whnf))))
  ((repeat ((fail); (conv => whnf))))
  refine VCall.of (putText_any A6 (n5 + 1) c6 _ (txt e.data) Y3 (by have := hem.2.2; omega) hO8.cap hO8.reads) ?_
  rintro y Y4 ⟨A7, n7, c7, rfl, hO10, hB10⟩
  refine ⟨_, rfl, ?_⟩
  rw [show (txt e.data).data.toList = e.data from rfl] at hO10
  replace hO10 : Own Y4 Y3.heap.size (.slice A7 n7 c7) n7 (entB (i + k) e) := hO10
  have hl10 := hO10.len
  have hel10 := entB_len (i + k) e
  have hd3 := hem.2.2
  have h07 := h06.trans (hB10.mono (by omega))
  have hz10 := hB10.size
  ((conv => whnf); (repeat ((first | (refine VL.cons ?_)); (conv => whnf))))
  ((repeat ((fail); (conv => whnf))))
  refine VCall.of (frPut_yes none 0 0 [] A7 n7 c7 (entB (i + k) e) Y4 (by omega) (by omega) (by omega) (Nat.le_refl _) (Own.nil _ 0).reads hO10.reads) ?_
  rintro y Y5 ⟨A8, n8, c8, rfl, hO11, hB11⟩
  refine ⟨_, rfl, ?_⟩
  rw [List.nil_append] at hO11
  have h08 := h07.trans (hB11.mono (by omega))
  have hz11 := hB11.size
  have hO12 := (hO9.below hB10 (Nat.le_refl _)).below hB11 (Nat.le_refl _)
  have hl11 := hO11.len
  have hpl := put_le (entB (i + k) e)
  ((conv => whnf); (repeat ((first | (refine VL.cons ?_) | (refine VL.nil ?_) | (refine VC.region ?_)); (conv => whnf))))
  ((repeat ((fail); (conv => whnf))))
  refine VSem.appOb hO12 hO11.reads (by omega) (by omega) ?_
  intro A9 c9 Y6 hO13 hgr hblk
  rw [← e1] at hO13
  have hWY : Below W.heap.size W Y5 := hB13.trans (((hS3.trans (hB10.mono (by omega))).trans (hB11.mono (by omega))).mono (by omega))
  have hout5 := hout.later hWY
  have hout6 := hout5.rowG hgr hown
  have hB6 : Below B w Y6 := h08.grown hgr (by omega) (fun j hj => (World.ownsRow.lt hO12 j hj).1)
  have hz5 := hout5.size
  ((conv => whnf); (repeat ((first | (refine VL.cons ?_) | (refine VL.nil ?_) | (refine VC.region ?_)); (conv => whnf))))
  ((repeat ((first | (refine VL.cons ?_) | (refine VL.nil ?_) | (refine VWrap.i64 (by omega) (by omega) ?_)); (conv => whnf))))
  refine ⟨_, by omega, k + 1, m + n8, c9, A9, rfl, rfl, by omega, hO13, hB6, hout6, fun j hj => ?_⟩
  rcases hblk with h' | h'
  · exact hown j (by rw [← h']; exact hj)
  · rw [h'] at hj; injection hj with hj; subst hj; exact .inr hz5
set_option maxHeartbeats 2000000 in
theorem mayKept_any (k : Kp) (A : Option Addr) (n c : Nat) (w : World) (hE : EnAt w (fun j => j < w.heap.size) A n k.es) (hn : n ≤ 100000000) :
    Calls Tryz.prog 63 #[.agg (kC k A n c)] w fun r w' => r = .returned (.bool (decide (mayK k))) ∧ Below w.heap.size w w' := by
  have hel := hE.1
  refine calls_vc Tryz.func63 rfl (by kernel_rfl) ?_
  ((conv => whnf); (repeat ((first | (refine VL.cons ?_) | (refine VC.seqS rfl ?_) | (refine VC.region ?_)); (conv => whnf))))
  ((repeat ((fail); (conv => whnf))))
  refine VSem.boxB ?_
  intro w1 g hb hg hl hB1
  replace hb : Blk w1 g 50 (kC k A n c) := hb
  ((conv => whnf); (repeat ((first | (refine VL.cons ?_) | (refine VL.nil ?_)); (conv => whnf))))
  (repeat (first | ((first | (refine VL.cons ?_) | (refine VL.nil ?_) | (refine VC.seqS rfl ?_) | (refine VC.region ?_) | (refine VC.block ?_) | (refine VRead.lenS ?_) | (refine VRead.fld ?_) | (refine VC.seq ?_)); (conv => whnf)) | (refine VRead.loadB hb rfl rfl ?_; (conv => whnf))))
  refine VC.loop [8] [(2, 2), (4, 4), (8, 15)] (fun q vs W => ∃ j : Nat, vs = [.int .i64 (j : Int)] ∧ q = n - j ∧ j ≤ n ∧ (∀ e ∈ k.es.take j, mayE e) ∧ Below w1.heap.size w1 W) (by kernel_rfl)
    ⟨_, 0, rfl, rfl, by omega, by simp, Below.refl _ _⟩ ?_
  rintro q τ vs W ⟨j, rfl, rfl, hj, hall, hW⟩
  have hbW := hb.below hW hl
  have h0W := hB1.trans (hW.mono hB1.size)
  by_cases hlt : j < n
  case neg =>
    obtain rfl : j = n := by omega
    rw [List.take_of_length_le (by omega)] at hall
    by_cases c1 : inR k.base 1099511627776
    case neg =>
      rw [decide_eq_false (fun h : mayK k => c1 h.2.1)]
      ((conv => whnf); (repeat ((first | (refine VL.cons ?_) | (refine VL.nil ?_) | (refine VC.seqS rfl ?_) | (refine VC.region ?_)); (conv => whnf))))
      (repeat (first | ((first | (refine VL.cons ?_) | (refine VC.seqS rfl ?_) | (refine VC.region ?_) | (refine VC.cond ?_) | (refine VC.exit ?_) | (refine VBool.dF (by omega) ?_) | (refine VRead.fld ?_) | (refine VC.seq ?_)); (conv => whnf)) | (refine VRead.loadB hbW rfl rfl ?_; (conv => whnf))))
      refine VCall.of (walIn_any k.base 1099511627776 W) ?_
      rintro y _ ⟨rfl, rfl⟩
      refine ⟨_, rfl, ?_⟩
      rw [decide_eq_false c1]
      ((conv => whnf); (repeat ((first | (refine VL.cons ?_)); (conv => whnf))))
      ((repeat ((first | (refine VL.cons ?_) | (refine VL.nil ?_) | (refine VC.ret ?_) | (refine VBool.f ?_)); (conv => whnf))))
      exact ⟨rfl, h0W⟩
    by_cases c2 : inR k.bterm 1099511627776
    case neg =>
      rw [decide_eq_false (fun h : mayK k => c2 h.2.2.1)]
      ((conv => whnf); (repeat ((first | (refine VL.cons ?_) | (refine VL.nil ?_) | (refine VC.seqS rfl ?_) | (refine VC.region ?_)); (conv => whnf))))
      (repeat (first | ((first | (refine VL.cons ?_) | (refine VC.seqS rfl ?_) | (refine VC.region ?_) | (refine VC.cond ?_) | (refine VC.exit ?_) | (refine VBool.dF (by omega) ?_) | (refine VRead.fld ?_) | (refine VC.seq ?_)); (conv => whnf)) | (refine VRead.loadB hbW rfl rfl ?_; (conv => whnf))))
      refine VCall.of (walIn_any k.base 1099511627776 W) ?_
      rintro y _ ⟨rfl, rfl⟩
      refine ⟨_, rfl, ?_⟩
      rw [decide_eq_true c1]
      ((conv => whnf); (repeat ((first | (refine VL.cons ?_)); (conv => whnf))))
      (repeat (first | ((first | (refine VL.cons ?_) | (refine VBool.t ?_) | (refine VRead.fld ?_)); (conv => whnf)) | (refine VRead.loadB hbW rfl rfl ?_; (conv => whnf))))
      refine VCall.of (walIn_any k.bterm 1099511627776 _) ?_
      rintro y _ ⟨rfl, rfl⟩
      refine ⟨_, rfl, ?_⟩
      rw [decide_eq_false c2]
      ((conv => whnf); (repeat ((first | (refine VL.cons ?_)); (conv => whnf))))
      ((repeat ((first | (refine VL.cons ?_) | (refine VL.nil ?_) | (refine VC.ret ?_) | (refine VBool.f ?_)); (conv => whnf))))
      exact ⟨rfl, h0W⟩
    by_cases c3 : inR k.term 1099511627776
    case neg =>
      rw [decide_eq_false (fun h : mayK k => c3 h.2.2.2.1)]
      ((conv => whnf); (repeat ((first | (refine VL.cons ?_) | (refine VL.nil ?_) | (refine VC.seqS rfl ?_) | (refine VC.region ?_)); (conv => whnf))))
      (repeat (first | ((first | (refine VL.cons ?_) | (refine VC.seqS rfl ?_) | (refine VC.region ?_) | (refine VC.cond ?_) | (refine VC.exit ?_) | (refine VBool.dF (by omega) ?_) | (refine VRead.fld ?_) | (refine VC.seq ?_)); (conv => whnf)) | (refine VRead.loadB hbW rfl rfl ?_; (conv => whnf))))
      refine VCall.of (walIn_any k.base 1099511627776 W) ?_
      rintro y _ ⟨rfl, rfl⟩
      refine ⟨_, rfl, ?_⟩
      rw [decide_eq_true c1]
      ((conv => whnf); (repeat ((first | (refine VL.cons ?_)); (conv => whnf))))
      (repeat (first | ((first | (refine VL.cons ?_) | (refine VBool.t ?_) | (refine VRead.fld ?_)); (conv => whnf)) | (refine VRead.loadB hbW rfl rfl ?_; (conv => whnf))))
      refine VCall.of (walIn_any k.bterm 1099511627776 _) ?_
      rintro y _ ⟨rfl, rfl⟩
      refine ⟨_, rfl, ?_⟩
      rw [decide_eq_true c2]
      ((conv => whnf); (repeat ((first | (refine VL.cons ?_)); (conv => whnf))))
      (repeat (first | ((first | (refine VL.cons ?_) | (refine VBool.t ?_) | (refine VRead.fld ?_)); (conv => whnf)) | (refine VRead.loadB hbW rfl rfl ?_; (conv => whnf))))
      refine VCall.of (walIn_any k.term 1099511627776 _) ?_
      rintro y _ ⟨rfl, rfl⟩
      refine ⟨_, rfl, ?_⟩
      rw [decide_eq_false c3]
      ((conv => whnf); (repeat ((first | (refine VL.cons ?_)); (conv => whnf))))
      ((repeat ((first | (refine VL.cons ?_) | (refine VL.nil ?_) | (refine VC.ret ?_) | (refine VBool.f ?_)); (conv => whnf))))
      exact ⟨rfl, h0W⟩
    ((conv => whnf); (repeat ((first | (refine VL.cons ?_) | (refine VL.nil ?_) | (refine VC.seqS rfl ?_) | (refine VC.region ?_)); (conv => whnf))))
    (repeat (first | ((first | (refine VL.cons ?_) | (refine VC.seqS rfl ?_) | (refine VC.region ?_) | (refine VC.cond ?_) | (refine VC.exit ?_) | (refine VBool.dF (by omega) ?_) | (refine VRead.fld ?_) | (refine VC.seq ?_)); (conv => whnf)) | (refine VRead.loadB hbW rfl rfl ?_; (conv => whnf))))
    refine VCall.of (walIn_any k.base 1099511627776 W) ?_
    rintro y _ ⟨rfl, rfl⟩
    refine ⟨_, rfl, ?_⟩
    rw [decide_eq_true c1]
    ((conv => whnf); (repeat ((first | (refine VL.cons ?_)); (conv => whnf))))
    (repeat (first | ((first | (refine VL.cons ?_) | (refine VBool.t ?_) | (refine VRead.fld ?_)); (conv => whnf)) | (refine VRead.loadB hbW rfl rfl ?_; (conv => whnf))))
    refine VCall.of (walIn_any k.bterm 1099511627776 _) ?_
    rintro y _ ⟨rfl, rfl⟩
    refine ⟨_, rfl, ?_⟩
    rw [decide_eq_true c2]
    ((conv => whnf); (repeat ((first | (refine VL.cons ?_)); (conv => whnf))))
    (repeat (first | ((first | (refine VL.cons ?_) | (refine VBool.t ?_) | (refine VRead.fld ?_)); (conv => whnf)) | (refine VRead.loadB hbW rfl rfl ?_; (conv => whnf))))
    refine VCall.of (walIn_any k.term 1099511627776 _) ?_
    rintro y _ ⟨rfl, rfl⟩
    refine ⟨_, rfl, ?_⟩
    rw [decide_eq_true c3]
    ((conv => whnf); (repeat ((first | (refine VL.cons ?_)); (conv => whnf))))
    (repeat (first | ((first | (refine VL.cons ?_) | (refine VBool.t ?_) | (refine VRead.fld ?_)); (conv => whnf)) | (refine VRead.loadB hbW rfl rfl ?_; (conv => whnf))))
    refine VCall.of (walIn_any k.vote 7 _) ?_
    rintro y _ ⟨rfl, rfl⟩
    refine ⟨_, rfl, ?_⟩
    rw [show decide (mayK k) = decide (inR k.vote 7) from decide_eq_decide.2 ⟨fun h => h.2.2.2.2, fun h => ⟨hall, c1, c2, c3, h⟩⟩]
    ((conv => whnf); (repeat ((first | (refine VL.cons ?_) | (refine VL.nil ?_) | (refine VC.ret ?_)); (conv => whnf))))
    ((repeat ((fail); (conv => whnf))))
    exact ⟨rfl, h0W⟩
  obtain ⟨e, he⟩ : ∃ e, k.es[j]? = some e := ⟨_, List.getElem?_eq_getElem (by omega)⟩
  obtain ⟨x, D, dn, dc, rfl, f0, f1, f2, hdc, hdl, hdr⟩ := (hE.belowB h0W).at_ he
  ((conv => whnf); (repeat ((first | (refine VL.cons ?_) | (refine VL.nil ?_) | (refine VC.seqS rfl ?_) | (refine VC.region ?_)); (conv => whnf))))
  (repeat ((first | (refine VRead.atK hlt ?_) | (refine VRead.load3W f0 f1 f2 ?_) | (refine VL.cons ?_) | (refine VC.seqS rfl ?_) | (refine VC.region ?_) | (refine VC.cond ?_) | (refine VC.block ?_) | (refine VC.skip ?_) | (refine VBool.dT (by omega) ?_) | (refine VC.seq ?_)); (conv => whnf)))
  refine VSem.allocZ (z := .agg #[.int .i64 0, .bool false, .slice none 0 0]) (by kernel_rfl) ?_
  intro X2 b hbb hgb hlb hB5
  ((conv => whnf); (repeat ((first | (refine VL.cons ?_)); (conv => whnf))))
  ((repeat ((fail); (conv => whnf))))
  refine VUnit.storeAB hbb rfl rfl rfl (by simp [Value.oneCell']) ?_
  intro X3 hb6 hg6
  replace hb6 : Blk X3 b 56 #[.int .i64 e.term, .bool e.cmd, .slice D dn dc] := hb6
  have hB13 : Below W.heap.size W X3 := only_new hB5 hg6 (by omega) (by omega)
  have h13 := hW.trans (hB13.mono hW.size)
  ((conv => whnf); (repeat ((first | (refine VL.cons ?_) | (refine VL.nil ?_) | (refine VC.seqS rfl ?_) | (refine VC.region ?_)); (conv => whnf))))
  ((repeat ((fail); (conv => whnf))))
  refine VRead.loadAB1 hb6 rfl rfl ?_
  ((conv => whnf); (repeat ((first | (refine VL.cons ?_)); (conv => whnf))))
  ((repeat ((fail); (conv => whnf))))
  refine VCall.of (mayEntry_any e D dn dc X3 hdl) ?_
  rintro y X4 ⟨rfl, hB14⟩
  refine ⟨_, rfl, ?_⟩
  have h14 := h13.trans (hB14.mono h13.size)
  by_cases hem : mayE e
  · rw [decide_eq_true hem]
    ((conv => whnf); (repeat ((first | (refine VL.cons ?_) | (refine VL.nil ?_) | (refine VC.cond ?_)); (conv => whnf))))
    ((repeat ((first | (refine VL.cons ?_) | (refine VL.nil ?_) | (refine VC.region ?_) | (refine VC.skip ?_) | (refine VBool.f ?_) | (refine VWrap.i64 (by omega) (by omega) ?_)); (conv => whnf))))
    refine ⟨_, by omega, j + 1, rfl, rfl, by omega, fun x hx => ?_, h14⟩
    rw [take_snoc he, List.mem_append] at hx
    rcases hx with hx | hx
    · exact hall x hx
    · obtain rfl : x = e := by simpa using hx
      exact hem
  · rw [decide_eq_false hem, decide_eq_false (fun h : mayK k => hem (h.1 e (List.mem_of_getElem? he)))]
    ((conv => whnf); (repeat ((first | (refine VL.cons ?_) | (refine VL.nil ?_) | (refine VC.cond ?_)); (conv => whnf))))
    ((repeat ((first | (refine VL.cons ?_) | (refine VL.nil ?_) | (refine VC.seqS rfl ?_) | (refine VC.region ?_) | (refine VC.ret ?_) | (refine VBool.t ?_)); (conv => whnf))))
    exact ⟨rfl, hB1.trans (h14.mono hB1.size)⟩
end Go.Proofs.YtebeidnmplnlpaaGreat
end
