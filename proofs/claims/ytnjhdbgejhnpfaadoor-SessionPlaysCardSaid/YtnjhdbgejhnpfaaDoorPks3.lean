/- Texts joined: RtF, RtG, RtH, RtI, RtJ, SessM, SessN, SessO, RS, SessP, In, SessQ, RtK, RtL, RtM, Sok, VG. No condition. -/
import Derived.Test.YtnjhdbgejhnpfaaDoorPks2
import Derived.Great.BuildSlice
import Derived.Test.YtnjhdbgejhnpfaaDoorPks0
import Derived.SliceStrings
import Derived.Deep.Grids
import Derived.Deep.Slices
import Derived.OpenShut
section
set_option maxRecDepth 10000
namespace Go.Proofs.YtnjhdbgejhnpfaaDoor
set_option linter.unusedVariables false
open Go.RowKit

theorem split_atO {T : STb} {k : Nat} {p : Int × Se} (h : T[k]? = some p) : T = T.take k ++ p :: T.drop (k + 1) ∧ (T.take k).length = k := by
  obtain ⟨hk, he⟩ := List.getElem?_eq_some_iff.1 h
  refine ⟨?_, by rw [List.length_take]; omega⟩
  rw [← he, ← List.drop_eq_getElem_cons hk, List.take_append_drop]
theorem addO (g a b : Nat) : (((⟨g, 0, none⟩ : Addr).add a).add b) = ⟨g, a + b, none⟩ := by rw [add_plain, add_plain, Nat.zero_add]
theorem ft_step {W W' : World} {U : Foot} {r g n c : Nat} (hO : Out U W W') (hr : U r) (hg : U g) : Step W U W' (ftO r (.slice (some ⟨g, 0, none⟩) n c)) := by
  refine ⟨hO, fun j hj => .inl ?_⟩
  rcases hj with rfl | hj
  · exact hr
  · have : g = j := by simpa [Value.ownBlock] using hj
    exact this ▸ hg
set_option maxHeartbeats 2000000 in
theorem tUse_any (W : World) (U : Foot) (r : Nat) (S : SS) (id at_ : Int) (h : Rt W U r S) :
    Calls Tryd.prog 15 #[.pointer (some ⟨r, 0, none⟩), .int .i64 id, .int .i64 at_] W fun e W' => e = .returned (.bool (S.use id at_).1) ∧ ∃ U', Rt W' U' r (S.use id at_).2 ∧ Step W U W' U' := by
  have hwf' := h.wf.use id at_
  have hwf := h.wf
  have hfew := hwf.few
  have hmost := hwf.most
  refine calls_vc Tryd.func15 rfl (by kernel_rfl) ?_
  ((conv => whnf); (repeat ((first | (refine VL.cons ?_) | (refine VL.nil ?_) | (refine VC.seqS rfl ?_) | (refine VC.region ?_)); (conv => whnf))))
  ((repeat ((fail); (conv => whnf))))
  refine VCall.of (tFind_any W U r S id h) ?_
  rintro e W' ⟨eW, hcase⟩
  obtain rfl := eW.symm
  rcases hcase with ⟨k, x, hk, hf, rfl⟩ | ⟨hf, rfl⟩
  case inr =>
    have e1 : S.use id at_ = (false, S) := by unfold SS.use; rw [hf]
    rw [e1]
    refine ⟨_, rfl, ?_⟩
    ((conv => whnf); (repeat ((first | (refine VL.cons ?_) | (refine VL.nil ?_)); (conv => whnf))))
    ((repeat ((first | (refine VL.cons ?_) | (refine VL.nil ?_) | (refine VC.seqS rfl ?_) | (refine VC.region ?_) | (refine VC.cond ?_) | (refine VC.ret ?_) | (refine VBool.t ?_) | (refine VC.seq ?_)); (conv => whnf))))
    exact ⟨rfl, U, h, Step.refl _ _⟩
  have e1 : S.use id at_ = (true, ⟨S.most, tset S.t id { x with used := max x.used (min at_ 1099511627776) }⟩) := by unfold SS.use; rw [hf]
  rw [e1] at hwf' ⊢
  refine ⟨_, rfl, ?_⟩
  have hkl := (List.getElem?_eq_some_iff.1 hk).1
  have hh := h
  obtain ⟨_, hlt, A, c, hat⟩ := hh
  have hb := hat.blk
  obtain ⟨g, rfl, hg, hUg, hcell⟩ := hat.cell (k := 1) hk rfl
  have hS : Below W.heap.size W (W.drewN 1) := below_drewN (Below.refl _ _) 1
  have kB : ∀ Y, Below W.heap.size W Y → Blk Y r 29 #[.slice (some ⟨g, 0, none⟩) S.t.length c, .int .i64 S.most] := fun Y hY => hb.laterT hY
  have kc : ∀ Y, Below W.heap.size W Y → Y.cell? (((⟨g, 0, none⟩ : Addr).add (k * 8)).add 1) = some (.int .i64 x.used) := fun Y hY => (World.cell?_of_block (by rw [addO]; exact hY.block _ hg)).trans hcell
  ((conv => whnf); (repeat ((first | (refine VL.cons ?_) | (refine VL.nil ?_)); (conv => whnf))))
  ((repeat ((first | (refine VL.cons ?_) | (refine VL.nil ?_) | (refine VC.seqS rfl ?_) | (refine VC.region ?_) | (refine VC.draw ?_) | (refine VC.cond ?_) | (refine VC.skip ?_) | (refine VBool.f ?_) | (refine VC.seq ?_)); (conv => whnf))))
  refine VDraw.lasts (fun Y => Below W.heap.size W Y) [] [0, 1, 2, 3, 4, 5, 6, 7, 8, 9, 10, 11, 12, 13, 14, 15, 16, 17] 18 (by kernel_rfl) (by kernel_rfl) hS ?_
  have hrow := rows_below hat.row hS (Nat.le_refl _)
  have hb1 := kB _ hS
  generalize W.drewN 1 = W1 at *
  (conv => whnf)
  (repeat ((first | (refine VRead.loadBS kB rfl rfl ?_) | (refine VRead.atK hkl ?_) | (refine VRead.load (fun Y hY => kc Y hY) ?_) | (refine VQ.cons ?_) | (refine VE.nil ?_) | (refine VRead.fld ?_)); (conv => whnf)))
  refine VRead.minZ (z := min at_ 1099511627776) (by split <;> omega) ?_
  (conv => whnf)
  ((repeat ((first | (refine VQ.cons ?_)); (conv => whnf))))
  refine VRead.maxZ (z := max x.used (min at_ 1099511627776)) (by split <;> omega) ?_
  (conv => whnf)
  (repeat ((first | (refine VRead.atK hkl ?_) | (refine VQ.cons ?_) | (refine VQ.nil ?_) | (refine VRead.fld ?_)); (conv => whnf)))
  refine VUnit.storeRw hrow (j := k * 8 + 1) (by rw [addO]) (by omega) rfl ?_
  intro W2 hrow2 hg2
  have hb2 := hb1.grown hg2 (fun e => by
    injection e with e
    subst e
    obtain ⟨_, cs, hc⟩ := row_cells hrow _ rfl
    unfold Blk at hb1
    rw [hc] at hb1
    injection hb1 with hb1
    injection hb1 with _ h2 _
    exact absurd h2 (by decide))
  (conv => whnf)
  refine Keep.mk trivial ?_
  ((conv => whnf); (repeat ((first | (refine VL.cons ?_) | (refine VL.nil ?_) | (refine VC.seqS rfl ?_) | (refine VC.region ?_) | (refine VC.ret ?_)); (conv => whnf))))
  ((repeat ((fail); (conv => whnf))))
  obtain ⟨hsp, htl⟩ := split_atO hk
  have hR := hwf.ris
  have et : tset S.t id { x with used := max x.used (min at_ 1099511627776) } = S.t.take k ++ (id, { x with used := max x.used (min at_ 1099511627776) }) :: S.t.drop (k + 1) := by
    conv => lhs; rw [hsp]
    exact tset_old (by rw [← hsp]; exact hR)
  have er : (rowO S.t).set (k * 8 + 1) (.int .i64 (max x.used (min at_ 1099511627776))) = rowO (tset S.t id { x with used := max x.used (min at_ 1099511627776) }) := by
    rw [et]
    conv => lhs; rw [hsp]
    have := rowO_set (A := S.t.take k) (B := S.t.drop (k + 1)) (p := (id, x)) (q := (id, { x with used := max x.used (min at_ 1099511627776) })) (k := 1) (v := .int .i64 (max x.used (min at_ 1099511627776))) (by omega) rfl
    rw [htl] at this
    exact this
  have el : (tset S.t id { x with used := max x.used (min at_ 1099511627776) }).length = S.t.length := by
    rw [et]
    conv => rhs; rw [hsp]
    simp
  rw [er] at hrow2
  exact ⟨rfl, _, Rt.mk' hwf' el hb2 hrow2, ft_step ((Out.new hS).trans (Out.grown hg2 hUg)) hat.hr hUg⟩
end Go.Proofs.YtnjhdbgejhnpfaaDoor
end

section
set_option maxRecDepth 10000
namespace Go.Proofs.YtnjhdbgejhnpfaaDoor
set_option linter.unusedVariables false
open Go.RowKit

def setL (xs : List Value) (i : Nat) : List Value → List Value
  | [] => xs
  | v :: r => setL (xs.set i v) (i + 1) r
theorem run_storeCells_row {P : Program} {g B e k n c : Nat} : ∀ (vs : List Value) (i : Nat) (w : World) (xs : List Value), w.ownsRow B e k (.slice (some ⟨g, 0, none⟩) n c) n xs → (∀ v ∈ vs, v.oneCell' = true) → i + vs.length ≤ n * k →
    ∃ w', (storeCells ⟨g, 0, none⟩ vs i).run P w = .ok () w' ∧ w'.ownsRow B e k (.slice (some ⟨g, 0, none⟩) n c) n (setL xs i vs) ∧ w.grownBy w' (some g)
  | [], i, w, xs, hO, h1, hl => ⟨w, rfl, hO, only_refl w g⟩
  | v :: r, i, w, xs, hO, h1, hl => by
    simp only [List.length_cons] at hl
    have hxl := hO.1
    have ha : (⟨g, 0, none⟩ : Addr).add i = ⟨g, i, none⟩ := by unfold Addr.add; split <;> simp_all
    have hc := hO.cellAt i (by omega)
    rw [List.getElem?_eq_getElem (by omega)] at hc
    have hf := hO.frozenAt i
    have e2 : (store ⟨g, i, none⟩ v).run P w = .ok () (w.setCell ⟨g, i, none⟩ v) := by
      have hv := h1 v (by simp)
      cases v <;> first | (cases hv; done) | simp [store, Sem.run, hc, hf]
    obtain ⟨h2, h3⟩ := hO.stored i v
    obtain ⟨w', h4, h5, h6⟩ := run_storeCells_row r (i + 1) (w.setCell ⟨g, i, none⟩ v) (xs.set i v) h2 (fun u hu => h1 u (List.mem_cons_of_mem _ hu)) (by omega)
    refine ⟨w', ?_, h5, only_trans h3 h6⟩
    unfold storeCells
    rw [ha, Sem.run_bind, e2]
    exact h4
theorem VUnit.storeRwA {P : Program} {w : World} {t m : Nat} {p : Addr} {g j B e k n c : Nat} {xs : List Value} {vs : Array Value} {Q : World → Prop} [a : TAgg P t m] (hO : w.ownsRow B e k (.slice (some ⟨g, 0, none⟩) n c) n xs) (hp : p = ⟨g, j, none⟩) (hs : Nat.beq vs.size m = true) (hj : j + m ≤ n * k) (h1 : ∀ v ∈ vs.toList, v.oneCell' = true)
    (h : ∀ w', w'.ownsRow B e k (.slice (some ⟨g, 0, none⟩) n c) n (setL xs j vs.toList) → w.grownBy w' (some g) → Q w') : VUnit P (Instr.storeAt t (.pointer (some p)) (.agg vs)) w Q := by
  subst hp
  have e := Nat.eq_of_beq_eq_true hs
  have shift : ∀ (vs : List Value) (i : Nat), storeCells ⟨g, j, none⟩ vs i = storeCells ⟨g, 0, none⟩ vs (j + i) := by
    intro vs
    induction vs with
    | nil => intro i; rfl
    | cons v r ih =>
      intro i
      unfold storeCells
      rw [add_plain, add_plain, ih (i + 1), Nat.zero_add, Nat.add_assoc]
  obtain ⟨w', h2, h3, h4⟩ := run_storeCells_row (P := P) vs.toList j w xs hO h1 (by rw [Array.length_toList]; omega)
  refine .of (w' := w') ?_ (h w' h3 h4)
  unfold Instr.storeAt Instr.sureAddr storeVar
  simp [run_size a.s, Value.cells, e]
  rw [shift]
  exact h2
theorem not_row {W : World} {r g n c T : Nat} {cs : Array Value} {xs : List Value} (hb : Blk W r T cs) (ho : W.ownsRow 0 56 8 (.slice (some ⟨g, 0, none⟩) n c) n xs) (hT : 56 ≠ T) : some g ≠ some r := fun e => by
  injection e with e
  subst e
  obtain ⟨_, cs', hc⟩ := row_cells ho _ rfl
  unfold Blk at hb
  rw [hc] at hb
  injection hb with hb
  injection hb with _ h2 _
  exact hT h2
set_option maxHeartbeats 4000000 in
theorem tKeep_any (W : World) (U : Foot) (r : Nat) (S : SS) (id seq : Int) (rp : Rp) (h : Rt W U r S) :
    Calls Tryd.prog 17 #[.pointer (some ⟨r, 0, none⟩), .int .i64 id, .int .i64 seq, .agg (rpC rp)] W fun e W' => e = .returned (.bool (S.keep id seq rp (ROk rp)).1) ∧ ∃ U', Rt W' U' r (S.keep id seq rp (ROk rp)).2 ∧ Step W U W' U' := by
  have hwf' := h.wf.keep id seq rp (ROk rp)
  have hwf := h.wf
  have hfew := hwf.few
  have hmost := hwf.most
  refine calls_vc Tryd.func17 rfl (by kernel_rfl) ?_
  ((conv => whnf); (repeat ((first | (refine VL.cons ?_) | (refine VC.seqS rfl ?_) | (refine VC.region ?_)); (conv => whnf))))
  ((repeat ((fail); (conv => whnf))))
  refine VSem.boxB ?_
  intro W1 g7 hb7 hg7 hl7 hB1
  replace hb7 : Blk W1 g7 34 (rpC rp) := hb7
  have h1 := h.below hB1
  have st1 := Step.new (U := U) hB1
  ((conv => whnf); (repeat ((first | (refine VL.cons ?_) | (refine VL.nil ?_) | (refine VC.seqS rfl ?_) | (refine VC.region ?_)); (conv => whnf))))
  ((repeat ((fail); (conv => whnf))))
  refine VCall.of (tFind_any W1 U r S id h1) ?_
  rintro e W' ⟨eW, hcase⟩
  obtain rfl := eW.symm
  rcases hcase with ⟨k, x, hk, hf, rfl⟩ | ⟨hf, rfl⟩
  case inr =>
    have e1 : S.keep id seq rp (ROk rp) = (false, S) := by unfold SS.keep; rw [hf]
    rw [e1]
    refine ⟨_, rfl, ?_⟩
    ((conv => whnf); (repeat ((first | (refine VL.cons ?_) | (refine VL.nil ?_)); (conv => whnf))))
    ((repeat ((first | (refine VL.cons ?_) | (refine VL.nil ?_) | (refine VC.seqS rfl ?_) | (refine VC.region ?_) | (refine VC.cond ?_) | (refine VC.ret ?_) | (refine VBool.t ?_) | (refine VC.seq ?_)); (conv => whnf))))
    exact ⟨rfl, U, h1, st1⟩
  refine ⟨_, rfl, ?_⟩
  have hkl := (List.getElem?_eq_some_iff.1 hk).1
  have hh := h1
  obtain ⟨_, hlt, A, c, hat⟩ := hh
  have hb := hat.blk
  obtain ⟨g, rfl, hg, hUg, hcell⟩ := hat.cell (k := 2) hk rfl
  have ek : S.keep id seq rp (ROk rp) = if seq ≤ x.seq ∨ 1099511627776 < seq ∨ ROk rp = false then (false, S) else (true, ⟨S.most, tset S.t id { x with seq := seq, rp := rp }⟩) := by unfold SS.keep; rw [hf]
  rw [ek] at hwf' ⊢
  clear ek
  by_cases c1 : seq ≤ x.seq
  · rw [if_pos (.inl c1)]
    ((conv => whnf); (repeat ((first | (refine VL.cons ?_) | (refine VL.nil ?_)); (conv => whnf))))
    (repeat ((first | (refine VRead.loadB hb rfl rfl ?_) | (refine VRead.atK hkl ?_) | (refine VRead.load1 hcell ?_) | (refine VBool.dT c1 ?_) | (refine VL.cons ?_) | (refine VL.nil ?_) | (refine VC.seqS rfl ?_) | (refine VC.region ?_) | (refine VC.cond ?_) | (refine VC.ret ?_) | (refine VBool.t ?_) | (refine VBool.f ?_) | (refine VRead.fld ?_) | (refine VC.seq ?_)); (conv => whnf)))
    exact ⟨rfl, U, h1, st1⟩
  by_cases c2 : 1099511627776 < seq
  · rw [if_pos (.inr (.inl c2))]
    ((conv => whnf); (repeat ((first | (refine VL.cons ?_) | (refine VL.nil ?_)); (conv => whnf))))
    (repeat ((first | (refine VRead.loadB hb rfl rfl ?_) | (refine VRead.atK hkl ?_) | (refine VRead.load1 hcell ?_) | (refine VBool.dF c1 ?_) | (refine VL.cons ?_) | (refine VL.nil ?_) | (refine VC.seqS rfl ?_) | (refine VC.region ?_) | (refine VC.cond ?_) | (refine VC.ret ?_) | (refine VBool.t ?_) | (refine VBool.f ?_) | (refine VBool.dT (by omega) ?_) | (refine VRead.fld ?_) | (refine VC.seq ?_)); (conv => whnf)))
    exact ⟨rfl, U, h1, st1⟩
  ((conv => whnf); (repeat ((first | (refine VL.cons ?_) | (refine VL.nil ?_)); (conv => whnf))))
  (repeat ((first | (refine VRead.loadB hb rfl rfl ?_) | (refine VRead.atK hkl ?_) | (refine VRead.load1 hcell ?_) | (refine VBool.dF c1 ?_) | (refine VRead.loadAB1 hb7 rfl rfl ?_) | (refine VL.cons ?_) | (refine VC.seqS rfl ?_) | (refine VC.region ?_) | (refine VBool.f ?_) | (refine VBool.dF (by omega) ?_) | (refine VRead.fld ?_) | (refine VC.seq ?_)); (conv => whnf)))
  refine VCall.of (rck_any rp W1) ?_
  rintro e W2 ⟨rfl, hB2⟩
  refine ⟨_, rfl, ?_⟩
  have h2 := h1.below hB2
  have st2 := st1.trans (Step.new (U := U) hB2)
  cases hck : ROk rp with
  | false =>
    rw [if_pos (.inr (.inr rfl))]
    ((conv => whnf); (repeat ((first | (refine VL.cons ?_)); (conv => whnf))))
    ((repeat ((first | (refine VL.cons ?_) | (refine VL.nil ?_) | (refine VC.seqS rfl ?_) | (refine VC.region ?_) | (refine VC.cond ?_) | (refine VC.ret ?_) | (refine VBool.t ?_) | (refine VBool.f ?_)); (conv => whnf))))
    exact ⟨rfl, U, h2, st2⟩
  | true =>
    rw [hck] at hwf'
    rw [if_neg (by simp; omega)] at hwf' ⊢
    have hb2 := hb.laterT hB2
    have hb72 := hb7.laterT hB2
    have hrow := rows_below hat.row hB2 (Nat.le_refl _)
    ((conv => whnf); (repeat ((first | (refine VL.cons ?_)); (conv => whnf))))
    (repeat ((first | (refine VRead.loadB hb2 rfl rfl ?_) | (refine VRead.atK hkl ?_) | (refine VL.cons ?_) | (refine VL.nil ?_) | (refine VC.seqS rfl ?_) | (refine VC.region ?_) | (refine VC.cond ?_) | (refine VC.skip ?_) | (refine VBool.f ?_) | (refine VRead.fld ?_)); (conv => whnf)))
    refine VUnit.storeRw hrow (j := k * 8 + 2) (by rw [addO]) (by omega) rfl ?_
    intro W3 hrow3 hg3
    have n7 := not_row hb72 hrow (by decide)
    have hb3 := hb2.grown hg3 (not_row hb2 hrow (by decide)).symm
    have hb73 := hb72.grown hg3 n7.symm
    have hS : Below W3.heap.size W3 (W3.drewN 1) := below_drewN (Below.refl _ _) 1
    have kB : ∀ Y, Below W3.heap.size W3 Y → Blk Y r 29 #[.slice (some ⟨g, 0, none⟩) S.t.length c, .int .i64 S.most] := fun Y hY => hb3.laterT hY
    have k7 : ∀ Y, Below W3.heap.size W3 Y → Blk Y g7 34 (rpC rp) := fun Y hY => hb73.laterT hY
    ((conv => whnf); (repeat ((first | (refine VL.nil ?_)); (conv => whnf))))
    ((repeat ((first | (refine VC.draw ?_) | (refine VC.seq ?_)); (conv => whnf))))
    refine VDraw.lasts (fun Y => Below W3.heap.size W3 Y) [] [0, 1, 2, 3, 4, 5, 6, 7] 8 (by kernel_rfl) (by kernel_rfl) hS ?_
    have hrow4 := rows_below hrow3 hS (Nat.le_refl _)
    have hb4 := kB _ hS
    generalize W3.drewN 1 = W4 at *
    (conv => whnf)
    (repeat ((first | (refine VRead.loadBS kB rfl rfl ?_) | (refine VRead.loadAB k7 rfl rfl ?_) | (refine VRead.atK hkl ?_) | (refine VQ.cons ?_) | (refine VQ.nil ?_) | (refine VE.nil ?_) | (refine VRead.fld ?_)); (conv => whnf)))
    refine VUnit.storeRwA hrow4 (j := k * 8 + 3) (by rw [addO]) rfl (by omega) (by simp [rpC, Value.oneCell']) ?_
    intro W5 hrow5 hg5
    have hb5 := hb4.grown hg5 (not_row hb4 hrow4 (by decide)).symm
    (conv => whnf)
    refine Keep.mk trivial ?_
    ((conv => whnf); (repeat ((first | (refine VL.cons ?_) | (refine VL.nil ?_) | (refine VC.seqS rfl ?_) | (refine VC.region ?_) | (refine VC.ret ?_)); (conv => whnf))))
    ((repeat ((fail); (conv => whnf))))
    obtain ⟨hsp, htl⟩ := split_atO hk
    have hR := hwf.ris
    have et : tset S.t id { x with seq := seq, rp := rp } = S.t.take k ++ (id, { x with seq := seq, rp := rp }) :: S.t.drop (k + 1) := by
      conv => lhs; rw [hsp]
      exact tset_old (by rw [← hsp]; exact hR)
    have one : ∀ (a b : Se) (j : Nat) (v : Value), j < 8 → (oneC (id, a)).toList.set j v = (oneC (id, b)).toList → (rowO (S.t.take k ++ (id, a) :: S.t.drop (k + 1))).set (k * 8 + j) v = rowO (S.t.take k ++ (id, b) :: S.t.drop (k + 1)) := fun a b j v hj hv => by
      have := rowO_set (A := S.t.take k) (B := S.t.drop (k + 1)) (p := (id, a)) (q := (id, b)) (k := j) (v := v) hj hv
      rw [htl] at this
      exact this
    have er : setL ((rowO S.t).set (k * 8 + 2) (.int .i64 seq)) (k * 8 + 3) (rpC rp).toList = rowO (tset S.t id { x with seq := seq, rp := rp }) := by
      rw [et]
      conv => lhs; rw [hsp]
      rw [one x { x with seq := seq } 2 _ (by omega) rfl]
      show ((((((rowO _).set (k * 8 + 3) (.int .i64 rp.err)).set (k * 8 + 4) (.int .i64 rp.n)).set (k * 8 + 5) (.int .i64 rp.kind)).set (k * 8 + 6) (.int .i64 rp.vn)).set (k * 8 + 7) (.string (txt rp.s))) = _
      rw [one ⟨x.used, seq, x.rp⟩ ⟨x.used, seq, ⟨rp.err, x.rp.n, x.rp.kind, x.rp.vn, x.rp.s⟩⟩ 3 (.int .i64 rp.err) (by omega) rfl]
      rw [one ⟨x.used, seq, ⟨rp.err, x.rp.n, x.rp.kind, x.rp.vn, x.rp.s⟩⟩ ⟨x.used, seq, ⟨rp.err, rp.n, x.rp.kind, x.rp.vn, x.rp.s⟩⟩ 4 (.int .i64 rp.n) (by omega) rfl]
      rw [one ⟨x.used, seq, ⟨rp.err, rp.n, x.rp.kind, x.rp.vn, x.rp.s⟩⟩ ⟨x.used, seq, ⟨rp.err, rp.n, rp.kind, x.rp.vn, x.rp.s⟩⟩ 5 (.int .i64 rp.kind) (by omega) rfl]
      rw [one ⟨x.used, seq, ⟨rp.err, rp.n, rp.kind, x.rp.vn, x.rp.s⟩⟩ ⟨x.used, seq, ⟨rp.err, rp.n, rp.kind, rp.vn, x.rp.s⟩⟩ 6 (.int .i64 rp.vn) (by omega) rfl]
      rw [one ⟨x.used, seq, ⟨rp.err, rp.n, rp.kind, rp.vn, x.rp.s⟩⟩ ⟨x.used, seq, rp⟩ 7 (.string (txt rp.s)) (by omega) rfl]
    have el : (tset S.t id { x with seq := seq, rp := rp }).length = S.t.length := by
      rw [et]
      conv => rhs; rw [hsp]
      simp
    rw [er] at hrow5
    exact ⟨rfl, _, Rt.mk' hwf' el hb5 hrow5, st2.trans (ft_step ((Out.grown hg3 hUg).trans ((Out.new hS).trans (Out.grown hg5 hUg))) hat.hr hUg)⟩
end Go.Proofs.YtnjhdbgejhnpfaaDoor
end

section
set_option maxRecDepth 10000
namespace Go.Proofs.YtnjhdbgejhnpfaaDoor
set_option linter.unusedVariables false
open Go.RowKit

theorem O_info : (Tryd.prog.info? 56).map (fun i => (i.zero, i.size, i.bytes)) = some (some (.agg #[.int .i64 0, .int .i64 0, .int .i64 0, .int .i64 0, .int .i64 0, .int .i64 0, .int .i64 0, .string ByteArray.empty]), 8, 72) := by kernel_rfl
/-- ones more -/
theorem VSem.appOn {w : World} {ty C B n m c c' : Nat} {A A' : Option Addr} {xs : List Value} {T' : STb} {K : Value → World → Prop} (ho : w.ownsRow B 56 8 (.slice A n c) n xs) (hr : Reads w C 8 A' m (rowO T')) (hk : n + m ≤ 1000) (hB : B ≤ w.heap.size)
    (h : ∀ A2 c2 w', w'.ownsRow B 56 8 (.slice A2 (n + m) c2) (n + m) (xs ++ rowO T') → Below B w w' → K (.slice A2 (n + m) c2) w') :
    VSem Tryd.prog (Builtin.append_ #[27, 27] ty [.slice A n c, .slice A' m c'].toArray) w K := by
  obtain ⟨i0, hi0, hz0, hz1, hz2⟩ := info_parts O_info
  refine VSem.appR Tryd.underlying27 hi0 hz0 hz1 hz2 rfl (by decide) ho hr (rowO_one T') (by simp only [maxLen]; omega) (by omega) hB fun A2 c2 w' k1 k2 k3 => ?_
  exact h A2 c2 w' k1 ((Below.refl _ _).grown k2 hB (fun g hg => (World.ownsRow.lt ho g hg).1))
theorem add0O (g j : Nat) : (⟨g, 0, none⟩ : Addr).add j = ⟨g, j, none⟩ := by rw [add_plain, Nat.zero_add]
/-- a row of one -/
theorem VSem.oneOn {w : World} {p : Int × Se} {Q : Value → World → Prop}
    (h : ∀ w', Reads w' w'.heap.size 8 (some ⟨w.heap.size, 0, none⟩) 1 (rowO [p]) → Below w.heap.size w w' → Q (.slice (some ⟨w.heap.size, 0, none⟩) 1 1) w') :
    VSem Tryd.prog (Instr.buildSlice 27 1 [(0, .agg (oneC p))].toArray) w Q := by
  obtain ⟨i0, hi0, hz0, hz1, hz2⟩ := info_parts O_info
  have hrun := run_buildSlice (P := Tryd.prog) w 27 56 1 #[(0, .agg (oneC p))] (oneC p) i0 _ Tryd.underlying27 hi0 hz0 (by rw [hz1]; decide) (by rw [hz1]; decide) (by rw [hz1]; simp [Instr.fill, Value.cells, oneC, show Array.range 8 = #[0, 1, 2, 3, 4, 5, 6, 7] from by decide])
  refine VSem.of hrun ?_
  have hsz : (w.alloc (.cells (oneC p) 56)).heap.size = w.heap.size + 1 := by simp
  have hnew := Blk.new w 56 (oneC p)
  refine h _ ⟨rfl, fun _ => ⟨_, rfl, by show w.heap.size < _; rw [hsz]; omega, fun j u hu => ?_⟩⟩ ((Below.refl w.heap.size w).alloc (Nat.le_refl _) _)
  rw [add0O, hnew.cell j]
  rw [rowO_cons] at hu
  simpa [rowO] using hu
theorem rCut_any (most : Int) (W : World) : Calls Tryd.prog 5 #[.int .i64 most] W fun e W' => e = .returned (.int .i64 (SS.new most).most) ∧ W' = W := by
  refine calls_vc Tryd.func5 rfl (by kernel_rfl) ?_
  ((conv => whnf); (repeat ((first | (refine VL.cons ?_) | (refine VL.nil ?_) | (refine VC.seqS rfl ?_) | (refine VC.region ?_)); (conv => whnf))))
  ((repeat ((fail); (conv => whnf))))
  refine VRead.maxZ (z := max most 1) (by split <;> omega) ?_
  ((conv => whnf); (repeat ((first | (refine VL.cons ?_)); (conv => whnf))))
  ((repeat ((fail); (conv => whnf))))
  refine VRead.minZ (z := max 1 (min most 64)) (by split <;> omega) ?_
  ((conv => whnf); (repeat ((first | (refine VL.cons ?_) | (refine VL.nil ?_) | (refine VC.ret ?_)); (conv => whnf))))
  ((repeat ((fail); (conv => whnf))))
  exact ⟨rfl, rfl⟩
end Go.Proofs.YtnjhdbgejhnpfaaDoor
end

section
set_option maxRecDepth 10000
namespace Go.Proofs.YtnjhdbgejhnpfaaDoor
set_option linter.unusedVariables false
open Go.RowKit

/-- who was used longest ago, so far -/
def OldAt (T : STb) (j k : Nat) : Prop := (j = 0 ∧ k = 0) ∨ (1 ≤ j ∧ k < j ∧ ∃ p, T[k]? = some p ∧ oldGo (T.drop j) p.1 p.2.used = oldest T)
theorem OldAt.step {T : STb} {j k : Nat} {p q : Int × Se} (h : OldAt T j k) (h0 : ∀ x ∈ T, x.1 ≠ 0) (hj : T[j]? = some p) (hk : T[k]? = some q) : OldAt T (j + 1) (if p.2.used < q.2.used then j else k) := by
  obtain ⟨hjl, hje⟩ := List.getElem?_eq_some_iff.1 hj
  have hd : T.drop j = p :: T.drop (j + 1) := by rw [List.drop_eq_getElem_cons hjl, hje]
  rcases h with ⟨rfl, rfl⟩ | ⟨h1, h2, q', hq', ho⟩
  · rw [hk] at hj
    obtain rfl := Option.some.inj hj
    rw [if_neg (by omega)]
    refine .inr ⟨by omega, by omega, q, hk, ?_⟩
    have e : oldest T = oldGo (T.drop 0) 0 0 := rfl
    rw [e, hd]
    show _ = if (0 : Int) = 0 ∨ q.2.used < 0 then oldGo (T.drop 1) q.1 q.2.used else _
    rw [if_pos (.inl rfl)]
  · rw [hk] at hq'
    obtain rfl := Option.some.inj hq'
    rw [hd] at ho
    have hq0 := h0 q (List.mem_of_getElem? hk)
    have ho' : (if q.1 = 0 ∨ p.2.used < q.2.used then oldGo (T.drop (j + 1)) p.1 p.2.used else oldGo (T.drop (j + 1)) q.1 q.2.used) = oldest T := ho
    by_cases hu : p.2.used < q.2.used
    · rw [if_pos hu]
      rw [if_pos (.inr hu)] at ho'
      exact .inr ⟨by omega, by omega, p, hj, ho'⟩
    · rw [if_neg hu]
      rw [if_neg (fun h => h.elim hq0 hu)] at ho'
      exact .inr ⟨by omega, by omega, q, hk, ho'⟩
theorem OldAt.end_ {T : STb} {k : Nat} (h : OldAt T T.length k) (hne : 1 ≤ T.length) : ∃ x, T[k]? = some (oldest T, x) := by
  rcases h with ⟨h1, _⟩ | ⟨_, _, p, hp, ho⟩
  · omega
  · rw [List.drop_eq_nil_of_le (Nat.le_refl _)] at ho
    have ho' : p.1 = oldest T := ho
    exact ⟨p.2, by rw [hp, ← ho']⟩
theorem old_cut {T : STb} {k : Nat} {x : Se} (hR : Rising T) (hk : T[k]? = some (oldest T, x)) : tdel T (oldest T) = T.take k ++ T.drop (k + 1) := by
  obtain ⟨hsp, _⟩ := split_atO hk
  conv => lhs; rw [hsp]
  have : oldest (T.take k ++ (oldest T, x) :: T.drop (k + 1)) = oldest T := by rw [← hsp]
  rw [this]
  exact tdel_eq (by rw [← hsp]; exact hR.nd)
/-- where a new one lies -/
theorem tset_place {T : STb} {id : Int} {f : Se} {k : Nat} (hR : Rising T) (hk : k ≤ T.length) (hnf : tfind T id = none) (hup : ∀ (i : Nat) (p : Int × Se), k ≤ i → T[i]? = some p → id < p.1) (hlo : k = 0 ∨ ∃ p, T[k - 1]? = some p ∧ ¬ id < p.1) : tset T id f = T.take k ++ (id, f) :: T.drop k := by
  conv => lhs; rw [← List.take_append_drop k T]
  refine tset_midS (fun p hp => ?_) (fun p hp => ?_)
  · rcases hlo with rfl | ⟨q, hq, hlq⟩
    · simp at hp
    · obtain ⟨i, hi⟩ := List.getElem?_of_mem hp
      rw [List.getElem?_take] at hi
      split at hi
      · rename_i hik
        have hqne : q.1 ≠ id := fun e => by
          have hmem := List.mem_of_getElem? hq
          have := tfind_of hR.nd (show (q.1, q.2) ∈ T from hmem)
          rw [e, hnf] at this
          cases this
        have hle : p.1 ≤ q.1 := by
          by_cases e : i = k - 1
          · subst e; rw [hq] at hi; obtain rfl := Option.some.inj hi; exact Int.le_refl _
          · have hlt : i < k - 1 := by omega
            obtain ⟨h1, e1⟩ := List.getElem?_eq_some_iff.1 hi
            obtain ⟨h2, e2⟩ := List.getElem?_eq_some_iff.1 hq
            have := List.pairwise_iff_getElem.1 hR i (k - 1) (by rw [List.length_map]; exact h1) (by rw [List.length_map]; exact h2) hlt
            rw [List.getElem_map, List.getElem_map, e1, e2] at this
            omega
        omega
      · cases hi
  · obtain ⟨i, hi⟩ := List.getElem?_of_mem hp
    rw [List.getElem?_drop] at hi
    exact hup (k + i) p (by omega) hi
end Go.Proofs.YtnjhdbgejhnpfaaDoor
end

section
set_option maxRecDepth 10000
namespace Go.Proofs.YtnjhdbgejhnpfaaDoor
set_option linter.unusedVariables false
open Go.RowKit

theorem row_capO {w : World} {B e s n c : Nat} {A : Option Addr} {xs : List Value} (h : w.ownsRow B e s (.slice A n c) n xs) : n ≤ c := by
  rcases h.2 with ⟨e, h0⟩ | ⟨g, cap, cur, e, _, _, h1, _⟩
  · omega
  · injection e with e1 e2 e3
    omega
theorem ids0 {S : SS} (h : SWf S) : ∀ x ∈ S.t, x.1 ≠ 0 := fun x hx => by have := h.ids x hx; omega
theorem VRead.atKZO {P : Program} {S : World → Prop} {t e k : Nat} {a : Addr} {n c : Nat} {Z : Int} {kk : IntKind} {K : Value → Prop} [i : TSlice P t e k] (j : Nat) (hz : Z = (j : Int)) (h : j < n) (hk : K (.pointer (some (a.add (j * k))))) : VRead P S (Instr.indexAt t (.slice (some a) n c) (.int kk Z)) K := by
  subst hz; exact VRead.atK h hk
set_option maxHeartbeats 8000000 in
theorem tOpen_any (W : World) (U : Foot) (r : Nat) (S : SS) (id : Int) (h : Rt W U r S) :
    Calls Tryd.prog 14 #[.pointer (some ⟨r, 0, none⟩), .int .i64 id] W fun e W' => e = .returned (.tuple #[.int .i64 (S.open id).1.1, .bool (S.open id).1.2]) ∧ ∃ U', Rt W' U' r (S.open id).2 ∧ Step W U W' U' := by
  have hwf' := h.wf.open id
  have hwf := h.wf
  have hfew := hwf.few
  have hmost := hwf.most
  have hris := hwf.ris
  refine calls_vc Tryd.func14 rfl (by kernel_rfl) ?_
  have bad : ((tfind S.t id).isSome = true ∨ id < 1 ∨ 1099511627776 < id) → S.open id = ((0, false), S) := fun hb => by unfold SS.open; rw [if_pos hb]
  by_cases c1 : id < 1
  · rw [bad (.inr (.inl c1))]
    ((conv => whnf); (repeat ((first | (refine VL.cons ?_) | (refine VL.nil ?_) | (refine VC.seqS rfl ?_) | (refine VC.region ?_)); (conv => whnf))))
    (repeat (first | ((first | (refine VL.cons ?_) | (refine VL.nil ?_) | (refine VC.seqS rfl ?_) | (refine VC.region ?_) | (refine VC.cond ?_) | (refine VC.ret ?_) | (refine VBool.t ?_) | (refine VBool.dT (by omega) ?_) | (refine VC.seq ?_)); (conv => whnf)) | (refine VBool.dT c1 ?_; (conv => whnf))))
    exact ⟨rfl, U, h, Step.refl _ _⟩
  by_cases c2 : 1099511627776 < id
  · rw [bad (.inr (.inr c2))]
    ((conv => whnf); (repeat ((first | (refine VL.cons ?_) | (refine VL.nil ?_) | (refine VC.seqS rfl ?_) | (refine VC.region ?_)); (conv => whnf))))
    (repeat (first | ((first | (refine VL.cons ?_) | (refine VL.nil ?_) | (refine VC.seqS rfl ?_) | (refine VC.region ?_) | (refine VC.cond ?_) | (refine VC.ret ?_) | (refine VBool.t ?_) | (refine VBool.f ?_) | (refine VBool.dT (by omega) ?_) | (refine VBool.dF (by omega) ?_) | (refine VC.seq ?_)); (conv => whnf)) | (refine VBool.dF c1 ?_; (conv => whnf))))
    exact ⟨rfl, U, h, Step.refl _ _⟩
  ((conv => whnf); (repeat ((first | (refine VL.cons ?_) | (refine VL.nil ?_) | (refine VC.seqS rfl ?_) | (refine VC.region ?_)); (conv => whnf))))
  (repeat (first | ((first | (refine VL.cons ?_) | (refine VC.seqS rfl ?_) | (refine VC.region ?_) | (refine VBool.f ?_) | (refine VBool.dF (by omega) ?_) | (refine VC.seq ?_)); (conv => whnf)) | (refine VBool.dF c1 ?_; (conv => whnf))))
  refine VCall.of (tFind_any W U r S id h) ?_
  rintro e W' ⟨eW, hcase⟩
  obtain rfl := eW.symm
  rcases hcase with ⟨k, x, hk, hf, rfl⟩ | ⟨hf, rfl⟩
  · rw [bad (.inl (by rw [hf]; rfl))]
    refine ⟨_, rfl, ?_⟩
    ((conv => whnf); (repeat ((first | (refine VL.cons ?_)); (conv => whnf))))
    ((repeat ((first | (refine VL.cons ?_) | (refine VL.nil ?_) | (refine VC.seqS rfl ?_) | (refine VC.region ?_) | (refine VC.cond ?_) | (refine VC.ret ?_) | (refine VBool.t ?_) | (refine VBool.f ?_)); (conv => whnf))))
    exact ⟨rfl, U, h, Step.refl _ _⟩
  refine ⟨_, rfl, ?_⟩
  have eo : S.open id = if S.most ≤ S.t.length then ((oldest S.t, true), ⟨S.most, tset (tdel S.t (oldest S.t)) id (fresh id)⟩) else ((0, true), ⟨S.most, tset S.t id (fresh id)⟩) := by
    unfold SS.open
    rw [if_neg (fun h => by
      rcases h with h | h | h
      · rw [hf] at h; cases h
      · exact c1 h
      · exact c2 h)]
  clear bad
  rw [eo] at hwf' ⊢
  have hh := h
  obtain ⟨_, hlt, A, c, hat⟩ := hh
  have hb := hat.blk
  have hcap := row_capO hat.row
  have kB : ∀ Y, Below W.heap.size W Y → Blk Y r 29 #[.slice A S.t.length c, .int .i64 S.most] := fun Y hY => hb.laterT hY
  ((conv => whnf); (repeat ((first | (refine VL.cons ?_)); (conv => whnf))))
  ((repeat ((first | (refine VL.cons ?_) | (refine VL.nil ?_) | (refine VC.seqS rfl ?_) | (refine VC.region ?_) | (refine VC.cond ?_) | (refine VC.skip ?_) | (refine VBool.f ?_)); (conv => whnf))))
  refine VC.cut [6] [(6, 8), (23, 85)] (fun vs X => ∃ (gone : Int) (T1 : STb) (A1 : Option Addr) (c1 : Nat), vs = [.int .i64 gone] ∧ (if S.most ≤ S.t.length then ((oldest S.t, true), (⟨S.most, tset (tdel S.t (oldest S.t)) id (fresh id)⟩ : SS)) else ((0, true), ⟨S.most, tset S.t id (fresh id)⟩)) = ((gone, true), ⟨S.most, tset T1 id (fresh id)⟩) ∧ T1.length ≤ 64 ∧ Rising T1 ∧ tfind T1 id = none ∧
      Blk X r 29 #[.slice A1 T1.length c1, .int .i64 S.most] ∧ X.ownsRow 0 56 8 (.slice A1 T1.length c1) T1.length (rowO T1) ∧ Out U W X) (by kernel_rfl) ?_ ?_
  · have hS : Below W.heap.size W (W.drewN 1) := below_drewN (Below.refl _ _) 1
    ((conv => whnf); (repeat ((fail); (conv => whnf))))
    ((repeat ((first | (refine VC.draw ?_) | (refine VC.seq ?_)); (conv => whnf))))
    refine VDraw.seg (fun Y => Below W.heap.size W Y) [] [0, 1, 2, 3, 4, 5, 6, 7, 8, 9] (by kernel_rfl) (by kernel_rfl) hS ?_
    generalize W.drewN 1 = W1 at *
    by_cases full : S.most ≤ S.t.length
    case neg =>
      (conv => whnf)
      (repeat ((first | (refine VRead.loadBS kB rfl rfl ?_) | (refine VBool.dF full ?_) | (refine VC.cond ?_) | (refine VC.skip ?_) | (refine VQ.cons ?_) | (refine VQ.nil ?_) | (refine VG.nil ?_) | (refine VRead.lenS ?_) | (refine VRead.fld ?_)); (conv => whnf)))
      exact ⟨0, S.t, A, c, rfl, by rw [if_neg full], by omega, hris, hf, kB _ hS, rows_below hat.row hS (Nat.le_refl _), Out.new hS⟩
    have hn1 : 1 ≤ S.t.length := by omega
    obtain ⟨p0, hp0⟩ : ∃ p, S.t[0]? = some p := ⟨_, List.getElem?_eq_getElem (by omega)⟩
    obtain ⟨g, hA, hg, hUg, _⟩ := hat.cell (k := 0) hp0 rfl
    subst hA
    have kc : ∀ (i k : Nat) (p : Int × Se) (v : Value), S.t[i]? = some p → (oneC p).toList[k]? = some v → ∀ Y, Below W.heap.size W Y → Y.cell? (((⟨g, 0, none⟩ : Addr).add (i * 8)).add k) = some v := fun i k p v hp hv Y hY => by
      obtain ⟨g', e, _, _, hc⟩ := hat.cell (k := k) hp hv
      injection e with e
      injection e with e
      subst e
      exact (World.cell?_of_block (by rw [addO]; exact hY.block _ hg)).trans hc
    (conv => whnf)
    (repeat ((first | (refine VRead.loadBS kB rfl rfl ?_) | (refine VBool.dT full ?_) | (refine VL.cons ?_) | (refine VL.nil ?_) | (refine VC.seqS rfl ?_) | (refine VC.region ?_) | (refine VC.cond ?_) | (refine VC.block ?_) | (refine VQ.cons ?_) | (refine VQ.nil ?_) | (refine VG.nil ?_) | (refine VRead.lenS ?_) | (refine VRead.fld ?_) | (refine VC.seq ?_)); (conv => whnf)))
    refine VC.loop [7, 8] [(7, 8), (33, 59)] (fun q vs X => ∃ j k : Nat, vs = [.int .i64 (k : Int), .int .i64 (j : Int)] ∧ q = S.t.length - j ∧ j ≤ S.t.length ∧ k < S.t.length ∧ OldAt S.t j k ∧ Below W.heap.size W X) (by kernel_rfl)
      ⟨_, 0, 0, rfl, rfl, by omega, by omega, .inl ⟨rfl, rfl⟩, hS⟩ ?_
    rintro q τ vs X ⟨j, k, rfl, rfl, hj, hkl, hold, hX⟩
    have hbX := kB X hX
    by_cases hlt' : j < S.t.length
    · obtain ⟨pj, hpj⟩ : ∃ p, S.t[j]? = some p := ⟨_, List.getElem?_eq_getElem hlt'⟩
      obtain ⟨pk, hpk⟩ : ∃ p, S.t[k]? = some p := ⟨_, List.getElem?_eq_getElem hkl⟩
      have hs := hold.step (ids0 hwf) hpj hpk
      have hX1 : Below W.heap.size W (X.drewN 1) := below_drewN hX 1
      ((conv => whnf); (repeat ((fail); (conv => whnf))))
      (repeat ((first | (refine VRead.loadB hbX rfl rfl ?_) | (refine VL.cons ?_) | (refine VL.nil ?_) | (refine VC.seqS rfl ?_) | (refine VC.region ?_) | (refine VC.draw ?_) | (refine VC.cond ?_) | (refine VC.block ?_) | (refine VC.skip ?_) | (refine VBool.dT (by omega) ?_) | (refine VRead.lenS ?_) | (refine VRead.fld ?_) | (refine VC.seq ?_)); (conv => whnf)))
      refine VDraw.seg (fun Y => Below W.heap.size W Y) [] [0, 1, 2, 3, 4, 5, 6, 7, 8, 9, 10, 11, 12, 13, 14, 15, 16] (by kernel_rfl) (by kernel_rfl) hX1 ?_
      generalize X.drewN 1 = X1 at *
      by_cases hu : pj.2.used < pk.2.used
      · rw [if_pos hu] at hs
        (conv => whnf)
        (repeat ((first | (refine VRead.loadBS kB rfl rfl ?_) | (refine VRead.atK hlt' ?_) | (refine VRead.atK hkl ?_) | (refine VRead.load (kc j 1 pj _ hpj rfl) ?_) | (refine VRead.load (kc k 1 pk _ hpk rfl) ?_) | (refine VBool.dT hu ?_) | (refine VL.cons ?_) | (refine VL.nil ?_) | (refine VC.region ?_) | (refine VC.cond ?_) | (refine VQ.cons ?_) | (refine VQ.nil ?_) | (refine VG.nil ?_) | (refine VRead.fld ?_) | (refine VWrap.i64 (by omega) (by omega) ?_)); (conv => whnf)))
        exact ⟨_, by omega, j + 1, j, rfl, rfl, by omega, by omega, hs, hX1⟩
      · rw [if_neg hu] at hs
        (conv => whnf)
        (repeat ((first | (refine VRead.loadBS kB rfl rfl ?_) | (refine VRead.atK hlt' ?_) | (refine VRead.atK hkl ?_) | (refine VRead.load (kc j 1 pj _ hpj rfl) ?_) | (refine VRead.load (kc k 1 pk _ hpk rfl) ?_) | (refine VBool.dF hu ?_) | (refine VL.cons ?_) | (refine VL.nil ?_) | (refine VC.region ?_) | (refine VC.cond ?_) | (refine VC.skip ?_) | (refine VQ.cons ?_) | (refine VQ.nil ?_) | (refine VG.nil ?_) | (refine VRead.fld ?_) | (refine VWrap.i64 (by omega) (by omega) ?_)); (conv => whnf)))
        exact ⟨_, by omega, j + 1, k, rfl, rfl, by omega, by omega, hs, hX1⟩
    obtain rfl : j = S.t.length := by omega
    obtain ⟨x, hx⟩ := hold.end_ hn1
    have hcut := old_cut hris hx
    have hr := Reads.row hat.row
    have hr0 := hr.takeK (z := k) (by omega)
    rw [rowO_take S.t k (by omega)] at hr0
    have hr1 := hr.cut (k := k + 1) (cap := c) (by omega) hcap
    rw [rowO_drop S.t (k + 1) (by omega)] at hr1
    replace hr1 : Reads W W.heap.size 8 (cutK (some ⟨g, 0, none⟩) c (k + 1) 8) (S.t.length - (k + 1)) (rowO (S.t.drop (k + 1))) := hr1
    have hX1 : Below W.heap.size W (X.drewN 1) := below_drewN hX 1
    have hkc := kc k 0 _ _ hx rfl X hX
    ((conv => whnf); (repeat ((fail); (conv => whnf))))
    (repeat ((first | (refine VRead.loadB hbX rfl rfl ?_) | (refine VRead.atK hkl ?_) | (refine VRead.load1 hkc ?_) | (refine VL.cons ?_) | (refine VL.nil ?_) | (refine VC.seqS rfl ?_) | (refine VC.region ?_) | (refine VC.draw ?_) | (refine VC.cond ?_) | (refine VC.exit ?_) | (refine VBool.dF (by omega) ?_) | (refine VRead.lenS ?_) | (refine VRead.fld ?_) | (refine VC.seq ?_)); (conv => whnf)))
    refine VDraw.lasts (fun Y => Below W.heap.size W Y) [([0, 1, 2, 3, 4, 5, 6, 8, 9, 10, 11, 12, 13, 14], 7), ([], 15)] [16, 17] 18 (by kernel_rfl) (by kernel_rfl) hX1 ?_
    generalize X.drewN 1 = X1 at *
    (conv => whnf)
    (repeat ((first | (refine VRead.loadBS kB rfl rfl ?_) | (refine VQ.cons ?_) | (refine VE.cons ?_) | (refine VRead.fld ?_)); (conv => whnf)))
    refine VRead.cutKH k (by omega) (by omega) ?_
    (conv => whnf)
    (repeat ((first | (refine VRead.loadBS kB rfl rfl ?_) | (refine VQ.cons ?_) | (refine VRead.fld ?_) | (refine VWrap.i64 (by omega) (by omega) ?_)); (conv => whnf)))
    refine VRead.cutKL (k + 1) (by omega) (by omega) ?_
    (conv => whnf)
    ((repeat ((first | (refine VQ.nil ?_)); (conv => whnf))))
    refine VSem.appOn (World.ownsRow_nil X1 W.heap.size _ _) (hr0.below hX1) (by omega) hX1.size ?_
    intro A2 c2 X2 hrow2 hB2
    rw [Nat.zero_add] at hrow2 ⊢
    rw [List.nil_append] at hrow2
    have hX2 := hX1.trans hB2
    (conv => whnf)
    refine Keep.mk hX2 ?_
    (conv => whnf)
    ((repeat ((first | (refine VQ.nil ?_) | (refine VE.cons ?_)); (conv => whnf))))
    refine VSem.appOn hrow2 (hr1.below hX2) (by omega) hX2.size ?_
    intro A3 c3 X3 hrow3 hB3
    have hX3 := hX2.trans hB3
    (conv => whnf)
    refine Keep.mk hX3 ?_
    (conv => whnf)
    ((repeat ((first | (refine VQ.cons ?_) | (refine VQ.nil ?_) | (refine VE.nil ?_) | (refine VRead.fld ?_)); (conv => whnf))))
    refine VUnit.storeB (kB X3 hX3) rfl rfl rfl ?_
    intro X4 hb4 hg4
    (conv => whnf)
    refine Keep.mk trivial ?_
    ((conv => whnf); (repeat ((fail); (conv => whnf))))
    ((repeat ((fail); (conv => whnf))))
    rw [← rowO_app, ← hcut] at hrow3
    have hl : (tdel S.t (oldest S.t)).length = k + (S.t.length - (k + 1)) := by rw [hcut, List.length_append, List.length_take, List.length_drop]; omega
    have hne : some r ≠ (Value.slice A3 (k + (S.t.length - (k + 1))) c3).ownBlock := fun e => by
      have := (World.ownsRow.lt hrow3 r e.symm).1
      have := hb.lt
      omega
    have hrow4 := rows_apart hrow3 hg4 (fun q e hq => hne (by rw [hq]; exact e))
    rw [← hl] at hrow4
    refine ⟨oldest S.t, tdel S.t (oldest S.t), A3, c3, rfl, by rw [if_pos full], by omega, hris.del, ?_, by rw [hl]; exact hb4, rows_more hrow4 (Nat.zero_le _), (Out.new hX3).trans (Out.grown hg4 hat.hr)⟩
    exact tfind_not (fun hm => by
      have hm2 : id ∈ S.t.map (·.1) := by
        unfold tdel at hm
        exact (List.filter_sublist.map _).subset hm
      obtain ⟨p, hp, e⟩ := List.mem_map.1 hm2
      have := tfind_of hris.nd (show (p.1, p.2) ∈ S.t from hp)
      rw [e, hf] at this
      cases this)
  rintro τ vs X ⟨gone, T1, A1, cc, rfl, eg, hlen1, hR1, hf1, hbX, hrowX, hOX⟩
  rw [eg] at hwf' ⊢
  have hcap1 := row_capO hrowX
  have cellX : ∀ (i k : Nat) (p : Int × Se) (v : Value), T1[i]? = some p → (oneC p).toList[k]? = some v → ∃ g, A1 = some ⟨g, 0, none⟩ ∧ X.cell? (((⟨g, 0, none⟩ : Addr).add (i * 8)).add k) = some v := fun i k p v hp hv => by
    have hi := (List.getElem?_eq_some_iff.1 hp).1
    obtain ⟨g, rfl⟩ := row_addr' hrowX (by omega)
    exact ⟨g, rfl, by rw [addO, ← add0O]; exact hrowX.cells rfl (i * 8 + k) v (rowO_at hp hv)⟩
  have hrX := Reads.row hrowX
  have hXs := hOX.size
  have hrl := hat.hr
  have hrlt := hb.lt
  have fin : ∀ k : Nat, k ≤ T1.length → (∀ (i : Nat) (p : Int × Se), k ≤ i → T1[i]? = some p → id < p.1) → (k = 0 ∨ ∃ p, T1[k - 1]? = some p ∧ ¬ id < p.1) → ∀ (A4 : Option Addr) (c4 : Nat) (X4 X5 : World), X4.ownsRow X.heap.size 56 8 (.slice A4 (T1.length + 1) c4) (T1.length + 1) (rowO (T1.take k) ++ rowO [(id, fresh id)] ++ rowO (T1.drop k)) → Below X.heap.size X X4 → Blk X5 r 29 #[.slice A4 (T1.length + 1) c4, .int .i64 S.most] → X4.grownBy X5 (some r) →
      ∃ U', Rt X5 U' r ⟨S.most, tset T1 id (fresh id)⟩ ∧ Step W U X5 U' := fun k hk hup hlo A4 c4 X4 X5 ho hB hb5 hg => by
    have et := tset_place (f := fresh id) hR1 hk hf1 hup hlo
    have hl : (tset T1 id (fresh id)).length = T1.length + 1 := by rw [et, List.length_append, List.length_cons, List.length_take, List.length_drop]; omega
    have er : rowO (T1.take k) ++ rowO [(id, fresh id)] ++ rowO (T1.drop k) = rowO (tset T1 id (fresh id)) := by
      rw [et, ← rowO_app, ← rowO_app, List.append_assoc]
      rfl
    rw [er] at ho
    have hbl := hbX.lt
    have ho5 := rows_apart ho hg (fun q e hq => by
      have h1 := (World.ownsRow.lt ho q hq).1
      have h2 : r = q := by injection e
      omega)
    refine ⟨_, Rt.mk' hwf' hl hb5 (rows_more ho5 (Nat.zero_le _)), ⟨(hOX.trans (Out.new hB)).trans (Out.grown hg hrl), fun j hj => ?_⟩⟩
    rcases hj with rfl | hj
    · exact .inl hrl
    · right
      have := (World.ownsRow.lt ho5 j hj).1
      omega
  ((conv => whnf); (repeat ((first | (refine VL.cons ?_) | (refine VC.seqS rfl ?_) | (refine VC.region ?_)); (conv => whnf))))
  (repeat ((first | (refine VRead.loadB hbX rfl rfl ?_) | (refine VL.cons ?_) | (refine VL.nil ?_) | (refine VC.block ?_) | (refine VRead.lenS ?_) | (refine VRead.fld ?_) | (refine VC.seq ?_)); (conv => whnf)))
  refine VC.loop [9] [(9, 9), (91, 107)] (fun q vs Y => ∃ k : Nat, vs = [.int .i64 (k : Int)] ∧ q = k ∧ k ≤ T1.length ∧ Y = X ∧ ∀ (i : Nat) (p : Int × Se), k ≤ i → T1[i]? = some p → id < p.1) (by kernel_rfl)
    ⟨_, T1.length, rfl, rfl, Nat.le_refl _, rfl, fun i p hi hp => by have := (List.getElem?_eq_some_iff.1 hp).1; omega⟩ ?_
  rintro q τ2 vs Y ⟨k, rfl, hqk, hk, hYX, hup⟩
  obtain rfl := hYX.symm
  have hcase : (k = 0 ∨ ∃ p, T1[k - 1]? = some p ∧ ¬ id < p.1) ∨ ∃ m p, k = m + 1 ∧ T1[m]? = some p ∧ id < p.1 := by
    cases k with
    | zero => exact .inl (.inl rfl)
    | succ m =>
      obtain ⟨p, hp⟩ : ∃ p, T1[m]? = some p := ⟨_, List.getElem?_eq_getElem (by omega)⟩
      by_cases hi : id < p.1
      · exact .inr ⟨m, p, rfl, hp, hi⟩
      · exact .inl (.inr ⟨p, by simpa using hp, hi⟩)
  rcases hcase with hlo | ⟨m, p, rfl, hp, hi⟩
  case inr =>
    obtain ⟨g, rfl, hc⟩ := cellX m 0 p _ hp rfl
    ((conv => whnf); (repeat ((fail); (conv => whnf))))
    (repeat ((first | (refine VRead.loadB hbX rfl rfl ?_) | (refine VRead.atKZO m (by omega) (by omega) ?_) | (refine VRead.load1 hc ?_) | (refine VBool.dT hi ?_) | (refine VL.cons ?_) | (refine VL.nil ?_) | (refine VC.seqS rfl ?_) | (refine VC.region ?_) | (refine VC.cond ?_) | (refine VC.block ?_) | (refine VC.skip ?_) | (refine VBool.t ?_) | (refine VBool.dT (by omega) ?_) | (refine VRead.fld ?_) | (refine VWrap.i64 (by omega) (by omega) ?_) | (refine VC.seq ?_)); (conv => whnf)))
    refine ⟨_, by omega, m, ?_, rfl, by omega, rfl, fun i q hmi hq => ?_⟩
    · show [Value.int .i64 (((m + 1 : Nat) : Int) - 1)] = _
      rw [show ((m + 1 : Nat) : Int) - 1 = (m : Int) by omega]
    · rcases Nat.lt_or_ge m i with h' | h'
      · exact hup i q (by omega) hq
      · obtain rfl : i = m := by omega
        rw [hp] at hq
        obtain rfl := Option.some.inj hq
        exact hi
  have hr0 := hrX.takeK (z := k) (by omega)
  rw [rowO_take T1 k (by omega)] at hr0
  have hr1 := hrX.cut (k := k) (cap := cc) (by omega) hcap1
  rw [rowO_drop T1 k (by omega)] at hr1
  replace hr1 : Reads X X.heap.size 8 (cutK A1 cc k 8) (T1.length - k) (rowO (T1.drop k)) := hr1
  have hfin := fin k hk hup hlo
  clear fin
  by_cases hk0 : k = 0
  case' pos =>
    ((conv => whnf); (repeat ((fail); (conv => whnf))))
    (repeat ((first | (refine VRead.loadB hbX rfl rfl ?_) | (refine VL.cons ?_) | (refine VL.nil ?_) | (refine VC.seqS rfl ?_) | (refine VC.region ?_) | (refine VC.cond ?_) | (refine VC.exit ?_) | (refine VBool.f ?_) | (refine VBool.dF (by omega) ?_) | (refine VRead.fld ?_) | (refine VC.seq ?_)); (conv => whnf)))
  case' neg =>
    obtain ⟨p, hp, hi⟩ := hlo.resolve_left hk0
    obtain ⟨g, hA1, hc⟩ := cellX (k - 1) 0 p _ hp rfl
    subst hA1
    ((conv => whnf); (repeat ((fail); (conv => whnf))))
    (repeat ((first | (refine VRead.loadB hbX rfl rfl ?_) | (refine VRead.atKZO (k - 1) (by omega) (by omega) ?_) | (refine VRead.load1 hc ?_) | (refine VBool.dF hi ?_) | (refine VL.cons ?_) | (refine VL.nil ?_) | (refine VC.seqS rfl ?_) | (refine VC.region ?_) | (refine VC.cond ?_) | (refine VC.exit ?_) | (refine VBool.t ?_) | (refine VBool.dT (by omega) ?_) | (refine VRead.fld ?_) | (refine VWrap.i64 (by omega) (by omega) ?_) | (refine VC.seq ?_)); (conv => whnf)))
  all_goals
    refine VRead.cutKH k (by omega) (by omega) ?_
    ((conv => whnf); (repeat ((first | (refine VL.cons ?_)); (conv => whnf))))
    ((repeat ((fail); (conv => whnf))))
    refine VSem.appOn (World.ownsRow_nil X X.heap.size _ _) hr0 (by omega) (Nat.le_refl _) ?_
    intro A2 c2 X2 hrow2 hB2
    rw [Nat.zero_add] at hrow2 ⊢
    rw [List.nil_append] at hrow2
    ((conv => whnf); (repeat ((first | (refine VL.cons ?_) | (refine VL.nil ?_) | (refine VC.seqS rfl ?_) | (refine VC.region ?_)); (conv => whnf))))
    ((repeat ((fail); (conv => whnf))))
    refine VRead.ofW (v := .agg (oneC (id, fresh id))) (fun _ => by kernel_rfl) ?_
    ((conv => whnf); (repeat ((first | (refine VL.cons ?_)); (conv => whnf))))
    ((repeat ((fail); (conv => whnf))))
    refine VSem.oneOn ?_
    intro X3 hr3 hB3
    have hB23 : Below X.heap.size X X3 := hB2.trans (hB3.mono hB2.size)
    ((conv => whnf); (repeat ((first | (refine VL.cons ?_)); (conv => whnf))))
    ((repeat ((fail); (conv => whnf))))
    refine VSem.appOn (rows_below hrow2 hB3 (Nat.le_refl _)) hr3 (by omega) hB23.size ?_
    intro A4 c4 X4 hrow4 hB4
    have hB24 := hB23.trans hB4
    have hb4 := hbX.laterT hB24
    ((conv => whnf); (repeat ((first | (refine VL.cons ?_) | (refine VL.nil ?_) | (refine VC.seqS rfl ?_) | (refine VC.region ?_)); (conv => whnf))))
    (repeat ((first | (refine VRead.loadB hb4 rfl rfl ?_) | (refine VL.cons ?_) | (refine VRead.fld ?_)); (conv => whnf)))
    refine VRead.cutKL k (by omega) (by omega) ?_
    ((conv => whnf); (repeat ((first | (refine VL.cons ?_)); (conv => whnf))))
    ((repeat ((fail); (conv => whnf))))
    refine VSem.appOn hrow4 (hr1.below hB24) (by omega) hB24.size ?_
    intro A5 c5 X5 hrow5 hB5
    have hB25 := hB24.trans hB5
    have e9 : k + 1 + (T1.length - k) = T1.length + 1 := by omega
    rw [e9] at hrow5 ⊢
    ((conv => whnf); (repeat ((first | (refine VL.cons ?_)); (conv => whnf))))
    ((repeat ((first | (refine VL.cons ?_) | (refine VRead.fld ?_)); (conv => whnf))))
    refine VUnit.storeB (hbX.laterT hB25) rfl rfl rfl ?_
    intro X6 hb6 hg6
    ((conv => whnf); (repeat ((first | (refine VL.cons ?_) | (refine VL.nil ?_) | (refine VC.seqS rfl ?_) | (refine VC.region ?_) | (refine VC.ret ?_)); (conv => whnf))))
    ((repeat ((fail); (conv => whnf))))
    exact ⟨rfl, hfin A5 c5 X5 X6 hrow5 hB25 hb6 hg6⟩
end Go.Proofs.YtnjhdbgejhnpfaaDoor
end

section
set_option maxRecDepth 10000
namespace Go.Proofs.YtnjhdbgejhnpfaaDoor
set_option linter.unusedVariables false
open Go.RowKit
open Go.Maps (Keyed)
open Go.ChangeMaps Go.WideElems

/-! ### what was put is read -/
theorem intS_put {v : Int} (h : i64' v) (t : List UInt8) : Wire.intS (some (Wire.int v ++ t)) = (v, some t) := by
  unfold Wire.intS
  simp only
  rw [Wire.getInt_int h]
theorem countS_put {most : Int} {n : Nat} {t : List UInt8} (h1 : (n : Int) ≤ most) (h2 : n ≤ t.length) (h3 : n ≤ 9223372036854775807) : Wire.countS most (some (Wire.int (n : Int) ++ t)) = ((n : Int), some t) := by
  unfold Wire.countS
  rw [intS_put (by unfold i64'; omega)]
  simp only
  rw [if_neg (by omega)]
theorem textS_put {most : Int} {s t : List UInt8} (h1 : (s.length : Int) ≤ most) (h3 : s.length ≤ 9223372036854775807) : Wire.textS most (some (Wire.text s ++ t)) = (s, some t) := by
  unfold Wire.textS Wire.text
  rw [List.append_assoc, countS_put h1 (by simp) h3]
  simp
theorem VOk_le {k n : Int} {s : List UInt8} (h : VOk k n s = true) : 0 ≤ k ∧ k ≤ 4 ∧ s.length ≤ 400 := by
  unfold VOk at h
  split at h
  · simp at h; rw [h.2]; subst_vars; simp
  · split at h
    · simp at h; rw [h]; subst_vars; simp
    · split at h
      · simp at h; rw [h.2]; subst_vars; simp
      · split at h
        · unfold textOk at h; simp at h; subst_vars; exact ⟨by decide, by decide, h.2.1.1⟩
        · split at h
          · simp at h; rw [h.2]; subst_vars; simp
          · cases h
theorem vGetS_put {k n : Int} {s : List UInt8} (h : VOk k n s = true) (hn : i64' n) (t : List UInt8) : vGetS (some (vB k n s ++ t)) = ((k, n, s), some t) := by
  obtain ⟨h1, h2, h3⟩ := VOk_le h
  unfold vGetS vB
  rw [List.append_assoc, List.append_assoc, intS_put (by unfold i64'; omega)]
  simp only
  rw [intS_put hn]
  simp only
  rw [textS_put (by omega) (by omega)]
  simp only
  rw [h]
  rfl
theorem ROk_le {r : Rp} (h : ROk r = true) : 0 ≤ r.err ∧ r.err ≤ 24 ∧ 0 ≤ r.n ∧ r.n ≤ 1099511627776 ∧ VOk r.kind r.vn r.s = true := by
  unfold ROk at h
  simp at h
  exact ⟨h.1.1.1.1, h.1.1.1.2, h.1.1.2, h.1.2, h.2⟩
theorem getR_put {r : Rp} (h : ROk r = true) (hv : i64' r.vn) : getR (rB r) = (r, true) := by
  obtain ⟨h1, h2, h3, h4, h5⟩ := ROk_le h
  have e0 : rB r = Wire.int r.err ++ (Wire.int r.n ++ (vB r.kind r.vn r.s ++ [])) := by unfold rB; simp
  have e1 : Wire.intS (some (rB r)) = (r.err, some (Wire.int r.n ++ (vB r.kind r.vn r.s ++ []))) := by rw [e0]; exact intS_put (by unfold i64'; omega) _
  have e2 : Wire.intS (some (Wire.int r.n ++ (vB r.kind r.vn r.s ++ []))) = (r.n, some (vB r.kind r.vn r.s ++ [])) := intS_put (by unfold i64'; omega) _
  have e3 := vGetS_put h5 hv []
  have e4 : rdR (rB r) = r := by unfold rdR; rw [e1]; simp only; rw [e2]; simp only; rw [e3]
  have e5 : rdS (rB r) = some [] := by unfold rdS; rw [e1]; simp only; rw [e2]; simp only; rw [e3]
  unfold getR
  rw [e4, e5, h]
  rfl
theorem rB_le {r : Rp} (h : ROk r = true) : (rB r).length ≤ 450 := by
  obtain ⟨h1, h2, h3, h4, h5⟩ := ROk_le h
  have := (VOk_le h5).2.2
  have a1 := (Wire.int_len r.err).2
  have a2 := (Wire.int_len r.n).2
  have a3 := (Wire.int_len r.kind).2
  have a4 := (Wire.int_len r.vn).2
  have a5 := (Wire.int_len (r.s.length : Int)).2
  unfold rB vB Wire.text
  simp only [List.length_append]
  omega
/-! ### tables -/
structure SeOk (i : Int) (x : Se) : Prop where
  used : i ≤ x.used ∧ x.used ≤ 1099511627776
  seq : 0 ≤ x.seq ∧ x.seq ≤ 1099511627776
  rp : ROk x.rp = true
  vn : i64' x.rp.vn
  none_ : x.seq = 0 → x.rp = Rp.zero
def TOk (T : STb) : Prop := ∀ p ∈ T, SeOk p.1 p.2
def enB (p : Int × Se) : List UInt8 := Wire.int p.1 ++ Wire.int p.2.used ++ Wire.int p.2.seq ++ Wire.text (rB p.2.rp)
def tabB : STb → List UInt8
  | [] => []
  | p :: r => enB p ++ tabB r
def SS.put (S : SS) : List UInt8 := Wire.int (S.t.length : Int) ++ tabB S.t
theorem tabB_snoc (p : Int × Se) : ∀ (A : STb), tabB (A ++ [p]) = tabB A ++ enB p
  | [] => by simp [tabB]
  | q :: A => by
    show enB q ++ tabB (A ++ [p]) = (enB q ++ tabB A) ++ enB p
    rw [tabB_snoc p A, List.append_assoc]
theorem sLook0 {W : World} {m c : Nat} {L : STb} {i : Int} {Q : Value → World → Prop} (h : MapS W m c L) (hi : -9223372036854775808 ≤ i ∧ i ≤ 9223372036854775807)
    (hk : Q (sLookV L i) W) : VSem Tryd.prog (Instr.lookup 42 (.map (some m)) (ikey i) false) W Q := by
  obtain ⟨n, D, h1, h2, R⟩ := h
  refine VSem.mapAt h2 i_keyed (z := seZ) seZ_run (i_key hi) ?_
  unfold sLookV at hk
  cases hf : tfind L i with
  | none =>
    rw [hf] at hk
    rw [mval_not (R.hasF ilit_inj (tfind_none hf))]
    exact hk
  | some p =>
    rw [hf] at hk
    rw [R.at_ (i, p) (tfind_mem hf)]
    exact hk
theorem lenS {S : World → Prop} {ty : Nat} {m nD : Nat} {L : STb} {D : DataW Value} {Q : Value → Prop} (h : ∀ W, S W → MapIs Tryd.prog 3 W m nD D) (R : Rel Tryd.prog 3 ikey ilit seV D L) (hk : Q (.int .i64 (L.length : Int))) :
    VRead Tryd.prog S (Builtin.len_ #[42] ty [.map (some m)].toArray) Q := by
  refine VRead.mapLen h ?_
  rw [R.size]; exact hk
set_option maxHeartbeats 4000000 in
theorem sPut_any (W : World) (U : Foot) (d c : Nat) (S : SS) (A : Option Addr) (n k : Nat) (l : List UInt8) (h : Tbl W U d c S) (hok : TOk S.t) (hn : n ≤ 1000000) (hnk : n ≤ k) (hr : Reads W W.heap.size 1 A n (bv l)) :
    Calls Tryd.prog 21 #[.pointer (some ⟨d, 0, none⟩), .slice A n k] W fun e W' => ∃ A' m c', e = .returned (.slice A' m c') ∧ Own W' W.heap.size (.slice A' m c') m (l ++ S.put) ∧ m ≤ n + 50000 ∧ m ≤ c' ∧ Below W.heap.size W W' := by
  have hT := h
  obtain ⟨hwf, m, h⟩ := h
  have hfew := hwf.few
  have hmost := hwf.most
  have hb := h.blk
  obtain ⟨nD, D, h1, h2, R⟩ := h.map
  refine calls_vc Tryd.func21 rfl (by kernel_rfl) ?_
  ((conv => whnf); (repeat ((first | (refine VL.cons ?_) | (refine VL.nil ?_) | (refine VC.seqS rfl ?_) | (refine VC.region ?_)); (conv => whnf))))
  (repeat (first | ((first | (refine VL.cons ?_) | (refine VRead.fld ?_)); (conv => whnf)) | (refine VRead.loadB hb rfl rfl ?_; (conv => whnf)) | (refine lenS (fun _ e => e ▸ h2) R ?_; (conv => whnf))))
  refine VCall.of (putInt_up (B := W.heap.size) A n k l (S.t.length : Int) W (Nat.le_refl _) (by omega) hnk (by unfold i64'; omega) hr) ?_
  rintro e W1 ⟨A1, n1, c1, rfl, hO1, hn1, hc1, hB1⟩
  refine ⟨_, rfl, ?_⟩
  ((conv => whnf); (repeat ((first | (refine VL.cons ?_) | (refine VL.nil ?_)); (conv => whnf))))
  ((repeat ((first | (refine VL.cons ?_) | (refine VC.seqS rfl ?_) | (refine VC.region ?_) | (refine VC.seq ?_)); (conv => whnf))))
  refine VCall.of (sIDs_any W1 U d c S (hT.below hB1 (Nat.le_refl _))) ?_
  rintro e W2 ⟨Ai, ki, rfl, hI, hB2⟩
  refine ⟨_, rfl, ?_⟩
  have hB02 := hB1.trans (hB2.mono hB1.size)
  have hI2 := Reads.row hI
  have hO2 := rows_below hO1 hB2 (Nat.le_refl _)
  ((conv => whnf); (repeat ((first | (refine VL.cons ?_)); (conv => whnf))))
  ((repeat ((first | (refine VL.cons ?_) | (refine VL.nil ?_) | (refine VC.block ?_) | (refine VRead.lenS ?_)); (conv => whnf))))
  refine VC.loop [1, 18] [(1, 1), (6, 7), (18, 43)] (fun q vs w => ∃ (T0 T1 : STb) (A2 : Option Addr) (n2 c2 : Nat), vs = [.slice A2 n2 c2, .int .i64 (T0.length : Int)] ∧ q = T1.length ∧ S.t = T0 ++ T1 ∧ Own w W.heap.size (.slice A2 n2 c2) n2 (l ++ Wire.int (S.t.length : Int) ++ tabB T0) ∧ n2 ≤ n + 10 + 600 * T0.length ∧ n2 ≤ c2 ∧ Below W2.heap.size W2 w) (by kernel_rfl)
    ⟨_, [], S.t, A1, n1, c1, rfl, rfl, rfl, (by rw [show l ++ Wire.int (S.t.length : Int) ++ tabB [] = l ++ Wire.int (S.t.length : Int) by simp [tabB]]; exact hO2), by simpa using hn1, hc1, Below.refl _ _⟩ ?_
  clear hr hO1 hO2 hI
  rintro q τ vs w ⟨T0, T1, A2, n2, c2, rfl, rfl, hS, hO, hn2, hc2, hBw⟩
  have hTl : S.t.length = T0.length + T1.length := by rw [hS]; simp
  have hBW := hB02.trans (hBw.mono hB02.size)
  cases T1 with
  | nil =>
    rw [List.append_nil] at hS
    simp only [List.length_nil] at hTl
    ((conv => whnf); (repeat ((first | (refine VL.cons ?_) | (refine VL.nil ?_) | (refine VC.seqS rfl ?_) | (refine VC.region ?_)); (conv => whnf))))
    ((repeat ((first | (refine VL.cons ?_) | (refine VL.nil ?_) | (refine VC.seqS rfl ?_) | (refine VC.region ?_) | (refine VC.cond ?_) | (refine VC.exit ?_) | (refine VC.ret ?_) | (refine VBool.dF (by omega) ?_) | (refine VC.seq ?_)); (conv => whnf))))
    refine ⟨A2, n2, c2, rfl, ?_, by omega, hc2, hBW⟩
    unfold SS.put
    rw [hS] at hO ⊢
    rw [← List.append_assoc]
    exact hO
  | cons p T1 =>
    simp only [List.length_cons] at hTl
    have hp : p ∈ S.t := by rw [hS]; simp
    have hpo := hok p hp
    have hpi := hwf.ids p hp
    have hrl := rB_le hpo.rp
    obtain ⟨q1, q2, q3, q4, q5⟩ := ROk_le hpo.rp
    have hvl := VOk_le q5
    have hu := hpo.used
    have hsq := hpo.seq
    have hf : tfind S.t p.1 = some p.2 := tfind_of hwf.ris.nd hp
    have hV : sLookV S.t p.1 = seV p.2 := by unfold sLookV; rw [hf]
    obtain ⟨ai, u, rfl, hai, hui, hci⟩ := (hI2.below hBw).at_ (k := T0.length) (by omega)
    obtain rfl : u = .int .i64 p.1 := by
      rw [hS] at hui
      unfold iv at hui
      simp at hui
      exact hui.symm
    have hbw := hb.below hBW hb.lt
    have hMw : MapS w m c S.t := (show MapS W m c S.t from ⟨nD, D, h1, h2, R⟩).below hBW (Nat.le_refl _)
    ((conv => whnf); (repeat ((first | (refine VL.cons ?_) | (refine VL.nil ?_) | (refine VC.seqS rfl ?_) | (refine VC.region ?_)); (conv => whnf))))
    (repeat (first | ((first | (refine VL.cons ?_) | (refine VL.nil ?_) | (refine VC.seqS rfl ?_) | (refine VC.region ?_) | (refine VC.cond ?_) | (refine VC.block ?_) | (refine VC.skip ?_) | (refine VBool.dT (by omega) ?_) | (refine VRead.fld ?_) | (refine VRead.load1 (by assumption) ?_) | (refine VRead.at1 (by omega) ?_) | (refine VC.seq ?_)); (conv => whnf)) | (refine VRead.loadB hbw rfl rfl ?_; (conv => whnf))))
    refine sLook0 hMw (by omega) ?_
    rw [hV]
    ((conv => whnf); (repeat ((first | (refine VL.cons ?_)); (conv => whnf))))
    ((repeat ((fail); (conv => whnf))))
    refine VSem.allocZ (z := seZ) (by kernel_rfl) ?_
    intro w1 g hb1 hgb hlb hB3
    ((conv => whnf); (repeat ((first | (refine VL.cons ?_)); (conv => whnf))))
    ((repeat ((fail); (conv => whnf))))
    refine VUnit.storeAB hb1 rfl rfl rfl (by simp [seC, Value.oneCell']) ?_
    intro w2 hb2' hg2
    replace hb2' : Blk w2 g 68 #[.int .i64 p.2.used, .int .i64 p.2.seq, .int .i64 p.2.rp.err, .int .i64 p.2.rp.n, .int .i64 p.2.rp.kind, .int .i64 p.2.rp.vn, .string (txt p.2.rp.s)] := hb2'
    have hw2 : Below w.heap.size w w2 := only_new hB3 hg2 (by omega) (by omega)
    have hOw2 := rows_below hO hw2 (Nat.le_refl _)
    have hs0 := hBW.size
    have hs2 := hw2.size
    have hS2 : Below w2.heap.size w2 (w2.drewN 1) := below_drewN (Below.refl _ _) 1
    have kB : ∀ X, Below w2.heap.size w2 X → Blk X g 68 #[.int .i64 p.2.used, .int .i64 p.2.seq, .int .i64 p.2.rp.err, .int .i64 p.2.rp.n, .int .i64 p.2.rp.kind, .int .i64 p.2.rp.vn, .string (txt p.2.rp.s)] := fun X hX => hb2'.below hX hb2'.lt
    ((conv => whnf); (repeat ((first | (refine VL.nil ?_)); (conv => whnf))))
    ((repeat ((first | (refine VC.draw ?_) | (refine VC.seq ?_)); (conv => whnf))))
    refine VDraw.seg (fun X => Below w2.heap.size w2 X) [([0, 1, 3, 4, 6, 7], 2), ([], 5), ([], 8)] [9] (by kernel_rfl) (by kernel_rfl) hS2 ?_
    (conv => whnf)
    (repeat ((first | (refine VRead.loadBS kB rfl rfl ?_) | (refine VQ.cons ?_) | (refine VQ.nil ?_) | (refine VG.cons ?_) | (refine VRead.fld ?_)); (conv => whnf)))
    refine VCall.of (putInt_up (B := W.heap.size) A2 n2 c2 _ p.1 (w2.drewN 1) (by show W.heap.size ≤ w2.heap.size; omega) (by omega) hc2 (by unfold i64'; omega) (Own.reads (rows_below hOw2 hS2 (Nat.le_refl _)))) ?_
    rintro e w3 ⟨A3, n3, c3, rfl, hO3, hn3, hc3, hB4⟩
    refine ⟨_, rfl, ?_⟩
    have hS3 := hS2.trans hB4
    (conv => whnf)
    refine Keep.mk hS3 ?_
    (conv => whnf)
    ((repeat ((first | (refine VQ.nil ?_) | (refine VG.cons ?_)); (conv => whnf))))
    refine VCall.of (putInt_up (B := W.heap.size) A3 n3 c3 _ p.2.used w3 (by have := hS3.size; omega) (by omega) hc3 (by unfold i64'; omega) hO3.reads) ?_
    rintro e w4 ⟨A4, n4, c4, rfl, hO4, hn4, hc4, hB5⟩
    refine ⟨_, rfl, ?_⟩
    have hS4 := hS3.trans (hB5.mono hS3.size)
    (conv => whnf)
    refine Keep.mk hS4 ?_
    (conv => whnf)
    ((repeat ((first | (refine VQ.nil ?_) | (refine VG.cons ?_)); (conv => whnf))))
    refine VCall.of (putInt_up (B := W.heap.size) A4 n4 c4 _ p.2.seq w4 (by have := hS4.size; omega) (by omega) hc4 (by unfold i64'; omega) hO4.reads) ?_
    rintro e w5 ⟨A5, n5, c5, rfl, hO5, hn5, hc5, hB6⟩
    refine ⟨_, rfl, ?_⟩
    have hS5 := hS4.trans (hB6.mono hS4.size)
    (conv => whnf)
    refine Keep.mk hS5 ?_
    (conv => whnf)
    have hb5 := kB w5 hS5
    (repeat (first | ((first | (refine VL.cons ?_) | (refine VC.region ?_) | (refine VQ.cons ?_) | (refine VQ.nil ?_) | (refine VG.nil ?_) | (refine VRead.fld ?_)); (conv => whnf)) | (refine VRead.loadABi (vs := rpC p.2.rp) 2 (fun _ e => e ▸ hb5) rfl rfl (by intro j hj; match j, hj with | 0, _ => rfl | 1, _ => rfl | 2, _ => rfl | 3, _ => rfl | 4, _ => rfl) ?_; (conv => whnf))))
    refine VCall.of (rPut_any p.2.rp w5 (by omega) (by unfold i64'; omega) (by unfold i64'; omega) (by unfold i64'; omega) hpo.vn) ?_
    rintro e w6 ⟨A6, n6, c6, rfl, hO6, hn6, hc6, hB7⟩
    refine ⟨_, rfl, ?_⟩
    have hS6 := hS5.trans (hB7.mono hS5.size)
    have hO56 := rows_below hO5 hB7 (Nat.le_refl _)
    ((conv => whnf); (repeat ((first | (refine VL.cons ?_)); (conv => whnf))))
    ((repeat ((fail); (conv => whnf))))
    refine VSem.convT (Own.reads hO6) ?_
    ((conv => whnf); (repeat ((first | (refine VL.cons ?_)); (conv => whnf))))
    ((repeat ((fail); (conv => whnf))))
    refine VCall.of (putText_up (B := W.heap.size) A5 n5 c5 _ (rB p.2.rp) w6 (by have := hS6.size; omega) (by omega) hc5 (Own.reads hO56)) ?_
    rintro e w7 ⟨A7, n7, c7, rfl, hO7, hn7, hc7, hB8⟩
    refine ⟨_, rfl, ?_⟩
    have hS7 := hS6.trans (hB8.mono hS6.size)
    ((conv => whnf); (repeat ((first | (refine VL.cons ?_) | (refine VL.nil ?_) | (refine VC.region ?_)); (conv => whnf))))
    ((repeat ((first | (refine VL.cons ?_) | (refine VL.nil ?_) | (refine VWrap.i64 (by omega) (by omega) ?_)); (conv => whnf))))
    refine ⟨_, by simp, T0 ++ [p], T1, A7, n7, c7, ?_, rfl, by rw [hS]; simp, ?_, ?_, hc7, hBw.trans ((hw2.trans (hS7.mono hw2.size)).mono hBw.size)⟩
    · simp only [List.length_append, List.length_cons, List.length_nil]; rfl
    · rw [tabB_snoc]
      unfold enB
      simpa only [List.append_assoc] using hO7
    · simp only [List.length_append, List.length_cons, List.length_nil]
      omega
end Go.Proofs.YtnjhdbgejhnpfaaDoor
end

section
set_option maxRecDepth 10000
namespace Go.Proofs.YtnjhdbgejhnpfaaDoor
set_option linter.unusedVariables false
open Go.RowKit
open Go.Maps (Keyed)
open Go.ChangeMaps Go.WideElems

theorem ne_fields (W : World) {r q : Rp} (h : r ≠ q) : (Op.equalIn 10000 34 (.agg (rpC r)) (.agg (rpC q))).run Tryd.prog W = .ok false W := by
  have hp : Tryd.prog.stoodInHeld 34 = false := by kernel_rfl
  have hp2 : Tryd.prog.stoodInHeld 32 = false := by kernel_rfl
  have ht : Tryd.prog.underlying 34 = some (.struct (Tryd.prog.fieldsOf 34)) := by unfold Program.fieldsOf; rw [Tryd.underlying34]
  have ht2 : Tryd.prog.underlying 32 = some (.struct (Tryd.prog.fieldsOf 32)) := by unfold Program.fieldsOf; rw [Tryd.underlying32]
  rw [run_equalIn_agg _ _ _ _ _ ht hp]
  unfold Program.fieldsOf
  rw [Tryd.underlying34]
  simp only [Op.eqFields]
  have e3 : ∀ r : Rp, (rpC r).extract 2 (2 + 3) = #[.int .i64 r.kind, .int .i64 r.vn, .string (txt r.s)] := fun _ => rfl
  simp only [Sem.run_ite, Sem.run_bind, ne_eq, reduceCtorEq, String.reduceEq, not_false_eq_true, if_true, not_true_eq_false, if_false]
  rw [part_cell (t := 30) (cs := rpC r) (o := 0) (v := .int .i64 r.err) rfl]
  simp only [Result.andThen_ok]
  rw [part_cell (t := 30) (cs := rpC q) (o := 0) (v := .int .i64 q.err) rfl]
  simp only [Result.andThen_ok]
  rw [run_equalIn_int _ _ _ _ .i64 _ _ Tryd.underlying30]
  by_cases h1 : r.err = q.err
  case neg => simp only [Result.andThen_ok, beq_eq_false_iff_ne.2 h1, Bool.not_false, if_true]; rfl
  simp only [Result.andThen_ok, h1, beq_self_eq_true, Bool.not_true, Bool.false_eq_true, if_false]
  rw [part_cell (t := 3) (cs := rpC r) (o := 1) (v := .int .i64 r.n) rfl]
  simp only [Result.andThen_ok]
  rw [part_cell (t := 3) (cs := rpC q) (o := 1) (v := .int .i64 q.n) rfl]
  simp only [Result.andThen_ok]
  rw [run_equalIn_int _ _ _ _ .i64 _ _ Tryd.underlying3]
  by_cases h2 : r.n = q.n
  case neg => simp only [Result.andThen_ok, beq_eq_false_iff_ne.2 h2, Bool.not_false, if_true]; rfl
  simp only [Result.andThen_ok, h2, beq_self_eq_true, Bool.not_true, Bool.false_eq_true, if_false]
  rw [part_agg (t := 32) (cs := rpC r) (o := 2), e3]
  simp only [Result.andThen_ok]
  rw [part_agg (t := 32) (cs := rpC q) (o := 2), e3]
  simp only [Result.andThen_ok]
  rw [run_equalIn_agg _ _ _ _ _ ht2 hp2]
  unfold Program.fieldsOf
  rw [Tryd.underlying32]
  simp only [Op.eqFields]
  simp only [Sem.run_ite, Sem.run_bind, ne_eq, reduceCtorEq, String.reduceEq, not_false_eq_true, if_true, not_true_eq_false, if_false]
  rw [part_cell (t := 3) (cs := #[.int .i64 r.kind, .int .i64 r.vn, .string (txt r.s)]) (o := 0) (v := .int .i64 r.kind) rfl]
  simp only [Result.andThen_ok]
  rw [part_cell (t := 3) (cs := #[.int .i64 q.kind, .int .i64 q.vn, .string (txt q.s)]) (o := 0) (v := .int .i64 q.kind) rfl]
  simp only [Result.andThen_ok]
  rw [run_equalIn_int _ _ _ _ .i64 _ _ Tryd.underlying3]
  by_cases h3 : r.kind = q.kind
  case neg => simp only [Result.andThen_ok, beq_eq_false_iff_ne.2 h3, Bool.not_false, if_true]; rfl
  simp only [Result.andThen_ok, h3, beq_self_eq_true, Bool.not_true, Bool.false_eq_true, if_false]
  rw [part_cell (t := 2) (cs := #[.int .i64 q.kind, .int .i64 r.vn, .string (txt r.s)]) (o := 1) (v := .int .i64 r.vn) rfl]
  simp only [Result.andThen_ok]
  rw [part_cell (t := 2) (cs := #[.int .i64 q.kind, .int .i64 q.vn, .string (txt q.s)]) (o := 1) (v := .int .i64 q.vn) rfl]
  simp only [Result.andThen_ok]
  rw [run_equalIn_int _ _ _ _ .i64 _ _ Tryd.underlying2]
  by_cases h4 : r.vn = q.vn
  case neg => simp only [Result.andThen_ok, beq_eq_false_iff_ne.2 h4, Bool.not_false, if_true]; rfl
  simp only [Result.andThen_ok, h4, beq_self_eq_true, Bool.not_true, Bool.false_eq_true, if_false]
  rw [part_cell (t := 9) (cs := #[.int .i64 q.kind, .int .i64 q.vn, .string (txt r.s)]) (o := 2) (v := .string (txt r.s)) rfl]
  simp only [Result.andThen_ok]
  rw [part_cell (t := 9) (cs := #[.int .i64 q.kind, .int .i64 q.vn, .string (txt q.s)]) (o := 2) (v := .string (txt q.s)) rfl]
  simp only [Result.andThen_ok]
  rw [run_equalIn_string _ _ _ _ _ Tryd.underlying9]
  have h5 : ¬ r.s = q.s := fun e => h (by cases r; cases q; simp only at h1 h2 h3 h4 e; rw [h1, h2, h3, h4, e])
  have h6 : ((txt r.s).toList == (txt q.s).toList) = false := by rw [Lib.toList_data, Lib.toList_data]; exact beq_eq_false_iff_ne.2 h5
  simp only [Result.andThen_ok, h6, Bool.not_false, if_true]
  rfl
theorem VRead.neRn {S : World → Prop} {x y : Operand} {r q : Rp} {K : Value → Prop} (h : r ≠ q) (hk : K (.bool true)) :
    VRead Tryd.prog S (do eqGuard .neq 34 x y (.agg (rpC r)) (.agg (rpC q)); binOp .neq 34 (.agg (rpC r)) (.agg (rpC q))) K :=
  .ofW (fun W => by rw [Sem.run_bind, run_eqGuard_agg _ _ _ _ _ _ _ (by kernel_rfl)]; simp only [Result.andThen_ok]; rw [run_neq_struct, ne_fields W h]; rfl) hk
end Go.Proofs.YtnjhdbgejhnpfaaDoor
end

section
set_option maxRecDepth 10000
namespace Go.Proofs.YtnjhdbgejhnpfaaDoor
set_option linter.unusedVariables false
open Go.RowKit
open Go.Maps (Keyed)
open Go.ChangeMaps Go.WideElems

instance : DecidableEq Rp := fun a b => by
  cases a; cases b
  rw [Rp.mk.injEq]
  infer_instance
/-! ### plain -/
def e1S (s : Option (List UInt8)) := Wire.intS s
def e2S (s : Option (List UInt8)) := Wire.intS (e1S s).2
def e3S (s : Option (List UInt8)) := Wire.intS (e2S s).2
def e4S (s : Option (List UInt8)) := Wire.textS 1000 (e3S s).2
structure LdOk (last : Int) (s : Option (List UInt8)) : Prop where
  ok : Wire.okS (e4S s).2 = true
  rp : (getR (e4S s).1).2 = true
  last : last < (e1S s).1
  u1 : (e1S s).1 ≤ (e2S s).1
  u2 : (e2S s).1 ≤ 1099511627776
  q1 : 0 ≤ (e3S s).1
  q2 : (e3S s).1 ≤ 1099511627776
  none_ : (e3S s).1 = 0 → (getR (e4S s).1).1 = Rp.zero
instance (last : Int) (s : Option (List UInt8)) : Decidable (LdOk last s) :=
  decidable_of_iff (Wire.okS (e4S s).2 = true ∧ (getR (e4S s).1).2 = true ∧ last < (e1S s).1 ∧ (e1S s).1 ≤ (e2S s).1 ∧ (e2S s).1 ≤ 1099511627776 ∧ 0 ≤ (e3S s).1 ∧ (e3S s).1 ≤ 1099511627776 ∧ ((e3S s).1 = 0 → (getR (e4S s).1).1 = Rp.zero))
    ⟨fun ⟨h1, h2, h3, h4, h5, h6, h7, h8⟩ => ⟨h1, h2, h3, h4, h5, h6, h7, h8⟩, fun ⟨h1, h2, h3, h4, h5, h6, h7, h8⟩ => ⟨h1, h2, h3, h4, h5, h6, h7, h8⟩⟩
def ldP (s : Option (List UInt8)) : Int × Se := ((e1S s).1, ⟨(e2S s).1, (e3S s).1, (getR (e4S s).1).1⟩)
def ldN : Nat → Int → STb → Option (List UInt8) → Option (STb × Option (List UInt8))
  | 0, _, acc, s => some (acc, s)
  | k + 1, last, acc, s => if LdOk last s then ldN k (e1S s).1 (acc ++ [ldP s]) (e4S s).2 else none
def SS.load (S : SS) (s : Option (List UInt8)) : Bool × SS × Option (List UInt8) :=
  match ldN (Wire.countS S.most s).1.toNat 0 [] (Wire.countS S.most s).2 with
  | none => (false, S, none)
  | some (T, s') => if Wire.okS s' = true then (true, ⟨S.most, T⟩, s') else (false, S, none)
theorem intS_i64 (s : Option (List UInt8)) : i64' (Wire.intS s).1 := by
  unfold Wire.intS
  cases s with
  | none => simp [i64']
  | some l =>
    simp only
    cases h : Wire.getInt l with
    | none => simp [i64']
    | some p =>
      obtain ⟨v, r⟩ := p
      exact (Wire.getInt_back h).2
theorem getR_ok {b : List UInt8} (h : (getR b).2 = true) : ROk (getR b).1 = true ∧ i64' (getR b).1.vn := by
  unfold getR at h ⊢
  split at h
  · rename_i hc
    rw [if_pos hc]
    simp only [Bool.and_eq_true] at hc
    refine ⟨hc.2, ?_⟩
    show i64' (rdR b).vn
    unfold rdR vGetS
    simp only
    split
    · exact intS_i64 _
    · simp [i64']
  · cases h
structure AOk (last : Int) (acc : STb) : Prop where
  ris : Rising acc
  le : ∀ p ∈ acc, p.1 ≤ last
  ids : ∀ p ∈ acc, 1 ≤ p.1 ∧ p.1 ≤ 1099511627776
  ok : TOk acc
  last : 0 ≤ last ∧ last ≤ 1099511627776
theorem AOk.next {last : Int} {acc : STb} {s : Option (List UInt8)} (h : AOk last acc) (hs : LdOk last s) : AOk (e1S s).1 (acc ++ [ldP s]) := by
  have h1 := hs.last
  have h2 := hs.u1
  have h3 := hs.u2
  have h4 := h.last
  refine ⟨?_, ?_, ?_, ?_, by omega⟩
  · unfold Rising
    rw [List.map_append, List.pairwise_append]
    refine ⟨h.ris, by simp, ?_⟩
    intro a ha b hb
    obtain ⟨p, hp, rfl⟩ := List.mem_map.1 ha
    simp [ldP] at hb
    subst hb
    have := h.le p hp
    omega
  · intro p hp
    rcases List.mem_append.1 hp with hp | hp
    · have := h.le p hp; omega
    · simp at hp; subst hp; exact Int.le_refl _
  · intro p hp
    rcases List.mem_append.1 hp with hp | hp
    · exact h.ids p hp
    · simp at hp; subst hp; show 1 ≤ (e1S s).1 ∧ (e1S s).1 ≤ _; omega
  · intro p hp
    rcases List.mem_append.1 hp with hp | hp
    · exact h.ok p hp
    · simp at hp; subst hp
      exact ⟨⟨h2, h3⟩, ⟨hs.q1, hs.q2⟩, (getR_ok hs.rp).1, (getR_ok hs.rp).2, hs.none_⟩
theorem ldN_ok : ∀ (k : Nat) (last : Int) (acc : STb) (s : Option (List UInt8)) (T : STb) (s' : Option (List UInt8)), AOk last acc → ldN k last acc s = some (T, s') → (∃ last', AOk last' T) ∧ T.length = acc.length + k
  | 0, last, acc, s, T, s', h, e => by
    unfold ldN at e
    injection e with e
    injection e with e1 e2
    subst e1
    exact ⟨⟨last, h⟩, rfl⟩
  | k + 1, last, acc, s, T, s', h, e => by
    unfold ldN at e
    split at e
    · rename_i hc
      obtain ⟨h1, h2⟩ := ldN_ok k _ _ _ _ _ (h.next hc) e
      refine ⟨h1, ?_⟩
      rw [h2]; simp; omega
    · cases e
theorem tset_snoc {acc : STb} {i : Int} {x : Se} (h : ∀ p ∈ acc, p.1 < i) : tset acc i x = acc ++ [(i, x)] := by
  induction acc with
  | nil => rfl
  | cons q r ih =>
    obtain ⟨j, y⟩ := q
    have h1 : j < i := h (j, y) (by simp)
    simp only [List.cons_append, tset]
    rw [if_neg (by omega), if_neg (by omega), ih (fun p hp => h p (by simp [hp]))]
theorem e_put {p : Int × Se} {last : Int} {t : List UInt8} (hp : 1 ≤ p.1 ∧ p.1 ≤ 1099511627776) (ho : SeOk p.1 p.2) (hl : last < p.1) : LdOk last (some (enB p ++ t)) ∧ ldP (some (enB p ++ t)) = p ∧ (e4S (some (enB p ++ t))).2 = some t ∧ (e1S (some (enB p ++ t))).1 = p.1 := by
  have hu := ho.used
  have hq := ho.seq
  have e0 : enB p ++ t = Wire.int p.1 ++ (Wire.int p.2.used ++ (Wire.int p.2.seq ++ (Wire.text (rB p.2.rp) ++ t))) := by unfold enB; simp
  have e1 : e1S (some (enB p ++ t)) = (p.1, some (Wire.int p.2.used ++ (Wire.int p.2.seq ++ (Wire.text (rB p.2.rp) ++ t)))) := by
    unfold e1S; rw [e0]; exact intS_put (by unfold i64'; omega) _
  have e2 : e2S (some (enB p ++ t)) = (p.2.used, some (Wire.int p.2.seq ++ (Wire.text (rB p.2.rp) ++ t))) := by
    unfold e2S; rw [e1]; exact intS_put (by unfold i64'; omega) _
  have e3 : e3S (some (enB p ++ t)) = (p.2.seq, some (Wire.text (rB p.2.rp) ++ t)) := by
    unfold e3S; rw [e2]; exact intS_put (by unfold i64'; omega) _
  have hle := rB_le ho.rp
  have e4 : e4S (some (enB p ++ t)) = (rB p.2.rp, some t) := by
    unfold e4S; rw [e3]; exact textS_put (by omega) (by omega)
  have eg := getR_put ho.rp ho.vn
  refine ⟨⟨by rw [e4]; rfl, by rw [e4, eg], by rw [e1]; exact hl, by rw [e1, e2]; exact hu.1, by rw [e2]; exact hu.2, by rw [e3]; exact hq.1, by rw [e3]; exact hq.2, by rw [e3, e4, eg]; exact ho.none_⟩, ?_, by rw [e4], by rw [e1]⟩
  unfold ldP
  rw [e1, e2, e3, e4, eg]
theorem ldN_put : ∀ (T : STb) (last : Int) (acc : STb) (t : List UInt8), Rising T → (∀ p ∈ T, last < p.1) → (∀ p ∈ T, 1 ≤ p.1 ∧ p.1 ≤ 1099511627776) → TOk T → ldN T.length last acc (some (tabB T ++ t)) = some (acc ++ T, some t)
  | [], last, acc, t, _, _, _, _ => by simp [ldN, tabB]
  | p :: r, last, acc, t, hR, hl, hi, ho => by
    obtain ⟨h1, h2, h3, h4⟩ := e_put (t := tabB r ++ t) (hi p (by simp)) (ho p (by simp)) (hl p (by simp))
    have e : tabB (p :: r) ++ t = enB p ++ (tabB r ++ t) := by simp [tabB]
    rw [e]
    show (if LdOk last (some (enB p ++ (tabB r ++ t))) then _ else none) = _
    rw [if_pos h1, h2, h3, h4]
    unfold Rising at hR
    rw [List.map_cons, List.pairwise_cons] at hR
    rw [ldN_put r p.1 (acc ++ [p]) t hR.2 (fun q hq => hR.1 _ (List.mem_map_of_mem hq)) (fun q hq => hi q (by simp [hq])) (fun q hq => ho q (by simp [hq]))]
    simp
theorem tabB_len : ∀ (T : STb), T.length ≤ (tabB T).length
  | [] => Nat.zero_le _
  | p :: r => by
    have := tabB_len r
    have := (Wire.int_len p.1).1
    show r.length + 1 ≤ (enB p ++ tabB r).length
    unfold enB
    simp only [List.length_append]
    omega
theorem SWf.load {S : SS} (h : SWf S) (s : Option (List UInt8)) : SWf (S.load s).2.1 := by
  have hm := h.most
  unfold SS.load
  cases e : ldN (Wire.countS S.most s).1.toNat 0 [] (Wire.countS S.most s).2 with
  | none => exact h
  | some q =>
    obtain ⟨T, s'⟩ := q
    obtain ⟨⟨last, hA⟩, hl⟩ := ldN_ok _ 0 [] _ _ _ ⟨by simp [Rising], by simp, by simp, by intro p hp; simp at hp, by decide⟩ e
    simp only
    split
    · refine ⟨hm, ?_, hA.ids, hA.ris⟩
      simp only
      rw [hl]
      have : (Wire.countS S.most s).1 ≤ S.most := by
        unfold Wire.countS
        split
        · simp only; omega
        · split
          · simp only; omega
          · rename_i hc; simp only; omega
      simp only [List.length_nil]
      omega
    · exact h
theorem TOk.load {S : SS} (h : TOk S.t) (s : Option (List UInt8)) : TOk (S.load s).2.1.t := by
  unfold SS.load
  cases e : ldN (Wire.countS S.most s).1.toNat 0 [] (Wire.countS S.most s).2 with
  | none => exact h
  | some q =>
    obtain ⟨T, s'⟩ := q
    obtain ⟨⟨last, hA⟩, hl⟩ := ldN_ok _ 0 [] _ _ _ ⟨by simp [Rising], by simp, by simp, by intro p hp; simp at hp, by decide⟩ e
    simp only
    split
    · exact hA.ok
    · exact h
/-- what was put is loaded -/
theorem SS.load_put {S S0 : SS} (h : SWf S) (ho : TOk S.t) (hm : S.most = S0.most) : S0.load (some S.put) = (true, ⟨S0.most, S.t⟩, some []) := by
  have hfew := h.few
  have hmost := h.most
  have e : Wire.countS S0.most (some S.put) = ((S.t.length : Int), some (tabB S.t)) := countS_put (by omega) (tabB_len _) (by omega)
  unfold SS.load
  rw [e]
  simp only [Int.toNat_natCast]
  have := ldN_put S.t 0 [] [] h.ris (fun p hp => by have := (h.ids p hp).1; omega) h.ids ho
  rw [List.append_nil] at this
  rw [this]
  simp [Wire.okS]
end Go.Proofs.YtnjhdbgejhnpfaaDoor
end

section
set_option maxRecDepth 10000
namespace Go.Proofs.YtnjhdbgejhnpfaaDoor
set_option linter.unusedVariables false
open Go.RowKit

/-! ### a block without bytes -/
def notU8 : Value → Bool
  | .int .u8 _ => false
  | _ => true
theorem Reads.apartC {T : TypeId} {w w' : World} {k B n : Nat} {A : Option Addr} {cs : Array Value} {l : List UInt8} (h : Reads w B 1 A n (bv l)) (hk : Blk w k T cs) (hcs : cs.toList.all notU8 = true)
    (hb : w.grownBy w' (some k)) (hB : B ≤ w.heap.size) : Reads w' B 1 A n (bv l) := by
  refine ⟨h.1, fun hn => ?_⟩
  obtain ⟨ad, e, hlt, hc⟩ := h.2 hn
  have hl := h.1
  rw [bv_length] at hl
  have hne : ad.block ≠ k := by
    intro he
    obtain ⟨x, l', rfl⟩ : ∃ x l', l = x :: l' := by
      cases l with
      | nil => simp at hl; omega
      | cons x l' => exact ⟨x, l', rfl⟩
    have h0 := hc 0 (.int .u8 (x.toNat : Int)) (by simp [bv])
    rw [show ad.add 0 = ad from by simp [Addr.add]] at h0
    unfold World.cell? at h0
    rw [he] at h0
    unfold Blk at hk
    rw [hk] at h0
    simp only at h0
    split at h0
    · cases h0
    · have hm : (Value.int .u8 (x.toNat : Int)) ∈ cs.toList := by
        rw [← Array.getElem?_toList] at h0
        exact List.mem_of_getElem? h0
      have := List.all_eq_true.1 hcs _ hm
      cases this
  exact ⟨ad, e, hlt, fun j u hu => (World.cell?_of_block (hb.block _ (by rw [block_of_add]; omega) (by rw [block_of_add]; intro e; injection e with e; exact hne e))).trans (hc j u hu)⟩
theorem RS.apartC {T T' : TypeId} {w w' : World} {g k : Nat} {cs : Array Value} {s : Option (List UInt8)} (h : RS T w g s) (hk : Blk w k T' cs) (hcs : cs.toList.all notU8 = true) (hb : w.grownBy w' (some k)) (hne : g ≠ k) : RS T w' g s := by
  have hlt := h.lt
  obtain ⟨l, p, bad, ⟨A, n, c, h1, h2, h3⟩, h4⟩ := h
  exact ⟨l, p, bad, ⟨A, n, c, h1.grown hb (fun e => by injection e with e; exact hne e), h2.apartC hk hcs hb (by omega), h3⟩, h4⟩
end Go.Proofs.YtnjhdbgejhnpfaaDoor
end

section
set_option maxRecDepth 10000
namespace Go.Proofs.YtnjhdbgejhnpfaaDoor
set_option linter.unusedVariables false
open Go.RowKit
open Go.Maps (Keyed)
open Go.ChangeMaps Go.WideElems

/-- the reader at g, the elder worlds else -/
abbrev Og (W : World) (g : Nat) : Foot := fun j => j = g ∨ W.heap.size ≤ j
theorem RS.blk_ne {W : World} {g d T : Nat} {cs : Array Value} {s : Option (List UInt8)} (h : RS 73 W g s) (hb : Blk W d T cs) (hT : 73 ≠ T) : d ≠ g := by
  obtain ⟨l, p, bad, ⟨A, n, c, h1, _⟩, _⟩ := h
  exact hb.ne_ h1 (fun e => hT e.symm)
theorem RS.map_ne {W : World} {g m n : Nat} {k : TypeId} {D : DataW Value} {s : Option (List UInt8)} (h : RS 73 W g s) (hm : MapIs Tryd.prog k W m n D) : m ≠ g := by
  obtain ⟨l, p, bad, ⟨A, n, c, h1, _⟩, _⟩ := h
  exact map_not_blk hm h1
set_option maxHeartbeats 16000000 in
theorem sLoad_any (W0 W : World) (U : Foot) (d c g : Nat) (S : SS) (s : Option (List UInt8)) (hT0 : Tabs W0) (hB0 : Below W0.heap.size W0 W) (hg0 : W0.heap.size ≤ g) (h : Tbl W U d c S) (hU : Up U W) (hr : RS 73 W g s) (hd0 : W0.heap.size ≤ d) :
    Calls Tryd.prog 22 #[.pointer (some ⟨d, 0, none⟩), .pointer (some ⟨g, 0, none⟩)] W fun e W' => e = .returned (.bool (S.load s).1) ∧ Tbl W' U d (c + 64) (S.load s).2.1 ∧ RS 73 W' g (S.load s).2.2 ∧ Out (fun j => j = d ∨ Og W g j) W W' := by
  have hwf' := h.1.load s
  obtain ⟨hwf, m, h⟩ := h
  have hmost := hwf.most
  have hb := h.blk
  have hM : MapS W m c S.t := h.map
  have hdg : d ≠ g := hr.blk_ne hb (by decide)
  have hmg : m ≠ g := by obtain ⟨n, D, _, h2, _⟩ := h.map; exact hr.map_ne h2
  have hgl := hr.lt
  have hdl := hb.lt
  have hml := hM.lt
  have hs0 := hB0.size
  -- the elder table, when the answer is no
  have no : ∀ {w : World} {e : Bool × SS × Option (List UInt8)}, S.load s = (false, S, none) → Out (Og W g) W w → Tbl w U d (c + 64) (S.load s).2.1 := fun {w} e el hO => by
    rw [el]
    refine Tbl.grow (c := c) ⟨hwf, m, h.hd, h.hm, (hO.block d hdl (by intro hh; rcases hh with hh | hh; exact hdg hh; omega)).trans hb, ?_⟩ (by omega)
    exact hM.stay (hO.block m hml (by intro hh; rcases hh with hh | hh; exact hmg hh; omega))
  have tabs : ∀ {w : World}, Out (Og W g) W w → Below W0.heap.size W0 w := fun hO => hB0.trans (hO.below (fun j hj => by rcases hj with hj | hj <;> omega) hs0)
  refine calls_vc Tryd.func22 rfl (by kernel_rfl) ?_
  ((conv => whnf); (repeat ((first | (refine VL.cons ?_) | (refine VL.nil ?_) | (refine VC.seqS rfl ?_) | (refine VC.region ?_)); (conv => whnf))))
  ((repeat ((fail); (conv => whnf))))
  refine VSem.makeMap (k := 3) ?_
  intro W1 hM1 hB1 hz1
  have hMb : MapS W1 W.heap.size 0 [] := ⟨0, _, Nat.le_refl _, hM1, Rel.empty⟩
  have hr1 := hr.below hB1 hgl
  have hb1 := hb.below hB1 hdl
  ((conv => whnf); (repeat ((first | (refine VL.cons ?_) | (refine VL.nil ?_) | (refine VC.seqS rfl ?_) | (refine VC.region ?_)); (conv => whnf))))
  (repeat (first | ((first | (refine VL.cons ?_) | (refine VC.seqS rfl ?_) | (refine VC.region ?_) | (refine VRead.fld ?_) | (refine VC.seq ?_)); (conv => whnf)) | (refine VRead.loadB hb1 rfl rfl ?_; (conv => whnf))))
  refine VCall.of (rCount_any W1 g s S.most hr1) ?_
  obtain ⟨q0, s0, hc0⟩ : ∃ q s', Wire.countS S.most s = (q, s') := ⟨_, _, rfl⟩
  have hq0 : 0 ≤ q0 ∧ q0 ≤ 64 := by
    have : Wire.countS S.most s = (q0, s0) := hc0
    unfold Wire.countS at this
    split at this
    · injection this with h1 h2; omega
    · split at this
      · injection this with h1 h2; omega
      · rename_i hcc; injection this with h1 h2; omega
  obtain ⟨n, rfl⟩ : ∃ n : Nat, q0 = (n : Int) := ⟨q0.toNat, by omega⟩
  have hdef : S.load s = match ldN n 0 [] s0 with | none => (false, S, none) | some (T, s') => if Wire.okS s' = true then (true, ⟨S.most, T⟩, s') else (false, S, none) := by
    unfold SS.load; rw [hc0]; rfl
  rw [hc0]
  rintro e W2 ⟨rfl, hr2, hg2⟩
  refine ⟨_, rfl, ?_⟩
  have hO2 : Out (Og W g) W W2 := (Out.new hB1).trans (Out.grown hg2 (.inl rfl))
  have hMb2 : MapS W2 W.heap.size 0 [] := hMb.stay (hg2.block _ (by omega) (by intro e; injection e; omega))
  obtain ⟨R, hR⟩ : ∃ R, ldN n 0 [] s0 = R := ⟨_, rfl⟩
  rw [hR] at hdef
  ((conv => whnf); (repeat ((first | (refine VL.cons ?_) | (refine VL.nil ?_) | (refine VC.block ?_)); (conv => whnf))))
  ((repeat ((fail); (conv => whnf))))
  refine VC.loop [6, 17] [(4, 4), (6, 9), (17, 86)] (fun q vs w => ∃ (acc : STb) (last : Int) (s' : Option (List UInt8)) (k : Nat), vs = [.int .i64 last, .int .i64 (acc.length : Int)] ∧ q = k ∧ acc.length + k = n ∧ ldN k last acc s' = R ∧ AOk last acc ∧ MapS w W.heap.size acc.length acc ∧ RS 73 w g s' ∧ Out (Og W g) W w) (by kernel_rfl)
    ⟨_, [], 0, s0, n, rfl, rfl, by simp, hR, ⟨by simp [Rising], by simp, by simp, by intro p hp; simp at hp, by decide⟩, hMb2, hr2, hO2⟩ ?_
  clear hr hr1 hr2 hMb hMb2 hM1 hO2 hg2 hB1 hb1 hR
  rintro q τ vs w ⟨acc, last, s', k, rfl, hqk, hk, hR, hA, hMw, hrw, hOw⟩
  subst hqk
  have hsw := hOw.size
  have hBw := tabs hOw
  have hbw : Blk w d 44 #[.int .i64 S.most, .map (some m)] := (hOw.block d hdl (by intro hh; rcases hh with hh | hh; exact hdg hh; omega)).trans hb
  cases q with
  | zero =>
    unfold ldN at hR
    rw [← hR] at hdef
    simp only at hdef
    ((conv => whnf); (repeat ((first | (refine VL.cons ?_) | (refine VL.nil ?_) | (refine VC.seqS rfl ?_) | (refine VC.region ?_)); (conv => whnf))))
    ((repeat ((first | (refine VL.cons ?_) | (refine VC.seqS rfl ?_) | (refine VC.region ?_) | (refine VC.cond ?_) | (refine VC.exit ?_) | (refine VBool.dF (by omega) ?_) | (refine VC.seq ?_)); (conv => whnf))))
    refine VCall.of (rOk_any w g s' hrw) ?_
    rintro e _ ⟨rfl, rfl⟩
    refine ⟨_, rfl, ?_⟩
    cases hok : Wire.okS s' with
    | false =>
      rw [hok, if_neg (by simp)] at hdef
      have hn : s' = none := by cases s' with
        | none => rfl
        | some x => cases hok
      ((conv => whnf); (repeat ((first | (refine VL.cons ?_) | (refine VL.nil ?_) | (refine VC.cond ?_)); (conv => whnf))))
      ((repeat ((first | (refine VL.cons ?_) | (refine VL.nil ?_) | (refine VC.seqS rfl ?_) | (refine VC.region ?_) | (refine VC.ret ?_) | (refine VBool.t ?_)); (conv => whnf))))
      refine ⟨by rw [hdef]; rfl, no (e := (false, S, none)) hdef hOw, by rw [hdef]; rw [hn] at hrw; exact hrw, hOw.mono (fun j hj => .inr hj)⟩
    | true =>
      rw [hok, if_pos rfl] at hdef
      rw [hdef] at hwf' ⊢
      ((conv => whnf); (repeat ((first | (refine VL.cons ?_) | (refine VL.nil ?_) | (refine VC.cond ?_)); (conv => whnf))))
      ((repeat ((first | (refine VL.cons ?_) | (refine VC.seqS rfl ?_) | (refine VC.region ?_) | (refine VC.skip ?_) | (refine VBool.f ?_) | (refine VRead.fld ?_)); (conv => whnf))))
      refine VUnit.storeB hbw rfl rfl rfl ?_
      intro w2 hb2 hg2
      ((conv => whnf); (repeat ((first | (refine VL.cons ?_) | (refine VL.nil ?_) | (refine VC.seqS rfl ?_) | (refine VC.region ?_) | (refine VC.ret ?_)); (conv => whnf))))
      ((repeat ((fail); (conv => whnf))))
      have hgl2 := hrw.lt
      refine ⟨rfl, ⟨hwf', W.heap.size, h.hd, hU _ (Nat.le_refl _), hb2, ?_⟩, ?_, (hOw.mono (fun j hj => .inr hj)).trans (Out.grown hg2 (.inl rfl))⟩
      · obtain ⟨n', D', h1, h2, h3⟩ := hMw.stay (W' := w2) (hg2.block _ hMw.lt (by intro e; injection e; omega))
        exact ⟨n', D', by omega, h2, h3⟩
      · exact hrw.apartC hbw (by rfl) hg2 (fun e => hdg e.symm)
  | succ k =>
    have hgw := hrw.lt
    have hla := hA.last
    have hlt : (acc.length : Int) < n := by omega
    ((conv => whnf); (repeat ((first | (refine VL.cons ?_) | (refine VL.nil ?_) | (refine VC.seqS rfl ?_) | (refine VC.region ?_)); (conv => whnf))))
    ((repeat ((first | (refine VL.cons ?_) | (refine VC.seqS rfl ?_) | (refine VC.region ?_) | (refine VC.cond ?_) | (refine VC.block ?_) | (refine VC.skip ?_) | (refine VBool.dT (by omega) ?_) | (refine VC.seq ?_)); (conv => whnf))))
    refine VCall.of (rInt_any w g s' hrw) ?_
    rintro e w1 ⟨rfl, hr1, hg1⟩
    refine ⟨_, rfl, ?_⟩
    have hO1 := hOw.trans (Out.grown hg1 (U := Og W g) (.inl rfl))
    have hM1 := hMw.stay (W' := w1) (hg1.block _ hMw.lt (by intro e; injection e; omega))
    have hs1 := hO1.size
    ((conv => whnf); (repeat ((first | (refine VL.cons ?_)); (conv => whnf))))
    refine VRead.ofW (v := seZ) (fun _ => by kernel_rfl) ?_
    ((conv => whnf); (repeat ((first | (refine VL.cons ?_)); (conv => whnf))))
    ((repeat ((fail); (conv => whnf))))
    refine VSem.allocZ (z := seZ) (by kernel_rfl) ?_
    intro w2 g8 hb8 hgb hlb hB2
    have hr2 := hr1.below hB2 hr1.lt
    have hM2 := hM1.below hB2 (Nat.le_refl _)
    have hO2 := hO1.trans (Out.new (U := Og W g) hB2)
    have hMl := hM1.lt
    have hgl1 := hr1.lt
    ((conv => whnf); (repeat ((first | (refine VL.cons ?_)); (conv => whnf))))
    ((repeat ((fail); (conv => whnf))))
    refine VUnit.storeAB hb8 rfl rfl rfl (by simp [Value.oneCell']) ?_
    intro w3 hb83 hg3
    replace hb83 : Blk w3 g8 68 #[.int .i64 0, .int .i64 0, .int .i64 0, .int .i64 0, .int .i64 0, .int .i64 0, .string ByteArray.empty] := hb83
    have hr3 := hr2.other hg3 (by omega)
    have hM3 := hM2.stay (W' := w3) (hg3.block _ hM2.lt (by intro e; injection e; omega))
    have hO3 := hO2.trans (Out.grown hg3 (U := Og W g) (.inr (by omega)))
    ((conv => whnf); (repeat ((first | (refine VL.cons ?_) | (refine VL.nil ?_) | (refine VC.seqS rfl ?_) | (refine VC.region ?_)); (conv => whnf))))
    ((repeat ((fail); (conv => whnf))))
    refine VCall.of (rInt_any w3 g _ hr3) ?_
    rintro e w4 ⟨rfl, hr4, hg4⟩
    refine ⟨_, rfl, ?_⟩
    have hM4 := hM3.stay (W' := w4) (hg4.block _ hM3.lt (by intro e; injection e; omega))
    have hO4 := hO3.trans (Out.grown hg4 (U := Og W g) (.inl rfl))
    have hb84 := hb83.grown hg4 (fun e => by injection e; omega)
    ((conv => whnf); (repeat ((first | (refine VL.cons ?_)); (conv => whnf))))
    ((repeat ((first | (refine VL.cons ?_) | (refine VRead.fld ?_)); (conv => whnf))))
    refine VUnit.storeB hb84 rfl rfl rfl ?_
    intro w5 hb85 hg5
    replace hb85 : Blk w5 g8 68 #[.int .i64 (e2S s').1, .int .i64 0, .int .i64 0, .int .i64 0, .int .i64 0, .int .i64 0, .string ByteArray.empty] := hb85
    have hr5 := hr4.other hg5 (by omega)
    have hM5 := hM4.stay (W' := w5) (hg5.block _ hM4.lt (by intro e; injection e; omega))
    have hO5 := hO4.trans (Out.grown hg5 (U := Og W g) (.inr (by omega)))
    ((conv => whnf); (repeat ((first | (refine VL.cons ?_) | (refine VL.nil ?_) | (refine VC.seqS rfl ?_) | (refine VC.region ?_)); (conv => whnf))))
    ((repeat ((fail); (conv => whnf))))
    refine VCall.of (rInt_any w5 g _ hr5) ?_
    rintro e w6 ⟨rfl, hr6, hg6⟩
    refine ⟨_, rfl, ?_⟩
    have hM6 := hM5.stay (W' := w6) (hg6.block _ hM5.lt (by intro e; injection e; omega))
    have hO6 := hO5.trans (Out.grown hg6 (U := Og W g) (.inl rfl))
    have hb86 := hb85.grown hg6 (fun e => by injection e; omega)
    ((conv => whnf); (repeat ((first | (refine VL.cons ?_)); (conv => whnf))))
    ((repeat ((first | (refine VL.cons ?_) | (refine VRead.fld ?_)); (conv => whnf))))
    refine VUnit.storeB hb86 rfl rfl rfl ?_
    intro w7 hb87 hg7
    replace hb87 : Blk w7 g8 68 #[.int .i64 (e2S s').1, .int .i64 (e3S s').1, .int .i64 0, .int .i64 0, .int .i64 0, .int .i64 0, .string ByteArray.empty] := hb87
    have hr7 := hr6.other hg7 (by omega)
    have hM7 := hM6.stay (W' := w7) (hg7.block _ hM6.lt (by intro e; injection e; omega))
    have hO7 := hO6.trans (Out.grown hg7 (U := Og W g) (.inr (by omega)))
    ((conv => whnf); (repeat ((first | (refine VL.cons ?_) | (refine VL.nil ?_) | (refine VC.seqS rfl ?_) | (refine VC.region ?_)); (conv => whnf))))
    ((repeat ((fail); (conv => whnf))))
    refine VCall.of (rText_any w7 g _ 1000 hr7) ?_
    rintro e w8 ⟨rfl, hr8, hg8⟩
    refine ⟨_, rfl, ?_⟩
    have hM8 := hM7.stay (W' := w8) (hg8.block _ hM7.lt (by intro e; injection e; omega))
    have hO8 := hO7.trans (Out.grown hg8 (U := Og W g) (.inl rfl))
    have hb88 := hb87.grown hg8 (fun e => by injection e; omega)
    replace hr8 : RS 73 w8 g (e4S s').2 := hr8
    ((conv => whnf); (repeat ((first | (refine VL.cons ?_)); (conv => whnf))))
    ((repeat ((fail); (conv => whnf))))
    refine VSem.convB ?_
    intro At ct w9 hrt hct hB9
    replace hrt : Reads w9 w9.heap.size 1 At (txt (e4S s').1).size (bv (e4S s').1) := hrt
    have hr9 := hr8.below hB9 hr8.lt
    have hM9 := hM8.below hB9 (Nat.le_refl _)
    have hO9 := hO8.trans (Out.new (U := Og W g) hB9)
    have hb89 := hb88.below hB9 hb88.lt
    have htl : (txt (e4S s').1).size ≤ 1000 := by
      have h5 : ∀ x, (Wire.textS 1000 x).1.length ≤ 1000 := fun x => by
        unfold Wire.textS Wire.countS
        cases Wire.intS x with
        | mk v r =>
          cases r with
          | none => simp
          | some r =>
            simp only
            by_cases hcc : v < 0 ∨ 1000 < v ∨ (r.length : Int) < v
            · rw [if_pos hcc]; simp
            · rw [if_neg hcc]; simp only [List.length_take]; omega
      rw [txt_size]
      exact h5 _
    ((conv => whnf); (repeat ((first | (refine VL.cons ?_)); (conv => whnf))))
    ((repeat ((fail); (conv => whnf))))
    refine VCall.of (getR_any At (txt (e4S s').1).size ct (e4S s').1 w9 (hT0.below (tabs hO9)) (Nat.le_trans htl (by decide)) hrt) ?_
    rintro e w10 ⟨rfl, hB10⟩
    refine ⟨_, rfl, ?_⟩
    have hr10 := hr9.below hB10 hr9.lt
    have hM10 := hM9.below hB10 (Nat.le_refl _)
    have hO10 := hO9.trans (Out.new (U := Og W g) hB10)
    have hb810 := hb89.below hB10 hb89.lt
    ((conv => whnf); (repeat ((first | (refine VL.cons ?_)); (conv => whnf))))
    ((repeat ((first | (refine VL.cons ?_) | (refine VRead.fld ?_)); (conv => whnf))))
    refine VUnit.storeABi 2 hb810 rfl rfl rfl (by simp [rpC, Value.oneCell']) ?_
    intro w11 hb11 hg11
    obtain ⟨rp, hrp⟩ : ∃ rp, (getR (e4S s').1).1 = rp := ⟨_, rfl⟩
    replace hb11 : Blk w11 g8 68 #[.int .i64 (e2S s').1, .int .i64 (e3S s').1, .int .i64 (getR (e4S s').1).1.err, .int .i64 (getR (e4S s').1).1.n, .int .i64 (getR (e4S s').1).1.kind, .int .i64 (getR (e4S s').1).1.vn, .string (txt (getR (e4S s').1).1.s)] := hb11
    have hr11 := hr10.other hg11 (by omega)
    have hM11 := hM10.stay (W' := w11) (hg11.block _ hM10.lt (by intro e; injection e; omega))
    have hO11 := hO10.trans (Out.grown hg11 (U := Og W g) (.inr (by omega)))
    clear hr1 hr2 hr3 hr4 hr5 hr6 hr7 hr8 hr9 hr10 hM1 hM2 hM3 hM4 hM5 hM6 hM7 hM8 hM9 hM10 hMw hO1 hO2 hO3 hO4 hO5 hO6 hO7 hO8 hO9 hO10 hb8 hb83 hb84 hb85 hb86 hb87 hb88 hb89 hb810 hrt hrw hOw hbw
    -- the answer is no
    have out : ¬ LdOk last s' → S.load s = (false, S, none) := fun hn => by
      unfold ldN at hR
      rw [if_neg hn] at hR
      rw [hdef, ← hR]
    have fail : ¬ LdOk last s' → Calls Tryd.prog 40 #[.pointer (some ⟨g, 0, none⟩)] w11 fun e w12 => e = .returned (.tuple #[]) ∧ (Ending.returned (.bool false) = Ending.returned (.bool (S.load s).1) ∧ Tbl w12 U d (c + 64) (S.load s).2.1 ∧ RS 73 w12 g (S.load s).2.2 ∧ Out (fun j => j = d ∨ Og W g j) W w12) := fun hn => by
      refine (rFail_any w11 g _ hr11).mono ?_
      rintro e w12 ⟨rfl, hr12, hg12⟩
      have hO12 := hO11.trans (Out.grown hg12 (U := Og W g) (.inl rfl))
      have el := out hn
      exact ⟨rfl, by rw [el], no (e := (false, S, none)) el hO12, by rw [el]; exact hr12, hO12.mono (fun j hj => .inr hj)⟩
    have elems : LdOk last s' → S.load s = S.load s := fun _ => rfl
    ((conv => whnf); (repeat ((first | (refine VL.cons ?_) | (refine VL.nil ?_)); (conv => whnf))))
    ((repeat ((first | (refine VL.cons ?_) | (refine VC.seqS rfl ?_) | (refine VC.region ?_) | (refine VC.seq ?_)); (conv => whnf))))
    refine VCall.of (rOk_any w11 g _ hr11) ?_
    rintro e _ ⟨rfl, rfl⟩
    refine ⟨_, rfl, ?_⟩
    cases hok : Wire.okS (e4S s').2 with
    | false =>
      ((conv => whnf); (repeat ((first | (refine VL.cons ?_)); (conv => whnf))))
      (repeat (first | ((first | (refine VL.cons ?_) | (refine VL.nil ?_) | (refine VC.seqS rfl ?_) | (refine VC.region ?_) | (refine VC.cond ?_) | (refine VBool.t ?_)); (conv => whnf)) | (refine VRead.loadB hb11 rfl rfl ?_; (conv => whnf))))
      refine VCall.of (fail (fun h => by have := h.ok; rw [hok] at this; cases this)) ?_
      rintro e w12 ⟨rfl, h12⟩
      refine ⟨_, rfl, ?_⟩
      ((conv => whnf); (repeat ((first | (refine VL.cons ?_) | (refine VL.nil ?_) | (refine VC.seqS rfl ?_) | (refine VC.region ?_) | (refine VC.ret ?_)); (conv => whnf))))
      ((repeat ((fail); (conv => whnf))))
      exact h12
    | true =>
      cases hq : (getR (e4S s').1).2 with
      | false =>
        ((conv => whnf); (repeat ((first | (refine VL.cons ?_)); (conv => whnf))))
        (repeat (first | ((first | (refine VL.cons ?_) | (refine VL.nil ?_) | (refine VC.seqS rfl ?_) | (refine VC.region ?_) | (refine VC.cond ?_) | (refine VBool.t ?_) | (refine VBool.f ?_)); (conv => whnf)) | (refine VRead.loadB hb11 rfl rfl ?_; (conv => whnf))))
        refine VCall.of (fail (fun h => by have := h.rp; rw [hq] at this; cases this)) ?_
        rintro e w12 ⟨rfl, h12⟩
        refine ⟨_, rfl, ?_⟩
        ((conv => whnf); (repeat ((first | (refine VL.cons ?_) | (refine VL.nil ?_) | (refine VC.seqS rfl ?_) | (refine VC.region ?_) | (refine VC.ret ?_)); (conv => whnf))))
        ((repeat ((fail); (conv => whnf))))
        exact h12
      | true =>
        have hi1 := intS_i64 s'
        obtain ⟨v1, hv1⟩ : ∃ v, (e1S s').1 = v := ⟨_, rfl⟩
        have hw1 : (Wire.intS s').1 = v1 := hv1
        obtain ⟨v2, hv2⟩ : ∃ v, (e2S s').1 = v := ⟨_, rfl⟩
        obtain ⟨v3, hv3⟩ : ∃ v, (e3S s').1 = v := ⟨_, rfl⟩
        rw [hv2, hv3] at hb11
        rw [hw1] at hi1 ⊢
        by_cases c1 : last < v1
        case neg =>
          ((conv => whnf); (repeat ((first | (refine VL.cons ?_)); (conv => whnf))))
          (repeat (first | ((first | (refine VL.cons ?_) | (refine VL.nil ?_) | (refine VC.seqS rfl ?_) | (refine VC.region ?_) | (refine VC.cond ?_) | (refine VBool.t ?_) | (refine VBool.f ?_) | (refine VBool.dT (by omega) ?_)); (conv => whnf)) | (refine VRead.loadB hb11 rfl rfl ?_; (conv => whnf))))
          refine VCall.of (fail (fun h => c1 (by have := h.last; rw [hv1] at this; exact this))) ?_
          rintro e w12 ⟨rfl, h12⟩
          refine ⟨_, rfl, ?_⟩
          ((conv => whnf); (repeat ((first | (refine VL.cons ?_) | (refine VL.nil ?_) | (refine VC.seqS rfl ?_) | (refine VC.region ?_) | (refine VC.ret ?_)); (conv => whnf))))
          ((repeat ((fail); (conv => whnf))))
          exact h12
        by_cases c2 : v1 ≤ v2
        case neg =>
          ((conv => whnf); (repeat ((first | (refine VL.cons ?_)); (conv => whnf))))
          (repeat (first | ((first | (refine VL.cons ?_) | (refine VL.nil ?_) | (refine VC.seqS rfl ?_) | (refine VC.region ?_) | (refine VC.cond ?_) | (refine VBool.t ?_) | (refine VBool.f ?_) | (refine VBool.dT (by omega) ?_) | (refine VBool.dF (by omega) ?_) | (refine VRead.fld ?_)); (conv => whnf)) | (refine VRead.loadB hb11 rfl rfl ?_; (conv => whnf))))
          refine VCall.of (fail (fun h => c2 (by have := h.u1; rw [hv1, hv2] at this; exact this))) ?_
          rintro e w12 ⟨rfl, h12⟩
          refine ⟨_, rfl, ?_⟩
          ((conv => whnf); (repeat ((first | (refine VL.cons ?_) | (refine VL.nil ?_) | (refine VC.seqS rfl ?_) | (refine VC.region ?_) | (refine VC.ret ?_)); (conv => whnf))))
          ((repeat ((fail); (conv => whnf))))
          exact h12
        by_cases c3 : v2 ≤ 1099511627776
        case neg =>
          ((conv => whnf); (repeat ((first | (refine VL.cons ?_)); (conv => whnf))))
          (repeat (first | ((first | (refine VL.cons ?_) | (refine VL.nil ?_) | (refine VC.seqS rfl ?_) | (refine VC.region ?_) | (refine VC.cond ?_) | (refine VBool.t ?_) | (refine VBool.f ?_) | (refine VBool.dT (by omega) ?_) | (refine VBool.dF (by omega) ?_) | (refine VRead.fld ?_)); (conv => whnf)) | (refine VRead.loadB hb11 rfl rfl ?_; (conv => whnf))))
          refine VCall.of (fail (fun h => c3 (by have := h.u2; rw [hv2] at this; exact this))) ?_
          rintro e w12 ⟨rfl, h12⟩
          refine ⟨_, rfl, ?_⟩
          ((conv => whnf); (repeat ((first | (refine VL.cons ?_) | (refine VL.nil ?_) | (refine VC.seqS rfl ?_) | (refine VC.region ?_) | (refine VC.ret ?_)); (conv => whnf))))
          ((repeat ((fail); (conv => whnf))))
          exact h12
        by_cases c4 : 0 ≤ v3
        case neg =>
          ((conv => whnf); (repeat ((first | (refine VL.cons ?_)); (conv => whnf))))
          (repeat (first | ((first | (refine VL.cons ?_) | (refine VL.nil ?_) | (refine VC.seqS rfl ?_) | (refine VC.region ?_) | (refine VC.cond ?_) | (refine VBool.t ?_) | (refine VBool.f ?_) | (refine VBool.dT (by omega) ?_) | (refine VBool.dF (by omega) ?_) | (refine VRead.fld ?_)); (conv => whnf)) | (refine VRead.loadB hb11 rfl rfl ?_; (conv => whnf))))
          refine VCall.of (fail (fun h => c4 (by have := h.q1; rw [hv3] at this; exact this))) ?_
          rintro e w12 ⟨rfl, h12⟩
          refine ⟨_, rfl, ?_⟩
          ((conv => whnf); (repeat ((first | (refine VL.cons ?_) | (refine VL.nil ?_) | (refine VC.seqS rfl ?_) | (refine VC.region ?_) | (refine VC.ret ?_)); (conv => whnf))))
          ((repeat ((fail); (conv => whnf))))
          exact h12
        by_cases c5 : v3 ≤ 1099511627776
        case neg =>
          ((conv => whnf); (repeat ((first | (refine VL.cons ?_)); (conv => whnf))))
          (repeat (first | ((first | (refine VL.cons ?_) | (refine VL.nil ?_) | (refine VC.seqS rfl ?_) | (refine VC.region ?_) | (refine VC.cond ?_) | (refine VBool.t ?_) | (refine VBool.f ?_) | (refine VBool.dT (by omega) ?_) | (refine VBool.dF (by omega) ?_) | (refine VRead.fld ?_)); (conv => whnf)) | (refine VRead.loadB hb11 rfl rfl ?_; (conv => whnf))))
          refine VCall.of (fail (fun h => c5 (by have := h.q2; rw [hv3] at this; exact this))) ?_
          rintro e w12 ⟨rfl, h12⟩
          refine ⟨_, rfl, ?_⟩
          ((conv => whnf); (repeat ((first | (refine VL.cons ?_) | (refine VL.nil ?_) | (refine VC.seqS rfl ?_) | (refine VC.region ?_) | (refine VC.ret ?_)); (conv => whnf))))
          ((repeat ((fail); (conv => whnf))))
          exact h12
        by_cases hz : v3 = 0
        case neg =>
          ((conv => whnf); (repeat ((first | (refine VL.cons ?_)); (conv => whnf))))
          (repeat (first | ((first | (refine VL.cons ?_) | (refine VL.nil ?_) | (refine VC.seqS rfl ?_) | (refine VC.region ?_) | (refine VC.cond ?_) | (refine VC.skip ?_) | (refine VBool.f ?_) | (refine VBool.dF (by omega) ?_) | (refine VRead.fld ?_)); (conv => whnf)) | (refine VRead.loadB hb11 rfl rfl ?_; (conv => whnf)) | (refine VRead.loadAB1 hb11 rfl rfl ?_; (conv => whnf))))
          have hok' : LdOk last s' := ⟨hok, hq, by rw [hv1]; exact c1, by rw [hv1, hv2]; exact c2, by rw [hv2]; exact c3, by rw [hv3]; exact c4, by rw [hv3]; exact c5, fun h => absurd (hv3 ▸ h) hz⟩
          refine VUnit.sSet (x := ⟨v2, v3, (getR (e4S s').1).1⟩) hM11 hA.ris (by omega) hi1 ?_
          intro w12 hM12 hg12
          have hA' := hA.next hok'
          have ep : ldP s' = (v1, ⟨v2, v3, (getR (e4S s').1).1⟩) := by unfold ldP; rw [hv1, hv2, hv3]
          rw [tset_snoc (fun p hp => by have := hA.le p hp; omega), ← ep] at hM12
          ((conv => whnf); (repeat ((first | (refine VL.cons ?_) | (refine VL.nil ?_) | (refine VC.region ?_)); (conv => whnf))))
          ((repeat ((first | (refine VL.cons ?_) | (refine VL.nil ?_) | (refine VWrap.i64 (by omega) (by omega) ?_)); (conv => whnf))))
          refine ⟨_, Nat.lt_succ_self k, acc ++ [ldP s'], v1, (e4S s').2, k, ?_, rfl, by simp only [List.length_append, List.length_cons, List.length_nil]; omega, ?_, by rw [← hv1]; exact hA', by simpa only [List.length_append, List.length_cons, List.length_nil] using hM12, hr11.other hg12 (by omega), hO11.trans (Out.grown hg12 (.inr (Nat.le_refl _)))⟩
          · simp only [List.length_append, List.length_cons, List.length_nil]; rfl
          · unfold ldN at hR
            rw [if_pos hok', hv1] at hR
            exact hR
        subst hz
        by_cases hr0 : (getR (e4S s').1).1 = Rp.zero
        case neg =>
          ((conv => whnf); (repeat ((first | (refine VL.cons ?_)); (conv => whnf))))
          (repeat (first | ((first | (refine VL.cons ?_) | (refine VBool.t ?_) | (refine VBool.f ?_) | (refine VBool.dF (by omega) ?_) | (refine VRead.fld ?_)); (conv => whnf)) | (refine VRead.loadB hb11 rfl rfl ?_; (conv => whnf))))
          refine VRead.loadABi (vs := rpC (getR (e4S s').1).1) 2 (fun _ e => e ▸ hb11) rfl rfl (by intro j hj; match j, hj with | 0, _ => rfl | 1, _ => rfl | 2, _ => rfl | 3, _ => rfl | 4, _ => rfl) ?_
          ((conv => whnf); (repeat ((first | (refine VL.cons ?_)); (conv => whnf))))
          ((repeat ((first | (refine VBool.t ?_)); (conv => whnf))))
          refine VRead.ofW (v := .agg (rpC Rp.zero)) (fun _ => by kernel_rfl) ?_
          (conv => whnf)
          ((repeat ((first | (refine VL.cons ?_) | (refine VBool.t ?_)); (conv => whnf))))
          refine VRead.neRn hr0 ?_
          (conv => whnf)
          ((repeat ((first | (refine VL.cons ?_) | (refine VL.nil ?_) | (refine VC.seqS rfl ?_) | (refine VC.region ?_) | (refine VC.cond ?_) | (refine VBool.t ?_) | (refine VBool.f ?_)); (conv => whnf))))
          refine VCall.of (fail (fun h => hr0 (h.none_ hv3))) ?_
          rintro e w12 ⟨rfl, h12⟩
          refine ⟨_, rfl, ?_⟩
          ((conv => whnf); (repeat ((first | (refine VL.cons ?_) | (refine VL.nil ?_) | (refine VC.seqS rfl ?_) | (refine VC.region ?_) | (refine VC.ret ?_)); (conv => whnf))))
          ((repeat ((fail); (conv => whnf))))
          exact h12
        rw [hr0] at hb11
        ((conv => whnf); (repeat ((first | (refine VL.cons ?_)); (conv => whnf))))
        (repeat (first | ((first | (refine VL.cons ?_) | (refine VBool.t ?_) | (refine VBool.f ?_) | (refine VBool.dF (by omega) ?_) | (refine VRead.fld ?_)); (conv => whnf)) | (refine VRead.loadB hb11 rfl rfl ?_; (conv => whnf))))
        refine VRead.loadABi (vs := rpC Rp.zero) 2 (fun _ e => e ▸ hb11) rfl rfl (by intro j hj; match j, hj with | 0, _ => rfl | 1, _ => rfl | 2, _ => rfl | 3, _ => rfl | 4, _ => rfl) ?_
        ((conv => whnf); (repeat ((first | (refine VL.cons ?_)); (conv => whnf))))
        ((repeat ((first | (refine VBool.t ?_)); (conv => whnf))))
        refine VRead.ofW (v := .agg (rpC Rp.zero)) (fun _ => by kernel_rfl) ?_
        (conv => whnf)
        ((repeat ((first | (refine VL.cons ?_) | (refine VBool.t ?_)); (conv => whnf))))
        refine VRead.neR ?_
        (conv => whnf)
        (repeat (first | ((first | (refine VL.cons ?_) | (refine VL.nil ?_) | (refine VC.seqS rfl ?_) | (refine VC.region ?_) | (refine VC.cond ?_) | (refine VC.skip ?_) | (refine VBool.f ?_)); (conv => whnf)) | (refine VRead.loadAB1 hb11 rfl rfl ?_; (conv => whnf))))
        have hok' : LdOk last s' := ⟨hok, hq, by rw [hv1]; exact c1, by rw [hv1, hv2]; exact c2, by rw [hv2]; exact c3, by rw [hv3]; exact c4, by rw [hv3]; exact c5, fun _ => hr0⟩
        refine VUnit.sSet (x := ⟨v2, 0, Rp.zero⟩) hM11 hA.ris (by omega) hi1 ?_
        intro w12 hM12 hg12
        have hA' := hA.next hok'
        have ep : ldP s' = (v1, ⟨v2, 0, Rp.zero⟩) := by unfold ldP; rw [hv1, hv2, hv3, hr0]
        rw [tset_snoc (fun p hp => by have := hA.le p hp; omega), ← ep] at hM12
        ((conv => whnf); (repeat ((first | (refine VL.cons ?_) | (refine VL.nil ?_) | (refine VC.region ?_)); (conv => whnf))))
        ((repeat ((first | (refine VL.cons ?_) | (refine VL.nil ?_) | (refine VWrap.i64 (by omega) (by omega) ?_)); (conv => whnf))))
        refine ⟨_, Nat.lt_succ_self k, acc ++ [ldP s'], v1, (e4S s').2, k, ?_, rfl, by simp only [List.length_append, List.length_cons, List.length_nil]; omega, ?_, by rw [← hv1]; exact hA', by simpa only [List.length_append, List.length_cons, List.length_nil] using hM12, hr11.other hg12 (by omega), hO11.trans (Out.grown hg12 (.inr (Nat.le_refl _)))⟩
        · simp only [List.length_append, List.length_cons, List.length_nil]; rfl
        · unfold ldN at hR
          rw [if_pos hok', hv1] at hR
          exact hR
end Go.Proofs.YtnjhdbgejhnpfaaDoor
end

section
namespace Go.Proofs.YtnjhdbgejhnpfaaDoor
set_option linter.unusedVariables false
open Go.ChangeShapes Go.WideShapes Go.ChangeAt Go.RowKit
open Go.Deep (open_bools boolRow)

section
variable {H : Type} {enc : TypeId × Value → H} {P : Program}
end
end Go.Proofs.YtnjhdbgejhnpfaaDoor
end

section
set_option maxRecDepth 10000
namespace Go.Proofs.YtnjhdbgejhnpfaaDoor
set_option linter.unusedVariables false
open Go.ChangeShapes Go.WideShapes Go.ChangeAt Go.RowKit

structure Op15 where
  kind : Int
  id : Int
  at_ : Int
  r : Rp
  b : List UInt8
instance : Inhabited Op15 := ⟨⟨0, 0, 0, Rp.zero, []⟩⟩
structure Rp.In (r : Rp) : Prop where
  err : i64' r.err
  n : i64' r.n
  kind : i64' r.kind
  vn : i64' r.vn
  s : r.s.length ≤ 9223372036854775807
structure Op15.Ok (W : World) (B : Nat) (o : Op15) (Ad : Option Addr) (m k : Nat) : Prop where
  kind : i64' o.kind
  id : i64' o.id
  at_ : i64' o.at_
  r : o.r.In
  le : m ≤ k
  k : k ≤ 140737488351232
  data : Reads W B 1 Ad m (bv o.b)
def op15C (o : Op15) (Ad : Option Addr) (m k : Nat) : Array Value := #[.int .i64 o.kind, .int .i64 o.id, .int .i64 o.at_, .int .i64 o.r.err, .int .i64 o.r.n, .int .i64 o.r.kind, .int .i64 o.r.vn, .string (txt o.r.s), .slice Ad m k]
def OpsAt15 (W : World) (B : Nat) (A : Option Addr) (n : Nat) (ops : List Op15) : Prop :=
  ops.length = n ∧ (0 < n → ∃ x, A = some x ∧ x.block < B ∧ ∀ i o, ops[i]? = some o → ∃ Ad m k, (∀ j u, (op15C o Ad m k).toList[j]? = some u → W.cell? (x.add (9 * i + j)) = some u) ∧ o.Ok W B Ad m k)
section
variable {H : Type} {enc : TypeId × Value → H}
theorem cell_block {W : World} {x : Addr} {u : Value} (h : W.cell? x = some u) : x.block < W.heap.size := by
  unfold World.cell? at h
  cases hb : W.heap[x.block]? with
  | none => rw [hb] at h; cases h
  | some o => exact (Array.getElem?_eq_some_iff.1 hb).1
theorem bytes_open {W : World} {n : Nat} {c : Value} {y : DataW H × List MemPlace} (h : DataW.trod enc Tryd.prog W 0 (fun _ => true) true n 35 [c] = some y) (hw : ∀ x ∈ y.1.weights Tryd.prog 35, x ≤ reachBytes) :
    ∃ A m k l, c = .slice A m k ∧ m ≤ k ∧ k ≤ 140737488351232 ∧ Reads W W.heap.size 1 A m (bv l) := by
  rcases open_ints Tryd.underlying35 Tryd.underlying5 (by kernel_rfl) h with ⟨hcs, hx⟩ | ⟨x, l, c', zs, hcs, _, hl, hm, hz, hx, hcell, hwz⟩
  · simp at hcs
    obtain rfl := hcs
    exact ⟨none, 0, 0, [], rfl, Nat.le_refl _, by omega, Reads.none_⟩
  · simp at hcs
    obtain rfl := hcs
    simp only [if_true] at hz
    subst hx
    have h1 := hw _ (by simp only [DataW.weights]; rw [Tryd.underlying35]; exact List.mem_cons_self ..)
    simp [lits, reachBytes] at h1
    rw [show Tryd.prog.bytesOf 5 = 1 from by kernel_rfl] at h1
    have hb : ∀ i, i < l → ∃ b : UInt8, W.cell? (x.add i) = some (.int .u8 (b.toNat : Int)) := fun i hi => by
      have h1 := hcell i (by omega)
      have h2 := hwz (zs.getD i 0) (by
        rw [List.getD_eq_getElem?_getD, List.getElem?_eq_getElem (by omega)]
        exact List.getElem_mem _)
      obtain ⟨b, hb⟩ := u8_nat h2
      exact ⟨b, by rw [h1, hb]⟩
    obtain ⟨f, hf⟩ := Deep.choose_lt hb
    refine ⟨some x, l, c', (List.range l).map f, rfl, hl, by omega, by simp [bv], fun hn => ⟨x, rfl, ?_, fun j u hu => ?_⟩⟩
    · have := cell_block (hf 0 hn)
      rwa [show x.add 0 = x from by simp [Addr.add]] at this
    · simp only [bv, List.map_map, List.getElem?_map, Option.map_eq_some_iff] at hu
      obtain ⟨i, hi, rfl⟩ := hu
      have hj : j < l := by have := (List.getElem?_eq_some_iff.1 hi).1; simpa using this
      rw [List.getElem?_range hj] at hi
      obtain rfl := Option.some.inj hi
      exact hf j hj
theorem list3 {α : Type} {l : List α} (h : l.length = 3) : ∃ a b c, l = [a, b, c] := by
  match l, h with
  | [a, b, c], _ => exact ⟨a, b, c, rfl⟩
theorem list5 {α : Type} {l : List α} (h : l.length = 5) : ∃ a b c d e, l = [a, b, c, d, e] := by
  match l, h with
  | [a, b, c, d, e], _ => exact ⟨a, b, c, d, e, rfl⟩
theorem list9 {α : Type} {l : List α} (h : l.length = 9) : ∃ a b c d e f g i j, l = [a, b, c, d, e, f, g, i, j] := by
  match l, h with
  | [a, b, c, d, e, f, g, i, j], _ => exact ⟨a, b, c, d, e, f, g, i, j, rfl⟩
theorem cells_i : Tryd.prog.cellsOf 3 = 1 := by kernel_rfl
theorem cells_l : Tryd.prog.cellsOf 2 = 1 := by kernel_rfl
theorem cells_s : Tryd.prog.cellsOf 9 = 1 := by kernel_rfl
theorem cells_e : Tryd.prog.cellsOf 30 = 1 := by kernel_rfl
theorem cells_b : Tryd.prog.cellsOf 35 = 1 := by kernel_rfl
theorem cells_v : Tryd.prog.cellsOf 32 = 3 := by kernel_rfl
theorem cells_r : Tryd.prog.cellsOf 34 = 5 := by kernel_rfl
theorem cells_op : Tryd.prog.cellsOf 37 = 9 := by kernel_rfl
theorem val_open {W : World} {n : Nat} {cs : List Value} {y : DataW H × List MemPlace} (h : DataW.trod enc Tryd.prog W 0 (fun _ => true) true n 32 cs = some y) :
    ∃ (k v : Int) (s : List UInt8), cs = [.int .i64 k, .int .i64 v, .string (txt s)] ∧ i64' k ∧ i64' v ∧ s.length ≤ 9223372036854775807 := by
  obtain ⟨xs, q, _, hy, hl, hlen, hf⟩ := DataW.trod_struct Tryd.underlying32 h
  rw [cells_v] at hl
  obtain ⟨c0, c1, c2, rfl⟩ := list3 hl
  have hlen' : xs.length = 3 := hlen
  obtain ⟨y0, y1, y2, rfl⟩ := list3 hlen'
  have g0 : DataW.trod enc Tryd.prog W 0 (fun _ => true) true q 3 ((([c0, c1, c2] : List Value).drop 0).take (Tryd.prog.cellsOf 3)) = ([y0, y1, y2] : List (DataW H × List MemPlace))[0]? := hf 0 _ rfl
  have g1 : DataW.trod enc Tryd.prog W 0 (fun _ => true) true q 2 ((([c0, c1, c2] : List Value).drop 1).take (Tryd.prog.cellsOf 2)) = ([y0, y1, y2] : List (DataW H × List MemPlace))[1]? := hf 1 _ rfl
  have g2 : DataW.trod enc Tryd.prog W 0 (fun _ => true) true q 9 ((([c0, c1, c2] : List Value).drop 2).take (Tryd.prog.cellsOf 9)) = ([y0, y1, y2] : List (DataW H × List MemPlace))[2]? := hf 2 _ rfl
  rw [cells_i] at g0
  rw [cells_l] at g1
  rw [cells_s] at g2
  obtain ⟨z0, e0, _, v0⟩ := DataW.trod_int Tryd.underlying3 (show DataW.trod enc Tryd.prog W 0 (fun _ => true) true q 3 [c0] = some y0 from g0)
  obtain ⟨z1, e1, _, v1⟩ := DataW.trod_int Tryd.underlying2 (show DataW.trod enc Tryd.prog W 0 (fun _ => true) true q 2 [c1] = some y1 from g1)
  obtain ⟨s, e2, _, v2⟩ := DataW.trod_string Tryd.underlying9 (show DataW.trod enc Tryd.prog W 0 (fun _ => true) true q 9 [c2] = some y2 from g2)
  injection e0 with e0
  injection e1 with e1
  injection e2 with e2
  refine ⟨z0, z1, s.data.toList, by rw [e0, e1, e2]; rfl, int_bounds v0, int_bounds v1, ?_⟩
  unfold maxLen at v2
  rw [Array.length_toList]
  exact v2
theorem rep_open {W : World} {n : Nat} {cs : List Value} {y : DataW H × List MemPlace} (h : DataW.trod enc Tryd.prog W 0 (fun _ => true) true n 34 cs = some y) :
    ∃ r : Rp, cs = (rpC r).toList ∧ r.In := by
  obtain ⟨xs, q, _, hy, hl, hlen, hf⟩ := DataW.trod_struct Tryd.underlying34 h
  rw [cells_r] at hl
  obtain ⟨c0, c1, c2, c3, c4, rfl⟩ := list5 hl
  have hlen' : xs.length = 3 := hlen
  obtain ⟨y0, y1, y2, rfl⟩ := list3 hlen'
  have g0 : DataW.trod enc Tryd.prog W 0 (fun _ => true) true q 30 ((([c0, c1, c2, c3, c4] : List Value).drop 0).take (Tryd.prog.cellsOf 30)) = ([y0, y1, y2] : List (DataW H × List MemPlace))[0]? := hf 0 _ rfl
  have g1 : DataW.trod enc Tryd.prog W 0 (fun _ => true) true q 3 ((([c0, c1, c2, c3, c4] : List Value).drop 1).take (Tryd.prog.cellsOf 3)) = ([y0, y1, y2] : List (DataW H × List MemPlace))[1]? := hf 1 _ rfl
  have g2 : DataW.trod enc Tryd.prog W 0 (fun _ => true) true q 32 ((([c0, c1, c2, c3, c4] : List Value).drop 2).take (Tryd.prog.cellsOf 32)) = ([y0, y1, y2] : List (DataW H × List MemPlace))[2]? := hf 2 _ rfl
  rw [cells_e] at g0
  rw [cells_i] at g1
  rw [cells_v] at g2
  obtain ⟨z0, e0, _, v0⟩ := DataW.trod_int Tryd.underlying30 (show DataW.trod enc Tryd.prog W 0 (fun _ => true) true q 30 [c0] = some y0 from g0)
  obtain ⟨z1, e1, _, v1⟩ := DataW.trod_int Tryd.underlying3 (show DataW.trod enc Tryd.prog W 0 (fun _ => true) true q 3 [c1] = some y1 from g1)
  obtain ⟨k, v, s, e2, hk, hv, hs⟩ := val_open (show DataW.trod enc Tryd.prog W 0 (fun _ => true) true q 32 [c2, c3, c4] = some y2 from g2)
  injection e0 with e0
  injection e1 with e1
  injection e2 with e2 e3
  injection e3 with e3 e4
  injection e4 with e4
  exact ⟨⟨z0, z1, k, v, s⟩, by rw [e0, e1, e2, e3, e4]; rfl, ⟨int_bounds v0, int_bounds v1, hk, hv, hs⟩⟩
theorem op_open {W : World} {n : Nat} {cs : List Value} {y : DataW H × List MemPlace} (h : DataW.trod enc Tryd.prog W 0 (fun _ => true) true n 37 cs = some y) (hw : ∀ x ∈ y.1.weights Tryd.prog 37, x ≤ reachBytes) :
    ∃ (o : Op15) (Ad : Option Addr) (m k : Nat), cs = (op15C o Ad m k).toList ∧ o.Ok W W.heap.size Ad m k := by
  obtain ⟨xs, q, _, hy, hl, hlen, hf⟩ := DataW.trod_struct Tryd.underlying37 h
  rw [cells_op] at hl
  obtain ⟨c0, c1, c2, c3, c4, c5, c6, c7, c8, rfl⟩ := list9 hl
  have hlen' : xs.length = 5 := hlen
  obtain ⟨y0, y1, y2, y3, y4, rfl⟩ := list5 hlen'
  subst hy
  have hw' : ∀ (j : Nat) (t : TypeId) (d : DataW H), ([3, 3, 3, 34, 35] : List TypeId)[j]? = some t → ([y0.1, y1.1, y2.1, y3.1, y4.1] : List (DataW H))[j]? = some d → ∀ x ∈ d.weights Tryd.prog t, x ≤ reachBytes := fun j t d ht hd x hx => by
    refine hw x ?_
    simp only [DataW.weights]
    rw [Tryd.underlying37]
    exact DataW.weights_mem_each (j := j) ht hd x hx
  have g0 : DataW.trod enc Tryd.prog W 0 (fun _ => true) true q 3 ((([c0, c1, c2, c3, c4, c5, c6, c7, c8] : List Value).drop 0).take (Tryd.prog.cellsOf 3)) = ([y0, y1, y2, y3, y4] : List (DataW H × List MemPlace))[0]? := hf 0 _ rfl
  have g1 : DataW.trod enc Tryd.prog W 0 (fun _ => true) true q 3 ((([c0, c1, c2, c3, c4, c5, c6, c7, c8] : List Value).drop 1).take (Tryd.prog.cellsOf 3)) = ([y0, y1, y2, y3, y4] : List (DataW H × List MemPlace))[1]? := hf 1 _ rfl
  have g2 : DataW.trod enc Tryd.prog W 0 (fun _ => true) true q 3 ((([c0, c1, c2, c3, c4, c5, c6, c7, c8] : List Value).drop 2).take (Tryd.prog.cellsOf 3)) = ([y0, y1, y2, y3, y4] : List (DataW H × List MemPlace))[2]? := hf 2 _ rfl
  have g3 : DataW.trod enc Tryd.prog W 0 (fun _ => true) true q 34 ((([c0, c1, c2, c3, c4, c5, c6, c7, c8] : List Value).drop 3).take (Tryd.prog.cellsOf 34)) = ([y0, y1, y2, y3, y4] : List (DataW H × List MemPlace))[3]? := hf 3 _ rfl
  have g4 : DataW.trod enc Tryd.prog W 0 (fun _ => true) true q 35 ((([c0, c1, c2, c3, c4, c5, c6, c7, c8] : List Value).drop 8).take (Tryd.prog.cellsOf 35)) = ([y0, y1, y2, y3, y4] : List (DataW H × List MemPlace))[4]? := hf 4 _ rfl
  rw [cells_i] at g0 g1 g2
  rw [cells_r] at g3
  rw [cells_b] at g4
  obtain ⟨z0, e0, _, v0⟩ := DataW.trod_int Tryd.underlying3 (show DataW.trod enc Tryd.prog W 0 (fun _ => true) true q 3 [c0] = some y0 from g0)
  obtain ⟨z1, e1, _, v1⟩ := DataW.trod_int Tryd.underlying3 (show DataW.trod enc Tryd.prog W 0 (fun _ => true) true q 3 [c1] = some y1 from g1)
  obtain ⟨z2, e2, _, v2⟩ := DataW.trod_int Tryd.underlying3 (show DataW.trod enc Tryd.prog W 0 (fun _ => true) true q 3 [c2] = some y2 from g2)
  obtain ⟨r, e3, hr⟩ := rep_open (show DataW.trod enc Tryd.prog W 0 (fun _ => true) true q 34 [c3, c4, c5, c6, c7] = some y3 from g3)
  obtain ⟨Ad, m, k, l, e4, hmk, hk, hrd⟩ := bytes_open (show DataW.trod enc Tryd.prog W 0 (fun _ => true) true q 35 [c8] = some y4 from g4) (hw' 4 _ _ rfl rfl)
  injection e0 with e0
  injection e1 with e1
  injection e2 with e2
  have e3' : [c3, c4, c5, c6, c7] = [.int .i64 r.err, .int .i64 r.n, .int .i64 r.kind, .int .i64 r.vn, .string (txt r.s)] := e3
  simp only [List.cons.injEq, and_true] at e3'
  obtain ⟨a3, a4, a5, a6, a7⟩ := e3'
  exact ⟨⟨z0, z1, z2, r, l⟩, Ad, m, k, by rw [e0, e1, e2, a3, a4, a5, a6, a7, e4]; rfl, ⟨int_bounds v0, int_bounds v1, int_bounds v2, hr, hmk, hk, hrd⟩⟩
theorem weights_mem_all {P : Program} {e : TypeId} : ∀ {ds : List (DataW H)} {d : DataW H}, d ∈ ds → ∀ n ∈ d.weights P e, n ∈ DataW.weightsAll P e ds
  | d0 :: ds, d, h, n, hn => by
    simp only [DataW.weightsAll, List.mem_append]
    rcases List.mem_cons.1 h with rfl | h
    · exact .inl hn
    · exact .inr (weights_mem_all h n hn)
theorem open_ops {W : World} {A : Option Addr} {n c : Nat} {d : DataW H} {p : List MemPlace} (h : DataW.Trod enc Tryd.prog W 0 (fun _ => true) true 22 (.slice A n c) d p)
    {ts : List TypeId} {ds : List (DataW H)} (hsz : (DataW.weightsEach Tryd.prog ts ds).all (· ≤ reachBytes) = true) {j : Nat} (hj : ts[j]? = some 22) (hd : ds[j]? = some d) :
    ∃ ops, OpsAt15 W W.heap.size A n ops ∧ n ≤ c := by
  obtain ⟨fuel, hf⟩ := h
  have hwd : ∀ x ∈ d.weights Tryd.prog 22, x ≤ reachBytes := fun x hx => by
    have := List.all_eq_true.1 hsz x (DataW.weights_mem_each hj hd x hx)
    simpa using this
  rcases Deep.open_slice Tryd.underlying22 hf with ⟨hcs, hx⟩ | ⟨a, len, cap, m, q, D, Pl, hcs, _, hl, _, hm, hx, hel⟩
  · simp [Value.cells] at hcs
    obtain ⟨rfl, rfl, rfl⟩ := hcs
    exact ⟨[], ⟨rfl, fun h => absurd h (Nat.lt_irrefl 0)⟩, Nat.le_refl _⟩
  · simp [Value.cells] at hcs
    obtain ⟨rfl, rfl, rfl⟩ := hcs
    simp only [if_true] at hm
    simp only [Prod.mk.injEq] at hx
    obtain ⟨hx, _⟩ := hx
    have hb : ∀ i, i < n → ∃ o : Op15, ∃ Ad m k, (∀ j u, (op15C o Ad m k).toList[j]? = some u → W.cell? (a.add (9 * i + j)) = some u) ∧ o.Ok W W.heap.size Ad m k := fun i hi => by
      obtain ⟨cs', h1, h2⟩ := hel i (by omega)
      rw [cells_op] at h1
      have hwi : ∀ x ∈ (D i).weights Tryd.prog 37, x ≤ reachBytes := fun x hx' => by
        refine hwd x ?_
        rw [hx]
        simp only [DataW.weights]
        rw [Tryd.underlying22]
        refine List.mem_cons_of_mem _ (List.mem_append_left _ (weights_mem_all (d := D i) ?_ x hx'))
        exact List.mem_map_of_mem (List.mem_range.2 hi)
      obtain ⟨o, Ad, m', k, rfl, hok⟩ := op_open h2 hwi
      obtain ⟨_, hlen, hc⟩ := World.cells?_some h1
      refine ⟨o, Ad, m', k, fun j u hu => ?_, hok⟩
      have hj6 : j < 9 := (List.getElem?_eq_some_iff.1 hu).1
      have := hc j hj6
      rw [Deep.add_add, Nat.mul_comm] at this
      rw [this]
      exact hu
    obtain ⟨f, hf⟩ := Deep.choose_lt hb
    refine ⟨(List.range n).map f, ⟨by simp, fun hn => ⟨a, rfl, ?_, fun i o ho => ?_⟩⟩, hl⟩
    · obtain ⟨Ad, m', k', h1, _⟩ := hf 0 hn
      have := cell_block (h1 0 _ rfl)
      rwa [show a.add (9 * 0 + 0) = a from by simp [Addr.add]] at this
    · have hj : i < n := by have := (List.getElem?_eq_some_iff.1 ho).1; simpa using this
      rw [List.getElem?_map, List.getElem?_range hj] at ho
      obtain rfl := Option.some.inj ho
      exact hf i hj
end
theorem add_blk (x : Addr) (j : Nat) : (x.add j).block = x.block := by unfold Addr.add; split <;> rfl
theorem OpsAt15.len {W : World} {B n : Nat} {A : Option Addr} {ops : List Op15} (h : OpsAt15 W B A n ops) : ops.length = n := h.1
theorem Op15.Ok.below {W W' : World} {B : Nat} {o : Op15} {Ad : Option Addr} {m k : Nat} (h : o.Ok W B Ad m k) (hb : Below B W W') : o.Ok W' B Ad m k :=
  ⟨h.kind, h.id, h.at_, h.r, h.le, h.k, h.data.below hb⟩
/-- an operation of a number, in all later worlds -/
theorem OpsAt15.later {W : World} {B i n : Nat} {A : Option Addr} {ops : List Op15} {o : Op15} (h : OpsAt15 W B A n ops) (ho : ops[i]? = some o) :
    ∃ x Ad m k, A = some x ∧ ∀ W', Below B W W' → (∀ j u, (op15C o Ad m k).toList[j]? = some u → W'.cell? ((x.add (i * 9)).add j) = some u) ∧ o.Ok W' B Ad m k := by
  have hi := (List.getElem?_eq_some_iff.1 ho).1
  have h1 := h.1
  obtain ⟨x, hA, hx, h3⟩ := h.2 (by omega)
  obtain ⟨Ad, m, k, e1, e2⟩ := h3 i o ho
  refine ⟨x, Ad, m, k, hA, fun W' hb => ⟨fun j u hu => ?_, e2.below hb⟩⟩
  rw [hb.cell (by rw [add_blk, add_blk]; exact hx), Deep.add_add, Nat.mul_comm i 9]
  exact e1 j u hu
theorem OpsAt15.stay {W W' : World} {B n : Nat} {A : Option Addr} {ops : List Op15} (h : OpsAt15 W B A n ops) (hb : Below B W W') : OpsAt15 W' B A n ops := by
  refine ⟨h.1, fun hn => ?_⟩
  obtain ⟨x, hA, hx, h3⟩ := h.2 hn
  refine ⟨x, hA, hx, fun i o ho => ?_⟩
  obtain ⟨Ad, m, k, e1, e2⟩ := h3 i o ho
  exact ⟨Ad, m, k, fun j u hu => by rw [hb.cell (by rw [add_blk]; exact hx)]; exact e1 j u hu, e2.below hb⟩
theorem VRead.loadL {P : Program} {w : World} {t k : Nat} {p : Addr} {cs : Array Value} {K : Value → Prop} [a : TAgg P t k] (hc : ∀ j v, cs.toList[j]? = some v → w.cell? (p.add j) = some v) (hs : Nat.beq cs.size k = true) (hk : K (.agg cs)) : VRead P (Eq w) (Instr.loadAt t (.pointer (some p))) K :=
  .of1 (by have := run_load_list a hc (by rw [Array.length_toList]; exact Nat.eq_of_beq_eq_true hs); simpa using this) hk
end Go.Proofs.YtnjhdbgejhnpfaaDoor
end

section
set_option maxRecDepth 10000
namespace Go.Proofs.YtnjhdbgejhnpfaaDoor
set_option linter.unusedVariables false
open Go.RowKit

theorem own_ne {w : World} {B n g T : Nat} {v : Value} {l : List UInt8} {cs : Array Value} (ho : Own w B v n l) (hb : Blk w g T cs) (hT : 5 ≠ T) : some g ≠ v.ownBlock := fun e => by
  obtain ⟨_, cs', hc⟩ := row_cells ho g e.symm
  unfold Blk at hb
  rw [hc] at hb
  injection hb with hb
  injection hb with _ h2 _
  exact hT h2
set_option maxHeartbeats 4000000 in
theorem tPut_any (W : World) (U : Foot) (r : Nat) (S : SS) (h : Rt W U r S) (hok : TOk S.t) :
    Calls Tryd.prog 29 #[.pointer (some ⟨r, 0, none⟩)] W fun e W' => ∃ A' m c', e = .returned (.slice A' m c') ∧ Own W' W.heap.size (.slice A' m c') m S.put ∧ Below W.heap.size W W' := by
  obtain ⟨hwf, hlt, A, c, h⟩ := h
  have hb := h.blk
  have hfew := hwf.few
  have hmost := hwf.most
  refine calls_vc Tryd.func29 rfl (by kernel_rfl) ?_
  ((conv => whnf); (repeat ((first | (refine VL.cons ?_) | (refine VL.nil ?_) | (refine VC.seqS rfl ?_) | (refine VC.region ?_)); (conv => whnf))))
  (repeat ((first | (refine VRead.loadB hb rfl rfl ?_) | (refine VL.cons ?_) | (refine VRead.lenS ?_) | (refine VRead.fld ?_)); (conv => whnf)))
  refine VCall.of (refInt_any (S.t.length : Int) W (by omega)) ?_
  rintro e W1 ⟨A1, m1, c1, rfl, hO1, hB1⟩
  refine ⟨_, rfl, ?_⟩
  have hm1 := Own.len hO1
  have l0 := Wire.int_len (S.t.length : Int)
  ((conv => whnf); (repeat ((first | (refine VL.cons ?_) | (refine VL.nil ?_)); (conv => whnf))))
  ((repeat ((first | (refine VL.cons ?_) | (refine VL.nil ?_) | (refine VC.seqS rfl ?_) | (refine VC.region ?_) | (refine VC.block ?_) | (refine VC.seq ?_)); (conv => whnf))))
  refine VC.loop [3, 4] [(3, 5), (12, 47)] (fun q vs w => ∃ (T0 T1 : STb) (A2 : Option Addr) (n2 c2 : Nat), vs = [.slice A2 n2 c2, .int .i64 (T0.length : Int)] ∧ q = T1.length ∧ S.t = T0 ++ T1 ∧ Own w W.heap.size (.slice A2 n2 c2) n2 (Wire.int (S.t.length : Int) ++ tabB T0) ∧ n2 ≤ 10 + 600 * T0.length ∧ Below W.heap.size W w) (by kernel_rfl)
    ⟨_, [], S.t, A1, m1, c1, rfl, rfl, rfl, (by rw [show Wire.int (S.t.length : Int) ++ tabB [] = Wire.int (S.t.length : Int) by simp [tabB]]; exact hO1), by omega, hB1⟩ ?_
  rintro q τ vs w ⟨T0, T1, A2, n2, c2, rfl, rfl, hS, hO, hn2, hBw⟩
  have hTl : S.t.length = T0.length + T1.length := by rw [hS]; simp
  have hw : RtAt w U r A c S := h.stay (fun j hj _ => hBw.block j hj)
  have hbw := hw.blk
  cases T1 with
  | nil =>
    rw [List.append_nil] at hS
    simp only [List.length_nil] at hTl
    ((conv => whnf); (repeat ((fail); (conv => whnf))))
    (repeat ((first | (refine VRead.loadB hbw rfl rfl ?_) | (refine VL.cons ?_) | (refine VL.nil ?_) | (refine VC.seqS rfl ?_) | (refine VC.region ?_) | (refine VC.cond ?_) | (refine VC.exit ?_) | (refine VC.ret ?_) | (refine VBool.dF (by omega) ?_) | (refine VRead.lenS ?_) | (refine VRead.fld ?_) | (refine VC.seq ?_)); (conv => whnf)))
    refine ⟨A2, n2, c2, rfl, ?_, hBw⟩
    unfold SS.put
    rw [hS] at hO ⊢
    exact hO
  | cons p T1 =>
    simp only [List.length_cons] at hTl
    have hp : p ∈ S.t := by rw [hS]; simp
    have hpk : S.t[T0.length]? = some p := by rw [hS]; simp
    have hlt' : T0.length < S.t.length := by omega
    have hpo := hok p hp
    have hpi := hwf.ids p hp
    have hrl := rB_le hpo.rp
    obtain ⟨q1, q2, q3, q4, q5⟩ := ROk_le hpo.rp
    have hvl := VOk_le q5
    have hu := hpo.used
    have hsq := hpo.seq
    have hvn := hpo.vn
    obtain ⟨g0, rfl, hg0, hUg0, _⟩ := hw.cell (k := 0) hpk rfl
    have kc : ∀ (j : Nat) (v : Value), (oneC p).toList[j]? = some v → w.cell? (((⟨g0, 0, none⟩ : Addr).add (T0.length * 8)).add j) = some v := fun j v hv => by
      obtain ⟨g', e, _, _, hc⟩ := hw.cell (k := j) hpk hv
      injection e with e
      injection e with e
      subst e
      exact hc
    ((conv => whnf); (repeat ((fail); (conv => whnf))))
    (repeat ((first | (refine VRead.loadB hbw rfl rfl ?_) | (refine VRead.atK hlt' ?_) | (refine VL.cons ?_) | (refine VL.nil ?_) | (refine VC.seqS rfl ?_) | (refine VC.region ?_) | (refine VC.cond ?_) | (refine VC.block ?_) | (refine VC.skip ?_) | (refine VBool.dT (by omega) ?_) | (refine VRead.lenS ?_) | (refine VRead.fld ?_) | (refine VC.seq ?_)); (conv => whnf)))
    refine VRead.loadL (cs := oneC p) kc rfl ?_
    ((conv => whnf); (repeat ((first | (refine VL.cons ?_)); (conv => whnf))))
    ((repeat ((fail); (conv => whnf))))
    refine VSem.allocZ (z := .agg #[.int .i64 0, .int .i64 0, .int .i64 0, .int .i64 0, .int .i64 0, .int .i64 0, .int .i64 0, .string ByteArray.empty]) (by kernel_rfl) ?_
    intro w1 g hb1 hgb hlb hB3
    ((conv => whnf); (repeat ((first | (refine VL.cons ?_)); (conv => whnf))))
    ((repeat ((fail); (conv => whnf))))
    refine VUnit.storeAB hb1 rfl rfl rfl (by simp [oneC, Value.oneCell']) ?_
    intro w2 hb2 hg2
    replace hb2 : Blk w2 g 56 #[.int .i64 p.1, .int .i64 p.2.used, .int .i64 p.2.seq, .int .i64 p.2.rp.err, .int .i64 p.2.rp.n, .int .i64 p.2.rp.kind, .int .i64 p.2.rp.vn, .string (txt p.2.rp.s)] := hb2
    have hw2 : Below w.heap.size w w2 := only_new hB3 hg2 (by omega) (by omega)
    have hO2 := rows_below hO hw2 (Nat.le_refl _)
    have hs0 := hBw.size
    have hs2 := hw2.size
    have hB2 : Below W.heap.size W w2 := hBw.trans (hw2.mono hs0)
    have hS3 : Blk (w2.drewN 1) g 56 #[.int .i64 p.1, .int .i64 p.2.used, .int .i64 p.2.seq, .int .i64 p.2.rp.err, .int .i64 p.2.rp.n, .int .i64 p.2.rp.kind, .int .i64 p.2.rp.vn, .string (txt p.2.rp.s)] := hb2
    have hO3 : Own (w2.drewN 1) W.heap.size (.slice A2 n2 c2) n2 _ := rows_below hO2 (below_drewN (Below.refl w2.heap.size w2) 1) (Nat.le_refl _)
    have hB3' : Below W.heap.size W (w2.drewN 1) := below_drewN hB2 1
    ((conv => whnf); (repeat ((first | (refine VL.nil ?_)); (conv => whnf))))
    ((repeat ((first | (refine VC.draw ?_) | (refine VC.seq ?_)); (conv => whnf))))
    refine VDraw.seg (fun X => Blk X g 56 #[.int .i64 p.1, .int .i64 p.2.used, .int .i64 p.2.seq, .int .i64 p.2.rp.err, .int .i64 p.2.rp.n, .int .i64 p.2.rp.kind, .int .i64 p.2.rp.vn, .string (txt p.2.rp.s)]) [([0, 1, 2, 5, 6, 9, 10], 3), ([], 4), ([], 7), ([], 8), ([], 11), ([], 12)] [13] (by kernel_rfl) (by kernel_rfl) hS3 ?_
    generalize w2.drewN 1 = w3 at *
    clear hO hO2 hb1 hb2
    (conv => whnf)
    (repeat ((first | (refine VRead.loadBS (fun _ h => h) rfl rfl ?_) | (refine VQ.cons ?_) | (refine VQ.nil ?_) | (refine VG.cons ?_) | (refine VRead.fld ?_)); (conv => whnf)))
    refine VCall.of (refInt_any p.1 w3 (by omega)) ?_
    rintro e w4 ⟨A4, m4, c4, rfl, hO4, hB4⟩
    refine ⟨_, rfl, ?_⟩
    have hm4 := Own.len hO4
    have k4 := Wire.int_len p.1
    have hS4 := hS3.laterT hB4
    have hO34 := rows_below hO3 hB4 (Nat.le_refl _)
    have hB04 := hB3'.trans (hB4.mono hB3'.size)
    (conv => whnf)
    refine Keep.mk hS4 ?_
    (conv => whnf)
    ((repeat ((first | (refine VQ.nil ?_) | (refine VG.cons ?_)); (conv => whnf))))
    refine VSem.appO hO34 (Own.reads hO4) (by omega) hB04.size ?_
    intro A5 c5 w5 hO5 hg5 hB5
    have hS5 := hS4.grown hg5 (own_ne hO34 hS4 (by decide))
    have hB05 := hB04.trans hB5
    (conv => whnf)
    refine Keep.mk hS5 ?_
    (conv => whnf)
    ((repeat ((first | (refine VQ.nil ?_) | (refine VG.cons ?_)); (conv => whnf))))
    refine VCall.of (refInt_any p.2.used w5 (by omega)) ?_
    rintro e w6 ⟨A6, m6, c6, rfl, hO6, hB6⟩
    refine ⟨_, rfl, ?_⟩
    have hm6 := Own.len hO6
    have k6 := Wire.int_len p.2.used
    have hS6 := hS5.laterT hB6
    have hO56 := rows_below hO5 hB6 (Nat.le_refl _)
    have hB06 := hB05.trans (hB6.mono hB05.size)
    (conv => whnf)
    refine Keep.mk hS6 ?_
    (conv => whnf)
    ((repeat ((first | (refine VQ.nil ?_) | (refine VG.cons ?_)); (conv => whnf))))
    refine VSem.appO hO56 (Own.reads hO6) (by omega) hB06.size ?_
    intro A7 c7 w7 hO7 hg7 hB7
    have hS7 := hS6.grown hg7 (own_ne hO56 hS6 (by decide))
    have hB07 := hB06.trans hB7
    (conv => whnf)
    refine Keep.mk hS7 ?_
    (conv => whnf)
    ((repeat ((first | (refine VQ.nil ?_) | (refine VG.cons ?_)); (conv => whnf))))
    refine VCall.of (refInt_any p.2.seq w7 (by omega)) ?_
    rintro e w8 ⟨A8, m8, c8, rfl, hO8, hB8⟩
    refine ⟨_, rfl, ?_⟩
    have hm8 := Own.len hO8
    have k8 := Wire.int_len p.2.seq
    have hS8 := hS7.laterT hB8
    have hO78 := rows_below hO7 hB8 (Nat.le_refl _)
    have hB08 := hB07.trans (hB8.mono hB07.size)
    (conv => whnf)
    refine Keep.mk hS8 ?_
    (conv => whnf)
    ((repeat ((first | (refine VQ.nil ?_) | (refine VG.cons ?_)); (conv => whnf))))
    refine VSem.appO hO78 (Own.reads hO8) (by omega) hB08.size ?_
    intro A9 c9 w9 hO9 hg9 hB9
    have hS9 := hS8.grown hg9 (own_ne hO78 hS8 (by decide))
    have hB09 := hB08.trans hB9
    (conv => whnf)
    refine Keep.mk hS9 ?_
    ((conv => whnf); (repeat ((first | (refine VL.cons ?_) | (refine VC.region ?_) | (refine VQ.cons ?_) | (refine VQ.nil ?_) | (refine VG.nil ?_)); (conv => whnf))))
    ((repeat ((first | (refine VL.cons ?_) | (refine VRead.fld ?_)); (conv => whnf))))
    refine VRead.loadABi (vs := rpC p.2.rp) 3 (fun _ e => e ▸ hS9) rfl rfl (by intro j hj; match j, hj with | 0, _ => rfl | 1, _ => rfl | 2, _ => rfl | 3, _ => rfl | 4, _ => rfl) ?_
    ((conv => whnf); (repeat ((first | (refine VL.cons ?_)); (conv => whnf))))
    ((repeat ((fail); (conv => whnf))))
    refine VCall.of (rrPut_any p.2.rp w9 (by omega) (by unfold i64'; omega) (by unfold i64'; omega) (by unfold i64'; omega) hvn) ?_
    rintro e w10 ⟨A10, m10, c10, rfl, hO10, hB10⟩
    refine ⟨_, rfl, ?_⟩
    have hO910 := rows_below hO9 hB10 (Nat.le_refl _)
    have hB010 := hB09.trans (hB10.mono hB09.size)
    ((conv => whnf); (repeat ((first | (refine VL.cons ?_)); (conv => whnf))))
    ((repeat ((fail); (conv => whnf))))
    refine VSem.convT (Own.reads hO10) ?_
    have hsz : ByteArray.size (txt (rB p.2.rp)) = (rB p.2.rp).length := txt_size _
    ((conv => whnf); (repeat ((first | (refine VL.cons ?_)); (conv => whnf))))
    ((repeat ((fail); (conv => whnf))))
    refine VCall.of (refText_any (txt (rB p.2.rp)) w10 (by omega)) ?_
    rintro e w11 ⟨A11, m11, c11, rfl, hO11, hB11⟩
    refine ⟨_, rfl, ?_⟩
    have hm11 := Own.len hO11
    rw [txt_list] at hO11 hm11
    have hO911 := rows_below hO910 hB11 (Nat.le_refl _)
    have hB011 := hB010.trans (hB11.mono hB010.size)
    have l3 : (Wire.text (rB p.2.rp)).length ≤ 10 + 450 := by
      have := Wire.int_len ((rB p.2.rp).length : Int)
      unfold Wire.text
      rw [List.length_append]
      omega
    ((conv => whnf); (repeat ((first | (refine VL.cons ?_)); (conv => whnf))))
    ((repeat ((fail); (conv => whnf))))
    refine VSem.appO hO911 (Own.reads hO11) (by omega) hB011.size ?_
    intro A12 c12 w12 hO12 hg12 hB12
    ((conv => whnf); (repeat ((first | (refine VL.cons ?_) | (refine VL.nil ?_) | (refine VC.region ?_)); (conv => whnf))))
    ((repeat ((first | (refine VL.cons ?_) | (refine VL.nil ?_) | (refine VWrap.i64 (by omega) (by omega) ?_)); (conv => whnf))))
    refine ⟨_, by simp, T0 ++ [p], T1, A12, n2 + m4 + m6 + m8 + m11, c12, ?_, rfl, by rw [hS]; simp, ?_, ?_, hB011.trans hB12⟩
    · simp only [List.length_append, List.length_cons, List.length_nil]; rfl
    · rw [tabB_snoc]
      unfold enB
      simpa only [List.append_assoc] using hO12
    · simp only [List.length_append, List.length_cons, List.length_nil]
      omega
end Go.Proofs.YtnjhdbgejhnpfaaDoor
end

section
set_option maxRecDepth 10000
namespace Go.Proofs.YtnjhdbgejhnpfaaDoor
set_option linter.unusedVariables false
open Go.RowKit

def f4S (s : Option (List UInt8)) := Wire.textS 1048576 (e3S s).2
theorem intS_back {s : Option (List UInt8)} {v : Int} {r : List UInt8} (h : Wire.intS s = (v, some r)) : s = some (Wire.int v ++ r) := by
  cases s with
  | none => simp [Wire.intS] at h
  | some l =>
    unfold Wire.intS at h
    simp only at h
    cases hg : Wire.getInt l with
    | none => rw [hg] at h; simp at h
    | some p =>
      obtain ⟨a, b⟩ := p
      rw [hg] at h
      simp only [Prod.mk.injEq, Option.some.injEq] at h
      obtain ⟨rfl, rfl⟩ := h
      rw [(Wire.getInt_back hg).1]
theorem intS_ok {s : Option (List UInt8)} (h : Wire.okS (Wire.intS s).2 = true) : ∃ v r, Wire.intS s = (v, some r) := by
  obtain ⟨v, r, e⟩ : ∃ v r, Wire.intS s = (v, r) := ⟨_, _, rfl⟩
  rw [e] at h
  cases r with
  | none => cases h
  | some r => exact ⟨v, r, e⟩
theorem textS_ok {most : Int} {s : Option (List UInt8)} (h : Wire.okS (Wire.textS most s).2 = true) : ∃ v r, Wire.intS s = (v, some r) ∧ 0 ≤ v ∧ v ≤ most ∧ v ≤ (r.length : Int) ∧ Wire.textS most s = (r.take v.toNat, some (r.drop v.toNat)) := by
  unfold Wire.textS Wire.countS at h
  obtain ⟨v, r, e⟩ : ∃ v r, Wire.intS s = (v, r) := ⟨_, _, rfl⟩
  rw [e] at h
  cases r with
  | none => simp [Wire.okS] at h
  | some r =>
    simp only at h
    by_cases hc : v < 0 ∨ most < v ∨ (r.length : Int) < v
    · rw [if_pos hc] at h; simp [Wire.okS] at h
    · refine ⟨v, r, e, by omega, by omega, by omega, ?_⟩
      unfold Wire.textS Wire.countS
      rw [e]
      simp only
      rw [if_neg hc]
theorem textS_of {most : Int} {s : Option (List UInt8)} {v : Int} {r : List UInt8} (e : Wire.intS s = (v, some r)) (h0 : 0 ≤ v) (h1 : v ≤ most) (h2 : v ≤ (r.length : Int)) : Wire.textS most s = (r.take v.toNat, some (r.drop v.toNat)) := by
  unfold Wire.textS Wire.countS
  rw [e]
  simp only
  rw [if_neg (by omega)]
theorem okS_intS {s : Option (List UInt8)} (h : Wire.okS (Wire.intS s).2 = true) : Wire.okS s = true := by
  cases s with
  | none => cases h
  | some l => rfl
/-- bytes that are a reply are few -/
theorem getR_le {b : List UInt8} (h : (getR b).2 = true) : b.length ≤ 450 := by
  have hc : (Wire.endS (rdS b) && ROk (rdR b)) = true := by
    unfold getR at h
    split at h
    · assumption
    · cases h
  simp only [Bool.and_eq_true] at hc
  have he := hc.1
  unfold rdS at he
  obtain ⟨s2, h2⟩ : ∃ s2, (Wire.intS (Wire.intS (some b)).2).2 = s2 := ⟨_, rfl⟩
  rw [h2] at he
  have hg : Wire.okS (Wire.textS 400 (Wire.intS (Wire.intS s2).2).2).2 = true ∧ Wire.endS (Wire.textS 400 (Wire.intS (Wire.intS s2).2).2).2 = true := by
    unfold vGetS at he
    split at he
    · rename_i hh
      simp only [Bool.and_eq_true] at hh
      exact ⟨hh.1, he⟩
    · cases he
  obtain ⟨v5, r5, e5, h50, h51, h52, et⟩ := textS_ok hg.1
  have hend := hg.2
  rw [et] at hend
  have ok4 : Wire.okS (Wire.intS (Wire.intS s2).2).2 = true := okS_intS (by rw [e5]; rfl)
  obtain ⟨v4, r4, e4⟩ := intS_ok ok4
  obtain ⟨v3, r3, e3⟩ := intS_ok (okS_intS ok4)
  have ok2 : Wire.okS s2 = true := okS_intS (okS_intS ok4)
  obtain ⟨v2, r2, e2⟩ := intS_ok (s := (Wire.intS (some b)).2) (by rw [h2]; exact ok2)
  obtain ⟨v1, r1, e1⟩ := intS_ok (s := some b) (okS_intS (by rw [h2]; exact ok2))
  have b1 := intS_back e1
  rw [e1] at e2 h2
  have b2 := intS_back e2
  rw [e2] at h2
  rw [← h2] at e3 e4 e5
  have b3 := intS_back e3
  rw [e3] at e4 e5
  have b4 := intS_back e4
  rw [e4] at e5
  have b5 := intS_back e5
  simp only [Option.some.injEq] at b1 b2 b3 b4 b5
  simp only [Wire.endS, List.length_drop, decide_eq_true_eq] at hend
  have a1 := (Wire.int_len v1).2
  have a2 := (Wire.int_len v2).2
  have a3 := (Wire.int_len v3).2
  have a4 := (Wire.int_len v4).2
  have a5 := (Wire.int_len v5).2
  rw [b1, b2, b3, b4, b5]
  simp only [List.length_append]
  omega
theorem e4_f4 {s : Option (List UInt8)} (h : Wire.okS (e4S s).2 = true) : f4S s = e4S s := by
  obtain ⟨v, r, e, h0, h1, h2, et⟩ := textS_ok (show Wire.okS (Wire.textS 1000 (e3S s).2).2 = true from h)
  show Wire.textS 1048576 (e3S s).2 = Wire.textS 1000 (e3S s).2
  rw [et, textS_of e h0 (by omega) h2]
theorem f4_e4 {s : Option (List UInt8)} (h : Wire.okS (f4S s).2 = true) (hg : (getR (f4S s).1).2 = true) : e4S s = f4S s := by
  have hl := getR_le hg
  obtain ⟨v, r, e, h0, h1, h2, et⟩ := textS_ok (show Wire.okS (Wire.textS 1048576 (e3S s).2).2 = true from h)
  have ef : f4S s = (r.take v.toNat, some (r.drop v.toNat)) := et
  rw [ef] at hl
  simp only [List.length_take] at hl
  show Wire.textS 1000 (e3S s).2 = f4S s
  rw [ef, textS_of e h0 (by omega) h2]
/-- what the reference asks -/
structure LdOkF (last : Int) (s : Option (List UInt8)) : Prop where
  ok : Wire.okS (f4S s).2 = true
  rp : (getR (f4S s).1).2 = true
  last : last < (e1S s).1
  u1 : (e1S s).1 ≤ (e2S s).1
  u2 : (e2S s).1 ≤ 1099511627776
  q1 : 0 ≤ (e3S s).1
  q2 : (e3S s).1 ≤ 1099511627776
  none_ : (e3S s).1 = 0 → (getR (f4S s).1).1 = Rp.zero
theorem LdOk.toF {last : Int} {s : Option (List UInt8)} (h : LdOk last s) : LdOkF last s := by
  have e := e4_f4 h.ok
  exact ⟨by rw [e]; exact h.ok, by rw [e]; exact h.rp, h.last, h.u1, h.u2, h.q1, h.q2, by rw [e]; exact h.none_⟩
theorem LdOkF.toE {last : Int} {s : Option (List UInt8)} (h : LdOkF last s) : LdOk last s := by
  have e := f4_e4 h.ok h.rp
  exact ⟨by rw [e]; exact h.ok, by rw [e]; exact h.rp, h.last, h.u1, h.u2, h.q1, h.q2, by rw [e]; exact h.none_⟩
theorem LdOkF.eq {last : Int} {s : Option (List UInt8)} (h : LdOkF last s) : e4S s = f4S s := f4_e4 h.ok h.rp
instance (last : Int) (s : Option (List UInt8)) : Decidable (LdOkF last s) := decidable_of_iff (LdOk last s) ⟨LdOk.toF, LdOkF.toE⟩
def lastI (T : STb) : Int := (T.getLast?.map (·.1)).getD 0
theorem lastI_snoc (T : STb) (p : Int × Se) : lastI (T ++ [p]) = p.1 := by simp [lastI]
theorem lastI_at {T : STb} (h : 0 < T.length) : ∃ p, T[T.length - 1]? = some p ∧ lastI T = p.1 := by
  obtain ⟨p, hp⟩ : ∃ p, T[T.length - 1]? = some p := ⟨_, List.getElem?_eq_getElem (by omega)⟩
  refine ⟨p, hp, ?_⟩
  unfold lastI
  rw [List.getLast?_eq_getElem?, hp]
  rfl
end Go.Proofs.YtnjhdbgejhnpfaaDoor
end

section
set_option maxRecDepth 10000
namespace Go.Proofs.YtnjhdbgejhnpfaaDoor
set_option linter.unusedVariables false
open Go.RowKit

set_option maxHeartbeats 16000000 in
theorem tLoad_any (W : World) (U : Foot) (r g : Nat) (S : SS) (s : Option (List UInt8)) (h : Rt W U r S) (hgU : ¬ U g) (hr : RS 63 W g s) :
    Calls Tryd.prog 25 #[.pointer (some ⟨r, 0, none⟩), .pointer (some ⟨g, 0, none⟩)] W fun e W' => e = .returned (.bool (S.load s).1) ∧ (∃ U', Rt W' U' r (S.load s).2.1 ∧ ∀ j, U' j → U j ∨ W.heap.size ≤ j) ∧ RS 63 W' g (S.load s).2.2 ∧ Out (fun j => j = r ∨ j = g ∨ W.heap.size ≤ j) W W' := by
  have hwf' := h.wf.load s
  have hwf := h.wf
  have hT := h
  obtain ⟨_, hlt, A, c, h⟩ := h
  have hb := h.blk
  have hfew := hwf.few
  have hmost := hwf.most
  have hgl := hr.lt
  have hrl := hb.lt
  have hUr := h.hr
  have hrg : r ≠ g := fun e => hgU (e ▸ hUr)
  obtain ⟨O, hOd⟩ : ∃ O : Foot, O = fun j => j = g ∨ W.heap.size ≤ j := ⟨_, rfl⟩
  have og : O g := by rw [hOd]; exact .inl rfl
  have on : ∀ j, W.heap.size ≤ j → O j := fun j hj => by rw [hOd]; exact .inr hj
  have of : ∀ j, O j → j = r ∨ j = g ∨ W.heap.size ≤ j := fun j hj => by rw [hOd] at hj; exact .inr hj
  have nr : ¬ O r := fun hj => by rw [hOd] at hj; rcases hj with hj | hj <;> omega
  have nU : ∀ j, j < W.heap.size → U j → ¬ O j := fun j hj hu ho => by
    rw [hOd] at ho
    rcases ho with rfl | ho
    · exact hgU hu
    · omega
  clear hOd
  have no : ∀ {w : World}, S.load s = (false, S, none) → Out O W w → ∃ U', Rt w U' r (S.load s).2.1 ∧ ∀ j, U' j → U j ∨ W.heap.size ≤ j := fun {w} el hO => by
    rw [el]
    exact ⟨U, hT.stay hO.size (fun j hj hu => hO.block j hj (nU j hj hu)), fun j hj => .inl hj⟩
  have bT : ∀ {w : World}, Out O W w → Blk w r 29 #[.slice A S.t.length c, .int .i64 S.most] := fun hO => (hO.block r hrl nr).trans hb
  refine calls_vc Tryd.func25 rfl (by kernel_rfl) ?_
  ((conv => whnf); (repeat ((first | (refine VL.cons ?_) | (refine VL.nil ?_) | (refine VC.seqS rfl ?_) | (refine VC.region ?_)); (conv => whnf))))
  (repeat ((first | (refine VRead.loadB hb rfl rfl ?_) | (refine VL.cons ?_) | (refine VRead.fld ?_)); (conv => whnf)))
  refine VCall.of (fCount_any W g s S.most hr) ?_
  obtain ⟨q0, s0, hc0⟩ : ∃ q s', Wire.countS S.most s = (q, s') := ⟨_, _, rfl⟩
  have hq0 : 0 ≤ q0 ∧ q0 ≤ 64 ∧ (Wire.okS s0 = true ∨ q0 = 0) := by
    have : Wire.countS S.most s = (q0, s0) := hc0
    unfold Wire.countS at this
    split at this
    · injection this with h1 h2; omega
    · split at this
      · injection this with h1 h2; omega
      · rename_i hcc; injection this with h1 h2; refine ⟨by omega, by omega, .inl (by rw [← h2]; rfl)⟩
  obtain ⟨n, rfl⟩ : ∃ n : Nat, q0 = (n : Int) := ⟨q0.toNat, by omega⟩
  have hdef : S.load s = match ldN n 0 [] s0 with | none => (false, S, none) | some (T, s') => if Wire.okS s' = true then (true, ⟨S.most, T⟩, s') else (false, S, none) := by
    unfold SS.load; rw [hc0]; rfl
  rw [hc0]
  rintro e W2 ⟨rfl, hr2, hg2⟩
  refine ⟨_, rfl, ?_⟩
  have hO2 : Out O W W2 := Out.grown hg2 og
  obtain ⟨R, hR⟩ : ∃ R, ldN n 0 [] s0 = R := ⟨_, rfl⟩
  rw [hR] at hdef
  -- a reply that is no: behind the loop
  have fail : ∀ (w : World), S.load s = (false, S, none) → RS 63 w g none → Out O W w → Ending.returned (.bool false) = Ending.returned (.bool (S.load s).1) ∧ (∃ U', Rt w U' r (S.load s).2.1 ∧ ∀ j, U' j → U j ∨ W.heap.size ≤ j) ∧ RS 63 w g (S.load s).2.2 ∧ Out (fun j => j = r ∨ j = g ∨ W.heap.size ≤ j) W w := fun w el hR hO =>
    ⟨by rw [el], no el hO, by rw [el]; exact hR, hO.mono of⟩
  ((conv => whnf); (repeat ((first | (refine VL.cons ?_) | (refine VL.nil ?_) | (refine VC.seqS rfl ?_) | (refine VC.region ?_)); (conv => whnf))))
  ((repeat ((first | (refine VL.cons ?_) | (refine VL.nil ?_) | (refine VC.seqS rfl ?_) | (refine VC.region ?_) | (refine VC.block ?_) | (refine VC.seq ?_)); (conv => whnf))))
  refine VC.loop [6, 7] [(6, 11), (18, 121)] (fun q vs w => ∃ (acc : STb) (s' : Option (List UInt8)) (k : Nat) (A2 : Option Addr) (c2 : Nat), vs = [.slice A2 acc.length c2, .int .i64 (acc.length : Int)] ∧ q = k ∧ acc.length + k = n ∧ ldN k (lastI acc) acc s' = R ∧ AOk (lastI acc) acc ∧ (Wire.okS s' = true ∨ k = 0) ∧ w.ownsRow W.heap.size 56 8 (.slice A2 acc.length c2) acc.length (rowO acc) ∧ RS 63 w g s' ∧ Out O W w) (by kernel_rfl)
    ⟨_, [], s0, n, none, 0, rfl, rfl, by simp, hR, ⟨by simp [Rising], by simp, by simp, by intro p hp; simp at hp, by simp [lastI]⟩, hq0.2.2.imp (fun h => h) (fun h => by omega), World.ownsRow_nil W2 _ _ _, hr2, hO2⟩ ?_
  clear hr hr2 hO2 hg2 hR
  rintro q τ vs w ⟨acc, s', k, A2, c2, rfl, hqk, hk, hR, hA, hs', hrow, hrw, hOw⟩
  subst hqk
  have hsw := hOw.size
  have hbw := bT hOw
  cases q with
  | zero =>
    unfold ldN at hR
    rw [← hR] at hdef
    simp only at hdef
    obtain ⟨Ad, nn, cc, p, hf, hfail⟩ := hrw.flag
    cases s' with
    | none =>
      rw [if_neg (by simp [Wire.okS])] at hdef
      ((conv => whnf); (repeat ((fail); (conv => whnf))))
      (repeat ((first | (refine VRead.loadB hf rfl rfl ?_) | (refine VL.cons ?_) | (refine VL.nil ?_) | (refine VC.seqS rfl ?_) | (refine VC.region ?_) | (refine VC.cond ?_) | (refine VC.exit ?_) | (refine VC.ret ?_) | (refine VBool.t ?_) | (refine VBool.f ?_) | (refine VBool.dF (by omega) ?_) | (refine VRead.fld ?_) | (refine VC.seq ?_)); (conv => whnf)))
      exact fail w hdef hrw hOw
    | some sr =>
      replace hdef : S.load s = (true, ⟨S.most, acc⟩, some sr) := hdef
      rw [hdef] at hwf' ⊢
      ((conv => whnf); (repeat ((fail); (conv => whnf))))
      (repeat ((first | (refine VRead.loadB hf rfl rfl ?_) | (refine VL.cons ?_) | (refine VL.nil ?_) | (refine VC.seqS rfl ?_) | (refine VC.region ?_) | (refine VC.cond ?_) | (refine VC.exit ?_) | (refine VC.skip ?_) | (refine VBool.f ?_) | (refine VBool.dF (by omega) ?_) | (refine VRead.fld ?_) | (refine VC.seq ?_)); (conv => whnf)))
      refine VUnit.storeB hbw rfl rfl rfl ?_
      intro w2 hb2 hg2
      ((conv => whnf); (repeat ((first | (refine VL.cons ?_) | (refine VL.nil ?_) | (refine VC.seqS rfl ?_) | (refine VC.region ?_) | (refine VC.ret ?_)); (conv => whnf))))
      ((repeat ((fail); (conv => whnf))))
      have hrow2 := rows_apart hrow hg2 (fun q e hq => by
        have h1 := (World.ownsRow.lt hrow q hq).1
        have h2 : r = q := by injection e
        omega)
      refine ⟨rfl, ⟨_, Rt.mk' hwf' rfl hb2 (rows_more hrow2 (Nat.zero_le _)), fun j hj => ?_⟩, ?_, (hOw.mono of).trans (Out.grown hg2 (.inl rfl))⟩
      · rcases hj with rfl | hj
        · exact .inl hUr
        · exact .inr (World.ownsRow.lt hrow2 j hj).1
      · exact hrw.apartC hbw (by rfl) hg2 (fun e => hrg e.symm)
  | succ k =>
    have hgw := hrw.lt
    have hla := hA.last
    have hltn : (acc.length : Int) < n := by omega
    have hsok : Wire.okS s' = true := hs'.resolve_right (by omega)
    obtain ⟨sr, rfl⟩ : ∃ sr, s' = some sr := by
      cases s' with
      | none => cases hsok
      | some sr => exact ⟨sr, rfl⟩
    obtain ⟨s', hse⟩ : ∃ s', s' = some sr := ⟨_, rfl⟩
    obtain ⟨Ad, nn, cc, p, hf, _⟩ := hrw.flag
    replace hf : Blk w g 63 #[.slice Ad nn cc, .int .i64 (p : Int), .bool false] := hf
    rw [← hse] at hR hrw
    clear hs' hsok hse
    ((conv => whnf); (repeat ((fail); (conv => whnf))))
    (repeat ((first | (refine VRead.loadB hf rfl rfl ?_) | (refine VL.cons ?_) | (refine VL.nil ?_) | (refine VC.seqS rfl ?_) | (refine VC.region ?_) | (refine VC.cond ?_) | (refine VC.block ?_) | (refine VC.skip ?_) | (refine VBool.t ?_) | (refine VBool.dT (by omega) ?_) | (refine VRead.fld ?_) | (refine VC.seq ?_)); (conv => whnf)))
    refine VRead.ofW (v := .agg #[.int .i64 0, .int .i64 0, .int .i64 0, .int .i64 0, .int .i64 0, .int .i64 0, .int .i64 0, .string ByteArray.empty]) (fun _ => by kernel_rfl) ?_
    ((conv => whnf); (repeat ((first | (refine VL.cons ?_)); (conv => whnf))))
    ((repeat ((fail); (conv => whnf))))
    refine VSem.allocZ (z := .agg #[.int .i64 0, .int .i64 0, .int .i64 0, .int .i64 0, .int .i64 0, .int .i64 0, .int .i64 0, .string ByteArray.empty]) (by kernel_rfl) ?_
    intro w2 g8 hb8 hgb hlb hB2
    have hr2 := hrw.below hB2 hgw
    have hO2 := hOw.trans (Out.new (U := O) hB2)
    have hrow2 := rows_below hrow hB2 (Nat.le_refl _)
    ((conv => whnf); (repeat ((first | (refine VL.cons ?_)); (conv => whnf))))
    ((repeat ((fail); (conv => whnf))))
    refine VUnit.storeAB hb8 rfl rfl rfl (by simp [Value.oneCell']) ?_
    intro w3 hb83 hg3
    replace hb83 : Blk w3 g8 56 #[.int .i64 0, .int .i64 0, .int .i64 0, .int .i64 0, .int .i64 0, .int .i64 0, .int .i64 0, .string ByteArray.empty] := hb83
    have row_to : ∀ {x y : World}, x.ownsRow W.heap.size 56 8 (.slice A2 acc.length c2) acc.length (rowO acc) → x.grownBy y (some g8) → y.ownsRow W.heap.size 56 8 (.slice A2 acc.length c2) acc.length (rowO acc) := fun {x y} hx hxy => rows_apart hx hxy (fun q e hq => by
      have h1 := (World.ownsRow.lt hrow q hq).2
      have h2 : g8 = q := by injection e
      omega)
    have row_tg : ∀ {x y : World}, x.ownsRow W.heap.size 56 8 (.slice A2 acc.length c2) acc.length (rowO acc) → x.grownBy y (some g) → y.ownsRow W.heap.size 56 8 (.slice A2 acc.length c2) acc.length (rowO acc) := fun {x y} hx hxy => rows_apart hx hxy (fun q e hq => by
      have h1 := (World.ownsRow.lt hrow q hq).1
      have h2 : g = q := by injection e
      omega)
    have hr3 := hr2.other hg3 (by omega)
    have hO3 := hO2.trans (Out.grown hg3 (on _ (by omega)))
    have hrow3 := row_to hrow2 hg3
    ((conv => whnf); (repeat ((first | (refine VL.cons ?_) | (refine VL.nil ?_) | (refine VC.seqS rfl ?_) | (refine VC.region ?_)); (conv => whnf))))
    ((repeat ((fail); (conv => whnf))))
    refine VCall.of (fInt_any w3 g s' hr3) ?_
    rintro e w4 ⟨rfl, hr4, hg4⟩
    refine ⟨_, rfl, ?_⟩
    have hO4 := hO3.trans (Out.grown hg4 og)
    have hb84 := hb83.grown hg4 (fun e => by injection e; omega)
    have hrow4 := row_tg hrow3 hg4
    ((conv => whnf); (repeat ((first | (refine VL.cons ?_)); (conv => whnf))))
    ((repeat ((first | (refine VL.cons ?_) | (refine VRead.fld ?_)); (conv => whnf))))
    refine VUnit.storeB hb84 rfl rfl rfl ?_
    intro w5 hb85 hg5
    replace hb85 : Blk w5 g8 56 #[.int .i64 (e1S s').1, .int .i64 0, .int .i64 0, .int .i64 0, .int .i64 0, .int .i64 0, .int .i64 0, .string ByteArray.empty] := hb85
    have hr5 := hr4.other hg5 (by omega)
    have hO5 := hO4.trans (Out.grown hg5 (on _ (by omega)))
    have hrow5 := row_to hrow4 hg5
    ((conv => whnf); (repeat ((first | (refine VL.cons ?_) | (refine VL.nil ?_) | (refine VC.seqS rfl ?_) | (refine VC.region ?_)); (conv => whnf))))
    ((repeat ((fail); (conv => whnf))))
    refine VCall.of (fInt_any w5 g _ hr5) ?_
    rintro e w6 ⟨rfl, hr6, hg6⟩
    refine ⟨_, rfl, ?_⟩
    have hO6 := hO5.trans (Out.grown hg6 og)
    have hb86 := hb85.grown hg6 (fun e => by injection e; omega)
    have hrow6 := row_tg hrow5 hg6
    ((conv => whnf); (repeat ((first | (refine VL.cons ?_)); (conv => whnf))))
    ((repeat ((first | (refine VL.cons ?_) | (refine VRead.fld ?_)); (conv => whnf))))
    refine VUnit.storeB hb86 rfl rfl rfl ?_
    intro w7 hb87 hg7
    replace hb87 : Blk w7 g8 56 #[.int .i64 (e1S s').1, .int .i64 (e2S s').1, .int .i64 0, .int .i64 0, .int .i64 0, .int .i64 0, .int .i64 0, .string ByteArray.empty] := hb87
    have hr7 := hr6.other hg7 (by omega)
    have hO7 := hO6.trans (Out.grown hg7 (on _ (by omega)))
    have hrow7 := row_to hrow6 hg7
    ((conv => whnf); (repeat ((first | (refine VL.cons ?_) | (refine VL.nil ?_) | (refine VC.seqS rfl ?_) | (refine VC.region ?_)); (conv => whnf))))
    ((repeat ((fail); (conv => whnf))))
    refine VCall.of (fInt_any w7 g _ hr7) ?_
    rintro e w8 ⟨rfl, hr8, hg8⟩
    refine ⟨_, rfl, ?_⟩
    have hO8 := hO7.trans (Out.grown hg8 og)
    have hb88 := hb87.grown hg8 (fun e => by injection e; omega)
    have hrow8 := row_tg hrow7 hg8
    ((conv => whnf); (repeat ((first | (refine VL.cons ?_)); (conv => whnf))))
    ((repeat ((first | (refine VL.cons ?_) | (refine VRead.fld ?_)); (conv => whnf))))
    refine VUnit.storeB hb88 rfl rfl rfl ?_
    intro w9 hb89 hg9
    replace hb89 : Blk w9 g8 56 #[.int .i64 (e1S s').1, .int .i64 (e2S s').1, .int .i64 (e3S s').1, .int .i64 0, .int .i64 0, .int .i64 0, .int .i64 0, .string ByteArray.empty] := hb89
    have hr9 := hr8.other hg9 (by omega)
    have hO9 := hO8.trans (Out.grown hg9 (on _ (by omega)))
    have hrow9 := row_to hrow8 hg9
    ((conv => whnf); (repeat ((first | (refine VL.cons ?_) | (refine VL.nil ?_) | (refine VC.seqS rfl ?_) | (refine VC.region ?_)); (conv => whnf))))
    ((repeat ((fail); (conv => whnf))))
    refine VCall.of (fText_any w9 g _ 1048576 hr9) ?_
    rintro e w10 ⟨rfl, hr10, hg10⟩
    refine ⟨_, rfl, ?_⟩
    have hO10 := hO9.trans (Out.grown hg10 og)
    have hb810 := hb89.grown hg10 (fun e => by injection e; omega)
    have hrow10 := row_tg hrow9 hg10
    replace hr10 : RS 63 w10 g (f4S s').2 := hr10
    ((conv => whnf); (repeat ((first | (refine VL.cons ?_) | (refine VL.nil ?_) | (refine VC.seqS rfl ?_) | (refine VC.region ?_)); (conv => whnf))))
    ((repeat ((fail); (conv => whnf))))
    refine VSem.convB ?_
    intro At ct w11 hrt hct hB11
    replace hrt : Reads w11 w11.heap.size 1 At (txt (f4S s').1).size (bv (f4S s').1) := hrt
    have hr11 := hr10.below hB11 hr10.lt
    have hO11 := hO10.trans (Out.new (U := O) hB11)
    have hb811 := hb810.below hB11 hb810.lt
    have hrow11 := rows_below hrow10 hB11 (Nat.le_refl _)
    have htl : (txt (f4S s').1).size ≤ 1048576 := by
      have h5 : ∀ x, (Wire.textS 1048576 x).1.length ≤ 1048576 := fun x => by
        unfold Wire.textS Wire.countS
        cases Wire.intS x with
        | mk v r =>
          cases r with
          | none => simp
          | some r =>
            simp only
            by_cases hcc : v < 0 ∨ 1048576 < v ∨ (r.length : Int) < v
            · rw [if_pos hcc]; simp
            · rw [if_neg hcc]; simp only [List.length_take]; omega
      rw [txt_size]
      exact h5 _
    ((conv => whnf); (repeat ((first | (refine VL.cons ?_)); (conv => whnf))))
    ((repeat ((fail); (conv => whnf))))
    refine VCall.of (rgetR_any At (txt (f4S s').1).size ct (f4S s').1 w11 (Nat.le_trans htl (by decide)) hct hrt) ?_
    rintro e w12 ⟨rfl, hB12⟩
    refine ⟨_, rfl, ?_⟩
    have hr12 := hr11.below hB12 hr11.lt
    have hO12 := hO11.trans (Out.new (U := O) hB12)
    have hb812 := hb811.below hB12 hb811.lt
    have hrow12 := rows_below hrow11 hB12 (Nat.le_refl _)
    ((conv => whnf); (repeat ((first | (refine VL.cons ?_)); (conv => whnf))))
    ((repeat ((fail); (conv => whnf))))
    refine VSem.allocZ (z := .agg #[.int .i64 0, .int .i64 0, .int .i64 0, .int .i64 0, .string ByteArray.empty]) (by kernel_rfl) ?_
    intro w13 g10 hb13 hg10e hg10l hB13
    have hr13 := hr12.below hB13 hr12.lt
    have hO13 := hO12.trans (Out.new (U := O) hB13)
    have hb813 := hb812.below hB13 hb812.lt
    have hrow13 := rows_below hrow12 hB13 (Nat.le_refl _)
    have hl12 := hb812.lt
    have hs12 := hO12.size
    ((conv => whnf); (repeat ((first | (refine VL.cons ?_)); (conv => whnf))))
    ((repeat ((fail); (conv => whnf))))
    refine VUnit.storeAB hb13 rfl rfl rfl (by simp [rpC, Value.oneCell']) ?_
    intro w14 hb14 hg14
    obtain ⟨rp, hrp⟩ : ∃ rp, (getR (f4S s').1).1 = rp := ⟨_, rfl⟩
    replace hb14 : Blk w14 g10 34 (rpC (getR (f4S s').1).1) := hb14
    rw [hrp] at hb14
    have hr14 := hr13.other hg14 (by omega)
    have hO14 := hO13.trans (Out.grown hg14 (on _ (by omega)))
    have hb814 := hb813.grown hg14 (fun e => by injection e; omega)
    have hrow14 := rows_apart hrow13 hg14 (fun q e hq => by
      have h1 := (World.ownsRow.lt hrow12 q hq).2
      have h2 : g10 = q := by injection e
      omega)
    ((conv => whnf); (repeat ((first | (refine VL.cons ?_) | (refine VL.nil ?_) | (refine VC.seqS rfl ?_) | (refine VC.region ?_)); (conv => whnf))))
    (repeat (first | ((first | (refine VL.cons ?_) | (refine VRead.fld ?_)); (conv => whnf)) | (refine VRead.loadAB1 hb14 rfl rfl ?_; (conv => whnf))))
    refine VUnit.storeABi 3 hb814 rfl rfl rfl (by simp [rpC, Value.oneCell']) ?_
    intro w15 hb15 hg15
    obtain ⟨v1, hv1⟩ : ∃ v, (e1S s').1 = v := ⟨_, rfl⟩
    obtain ⟨v2, hv2⟩ : ∃ v, (e2S s').1 = v := ⟨_, rfl⟩
    obtain ⟨v3, hv3⟩ : ∃ v, (e3S s').1 = v := ⟨_, rfl⟩
    replace hb15 : Blk w15 g8 56 #[.int .i64 (e1S s').1, .int .i64 (e2S s').1, .int .i64 (e3S s').1, .int .i64 rp.err, .int .i64 rp.n, .int .i64 rp.kind, .int .i64 rp.vn, .string (txt rp.s)] := hb15
    rw [hv1, hv2, hv3] at hb15
    have hb1415 := hb14.grown hg15 (fun e => by injection e; omega)
    have hr15 := hr14.other hg15 (by omega)
    have hO15 := hO14.trans (Out.grown hg15 (on _ (by omega)))
    have hrow15 := row_to hrow14 hg15
    clear hr2 hr3 hr4 hr5 hr6 hr7 hr8 hr9 hr10 hr11 hr12 hr13 hr14 hO2 hO3 hO4 hO5 hO6 hO7 hO8 hO9 hO10 hO11 hO12 hO13 hO14 hb8 hb83 hb84 hb85 hb86 hb87 hb88 hb89 hb810 hb811 hb812 hb813 hb814 hb13 hb14 hrow2 hrow3 hrow4 hrow5 hrow6 hrow7 hrow8 hrow9 hrow10 hrow11 hrow12 hrow13 hrow14 hrt hrw hOw hbw hf
    have hg15l := hr15.lt
    have hok1 : LdOk (lastI acc) s' → Wire.okS (f4S s').2 = true := fun h => h.toF.ok
    have hout : ¬ LdOk (lastI acc) s' → S.load s = (false, S, none) := fun hn => by
      unfold ldN at hR
      rw [if_neg hn] at hR
      rw [hdef, ← hR]
    have hnext : LdOk (lastI acc) s' → ldN k v1 (acc ++ [ldP s']) (e4S s').2 = R := fun hh => by
      unfold ldN at hR
      rw [if_pos hh, hv1] at hR
      exact hR
    obtain ⟨s4, hs4⟩ : ∃ s4, (f4S s').2 = s4 := ⟨_, rfl⟩
    rw [hs4] at hr15
    have hE : ∀ T cs j, Blk w15 j T cs → Blk (w15.drewN 1) j T cs := fun _ _ _ h => h
    have hr16 := hr15.drewN 1
    have hb16 := hE _ _ _ hb15
    have hy16 := hE _ _ _ hb1415
    have hrow16 := rows_below hrow15 (below_drewN (Below.refl w15.heap.size w15) 1) (Nat.le_refl _)
    have hO16 : Out O W (w15.drewN 1) := hO15.trans (Out.new (below_drewN (Below.refl w15.heap.size w15) 1))
    obtain ⟨Ad, nn, cc, p, hf, hfail⟩ := hr16.flag
    have e8 : some g8 ≠ some g := fun e => by injection e; omega
    clear hr15 hb15 hb1415 hrow15 hO15 hE
    refine VL.nil ?_
    (conv => whnf)
    refine VC.seq ?_
    refine VC.cut [114] [(50, 114)] (fun vs X => ∃ bb : Bool, vs = [.bool bb] ∧ bb = decide (¬ LdOkF (lastI acc) s') ∧ X = w15.drewN 1) (by kernel_rfl) ?_ ?_
    · cases s4 with
      | none =>
        rw [decide_eq_true (p := ¬ LdOkF (lastI acc) s') (fun hh => by have := hh.ok; rw [hs4] at this; cases this)]
        ((conv => whnf); (repeat ((first | (refine VC.draw ?_)); (conv => whnf))))
        (refine VDraw.seg (Eq (World.drewN _ 1)) [] [0, 1, 2, 3, 4, 5, 6, 7, 8, 9, 10, 11, 12, 13, 14, 15, 16, 17, 18, 19, 20, 21, 22, 23, 24, 25, 26, 27, 28, 29, 30, 31, 32, 33, 34, 35, 36, 37, 38, 39, 40, 41, 42, 43, 44, 45, 46, 47, 48, 49, 50, 51, 52, 53, 54, 55, 56, 57, 58, 59, 60, 61, 62, 63, 64] (by kernel_rfl) (by kernel_rfl) rfl ?_; (conv => whnf))
        (repeat ((first | (refine VRead.loadB hf rfl rfl ?_) | (refine VQ.cons ?_) | (refine VQ.nil ?_) | (refine VG.nil ?_) | (refine VBool.t ?_) | (refine VRead.fld ?_)); (conv => whnf)))
        exact ⟨_, rfl, rfl, rfl⟩
      | some sr4 =>
        replace hf : Blk (w15.drewN 1) g 63 #[.slice Ad nn cc, .int .i64 (p : Int), .bool false] := hf
        by_cases hq : (getR (f4S s').1).2 = true
        case neg =>
          rw [decide_eq_true (p := ¬ LdOkF (lastI acc) s') (fun hh => hq hh.rp)]
          rw [Bool.not_eq_true] at hq
          rw [hq]
          ((conv => whnf); (repeat ((first | (refine VC.draw ?_)); (conv => whnf))))
          (refine VDraw.seg (Eq (World.drewN _ 1)) [] [0, 1, 2, 3, 4, 5, 6, 7, 8, 9, 10, 11, 12, 13, 14, 15, 16, 17, 18, 19, 20, 21, 22, 23, 24, 25, 26, 27, 28, 29, 30, 31, 32, 33, 34, 35, 36, 37, 38, 39, 40, 41, 42, 43, 44, 45, 46, 47, 48, 49, 50, 51, 52, 53, 54, 55, 56, 57, 58, 59, 60, 61, 62, 63, 64] (by kernel_rfl) (by kernel_rfl) rfl ?_; (conv => whnf))
          (repeat ((first | (refine VRead.loadB hf rfl rfl ?_) | (refine VQ.cons ?_) | (refine VQ.nil ?_) | (refine VG.nil ?_) | (refine VBool.t ?_) | (refine VBool.f ?_) | (refine VRead.fld ?_)); (conv => whnf)))
          exact ⟨_, rfl, rfl, rfl⟩
        rw [hq]
        by_cases d1 : v1 < 1
        case pos =>
          rw [decide_eq_true (p := ¬ LdOkF (lastI acc) s') (fun hh => by have := hh.last; rw [hv1] at this; omega)]
          ((conv => whnf); (repeat ((first | (refine VC.draw ?_)); (conv => whnf))))
          (refine VDraw.seg (Eq (World.drewN _ 1)) [] [0, 1, 2, 3, 4, 5, 6, 7, 8, 9, 10, 11, 12, 13, 14, 15, 16, 17, 18, 19, 20, 21, 22, 23, 24, 25, 26, 27, 28, 29, 30, 31, 32, 33, 34, 35, 36, 37, 38, 39, 40, 41, 42, 43, 44, 45, 46, 47, 48, 49, 50, 51, 52, 53, 54, 55, 56, 57, 58, 59, 60, 61, 62, 63, 64] (by kernel_rfl) (by kernel_rfl) rfl ?_; (conv => whnf))
          (repeat ((first | (refine VRead.loadB hf rfl rfl ?_) | (refine VRead.loadB hb16 rfl rfl ?_) | (refine VBool.dT (by omega) ?_) | (refine VQ.cons ?_) | (refine VQ.nil ?_) | (refine VG.nil ?_) | (refine VBool.t ?_) | (refine VBool.f ?_) | (refine VRead.fld ?_)); (conv => whnf)))
          exact ⟨_, rfl, rfl, rfl⟩
        by_cases d2 : v2 < v1
        case pos =>
          rw [decide_eq_true (p := ¬ LdOkF (lastI acc) s') (fun hh => by have := hh.u1; rw [hv1, hv2] at this; omega)]
          ((conv => whnf); (repeat ((first | (refine VC.draw ?_)); (conv => whnf))))
          (refine VDraw.seg (Eq (World.drewN _ 1)) [] [0, 1, 2, 3, 4, 5, 6, 7, 8, 9, 10, 11, 12, 13, 14, 15, 16, 17, 18, 19, 20, 21, 22, 23, 24, 25, 26, 27, 28, 29, 30, 31, 32, 33, 34, 35, 36, 37, 38, 39, 40, 41, 42, 43, 44, 45, 46, 47, 48, 49, 50, 51, 52, 53, 54, 55, 56, 57, 58, 59, 60, 61, 62, 63, 64] (by kernel_rfl) (by kernel_rfl) rfl ?_; (conv => whnf))
          (repeat ((first | (refine VRead.loadB hf rfl rfl ?_) | (refine VRead.loadB hb16 rfl rfl ?_) | (refine VBool.dT (by omega) ?_) | (refine VBool.dF (by omega) ?_) | (refine VQ.cons ?_) | (refine VQ.nil ?_) | (refine VG.nil ?_) | (refine VBool.t ?_) | (refine VBool.f ?_) | (refine VRead.fld ?_)); (conv => whnf)))
          exact ⟨_, rfl, rfl, rfl⟩
        by_cases d3 : v3 < 0
        case pos =>
          rw [decide_eq_true (p := ¬ LdOkF (lastI acc) s') (fun hh => by have := hh.q1; rw [hv3] at this; omega)]
          ((conv => whnf); (repeat ((first | (refine VC.draw ?_)); (conv => whnf))))
          (refine VDraw.seg (Eq (World.drewN _ 1)) [] [0, 1, 2, 3, 4, 5, 6, 7, 8, 9, 10, 11, 12, 13, 14, 15, 16, 17, 18, 19, 20, 21, 22, 23, 24, 25, 26, 27, 28, 29, 30, 31, 32, 33, 34, 35, 36, 37, 38, 39, 40, 41, 42, 43, 44, 45, 46, 47, 48, 49, 50, 51, 52, 53, 54, 55, 56, 57, 58, 59, 60, 61, 62, 63, 64] (by kernel_rfl) (by kernel_rfl) rfl ?_; (conv => whnf))
          (repeat ((first | (refine VRead.loadB hf rfl rfl ?_) | (refine VRead.loadB hb16 rfl rfl ?_) | (refine VBool.dT (by omega) ?_) | (refine VBool.dF (by omega) ?_) | (refine VQ.cons ?_) | (refine VQ.nil ?_) | (refine VG.nil ?_) | (refine VBool.t ?_) | (refine VBool.f ?_) | (refine VRead.fld ?_)); (conv => whnf)))
          exact ⟨_, rfl, rfl, rfl⟩
        by_cases d4 : 1099511627776 < v1
        case pos =>
          rw [decide_eq_true (p := ¬ LdOkF (lastI acc) s') (fun hh => by have h1 := hh.u1; have h2 := hh.u2; rw [hv1, hv2] at h1; rw [hv2] at h2; omega)]
          ((conv => whnf); (repeat ((first | (refine VC.draw ?_)); (conv => whnf))))
          (refine VDraw.seg (Eq (World.drewN _ 1)) [] [0, 1, 2, 3, 4, 5, 6, 7, 8, 9, 10, 11, 12, 13, 14, 15, 16, 17, 18, 19, 20, 21, 22, 23, 24, 25, 26, 27, 28, 29, 30, 31, 32, 33, 34, 35, 36, 37, 38, 39, 40, 41, 42, 43, 44, 45, 46, 47, 48, 49, 50, 51, 52, 53, 54, 55, 56, 57, 58, 59, 60, 61, 62, 63, 64] (by kernel_rfl) (by kernel_rfl) rfl ?_; (conv => whnf))
          (repeat ((first | (refine VRead.loadB hf rfl rfl ?_) | (refine VRead.loadB hb16 rfl rfl ?_) | (refine VBool.dT (by omega) ?_) | (refine VBool.dF (by omega) ?_) | (refine VQ.cons ?_) | (refine VQ.nil ?_) | (refine VG.nil ?_) | (refine VBool.t ?_) | (refine VBool.f ?_) | (refine VRead.fld ?_)); (conv => whnf)))
          exact ⟨_, rfl, rfl, rfl⟩
        by_cases d5 : 1099511627776 < v2
        case pos =>
          rw [decide_eq_true (p := ¬ LdOkF (lastI acc) s') (fun hh => by have := hh.u2; rw [hv2] at this; omega)]
          ((conv => whnf); (repeat ((first | (refine VC.draw ?_)); (conv => whnf))))
          (refine VDraw.seg (Eq (World.drewN _ 1)) [] [0, 1, 2, 3, 4, 5, 6, 7, 8, 9, 10, 11, 12, 13, 14, 15, 16, 17, 18, 19, 20, 21, 22, 23, 24, 25, 26, 27, 28, 29, 30, 31, 32, 33, 34, 35, 36, 37, 38, 39, 40, 41, 42, 43, 44, 45, 46, 47, 48, 49, 50, 51, 52, 53, 54, 55, 56, 57, 58, 59, 60, 61, 62, 63, 64] (by kernel_rfl) (by kernel_rfl) rfl ?_; (conv => whnf))
          (repeat ((first | (refine VRead.loadB hf rfl rfl ?_) | (refine VRead.loadB hb16 rfl rfl ?_) | (refine VBool.dT (by omega) ?_) | (refine VBool.dF (by omega) ?_) | (refine VQ.cons ?_) | (refine VQ.nil ?_) | (refine VG.nil ?_) | (refine VBool.t ?_) | (refine VBool.f ?_) | (refine VRead.fld ?_)); (conv => whnf)))
          exact ⟨_, rfl, rfl, rfl⟩
        by_cases d6 : 1099511627776 < v3
        case pos =>
          rw [decide_eq_true (p := ¬ LdOkF (lastI acc) s') (fun hh => by have := hh.q2; rw [hv3] at this; omega)]
          ((conv => whnf); (repeat ((first | (refine VC.draw ?_)); (conv => whnf))))
          (refine VDraw.seg (Eq (World.drewN _ 1)) [] [0, 1, 2, 3, 4, 5, 6, 7, 8, 9, 10, 11, 12, 13, 14, 15, 16, 17, 18, 19, 20, 21, 22, 23, 24, 25, 26, 27, 28, 29, 30, 31, 32, 33, 34, 35, 36, 37, 38, 39, 40, 41, 42, 43, 44, 45, 46, 47, 48, 49, 50, 51, 52, 53, 54, 55, 56, 57, 58, 59, 60, 61, 62, 63, 64] (by kernel_rfl) (by kernel_rfl) rfl ?_; (conv => whnf))
          (repeat ((first | (refine VRead.loadB hf rfl rfl ?_) | (refine VRead.loadB hb16 rfl rfl ?_) | (refine VBool.dT (by omega) ?_) | (refine VBool.dF (by omega) ?_) | (refine VQ.cons ?_) | (refine VQ.nil ?_) | (refine VG.nil ?_) | (refine VBool.t ?_) | (refine VBool.f ?_) | (refine VRead.fld ?_)); (conv => whnf)))
          exact ⟨_, rfl, rfl, rfl⟩
        have hz : (v3 = 0 ∧ rp ≠ Rp.zero) ∨ (v3 = 0 ∧ rp = Rp.zero) ∨ v3 ≠ 0 := by
          by_cases h1 : v3 = 0
          · by_cases h2 : rp = Rp.zero
            · exact .inr (.inl ⟨h1, h2⟩)
            · exact .inl ⟨h1, h2⟩
          · exact .inr (.inr h1)
        rcases hz with ⟨rfl, hz⟩ | hz
        · rw [decide_eq_true (p := ¬ LdOkF (lastI acc) s') (fun hh => hz (hrp ▸ hh.none_ hv3))]
          ((conv => whnf); (repeat ((first | (refine VC.draw ?_)); (conv => whnf))))
          (refine VDraw.seg (Eq (World.drewN _ 1)) [] [0, 1, 2, 3, 4, 5, 6, 7, 8, 9, 10, 11, 12, 13, 14, 15, 16, 17, 18, 19, 20, 21, 22, 23, 24, 25, 26, 27, 28, 29, 30, 31, 32, 33, 34, 35, 36, 37, 38, 39, 40, 41, 42, 43, 44, 45, 46, 47, 48, 49, 50, 51, 52, 53, 54, 55, 56, 57, 58, 59, 60, 61, 62, 63, 64] (by kernel_rfl) (by kernel_rfl) rfl ?_; (conv => whnf))
          (repeat ((first | (refine VRead.loadB hf rfl rfl ?_) | (refine VRead.loadB hb16 rfl rfl ?_) | (refine VBool.dT (by omega) ?_) | (refine VBool.dF (by omega) ?_) | (refine VQ.cons ?_) | (refine VG.nil ?_) | (refine VRead.fld ?_)); (conv => whnf)))
          refine VRead.loadAB1 hy16 rfl rfl ?_
          (conv => whnf)
          ((repeat ((first | (refine VQ.cons ?_) | (refine VBool.t ?_)); (conv => whnf))))
          refine VRead.ofW (v := .agg (rpC Rp.zero)) (fun _ => by kernel_rfl) ?_
          (conv => whnf)
          ((repeat ((first | (refine VQ.cons ?_) | (refine VBool.t ?_)); (conv => whnf))))
          refine VRead.neRn hz ?_
          (conv => whnf)
          ((repeat ((first | (refine VQ.cons ?_) | (refine VQ.nil ?_) | (refine VBool.t ?_) | (refine VBool.f ?_)); (conv => whnf))))
          exact ⟨_, rfl, rfl, rfl⟩
        have full : lastI acc < v1 → LdOkF (lastI acc) s' := fun hl => ⟨by rw [hs4]; rfl, hq, by rw [hv1]; exact hl, by rw [hv1, hv2]; omega, by rw [hv2]; omega, by rw [hv3]; omega, by rw [hv3]; omega, fun h0 => by
          rw [hv3] at h0
          rcases hz with ⟨_, hz⟩ | hz
          · rw [hrp]; exact hz
          · exact absurd h0 hz⟩
        have hcase : (acc.length = 0 ∧ lastI acc < v1) ∨ (0 < acc.length ∧ v1 ≤ lastI acc) ∨ (0 < acc.length ∧ lastI acc < v1) := by
          rcases Nat.eq_zero_or_pos acc.length with h0 | h0
          · refine .inl ⟨h0, ?_⟩
            rw [List.eq_nil_of_length_eq_zero h0]
            simp only [lastI, List.getLast?_nil, Option.map_none, Option.getD_none]
            omega
          · by_cases h1 : v1 ≤ lastI acc
            · exact .inr (.inl ⟨h0, h1⟩)
            · exact .inr (.inr ⟨h0, by omega⟩)
        rcases hcase with ⟨h0, hl⟩ | ⟨h0, hl⟩ | ⟨h0, hl⟩
        · rw [decide_eq_false (p := ¬ LdOkF (lastI acc) s') (fun hn => hn (full hl))]
          have e0 : (acc.length : Int) = 0 := by omega
          clear full
          rcases hz with ⟨rfl, rfl⟩ | hz
          · ((conv => whnf); (repeat ((first | (refine VC.draw ?_)); (conv => whnf))))
            (refine VDraw.seg (Eq (World.drewN _ 1)) [] [0, 1, 2, 3, 4, 5, 6, 7, 8, 9, 10, 11, 12, 13, 14, 15, 16, 17, 18, 19, 20, 21, 22, 23, 24, 25, 26, 27, 28, 29, 30, 31, 32, 33, 34, 35, 36, 37, 38, 39, 40, 41, 42, 43, 44, 45, 46, 47, 48, 49, 50, 51, 52, 53, 54, 55, 56, 57, 58, 59, 60, 61, 62, 63, 64] (by kernel_rfl) (by kernel_rfl) rfl ?_; (conv => whnf))
            (repeat ((first | (refine VRead.loadB hf rfl rfl ?_) | (refine VRead.loadB hb16 rfl rfl ?_) | (refine VBool.dT (by omega) ?_) | (refine VBool.dF (by omega) ?_) | (refine VQ.cons ?_) | (refine VG.nil ?_) | (refine VRead.fld ?_)); (conv => whnf)))
            refine VRead.loadAB1 hy16 rfl rfl ?_
            (conv => whnf)
            ((repeat ((first | (refine VQ.cons ?_) | (refine VBool.t ?_)); (conv => whnf))))
            refine VRead.ofW (v := .agg (rpC Rp.zero)) (fun _ => by kernel_rfl) ?_
            (conv => whnf)
            ((repeat ((first | (refine VQ.cons ?_) | (refine VBool.t ?_)); (conv => whnf))))
            refine VRead.neR ?_
            (conv => whnf)
            ((repeat ((first | (refine VQ.cons ?_) | (refine VQ.nil ?_) | (refine VBool.f ?_) | (refine VBool.dF (by omega) ?_)); (conv => whnf))))
            exact ⟨_, rfl, rfl, rfl⟩
          · ((conv => whnf); (repeat ((first | (refine VC.draw ?_)); (conv => whnf))))
            (refine VDraw.seg (Eq (World.drewN _ 1)) [] [0, 1, 2, 3, 4, 5, 6, 7, 8, 9, 10, 11, 12, 13, 14, 15, 16, 17, 18, 19, 20, 21, 22, 23, 24, 25, 26, 27, 28, 29, 30, 31, 32, 33, 34, 35, 36, 37, 38, 39, 40, 41, 42, 43, 44, 45, 46, 47, 48, 49, 50, 51, 52, 53, 54, 55, 56, 57, 58, 59, 60, 61, 62, 63, 64] (by kernel_rfl) (by kernel_rfl) rfl ?_; (conv => whnf))
            (repeat ((first | (refine VRead.loadB hf rfl rfl ?_) | (refine VRead.loadB hb16 rfl rfl ?_) | (refine VBool.dF (by omega) ?_) | (refine VQ.cons ?_) | (refine VQ.nil ?_) | (refine VG.nil ?_) | (refine VBool.f ?_) | (refine VRead.fld ?_)); (conv => whnf)))
            exact ⟨_, rfl, rfl, rfl⟩
        · rw [decide_eq_true (p := ¬ LdOkF (lastI acc) s') (fun hh => by have := hh.last; rw [hv1] at this; omega)]
          obtain ⟨pl, hpl, hlast⟩ := lastI_at h0
          obtain ⟨ga, rfl⟩ := row_addr' hrow16 (by omega)
          have hcl : (w15.drewN 1).cell? (((⟨ga, 0, none⟩ : Addr).add ((acc.length - 1) * 8)).add 0) = some (.int .i64 pl.1) := by rw [addO, ← add0O]; exact hrow16.cells rfl ((acc.length - 1) * 8 + 0) _ (rowO_at hpl rfl)
          rw [hlast] at hl
          clear full
          rcases hz with ⟨rfl, rfl⟩ | hz
          · ((conv => whnf); (repeat ((first | (refine VC.draw ?_)); (conv => whnf))))
            (refine VDraw.seg (Eq (World.drewN _ 1)) [] [0, 1, 2, 3, 4, 5, 6, 7, 8, 9, 10, 11, 12, 13, 14, 15, 16, 17, 18, 19, 20, 21, 22, 23, 24, 25, 26, 27, 28, 29, 30, 31, 32, 33, 34, 35, 36, 37, 38, 39, 40, 41, 42, 43, 44, 45, 46, 47, 48, 49, 50, 51, 52, 53, 54, 55, 56, 57, 58, 59, 60, 61, 62, 63, 64] (by kernel_rfl) (by kernel_rfl) rfl ?_; (conv => whnf))
            (repeat ((first | (refine VRead.loadB hf rfl rfl ?_) | (refine VRead.loadB hb16 rfl rfl ?_) | (refine VBool.dT (by omega) ?_) | (refine VBool.dF (by omega) ?_) | (refine VQ.cons ?_) | (refine VG.nil ?_) | (refine VRead.fld ?_)); (conv => whnf)))
            refine VRead.loadAB1 hy16 rfl rfl ?_
            (conv => whnf)
            ((repeat ((first | (refine VQ.cons ?_) | (refine VBool.t ?_)); (conv => whnf))))
            refine VRead.ofW (v := .agg (rpC Rp.zero)) (fun _ => by kernel_rfl) ?_
            (conv => whnf)
            ((repeat ((first | (refine VQ.cons ?_) | (refine VBool.t ?_)); (conv => whnf))))
            refine VRead.neR ?_
            (conv => whnf)
            (repeat ((first | (refine VRead.loadB hb16 rfl rfl ?_) | (refine VBool.dT (by omega) ?_) | (refine VBool.dF (by omega) ?_) | (refine VRead.atKZO (acc.length - 1) (by omega) (by omega) ?_) | (refine VRead.load1 hcl ?_) | (refine VQ.cons ?_) | (refine VQ.nil ?_) | (refine VBool.t ?_) | (refine VRead.fld ?_) | (refine VWrap.i64 (by omega) (by omega) ?_)); (conv => whnf)))
            exact ⟨_, rfl, decide_eq_true hl, rfl⟩
          · ((conv => whnf); (repeat ((first | (refine VC.draw ?_)); (conv => whnf))))
            (refine VDraw.seg (Eq (World.drewN _ 1)) [] [0, 1, 2, 3, 4, 5, 6, 7, 8, 9, 10, 11, 12, 13, 14, 15, 16, 17, 18, 19, 20, 21, 22, 23, 24, 25, 26, 27, 28, 29, 30, 31, 32, 33, 34, 35, 36, 37, 38, 39, 40, 41, 42, 43, 44, 45, 46, 47, 48, 49, 50, 51, 52, 53, 54, 55, 56, 57, 58, 59, 60, 61, 62, 63, 64] (by kernel_rfl) (by kernel_rfl) rfl ?_; (conv => whnf))
            (repeat ((first | (refine VRead.loadB hf rfl rfl ?_) | (refine VRead.loadB hb16 rfl rfl ?_) | (refine VBool.dT (by omega) ?_) | (refine VBool.dF (by omega) ?_) | (refine VRead.atKZO (acc.length - 1) (by omega) (by omega) ?_) | (refine VRead.load1 hcl ?_) | (refine VQ.cons ?_) | (refine VQ.nil ?_) | (refine VG.nil ?_) | (refine VBool.t ?_) | (refine VBool.f ?_) | (refine VRead.fld ?_) | (refine VWrap.i64 (by omega) (by omega) ?_)); (conv => whnf)))
            exact ⟨_, rfl, decide_eq_true hl, rfl⟩
        · rw [decide_eq_false (p := ¬ LdOkF (lastI acc) s') (fun hn => hn (full hl))]
          obtain ⟨pl, hpl, hlast⟩ := lastI_at h0
          obtain ⟨ga, rfl⟩ := row_addr' hrow16 (by omega)
          have hcl : (w15.drewN 1).cell? (((⟨ga, 0, none⟩ : Addr).add ((acc.length - 1) * 8)).add 0) = some (.int .i64 pl.1) := by rw [addO, ← add0O]; exact hrow16.cells rfl ((acc.length - 1) * 8 + 0) _ (rowO_at hpl rfl)
          rw [hlast] at hl
          clear full
          rcases hz with ⟨rfl, rfl⟩ | hz
          · ((conv => whnf); (repeat ((first | (refine VC.draw ?_)); (conv => whnf))))
            (refine VDraw.seg (Eq (World.drewN _ 1)) [] [0, 1, 2, 3, 4, 5, 6, 7, 8, 9, 10, 11, 12, 13, 14, 15, 16, 17, 18, 19, 20, 21, 22, 23, 24, 25, 26, 27, 28, 29, 30, 31, 32, 33, 34, 35, 36, 37, 38, 39, 40, 41, 42, 43, 44, 45, 46, 47, 48, 49, 50, 51, 52, 53, 54, 55, 56, 57, 58, 59, 60, 61, 62, 63, 64] (by kernel_rfl) (by kernel_rfl) rfl ?_; (conv => whnf))
            (repeat ((first | (refine VRead.loadB hf rfl rfl ?_) | (refine VRead.loadB hb16 rfl rfl ?_) | (refine VBool.dT (by omega) ?_) | (refine VBool.dF (by omega) ?_) | (refine VQ.cons ?_) | (refine VG.nil ?_) | (refine VRead.fld ?_)); (conv => whnf)))
            refine VRead.loadAB1 hy16 rfl rfl ?_
            (conv => whnf)
            ((repeat ((first | (refine VQ.cons ?_) | (refine VBool.t ?_)); (conv => whnf))))
            refine VRead.ofW (v := .agg (rpC Rp.zero)) (fun _ => by kernel_rfl) ?_
            (conv => whnf)
            ((repeat ((first | (refine VQ.cons ?_) | (refine VBool.t ?_)); (conv => whnf))))
            refine VRead.neR ?_
            (conv => whnf)
            (repeat ((first | (refine VRead.loadB hb16 rfl rfl ?_) | (refine VBool.dT (by omega) ?_) | (refine VBool.dF (by omega) ?_) | (refine VRead.atKZO (acc.length - 1) (by omega) (by omega) ?_) | (refine VRead.load1 hcl ?_) | (refine VQ.cons ?_) | (refine VQ.nil ?_) | (refine VBool.t ?_) | (refine VRead.fld ?_) | (refine VWrap.i64 (by omega) (by omega) ?_)); (conv => whnf)))
            exact ⟨_, rfl, decide_eq_false (by omega), rfl⟩
          · ((conv => whnf); (repeat ((first | (refine VC.draw ?_)); (conv => whnf))))
            (refine VDraw.seg (Eq (World.drewN _ 1)) [] [0, 1, 2, 3, 4, 5, 6, 7, 8, 9, 10, 11, 12, 13, 14, 15, 16, 17, 18, 19, 20, 21, 22, 23, 24, 25, 26, 27, 28, 29, 30, 31, 32, 33, 34, 35, 36, 37, 38, 39, 40, 41, 42, 43, 44, 45, 46, 47, 48, 49, 50, 51, 52, 53, 54, 55, 56, 57, 58, 59, 60, 61, 62, 63, 64] (by kernel_rfl) (by kernel_rfl) rfl ?_; (conv => whnf))
            (repeat ((first | (refine VRead.loadB hf rfl rfl ?_) | (refine VRead.loadB hb16 rfl rfl ?_) | (refine VBool.dT (by omega) ?_) | (refine VBool.dF (by omega) ?_) | (refine VRead.atKZO (acc.length - 1) (by omega) (by omega) ?_) | (refine VRead.load1 hcl ?_) | (refine VQ.cons ?_) | (refine VQ.nil ?_) | (refine VG.nil ?_) | (refine VBool.t ?_) | (refine VBool.f ?_) | (refine VRead.fld ?_) | (refine VWrap.i64 (by omega) (by omega) ?_)); (conv => whnf)))
            exact ⟨_, rfl, decide_eq_false (by omega), rfl⟩
    rintro τ2 vs2 X ⟨bb, rfl, hbb, hX⟩
    obtain rfl := hX.symm
    generalize w15.drewN 1 = w16 at *
    by_cases hL : LdOkF (lastI acc) s'
    case neg =>
      rw [decide_eq_true hL] at hbb
      subst hbb
      have el := hout (fun hh => hL hh.toF)
      ((conv => whnf); (repeat ((first | (refine VC.cond ?_)); (conv => whnf))))
      ((repeat ((first | (refine VL.cons ?_) | (refine VC.seqS rfl ?_) | (refine VC.region ?_) | (refine VBool.t ?_) | (refine VRead.fld ?_)); (conv => whnf))))
      refine VUnit.storeB hf rfl rfl rfl ?_
      intro w17 hf17 hg17
      ((conv => whnf); (repeat ((first | (refine VL.nil ?_) | (refine VC.exit ?_)); (conv => whnf))))
      (repeat ((first | (refine VRead.loadB hf17 rfl rfl ?_) | (refine VL.cons ?_) | (refine VL.nil ?_) | (refine VC.seqS rfl ?_) | (refine VC.region ?_) | (refine VC.cond ?_) | (refine VC.ret ?_) | (refine VBool.t ?_) | (refine VRead.fld ?_) | (refine VC.seq ?_)); (conv => whnf)))
      exact fail w17 el (hfail w17 hf17 hg17) (hO16.trans (Out.grown hg17 og))
    rw [decide_eq_false (fun hn => hn hL)] at hbb
    subst hbb
    have hE4 := hL.eq
    have hp : ldP s' = (v1, ⟨v2, v3, rp⟩) := by unfold ldP; rw [hE4, hrp, hv1, hv2, hv3]
    have hA' := hA.next hL.toE
    have hn' := hnext hL.toE
    rw [hE4, hs4] at hn'
    rw [hv1] at hA'
    rw [hp] at hA' hn'
    have hs16 := hO16.size
    have hgl16 := hr16.lt
    ((conv => whnf); (repeat ((first | (refine VC.cond ?_)); (conv => whnf))))
    (repeat ((first | (refine VRead.loadAB1 hb16 rfl rfl ?_) | (refine VL.cons ?_) | (refine VC.region ?_) | (refine VC.skip ?_) | (refine VBool.f ?_)); (conv => whnf)))
    refine VSem.oneOn (p := (v1, ⟨v2, v3, rp⟩)) ?_
    intro w17 hr17 hB17
    have hO17 := hO16.trans (Out.new (U := O) hB17)
    have hs17 := hO17.size
    ((conv => whnf); (repeat ((first | (refine VL.cons ?_)); (conv => whnf))))
    ((repeat ((fail); (conv => whnf))))
    refine VSem.appOn (rows_below hrow16 hB17 (Nat.le_refl _)) hr17 (by omega) hs17 ?_
    intro A3 c3 w18 hrow18 hB18
    have hO18 := hO17.trans (Out.of_below (U := O) hB18 (fun j h1 _ => on j h1))
    ((conv => whnf); (repeat ((first | (refine VL.cons ?_) | (refine VL.nil ?_) | (refine VC.region ?_)); (conv => whnf))))
    ((repeat ((first | (refine VL.cons ?_) | (refine VL.nil ?_) | (refine VWrap.i64 (by omega) (by omega) ?_)); (conv => whnf))))
    rw [← rowO_app] at hrow18
    refine ⟨k, by omega, acc ++ [(v1, ⟨v2, v3, rp⟩)], s4, k, A3, c3, ?_, rfl, by simp only [List.length_append, List.length_cons, List.length_nil]; omega, by rw [lastI_snoc]; exact hn', by rw [lastI_snoc]; exact hA', .inl (by rw [← hs4]; exact hL.ok), by simpa only [List.length_append, List.length_cons, List.length_nil] using hrow18, (hr16.below hB17 hgl16).below hB18 hgl, hO18⟩
    simp only [List.length_append, List.length_cons, List.length_nil]
    rfl
end Go.Proofs.YtnjhdbgejhnpfaaDoor
end

section
set_option maxRecDepth 10000
namespace Go.Proofs.YtnjhdbgejhnpfaaDoor
set_option linter.unusedVariables false
open Go.RowKit

theorem tset_memV {i : Int} {x : Se} {p : Int × Se} : ∀ {T : STb}, p ∈ tset T i x → p = (i, x) ∨ p ∈ T
  | [], h => by simp [tset] at h; exact .inl h
  | q :: T, h => by
    unfold tset at h
    split at h
    · rcases List.mem_cons.1 h with h | h
      · exact .inl h
      · exact .inr h
    · split at h
      · rcases List.mem_cons.1 h with h | h
        · exact .inl h
        · exact .inr (List.mem_cons_of_mem _ h)
      · rcases List.mem_cons.1 h with h | h
        · exact .inr (by rw [h]; exact List.mem_cons_self ..)
        · rcases tset_memV h with h | h
          · exact .inl h
          · exact .inr (List.mem_cons_of_mem _ h)
theorem TOk.set {T : STb} {i : Int} {x : Se} (h : TOk T) (hx : SeOk i x) : TOk (tset T i x) := fun p hp => by
  rcases tset_memV hp with rfl | hp
  · exact hx
  · exact h p hp
theorem TOk.del {T : STb} {i : Int} (h : TOk T) : TOk (tdel T i) := fun p hp => h p (mem_tdel hp).1
theorem fresh_ok {i : Int} (h : i ≤ 1099511627776) : SeOk i (fresh i) :=
  ⟨⟨by simp [fresh], by simp only [fresh]; exact h⟩, ⟨by simp [fresh], by simp [fresh]⟩, by simp only [fresh]; rfl, by simp [fresh, Rp.zero, i64'], fun _ => rfl⟩
theorem TOk.open {S : SS} (h : TOk S.t) (i : Int) : TOk (S.open i).2.t := by
  unfold SS.open
  split
  · exact h
  · rename_i hn
    have hi : i ≤ 1099511627776 := by
      by_cases hh : 1099511627776 < i
      · exact absurd (.inr (.inr hh)) hn
      · omega
    split
    · exact (TOk.del h).set (fresh_ok hi)
    · exact h.set (fresh_ok hi)
theorem TOk.use {S : SS} (h : TOk S.t) (i a : Int) : TOk (S.use i a).2.t := by
  unfold SS.use
  split
  · rename_i x hx
    have hp := h _ (tfind_mem hx)
    have hu := hp.used
    refine h.set ⟨⟨?_, ?_⟩, hp.seq, hp.rp, hp.vn, hp.none_⟩
    · simp only at hu ⊢; omega
    · simp only at hu ⊢; omega
  · exact h
theorem TOk.keep {S : SS} (h : TOk S.t) (i seq : Int) (r : Rp) (hv : i64' r.vn) : TOk (S.keep i seq r (ROk r)).2.t := by
  unfold SS.keep
  split
  · rename_i x hx
    have hp := h _ (tfind_mem hx)
    have hq := hp.seq
    split
    · exact h
    · rename_i hn
      have h1 : ¬ seq ≤ x.seq := fun e => hn (.inl e)
      have h2 : ¬ 1099511627776 < seq := fun e => hn (.inr (.inl e))
      have h3 : ROk r = true := by
        cases e : ROk r
        · exact absurd (.inr (.inr e)) hn
        · rfl
      refine h.set ⟨hp.used, ?_, h3, hv, fun e => ?_⟩
      · simp only at hq ⊢; omega
      · simp only at hq e; omega
  · exact h
end Go.Proofs.YtnjhdbgejhnpfaaDoor
end

section
namespace Go.Proofs.YtnjhdbgejhnpfaaDoor
set_option linter.unusedVariables false
open Go.RowKit

theorem wpOp_monoW {P : Program} {ops : Array Oper} {Q : Exit → Act → World → Prop} {i : Nat} {K K' : Act → World → Prop} {a : Act} {w : World} (h : wpOp P ops Q i K a w) (hk : ∀ a w, K a w → K' a w) : wpOp P ops Q i K' a w := wpOp_mono hk h
theorem wpAnyH_sub {P : Program} {md : Region.Mode} {ops : Array Oper} {Q : Exit → Act → World → Prop} {S S' : World → Prop} (hs : ∀ w, S' w → S w) :
    ∀ (fuel : Nat) (L : Array Bool) (a : Act) (w : World), wpAnyH P md ops Q S' fuel L a w → wpAnyH P md ops Q S fuel L a w
  | 0, _, _, _, h => h
  | fuel + 1, L, a, w, h => ⟨h.1, fun i hi => wpOp_monoW (h.2 i hi) fun a' w' h' => ⟨hs w' h'.1, wpAnyH_sub hs fuel _ a' w' h'.2⟩⟩
/-- the class of worlds, chosen anew -/
structure Anew (S : World → Prop) (w : World) (p : (World → Prop) → Prop) : Prop where
  out : ∃ S' : World → Prop, (∀ W, S' W → S W) ∧ S' w ∧ p S'
theorem Anew.same {S : World → Prop} {w : World} {p : (World → Prop) → Prop} (h2 : S w) (h3 : p S) : Anew S w p := ⟨⟨S, fun _ h => h, h2, h3⟩⟩
theorem Anew.re {S : World → Prop} {w : World} {p : (World → Prop) → Prop} (h1 : ∀ X, Below w.heap.size w X → S X) (h3 : p (fun X => Below w.heap.size w X)) : Anew S w p := ⟨⟨_, h1, Below.refl _ _, h3⟩⟩
theorem Anew.reB {B : Nat} {w0 w : World} {p : (World → Prop) → Prop} (hB : B ≤ w.heap.size) (h1 : Below B w0 w) (h3 : p (fun X => Below w.heap.size w X)) : Anew (fun X => Below B w0 X) w p := ⟨⟨_, fun X hX => h1.trans (hX.mono hB), Below.refl _ _, h3⟩⟩
theorem Anew.reS {w0 w : World} {p : (World → Prop) → Prop} (h1 : Below w0.heap.size w0 w) (h3 : p (fun X => Below w.heap.size w X)) : Anew (fun X => Below w0.heap.size w0 X) w p := .reB h1.size h1 h3
theorem Anew.tt {w : World} {p : (World → Prop) → Prop} (h3 : p (fun X => Below w.heap.size w X)) : Anew (fun _ => True) w p := .re (fun _ _ => trivial) h3
def vone2 (P : Program) (S : World → Prop) (ops : List Oper) (K : (World → Prop) → Env → World → Prop) (o : Option Oper) (σ : Env) (w : World) : Prop := match o with
  | none => False
  | some o => vguard ops σ o.guard (fun σ => vop P false (ev σ) o.op o.type w (fun v w2 => Anew S w2 (fun S' => K S' (putE σ o.dst v) w2))) (fun σ => K S (putE σ o.dst undef) w)
def vseg2 (P : Program) (ops : List Oper) (K : Env → World → Prop) : List (List Nat × Nat) → List Nat → (World → Prop) → Env → World → Prop
  | [], last, S, σ, w => vquiet P S ops (fun σ' => K σ' w) (picks ops last) σ
  | (l, c) :: r, last, S, σ, w => vquiet P S ops (fun σ' => vone2 P S ops (fun S' σ2 w2 => vseg2 P ops K r last S' σ2 w2) (nthOp ops c) σ' w) (picks ops l) σ
theorem seg2_sound {P : Program} {n : Nat} {ds : List Deferred} {ops : List Oper} {md : Region.Mode} {Q : Exit → Act → World → Prop} {K : Env → World → Prop} {D : List Nat} {σ0 : Env} (hdst : ∀ o ∈ ops, ∀ t, o.dst = some t → t < n ∧ t ∈ D) (hs : Region.noSelect ops.toArray = true)
    (hQ : ∀ c a a' w, Q (.panic c) a w → Q (.panic c) a' w) (hK : ∀ a σ w, Agr n ds a σ → Fr D σ σ0 → K σ w → Q .normal a w) :
    ∀ (segs : List (List Nat × Nat)) (last : List Nat) (S : World → Prop) (L : Array Bool) (a : Act) (σ : Env) (w : World), S w → segC md ops.toArray segs last L = true → Agr n ds a σ → Fr D σ σ0 → vseg2 P ops K segs last S σ w → wpAnyH P md ops.toArray Q S (segLn segs last) L a w
  | [], last, S, L, a, σ, w, hS, hB, hA, hF, h => by
    unfold segC at hB
    cases hT : takeC md ops.toArray last L with
    | none => rw [hT] at hB; cases hB
    | some L' =>
      rw [hT] at hB
      simp only [List.isEmpty_iff] at hB
      have := quiet_take (md := md) (fuel := 0) (Q := Q) hdst hs hQ hS (K := fun σ' => K σ' w) (fun a σ hA hF hk => wpAnyH_done hB (hK a σ w hA hF hk) 0) last L a σ hT hA hF h
      simpa [segLn] using this
  | (l, c) :: rest, last, S, L, a, σ, w, hS, hB, hA, hF, h => by
    unfold segC at hB
    cases hT : takeC md ops.toArray l L with
    | none => rw [hT] at hB; cases hB
    | some L' =>
      rw [hT] at hB
      simp only [Bool.and_eq_true, beq_iff_eq] at hB
      obtain ⟨⟨h1, h2⟩, h3⟩ := hB
      unfold vseg2 at h
      have := quiet_take (md := md) (fuel := segLn rest last + 1) (Q := Q) hdst hs hQ hS (fun a σ' hA hF ha => ?_) l L a σ hT hA hF h
      · rw [show segLn ((l, c) :: rest) last = segLn rest last + 1 + l.length from by simp [segLn]; omega]
        exact this
      · refine wpAnyH_all h1 (by simp) (fun i hi => ?_)
        simp only [List.mem_singleton] at hi
        subst hi
        rw [nthOp_eq] at ha
        cases ho : ops[i]? with
        | none => rw [ho] at ha; exact ha.elim
        | some o =>
          rw [ho] at ha
          simp only [vone2] at ha
          have hm : o ∈ ops := List.mem_of_getElem? ho
          unfold wpOp
          rw [show ops.toArray[i]? = some o from by simpa using ho]
          simp only
          rcases vguard_sound hA ha with ⟨k1, k2⟩ | ⟨k1, k2⟩
          · rw [if_pos k1]
            exact .inl (vop_sound hA k2 fun v w' hk => by
              obtain ⟨S', g1, g2, g3⟩ := hk.out
              exact ⟨g1 w' g2, wpAnyH_sub g1 _ _ _ _ (seg2_sound hdst hs hQ hK rest last S' _ _ _ w' g2 h3 (hA.put (fun t ht => (hdst o hm t ht).1) v) (hF.put (fun t ht => (hdst o hm t ht).2) v) g3)⟩)
          · rw [if_neg (by rw [k1]; simp)]
            exact ⟨hS, seg2_sound hdst hs hQ hK rest last S _ _ _ w hS h3 (hA.put (fun t ht => (hdst o hm t ht).1) undef) (hF.put (fun t ht => (hdst o hm t ht).2) undef) k2⟩
structure VH (P : Program) (S : World → Prop) (ops : List Oper) (K : Env → World → Prop) (segs : List (List Nat × Nat)) (last : List Nat) (σ : Env) (w : World) : Prop where
  out : vseg2 P ops K segs last S σ w
theorem VH_fun (P : Program) (S : World → Prop) (ops : List Oper) (K : Env → World → Prop) (segs : List (List Nat × Nat)) (last : List Nat) : VH P S ops K segs last = vseg2 P ops K segs last S := by funext σ w; exact propext ⟨fun h => h.out, fun h => ⟨h⟩⟩
theorem VH.nil {P : Program} {S : World → Prop} {ops : List Oper} {K : Env → World → Prop} {last : List Nat} {σ : Env} {w : World} (h : VQ P S ops (fun σ' => K σ' w) (picks ops last) σ) : VH P S ops K [] last σ w := ⟨h.out⟩
theorem VH.cons {P : Program} {S : World → Prop} {ops : List Oper} {K : Env → World → Prop} {l : List Nat} {c : Nat} {r : List (List Nat × Nat)} {last : List Nat} {σ : Env} {w : World}
    (h : VQ P S ops (fun σ' => vone2 P S ops (fun S' σ2 w2 => VH P S' ops K r last σ2 w2) (nthOp ops c) σ' w) (picks ops l) σ) : VH P S ops K ((l, c) :: r) last σ w := by
  refine ⟨?_⟩
  have h := h.out
  simp only [VH_fun] at h
  exact h
theorem VDraw.segW {P : Program} {n : Nat} {ops : List Oper} {Q : Post} {σ : Env} {w : World} (S : World → Prop) (segs : List (List Nat × Nat)) (last : List Nat) (hm : P.follows .mixedOrders = true) (hB : drawB n ops segs last = true)
    (hS : S (w.drewN 1)) (h : VH P S ops (Q .normal) segs last σ (w.drewN 1)) : VDraw P n ops Q σ w := by
  replace h := h.out
  unfold drawB at hB
  simp only [Bool.and_eq_true] at hB
  obtain ⟨⟨⟨h1, h2⟩, h3⟩, h4⟩ := hB
  simp only [VDraw_eq]
  intro ds a id hA
  refine wp_region_held (S := S) hm ?_
  have hlen := Nat.eq_of_beq_eq_true h3
  have hdst : ∀ o ∈ ops, ∀ t, o.dst = some t → t < n ∧ t ∈ dsts ops := fun o ho t ht => ⟨by
    have := List.all_eq_true.1 h4 o ho
    rw [ht] at this
    exact Nat.blt_eq ▸ this, mem_dsts ho ht⟩
  have := seg2_sound (ds := ds) (Q := Lift n ds Q (dsts ops) σ) (K := Q .normal) hdst h1 (fun c a a' w h => h) (fun a σ' w hA hF hk => ⟨σ', hA, hF, hk⟩) segs last S _ a σ _ hS h2 hA (Fr.refl _ _) h
  rw [hlen] at this
  have e : ops.toArray.size = ops.length := by simp
  rw [e]
  exact this
end Go.Proofs.YtnjhdbgejhnpfaaDoor
end
