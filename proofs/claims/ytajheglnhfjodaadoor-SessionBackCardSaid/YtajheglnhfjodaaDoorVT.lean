/- Drawn regions in which two operations may come up: both orders. No condition. -/
import Derived.Test.YtajheglnhfjodaaDoorVR
namespace Go.Proofs.YtajheglnhfjodaaDoor
set_option linter.unusedVariables false
open Go.RowKit

/-- a plan: quiet operations, then one that is left, or one of two -/
inductive Plan where
  | done (l : List Nat)
  | one (l : List Nat) (c : Nat) (p : Plan)
  | two (l : List Nat) (c : Nat) (p : Plan) (d : Nat) (q : Plan)
def Plan.size : Plan → Nat
  | .done l => l.length
  | .one l _ p => l.length + 1 + p.size
  | .two l _ p _ _ => l.length + 1 + p.size
def planC (md : Region.Mode) (ops : Array Oper) : Plan → Array Bool → Bool
  | .done l, L => match takeC md ops l L with | some L' => (Region.ready md ops L').isEmpty | none => false
  | .one l c p, L => match takeC md ops l L with | some L' => Region.ready md ops L' == [c] && (ops[c]?).isSome && planC md ops p (L'.setIfInBounds c true) | none => false
  | .two l c p d q, L => match takeC md ops l L with
    | some L' => Region.ready md ops L' == [c, d] && (ops[c]?).isSome && (ops[d]?).isSome && Nat.beq p.size q.size && planC md ops p (L'.setIfInBounds c true) && planC md ops q (L'.setIfInBounds d true)
    | none => false
def vplan (P : Program) (S : World → Prop) (ops : List Oper) (K : Env → World → Prop) : Plan → Env → World → Prop
  | .done l, σ, w => vquiet P S ops (fun σ' => K σ' w) (picks ops l) σ
  | .one l c p, σ, w => vquiet P S ops (fun σ' => vone P S ops (fun σ2 w2 => vplan P S ops K p σ2 w2) (nthOp ops c) σ' w) (picks ops l) σ
  | .two l c p d q, σ, w => vquiet P S ops (fun σ' => vone P S ops (fun σ2 w2 => vplan P S ops K p σ2 w2) (nthOp ops c) σ' w ∧ vone P S ops (fun σ2 w2 => vplan P S ops K q σ2 w2) (nthOp ops d) σ' w) (picks ops l) σ
theorem plan_sound {P : Program} {n : Nat} {ds : List Deferred} {ops : List Oper} {md : Region.Mode} {Q : Exit → Act → World → Prop} {S : World → Prop} {K : Env → World → Prop} {D : List Nat} {σ0 : Env} (hdst : ∀ o ∈ ops, ∀ t, o.dst = some t → t < n ∧ t ∈ D) (hs : Region.noSelect ops.toArray = true)
    (hQ : ∀ c a a' w, Q (.panic c) a w → Q (.panic c) a' w) (hK : ∀ a σ w, Agr n ds a σ → Fr D σ σ0 → K σ w → Q .normal a w) :
    ∀ (pl : Plan) (L : Array Bool) (a : Act) (σ : Env) (w : World), S w → planC md ops.toArray pl L = true → Agr n ds a σ → Fr D σ σ0 → vplan P S ops K pl σ w → wpAnyH P md ops.toArray Q S pl.size L a w := by
  have one : ∀ (i : Nat) (p : Plan) (L : Array Bool) (a : Act) (σ : Env) (w : World), S w → Agr n ds a σ → Fr D σ σ0 →
      (∀ (a : Act) (σ : Env) (w : World), S w → Agr n ds a σ → Fr D σ σ0 → vplan P S ops K p σ w → wpAnyH P md ops.toArray Q S p.size (L.setIfInBounds i true) a w) →
      vone P S ops (fun σ2 w2 => vplan P S ops K p σ2 w2) (nthOp ops i) σ w → wpOp P ops.toArray Q i (fun a' w' => S w' ∧ wpAnyH P md ops.toArray Q S p.size (L.setIfInBounds i true) a' w') a w := by
    intro i p L a σ w hS hA hF ih ha
    rw [nthOp_eq] at ha
    cases ho : ops[i]? with
    | none => rw [ho] at ha; exact ha.elim
    | some o =>
      rw [ho] at ha
      simp only [vone] at ha
      have hm : o ∈ ops := List.mem_of_getElem? ho
      unfold wpOp
      rw [show ops.toArray[i]? = some o from by simpa using ho]
      simp only
      rcases vguard_sound hA ha with ⟨k1, k2⟩ | ⟨k1, k2⟩
      · rw [if_pos k1]
        exact .inl (vop_sound hA k2 fun v w' hk => ⟨hk.keep, ih _ _ w' hk.keep (hA.put (fun t ht => (hdst o hm t ht).1) v) (hF.put (fun t ht => (hdst o hm t ht).2) v) hk.rest⟩)
      · rw [if_neg (by rw [k1]; simp)]
        exact ⟨hS, ih _ _ w hS (hA.put (fun t ht => (hdst o hm t ht).1) undef) (hF.put (fun t ht => (hdst o hm t ht).2) undef) k2⟩
  intro pl
  induction pl with
  | done l =>
    intro L a σ w hS hB hA hF h
    unfold planC at hB
    cases hT : takeC md ops.toArray l L with
    | none => rw [hT] at hB; cases hB
    | some L' =>
      rw [hT] at hB
      simp only [List.isEmpty_iff] at hB
      have := quiet_take (md := md) (fuel := 0) (Q := Q) hdst hs hQ hS (K := fun σ' => K σ' w) (fun a σ hA hF hk => wpAnyH_done hB (hK a σ w hA hF hk) 0) l L a σ hT hA hF h
      simpa [Plan.size] using this
  | one l c p ih =>
    intro L a σ w hS hB hA hF h
    unfold planC at hB
    cases hT : takeC md ops.toArray l L with
    | none => rw [hT] at hB; cases hB
    | some L' =>
      rw [hT] at hB
      simp only [Bool.and_eq_true, beq_iff_eq] at hB
      obtain ⟨⟨h1, h2⟩, h3⟩ := hB
      unfold vplan at h
      have := quiet_take (md := md) (fuel := p.size + 1) (Q := Q) hdst hs hQ hS (fun a σ' hA hF ha => ?_) l L a σ hT hA hF h
      · rw [show (Plan.one l c p).size = p.size + 1 + l.length from by simp [Plan.size]; omega]
        exact this
      · refine wpAnyH_all h1 (by simp) (fun i hi => ?_)
        simp only [List.mem_singleton] at hi
        subst hi
        exact one i p L' a σ' w hS hA hF (fun a σ w hS hA hF hv => ih _ a σ w hS h3 hA hF hv) ha
  | two l c p d q ihp ihq =>
    intro L a σ w hS hB hA hF h
    unfold planC at hB
    cases hT : takeC md ops.toArray l L with
    | none => rw [hT] at hB; cases hB
    | some L' =>
      rw [hT] at hB
      simp only [Bool.and_eq_true, beq_iff_eq] at hB
      obtain ⟨⟨⟨⟨⟨h1, h2⟩, h3⟩, h4⟩, h5⟩, h6⟩ := hB
      have hpq := Nat.eq_of_beq_eq_true h4
      unfold vplan at h
      have := quiet_take (md := md) (fuel := p.size + 1) (Q := Q) hdst hs hQ hS (fun a σ' hA hF ha => ?_) l L a σ hT hA hF h
      · rw [show (Plan.two l c p d q).size = p.size + 1 + l.length from by simp [Plan.size]; omega]
        exact this
      · refine wpAnyH_all h1 (by simp) (fun i hi => ?_)
        simp only [List.mem_cons, List.not_mem_nil, or_false] at hi
        rcases hi with rfl | rfl
        · exact one i p L' a σ' w hS hA hF (fun a σ w hS hA hF hv => ihp _ a σ w hS h5 hA hF hv) ha.1
        · have := one i q L' a σ' w hS hA hF (fun a σ w hS hA hF hv => ihq _ a σ w hS h6 hA hF hv) ha.2
          rw [← hpq] at this
          exact this
def planB (n : Nat) (ops : List Oper) (pl : Plan) : Bool :=
  Region.noSelect ops.toArray && planC .any ops.toArray pl (Array.replicate ops.length false) && Nat.beq pl.size ops.length && ops.all fun o => match o.dst with | some d => Nat.blt d n | none => true
structure VP (P : Program) (S : World → Prop) (ops : List Oper) (K : Env → World → Prop) (pl : Plan) (σ : Env) (w : World) : Prop where
  out : vplan P S ops K pl σ w
theorem VP_fun (P : Program) (S : World → Prop) (ops : List Oper) (K : Env → World → Prop) (pl : Plan) : VP P S ops K pl = vplan P S ops K pl := by funext σ w; exact propext ⟨fun h => h.out, fun h => ⟨h⟩⟩
section
variable {P : Program} {S : World → Prop} {ops : List Oper} {K : Env → World → Prop} {l : List Nat} {c d : Nat} {p q : Plan} {σ : Env} {w : World}
theorem VP.done (h : VQ P S ops (fun σ' => K σ' w) (picks ops l) σ) : VP P S ops K (.done l) σ w := ⟨h.out⟩
theorem VP.one (h : VQ P S ops (fun σ' => vone P S ops (fun σ2 w2 => VP P S ops K p σ2 w2) (nthOp ops c) σ' w) (picks ops l) σ) : VP P S ops K (.one l c p) σ w := by
  refine ⟨?_⟩
  have h := h.out
  simp only [VP_fun] at h
  exact h
theorem VP.two (h : VQ P S ops (fun σ' => And (vone P S ops (fun σ2 w2 => VP P S ops K p σ2 w2) (nthOp ops c) σ' w) (vone P S ops (fun σ2 w2 => VP P S ops K q σ2 w2) (nthOp ops d) σ' w)) (picks ops l) σ) : VP P S ops K (.two l c p d q) σ w := by
  refine ⟨?_⟩
  have h := h.out
  simp only [VP_fun] at h
  exact h
end
theorem VDraw.plan {P : Program} {n : Nat} {ops : List Oper} {Q : Post} {σ : Env} {w : World} (S : World → Prop) (pl : Plan) (hm : P.follows .mixedOrders = true) (hB : planB n ops pl = true)
    (hS : S (w.drewN 1)) (h : VP P S ops (Q .normal) pl σ (w.drewN 1)) : VDraw P n ops Q σ w := by
  replace h := h.out
  unfold planB at hB
  simp only [Bool.and_eq_true] at hB
  obtain ⟨⟨⟨h1, h2⟩, h3⟩, h4⟩ := hB
  simp only [VDraw_eq]
  intro ds a id hA
  refine wp_region_held (S := S) hm ?_
  have hlen := Nat.eq_of_beq_eq_true h3
  have hdst : ∀ o ∈ ops, ∀ t, o.dst = some t → t < n ∧ t ∈ dsts ops := fun o ho t ht => ⟨by
    have := List.all_eq_true.1 h4 o ho
    rw [ht] at this
    exact Nat.blt_eq ▸ this, mem_dsts ho ht⟩
  have := plan_sound (ds := ds) (Q := Lift n ds Q (dsts ops) σ) (K := Q .normal) hdst h1 (fun c a a' w h => h) (fun a σ' w hA hF hk => ⟨σ', hA, hF, hk⟩) pl _ a σ _ hS h2 hA (Fr.refl _ _) h
  rw [hlen] at this
  have e : ops.toArray.size = ops.length := by simp
  rw [e]
  exact this
end Go.Proofs.YtajheglnhfjodaaDoor
