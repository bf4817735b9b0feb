/- Drawn regions whose last operation alone touches the world. No condition. -/
import Derived.Test.YtajheglnhfjodaaDoorVR
namespace Go.Proofs.YtajheglnhfjodaaDoor
set_option linter.unusedVariables false
open Go.RowKit

section
variable {P : Program} {ops : Array Oper} {Q : Exit → Act → World → Prop} {md : Region.Mode} {S : World → Prop} {c : Nat}
/-- what is listed has what it waits for listed -/
def Down (md : Region.Mode) (ops : Array Oper) (L : Array Bool) : Prop := ∀ j oj, ops[j]? = some oj → L.getD j false = true → ∀ e ∈ oj.after, Region.binds md e = true → L.getD e.on false = true
/-- every operation but the last is waited for by a later one -/
def feeds (md : Region.Mode) (ops : Array Oper) (c : Nat) : Bool := Nat.beq ops.size (c + 1) && (List.range c).all fun i => (List.range (c + 1)).any fun k => Nat.blt i k && match ops[k]? with
  | some o => o.after.any fun e => Region.binds md e && Nat.beq e.on i
  | none => false
theorem Down.set {L : Array Bool} {j : Nat} (h : Down md ops L) (hj : j ∈ Region.ready md ops L) : Down md ops (L.setIfInBounds j true) := by
  intro k ok hk hl e he hb
  obtain ⟨h0, o, ho, hall⟩ := mem_ready.1 hj
  by_cases hkj : k = j
  · subst hkj
    rw [ho] at hk
    obtain rfl := Option.some.inj hk
    exact getD_set_true (hall e he hb)
  · rw [getD_set_ne false (Ne.symm hkj)] at hl
    exact getD_set_true (h k ok hk hl e he hb)
theorem Down.start (n : Nat) : Down md ops (Array.replicate n false) := by
  intro j oj hj hl
  exfalso
  rcases Nat.lt_or_ge j n with h | h
  · simp [h] at hl
  · simp [Array.getElem?_eq_none (xs := Array.replicate n false) (by simpa using h)] at hl
theorem feeds_spec (hf : feeds md ops c = true) : ops.size = c + 1 ∧ ∀ i, i < c → ∃ k o e, i < k ∧ k ≤ c ∧ ops[k]? = some o ∧ e ∈ o.after ∧ Region.binds md e = true ∧ e.on = i := by
  unfold feeds at hf
  simp only [Bool.and_eq_true, List.all_eq_true, List.mem_range] at hf
  refine ⟨Nat.eq_of_beq_eq_true hf.1, fun i hi => ?_⟩
  have h1 := hf.2 i hi
  simp only [List.any_eq_true, List.mem_range, Bool.and_eq_true] at h1
  obtain ⟨k, hk, h2, h3⟩ := h1
  cases ho : ops[k]? with
  | none => rw [ho] at h3; cases h3
  | some o =>
    rw [ho] at h3
    obtain ⟨e, he, h4⟩ := Array.any_eq_true'.1 h3
    simp only [Bool.and_eq_true] at h4
    exact ⟨k, o, e, Nat.blt_eq ▸ h2, by omega, ho, he, h4.1, Nat.eq_of_beq_eq_true h4.2⟩
theorem ready_last {L : Array Bool} (hd : Down md ops L) (hf : feeds md ops c = true) (hc : c ∈ Region.ready md ops L) : ∀ (d i : Nat), c - i ≤ d → i < c → L.getD i false = true := by
  intro d
  induction d with
  | zero => intro i h1 h2; omega
  | succ d ih =>
    intro i h1 h2
    obtain ⟨k, o, e, hk, hkc, ho, he, hb, rfl⟩ := (feeds_spec hf).2 i h2
    by_cases hke : k = c
    · subst hke
      obtain ⟨_, o', ho', hall⟩ := mem_ready.1 hc
      rw [ho] at ho'
      obtain rfl := Option.some.inj ho'
      exact hall e he hb
    · exact hd k o ho (ih k (by omega) (by omega)) e he hb
/-- whatever order: S holds till the last operation -/
def wpAnyC (P : Program) (md : Region.Mode) (ops : Array Oper) (Q : Exit → Act → World → Prop) (S : World → Prop) (c : Nat) : Nat → Array Bool → Act → World → Prop
  | 0, listed, a, w => Region.ready md ops listed = [] ∧ Q .normal a w
  | fuel + 1, listed, a, w =>
    (Region.ready md ops listed = [] → Q .normal a w) ∧
    ∀ i ∈ Region.ready md ops listed, wpOp P ops Q i (fun a' w' => (i ≠ c → S w') ∧ wpAnyC P md ops Q S c fuel (listed.setIfInBounds i true) a' w') a w
theorem wpAny_ofC : ∀ (fuel : Nat) (listed : Array Bool) (a : Act) (w : World), wpAnyC P md ops Q S c fuel listed a w → wpAny P md ops Q fuel listed a w
  | 0, _, _, _, h => h
  | fuel + 1, _, _, _, h => ⟨h.1, fun i hi => wpOp_mono (fun a' w' h' => wpAny_ofC fuel _ a' w' h'.2) (h.2 i hi)⟩
theorem wpAnyC_first {i : Nat} {oi : Oper} {v : Value} (hi : ops[i]? = some oi) (hic : i < c) (hf : feeds md ops c = true) (hsel : ∀ (j : Nat) (o : Oper) cs b, ops[j]? = some o → o.op ≠ .select cs b)
    (hQ : ∀ x a w, Q (.panic x) (a.put oi.dst v) w → Q (.panic x) a w) :
    ∀ (fuel : Nat) (listed : Array Bool) (a : Act) (w : World), Down md ops listed →
      (∀ j oj, ops[j]? = some oj → j ≠ i → listed.getD j true = false → (∀ e ∈ oj.after, Region.binds md e = true → e.on ≠ i) → oi.apart ops oj = true) →
      i ∈ Region.ready md ops listed → YieldsIf P ops S oi v a → S w →
      wpAnyC P md ops Q S c fuel (listed.setIfInBounds i true) (a.put oi.dst v) w → wpAnyC P md ops Q S c (fuel + 1) listed a w := by
  intro fuel
  induction fuel with
  | zero =>
    intro listed a w _ _ hr hy hS H
    refine ⟨fun h => (by rw [h] at hr; cases hr), fun j hj => ?_⟩
    by_cases hji : j = i
    · subst hji; exact hy.wpOp hi hS ⟨fun _ => hS, H⟩
    · have := ready_mono hj hji
      rw [H.1] at this
      cases this
  | succ fuel ih =>
    intro listed a w hD hfree hr hy hS H
    refine ⟨fun h => (by rw [h] at hr; cases hr), fun j hj => ?_⟩
    by_cases hji : j = i
    · subst hji; exact hy.wpOp hi hS ⟨fun _ => hS, H⟩
    · have h0 := (mem_ready.1 hr).1
      have hun : listed.getD i false = true → False := fun h1 => by
        rcases Nat.lt_or_ge i listed.size with h' | h'
        · simp [h'] at h0 h1; rw [h0] at h1; cases h1
        · simp [Array.getElem?_eq_none h'] at h1
      have hjc : j ≠ c := fun e => by
        subst e
        exact hun (ready_last hD hf hj (j - i) i (Nat.le_refl _) hic)
      have h1 := H.2 j (ready_mono hj hji)
      obtain ⟨hjun, oj, hoj, hall⟩ := mem_ready.1 hj
      have hnot : ∀ e ∈ oj.after, Region.binds md e = true → e.on ≠ i := fun e he hb heq => hun (by rw [← heq]; exact hall e he hb)
      have h2 := wpOp_putIf hoj (hfree j oj hoj hji hjun hnot) (fun cs b => hsel i oi cs b hi) (fun cs b => hsel j oj cs b hoj) hQ hy h1
      have hfree' : ∀ k ok, ops[k]? = some ok → k ≠ i → (listed.setIfInBounds j true).getD k true = false →
          (∀ e ∈ ok.after, Region.binds md e = true → e.on ≠ i) → oi.apart ops ok = true := fun k ok hk hki hkun hno => by
        refine hfree k ok hk hki ?_ hno
        by_cases hjk : j = k
        · subst hjk; exact hjun
        · rw [getD_set_ne true hjk] at hkun; exact hkun
      refine wpOp_mono (fun a' w' h3 => ⟨h3.2.1, ih (listed.setIfInBounds j true) a' w' (hD.set hj) hfree' (ready_mono hr (Ne.symm hji)) h3.1 (h3.2.1 hjc) ?_⟩) h2
      rw [Array.setIfInBounds_comm _ _ hji]
      exact h3.2.2
end
theorem quiet_takeC {P : Program} {n : Nat} {ds : List Deferred} {ops : List Oper} {md : Region.Mode} {Q : Exit → Act → World → Prop} {S : World → Prop} {D : List Nat} {σ0 : Env} {c : Nat} (hf : feeds md ops.toArray c = true) (hdst : ∀ o ∈ ops, ∀ t, o.dst = some t → t < n ∧ t ∈ D) (hs : Region.noSelect ops.toArray = true)
    (hQ : ∀ x a a' w, Q (.panic x) a w → Q (.panic x) a' w) {w : World} (hS : S w) {K : Env → Prop} {L' : Array Bool} {fuel : Nat} (hR : ∀ a σ, Agr n ds a σ → Fr D σ σ0 → K σ → wpAnyC P md ops.toArray Q S c fuel L' a w) :
    ∀ (l : List Nat) (L : Array Bool) (a : Act) (σ : Env), Down md ops.toArray L → (l.all fun i => Nat.blt i c) = true → takeC md ops.toArray l L = some L' → Agr n ds a σ → Fr D σ σ0 → vquiet P S ops K (picks ops l) σ → wpAnyC P md ops.toArray Q S c (fuel + l.length) L a w
  | [], L, a, σ, hD, hl, hB, hA, hF, h => by
    simp only [takeC, Option.some.injEq] at hB
    subst hB
    exact hR a σ hA hF h
  | i :: r, L, a, σ, hD, hl, hB, hA, hF, h => by
    unfold takeC at hB
    simp only [List.all_cons, Bool.and_eq_true] at hl
    split at hB
    · rename_i hc
      simp only [Bool.and_eq_true] at hc
      obtain ⟨⟨h1, h2⟩, h3⟩ := hc
      cases ho : ops[i]? with
      | none => simp [ho] at h3
      | some o =>
        unfold picks at h
        rw [nthOp_eq, ho] at h
        simp only [vquiet] at h
        have hm : o ∈ ops := List.mem_of_getElem? ho
        rw [show fuel + (i :: r).length = (fuel + r.length) + 1 from by simp; omega]
        have ho' : ops.toArray[i]? = some o := by simpa using ho
        have hic : i < c := Nat.blt_eq ▸ hl.1
        have hr : i ∈ Region.ready md ops.toArray L := by simpa using h2
        rcases vguard_sound hA h with ⟨k1, k2⟩ | ⟨k1, k2⟩
        · obtain ⟨v, v1, v2⟩ := vread_sound k2
          refine wpAnyC_first ho' hic hf (Region.noSelect_spec hs) (fun x a w => hQ x _ _ w) _ L a w hD (Region.free_spec ho' h1) hr (.inl ⟨k1, fun W hW => ?_⟩) hS (quiet_takeC hf hdst hs hQ hS hR r _ _ _ (hD.set hr) hl.2 hB (hA.put (fun t ht => (hdst o hm t ht).1) v) (hF.put (fun t ht => (hdst o hm t ht).2) v) v2)
          rw [hA.eval]
          exact v1 W hW
        · exact wpAnyC_first ho' hic hf (Region.noSelect_spec hs) (fun x a w => hQ x _ _ w) _ L a w hD (Region.free_spec ho' h1) hr (.inr ⟨k1, rfl⟩) hS (quiet_takeC hf hdst hs hQ hS hR r _ _ _ (hD.set hr) hl.2 hB (hA.put (fun t ht => (hdst o hm t ht).1) undef) (hF.put (fun t ht => (hdst o hm t ht).2) undef) k2)
    · cases hB
/-- all but the last are read, in one world; then the last one -/
def lastB (n : Nat) (ops : List Oper) (l : List Nat) (c : Nat) : Bool :=
  Region.noSelect ops.toArray && feeds .any ops.toArray c && (l.all fun i => Nat.blt i c) && segC .any ops.toArray [(l, c)] [] (Array.replicate ops.length false) && Nat.beq (l.length + 1) ops.length && ops.all fun o => match o.dst with | some d => Nat.blt d n | none => true
theorem VDraw.last {P : Program} {n : Nat} {ops : List Oper} {Q : Post} {σ : Env} {w : World} (l : List Nat) (c : Nat) (hm : P.follows .mixedOrders = true) (hB : lastB n ops l c = true)
    (h : VQ P (Eq (w.drewN 1)) ops (fun σ' => vone P (fun _ => True) ops (fun σ2 w2 => Q .normal σ2 w2) (nthOp ops c) σ' (w.drewN 1)) (picks ops l) σ) : VDraw P n ops Q σ w := by
  replace h := h.out
  unfold lastB at hB
  simp only [Bool.and_eq_true] at hB
  obtain ⟨⟨⟨⟨⟨h1, h2⟩, h3⟩, h4⟩, h5⟩, h6⟩ := hB
  have hlen := Nat.eq_of_beq_eq_true h5
  have hdst : ∀ o ∈ ops, ∀ t, o.dst = some t → t < n ∧ t ∈ dsts ops := fun o ho t ht => ⟨by
    have := List.all_eq_true.1 h6 o ho
    rw [ht] at this
    exact Nat.blt_eq ▸ this, mem_dsts ho ht⟩
  simp only [VDraw_eq]
  intro ds a id hA
  refine wp_region_any hm (wpAny_ofC (S := Eq (w.drewN 1)) (c := c) _ _ _ _ ?_)
  rw [show ops.toArray.size = ops.length from by simp]
  unfold segC at h4
  cases hT : takeC .any ops.toArray l (Array.replicate ops.length false) with
  | none => rw [hT] at h4; cases h4
  | some L' =>
    rw [hT] at h4
    simp only [Bool.and_eq_true, beq_iff_eq] at h4
    obtain ⟨⟨k1, k2⟩, k3⟩ := h4
    have := quiet_takeC (md := .any) (Q := Lift n ds Q (dsts ops) σ) (S := Eq (w.drewN 1)) (w := w.drewN 1) (fuel := 1) (σ0 := σ) h2 hdst h1 (fun c a a' w h => h) rfl (fun a σ' hA hF ha => ?_) l _ a σ (Down.start _) h3 hT hA (Fr.refl _ _) h
    · rw [show 1 + l.length = ops.toArray.size from by simp; omega] at this
      rw [show ops.toArray.size = ops.length from by simp] at this
      exact this
    · refine ⟨fun h0 => absurd (k1 ▸ h0) (by simp), fun i hi => ?_⟩
      rw [k1] at hi
      simp only [List.mem_singleton] at hi
      subst hi
      rw [nthOp_eq] at ha
      cases ho : ops[i]? with
      | none => rw [ho] at ha; exact ha.elim
      | some o =>
        rw [ho] at ha
        simp only [vone] at ha
        have hmo : o ∈ ops := List.mem_of_getElem? ho
        have k4 : Region.ready .any ops.toArray (L'.setIfInBounds i true) = [] := by
          unfold segC takeC at k3
          simpa [List.isEmpty_iff] using k3
        unfold wpOp
        rw [show ops.toArray[i]? = some o from by simpa using ho]
        simp only
        rcases vguard_sound hA ha with ⟨j1, j2⟩ | ⟨j1, j2⟩
        · rw [if_pos j1]
          exact .inl (vop_sound hA j2 fun v w' hk => ⟨fun h => absurd rfl h, k4, ⟨_, hA.put (fun t ht => (hdst o hmo t ht).1) v, hF.put (fun t ht => (hdst o hmo t ht).2) v, hk.rest⟩⟩)
        · rw [if_neg (by rw [j1]; simp)]
          exact ⟨fun h => absurd rfl h, k4, ⟨_, hA.put (fun t ht => (hdst o hmo t ht).1) undef, hF.put (fun t ht => (hdst o hmo t ht).2) undef, j2⟩⟩
end Go.Proofs.YtajheglnhfjodaaDoor
