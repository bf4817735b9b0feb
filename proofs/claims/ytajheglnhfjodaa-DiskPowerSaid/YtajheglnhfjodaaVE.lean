/- Drawn regions of several segments whose last operation alone turns what is read. No condition. -/
import Derived.Test.YtajheglnhfjodaaVD
namespace Go.Proofs.Ytajheglnhfjodaa
set_option linter.unusedVariables false
open Go.RowKit

def vsegL (P : Program) (S : World → Prop) (ops : List Oper) (K : Env → World → Prop) : List (List Nat × Nat) → List Nat → Nat → Env → World → Prop
  | [], l, c, σ, w => vquiet P S ops (fun σ' => vone P (fun _ => True) ops K (nthOp ops c) σ' w) (picks ops l) σ
  | (l1, c1) :: r, l, c, σ, w => vquiet P S ops (fun σ' => vone P S ops (fun σ2 w2 => vsegL P S ops K r l c σ2 w2) (nthOp ops c1) σ' w) (picks ops l1) σ
theorem segL_sound {P : Program} {n : Nat} {ds : List Deferred} {ops : List Oper} {md : Region.Mode} {Q : Exit → Act → World → Prop} {S : World → Prop} {K : Env → World → Prop} {D : List Nat} {σ0 : Env} {l : List Nat} {c : Nat} (hf : feeds md ops.toArray c = true) (hdst : ∀ o ∈ ops, ∀ t, o.dst = some t → t < n ∧ t ∈ D) (hs : Region.noSelect ops.toArray = true)
    (hQ : ∀ x a a' w, Q (.panic x) a w → Q (.panic x) a' w) (hK : ∀ a σ w, Agr n ds a σ → Fr D σ σ0 → K σ w → Q .normal a w) (hl : (l.all fun i => Nat.blt i c) = true) :
    ∀ (segs : List (List Nat × Nat)) (L : Array Bool) (a : Act) (σ : Env) (w : World), (segs.all fun p => (p.1.all fun i => Nat.blt i c) && Nat.blt p.2 c) = true → Down md ops.toArray L → S w → segC md ops.toArray (segs ++ [(l, c)]) [] L = true → Agr n ds a σ → Fr D σ σ0 → vsegL P S ops K segs l c σ w →
      wpAnyC P md ops.toArray Q S c (segLn (segs ++ [(l, c)]) []) L a w
  | [], L, a, σ, w, hb, hD, hS, hB, hA, hF, h => by
    rw [List.nil_append] at hB ⊢
    unfold segC at hB
    cases hT : takeC md ops.toArray l L with
    | none => rw [hT] at hB; cases hB
    | some L' =>
      rw [hT] at hB
      simp only [Bool.and_eq_true, beq_iff_eq] at hB
      obtain ⟨⟨k1, k2⟩, k3⟩ := hB
      unfold vsegL at h
      have := quiet_takeC (md := md) (Q := Q) (S := S) (w := w) (fuel := 1) (σ0 := σ0) hf hdst hs hQ hS (fun a σ' hA hF ha => ?_) l L a σ hD hl hT hA hF h
      · rw [show segLn [(l, c)] [] = 1 + l.length from by simp [segLn]; omega]
        exact this
      · refine ⟨fun h0 => absurd (k1 ▸ h0) (by simp), fun i hi => ?_⟩
        rw [k1] at hi
        simp only [List.mem_singleton] at hi
        subst hi
        rw [nthOp_eq] at ha
        cases ho : ops[i]? with
        | none => rw [ho] at ha; exact ha.elim
        | some o =>
          rw [ho] at ha
          simp only [vone] at ha
          have hmo : o ∈ ops := List.mem_of_getElem? ho
          have k4 : Region.ready md ops.toArray (L'.setIfInBounds i true) = [] := by
            unfold segC takeC at k3
            simpa [List.isEmpty_iff] using k3
          unfold wpOp
          rw [show ops.toArray[i]? = some o from by simpa using ho]
          simp only
          rcases vguard_sound hA ha with ⟨j1, j2⟩ | ⟨j1, j2⟩
          · rw [if_pos j1]
            exact .inl (vop_sound hA j2 fun v w' hk => ⟨fun h => absurd rfl h, k4, hK _ _ _ (hA.put (fun t ht => (hdst o hmo t ht).1) v) (hF.put (fun t ht => (hdst o hmo t ht).2) v) hk.rest⟩)
          · rw [if_neg (by rw [j1]; simp)]
            exact ⟨fun h => absurd rfl h, k4, hK _ _ _ (hA.put (fun t ht => (hdst o hmo t ht).1) undef) (hF.put (fun t ht => (hdst o hmo t ht).2) undef) j2⟩
  | (l1, c1) :: r, L, a, σ, w, hb, hD, hS, hB, hA, hF, h => by
    rw [List.cons_append] at hB ⊢
    simp only [List.all_cons, Bool.and_eq_true] at hb
    unfold segC at hB
    cases hT : takeC md ops.toArray l1 L with
    | none => rw [hT] at hB; cases hB
    | some L' =>
      rw [hT] at hB
      simp only [Bool.and_eq_true, beq_iff_eq] at hB
      obtain ⟨⟨k1, k2⟩, k3⟩ := hB
      unfold vsegL at h
      have hD' : ∀ (l : List Nat) (L L' : Array Bool), Down md ops.toArray L → takeC md ops.toArray l L = some L' → Down md ops.toArray L' := by
        intro l
        induction l with
        | nil => intro L L' h1 h2; simp only [takeC, Option.some.injEq] at h2; subst h2; exact h1
        | cons i r ih =>
          intro L L' h1 h2
          unfold takeC at h2
          split at h2
          · rename_i hc
            simp only [Bool.and_eq_true] at hc
            exact ih _ _ (h1.set (by simpa using hc.1.2)) h2
          · cases h2
      have hDL := hD' l1 L L' hD hT
      have := quiet_takeC (md := md) (Q := Q) (S := S) (w := w) (fuel := segLn (r ++ [(l, c)]) [] + 1) (σ0 := σ0) hf hdst hs hQ hS (fun a σ' hA hF ha => ?_) l1 L a σ hD hb.1.1 hT hA hF h
      · rw [show segLn ((l1, c1) :: (r ++ [(l, c)])) [] = segLn (r ++ [(l, c)]) [] + 1 + l1.length from by simp [segLn]; omega]
        exact this
      · refine ⟨fun h0 => absurd (k1 ▸ h0) (by simp), fun i hi => ?_⟩
        have hi0 := hi
        rw [k1] at hi
        simp only [List.mem_singleton] at hi
        subst hi
        rw [nthOp_eq] at ha
        cases ho : ops[i]? with
        | none => rw [ho] at ha; exact ha.elim
        | some o =>
          rw [ho] at ha
          simp only [vone] at ha
          have hmo : o ∈ ops := List.mem_of_getElem? ho
          unfold wpOp
          rw [show ops.toArray[i]? = some o from by simpa using ho]
          simp only
          rcases vguard_sound hA ha with ⟨j1, j2⟩ | ⟨j1, j2⟩
          · rw [if_pos j1]
            exact .inl (vop_sound hA j2 fun v w' hk => ⟨fun _ => hk.keep, segL_sound hf hdst hs hQ hK hl r _ _ _ w' hb.2 (hDL.set hi0) hk.keep k3 (hA.put (fun t ht => (hdst o hmo t ht).1) v) (hF.put (fun t ht => (hdst o hmo t ht).2) v) hk.rest⟩)
          · rw [if_neg (by rw [j1]; simp)]
            exact ⟨fun _ => hS, segL_sound hf hdst hs hQ hK hl r _ _ _ w hb.2 (hDL.set hi0) hS k3 (hA.put (fun t ht => (hdst o hmo t ht).1) undef) (hF.put (fun t ht => (hdst o hmo t ht).2) undef) j2⟩
def lastsB (n : Nat) (ops : List Oper) (segs : List (List Nat × Nat)) (l : List Nat) (c : Nat) : Bool :=
  Region.noSelect ops.toArray && feeds .any ops.toArray c && (l.all fun i => Nat.blt i c) && (segs.all fun p => (p.1.all fun i => Nat.blt i c) && Nat.blt p.2 c) && segC .any ops.toArray (segs ++ [(l, c)]) [] (Array.replicate ops.length false) && Nat.beq (segLn (segs ++ [(l, c)]) []) ops.length && ops.all fun o => match o.dst with | some d => Nat.blt d n | none => true
structure VE (P : Program) (S : World → Prop) (ops : List Oper) (K : Env → World → Prop) (segs : List (List Nat × Nat)) (l : List Nat) (c : Nat) (σ : Env) (w : World) : Prop where
  out : vsegL P S ops K segs l c σ w
theorem VE_fun (P : Program) (S : World → Prop) (ops : List Oper) (K : Env → World → Prop) (segs : List (List Nat × Nat)) (l : List Nat) (c : Nat) : VE P S ops K segs l c = vsegL P S ops K segs l c := by funext σ w; exact propext ⟨fun h => h.out, fun h => ⟨h⟩⟩
section
variable {P : Program} {S : World → Prop} {ops : List Oper} {K : Env → World → Prop} {l l1 : List Nat} {c c1 : Nat} {r : List (List Nat × Nat)} {σ : Env} {w : World}
theorem VE.nil (h : VQ P S ops (fun σ' => vone P (fun _ => True) ops K (nthOp ops c) σ' w) (picks ops l) σ) : VE P S ops K [] l c σ w := ⟨h.out⟩
theorem VE.cons (h : VQ P S ops (fun σ' => vone P S ops (fun σ2 w2 => VE P S ops K r l c σ2 w2) (nthOp ops c1) σ' w) (picks ops l1) σ) : VE P S ops K ((l1, c1) :: r) l c σ w := by
  refine ⟨?_⟩
  have h := h.out
  simp only [VE_fun] at h
  exact h
end
theorem VDraw.lasts {P : Program} {n : Nat} {ops : List Oper} {Q : Post} {σ : Env} {w : World} (S : World → Prop) (segs : List (List Nat × Nat)) (l : List Nat) (c : Nat) (hm : P.follows .mixedOrders = true) (hB : lastsB n ops segs l c = true)
    (hS : S (w.drewN 1)) (h : VE P S ops (fun σ2 w2 => Q .normal σ2 w2) segs l c σ (w.drewN 1)) : VDraw P n ops Q σ w := by
  replace h := h.out
  unfold lastsB at hB
  simp only [Bool.and_eq_true] at hB
  obtain ⟨⟨⟨⟨⟨⟨h1, h2⟩, h3⟩, h4⟩, h5⟩, h6⟩, h7⟩ := hB
  have hlen := Nat.eq_of_beq_eq_true h6
  have hdst : ∀ o ∈ ops, ∀ t, o.dst = some t → t < n ∧ t ∈ dsts ops := fun o ho t ht => ⟨by
    have := List.all_eq_true.1 h7 o ho
    rw [ht] at this
    exact Nat.blt_eq ▸ this, mem_dsts ho ht⟩
  simp only [VDraw_eq]
  intro ds a id hA
  refine wp_region_any hm (wpAny_ofC (S := S) (c := c) _ _ _ _ ?_)
  have h4' : (segs.all fun p => (p.1.all fun i => Nat.blt i c) && Nat.blt p.2 c) = true := h4
  have := segL_sound (md := .any) (ds := ds) (Q := Lift n ds Q (dsts ops) σ) (S := S) (K := fun σ2 w2 => Q .normal σ2 w2) (σ0 := σ) h2 hdst h1 (fun c a a' w h => h) (fun a σ' w hA hF hk => ⟨σ', hA, hF, hk⟩) h3 segs _ a σ _ h4' (Down.start _) hS h5 hA (Fr.refl _ _) h
  rw [hlen] at this
  rw [show ops.toArray.size = ops.length from by simp]
  exact this
end Go.Proofs.Ytajheglnhfjodaa
