/- The calculus: a function that jumps forward to one label. No condition. -/
import Derived.Test.YtbfboglcdgeheaaVR
import Derived.ScopeJumps
namespace Go.Proofs.Ytbfboglcdgeheaa
set_option linter.unusedVariables false

def jumpP (l : Nat) (J : Env → World → Prop) (Q : Post) : Post := fun e σ w => match e with | .goto l' => l' = l ∧ J σ w | e => Q e σ w
theorem body_of_lift {P : Program} {fn : Func} {R : Ending → World → Prop} {D : List Nat} {σ0 : Env} {e : Exit} {a' : Act} {w' : World} {Q : Post} (hl : Lift fn.ntmps [] Q D σ0 e a' w') (hq : ∀ σ, Q e σ w' → retP P fn.results.toList R e σ w') : bodyPost P fn R e a' w' := by
  unfold Lift at hl
  cases e <;> simp only at hl
  all_goals first
    | exact hl.elim
    | (obtain ⟨σ, hA, _, hr⟩ := hl
       replace hr := hq σ hr
       first
         | exact hr.elim
         | (obtain ⟨v, h1, h2⟩ := vres_out hr
            exact ⟨hA.defers, v, by rw [resE_run (P := P) hA]; exact h1, h2⟩))
theorem calls_vc_jump {P : Program} {f : FuncId} {fn : Func} {A b rest : Code} {args : List Value} {w : World} {R : Ending → World → Prop} (l d : Nat) (v0 : Value) (J : World → Prop) (hf : P.funcs[f]? = some fn) (hb : fn.body = some (.seq A (.scope b)))
    (hok : (codeOk fn.ntmps A && codeOk fn.ntmps b && codeOk fn.ntmps rest && Nat.ble args.length fn.ntmps) = true) (hl : findLabel b l = some rest)
    (hrest : ∀ σ w', J w' → VC P fn.ntmps rest (noGotoP (retP P fn.results.toList R)) (setE σ d v0) w')
    (h : VC P fn.ntmps A (thenP (fun σ w => VC P fn.ntmps b (jumpP l (fun σ w => σ d = v0 ∧ J w) (retP P fn.results.toList R)) σ w) (retP P fn.results.toList R)) (envOf args) w) : Calls P f args.toArray w R := by
  simp only [Bool.and_eq_true] at hok
  obtain ⟨⟨⟨o1, o2⟩, o3⟩, o4⟩ := hok
  refine calls_of_wp hf hb (wp_seq (wp_mono (vc_sound A _ _ _ _ o1 (Agr.enter _ args (Nat.le_of_ble_eq_true o4)) h.out) fun e a' w' hl' => ?_))
  cases e with
  | normal =>
    obtain ⟨σ1, hA, hF, hK⟩ := hl'
    refine wp_scope_jumps l (fun a w => ∃ σ, Agr fn.ntmps [] a σ ∧ σ d = v0 ∧ J w) (fun _ _ => 0) hl ?_ ?_
    · refine wp_mono (vc_sound b _ _ _ _ o2 hA hK.out) fun e a2 w2 h2 => ?_
      cases e with
      | goto k => obtain ⟨σ2, q1, q2, q3⟩ := h2; exact ⟨q3.1, σ2, q1, q3.2⟩
      | normal => exact body_of_lift (P := P) (R := R) h2 (fun σ h => h)
      | exit k => exact body_of_lift (P := P) (R := R) h2 (fun σ h => h)
      | ret => exact body_of_lift (P := P) (R := R) h2 (fun σ h => h)
      | panic k => exact body_of_lift (P := P) (R := R) h2 (fun σ h => h)
      | outgrown => exact body_of_lift (P := P) (R := R) h2 (fun σ h => h)
    · rintro a1 w1 ⟨σ1, hA1, hd, hJ⟩
      have h3 := hrest σ1 w1 hJ
      rw [show setE σ1 d v0 = σ1 from by
        funext t
        unfold setE
        cases ht : Nat.beq t d
        · rfl
        · rw [Nat.eq_of_beq_eq_true ht, hd]; rfl] at h3
      refine wp_mono (vc_sound rest _ _ _ _ o3 hA1 h3.out) fun e a2 w2 h2 => ?_
      cases e with
      | goto k => obtain ⟨σ2, q1, q2, q3⟩ := h2; exact q3.elim
      | normal => exact body_of_lift (P := P) (R := R) h2 (fun σ h => h)
      | exit k => exact body_of_lift (P := P) (R := R) h2 (fun σ h => h)
      | ret => exact body_of_lift (P := P) (R := R) h2 (fun σ h => h)
      | panic k => exact body_of_lift (P := P) (R := R) h2 (fun σ h => h)
      | outgrown => exact body_of_lift (P := P) (R := R) h2 (fun σ h => h)
  | goto k => exact body_of_lift (P := P) (R := R) hl' (fun σ h => h)
  | exit k => exact body_of_lift (P := P) (R := R) hl' (fun σ h => h)
  | ret => exact body_of_lift (P := P) (R := R) hl' (fun σ h => h)
  | panic k => exact body_of_lift (P := P) (R := R) hl' (fun σ h => h)
  | outgrown => exact body_of_lift (P := P) (R := R) hl' (fun σ h => h)
end Go.Proofs.Ytbfboglcdgeheaa
