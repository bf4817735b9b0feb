/- Drawn regions whose class of worlds turns with each call: what a call has made may be read later. No condition. -/
import Derived.Test.YtajheglnhfjodaaDoorVR
namespace Go.Proofs.YtajheglnhfjodaaDoor
set_option linter.unusedVariables false
open Go.RowKit

theorem wpOp_monoW {P : Program} {ops : Array Oper} {Q : Exit → Act → World → Prop} {i : Nat} {K K' : Act → World → Prop} {a : Act} {w : World} (h : wpOp P ops Q i K a w) (hk : ∀ a w, K a w → K' a w) : wpOp P ops Q i K' a w := wpOp_mono hk h
theorem wpAnyH_sub {P : Program} {md : Region.Mode} {ops : Array Oper} {Q : Exit → Act → World → Prop} {S S' : World → Prop} (hs : ∀ w, S' w → S w) :
    ∀ (fuel : Nat) (L : Array Bool) (a : Act) (w : World), wpAnyH P md ops Q S' fuel L a w → wpAnyH P md ops Q S fuel L a w
  | 0, _, _, _, h => h
  | fuel + 1, L, a, w, h => ⟨h.1, fun i hi => wpOp_monoW (h.2 i hi) fun a' w' h' => ⟨hs w' h'.1, wpAnyH_sub hs fuel _ a' w' h'.2⟩⟩
/-- the class of worlds, chosen anew -/
structure Anew (S : World → Prop) (w : World) (p : (World → Prop) → Prop) : Prop where
  out : ∃ S' : World → Prop, (∀ W, S' W → S W) ∧ S' w ∧ p S'
theorem Anew.mk1 {S : World → Prop} {w : World} {p : (World → Prop) → Prop} (S' : World → Prop) (h1 : ∀ W, S' W → S W) (h2 : S' w) (h3 : p S') : Anew S w p := ⟨⟨S', h1, h2, h3⟩⟩
theorem Anew.same {S : World → Prop} {w : World} {p : (World → Prop) → Prop} (h2 : S w) (h3 : p S) : Anew S w p := ⟨⟨S, fun _ h => h, h2, h3⟩⟩
theorem Anew.re {S : World → Prop} {w : World} {p : (World → Prop) → Prop} (h1 : ∀ X, Below w.heap.size w X → S X) (h3 : p (fun X => Below w.heap.size w X)) : Anew S w p := ⟨⟨_, h1, Below.refl _ _, h3⟩⟩
theorem Anew.reB {B : Nat} {w0 w : World} {p : (World → Prop) → Prop} (hB : B ≤ w.heap.size) (h1 : Below B w0 w) (h3 : p (fun X => Below w.heap.size w X)) : Anew (fun X => Below B w0 X) w p := ⟨⟨_, fun X hX => h1.trans (hX.mono hB), Below.refl _ _, h3⟩⟩
theorem Anew.reS {w0 w : World} {p : (World → Prop) → Prop} (h1 : Below w0.heap.size w0 w) (h3 : p (fun X => Below w.heap.size w X)) : Anew (fun X => Below w0.heap.size w0 X) w p := .reB h1.size h1 h3
theorem Anew.tt {w : World} {p : (World → Prop) → Prop} (h3 : p (fun X => Below w.heap.size w X)) : Anew (fun _ => True) w p := .re (fun _ _ => trivial) h3
def vone2 (P : Program) (S : World → Prop) (ops : List Oper) (K : (World → Prop) → Env → World → Prop) (o : Option Oper) (σ : Env) (w : World) : Prop := match o with
  | none => False
  | some o => vguard ops σ o.guard (fun σ => vop P false (ev σ) o.op o.type w (fun v w2 => Anew S w2 (fun S' => K S' (putE σ o.dst v) w2))) (fun σ => K S (putE σ o.dst undef) w)
def vseg2 (P : Program) (ops : List Oper) (K : Env → World → Prop) : List (List Nat × Nat) → List Nat → (World → Prop) → Env → World → Prop
  | [], last, S, σ, w => vquiet P S ops (fun σ' => K σ' w) (picks ops last) σ
  | (l, c) :: r, last, S, σ, w => vquiet P S ops (fun σ' => vone2 P S ops (fun S' σ2 w2 => vseg2 P ops K r last S' σ2 w2) (nthOp ops c) σ' w) (picks ops l) σ
theorem seg2_sound {P : Program} {n : Nat} {ds : List Deferred} {ops : List Oper} {md : Region.Mode} {Q : Exit → Act → World → Prop} {K : Env → World → Prop} {D : List Nat} {σ0 : Env} (hdst : ∀ o ∈ ops, ∀ t, o.dst = some t → t < n ∧ t ∈ D) (hs : Region.noSelect ops.toArray = true)
    (hQ : ∀ c a a' w, Q (.panic c) a w → Q (.panic c) a' w) (hK : ∀ a σ w, Agr n ds a σ → Fr D σ σ0 → K σ w → Q .normal a w) :
    ∀ (segs : List (List Nat × Nat)) (last : List Nat) (S : World → Prop) (L : Array Bool) (a : Act) (σ : Env) (w : World), S w → segC md ops.toArray segs last L = true → Agr n ds a σ → Fr D σ σ0 → vseg2 P ops K segs last S σ w → wpAnyH P md ops.toArray Q S (segLn segs last) L a w
  | [], last, S, L, a, σ, w, hS, hB, hA, hF, h => by
    unfold segC at hB
    cases hT : takeC md ops.toArray last L with
    | none => rw [hT] at hB; cases hB
    | some L' =>
      rw [hT] at hB
      simp only [List.isEmpty_iff] at hB
      have := quiet_take (md := md) (fuel := 0) (Q := Q) hdst hs hQ hS (K := fun σ' => K σ' w) (fun a σ hA hF hk => wpAnyH_done hB (hK a σ w hA hF hk) 0) last L a σ hT hA hF h
      simpa [segLn] using this
  | (l, c) :: rest, last, S, L, a, σ, w, hS, hB, hA, hF, h => by
    unfold segC at hB
    cases hT : takeC md ops.toArray l L with
    | none => rw [hT] at hB; cases hB
    | some L' =>
      rw [hT] at hB
      simp only [Bool.and_eq_true, beq_iff_eq] at hB
      obtain ⟨⟨h1, h2⟩, h3⟩ := hB
      unfold vseg2 at h
      have := quiet_take (md := md) (fuel := segLn rest last + 1) (Q := Q) hdst hs hQ hS (fun a σ' hA hF ha => ?_) l L a σ hT hA hF h
      · rw [show segLn ((l, c) :: rest) last = segLn rest last + 1 + l.length from by simp [segLn]; omega]
        exact this
      · refine wpAnyH_all h1 (by simp) (fun i hi => ?_)
        simp only [List.mem_singleton] at hi
        subst hi
        rw [nthOp_eq] at ha
        cases ho : ops[i]? with
        | none => rw [ho] at ha; exact ha.elim
        | some o =>
          rw [ho] at ha
          simp only [vone2] at ha
          have hm : o ∈ ops := List.mem_of_getElem? ho
          unfold wpOp
          rw [show ops.toArray[i]? = some o from by simpa using ho]
          simp only
          rcases vguard_sound hA ha with ⟨k1, k2⟩ | ⟨k1, k2⟩
          · rw [if_pos k1]
            exact .inl (vop_sound hA k2 fun v w' hk => by
              obtain ⟨S', g1, g2, g3⟩ := hk.out
              exact ⟨g1 w' g2, wpAnyH_sub g1 _ _ _ _ (seg2_sound hdst hs hQ hK rest last S' _ _ _ w' g2 h3 (hA.put (fun t ht => (hdst o hm t ht).1) v) (hF.put (fun t ht => (hdst o hm t ht).2) v) g3)⟩)
          · rw [if_neg (by rw [k1]; simp)]
            exact ⟨hS, seg2_sound hdst hs hQ hK rest last S _ _ _ w hS h3 (hA.put (fun t ht => (hdst o hm t ht).1) undef) (hF.put (fun t ht => (hdst o hm t ht).2) undef) k2⟩
structure VH (P : Program) (S : World → Prop) (ops : List Oper) (K : Env → World → Prop) (segs : List (List Nat × Nat)) (last : List Nat) (σ : Env) (w : World) : Prop where
  out : vseg2 P ops K segs last S σ w
theorem VH_fun (P : Program) (S : World → Prop) (ops : List Oper) (K : Env → World → Prop) (segs : List (List Nat × Nat)) (last : List Nat) : VH P S ops K segs last = vseg2 P ops K segs last S := by funext σ w; exact propext ⟨fun h => h.out, fun h => ⟨h⟩⟩
theorem VH.nil {P : Program} {S : World → Prop} {ops : List Oper} {K : Env → World → Prop} {last : List Nat} {σ : Env} {w : World} (h : VQ P S ops (fun σ' => K σ' w) (picks ops last) σ) : VH P S ops K [] last σ w := ⟨h.out⟩
theorem VH.cons {P : Program} {S : World → Prop} {ops : List Oper} {K : Env → World → Prop} {l : List Nat} {c : Nat} {r : List (List Nat × Nat)} {last : List Nat} {σ : Env} {w : World}
    (h : VQ P S ops (fun σ' => vone2 P S ops (fun S' σ2 w2 => VH P S' ops K r last σ2 w2) (nthOp ops c) σ' w) (picks ops l) σ) : VH P S ops K ((l, c) :: r) last σ w := by
  refine ⟨?_⟩
  have h := h.out
  simp only [VH_fun] at h
  exact h
theorem VDraw.segW {P : Program} {n : Nat} {ops : List Oper} {Q : Post} {σ : Env} {w : World} (S : World → Prop) (segs : List (List Nat × Nat)) (last : List Nat) (hm : P.follows .mixedOrders = true) (hB : drawB n ops segs last = true)
    (hS : S (w.drewN 1)) (h : VH P S ops (Q .normal) segs last σ (w.drewN 1)) : VDraw P n ops Q σ w := by
  replace h := h.out
  unfold drawB at hB
  simp only [Bool.and_eq_true] at hB
  obtain ⟨⟨⟨h1, h2⟩, h3⟩, h4⟩ := hB
  simp only [VDraw_eq]
  intro ds a id hA
  refine wp_region_held (S := S) hm ?_
  have hlen := Nat.eq_of_beq_eq_true h3
  have hdst : ∀ o ∈ ops, ∀ t, o.dst = some t → t < n ∧ t ∈ dsts ops := fun o ho t ht => ⟨by
    have := List.all_eq_true.1 h4 o ho
    rw [ht] at this
    exact Nat.blt_eq ▸ this, mem_dsts ho ht⟩
  have := seg2_sound (ds := ds) (Q := Lift n ds Q (dsts ops) σ) (K := Q .normal) hdst h1 (fun c a a' w h => h) (fun a σ' w hA hF hk => ⟨σ', hA, hF, hk⟩) segs last S _ a σ _ hS h2 hA (Fr.refl _ _) h
  rw [hlen] at this
  have e : ops.toArray.size = ops.length := by simp
  rw [e]
  exact this
end Go.Proofs.YtajheglnhfjodaaDoor
