/- Ranges over functions in the calculus: a round, the statement, a function that holds one. No condition. -/
import Derived.Test.YtpaibalemjkkcaaVA
import Derived.RangeFuncRecord
import Derived.RangeFuncLeaves
namespace Go.Proofs.Ytpaibalemjkkcaa
set_option linter.unusedVariables false
open Go.RowKit

/-! ### a round -/
def setPs : List Nat → List Value → Env → Env
  | t :: ts, v :: vs, σ => setPs ts vs (setE σ t v)
  | _, _, σ => σ
theorem Agr.foldPs {n : Nat} : ∀ (ps : List Nat) (vs : List Value) (tm : Array Value) (σ : Env), (∀ t ∈ ps, t < n) → Agr n [] { tmps := tm, defers := [] } σ → Agr n [] { tmps := (ps.zip vs).foldl (fun t p => t.setIfInBounds p.1 p.2) tm, defers := [] } (setPs ps vs σ)
  | [], vs, tm, σ, h, hA => by simpa [setPs] using hA
  | t :: ts, [], tm, σ, h, hA => by simpa [setPs] using hA
  | t :: ts, v :: vs, tm, σ, h, hA => by
    simp only [List.zip_cons_cons, List.foldl_cons, setPs]
    exact Agr.foldPs ts vs _ _ (fun u hu => h u (List.mem_cons_of_mem _ hu)) (hA.put (d := some t) (fun u hu => by injection hu with hu; subst hu; exact h _ (by simp)) v)
/-- what a round's end makes of the loop's record, and what yield hands back -/
def loopP (l : Nat) (K : Value → World → Prop) : Post := fun e σ w => match e with
  | .normal => ∃ r, w.heap[l]? = some (.loop r) ∧ K (.bool true) (w.putObj l (.loop { r with state := .ready, pending := none }))
  | .ret => ∃ r, w.heap[l]? = some (.loop r) ∧ K (.bool false) (w.putObj l (.loop { r with state := .done, pending := some .ret }))
  | .exit id => ∃ r, w.heap[l]? = some (.loop r) ∧ K (.bool false) (w.putObj l (.loop { r with state := .done, pending := some (.exit id) }))
  | _ => False
theorem VYield.of {P : Program} {n l : Nat} {args : List Value} {w : World} {K : Value → World → Prop} {r : Loop} {σ : Env} (hl : w.heap[l]? = some (.loop r)) (hr : r.state = .ready) (hA : Agr n [] { tmps := r.tmps, defers := [] } σ)
    (hok : (codeOk n r.assign && codeOk n r.body && calm r.assign && calm r.body && Nat.beq args.length r.params.toList.length && r.params.toList.all fun t => Nat.blt t n) = true)
    (h : VC P n r.assign (thenP (fun σ1 w1 => ∃ r1, w1.heap[l]? = some (.loop r1) ∧ r1.state = .ready ∧ VC P n r.body (loopP l K) σ1 (w1.putObj l (.loop { r1 with state := .busy }))) (fun _ _ _ => False)) (setPs r.params.toList args σ) w) :
    VYield P l args w K := by
  simp only [Bool.and_eq_true] at hok
  obtain ⟨⟨⟨⟨⟨h1, h2⟩, h3⟩, h4⟩, h5⟩, h6⟩ := hok
  refine ⟨⟨_, _, _, _, run_yield hl ?_, roundIn_of_wpIn trivial ?_⟩⟩
  · rw [List.size_toArray, Nat.eq_of_beq_eq_true h5]; simp
  have hA2 := Agr.foldPs r.params.toList args r.tmps σ (fun t ht => Nat.blt_eq ▸ List.all_eq_true.1 h6 t ht) hA
  have e : (r.params.zip args.toArray).foldl (fun tmps (t, a) => tmps.setIfInBounds t a) r.tmps = (r.params.toList.zip args).foldl (fun t p => t.setIfInBounds p.1 p.2) r.tmps := by
    rw [← Array.foldl_toList]; simp [Array.toList_zip]
  rw [e]
  refine wpIn_mono (vc_soundIn (ro := some l) (m := 0) r.assign _ _ _ _ h1 (.inr h3) hA2 h.out) fun x a1 w1 hx => ?_
  cases x with
  | normal =>
    obtain ⟨σ1, hA1, _, r1, g1, g2, g3⟩ := hx
    refine ⟨_, run_beginRound g1 g2, ?_⟩
    refine wpIn_mono (vc_soundIn (ro := some l) (m := 0) r.body _ _ _ _ h2 (.inr h4) hA1 g3.out) fun y a2 w2 hy => ?_
    cases y with
    | normal =>
      obtain ⟨σ2, hA2, _, r2, k1, k2⟩ := hy
      exact ⟨_, _, run_endRound none k1, _, rfl, k2⟩
    | ret =>
      obtain ⟨σ2, hA2, _, r2, k1, k2⟩ := hy
      exact ⟨_, _, run_endRound (some .ret) k1, _, rfl, k2⟩
    | exit id =>
      obtain ⟨σ2, hA2, _, r2, k1, k2⟩ := hy
      exact ⟨_, _, run_endRound (some (.exit id)) k1, _, rfl, k2⟩
    | goto _ => obtain ⟨_, _, _, k⟩ := hy; exact False.elim k
    | panic _ => exact hy
    | outgrown => exact hy
  | panic _ => exact hx
  | outgrown => exact hx
  | ret => obtain ⟨_, _, _, k⟩ := hx; exact k
  | exit _ => obtain ⟨_, _, _, k⟩ := hx; exact k
  | goto _ => obtain ⟨_, _, _, k⟩ := hx; exact k

/-! ### code that may hold the statement -/
abbrev PostD := List Deferred → Post
def LiftW (n : Nat) (Q : PostD) : Exit → Act → World → Prop := fun e a w => match e with
  | .panic _ | .outgrown => False
  | e => ∃ ds σ, Agr n ds a σ ∧ Q ds e σ w
structure VW (P : Program) (n : Nat) (ds : List Deferred) (c : Code) (Q : PostD) (σ : Env) (w : World) : Prop where
  out : ∀ a, Agr n ds a σ → c.wpIn Fence.wide 0 P (LiftW n Q) a w
def thenD (K : List Deferred → Env → World → Prop) (Q : PostD) : PostD := fun ds e σ w => match e with | .normal => K ds σ w | e => Q ds e σ w
section
variable {P : Program} {n : Nat} {ds : List Deferred} {Q : PostD} {σ : Env} {w : World}
theorem VW.seq {x y : Code} (h : VW P n ds x (thenD (fun ds' => VW P n ds' y Q) Q) σ w) : VW P n ds (.seq x y) Q σ w := by
  refine ⟨fun a hA => wpIn_seq (wpIn_mono (h.out a hA) fun e a1 w1 hl => ?_)⟩
  cases e with
  | normal => obtain ⟨ds', σ1, hA1, h1⟩ := hl; exact h1.out _ hA1
  | _ => exact hl
theorem VW.vc {c : Code} (hok : codeOk n c = true) (h : VC P n c (Q ds) σ w) : VW P n ds c Q σ w := by
  refine ⟨fun a hA => wpIn_mono (vc_soundIn (ro := none) (m := 0) c _ _ _ _ hok (.inl rfl) hA h.out) fun e a1 w1 hl => ?_⟩
  unfold Lift at hl
  unfold LiftW
  cases e <;> simp only at hl ⊢
  all_goals first
    | exact hl
    | (obtain ⟨σ1, hA1, _, hq⟩ := hl; exact ⟨ds, σ1, hA1, hq⟩)
theorem VW.block {id : Nat} {c : Code} (h : VW P n ds c (fun ds => blockP id (Q ds)) σ w) : VW P n ds (.block id c) Q σ w := by
  refine ⟨fun a hA => wpIn_block (wpIn_mono (h.out a hA) fun e a1 w1 hl => ?_)⟩
  cases e with
  | exit id' =>
    obtain ⟨ds', σ1, hA1, h1⟩ := hl
    simp only [blockP] at h1
    simp only [Exit.inBlock]
    by_cases hid : id' = id
    · rw [if_pos hid]
      have : Nat.beq id' id = true := by rw [hid]; exact Nat.beq_refl id
      rw [this] at h1
      exact ⟨ds', σ1, hA1, h1⟩
    · rw [if_neg hid]
      have : Nat.beq id' id = false := by rw [Bool.eq_false_iff]; intro e; exact hid (Nat.eq_of_beq_eq_true e)
      rw [this] at h1
      exact ⟨ds', σ1, hA1, h1⟩
  | _ => exact hl
/-- how the statement goes on when the function has returned -/
def pendP (Q : PostD) (ds : List Deferred) (j : Option Code) (σ : Env) (w : World) : Prop := match j with
  | none => Q ds .normal σ w
  | some .ret => Q ds .ret σ w
  | some (.exit id) => Q ds (.exit id) σ w
  | _ => False
theorem VW.range {g : Operand} {ps : Array Tmp} {assign body : Code} {gf : Nat} {lb : Array Value} (hg : ev σ g = .func (.func gf) #[] lb) (he : enters P gf = true)
    (h : ∀ (r : Loop) (w1 : World), r.state = .ready → r.pending = none → r.params = ps → r.assign = assign → r.body = body → Agr n [] { tmps := r.tmps, defers := [] } σ → Below w.heap.size w w1 →
      w1.heap[w.heap.size]? = some (.deferred (some [])) → w1.heap[w.heap.size + 1]? = some (.loop r) → w1.heap.size = w.heap.size + 2 →
      VCall P gf (.func (.yield (w.heap.size + 1)) #[] #[] :: lb.toList) w1 (fun _ w2 => ∃ r2, w2.heap[w.heap.size + 1]? = some (.loop r2) ∧ r2.state ≠ .busy ∧
        pendP Q (⟨.collected w.heap.size, #[]⟩ :: ds) r2.pending σ (w2.putObj (w.heap.size + 1) (.loop { r2 with state := .exhausted })))) : VW P n ds (.rangeFunc g ps assign body) Q σ w := by
  refine ⟨fun a hA => wpIn_rangeFunc fun fn _ => ?_⟩
  let r : Loop := { state := .ready, pending := none, fn, tmps := a.tmps, params := ps, assign, body, defers := w.heap.size }
  let w1 : World := (w.alloc (.deferred (some []))).alloc (.loop r)
  have hB : Below w.heap.size w w1 := ((Below.refl _ _).alloc (Nat.le_refl _) _).alloc (by rw [World.size_alloc]; omega) _
  have hD : w1.heap[w.heap.size]? = some (.deferred (some [])) := by
    rw [show w1 = (w.alloc (.deferred (some []))).alloc (.loop r) from rfl, Below.heap_alloc _ _ _ (by rw [World.size_alloc]; omega), World.alloc_heap_new]
  have hL : w1.heap[w.heap.size + 1]? = some (.loop r) := by
    have := World.alloc_heap_new (w.alloc (.deferred (some []))) (.loop r)
    rwa [World.size_alloc] at this
  have hS : w1.heap.size = w.heap.size + 2 := by show ((w.alloc _).alloc _).heap.size = _; rw [World.size_alloc, World.size_alloc]
  have hc := h r w1 rfl rfl rfl rfl rfl ⟨hA.size, hA.val, rfl⟩ hB hD hL hS
  simp only [VCall_eq] at hc
  obtain ⟨hc1, hc2⟩ := hc
  refine ⟨_, _, w1, ⟨.fn (.func gf) lb, #[.func (.yield (w.heap.size + 1)) #[] #[]]⟩, w1, gf, #[.func (.yield (w.heap.size + 1)) #[] #[]] ++ lb, w1, run_enterLoop_outer _ _ _ _ _, ?_, fun _ _ => trivial, ?_, fun h => (by exact absurd h (by decide)), ?_⟩
  · unfold resolve
    simp only [hA.eval, hg]
    simp [Deferred.ofValue, ev]
  · unfold invoke
    exact callFunc_run he
  · refine callsIn_wide.2 ?_
    have e3 : (Value.func (.yield (w.heap.size + 1)) #[] #[] :: lb.toList).toArray = #[.func (.yield (w.heap.size + 1)) #[] #[]] ++ lb := by rw [← Array.toList_inj]; simp
    rw [e3] at hc2
    refine hc2.mono fun e w2 hh => ?_
    obtain ⟨v, rfl, r2, k1, k2, k3⟩ := hh
    refine ⟨_, _, run_endLoop k1 k2, ?_⟩
    have hA' : Agr n (⟨.collected w.heap.size, #[]⟩ :: ds) { a with defers := [⟨.collected w.heap.size, #[]⟩] ++ a.defers } σ := ⟨hA.size, hA.val, by simp [hA.defers]⟩
    unfold pendP at k3
    generalize r2.pending = j at k3 ⊢
    cases j with
    | none => exact ⟨_, _, hA', k3⟩
    | some c =>
      cases c with
      | ret => exact wpIn_ret ⟨_, _, hA', k3⟩
      | exit id => exact wpIn_exit ⟨_, _, hA', k3⟩
      | _ => exact k3.elim
end

/-! ### a function that holds one -/
def leaveD : List Deferred → World → (World → Prop) → Prop
  | [], w, K => K w
  | d :: ds, w, K => match d.target with
    | .collected r => w.heap[r]? = some (.deferred (some [])) ∧ leaveD ds (w.putObj r (.deferred none)) K
    | _ => False
def retD (P : Program) (rs : List ResultVar) (R : Ending → World → Prop) : PostD := fun ds e σ w => match e with
  | .normal | .ret => leaveD ds w (fun w' => vres P rs σ w' R)
  | _ => False
theorem leaveD_out {P : Program} {m : Nat} {fn : Func} {tm : Array Value} {R : Ending → World → Prop} {K : World → Prop} (hK : ∀ w, K w → ∃ v, (results fn tm).run P w = .ok v w ∧ R (.returned v) w) : ∀ (ds : List Deferred) (w : World), leaveD ds w K → LeavesInM Fence.wide m P fn tm R ds .returning w
  | [], w, h => hK w h
  | d :: ds, w, h => by
    unfold leaveD at h
    split at h
    · rename_i r e
      exact ⟨by simp, .inl ⟨r, _, e, run_takeDeferred h.1, leaveD_out hK ds _ h.2⟩⟩
    · exact h.elim
theorem calls_vw {P : Program} {f : FuncId} {fn : Func} {c : Code} {args : List Value} {w : World} {R : Ending → World → Prop} (hf : P.funcs[f]? = some fn) (hb : fn.body = some c)
    (hok : Nat.ble args.length fn.ntmps = true) (h : VW P fn.ntmps [] c (retD P fn.results.toList R) (envOf args) w) : Calls P f args.toArray w R := by
  refine callsIn_wide.1 (callsIn_of_wp_marks (n := 0) hf hb trivial (wpIn_mono (h.out _ (Agr.enter _ args (Nat.le_of_ble_eq_true hok))) fun e a' w' hl => ?_))
  unfold LiftW at hl
  cases e <;> simp only at hl
  all_goals first
    | exact hl.elim
    | (obtain ⟨ds, σ, hA, hr⟩ := hl
       first
         | exact hr.elim
         | (show LeavesInM _ _ _ _ _ _ _ _ _
            rw [hA.defers]
            refine leaveD_out (fun w hw => ?_) _ _ hr
            obtain ⟨v, h1, h2⟩ := vres_out hw
            exact ⟨v, by rw [resE_run (P := P) hA]; exact h1, h2⟩))
end Go.Proofs.Ytpaibalemjkkcaa
