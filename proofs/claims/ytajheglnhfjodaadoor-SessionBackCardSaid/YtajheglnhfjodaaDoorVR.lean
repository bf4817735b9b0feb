/- The rules of the calculus: entering, cutting, loops, draws by segments, operation by operation. No condition. -/
import Derived.Test.YtajheglnhfjodaaDoorV
import Derived.Test.YtajheglnhfjodaaDoorBytes
namespace Go.Proofs.YtajheglnhfjodaaDoor
set_option linter.unusedVariables false
open Go.RowKit

/-! ### walking by words: what the kernel need not unfold -/
structure VC (P : Program) (n : Nat) (c : Code) (Q : Post) (σ : Env) (w : World) : Prop where
  out : vc P n c Q σ w
structure VL (P : Program) (ops : List Oper) (K : Env → World → Prop) (l : List Oper) (σ : Env) (w : World) : Prop where
  out : vlist P ops K l σ w
theorem VC_fun (P : Program) (n : Nat) (c : Code) : VC P n c = vc P n c := by funext Q σ w; exact propext ⟨fun h => h.out, fun h => ⟨h⟩⟩
theorem VL_fun (P : Program) (ops : List Oper) (K : Env → World → Prop) (l : List Oper) : VL P ops K l = vlist P ops K l := by funext σ w; exact propext ⟨fun h => h.out, fun h => ⟨h⟩⟩
def vcond (v : Value) (k : Bool → Prop) : Prop := match v with | .bool b => VBool b k | _ => False
section
variable {P : Program} {n : Nat} {Q : Post} {σ : Env} {w : World}
theorem VL.nil {ops : List Oper} {K : Env → World → Prop} (h : K σ w) : VL P ops K [] σ w := ⟨h⟩
theorem VL.cons {ops r : List Oper} {K : Env → World → Prop} {o : Oper} (h : vguard ops σ o.guard (fun σ => vop P true (ev σ) o.op o.type w (fun v w' => VL P ops K r (putE σ o.dst v) w')) (fun σ => VL P ops K r (putE σ o.dst undef) w)) : VL P ops K (o :: r) σ w := by
  rw [VL_fun] at h
  exact ⟨h⟩
theorem VC.seq {a b : Code} (h : VC P n a (thenP (VC P n b Q) Q) σ w) : VC P n (.seq a b) Q σ w := by
  rw [VC_fun, VC_fun] at h
  refine ⟨?_⟩
  unfold vc
  cases big a
  · exact h
  · exact ⟨h⟩
theorem VC.seqS {a b : Code} (hb : big a = false) (h : VC P n a (thenP (VC P n b Q) Q) σ w) : VC P n (.seq a b) Q σ w := .seq h
theorem VC.region {id : Nat} {ops : Array Oper} (h : VL P ops.toList (Q .normal) ops.toList σ w) : VC P n (.region id ops false) Q σ w := ⟨h.out⟩
theorem VC.draw {id : Nat} {ops : Array Oper} (h : VDraw P n ops.toList Q σ w) : VC P n (.region id ops true) Q σ w := ⟨h⟩
theorem VC.cond {c : Operand} {x y : Code} (h : vcond (ev σ c) (fun b' => bif b' then VC P n x Q (learn σ c b') w else VC P n y Q (learn σ c b') w)) : VC P n (.cond c x y) Q σ w := by
  rw [VC_fun, VC_fun] at h
  exact ⟨h⟩
theorem VC.block {id : Nat} {b : Code} (h : VC P n b (blockP id Q) σ w) : VC P n (.block id b) Q σ w := ⟨h.out⟩
theorem VC.exit {id : Nat} (h : Q (.exit id) σ w) : VC P n (.exit id) Q σ w := ⟨h⟩
theorem VC.goto {l : Nat} (h : Q (.goto l) σ w) : VC P n (.goto l) Q σ w := ⟨h⟩
theorem VC.ret (h : Q .ret σ w) : VC P n .ret Q σ w := ⟨h⟩
theorem VC.skip (h : Q .normal σ w) : VC P n .skip Q σ w := ⟨h⟩
theorem VC.scope {b : Code} (h : VC P n b (noGotoP Q) σ w) : VC P n (.scope b) Q σ w := ⟨h.out⟩
theorem VC.label {l : Nat} (h : Q .normal σ w) : VC P n (.label l) Q σ w := ⟨h⟩
end

/-! ### entering and leaving -/
def resE (rs : List ResultVar) (σ : Env) : Sem Value := do
  let vs ← rs.toArray.mapM fun
    | .tmp t => pure (σ t)
    | .cell a t => do loadVar t (← asAddr (σ a))
  pure (if h : vs.size = 1 then vs[0] else .tuple vs)
structure VRes (P : Program) (rs : List ResultVar) (σ : Env) (w : World) (R : Ending → World → Prop) : Prop where
  out : ∃ v, (resE rs σ).run P w = .ok v w ∧ R (.returned v) w
theorem VRes_eq {P : Program} {rs : List ResultVar} {σ : Env} {w : World} {R : Ending → World → Prop} : VRes P rs σ w R = (∃ v, (resE rs σ).run P w = .ok v w ∧ R (.returned v) w) := propext ⟨fun h => h.out, fun h => ⟨h⟩⟩
def vres (P : Program) (rs : List ResultVar) (σ : Env) (w : World) (R : Ending → World → Prop) : Prop :=
  match rs with
  | [] => R (.returned (.tuple #[])) w
  | [.tmp t] => R (.returned (σ t)) w
  | [.tmp t, .tmp u] => R (.returned (.tuple #[σ t, σ u])) w
  | [.tmp t, .tmp u, .tmp v] => R (.returned (.tuple #[σ t, σ u, σ v])) w
  | rs => VRes P rs σ w R
def retP (P : Program) (rs : List ResultVar) (R : Ending → World → Prop) : Post := fun e σ w => match e with
  | .normal | .ret => vres P rs σ w R
  | _ => False
theorem resE_run {P : Program} {n : Nat} {ds : List Deferred} {a : Act} {σ : Env} (hA : Agr n ds a σ) (fn : Func) : results fn a.tmps = resE fn.results.toList σ := by
  unfold results resE
  simp only [hA.val, Array.toArray_toList]
  rfl
theorem vres_out {P : Program} {rs : List ResultVar} {σ : Env} {w : World} {R : Ending → World → Prop} (h : vres P rs σ w R) : ∃ v, (resE rs σ).run P w = .ok v w ∧ R (.returned v) w := by
  unfold vres at h
  split at h
  · exact ⟨_, by simp [resE], h⟩
  · exact ⟨_, by simp [resE], h⟩
  · exact ⟨_, by simp [resE], h⟩
  · exact ⟨_, by simp [resE], h⟩
  · simp only [VRes_eq] at h; exact h
theorem envOf_get : ∀ (l : List Value) (t : Nat), envOf l t = (l[t]?).getD undef
  | [], t => by simp [envOf]
  | v :: r, 0 => by simp [envOf]
  | v :: r, t + 1 => by simp [envOf, envOf_get r t]
theorem Agr.enter (n : Nat) (args : List Value) (h : args.length ≤ n) : Agr n [] { tmps := args.toArray ++ Array.replicate (n - args.toArray.size) undef, defers := [] } (envOf args) := by
  refine ⟨by simp; omega, fun t => ?_, rfl⟩
  rw [envOf_get, Array.getD_eq_getD_getElem?]
  by_cases ht : t < args.length
  · rw [Array.getElem?_append_left (by simpa using ht)]; simp
  · rw [Array.getElem?_append_right (by simpa using ht), List.getElem?_eq_none (by omega)]
    by_cases h2 : t - args.toArray.size < n - args.toArray.size
    · rw [Array.getElem?_eq_getElem (by simpa using h2)]; simp
    · rw [Array.getElem?_eq_none (by simpa using h2)]
theorem calls_vc {P : Program} {f : FuncId} {fn : Func} {c : Code} {args : List Value} {w : World} {R : Ending → World → Prop} (hf : P.funcs[f]? = some fn) (hb : fn.body = some c)
    (hok : (codeOk fn.ntmps c && Nat.ble args.length fn.ntmps) = true) (h : VC P fn.ntmps c (retP P fn.results.toList R) (envOf args) w) : Calls P f args.toArray w R := by
  simp only [Bool.and_eq_true] at hok
  refine calls_of_wp hf hb (wp_mono (vc_sound c _ _ _ _ hok.1 (Agr.enter _ args (Nat.le_of_ble_eq_true hok.2)) h.out) fun e a' w' hl => ?_)
  unfold Lift at hl
  cases e <;> simp only at hl
  all_goals first
    | exact hl.elim
    | (obtain ⟨σ, hA, _, hr⟩ := hl
       first
         | exact hr.elim
         | (obtain ⟨v, h1, h2⟩ := vres_out hr
            exact ⟨hA.defers, v, by rw [resE_run (P := P) hA]; exact h1, h2⟩))

/-! ### cuts and loops -/
/-- a slot lies in one of these ranges -/
def memb (t : Nat) : List (Nat × Nat) → Bool
  | [] => false
  | d :: r => bif Nat.ble d.1 t then (bif Nat.ble t d.2 then true else memb t r) else memb t r
def hav (D : List (Nat × Nat)) (τ σ : Env) : Env := fun t => bif memb t D then τ t else σ t
def setAll : List Nat → List Value → Env → Env
  | d :: ds, v :: vs, σ => setE (setAll ds vs σ) d v
  | _, _, σ => σ
def FrR (D : List (Nat × Nat)) (σ' σ : Env) : Prop := ∀ t, memb t D = false → σ' t = σ t
theorem hav_fr {D : List (Nat × Nat)} {σ' σ : Env} (h : FrR D σ' σ) : hav D σ' σ = σ' := by
  funext t
  unfold hav
  cases hm : memb t D
  · exact (h t hm).symm
  · rfl
theorem setAll_self (σ : Env) : ∀ (ds : List Nat), setAll ds (ds.map σ) σ = σ
  | [] => rfl
  | d :: ds => by simp only [List.map_cons, setAll, setAll_self σ ds]; exact setE_id rfl
def inB (l : List Nat) (D : List (Nat × Nat)) : Bool := l.all fun t => memb t D
theorem Fr.sub {D : List Nat} {D' : List (Nat × Nat)} {σ' σ : Env} (h : Fr D σ' σ) (hD : inB D D' = true) : FrR D' σ' σ := fun t ht => h t (fun e => by have := List.all_eq_true.1 hD t e; rw [ht] at this; cases this)
theorem VC.cut {P : Program} {n : Nat} {a b : Code} {Q : Post} {σ : Env} {w : World} (slots : List Nat) (D : List (Nat × Nat)) (J : List Value → World → Prop) (hD : inB (writes a) D = true)
    (h1 : VC P n a (thenP (fun σ' w' => J (slots.map σ') w') Q) σ w) (h2 : ∀ τ vs w', J vs w' → VC P n b Q (setAll slots vs (hav D τ σ)) w') : VC P n (.seq a b) Q σ w := by
  refine .seq ⟨vc_mf a _ _ σ w h1.out fun e σ' w' hq hF => ?_⟩
  cases e with
  | normal =>
    have := h2 σ' (slots.map σ') w' hq
    rwa [hav_fr (hF.sub hD), setAll_self] at this
  | _ => exact hq
theorem VC.loop {P : Program} {n : Nat} {b : Code} {Q : Post} {σ : Env} {w : World} (slots : List Nat) (D : List (Nat × Nat)) (I : Nat → List Value → World → Prop) (hD : inB (writes b) D = true) (h0 : ∃ m, I m (slots.map σ) w)
    (hr : ∀ m τ vs w1, I m vs w1 → VC P n b (thenP (fun σ' w' => ∃ m', m' < m ∧ I m' (slots.map σ') w') Q) (setAll slots vs (hav D τ σ)) w1) : VC P n (.loop b) Q σ w := by
  refine ⟨⟨fun m σ1 w1 => I m (slots.map σ1) w1 ∧ FrR D σ1 σ, ⟨h0.choose, h0.choose_spec, fun _ _ => rfl⟩, fun m σ1 w1 ⟨hI, hF⟩ => ?_⟩⟩
  have h := hr m σ1 (slots.map σ1) w1 hI
  rw [hav_fr hF, setAll_self] at h
  refine vc_mf b _ _ σ1 w1 h.out fun e σ2 w2 hq hF2 => ?_
  cases e with
  | normal => obtain ⟨m', h1, h2⟩ := hq; exact ⟨m', h1, h2, fun t ht => by rw [hF2.sub hD t ht, hF t ht]⟩
  | _ => exact hq

/-! ### draws -/
def nthOp : List Oper → Nat → Option Oper
  | [], _ => none
  | o :: _, 0 => some o
  | _ :: r, j + 1 => nthOp r j
theorem nthOp_eq : ∀ (l : List Oper) (j : Nat), nthOp l j = l[j]?
  | [], j => by simp [nthOp]
  | o :: r, 0 => by simp [nthOp]
  | o :: r, j + 1 => by simp [nthOp, nthOp_eq r j]
def picks (ops : List Oper) : List Nat → List Oper
  | [] => []
  | i :: r => match nthOp ops i with | some o => o :: picks ops r | none => picks ops r
def vquiet (P : Program) (S : World → Prop) (ops : List Oper) (K : Env → Prop) : List Oper → Env → Prop
  | [], σ => K σ
  | o :: r, σ => vguard ops σ o.guard (fun σ => vread P S (ev σ) o.op o.type (fun v => vquiet P S ops K r (putE σ o.dst v))) (fun σ => vquiet P S ops K r (putE σ o.dst undef))
/-- the condition on the world, shown anew -/
structure Keep (S : World → Prop) (w : World) (p : Prop) : Prop where
  keep : S w
  rest : p
def vone (P : Program) (S : World → Prop) (ops : List Oper) (K : Env → World → Prop) (o : Option Oper) (σ : Env) (w : World) : Prop := match o with
  | none => False
  | some o => vguard ops σ o.guard (fun σ => vop P false (ev σ) o.op o.type w (fun v w2 => Keep S w2 (K (putE σ o.dst v) w2))) (fun σ => K (putE σ o.dst undef) w)
def vseg (P : Program) (S : World → Prop) (ops : List Oper) (K : Env → World → Prop) : List (List Nat × Nat) → List Nat → Env → World → Prop
  | [], last, σ, w => vquiet P S ops (fun σ' => K σ' w) (picks ops last) σ
  | (l, c) :: r, last, σ, w => vquiet P S ops (fun σ' => vone P S ops (fun σ2 w2 => vseg P S ops K r last σ2 w2) (nthOp ops c) σ' w) (picks ops l) σ
section
variable (md : Region.Mode) (ops : Array Oper)
def takeC : List Nat → Array Bool → Option (Array Bool)
  | [], L => some L
  | i :: r, L => if Region.free md ops L i && (Region.ready md ops L).contains i && (ops[i]?).isSome then takeC r (L.setIfInBounds i true) else none
def segC : List (List Nat × Nat) → List Nat → Array Bool → Bool
  | [], last, L => match takeC md ops last L with | some L' => (Region.ready md ops L').isEmpty | none => false
  | (l, c) :: rest, last, L => match takeC md ops l L with | some L' => Region.ready md ops L' == [c] && (ops[c]?).isSome && segC rest last (L'.setIfInBounds c true) | none => false
def segLn : List (List Nat × Nat) → List Nat → Nat
  | [], last => last.length
  | (l, _) :: rest, last => l.length + 1 + segLn rest last
/-- a plan: quiet operations as soon as they are free, then the one that is left (told by 'q': is it quiet?) -/
def planGo (q : Oper → Bool) : Nat → Array Bool → List Nat → List (List Nat × Nat) → List (List Nat × Nat) × List Nat
  | 0, _, cur, acc => (acc.reverse, cur.reverse)
  | f + 1, L, cur, acc => match (Region.ready md ops L).find? fun i => ((ops[i]?).map q).getD false && Region.free md ops L i with
    | some i => planGo q f (L.setIfInBounds i true) (i :: cur) acc
    | none => match Region.ready md ops L with
      | c :: _ => planGo q f (L.setIfInBounds c true) [] ((cur.reverse, c) :: acc)
      | [] => (acc.reverse, cur.reverse)
end
theorem quiet_take {P : Program} {n : Nat} {ds : List Deferred} {ops : List Oper} {md : Region.Mode} {Q : Exit → Act → World → Prop} {S : World → Prop} {D : List Nat} {σ0 : Env} (hdst : ∀ o ∈ ops, ∀ t, o.dst = some t → t < n ∧ t ∈ D) (hs : Region.noSelect ops.toArray = true)
    (hQ : ∀ c a a' w, Q (.panic c) a w → Q (.panic c) a' w) {w : World} (hS : S w) {K : Env → Prop} {L' : Array Bool} {fuel : Nat} (hR : ∀ a σ, Agr n ds a σ → Fr D σ σ0 → K σ → wpAnyH P md ops.toArray Q S fuel L' a w) :
    ∀ (l : List Nat) (L : Array Bool) (a : Act) (σ : Env), takeC md ops.toArray l L = some L' → Agr n ds a σ → Fr D σ σ0 → vquiet P S ops K (picks ops l) σ → wpAnyH P md ops.toArray Q S (fuel + l.length) L a w
  | [], L, a, σ, hB, hA, hF, h => by
    simp only [takeC, Option.some.injEq] at hB
    subst hB
    exact hR a σ hA hF h
  | i :: r, L, a, σ, hB, hA, hF, h => by
    unfold takeC at hB
    split at hB
    · rename_i hc
      simp only [Bool.and_eq_true] at hc
      obtain ⟨⟨h1, h2⟩, h3⟩ := hc
      cases ho : ops[i]? with
      | none => simp [ho] at h3
      | some o =>
        unfold picks at h
        rw [nthOp_eq, ho] at h
        simp only [vquiet] at h
        have hm : o ∈ ops := List.mem_of_getElem? ho
        rw [show fuel + (i :: r).length = (fuel + r.length) + 1 from by simp; omega]
        have ho' : ops.toArray[i]? = some o := by simpa using ho
        rcases vguard_sound hA h with ⟨k1, k2⟩ | ⟨k1, k2⟩
        · obtain ⟨v, v1, v2⟩ := vread_sound k2
          refine wpAnyH_take ho' hs h1 h2 (fun c a w => hQ c _ _ w) (.inl ⟨k1, fun W hW => ?_⟩) hS (quiet_take hdst hs hQ hS hR r _ _ _ hB (hA.put (fun t ht => (hdst o hm t ht).1) v) (hF.put (fun t ht => (hdst o hm t ht).2) v) v2)
          rw [hA.eval]
          exact v1 W hW
        · exact wpAnyH_take ho' hs h1 h2 (fun c a w => hQ c _ _ w) (.inr ⟨k1, rfl⟩) hS (quiet_take hdst hs hQ hS hR r _ _ _ hB (hA.put (fun t ht => (hdst o hm t ht).1) undef) (hF.put (fun t ht => (hdst o hm t ht).2) undef) k2)
    · cases hB
theorem seg_sound {P : Program} {n : Nat} {ds : List Deferred} {ops : List Oper} {md : Region.Mode} {Q : Exit → Act → World → Prop} {S : World → Prop} {K : Env → World → Prop} {D : List Nat} {σ0 : Env} (hdst : ∀ o ∈ ops, ∀ t, o.dst = some t → t < n ∧ t ∈ D) (hs : Region.noSelect ops.toArray = true)
    (hQ : ∀ c a a' w, Q (.panic c) a w → Q (.panic c) a' w) (hK : ∀ a σ w, Agr n ds a σ → Fr D σ σ0 → K σ w → Q .normal a w) :
    ∀ (segs : List (List Nat × Nat)) (last : List Nat) (L : Array Bool) (a : Act) (σ : Env) (w : World), S w → segC md ops.toArray segs last L = true → Agr n ds a σ → Fr D σ σ0 → vseg P S ops K segs last σ w → wpAnyH P md ops.toArray Q S (segLn segs last) L a w
  | [], last, L, a, σ, w, hS, hB, hA, hF, h => by
    unfold segC at hB
    cases hT : takeC md ops.toArray last L with
    | none => rw [hT] at hB; cases hB
    | some L' =>
      rw [hT] at hB
      simp only [List.isEmpty_iff] at hB
      have := quiet_take (md := md) (fuel := 0) (Q := Q) hdst hs hQ hS (K := fun σ' => K σ' w) (fun a σ hA hF hk => wpAnyH_done hB (hK a σ w hA hF hk) 0) last L a σ hT hA hF h
      simpa [segLn] using this
  | (l, c) :: rest, last, L, a, σ, w, hS, hB, hA, hF, h => by
    unfold segC at hB
    cases hT : takeC md ops.toArray l L with
    | none => rw [hT] at hB; cases hB
    | some L' =>
      rw [hT] at hB
      simp only [Bool.and_eq_true, beq_iff_eq] at hB
      obtain ⟨⟨h1, h2⟩, h3⟩ := hB
      unfold vseg at h
      have := quiet_take (md := md) (fuel := segLn rest last + 1) (Q := Q) hdst hs hQ hS (fun a σ' hA hF ha => ?_) l L a σ hT hA hF h
      · rw [show segLn ((l, c) :: rest) last = segLn rest last + 1 + l.length from by simp [segLn]; omega]
        exact this
      · refine wpAnyH_all h1 (by simp) (fun i hi => ?_)
        simp only [List.mem_singleton] at hi
        subst hi
        rw [nthOp_eq] at ha
        cases ho : ops[i]? with
        | none => rw [ho] at ha; exact ha.elim
        | some o =>
          rw [ho] at ha
          simp only [vone] at ha
          have hm : o ∈ ops := List.mem_of_getElem? ho
          unfold wpOp
          rw [show ops.toArray[i]? = some o from by simpa using ho]
          simp only
          rcases vguard_sound hA ha with ⟨k1, k2⟩ | ⟨k1, k2⟩
          · rw [if_pos k1]
            exact .inl (vop_sound hA k2 fun v w' hk => ⟨hk.keep, seg_sound hdst hs hQ hK rest last _ _ _ w' hk.keep h3 (hA.put (fun t ht => (hdst o hm t ht).1) v) (hF.put (fun t ht => (hdst o hm t ht).2) v) hk.rest⟩)
          · rw [if_neg (by rw [k1]; simp)]
            exact ⟨hS, seg_sound hdst hs hQ hK rest last _ _ _ w hS h3 (hA.put (fun t ht => (hdst o hm t ht).1) undef) (hF.put (fun t ht => (hdst o hm t ht).2) undef) k2⟩
def drawB (n : Nat) (ops : List Oper) (segs : List (List Nat × Nat)) (last : List Nat) : Bool :=
  Region.noSelect ops.toArray && segC .any ops.toArray segs last (Array.replicate ops.length false) && Nat.beq (segLn segs last) ops.length && ops.all fun o => match o.dst with | some d => Nat.blt d n | none => true
structure VQ (P : Program) (S : World → Prop) (ops : List Oper) (K : Env → Prop) (l : List Oper) (σ : Env) : Prop where
  out : vquiet P S ops K l σ
structure VG (P : Program) (S : World → Prop) (ops : List Oper) (K : Env → World → Prop) (segs : List (List Nat × Nat)) (last : List Nat) (σ : Env) (w : World) : Prop where
  out : vseg P S ops K segs last σ w
theorem VQ_fun (P : Program) (S : World → Prop) (ops : List Oper) (K : Env → Prop) (l : List Oper) : VQ P S ops K l = vquiet P S ops K l := by funext σ; exact propext ⟨fun h => h.out, fun h => ⟨h⟩⟩
theorem VG_fun (P : Program) (S : World → Prop) (ops : List Oper) (K : Env → World → Prop) (segs : List (List Nat × Nat)) (last : List Nat) : VG P S ops K segs last = vseg P S ops K segs last := by funext σ w; exact propext ⟨fun h => h.out, fun h => ⟨h⟩⟩
theorem VQ.nil {P : Program} {S : World → Prop} {ops : List Oper} {K : Env → Prop} {σ : Env} (h : K σ) : VQ P S ops K [] σ := ⟨h⟩
theorem VQ.cons {P : Program} {S : World → Prop} {ops r : List Oper} {K : Env → Prop} {o : Oper} {σ : Env} (h : vguard ops σ o.guard (fun σ => vread P S (ev σ) o.op o.type (fun v => VQ P S ops K r (putE σ o.dst v))) (fun σ => VQ P S ops K r (putE σ o.dst undef))) : VQ P S ops K (o :: r) σ := by
  rw [VQ_fun] at h
  exact ⟨h⟩
theorem VG.nil {P : Program} {S : World → Prop} {ops : List Oper} {K : Env → World → Prop} {last : List Nat} {σ : Env} {w : World} (h : VQ P S ops (fun σ' => K σ' w) (picks ops last) σ) : VG P S ops K [] last σ w := ⟨h.out⟩
theorem VG.cons {P : Program} {S : World → Prop} {ops : List Oper} {K : Env → World → Prop} {l : List Nat} {c : Nat} {r : List (List Nat × Nat)} {last : List Nat} {σ : Env} {w : World}
    (h : VQ P S ops (fun σ' => vone P S ops (fun σ2 w2 => VG P S ops K r last σ2 w2) (nthOp ops c) σ' w) (picks ops l) σ) : VG P S ops K ((l, c) :: r) last σ w := by
  refine ⟨?_⟩
  have h := h.out
  simp only [VG_fun] at h
  exact h
theorem VDraw.seg {P : Program} {n : Nat} {ops : List Oper} {Q : Post} {σ : Env} {w : World} (S : World → Prop) (segs : List (List Nat × Nat)) (last : List Nat) (hm : P.follows .mixedOrders = true) (hB : drawB n ops segs last = true)
    (hS : S (w.drewN 1)) (h : VG P S ops (Q .normal) segs last σ (w.drewN 1)) : VDraw P n ops Q σ w := by
  replace h := h.out
  unfold drawB at hB
  simp only [Bool.and_eq_true] at hB
  obtain ⟨⟨⟨h1, h2⟩, h3⟩, h4⟩ := hB
  simp only [VDraw_eq]
  intro ds a id hA
  refine wp_region_held (S := S) hm ?_
  have hlen := Nat.eq_of_beq_eq_true h3
  have hdst : ∀ o ∈ ops, ∀ t, o.dst = some t → t < n ∧ t ∈ dsts ops := fun o ho t ht => ⟨by
    have := List.all_eq_true.1 h4 o ho
    rw [ht] at this
    exact Nat.blt_eq ▸ this, mem_dsts ho ht⟩
  have := seg_sound (ds := ds) (Q := Lift n ds Q (dsts ops) σ) (K := Q .normal) hdst h1 (fun c a a' w h => h) (fun a σ' w hA hF hk => ⟨σ', hA, hF, hk⟩) segs last _ a σ _ hS h2 hA (Fr.refl _ _) h
  rw [hlen] at this
  have e : ops.toArray.size = ops.length := by simp
  rw [e]
  exact this
