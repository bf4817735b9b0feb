/- Texts joined: RF, FrameA, FrameE, SnapB, SnapC, LaidL, Frs, RS, SnapD, SnapE, SnapF, SnapG, SnR, RdB, In, DiskQ, RdC. No condition. -/
import Derived.Test.YtebeidnmplnlpaaPki0
import Derived.RangeFuncRecord
import Derived.RangeFuncLeaves
import Derived.Test.YtebeidnmplnlpaaPki2
import Derived.Test.YtebeidnmplnlpaaPki1
import Derived.SliceStrings
import Derived.Deep.Grids
import Derived.Deep.Slices
import Derived.OpenShut
section
namespace Go.Proofs.Ytebeidnmplnlpaa
set_option linter.unusedVariables false
open Go.RowKit

/-! ### a round -/
def setPs : List Nat → List Value → Env → Env
  | t :: ts, v :: vs, σ => setPs ts vs (setE σ t v)
  | _, _, σ => σ
theorem Agr.foldPs {n : Nat} : ∀ (ps : List Nat) (vs : List Value) (tm : Array Value) (σ : Env), (∀ t ∈ ps, t < n) → Agr n [] { tmps := tm, defers := [] } σ → Agr n [] { tmps := (ps.zip vs).foldl (fun t p => t.setIfInBounds p.1 p.2) tm, defers := [] } (setPs ps vs σ)
  | [], vs, tm, σ, h, hA => by simpa [setPs] using hA
  | t :: ts, [], tm, σ, h, hA => by simpa [setPs] using hA
  | t :: ts, v :: vs, tm, σ, h, hA => by
    simp only [List.zip_cons_cons, List.foldl_cons, setPs]
    exact Agr.foldPs ts vs _ _ (fun u hu => h u (List.mem_cons_of_mem _ hu)) (hA.put (d := some t) (fun u hu => by injection hu with hu; subst hu; exact h _ (by simp)) v)
/-- what a round's end makes of the loop's record, and what yield hands back -/
def loopP (l : Nat) (K : Value → World → Prop) : Post := fun e σ w => match e with
  | .normal => ∃ r, w.heap[l]? = some (.loop r) ∧ K (.bool true) (w.putObj l (.loop { r with state := .ready, pending := none }))
  | .ret => ∃ r, w.heap[l]? = some (.loop r) ∧ K (.bool false) (w.putObj l (.loop { r with state := .done, pending := some .ret }))
  | .exit id => ∃ r, w.heap[l]? = some (.loop r) ∧ K (.bool false) (w.putObj l (.loop { r with state := .done, pending := some (.exit id) }))
  | _ => False
theorem VYield.of {P : Program} {n l : Nat} {args : List Value} {w : World} {K : Value → World → Prop} {r : Loop} {σ : Env} (hl : w.heap[l]? = some (.loop r)) (hr : r.state = .ready) (hA : Agr n [] { tmps := r.tmps, defers := [] } σ)
    (hok : (codeOk n r.assign && codeOk n r.body && calm r.assign && calm r.body && Nat.beq args.length r.params.toList.length && r.params.toList.all fun t => Nat.blt t n) = true)
    (h : VC P n r.assign (thenP (fun σ1 w1 => ∃ r1, w1.heap[l]? = some (.loop r1) ∧ r1.state = .ready ∧ VC P n r.body (loopP l K) σ1 (w1.putObj l (.loop { r1 with state := .busy }))) (fun _ _ _ => False)) (setPs r.params.toList args σ) w) :
    VYield P l args w K := by
  simp only [Bool.and_eq_true] at hok
  obtain ⟨⟨⟨⟨⟨h1, h2⟩, h3⟩, h4⟩, h5⟩, h6⟩ := hok
  refine ⟨⟨_, _, _, _, run_yield hl ?_, roundIn_of_wpIn trivial ?_⟩⟩
  · rw [List.size_toArray, Nat.eq_of_beq_eq_true h5]; simp
  have hA2 := Agr.foldPs r.params.toList args r.tmps σ (fun t ht => Nat.blt_eq ▸ List.all_eq_true.1 h6 t ht) hA
  have e : (r.params.zip args.toArray).foldl (fun tmps (t, a) => tmps.setIfInBounds t a) r.tmps = (r.params.toList.zip args).foldl (fun t p => t.setIfInBounds p.1 p.2) r.tmps := by
    rw [← Array.foldl_toList]; simp [Array.toList_zip]
  rw [e]
  refine wpIn_mono (vc_soundIn (ro := some l) (m := 0) r.assign _ _ _ _ h1 (.inr h3) hA2 h.out) fun x a1 w1 hx => ?_
  cases x with
  | normal =>
    obtain ⟨σ1, hA1, _, r1, g1, g2, g3⟩ := hx
    refine ⟨_, run_beginRound g1 g2, ?_⟩
    refine wpIn_mono (vc_soundIn (ro := some l) (m := 0) r.body _ _ _ _ h2 (.inr h4) hA1 g3.out) fun y a2 w2 hy => ?_
    cases y with
    | normal =>
      obtain ⟨σ2, hA2, _, r2, k1, k2⟩ := hy
      exact ⟨_, _, run_endRound none k1, _, rfl, k2⟩
    | ret =>
      obtain ⟨σ2, hA2, _, r2, k1, k2⟩ := hy
      exact ⟨_, _, run_endRound (some .ret) k1, _, rfl, k2⟩
    | exit id =>
      obtain ⟨σ2, hA2, _, r2, k1, k2⟩ := hy
      exact ⟨_, _, run_endRound (some (.exit id)) k1, _, rfl, k2⟩
    | goto _ => obtain ⟨_, _, _, k⟩ := hy; exact False.elim k
    | panic _ => exact hy
    | outgrown => exact hy
  | panic _ => exact hx
  | outgrown => exact hx
  | ret => obtain ⟨_, _, _, k⟩ := hx; exact k
  | exit _ => obtain ⟨_, _, _, k⟩ := hx; exact k
  | goto _ => obtain ⟨_, _, _, k⟩ := hx; exact k

/-! ### code that may hold the statement -/
abbrev PostD := List Deferred → Post
def LiftW (n : Nat) (Q : PostD) : Exit → Act → World → Prop := fun e a w => match e with
  | .panic _ | .outgrown => False
  | e => ∃ ds σ, Agr n ds a σ ∧ Q ds e σ w
structure VW (P : Program) (n : Nat) (ds : List Deferred) (c : Code) (Q : PostD) (σ : Env) (w : World) : Prop where
  out : ∀ a, Agr n ds a σ → c.wpIn Fence.wide 0 P (LiftW n Q) a w
def thenD (K : List Deferred → Env → World → Prop) (Q : PostD) : PostD := fun ds e σ w => match e with | .normal => K ds σ w | e => Q ds e σ w
section
variable {P : Program} {n : Nat} {ds : List Deferred} {Q : PostD} {σ : Env} {w : World}
theorem VW.seq {x y : Code} (h : VW P n ds x (thenD (fun ds' => VW P n ds' y Q) Q) σ w) : VW P n ds (.seq x y) Q σ w := by
  refine ⟨fun a hA => wpIn_seq (wpIn_mono (h.out a hA) fun e a1 w1 hl => ?_)⟩
  cases e with
  | normal => obtain ⟨ds', σ1, hA1, h1⟩ := hl; exact h1.out _ hA1
  | _ => exact hl
theorem VW.vc {c : Code} (hok : codeOk n c = true) (h : VC P n c (Q ds) σ w) : VW P n ds c Q σ w := by
  refine ⟨fun a hA => wpIn_mono (vc_soundIn (ro := none) (m := 0) c _ _ _ _ hok (.inl rfl) hA h.out) fun e a1 w1 hl => ?_⟩
  unfold Lift at hl
  unfold LiftW
  cases e <;> simp only at hl ⊢
  all_goals first
    | exact hl
    | (obtain ⟨σ1, hA1, _, hq⟩ := hl; exact ⟨ds, σ1, hA1, hq⟩)
theorem VW.block {id : Nat} {c : Code} (h : VW P n ds c (fun ds => blockP id (Q ds)) σ w) : VW P n ds (.block id c) Q σ w := by
  refine ⟨fun a hA => wpIn_block (wpIn_mono (h.out a hA) fun e a1 w1 hl => ?_)⟩
  cases e with
  | exit id' =>
    obtain ⟨ds', σ1, hA1, h1⟩ := hl
    simp only [blockP] at h1
    simp only [Exit.inBlock]
    by_cases hid : id' = id
    · rw [if_pos hid]
      have : Nat.beq id' id = true := by rw [hid]; exact Nat.beq_refl id
      rw [this] at h1
      exact ⟨ds', σ1, hA1, h1⟩
    · rw [if_neg hid]
      have : Nat.beq id' id = false := by rw [Bool.eq_false_iff]; intro e; exact hid (Nat.eq_of_beq_eq_true e)
      rw [this] at h1
      exact ⟨ds', σ1, hA1, h1⟩
  | _ => exact hl
/-- how the statement goes on when the function has returned -/
def pendP (Q : PostD) (ds : List Deferred) (j : Option Code) (σ : Env) (w : World) : Prop := match j with
  | none => Q ds .normal σ w
  | some .ret => Q ds .ret σ w
  | some (.exit id) => Q ds (.exit id) σ w
  | _ => False
theorem VW.range {g : Operand} {ps : Array Tmp} {assign body : Code} {gf : Nat} {lb : Array Value} (hg : ev σ g = .func (.func gf) #[] lb) (he : enters P gf = true)
    (h : ∀ (r : Loop) (w1 : World), r.state = .ready → r.pending = none → r.params = ps → r.assign = assign → r.body = body → Agr n [] { tmps := r.tmps, defers := [] } σ → Below w.heap.size w w1 →
      w1.heap[w.heap.size]? = some (.deferred (some [])) → w1.heap[w.heap.size + 1]? = some (.loop r) → w1.heap.size = w.heap.size + 2 →
      VCall P gf (.func (.yield (w.heap.size + 1)) #[] #[] :: lb.toList) w1 (fun _ w2 => ∃ r2, w2.heap[w.heap.size + 1]? = some (.loop r2) ∧ r2.state ≠ .busy ∧
        pendP Q (⟨.collected w.heap.size, #[]⟩ :: ds) r2.pending σ (w2.putObj (w.heap.size + 1) (.loop { r2 with state := .exhausted })))) : VW P n ds (.rangeFunc g ps assign body) Q σ w := by
  refine ⟨fun a hA => wpIn_rangeFunc fun fn _ => ?_⟩
  let r : Loop := { state := .ready, pending := none, fn, tmps := a.tmps, params := ps, assign, body, defers := w.heap.size }
  let w1 : World := (w.alloc (.deferred (some []))).alloc (.loop r)
  have hB : Below w.heap.size w w1 := ((Below.refl _ _).alloc (Nat.le_refl _) _).alloc (by rw [World.size_alloc]; omega) _
  have hD : w1.heap[w.heap.size]? = some (.deferred (some [])) := by
    rw [show w1 = (w.alloc (.deferred (some []))).alloc (.loop r) from rfl, Below.heap_alloc _ _ _ (by rw [World.size_alloc]; omega), World.alloc_heap_new]
  have hL : w1.heap[w.heap.size + 1]? = some (.loop r) := by
    have := World.alloc_heap_new (w.alloc (.deferred (some []))) (.loop r)
    rwa [World.size_alloc] at this
  have hS : w1.heap.size = w.heap.size + 2 := by show ((w.alloc _).alloc _).heap.size = _; rw [World.size_alloc, World.size_alloc]
  have hc := h r w1 rfl rfl rfl rfl rfl ⟨hA.size, hA.val, rfl⟩ hB hD hL hS
  simp only [VCall_eq] at hc
  obtain ⟨hc1, hc2⟩ := hc
  refine ⟨_, _, w1, ⟨.fn (.func gf) lb, #[.func (.yield (w.heap.size + 1)) #[] #[]]⟩, w1, gf, #[.func (.yield (w.heap.size + 1)) #[] #[]] ++ lb, w1, run_enterLoop_outer _ _ _ _ _, ?_, fun _ _ => trivial, ?_, fun h => (by exact absurd h (by decide)), ?_⟩
  · unfold resolve
    simp only [hA.eval, hg]
    simp [Deferred.ofValue, ev]
  · unfold invoke
    exact callFunc_run he
  · refine callsIn_wide.2 ?_
    have e3 : (Value.func (.yield (w.heap.size + 1)) #[] #[] :: lb.toList).toArray = #[.func (.yield (w.heap.size + 1)) #[] #[]] ++ lb := by rw [← Array.toList_inj]; simp
    rw [e3] at hc2
    refine hc2.mono fun e w2 hh => ?_
    obtain ⟨v, rfl, r2, k1, k2, k3⟩ := hh
    refine ⟨_, _, run_endLoop k1 k2, ?_⟩
    have hA' : Agr n (⟨.collected w.heap.size, #[]⟩ :: ds) { a with defers := [⟨.collected w.heap.size, #[]⟩] ++ a.defers } σ := ⟨hA.size, hA.val, by simp [hA.defers]⟩
    unfold pendP at k3
    generalize r2.pending = j at k3 ⊢
    cases j with
    | none => exact ⟨_, _, hA', k3⟩
    | some c =>
      cases c with
      | ret => exact wpIn_ret ⟨_, _, hA', k3⟩
      | exit id => exact wpIn_exit ⟨_, _, hA', k3⟩
      | _ => exact k3.elim
end

/-! ### a function that holds one -/
def leaveD : List Deferred → World → (World → Prop) → Prop
  | [], w, K => K w
  | d :: ds, w, K => match d.target with
    | .collected r => w.heap[r]? = some (.deferred (some [])) ∧ leaveD ds (w.putObj r (.deferred none)) K
    | _ => False
def retD (P : Program) (rs : List ResultVar) (R : Ending → World → Prop) : PostD := fun ds e σ w => match e with
  | .normal | .ret => leaveD ds w (fun w' => vres P rs σ w' R)
  | _ => False
theorem leaveD_out {P : Program} {m : Nat} {fn : Func} {tm : Array Value} {R : Ending → World → Prop} {K : World → Prop} (hK : ∀ w, K w → ∃ v, (results fn tm).run P w = .ok v w ∧ R (.returned v) w) : ∀ (ds : List Deferred) (w : World), leaveD ds w K → LeavesInM Fence.wide m P fn tm R ds .returning w
  | [], w, h => hK w h
  | d :: ds, w, h => by
    unfold leaveD at h
    split at h
    · rename_i r e
      exact ⟨by simp, .inl ⟨r, _, e, run_takeDeferred h.1, leaveD_out hK ds _ h.2⟩⟩
    · exact h.elim
theorem calls_vw {P : Program} {f : FuncId} {fn : Func} {c : Code} {args : List Value} {w : World} {R : Ending → World → Prop} (hf : P.funcs[f]? = some fn) (hb : fn.body = some c)
    (hok : Nat.ble args.length fn.ntmps = true) (h : VW P fn.ntmps [] c (retD P fn.results.toList R) (envOf args) w) : Calls P f args.toArray w R := by
  refine callsIn_wide.1 (callsIn_of_wp_marks (n := 0) hf hb trivial (wpIn_mono (h.out _ (Agr.enter _ args (Nat.le_of_ble_eq_true hok))) fun e a' w' hl => ?_))
  unfold LiftW at hl
  cases e <;> simp only at hl
  all_goals first
    | exact hl.elim
    | (obtain ⟨ds, σ, hA, hr⟩ := hl
       first
         | exact hr.elim
         | (show LeavesInM _ _ _ _ _ _ _ _ _
            rw [hA.defers]
            refine leaveD_out (fun w hw => ?_) _ _ hr
            obtain ⟨v, h1, h2⟩ := vres_out hw
            exact ⟨v, by rw [resE_run (P := P) hA]; exact h1, h2⟩))
end Go.Proofs.Ytebeidnmplnlpaa
end

section
namespace Go.Proofs.Ytebeidnmplnlpaa
set_option linter.unusedVariables false
open Go.RowKit

namespace Frame
/-- the place of the k-th frame -/
def place (l : List UInt8) : Nat → Int
  | 0 => 0
  | k + 1 => (get l (place l k)).2.1
def okAt (l : List UInt8) (k : Nat) : Prop := (get l (place l k)).2.2 = 0
def body (l : List UInt8) (k : Nat) : List UInt8 := (get l (place l k)).1
theorem get_ok {l : List UInt8} {a : Int} (h : (get l a).2.2 = 0) : 0 ≤ a ∧ a + 6 ≤ (get l a).2.1 ∧ (get l a).2.1 ≤ l.length ∧ (get l a).2.1 = a + (put (get l a).1).length ∧ 1 ≤ (get l a).1.length := by
  unfold get at h ⊢
  split at h
  · exact absurd h (by decide)
  · rename_i h1
    rw [if_neg h1]
    split at h
    · exact absurd h (by decide)
    · rename_i h2
      rw [if_neg h2]
      split at h
      · exact absurd h (by decide)
      · rename_i body r e
        obtain ⟨e2, h3, h4⟩ := first_some e
        have e3 : (l.drop a.toNat).length = (put body).length + r.length := by rw [e2, List.length_append]
        rw [List.length_drop] at e3
        have h5 := put_len body
        have h6 := (Wire.int_len (body.length : Int)).1
        simp only at h ⊢
        refine ⟨by omega, by omega, by omega, trivial, h3⟩
theorem place_ok {l : List UInt8} {k : Nat} (h : okAt l k) : 0 ≤ place l k ∧ place l k + 6 ≤ place l (k + 1) ∧ place l (k + 1) ≤ l.length := by
  have := get_ok h
  exact ⟨this.1, this.2.1, this.2.2.1⟩
theorem place_le {l : List UInt8} {k : Nat} (h : ∀ i, i < k → okAt l i) : 0 ≤ place l k ∧ place l k ≤ l.length := by
  cases k with
  | zero => exact ⟨by unfold place; omega, by unfold place; omega⟩
  | succ k => have := place_ok (h k (by omega)); exact ⟨by omega, this.2.2⟩
end Frame

/-- a call of a value: a function's, or a loop's round -/
def VVal (P : Program) (y : Value) (args : List Value) (w : World) (K : Value → World → Prop) : Prop := match y with
  | .func (.func g) _ cap => VCall P g (args ++ cap.toList) w K
  | .func (.yield k) _ _ => VYield P k args w K
  | _ => False
structure AllJ (l : List UInt8) (y : Value) (bx : Addr) (A : Option Addr) (n c : Nat) (J Jx : Nat → World → Prop) : Prop where
  read : ∀ k W, J k W → W.cell? bx = some (.slice A n c) ∧ Reads W W.heap.size 1 A n (bv l)
  later : ∀ k W W', J k W → Below W.heap.size W W' → J k W'
  step : ∀ k W, (∀ i, i < k → Frame.okAt l i) → Frame.okAt l k → J k W → ∀ B v m, Own W B v m (Frame.body l k) →
    VVal Try.prog y [.int .i64 (Frame.place l k), v] W (fun res W2 => (res = .bool true ∧ J (k + 1) W2) ∨ (res = .bool false ∧ Jx (k + 1) W2))
set_option maxRecDepth 10000 in
theorem all1 (y : Value) (bx : Addr) (A : Option Addr) (n c : Nat) (l : List UInt8) (J Jx : Nat → World → Prop) (w : World) (hn : n ≤ 140737488355328) (hnc : n ≤ c) (hln : l.length = n)
    (hy : (∃ g p1 p2 p3, y = .func (.func g) #[] #[.pointer p1, .pointer p2, .pointer p3]) ∨ ∃ k, y = .func (.yield k) #[] #[]) (hj : AllJ l y bx A n c J Jx) (h0 : J 0 w) :
    Calls Try.prog 108 #[y, .pointer (some bx)] w fun e w' => e = .returned (.tuple #[]) ∧
      ∃ k, (∀ i, i < k → Frame.okAt l i) ∧ ((¬ Frame.okAt l k ∧ J k w') ∨ (0 < k ∧ Jx k w')) := by
  obtain ⟨hread, hlater, hstep⟩ := hj
  rcases hy with ⟨g, p1, p2, p3, rfl⟩ | ⟨g, rfl⟩
  all_goals
    refine calls_vc Try.func108 rfl (by kernel_rfl) ?_
    ((conv => whnf); (repeat ((first | (refine VL.cons ?_) | (refine VL.nil ?_) | (refine VC.seqS rfl ?_) | (refine VC.region ?_) | (refine VC.block ?_) | (refine VC.label ?_) | (refine VC.scope ?_)); (conv => whnf))))
    ((repeat ((fail); (conv => whnf))))
    refine VC.loop [3] [(3, 23)] (fun q vs W => ∃ k, vs = [.int .i64 (Frame.place l k)] ∧ q = (n - Frame.place l k).toNat ∧ (∀ i, i < k → Frame.okAt l i) ∧ J k W) (by kernel_rfl) ⟨_, 0, rfl, rfl, fun i hi => absurd hi (Nat.not_lt_zero i), h0⟩ ?_
    rintro q τ vs W ⟨k, rfl, rfl, hk, hJ⟩
    have hp := Frame.place_le hk
    obtain ⟨hc, hR⟩ := hread k W hJ
    ((conv => whnf); (repeat ((first | (refine VL.cons ?_) | (refine VC.seqS rfl ?_) | (refine VC.region ?_) | (refine VC.block ?_)); (conv => whnf))))
    ((repeat ((first | (refine VL.cons ?_) | (refine VRead.load1 (by assumption) ?_)); (conv => whnf))))
    refine VCall.of (frGet_any A n c l (Frame.place l k) W hn hnc (by omega) hR) ?_
    rintro e W1 ⟨A1, m1, c1, rfl, hO, hB⟩
    refine ⟨_, rfl, ?_⟩
    have hJ1 := hlater k W W1 hJ hB
    by_cases hok : (Frame.get l (Frame.place l k)).2.2 = 0
    · have hp1 := Frame.place_ok hok
      ((conv => whnf); (repeat ((first | (refine VL.cons ?_) | (refine VL.nil ?_)); (conv => whnf))))
      ((repeat ((first | (refine VL.cons ?_) | (refine VC.seqS rfl ?_) | (refine VC.region ?_) | (refine VBool.f ?_) | (refine VBool.nT (by omega) ?_) | (refine VC.seq ?_)); (conv => whnf))))
      first
        | refine VCall.mono (hstep k W1 hk hok hJ1 _ _ _ hO) ?_
        | refine VYield.mono (hstep k W1 hk hok hJ1 _ _ _ hO) ?_
      rintro res W2 (⟨rfl, hJ2⟩ | ⟨rfl, hX⟩)
      · ((conv => whnf); (repeat ((first | (refine VL.cons ?_)); (conv => whnf))))
        ((repeat ((first | (refine VL.cons ?_) | (refine VL.nil ?_) | (refine VC.region ?_) | (refine VC.cond ?_) | (refine VC.skip ?_) | (refine VBool.f ?_)); (conv => whnf))))
        refine ⟨_, ?_, k + 1, rfl, rfl, fun i hi => ?_, hJ2⟩
        · omega
        · rcases Nat.lt_or_ge i k with h | h
          · exact hk i h
          · rw [show i = k by omega]; exact hok
      · ((conv => whnf); (repeat ((first | (refine VL.cons ?_)); (conv => whnf))))
        ((repeat ((first | (refine VL.cons ?_) | (refine VL.nil ?_) | (refine VC.cond ?_) | (refine VC.exit ?_) | (refine VBool.t ?_) | (refine VBool.f ?_)); (conv => whnf))))
        refine ⟨rfl, k + 1, fun i hi => ?_, .inr ⟨by omega, hX⟩⟩
        rcases Nat.lt_or_ge i k with h | h
        · exact hk i h
        · rw [show i = k by omega]; exact hok
    · ((conv => whnf); (repeat ((first | (refine VL.cons ?_) | (refine VL.nil ?_)); (conv => whnf))))
      ((repeat ((first | (refine VL.cons ?_) | (refine VL.nil ?_) | (refine VC.seqS rfl ?_) | (refine VC.region ?_) | (refine VC.cond ?_) | (refine VC.exit ?_) | (refine VBool.t ?_) | (refine VBool.nF (by omega) ?_) | (refine VC.seq ?_)); (conv => whnf))))
      exact ⟨rfl, k, hk, .inl ⟨hok, hJ1⟩⟩
theorem frAll_any (v : Value) (hv : ∃ A n c, v = .slice A n c) (w : World) :
    Calls Try.prog 88 #[v] w fun e w' => ∃ g, e = .returned (.func (.func 108) #[] #[.pointer (some ⟨g, 0, none⟩)]) ∧ Blk w' g 31 #[v] ∧ w.heap.size ≤ g ∧ Below w.heap.size w w' := by
  obtain ⟨A, n, c, rfl⟩ := hv
  refine calls_vc Try.func88 rfl (by kernel_rfl) ?_
  ((conv => whnf); (repeat ((first | (refine VL.cons ?_) | (refine VC.seqS rfl ?_) | (refine VC.region ?_)); (conv => whnf))))
  ((repeat ((fail); (conv => whnf))))
  refine VSem.boxB ?_
  intro w1 g hb hg hl hB
  ((conv => whnf); (repeat ((first | (refine VL.cons ?_) | (refine VL.nil ?_) | (refine VC.seqS rfl ?_) | (refine VC.region ?_)); (conv => whnf))))
  ((repeat ((fail); (conv => whnf))))
  refine VSem.of rfl ?_
  ((conv => whnf); (repeat ((first | (refine VL.cons ?_) | (refine VL.nil ?_) | (refine VC.ret ?_)); (conv => whnf))))
  ((repeat ((fail); (conv => whnf))))
  exact ⟨g, rfl, hb, by omega, hB⟩
theorem Below.putObj {B : Nat} {a w : World} (h : Below B a w) {r : Nat} (hr : B ≤ r) (o : Obj) : Below B a (w.putObj r o) :=
  ⟨h.os, h.tape, h.output, by rw [World.putObj_size]; exact h.size, fun k hk => by rw [World.putObj_heap_other (by omega)]; exact h.block k hk⟩
theorem Blk.putObj {w : World} {g r : Nat} {T : TypeId} {cs : Array Value} (h : Blk w g T cs) (hne : g ≠ r) (o : Obj) : Blk (w.putObj r o) g T cs := by
  unfold Blk at *; rw [World.putObj_heap_other hne]; exact h
theorem Blk.later {w w' : World} {g : Nat} {T : TypeId} {cs : Array Value} (h : Blk w g T cs) (hb : Below w.heap.size w w') : Blk w' g T cs := by
  unfold Blk at *; rw [hb.block g (Array.getElem?_eq_some_iff.1 h).1]; exact h
theorem obj_later {w w' : World} {g : Nat} {o : Obj} (h : w.heap[g]? = some o) (hb : Below w.heap.size w w') : w'.heap[g]? = some o := by
  rw [hb.block g (Array.getElem?_eq_some_iff.1 h).1]; exact h
end Go.Proofs.Ytebeidnmplnlpaa
end

section
namespace Go.Proofs.Ytebeidnmplnlpaa
set_option linter.unusedVariables false
open Go.RowKit

/-- what stands between two rounds of Ends -/
structure EndsJ (l : List UInt8) (v : Value) (w : World) (r : Loop) (D g1 g4 gx : Nat) (k : Nat) (W : World) : Prop where
  b1 : Blk W g1 31 #[v]
  b4 : Blk W g4 3 #[.int .i64 (Frame.place l k)]
  bx : Blk W gx 31 #[v]
  dd : W.heap[D]? = some (.deferred (some []))
  ll : W.heap[D + 1]? = some (.loop r)
  since : Below w.heap.size w W
theorem EndsJ.later {l : List UInt8} {v : Value} {w : World} {r : Loop} {D g1 g4 gx k : Nat} {W W' : World} (h : EndsJ l v w r D g1 g4 gx k W) (hb : Below W.heap.size W W') : EndsJ l v w r D g1 g4 gx k W' :=
  ⟨h.b1.later hb, h.b4.later hb, h.bx.later hb, obj_later h.dd hb, obj_later h.ll hb, h.since.trans (hb.mono h.since.size)⟩
theorem obj_only {w w' : World} {g i : Nat} {o : Obj} (h : w.heap[i]? = some o) (hg : w.grownBy w' (some g)) (hne : i ≠ g) : w'.heap[i]? = some o := by
  rw [hg.block i (Array.getElem?_eq_some_iff.1 h).1 (fun e => by injection e with e; exact hne (by omega))]; exact h
theorem Blk.only {w w' : World} {g i : Nat} {T : TypeId} {cs : Array Value} (h : Blk w i T cs) (hg : w.grownBy w' (some g)) (hne : i ≠ g) : Blk w' i T cs := obj_only h hg hne
theorem blk_lt {w : World} {g : Nat} {T : TypeId} {cs : Array Value} (h : Blk w g T cs) : g < w.heap.size := (Array.getElem?_eq_some_iff.1 h).1
theorem put_same {w : World} {i : Nat} {o o' : Obj} (h : w.heap[i]? = some o) : (w.putObj i o').heap[i]? = some o' := World.putObj_heap_same (Array.getElem?_eq_some_iff.1 h).1
theorem put_other {w : World} {i r : Nat} {o o' : Obj} (h : w.heap[i]? = some o) (hne : i ≠ r) : (w.putObj r o').heap[i]? = some o := by rw [World.putObj_heap_other hne]; exact h
set_option maxRecDepth 10000 in
theorem frEnds_any (A : Option Addr) (n c : Nat) (l : List UInt8) (w : World) (hn : n ≤ 140737488355328) (hnc : n ≤ c) (hr : Reads w w.heap.size 1 A n (bv l)) :
    Calls Try.prog 87 #[.slice A n c] w fun e w' => ∃ k, (∀ i, i < k → Frame.okAt l i) ∧ ¬ Frame.okAt l k ∧
      e = .returned (.tuple #[.int .i64 (Frame.place l k), .bool (decide (Frame.place l k = n))]) ∧ Below w.heap.size w w' := by
  have hln : l.length = n := by have := hr.1; rw [bv_length] at this; omega
  refine calls_vw Try.func87 rfl (by kernel_rfl) ?_
  refine VW.seq (VW.vc (by kernel_rfl) ?_)
  ((conv => whnf); (repeat ((first | (refine VL.cons ?_) | (refine VC.region ?_)); (conv => whnf))))
  ((repeat ((fail); (conv => whnf))))
  refine VSem.boxB ?_
  intro w1 g1 hb1 hg1 hl1 hB1
  ((conv => whnf); (repeat ((first | (refine VL.cons ?_) | (refine VL.nil ?_)); (conv => whnf))))
  ((repeat ((fail); (conv => whnf))))
  refine VW.seq (VW.vc (by kernel_rfl) ?_)
  ((conv => whnf); (repeat ((first | (refine VL.cons ?_) | (refine VC.region ?_)); (conv => whnf))))
  ((repeat ((fail); (conv => whnf))))
  refine VSem.allocZ (z := .int .i64 0) (by kernel_rfl) ?_
  intro w2 g4 hb4 hg4 hl4 hB2
  ((conv => whnf); (repeat ((first | (refine VL.cons ?_)); (conv => whnf))))
  ((repeat ((fail); (conv => whnf))))
  refine VUnit.storeB hb4 rfl rfl rfl ?_
  intro w3 hb4' hg3
  have hB3 : Below w1.heap.size w1 w3 := only_new hB2 hg3 (by omega) (by omega)
  have hb1' := hb1.later hB3
  ((conv => whnf); (repeat ((first | (refine VL.nil ?_)); (conv => whnf))))
  ((repeat ((fail); (conv => whnf))))
  refine VW.seq (VW.seq (VW.vc (by kernel_rfl) ?_))
  ((conv => whnf); (repeat ((first | (refine VL.cons ?_) | (refine VC.region ?_)); (conv => whnf))))
  ((repeat ((fail); (conv => whnf))))
  refine VRead.loadB hb1' rfl rfl ?_
  ((conv => whnf); (repeat ((first | (refine VL.cons ?_)); (conv => whnf))))
  ((repeat ((fail); (conv => whnf))))
  refine VCall.of (frAll_any (.slice A n c) ⟨_, _, _, rfl⟩ w3) ?_
  rintro e w4 ⟨gx, rfl, hbx, hgx, hB4⟩
  refine ⟨_, rfl, ?_⟩
  ((conv => whnf); (repeat ((first | (refine VL.nil ?_)); (conv => whnf))))
  ((repeat ((fail); (conv => whnf))))
  have hB14 : Below w.heap.size w w4 := (hB1.trans (hB3.mono hB1.size)).trans (hB4.mono (by have := hB1.size; have := hB3.size; omega))
  refine VW.block (VW.range rfl (by kernel_rfl) ?_)
  intro r w5 hr1 hr2 hr3 hr4 hr5 hA5 hB5 hD5 hL5 hS5
  have hJ0 : EndsJ l (.slice A n c) w r w4.heap.size g1 g4 gx 0 w5 :=
    ⟨(hb1'.later hB4).later hB5, (hb4'.later hB4).later hB5, hbx.later hB5, hD5, hL5, hB14.trans (hB5.mono hB14.size)⟩
  refine VCall.of (all1 _ ⟨gx, 0, none⟩ A n c l (EndsJ l (.slice A n c) w r w4.heap.size g1 g4 gx) (fun _ _ => False) w5 hn hnc hln (.inr ⟨_, rfl⟩) ?_ hJ0) ?_
  · refine ⟨fun k W hJ => ⟨?_, ?_⟩, fun k W W' hJ hb => hJ.later hb, fun k W hk hok hJ B v m hO => ?_⟩
    · rw [hJ.bx.cell 0]; rfl
    · exact (hr.below hJ.since).more hJ.since.size
    refine VYield.of hJ.ll hr1 hA5 (by rw [hr3, hr4, hr5]; kernel_rfl) ?_
    rw [hr3, hr4, hr5]
    have hs1 : g1 < w4.heap.size := by have := blk_lt hb1'; have := hB4.size; omega
    have hs4 : g4 < w4.heap.size := by have := blk_lt hb4'; have := hB4.size; omega
    have hsx : gx < w4.heap.size := blk_lt hbx
    have hs43 : g4 < w3.heap.size := blk_lt hb4'
    have hp := Frame.place_ok hok
    have hsW : w4.heap.size + 1 < W.heap.size := (Array.getElem?_eq_some_iff.1 hJ.ll).1
    ((conv => whnf); (repeat ((first | (refine VL.cons ?_) | (refine VL.nil ?_) | (refine VC.region ?_)); (conv => whnf))))
    refine ⟨r, hJ.ll, hr1, ?_⟩
    obtain ⟨W2, hW2⟩ : ∃ W2, W2 = W.putObj (w4.heap.size + 1) (.loop { r with state := .busy }) := ⟨_, rfl⟩
    rw [← hW2]
    have k1 : Blk W2 g1 31 #[.slice A n c] := by rw [hW2]; exact hJ.b1.putObj (by omega) _
    have k4 : Blk W2 g4 3 #[.int .i64 (Frame.place l k)] := by rw [hW2]; exact hJ.b4.putObj (by omega) _
    have kx : Blk W2 gx 31 #[.slice A n c] := by rw [hW2]; exact hJ.bx.putObj (by omega) _
    have kd : W2.heap[w4.heap.size]? = some (.deferred (some [])) := by rw [hW2]; exact put_other hJ.dd (by omega)
    have kl : W2.heap[w4.heap.size + 1]? = some (.loop { r with state := .busy }) := by rw [hW2]; exact put_same hJ.ll
    have ks : Below w.heap.size w W2 := by rw [hW2]; exact Below.putObj hJ.since (by have := hB14.size; omega) _
    clear hW2
    ((conv => whnf); (repeat ((first | (refine VL.cons ?_) | (refine VC.region ?_) | (refine VC.block ?_)); (conv => whnf))))
    ((repeat ((fail); (conv => whnf))))
    refine VRead.loadB k1 rfl rfl ?_
    ((conv => whnf); (repeat ((first | (refine VL.cons ?_)); (conv => whnf))))
    ((repeat ((fail); (conv => whnf))))
    refine VCall.of (frGet_any A n c l (Frame.place l k) W2 hn hnc (by omega) ((hr.below ks).more ks.size)) ?_
    rintro e W3 ⟨A1, m1, c1, rfl, hO1, hB⟩
    refine ⟨_, rfl, ?_⟩
    have q1 := k1.later hB
    have q4 := k4.later hB
    have qx := kx.later hB
    have qd := obj_later kd hB
    have ql := obj_later kl hB
    have qs := ks.trans (hB.mono ks.size)
    ((conv => whnf); (repeat ((first | (refine VL.cons ?_)); (conv => whnf))))
    ((repeat ((fail); (conv => whnf))))
    refine VUnit.storeB q4 rfl rfl rfl ?_
    intro W4 p4 hg
    ((conv => whnf); (repeat ((first | (refine VL.nil ?_)); (conv => whnf))))
    ((repeat ((fail); (conv => whnf))))
    refine ⟨_, obj_only ql hg (by omega), .inl ⟨rfl, ?_⟩⟩
    have p1 := q1.only hg (by omega)
    have px := qx.only hg (by omega)
    have pd := obj_only qd hg (by omega)
    have pl := obj_only ql hg (by omega)
    have ps : Below w.heap.size w W4 := only_new qs hg (by omega) qs.size
    have er : (Loop.mk .ready none r.fn r.tmps r.params r.assign r.body r.defers) = r := by
      cases r; simp only at hr1 hr2; subst hr1 hr2; rfl
    have hsz := hB14.size
    refine ⟨p1.putObj (by omega) _, p4.putObj (by omega) _, px.putObj (by omega) _, put_other pd (by omega), ?_, Below.putObj ps (by omega) _⟩
    rw [put_same pl]
    exact congrArg (fun x => some (Obj.loop x)) er
  · rintro e W ⟨rfl, k, hk, hh⟩
    obtain ⟨hno, hJ⟩ := hh.resolve_right (fun h => h.2)
    refine ⟨_, rfl, r, hJ.ll, by rw [hr1]; decide, ?_⟩
    rw [hr2]
    have hs1 : g1 < w4.heap.size := by have := blk_lt hb1'; have := hB4.size; omega
    have hs4 : g4 < w4.heap.size := by have := blk_lt hb4'; have := hB4.size; omega
    have hsz := hB14.size
    have hp := Frame.place_le hk
    (conv => whnf)
    obtain ⟨W2, hW2⟩ : ∃ W2, W2 = W.putObj (w4.heap.size + 1) (.loop { r with state := .exhausted, pending := none }) := ⟨_, rfl⟩
    rw [← hW2]
    have k1 : Blk W2 g1 31 #[.slice A n c] := by rw [hW2]; exact hJ.b1.putObj (by omega) _
    have k4 : Blk W2 g4 3 #[.int .i64 (Frame.place l k)] := by rw [hW2]; exact hJ.b4.putObj (by omega) _
    have kd : W2.heap[w4.heap.size]? = some (.deferred (some [])) := by rw [hW2]; exact put_other hJ.dd (by omega)
    have ks : Below w.heap.size w W2 := by rw [hW2]; exact Below.putObj hJ.since (by omega) _
    clear hW2
    have hc1 : ∀ W, World.drewN W2 1 = W → W.cell? ⟨g1, 0, none⟩ = some (.slice A n c) := by rintro W rfl; exact k1.cell 0
    have hc4 : ∀ W, World.drewN W2 1 = W → W.cell? ⟨g4, 0, none⟩ = some (.int .i64 (Frame.place l k)) := by rintro W rfl; exact k4.cell 0
    refine VW.vc (by kernel_rfl) ?_
    ((conv => whnf); (repeat ((fail); (conv => whnf))))
    refine VC.seq ?_
    refine VC.draw ?_
    (refine VDraw.seg (Eq (World.drewN _ 1)) [] [0, 1, 2, 3, 4, 5, 6] (by kernel_rfl) (by kernel_rfl) rfl ?_; (conv => whnf))
    ((conv => whnf); (repeat ((first | (refine VQ.cons ?_) | (refine VG.nil ?_)); (conv => whnf))))
    ((repeat ((first | (refine VC.ret ?_) | (refine VQ.cons ?_) | (refine VQ.nil ?_) | (refine VRead.lenS ?_) | (refine VRead.load (by assumption) ?_)); (conv => whnf))))
    refine ⟨kd, ?_⟩
    exact ⟨k, hk, hno, rfl, Below.putObj (below_drewN ks 1) (by omega) _⟩
end Go.Proofs.Ytebeidnmplnlpaa
end

section
set_option maxRecDepth 10000
namespace Go.Proofs.Ytebeidnmplnlpaa
set_option linter.unusedVariables false
open Go.RowKit

/-! ### small things -/
theorem Off.of_own {w : World} {U : Foot} {B n c : Nat} {A : Option Addr} {l : List UInt8} (h : Own w B (.slice A n c) n l) (hf : Free U (.slice A n c)) : Off U A n := fun h0 => by
  obtain ⟨ad, rfl, _, _⟩ := h.reads.2 h0
  exact ⟨ad, rfl, hf _ rfl⟩
theorem Off.take {U : Foot} {A : Option Addr} {n m : Nat} (h : Off U A n) (hm : m ≤ n) : Off U A m := fun h0 => h (by omega)
theorem Off.cutA {U : Foot} {A : Option Addr} {n c m : Nat} (h : Off U A n) (hm : m ≤ n) : Off U (Go.Proofs.Ytebeidnmplnlpaa.cutA A c m) (n - m) := fun h0 => by
  obtain ⟨ad, rfl, hu⟩ := h (by omega)
  unfold Go.Proofs.Ytebeidnmplnlpaa.cutA
  split
  · exact ⟨ad, rfl, hu⟩
  · refine ⟨_, rfl, ?_⟩
    have : (ad.add m).block = ad.block := by unfold Addr.add; split <;> rfl
    rw [this]; exact hu
theorem pInt_up {B : Nat} (A : Option Addr) (n c : Nat) (l : List UInt8) (v : Int) (w : World) (hB : B ≤ w.heap.size) (hn : n + 10 ≤ 140737488355328) (hnc : n ≤ c) (hv : -9223372036854775808 ≤ v ∧ v ≤ 9223372036854775807) (hrd : Reads w w.heap.size 1 A n (bv l)) :
    Calls Try.prog 49 #[.slice A n c, .int .i64 v] w fun e w' => ∃ A' m c', e = .returned (.slice A' m c') ∧ Own w' B (.slice A' m c') m (l ++ Wire.int v) ∧ m ≤ n + 10 ∧ n + 1 ≤ m ∧ m ≤ c' ∧ Below w.heap.size w w' := by
  refine (putInt_any A n c l v w hn hnc hv hrd).mono ?_
  rintro e w' ⟨A', m, c', rfl, h1, h2⟩
  have hl := h1.len
  have h3 := Wire.int_len v
  have h4 : l.length = n := by have := hrd.1; rw [bv_length] at this; omega
  rw [List.length_append] at hl
  exact ⟨A', m, c', rfl, rows_more h1 hB, by omega, by omega, h1.cap, h2⟩
def isPre (pre s : List UInt8) : Bool := decide (s.take pre.length = pre)
theorem hasPrefix_any (s pre : List UInt8) (w : World) (hs : s.length ≤ 9223372036854775807) (hp : pre.length ≤ 9223372036854775807) :
    Calls Try.prog 53 #[.string (txt s), .string (txt pre)] w fun e w' => e = .returned (.bool (isPre pre s)) ∧ w' = w := by
  have z1 : ByteArray.size (txt pre) = pre.length := txt_size _
  have z2 : ByteArray.size (txt s) = s.length := txt_size _
  have inner : Calls Try.prog 86 #[.string (txt s), .string (txt pre)] w fun e w' => e = .returned (.bool (isPre pre s)) ∧ w' = w := by
    refine calls_vc Try.func86 rfl (by kernel_rfl) ?_
    by_cases hl : pre.length ≤ s.length
    · ((conv => whnf); (repeat ((first | (refine VL.cons ?_) | (refine VL.nil ?_) | (refine VC.seqS rfl ?_) | (refine VC.region ?_)); (conv => whnf))))
      ((repeat ((first | (refine VL.cons ?_) | (refine VBool.t ?_) | (refine VBool.dT (by omega) ?_) | (refine VRead.lenT ?_)); (conv => whnf))))
      refine VRead.txtH pre.length (by omega) hl ?_
      ((conv => whnf); (repeat ((first | (refine VL.cons ?_)); (conv => whnf))))
      ((repeat ((first | (refine VL.cons ?_) | (refine VL.nil ?_) | (refine VC.ret ?_) | (refine VBool.t ?_)); (conv => whnf))))
      refine ⟨?_, rfl⟩
      show Ending.returned (.bool (decide (txt (s.take pre.length) = txt pre))) = _
      rw [txt_dec]
      rfl
    · have e : isPre pre s = false := by
        unfold isPre
        rw [decide_eq_false]
        intro h
        have := congrArg List.length h
        rw [List.length_take] at this
        omega
      rw [e]
      ((conv => whnf); (repeat ((first | (refine VL.cons ?_) | (refine VL.nil ?_) | (refine VC.seqS rfl ?_) | (refine VC.region ?_)); (conv => whnf))))
      ((repeat ((first | (refine VL.cons ?_) | (refine VL.nil ?_) | (refine VC.ret ?_) | (refine VBool.f ?_) | (refine VBool.dF (by omega) ?_) | (refine VRead.lenT ?_)); (conv => whnf))))
      exact ⟨rfl, rfl⟩
  refine calls_vc Try.func53 rfl (by kernel_rfl) ?_
  ((conv => whnf); (repeat ((first | (refine VL.cons ?_) | (refine VL.nil ?_) | (refine VC.seqS rfl ?_) | (refine VC.region ?_)); (conv => whnf))))
  ((repeat ((fail); (conv => whnf))))
  refine VCall.of inner ?_
  rintro e w' ⟨rfl, rfl⟩
  refine ⟨_, rfl, ?_⟩
  ((conv => whnf); (repeat ((first | (refine VL.cons ?_) | (refine VL.nil ?_) | (refine VC.ret ?_)); (conv => whnf))))
  ((repeat ((fail); (conv => whnf))))
  exact ⟨rfl, rfl⟩

/-! ### plain -/
def frN : List UInt8 := [115, 110, 97, 112, 45, 116, 109, 112]
def chunksN : Nat → List UInt8 → List (List UInt8)
  | 0, _ => []
  | n + 1, l => if l = [] then [] else l.take 1000 :: chunksN n (l.drop 1000)
theorem chunksN_fuel : ∀ (n m : Nat) (l : List UInt8), l.length ≤ n → l.length ≤ m → chunksN n l = chunksN m l
  | 0, 0, _, _, _ => rfl
  | 0, m + 1, l, h, _ => by
    obtain rfl : l = [] := List.eq_nil_of_length_eq_zero (by omega)
    simp [chunksN]
  | n + 1, 0, l, _, h => by
    obtain rfl : l = [] := List.eq_nil_of_length_eq_zero (by omega)
    simp [chunksN]
  | n + 1, m + 1, l, h1, h2 => by
    unfold chunksN
    by_cases h : l = []
    · rw [if_pos h, if_pos h]
    · have : 0 < l.length := List.length_pos_iff.2 h
      rw [if_neg h, if_neg h, chunksN_fuel n m (l.drop 1000) (by rw [List.length_drop]; omega) (by rw [List.length_drop]; omega)]
def chunks (l : List UInt8) : List (List UInt8) := chunksN l.length l
theorem chunks_nil : chunks [] = [] := rfl
theorem chunks_cons {l : List UInt8} (h : l ≠ []) : chunks l = l.take 1000 :: chunks (l.drop 1000) := by
  have h0 : 0 < l.length := List.length_pos_iff.2 h
  unfold chunks
  rw [chunksN_fuel l.length (l.length + 1) l (Nat.le_refl _) (by omega)]
  show (if l = [] then [] else l.take 1000 :: chunksN l.length (l.drop 1000)) = _
  rw [if_neg h, chunksN_fuel l.length (l.drop 1000).length (l.drop 1000) (by rw [List.length_drop]; omega) (Nat.le_refl _)]
theorem chunks_count : ∀ (n : Nat) (l : List UInt8), l.length ≤ 1000 * n → (chunks l).length ≤ n
  | 0, l, h => by
    obtain rfl : l = [] := List.eq_nil_of_length_eq_zero (by omega)
    simp [chunks_nil]
  | n + 1, l, h => by
    by_cases hl : l = []
    · subst hl; simp [chunks_nil]
    · rw [chunks_cons hl, List.length_cons]
      have := chunks_count n (l.drop 1000) (by rw [List.length_drop]; omega)
      omega
def hdB (i t : Int) (n : Nat) : List UInt8 := Wire.int i ++ Wire.int t ++ Wire.int (n : Int)
/-- one thing after another, till one fails -/
def andT (A : Int × DS) (f : DS → Int × DS) : Int × DS := if A.1 = 0 then f A.2 else A
def DS.appends (S : DS) (nm : List UInt8) : List (List UInt8) → Int × DS
  | [] => (0, S)
  | b :: r => andT (S.append nm (Frame.put b)) fun S' => DS.appends S' nm r
def DS.clear (S : DS) (pre nm : List UInt8) : List (List UInt8) → Int × DS
  | [] => (0, S)
  | x :: r => if isPre pre x = true ∧ x ≠ nm then andT (S.remove x) fun S' => DS.clear S' pre nm r else DS.clear S pre nm r
def DS.keys (S : DS) : List (List UInt8) := S.t.map (·.1)
def svBad (i t : Int) (n : Nat) : Prop := snName i = [] ∨ t < 1 ∨ 1099511627776 < t ∨ n < 1 ∨ 1048576 < n
instance (i t : Int) (n : Nat) : Decidable (svBad i t n) := by unfold svBad; infer_instance
def DS.save (S : DS) (i t : Int) (data : List UInt8) : Int × DS :=
  if svBad i t data.length then (1, S) else
  andT (S.create frN) fun S1 => andT (S1.appends frN (hdB i t data.length :: chunks data)) fun S2 => andT (S2.sync frN) fun S3 =>
    andT (S3.rename frN (snName i)) fun S4 => S4.clear snPre (snName i) S4.keys
theorem andT_ok {A : Int × DS} {f : DS → Int × DS} (h : A.1 = 0) : andT A f = f A.2 := by unfold andT; rw [if_pos h]
theorem andT_no {A : Int × DS} {f : DS → Int × DS} (h : ¬ A.1 = 0) : andT A f = A := by unfold andT; rw [if_neg h]
theorem appends_calls (nm : List UInt8) : ∀ (l : List (List UInt8)) (S : DS), (S.appends nm l).2.k.calls ≤ S.k.calls + l.length
  | [], S => by simp [DS.appends]
  | b :: r, S => by
    unfold DS.appends
    by_cases h : (S.append nm (Frame.put b)).1 = 0
    · rw [andT_ok h]
      have h1 := appends_calls nm r (S.append nm (Frame.put b)).2
      have h2 : (S.append nm (Frame.put b)).2.k.calls = S.k.calls + 1 := DS.append_calls
      rw [List.length_cons]
      omega
    · rw [andT_no h]
      have h2 : (S.append nm (Frame.put b)).2.k.calls = S.k.calls + 1 := DS.append_calls
      rw [List.length_cons]
      omega
theorem clear_calls (pre nm : List UInt8) : ∀ (l : List (List UInt8)) (S : DS), (S.clear pre nm l).2.k.calls ≤ S.k.calls + l.length
  | [], S => by simp [DS.clear]
  | x :: r, S => by
    unfold DS.clear
    rw [List.length_cons]
    split
    · have h2 : (S.remove x).2.k.calls = S.k.calls + 1 := DS.remove_calls
      by_cases h : (S.remove x).1 = 0
      · rw [andT_ok h]
        have h1 := clear_calls pre nm r (S.remove x).2
        omega
      · rw [andT_no h]
        omega
    · have h1 := clear_calls pre nm r S
      omega
end Go.Proofs.Ytebeidnmplnlpaa
end

section
set_option maxRecDepth 10000
namespace Go.Proofs.Ytebeidnmplnlpaa
set_option linter.unusedVariables false
open Go.RowKit

theorem snName_ok {i : Int} (h : ¬ snName i = []) : (snName i).length = 18 ∧ 1 ≤ i ∧ i ≤ 1099511627776 := by
  by_cases hh : i < 1 ∨ 1099511627776 < i
  · exact absurd (by unfold snName; rw [if_pos hh]) h
  · obtain ⟨n, rfl⟩ : ∃ n : Nat, i = (n : Int) := ⟨i.toNat, by omega⟩
    exact ⟨snName_len (by omega) (by omega), by omega, by omega⟩
set_option maxHeartbeats 4000000 in
theorem snapSave_any (W : World) (U : Foot) (d : Nat) (S : DS) (i t : Int) (n c : Nat) (A : Option Addr) (data : List UInt8) (h : Dsk W U d S) (hr : Reads W W.heap.size 1 A n (bv data)) (ho : Off U A n) (hnc : n ≤ c) (hn : n ≤ 140737488351232)
    (hi : -9223372036854775808 ≤ i ∧ i ≤ 9223372036854775807) (ht : -9223372036854775808 ≤ t ∧ t ≤ 9223372036854775807) (hc : S.k.calls + 2000 < 1000000) :
    Calls Try.prog 20 #[.pointer (some ⟨d, 0, none⟩), .int .i64 i, .int .i64 t, .slice A n c] W fun e W' => e = .returned (.int .i64 (S.save i t data).1) ∧ ∃ U', Dsk W' U' d (S.save i t data).2 ∧ Step W U W' U' := by
  have hlen : data.length = n := by have := hr.1; rw [bv_length] at this; omega
  refine calls_vc Try.func20 rfl (by kernel_rfl) ?_
  ((conv => whnf); (repeat ((first | (refine VL.cons ?_) | (refine VL.nil ?_) | (refine VC.seqS rfl ?_) | (refine VC.region ?_) | (refine VC.scope ?_)); (conv => whnf))))
  ((repeat ((fail); (conv => whnf))))
  refine VCall.of (snapName_any i W hi) ?_
  rintro e W1 ⟨rfl, hB1⟩
  refine ⟨_, rfl, ?_⟩
  have hd1 := h.below hB1
  have bad : svBad i t n → S.save i t data = (1, S) := fun hb => by unfold DS.save; rw [if_pos (by rw [hlen]; exact hb)]
  by_cases b1 : snName i = []
  · have b1' : txt (snName i) = txt [] := by rw [b1]
    rw [bad (.inl b1)]
    ((conv => whnf); (repeat ((first | (refine VL.cons ?_) | (refine VL.nil ?_)); (conv => whnf))))
    (repeat (first | ((first | (refine VL.cons ?_) | (refine VL.nil ?_) | (refine VC.seqS rfl ?_) | (refine VC.region ?_) | (refine VC.cond ?_) | (refine VC.ret ?_) | (refine VBool.t ?_) | (refine VC.seq ?_)); (conv => whnf)) | (refine VBool.dT b1' ?_; (conv => whnf))))
    exact ⟨rfl, U, hd1, Step.new hB1⟩
  have b1' : ¬ txt (snName i) = txt [] := fun e => b1 (txt_inj.1 e)
  by_cases b2 : t < 1
  · rw [bad (.inr (.inl b2))]
    ((conv => whnf); (repeat ((first | (refine VL.cons ?_) | (refine VL.nil ?_)); (conv => whnf))))
    (repeat (first | ((first | (refine VL.cons ?_) | (refine VL.nil ?_) | (refine VC.seqS rfl ?_) | (refine VC.region ?_) | (refine VC.cond ?_) | (refine VC.ret ?_) | (refine VBool.t ?_) | (refine VBool.f ?_) | (refine VBool.dT (by omega) ?_) | (refine VC.seq ?_)); (conv => whnf)) | (refine VBool.dF b1' ?_; (conv => whnf))))
    exact ⟨rfl, U, hd1, Step.new hB1⟩
  by_cases b3 : 1099511627776 < t
  · rw [bad (.inr (.inr (.inl b3)))]
    ((conv => whnf); (repeat ((first | (refine VL.cons ?_) | (refine VL.nil ?_)); (conv => whnf))))
    (repeat (first | ((first | (refine VL.cons ?_) | (refine VL.nil ?_) | (refine VC.seqS rfl ?_) | (refine VC.region ?_) | (refine VC.cond ?_) | (refine VC.ret ?_) | (refine VBool.t ?_) | (refine VBool.f ?_) | (refine VBool.dT (by omega) ?_) | (refine VBool.dF (by omega) ?_) | (refine VC.seq ?_)); (conv => whnf)) | (refine VBool.dF b1' ?_; (conv => whnf))))
    exact ⟨rfl, U, hd1, Step.new hB1⟩
  by_cases b4 : n < 1
  · rw [bad (.inr (.inr (.inr (.inl b4))))]
    ((conv => whnf); (repeat ((first | (refine VL.cons ?_) | (refine VL.nil ?_)); (conv => whnf))))
    (repeat (first | ((first | (refine VL.cons ?_) | (refine VL.nil ?_) | (refine VC.seqS rfl ?_) | (refine VC.region ?_) | (refine VC.cond ?_) | (refine VC.ret ?_) | (refine VBool.t ?_) | (refine VBool.f ?_) | (refine VBool.dT (by omega) ?_) | (refine VBool.dF (by omega) ?_) | (refine VRead.lenS ?_) | (refine VC.seq ?_)); (conv => whnf)) | (refine VBool.dF b1' ?_; (conv => whnf))))
    exact ⟨rfl, U, hd1, Step.new hB1⟩
  by_cases b5 : 1048576 < n
  · rw [bad (.inr (.inr (.inr (.inr b5))))]
    ((conv => whnf); (repeat ((first | (refine VL.cons ?_) | (refine VL.nil ?_)); (conv => whnf))))
    (repeat (first | ((first | (refine VL.cons ?_) | (refine VL.nil ?_) | (refine VC.seqS rfl ?_) | (refine VC.region ?_) | (refine VC.cond ?_) | (refine VC.ret ?_) | (refine VBool.f ?_) | (refine VBool.dT (by omega) ?_) | (refine VBool.dF (by omega) ?_) | (refine VRead.lenS ?_) | (refine VC.seq ?_)); (conv => whnf)) | (refine VBool.dF b1' ?_; (conv => whnf))))
    exact ⟨rfl, U, hd1, Step.new hB1⟩
  clear bad
  obtain ⟨hl18, hi1, hi2⟩ := snName_ok b1
  have e0 : S.save i t data = andT (S.create frN) fun S1 => andT (S1.appends frN (hdB i t n :: chunks data)) fun S2 => andT (S2.sync frN) fun S3 => andT (S3.rename frN (snName i)) fun S4 => S4.clear snPre (snName i) S4.keys := by
    unfold DS.save
    rw [if_neg (by
      rw [hlen]
      rintro (hb | hb | hb | hb | hb)
      · exact b1 hb
      · exact b2 hb
      · exact b3 hb
      · exact b4 hb
      · exact b5 hb), hlen]
  ((conv => whnf); (repeat ((first | (refine VL.cons ?_) | (refine VL.nil ?_)); (conv => whnf))))
  (repeat (first | ((first | (refine VL.cons ?_) | (refine VL.nil ?_) | (refine VC.seqS rfl ?_) | (refine VC.region ?_) | (refine VC.cond ?_) | (refine VC.skip ?_) | (refine VBool.f ?_) | (refine VBool.dF (by omega) ?_) | (refine VRead.lenS ?_) | (refine VC.seq ?_)); (conv => whnf)) | (refine VBool.dF b1' ?_; (conv => whnf))))
  refine VCall.of (oCreate W1 U d S frN hd1 (by omega) (by decide)) ?_
  rintro e W2 ⟨rfl, U2, hd2, st2⟩
  refine ⟨_, rfl, ?_⟩
  have st02 : Step W U W2 U2 := (Step.new hB1).trans st2
  by_cases c1 : (S.create frN).1 = 0
  case neg =>
    rw [andT_no c1] at e0
    rw [e0]
    ((conv => whnf); (repeat ((first | (refine VL.cons ?_) | (refine VL.nil ?_) | (refine VC.seqS rfl ?_) | (refine VC.region ?_) | (refine VC.cond ?_)); (conv => whnf))))
    (repeat (first | ((first | (refine VL.cons ?_) | (refine VL.nil ?_) | (refine VC.seqS rfl ?_) | (refine VC.region ?_) | (refine VC.ret ?_) | (refine VBool.nF (by omega) ?_)); (conv => whnf)) | (refine VBool.nF c1 ?_; (conv => whnf))))
    exact ⟨rfl, U2, hd2, st02⟩
  rw [andT_ok c1] at e0
  have hcl1 : (S.create frN).2.k.calls = S.k.calls + 1 := DS.create_calls S frN
  obtain ⟨S1, hS1⟩ : ∃ X, (S.create frN).2 = X := ⟨_, rfl⟩
  rw [hS1] at e0 hd2 hcl1
  ((conv => whnf); (repeat ((first | (refine VL.cons ?_) | (refine VL.nil ?_) | (refine VC.seqS rfl ?_) | (refine VC.region ?_) | (refine VC.cond ?_)); (conv => whnf))))
  (repeat (first | ((first | (refine VL.cons ?_) | (refine VC.seqS rfl ?_) | (refine VC.region ?_) | (refine VC.skip ?_) | (refine VBool.nT (by omega) ?_)); (conv => whnf)) | (refine VBool.nT c1 ?_; (conv => whnf))))
  refine VCall.of (pInt_up (B := W2.heap.size) none 0 0 [] i W2 (Nat.le_refl _) (by omega) (Nat.le_refl _) hi (Own.nil _ 0).reads) ?_
  rintro e W3 ⟨A3, n3, c3, rfl, hO3, hn3, hm3, hc3, hB3⟩
  refine ⟨_, rfl, ?_⟩
  ((conv => whnf); (repeat ((first | (refine VL.cons ?_)); (conv => whnf))))
  ((repeat ((fail); (conv => whnf))))
  refine VCall.of (pInt_up (B := W2.heap.size) A3 n3 c3 _ t W3 hB3.size (by omega) hc3 ht hO3.reads) ?_
  rintro e W4 ⟨A4, n4, c4, rfl, hO4, hn4, hm4, hc4, hB4⟩
  refine ⟨_, rfl, ?_⟩
  ((conv => whnf); (repeat ((first | (refine VL.cons ?_)); (conv => whnf))))
  ((repeat ((first | (refine VL.cons ?_) | (refine VRead.lenS ?_)); (conv => whnf))))
  refine VCall.of (pInt_up (B := W2.heap.size) A4 n4 c4 _ (n : Int) W4 (Nat.le_trans hB3.size hB4.size) (by omega) hc4 (by omega) hO4.reads) ?_
  rintro e W5 ⟨A5, n5, c5, rfl, hO5, hn5, hm5, hc5, hB5⟩
  refine ⟨_, rfl, ?_⟩
  have hB25 : Below W2.heap.size W2 W5 := (hB3.trans (hB4.mono hB3.size)).trans (hB5.mono (Nat.le_trans hB3.size hB4.size))
  have hd5 := hd2.below hB25
  have st5 : Step W U W5 U2 := st02.trans (Step.new hB25)
  have hf5 : Free U2 (.slice A5 n5 c5) := Free.new hO5 hd2.lt
  obtain ⟨hr5, ho5⟩ := st5.off hr (Nat.le_refl _) ho
  replace hO5 : Own W5 W2.heap.size (.slice A5 n5 c5) n5 (hdB i t n) := by unfold hdB; simpa only [List.nil_append] using hO5
  have hcount : (chunks data).length ≤ 1049 := chunks_count 1049 data (by omega)
  ((conv => whnf); (repeat ((first | (refine VL.cons ?_) | (refine VL.nil ?_) | (refine VC.seqS rfl ?_) | (refine VC.label ?_)); (conv => whnf))))
  ((repeat ((first | (refine VC.block ?_) | (refine VC.seq ?_)); (conv => whnf))))
  refine VC.loop [3, 11] [(3, 3), (8, 8), (11, 14), (54, 76)] (fun q vs w => ∃ (U' : Foot) (S' : DS) (next rest : List UInt8) (An : Option Addr) (nn cn : Nat) (Ar : Option Addr) (nr cr : Nat), vs = [.slice Ar nr cr, .slice An nn cn] ∧ q = nr ∧ Dsk w U' d S' ∧ Step W U w U' ∧
      Reads w w.heap.size 1 An nn (bv next) ∧ Off U' An nn ∧ 1 ≤ nn ∧ nn ≤ 1000 ∧ nn ≤ cn ∧ Reads w w.heap.size 1 Ar nr (bv rest) ∧ Off U' Ar nr ∧ nr ≤ cr ∧ nr ≤ n ∧ S'.k.calls + (chunks rest).length ≤ S.k.calls + 1050 ∧
      S.save i t data = andT (S'.appends frN (next :: chunks rest)) fun S2 => andT (S2.sync frN) fun S3 => andT (S3.rename frN (snName i)) fun S4 => S4.clear snPre (snName i) S4.keys) (by kernel_rfl)
    ⟨_, U2, S1, hdB i t n, data, A5, n5, c5, A, n, c, rfl, rfl, hd5, st5, hO5.reads, Off.of_own hO5 hf5, by omega, by omega, hc5, hr5.more st5.size, ho5, hnc, Nat.le_refl _, by omega, e0⟩ ?_
  clear e0 hd5 hd2 hd1 hO3 hO4 hO5 hr5 ho5 st2 st02 st5 hB3 hB4 hB5 hB25 hf5 hB1 hcl1 c1 hS1
  rintro q τ vs w ⟨U', S', next, rest, An, nn, cn, Ar, nr, cr, rfl, rfl, hd, st, hRn, hOn, hn1, hn2, hncn, hRr, hOr, hcr, hrn, hcl, e0⟩
  have hrl : rest.length = q := by have := hRr.1; rw [bv_length] at this; omega
  have hnl : next.length = nn := by have := hRn.1; rw [bv_length] at this; omega
  ((conv => whnf); (repeat ((first | (refine VL.cons ?_) | (refine VC.seqS rfl ?_) | (refine VC.region ?_) | (refine VC.block ?_)); (conv => whnf))))
  ((repeat ((fail); (conv => whnf))))
  refine VCall.of (frPut_yes none 0 0 [] An nn cn next w hn1 (by omega) (by omega) (Nat.le_refl _) (Own.nil _ 0).reads hRn) ?_
  rintro e w1 ⟨Af, mf, cf, rfl, hOf, hBf⟩
  refine ⟨_, rfl, ?_⟩
  rw [List.nil_append] at hOf
  have hmf : mf ≤ 2000 := by
    have h1 := hOf.len
    rw [Frame.put_len] at h1
    have := (Wire.int_len (next.length : Int)).2
    omega
  ((conv => whnf); (repeat ((first | (refine VL.cons ?_) | (refine VL.nil ?_)); (conv => whnf))))
  ((repeat ((first | (refine VL.cons ?_) | (refine VC.seqS rfl ?_) | (refine VC.region ?_) | (refine VC.seq ?_)); (conv => whnf))))
  refine VCall.of (oAppend w1 U' d S' frN mf cf Af (Frame.put next) (hd.below hBf) (by omega) (by decide) (Src.of_own hOf) (by omega) hOf.cap) ?_
  rintro e w2 ⟨rfl, U2, hd2, st2⟩
  refine ⟨_, rfl, ?_⟩
  have st12 : Step w U' w2 U2 := (Step.new hBf).trans st2
  have st02 : Step W U w2 U2 := st.trans st12
  by_cases ca : (S'.append frN (Frame.put next)).1 = 0
  case neg =>
    have e1 : S.save i t data = S'.append frN (Frame.put next) := by
      rw [e0]
      unfold DS.appends
      rw [andT_no ca, andT_no ca]
    rw [e1]
    ((conv => whnf); (repeat ((first | (refine VL.cons ?_) | (refine VL.nil ?_) | (refine VC.seqS rfl ?_) | (refine VC.region ?_) | (refine VC.cond ?_)); (conv => whnf))))
    (repeat (first | ((first | (refine VL.cons ?_) | (refine VL.nil ?_) | (refine VC.seqS rfl ?_) | (refine VC.region ?_) | (refine VC.ret ?_) | (refine VBool.nF (by omega) ?_)); (conv => whnf)) | (refine VBool.nF ca ?_; (conv => whnf))))
    exact ⟨rfl, U2, hd2, st02⟩
  have hcl2 : (S'.append frN (Frame.put next)).2.k.calls = S'.k.calls + 1 := DS.append_calls
  by_cases hz : q = 0
  case neg =>
    have hne : rest ≠ [] := fun e => hz (by rw [e] at hrl; simpa using hrl.symm)
    obtain ⟨hRr2, hOr2⟩ := st12.off hRr (Nat.le_refl _) hOr
    have e1 : S.save i t data = andT ((S'.append frN (Frame.put next)).2.appends frN (rest.take 1000 :: chunks (rest.drop 1000))) fun S2 => andT (S2.sync frN) fun S3 => andT (S3.rename frN (snName i)) fun S4 => S4.clear snPre (snName i) S4.keys := by
      rw [e0, ← chunks_cons hne]
      conv => lhs; unfold DS.appends
      rw [andT_ok ca]
    have hcc : (chunks rest).length = (chunks (rest.drop 1000)).length + 1 := by rw [chunks_cons hne]; rfl
    obtain ⟨m, hm⟩ : ∃ m, m = min 1000 q := ⟨_, rfl⟩
    have hmq : m ≤ q := by omega
    have t1 : rest.take 1000 = rest.take m := by
      by_cases hq : 1000 ≤ q
      · rw [show m = 1000 from by omega]
      · rw [List.take_of_length_le (by omega), List.take_of_length_le (by omega)]
    have t2 : rest.drop 1000 = rest.drop m := by
      by_cases hq : 1000 ≤ q
      · rw [show m = 1000 from by omega]
      · rw [List.drop_of_length_le (by omega), List.drop_of_length_le (by omega)]
    rw [t1, t2] at e1
    rw [t2] at hcc
    ((conv => whnf); (repeat ((first | (refine VL.cons ?_) | (refine VL.nil ?_) | (refine VC.seqS rfl ?_) | (refine VC.region ?_) | (refine VC.cond ?_)); (conv => whnf))))
    (repeat (first | ((first | (refine VL.cons ?_) | (refine VL.nil ?_) | (refine VC.seqS rfl ?_) | (refine VC.region ?_) | (refine VC.cond ?_) | (refine VC.skip ?_) | (refine VBool.dF (by omega) ?_) | (refine VBool.nT (by omega) ?_) | (refine VRead.lenS ?_) | (refine VC.seq ?_)); (conv => whnf)) | (refine VBool.nT ca ?_; (conv => whnf)) | (refine VRead.minZ (z := (m : Int)) (by split <;> omega) ?_; (conv => whnf))))
    refine VRead.cutH (by omega) (by omega) ?_
    rw [Int.toNat_natCast]
    ((conv => whnf); (repeat ((first | (refine VL.cons ?_) | (refine VL.nil ?_) | (refine VC.region ?_)); (conv => whnf))))
    ((repeat ((first | (refine VL.cons ?_) | (refine VRead.lenS ?_)); (conv => whnf))))
    refine VRead.cutL (by omega) (by omega) ?_
    rw [Int.toNat_natCast]
    ((conv => whnf); (repeat ((first | (refine VL.cons ?_) | (refine VL.nil ?_)); (conv => whnf))))
    ((repeat ((fail); (conv => whnf))))
    exact ⟨_, by omega, U2, _, rest.take m, rest.drop m, Ar, m, cr, cutA Ar cr m, q - m, cr - m, rfl, rfl, hd2, st02, (hRr2.take hmq).more st12.size, hOr2.take hmq, by omega, by omega, by omega, (hRr2.cutA hmq hcr).more st12.size, hOr2.cutA hmq, by omega, by omega, by omega, e1⟩
  subst hz
  have hre : rest = [] := List.eq_nil_of_length_eq_zero hrl
  subst hre
  have e1 : S.save i t data = andT ((S'.append frN (Frame.put next)).2.sync frN) fun S3 => andT (S3.rename frN (snName i)) fun S4 => S4.clear snPre (snName i) S4.keys := by
    rw [e0, chunks_nil]
    unfold DS.appends
    rw [andT_ok ca]
    unfold DS.appends
    rw [andT_ok rfl]
  clear e0
  obtain ⟨X, hX⟩ : ∃ X, (S'.append frN (Frame.put next)).2 = X := ⟨_, rfl⟩
  rw [hX] at e1 hd2 hcl2
  ((conv => whnf); (repeat ((first | (refine VL.cons ?_) | (refine VL.nil ?_) | (refine VC.seqS rfl ?_) | (refine VC.region ?_) | (refine VC.cond ?_)); (conv => whnf))))
  (repeat (first | ((first | (refine VL.cons ?_) | (refine VL.nil ?_) | (refine VC.seqS rfl ?_) | (refine VC.region ?_) | (refine VC.cond ?_) | (refine VC.exit ?_) | (refine VC.skip ?_) | (refine VBool.t ?_) | (refine VBool.nT (by omega) ?_) | (refine VRead.lenS ?_) | (refine VC.seq ?_)); (conv => whnf)) | (refine VBool.nT ca ?_; (conv => whnf))))
  refine VCall.of (oSync w2 U2 d X frN hd2 (by omega) (by decide)) ?_
  rintro e w3 ⟨rfl, U3, hd3, st3⟩
  refine ⟨_, rfl, ?_⟩
  have st03 := st02.trans st3
  by_cases c2 : (X.sync frN).1 = 0
  case neg =>
    rw [andT_no c2] at e1
    rw [e1]
    ((conv => whnf); (repeat ((first | (refine VL.cons ?_) | (refine VL.nil ?_) | (refine VC.seqS rfl ?_) | (refine VC.region ?_) | (refine VC.cond ?_)); (conv => whnf))))
    (repeat (first | ((first | (refine VL.cons ?_) | (refine VL.nil ?_) | (refine VC.seqS rfl ?_) | (refine VC.region ?_) | (refine VC.ret ?_) | (refine VBool.nF (by omega) ?_)); (conv => whnf)) | (refine VBool.nF c2 ?_; (conv => whnf))))
    exact ⟨rfl, U3, hd3, st03⟩
  rw [andT_ok c2] at e1
  have hcl3 : (X.sync frN).2.k.calls = X.k.calls + 1 := DS.sync_calls
  obtain ⟨Y, hY⟩ : ∃ Y, (X.sync frN).2 = Y := ⟨_, rfl⟩
  rw [hY] at e1 hd3 hcl3
  ((conv => whnf); (repeat ((first | (refine VL.cons ?_) | (refine VL.nil ?_) | (refine VC.seqS rfl ?_) | (refine VC.region ?_) | (refine VC.cond ?_)); (conv => whnf))))
  (repeat (first | ((first | (refine VL.cons ?_) | (refine VC.seqS rfl ?_) | (refine VC.region ?_) | (refine VC.skip ?_) | (refine VBool.nT (by omega) ?_) | (refine VC.seq ?_)); (conv => whnf)) | (refine VBool.nT c2 ?_; (conv => whnf))))
  refine VCall.of (oRename w3 U3 d Y frN (snName i) hd3 (by omega) (by decide) (by omega)) ?_
  rintro e w4 ⟨rfl, U4, hd4, st4⟩
  refine ⟨_, rfl, ?_⟩
  have st04 := st03.trans st4
  by_cases c3 : (Y.rename frN (snName i)).1 = 0
  case neg =>
    rw [andT_no c3] at e1
    rw [e1]
    ((conv => whnf); (repeat ((first | (refine VL.cons ?_) | (refine VL.nil ?_) | (refine VC.seqS rfl ?_) | (refine VC.region ?_) | (refine VC.cond ?_)); (conv => whnf))))
    (repeat (first | ((first | (refine VL.cons ?_) | (refine VL.nil ?_) | (refine VC.seqS rfl ?_) | (refine VC.region ?_) | (refine VC.ret ?_) | (refine VBool.nF (by omega) ?_)); (conv => whnf)) | (refine VBool.nF c3 ?_; (conv => whnf))))
    exact ⟨rfl, U4, hd4, st04⟩
  rw [andT_ok c3] at e1
  have hcl4 : (Y.rename frN (snName i)).2.k.calls = Y.k.calls + 1 := DS.rename_calls
  obtain ⟨Z, hZ⟩ : ∃ Z, (Y.rename frN (snName i)).2 = Z := ⟨_, rfl⟩
  rw [hZ] at e1 hd4 hcl4
  ((conv => whnf); (repeat ((first | (refine VL.cons ?_) | (refine VL.nil ?_) | (refine VC.seqS rfl ?_) | (refine VC.region ?_) | (refine VC.cond ?_)); (conv => whnf))))
  (repeat (first | ((first | (refine VL.cons ?_) | (refine VC.seqS rfl ?_) | (refine VC.region ?_) | (refine VC.skip ?_) | (refine VBool.nT (by omega) ?_) | (refine VC.seq ?_)); (conv => whnf)) | (refine VBool.nT c3 ?_; (conv => whnf))))
  refine VCall.of (oList w4 U4 d Z hd4) ?_
  rintro e w5 ⟨Al, kl, rfl, hOl, hB5⟩
  refine ⟨_, rfl, ?_⟩
  have hfew := hd4.wf.t.few
  have hnm : ∀ s ∈ Z.keys, s.length ≤ 32 := fun s hs => by
    obtain ⟨p, hp, rfl⟩ := List.mem_map.1 hs
    exact (hd4.wf.t.names p hp).2
  have hkl : Z.keys.length = Z.t.length := by unfold DS.keys; simp
  have hfr : Free U4 (.slice Al Z.t.length kl) := Free.new hOl hd4.lt
  obtain ⟨keys, hkeys⟩ : ∃ keys, Z.keys = keys := ⟨_, rfl⟩
  replace hOl : w5.ownsRow w4.heap.size 9 1 (.slice Al Z.t.length kl) Z.t.length (keys.map encStr) := by rw [← hkeys]; exact hOl
  rw [hkeys] at e1 hnm hkl
  ((conv => whnf); (repeat ((first | (refine VL.cons ?_)); (conv => whnf))))
  ((repeat ((first | (refine VL.cons ?_) | (refine VL.nil ?_) | (refine VC.block ?_) | (refine VRead.lenS ?_)); (conv => whnf))))
  refine VC.loop [91] [(8, 8), (18, 19), (91, 108)] (fun q vs w => ∃ (j : Nat) (U' : Foot) (S' : DS), vs = [.int .i64 (j : Int)] ∧ q = Z.t.length - j ∧ j ≤ Z.t.length ∧ Dsk w U' d S' ∧ Step W U w U' ∧ w.ownsRow w4.heap.size 9 1 (.slice Al Z.t.length kl) Z.t.length (keys.map encStr) ∧ Free U' (.slice Al Z.t.length kl) ∧
      S'.k.calls ≤ Z.k.calls + j ∧ S.save i t data = S'.clear snPre (snName i) (keys.drop j)) (by kernel_rfl)
    ⟨_, 0, U4, Z, rfl, rfl, by omega, hd4.below hB5, st04.trans (Step.new hB5), hOl, hfr, by omega, e1⟩ ?_
  clear e1 hOl hfr hd4 hd3 hd2 st2 st12 st02 st3 st03 st4 st04 hB5 hd st hRn hOn hRr hOr hOf
  rintro q τ vs v ⟨j, U', S'', rfl, rfl, hj, hd, st, hO, hfr, hcl5, e1⟩
  by_cases hjn : j < Z.t.length
  case neg =>
    rw [List.drop_of_length_le (by omega)] at e1
    unfold DS.clear at e1
    rw [e1]
    ((conv => whnf); (repeat ((first | (refine VL.cons ?_) | (refine VL.nil ?_) | (refine VC.seqS rfl ?_) | (refine VC.region ?_)); (conv => whnf))))
    ((repeat ((first | (refine VL.cons ?_) | (refine VL.nil ?_) | (refine VC.seqS rfl ?_) | (refine VC.region ?_) | (refine VC.cond ?_) | (refine VC.exit ?_) | (refine VC.ret ?_) | (refine VBool.dF (by omega) ?_) | (refine VC.seq ?_)); (conv => whnf))))
    exact ⟨rfl, U', hd, st⟩
  obtain ⟨x, hx⟩ : ∃ x, keys[j]? = some x := ⟨_, List.getElem?_eq_getElem (by omega)⟩
  have hxl := hnm x (List.mem_of_getElem? hx)
  obtain ⟨ad, u, rfl, _, hu, hcell⟩ := (Reads.row hO).at_ hjn
  obtain ⟨x', hx', rfl⟩ := map_at hu
  rw [hx] at hx'
  obtain rfl := Option.some.inj hx'
  have hcell' : v.cell? (ad.add j) = some (.string (txt x)) := hcell
  have hdr : keys.drop j = x :: keys.drop (j + 1) := by
    obtain ⟨hjl, hje⟩ := List.getElem?_eq_some_iff.1 hx
    rw [← hje]
    exact List.drop_eq_getElem_cons hjl
  rw [hdr] at e1
  unfold DS.clear at e1
  ((conv => whnf); (repeat ((first | (refine VL.cons ?_) | (refine VL.nil ?_) | (refine VC.seqS rfl ?_) | (refine VC.region ?_)); (conv => whnf))))
  (repeat (first | ((first | (refine VL.cons ?_) | (refine VL.nil ?_) | (refine VC.seqS rfl ?_) | (refine VC.region ?_) | (refine VC.cond ?_) | (refine VC.block ?_) | (refine VC.skip ?_) | (refine VBool.dT (by omega) ?_) | (refine VRead.load1 (by assumption) ?_) | (refine VRead.at1 (by omega) ?_) | (refine VC.seq ?_)); (conv => whnf)) | (refine VRead.at1 hjn ?_; (conv => whnf))))
  refine VCall.of (hasPrefix_any x snPre v (by omega) (by decide)) ?_
  rintro e v' ⟨rfl, eW⟩
  obtain rfl := eW.symm
  refine ⟨_, rfl, ?_⟩
  cases hp : isPre snPre x with
  | false =>
    rw [if_neg (by rw [hp]; simp)] at e1
    ((conv => whnf); (repeat ((first | (refine VL.cons ?_)); (conv => whnf))))
    ((repeat ((first | (refine VL.cons ?_) | (refine VL.nil ?_) | (refine VC.region ?_) | (refine VC.cond ?_) | (refine VC.skip ?_) | (refine VBool.f ?_) | (refine VWrap.i64 (by omega) (by omega) ?_)); (conv => whnf))))
    exact ⟨_, by omega, j + 1, U', S'', rfl, rfl, by omega, hd, st, hO, hfr, by omega, e1⟩
  | true =>
    by_cases hxe : x = snName i
    · rw [if_neg (by rw [hp]; simp [hxe])] at e1
      have hxe' : txt x = txt (snName i) := by rw [hxe]
      ((conv => whnf); (repeat ((first | (refine VL.cons ?_)); (conv => whnf))))
      (repeat (first | ((first | (refine VL.cons ?_) | (refine VL.nil ?_) | (refine VC.region ?_) | (refine VC.cond ?_) | (refine VC.skip ?_) | (refine VBool.t ?_) | (refine VBool.nT (by omega) ?_) | (refine VWrap.i64 (by omega) (by omega) ?_)); (conv => whnf)) | (refine VBool.nT hxe' ?_; (conv => whnf))))
      exact ⟨_, by omega, j + 1, U', S'', rfl, rfl, by omega, hd, st, hO, hfr, by omega, e1⟩
    · rw [if_pos ⟨hp, hxe⟩] at e1
      have hxe' : ¬ txt x = txt (snName i) := fun e => hxe (txt_inj.1 e)
      ((conv => whnf); (repeat ((first | (refine VL.cons ?_)); (conv => whnf))))
      (repeat (first | ((first | (refine VL.cons ?_) | (refine VL.nil ?_) | (refine VC.seqS rfl ?_) | (refine VC.region ?_) | (refine VC.cond ?_) | (refine VBool.t ?_) | (refine VBool.nF (by omega) ?_)); (conv => whnf)) | (refine VBool.nF hxe' ?_; (conv => whnf))))
      refine VCall.of (oRemove v U' d S'' x hd (by omega) (by omega)) ?_
      rintro e v2 ⟨rfl, U2, hd2, st2⟩
      refine ⟨_, rfl, ?_⟩
      have st02 := st.trans st2
      have hcl6 : (S''.remove x).2.k.calls = S''.k.calls + 1 := DS.remove_calls
      by_cases c4 : (S''.remove x).1 = 0
      case neg =>
        rw [andT_no c4] at e1
        rw [e1]
        ((conv => whnf); (repeat ((first | (refine VL.cons ?_) | (refine VL.nil ?_) | (refine VC.seqS rfl ?_) | (refine VC.region ?_) | (refine VC.cond ?_)); (conv => whnf))))
        (repeat (first | ((first | (refine VL.cons ?_) | (refine VL.nil ?_) | (refine VC.seqS rfl ?_) | (refine VC.region ?_) | (refine VC.ret ?_) | (refine VBool.nF (by omega) ?_)); (conv => whnf)) | (refine VBool.nF c4 ?_; (conv => whnf))))
        exact ⟨rfl, U2, hd2, st02⟩
      rw [andT_ok c4] at e1
      obtain ⟨hO2, hfr2⟩ := st2.rows hO hfr
      ((conv => whnf); (repeat ((first | (refine VL.cons ?_) | (refine VL.nil ?_) | (refine VC.seqS rfl ?_) | (refine VC.region ?_) | (refine VC.cond ?_)); (conv => whnf))))
      (repeat (first | ((first | (refine VL.cons ?_) | (refine VL.nil ?_) | (refine VC.region ?_) | (refine VC.skip ?_) | (refine VBool.nT (by omega) ?_) | (refine VWrap.i64 (by omega) (by omega) ?_)); (conv => whnf)) | (refine VBool.nT c4 ?_; (conv => whnf))))
      exact ⟨_, by omega, j + 1, U2, _, rfl, rfl, by omega, hd2, st02, hO2, hfr2, by omega, e1⟩
end Go.Proofs.Ytebeidnmplnlpaa
end

section
namespace Go.Proofs.Ytebeidnmplnlpaa.Frame
set_option linter.unusedVariables false

theorem stop_le {l : List UInt8} {k j : Nat} (hk : ∀ i, i < k → okAt l i) (hj : ¬ okAt l j) : k ≤ j := by
  rcases Nat.lt_or_ge j k with h | h
  · exact absurd (hk j h) hj
  · exact h
def laid (bs : List (List UInt8)) : List UInt8 := (bs.map put).flatten
def Good (bs : List (List UInt8)) : Prop := ∀ b ∈ bs, 1 ≤ b.length ∧ b.length ≤ 2000
def ends (bs : List (List UInt8)) : List Int := (List.range bs.length).map fun i => ((laid (bs.take (i + 1))).length : Int)
theorem laid_append (a b : List (List UInt8)) : laid (a ++ b) = laid a ++ laid b := by simp [laid]
theorem laid_one (b : List UInt8) : laid [b] = put b := by simp [laid]
theorem take_succ {α : Type} {l : List α} {i : Nat} {x : α} (h : l[i]? = some x) : l.take (i + 1) = l.take i ++ [x] := by
  rw [List.take_add_one, h]; rfl
theorem put_pos (b : List UInt8) : 5 ≤ (put b).length := by
  have := (Wire.int_len (b.length : Int)).1
  rw [put_len]; omega
theorem laid_split {bs : List (List UInt8)} {i : Nat} {b : List UInt8} (h : bs[i]? = some b) : laid bs = laid (bs.take i) ++ (put b ++ laid (bs.drop (i + 1))) := by
  have hlt := (List.getElem?_eq_some_iff.1 h).1
  have h2 := (List.getElem?_eq_some_iff.1 h).2
  have e : bs = bs.take i ++ (b :: bs.drop (i + 1)) := by
    rw [← h2, ← List.drop_eq_getElem_cons hlt, List.take_append_drop]
  calc laid bs = laid (bs.take i ++ (b :: bs.drop (i + 1))) := by rw [← e]
    _ = _ := by rw [laid_append]; rfl
theorem get_mid {p b r : List UInt8} (h1 : 1 ≤ b.length) (h2 : b.length ≤ 1048576) : get (p ++ (put b ++ r)) (p.length : Int) = (b, (p.length : Int) + (put b).length, 0) := by
  have h5 := put_pos b
  unfold get
  rw [if_neg (by simp only [List.length_append]; omega), if_neg (by simp only [List.length_append]; omega), Int.toNat_natCast, List.drop_left' rfl, first_put r h1 h2]
theorem get_stop {p t : List UInt8} (h : first t = none) : (get (p ++ t) (p.length : Int)).2.2 ≠ 0 := by
  unfold get
  rw [if_neg (by simp only [List.length_append]; omega)]
  split
  · decide
  · rw [Int.toNat_natCast, List.drop_left' rfl, h]; exact (by decide : (4 : Int) ≠ 0)
section
variable {l t : List UInt8} {bs : List (List UInt8)} (e : l = laid bs ++ t) (hg : Good bs)
include e hg
end
end Go.Proofs.Ytebeidnmplnlpaa.Frame
end

section
namespace Go.Proofs.Ytebeidnmplnlpaa.Frame
set_option linter.unusedVariables false
open Go.RowKit

def Ok1 (bs : List (List UInt8)) : Prop := ∀ b ∈ bs, 1 ≤ b.length ∧ b.length ≤ 1048576
def parse : Nat → List UInt8 → List (List UInt8) × List UInt8
  | 0, l => ([], l)
  | n + 1, l => match first l with
    | none => ([], l)
    | some (b, r) => (b :: (parse n r).1, (parse n r).2)
def bodies (l : List UInt8) : List (List UInt8) := (parse l.length l).1
def rest (l : List UInt8) : List UInt8 := (parse l.length l).2
theorem laid_cons (b : List UInt8) (bs : List (List UInt8)) : laid (b :: bs) = put b ++ laid bs := by simp [laid]
theorem laid_nil : laid [] = [] := rfl
theorem parse_spec : ∀ (n : Nat) (l : List UInt8), l.length ≤ n → l = laid (parse n l).1 ++ (parse n l).2 ∧ first (parse n l).2 = none ∧ Ok1 (parse n l).1
  | 0, l, h => by
    obtain rfl : l = [] := List.eq_nil_of_length_eq_zero (by omega)
    exact ⟨rfl, first_nil, fun b hb => by simp [parse] at hb⟩
  | n + 1, l, h => by
    unfold parse
    cases hf : first l with
    | none => exact ⟨rfl, hf, fun b hb => by simp at hb⟩
    | some p =>
      obtain ⟨b, r⟩ := p
      obtain ⟨e, h1, h2⟩ := first_some hf
      have hp := put_pos b
      have hl := congrArg List.length e
      rw [List.length_append] at hl
      obtain ⟨i1, i2, i3⟩ := parse_spec n r (by omega)
      refine ⟨?_, i2, fun x hx => ?_⟩
      · simp only
        rw [laid_cons, List.append_assoc, ← i1]
        exact e
      · rcases List.mem_cons.1 hx with rfl | hx
        · exact ⟨h1, h2⟩
        · exact i3 x hx
theorem bodies_spec (l : List UInt8) : l = laid (bodies l) ++ rest l ∧ first (rest l) = none ∧ Ok1 (bodies l) := parse_spec l.length l (Nat.le_refl _)
theorem parse_laid : ∀ (bs : List (List UInt8)) (t : List UInt8) (n : Nat), Ok1 bs → first t = none → (laid bs ++ t).length ≤ n → parse n (laid bs ++ t) = (bs, t)
  | [], t, 0, _, ht, h => rfl
  | [], t, n + 1, _, ht, h => by
    unfold parse
    rw [laid_nil, List.nil_append, ht]
  | b :: bs, t, 0, hb, ht, h => by
    have := put_pos b
    rw [laid_cons] at h
    simp only [List.length_append] at h
    omega
  | b :: bs, t, n + 1, hb, ht, h => by
    have hp := put_pos b
    have hbb := hb b (by simp)
    rw [laid_cons, List.append_assoc] at h ⊢
    unfold parse
    rw [first_put _ hbb.1 hbb.2]
    simp only
    rw [parse_laid bs t n (fun x hx => hb x (List.mem_cons_of_mem _ hx)) ht (by rw [List.length_append] at h; omega)]
theorem bodies_laid {bs : List (List UInt8)} {t : List UInt8} (hb : Ok1 bs) (ht : first t = none) : bodies (laid bs ++ t) = bs ∧ rest (laid bs ++ t) = t := by
  unfold bodies rest
  rw [parse_laid bs t _ hb ht (Nat.le_refl _)]
  exact ⟨rfl, rfl⟩
theorem bodies_all {bs : List (List UInt8)} (hb : Ok1 bs) : bodies (laid bs) = bs ∧ rest (laid bs) = [] := by
  have := bodies_laid hb first_nil
  rwa [List.append_nil] at this
section
variable {l t : List UInt8} {bs : List (List UInt8)} (e : l = laid bs ++ t) (hg : Ok1 bs)
include e hg
theorem each_get {i : Nat} {b : List UInt8} (h : bs[i]? = some b) : get l ((laid (bs.take i)).length : Int) = (b, ((laid (bs.take (i + 1))).length : Int), 0) := by
  have hb := hg b (List.mem_of_getElem? h)
  rw [e, laid_split h, List.append_assoc, List.append_assoc, get_mid hb.1 hb.2, take_succ h, laid_append, laid_one, List.length_append]
  simp
theorem each_place : ∀ i, i ≤ bs.length → place l i = ((laid (bs.take i)).length : Int)
  | 0, _ => by simp [laid, place]
  | i + 1, h => by
    obtain ⟨b, hb⟩ : ∃ b, bs[i]? = some b := ⟨_, List.getElem?_eq_getElem (by omega)⟩
    have e1 : place l (i + 1) = (get l (place l i)).2.1 := rfl
    rw [e1, each_place i (by omega), each_get e hg hb]
theorem each_ok {i : Nat} (h : i < bs.length) : okAt l i := by
  obtain ⟨b, hb⟩ : ∃ b, bs[i]? = some b := ⟨_, List.getElem?_eq_getElem (by omega)⟩
  show (get l (place l i)).2.2 = 0
  rw [each_place e hg i (by omega), each_get e hg hb]
theorem each_body {i : Nat} {b : List UInt8} (h : bs[i]? = some b) : body l i = b := by
  have hlt := (List.getElem?_eq_some_iff.1 h).1
  show (get l (place l i)).1 = b
  rw [each_place e hg i (by omega), each_get e hg h]
theorem each_no (ht : first t = none) : ¬ okAt l bs.length := by
  show ¬ (get l (place l bs.length)).2.2 = 0
  rw [each_place e hg _ (Nat.le_refl _), List.take_of_length_le (Nat.le_refl _), e]
  exact get_stop ht
end
/-- how far the frames go -/
theorem reach_le {l : List UInt8} {k : Nat} (hk : ∀ i, i < k → okAt l i) : k ≤ (bodies l).length := by
  obtain ⟨e, ht, hg⟩ := bodies_spec l
  exact stop_le hk (each_no e hg ht)
theorem reach_eq {l : List UInt8} {k : Nat} (hk : ∀ i, i < k → okAt l i) (hno : ¬ okAt l k) : k = (bodies l).length := by
  obtain ⟨e, ht, hg⟩ := bodies_spec l
  have h1 := reach_le hk
  by_cases h : k = (bodies l).length
  · exact h
  · exact absurd (each_ok e hg (by omega)) hno
theorem whole_iff {l : List UInt8} : place l (bodies l).length = (l.length : Int) ↔ rest l = [] := by
  obtain ⟨e, ht, hg⟩ := bodies_spec l
  rw [each_place e hg _ (Nat.le_refl _), List.take_of_length_le (Nat.le_refl _)]
  have hl := congrArg List.length e
  rw [List.length_append] at hl
  constructor
  · intro h
    exact List.eq_nil_of_length_eq_zero (by omega)
  · intro h
    rw [h] at hl
    simp at hl
    omega
theorem body_at {l : List UInt8} {i : Nat} {b : List UInt8} (h : (bodies l)[i]? = some b) : body l i = b := by
  obtain ⟨e, ht, hg⟩ := bodies_spec l
  exact each_body e hg h
theorem body_ok {l : List UInt8} {i : Nat} {b : List UInt8} (h : (bodies l)[i]? = some b) : 1 ≤ b.length ∧ b.length ≤ 1048576 := (bodies_spec l).2.2 b (List.mem_of_getElem? h)
theorem place_at {l : List UInt8} {i : Nat} (h : i ≤ (bodies l).length) : place l i = ((laid ((bodies l).take i)).length : Int) := by
  obtain ⟨e, ht, hg⟩ := bodies_spec l
  exact each_place e hg i h
theorem place_zero {l : List UInt8} {i : Nat} (h : i < (bodies l).length) : (place l i = 0) ↔ i = 0 := by
  rw [place_at (by omega)]
  constructor
  · intro h0
    cases i with
    | zero => rfl
    | succ i =>
      obtain ⟨b, hb⟩ : ∃ b, (bodies l)[i]? = some b := ⟨_, List.getElem?_eq_getElem (by omega)⟩
      rw [take_succ hb, laid_append, laid_one, List.length_append] at h0
      have := put_pos b
      omega
  · rintro rfl; simp [laid]
end Go.Proofs.Ytebeidnmplnlpaa.Frame
end

section
set_option maxRecDepth 10000
namespace Go.Proofs.Ytebeidnmplnlpaa
set_option linter.unusedVariables false
open Go.RowKit

/-! ### a block without bytes -/
def notU8 : Value → Bool
  | .int .u8 _ => false
  | _ => true
theorem Reads.apartC {T : TypeId} {w w' : World} {k B n : Nat} {A : Option Addr} {cs : Array Value} {l : List UInt8} (h : Reads w B 1 A n (bv l)) (hk : Blk w k T cs) (hcs : cs.toList.all notU8 = true)
    (hb : w.grownBy w' (some k)) (hB : B ≤ w.heap.size) : Reads w' B 1 A n (bv l) := by
  refine ⟨h.1, fun hn => ?_⟩
  obtain ⟨ad, e, hlt, hc⟩ := h.2 hn
  have hl := h.1
  rw [bv_length] at hl
  have hne : ad.block ≠ k := by
    intro he
    obtain ⟨x, l', rfl⟩ : ∃ x l', l = x :: l' := by
      cases l with
      | nil => simp at hl; omega
      | cons x l' => exact ⟨x, l', rfl⟩
    have h0 := hc 0 (.int .u8 (x.toNat : Int)) (by simp [bv])
    rw [show ad.add 0 = ad from by simp [Addr.add]] at h0
    unfold World.cell? at h0
    rw [he] at h0
    unfold Blk at hk
    rw [hk] at h0
    simp only at h0
    split at h0
    · cases h0
    · have hm : (Value.int .u8 (x.toNat : Int)) ∈ cs.toList := by
        rw [← Array.getElem?_toList] at h0
        exact List.mem_of_getElem? h0
      have := List.all_eq_true.1 hcs _ hm
      cases this
  exact ⟨ad, e, hlt, fun j u hu => (World.cell?_of_block (hb.block _ (by rw [block_of_add]; omega) (by rw [block_of_add]; intro e; injection e with e; exact hne e))).trans (hc j u hu)⟩
theorem RS.apartC {T T' : TypeId} {w w' : World} {g k : Nat} {cs : Array Value} {s : Option (List UInt8)} (h : RS T w g s) (hk : Blk w k T' cs) (hcs : cs.toList.all notU8 = true) (hb : w.grownBy w' (some k)) (hne : g ≠ k) : RS T w' g s := by
  have hlt := h.lt
  obtain ⟨l, p, bad, ⟨A, n, c, h1, h2, h3⟩, h4⟩ := h
  exact ⟨l, p, bad, ⟨A, n, c, h1.grown hb (fun e => by injection e with e; exact hne e), h2.apartC hk hcs hb (by omega), h3⟩, h4⟩
end Go.Proofs.Ytebeidnmplnlpaa
end

section
set_option maxRecDepth 10000
namespace Go.Proofs.Ytebeidnmplnlpaa
set_option linter.unusedVariables false
open Go.RowKit

/-! ### plain -/
def hA (h : List UInt8) : Int := (Wire.intS (some h)).1
def hT (h : List UInt8) : Int := (Wire.intS (Wire.intS (some h)).2).1
def hN (h : List UInt8) : Int := (Wire.intS (Wire.intS (Wire.intS (some h)).2).2).1
def hE (h : List UInt8) : Bool := Wire.endS (Wire.intS (Wire.intS (Wire.intS (some h)).2).2).2
structure HdOk (h : List UInt8) (idx : Int) : Prop where
  e : hE h = true
  a : hA h = idx
  t1 : 1 ≤ hT h
  t2 : hT h ≤ 1099511627776
  n1 : 1 ≤ hN h
  n2 : hN h ≤ 1048576
instance (h : List UInt8) (idx : Int) : Decidable (HdOk h idx) :=
  decidable_of_iff (hE h = true ∧ hA h = idx ∧ 1 ≤ hT h ∧ hT h ≤ 1099511627776 ∧ 1 ≤ hN h ∧ hN h ≤ 1048576) ⟨fun ⟨a, b, c, d, e, f⟩ => ⟨a, b, c, d, e, f⟩, fun h => ⟨h.e, h.a, h.t1, h.t2, h.n1, h.n2⟩⟩
def gather (n : Int) : List UInt8 → List (List UInt8) → Option (List UInt8)
  | acc, [] => some acc
  | acc, b :: r => if (b.length : Int) = min 1000 (n - acc.length) then gather n (acc ++ b) r else none
def saysB (idx : Int) : List (List UInt8) → Option (Int × List UInt8)
  | [] => none
  | h :: cs => if HdOk h idx then match gather (hN h) [] cs with
    | some x => if (x.length : Int) = hN h then some (hT h, x) else none
    | none => none else none
theorem saysB_cons (idx : Int) (h : List UInt8) (cs : List (List UInt8)) : saysB idx (h :: cs) = if HdOk h idx then match gather (hN h) [] cs with
    | some x => if (x.length : Int) = hN h then some (hT h, x) else none
    | none => none else none := rfl
def saysS (l : List UInt8) (idx : Int) : Option (Int × List UInt8) := if Frame.rest l = [] then saysB idx (Frame.bodies l) else none
theorem gather_snoc {n : Int} {b : List UInt8} : ∀ {cs : List (List UInt8)} {acc : List UInt8}, gather n acc (cs ++ [b]) = match gather n acc cs with | some x => (if (b.length : Int) = min 1000 (n - x.length) then some (x ++ b) else none) | none => none
  | [], acc => by simp [gather]
  | c :: cs, acc => by
    rw [List.cons_append]
    unfold gather
    split
    · exact gather_snoc
    · rfl
theorem gather_none {n : Int} {cs : List (List UInt8)} {acc : List UInt8} {m : Nat} (h : gather n acc (cs.take m) = none) : gather n acc cs = none := by
  induction cs generalizing acc m with
  | nil => simpa using h
  | cons c cs ih =>
    cases m with
    | zero => simp [gather] at h
    | succ m =>
      rw [List.take_succ_cons] at h
      unfold gather at h ⊢
      split at h
      · rename_i hc; rw [if_pos hc]; exact ih h
      · rename_i hc; rw [if_neg hc]
theorem gather_le {n : Int} : ∀ {cs : List (List UInt8)} {acc x : List UInt8}, (acc.length : Int) ≤ n → gather n acc cs = some x → (x.length : Int) ≤ n
  | [], acc, x, h, e => by simp [gather] at e; subst e; exact h
  | c :: cs, acc, x, h, e => by
    unfold gather at e
    split at e
    · rename_i hc
      exact gather_le (by rw [List.length_append]; omega) e
    · cases e
theorem VRes.cell3 {P : Program} {w : World} {a b c t u v T1 T2 T3 g1 g2 g3 : Nat} {σ : Env} {x y z : Value} {R : Ending → World → Prop} [i : TCell P t] [j : TCell P u] [k : TCell P v]
    (ha : σ a = .pointer (some ⟨g1, 0, none⟩)) (hb : σ b = .pointer (some ⟨g2, 0, none⟩)) (hc : σ c = .pointer (some ⟨g3, 0, none⟩)) (h1 : Blk w g1 T1 #[x]) (h2 : Blk w g2 T2 #[y]) (h3 : Blk w g3 T3 #[z])
    (h : R (.returned (.tuple #[x, y, z])) w) : VRes P [.cell a t, .cell b u, .cell c v] σ w R := by
  have k1 := run_load_cell (P := P) (t := t) (W := w) i.c (by have := h1.cell 0; simpa using this)
  have k2 := run_load_cell (P := P) (t := u) (W := w) j.c (by have := h2.cell 0; simpa using this)
  have k3 := run_load_cell (P := P) (t := v) (W := w) k.c (by have := h3.cell 0; simpa using this)
  unfold Instr.loadAt Instr.sureAddr at k1 k2 k3
  simp only [Sem.run_bind, Sem.run_pure, Result.andThen_ok] at k1 k2 k3
  exact ⟨⟨_, by simp [resE, ha, hb, hc, asAddr, k1, k2, k3], h⟩⟩
def SaysV (w : World) (B : Nat) (o : Option (Int × List UInt8)) (T : Int) (v : Value) (ok : Bool) : Prop := match o with
  | some p => ok = true ∧ T = p.1 ∧ ∃ A c, v = .slice A p.2.length c ∧ Own w B (.slice A p.2.length c) p.2.length p.2
  | none => ok = false ∧ ∃ A n c, v = .slice A n c
theorem own_form {w : World} {B n : Nat} {v : Value} {l : List UInt8} (h : Own w B v n l) : ∃ A c, v = .slice A n c := by
  rcases h.2 with ⟨rfl, e0⟩ | ⟨g, cap, cur, e1, _⟩
  · exact ⟨none, 0, by rw [e0]⟩
  · exact ⟨_, _, e1⟩
/-- what stays while the frames are read -/
structure RdFix (v : Value) (w : World) (D : Nat) (o : Obj) (idx : Int) (g3 g4 g5 g6 gx : Nat) (W : World) : Prop where
  b3 : Blk W g3 3 #[.int .i64 idx]
  b4 : Blk W g4 3 #[.int .i64 0]
  b5 : Blk W g5 31 #[.slice none 0 0]
  b6 : Blk W g6 4 #[.bool false]
  bx : Blk W gx 31 #[v]
  dd : W.heap[D]? = some (.deferred (some []))
  ll : W.heap[D + 1]? = some o
  since : Below w.heap.size w W
section
variable {v : Value} {w W W' : World} {D : Nat} {o o' : Obj} {idx : Int} {g3 g4 g5 g6 gx g : Nat}
theorem RdFix.later (h : RdFix v w D o idx g3 g4 g5 g6 gx W) (hb : Below W.heap.size W W') : RdFix v w D o idx g3 g4 g5 g6 gx W' :=
  ⟨h.b3.later hb, h.b4.later hb, h.b5.later hb, h.b6.later hb, h.bx.later hb, obj_later h.dd hb, obj_later h.ll hb, h.since.trans (hb.mono h.since.size)⟩
theorem RdFix.only (h : RdFix v w D o idx g3 g4 g5 g6 gx W) (hg : W.grownBy W' (some g)) (h3 : g3 ≠ g) (h4 : g4 ≠ g) (h5 : g5 ≠ g) (h6 : g6 ≠ g) (hx : gx ≠ g) (hd : D ≠ g) (hl : D + 1 ≠ g) (hw : w.heap.size ≤ g) : RdFix v w D o idx g3 g4 g5 g6 gx W' :=
  ⟨h.b3.only hg h3, h.b4.only hg h4, h.b5.only hg h5, h.b6.only hg h6, h.bx.only hg hx, obj_only h.dd hg hd, obj_only h.ll hg hl, only_new h.since hg hw h.since.size⟩
theorem RdFix.loop (h : RdFix v w D o idx g3 g4 g5 g6 gx W) (h3 : g3 < D) (h4 : g4 < D) (h5 : g5 < D) (h6 : g6 < D) (hx : gx < D) (hw : w.heap.size ≤ D) : RdFix v w D o' idx g3 g4 g5 g6 gx (W.putObj (D + 1) o') :=
  ⟨h.b3.putObj (by omega) _, h.b4.putObj (by omega) _, h.b5.putObj (by omega) _, h.b6.putObj (by omega) _, h.bx.putObj (by omega) _, put_other h.dd (by omega), put_same h.ll, Below.putObj h.since (by omega) _⟩
theorem Own.loop {r : Loop} {B n : Nat} {u : Value} {l : List UInt8} (h : Own W B u n l) (hl : W.heap[D]? = some (.loop r)) (o : Obj) : Own (W.putObj D o) B u n l :=
  ownsRow_stay h (fun g hg => by
    obtain ⟨cs, hc⟩ := (row_cells h g hg).2
    refine World.putObj_heap_other (fun e => ?_)
    subst e
    rw [hl] at hc; cases hc)
theorem RdFix.set4 (h : RdFix v w D o idx g3 g4 g5 g6 gx W) (hb : Blk W' g4 3 #[.int .i64 0]) (hg : W.grownBy W' (some g4)) (h3 : g3 < g4) (h5 : g4 < g5) (h6 : g5 < g6) (hx : g6 < gx) (hd : gx < D) (hw : w.heap.size ≤ g3) : RdFix v w D o idx g3 g4 g5 g6 gx W' :=
  ⟨h.b3.only hg (by omega), hb, h.b5.only hg (by omega), h.b6.only hg (by omega), h.bx.only hg (by omega), obj_only h.dd hg (by omega), obj_only h.ll hg (by omega), only_new h.since hg (by omega) h.since.size⟩
theorem RdFix.set5 (h : RdFix v w D o idx g3 g4 g5 g6 gx W) (hb : Blk W' g5 31 #[.slice none 0 0]) (hg : W.grownBy W' (some g5)) (h3 : g3 < g4) (h5 : g4 < g5) (h6 : g5 < g6) (hx : g6 < gx) (hd : gx < D) (hw : w.heap.size ≤ g3) : RdFix v w D o idx g3 g4 g5 g6 gx W' :=
  ⟨h.b3.only hg (by omega), h.b4.only hg (by omega), hb, h.b6.only hg (by omega), h.bx.only hg (by omega), obj_only h.dd hg (by omega), obj_only h.ll hg (by omega), only_new h.since hg (by omega) h.since.size⟩
theorem RdFix.set6 (h : RdFix v w D o idx g3 g4 g5 g6 gx W) (hb : Blk W' g6 4 #[.bool false]) (hg : W.grownBy W' (some g6)) (h3 : g3 < g4) (h5 : g4 < g5) (h6 : g5 < g6) (hx : g6 < gx) (hd : gx < D) (hw : w.heap.size ≤ g3) : RdFix v w D o idx g3 g4 g5 g6 gx W' :=
  ⟨h.b3.only hg (by omega), h.b4.only hg (by omega), h.b5.only hg (by omega), hb, h.bx.only hg (by omega), obj_only h.dd hg (by omega), obj_only h.ll hg (by omega), only_new h.since hg (by omega) h.since.size⟩
end
/-- what the frames have said so far -/
def RdAcc (bs : List (List UInt8)) (idx : Int) (D g9 g10 g11 g12 : Nat) (k : Nat) (W : World) : Prop :=
  (k = 0 ∧ Blk W g9 3 #[.int .i64 0] ∧ Blk W g10 3 #[.int .i64 0] ∧ Blk W g11 3 #[.int .i64 0] ∧ Blk W g12 31 #[.slice none 0 0]) ∨
  (∃ h cs, bs = h :: cs ∧ 1 ≤ k ∧ HdOk h idx ∧ Blk W g9 3 #[.int .i64 (hA h)] ∧ Blk W g10 3 #[.int .i64 (hT h)] ∧ Blk W g11 3 #[.int .i64 (hN h)] ∧
    ∃ Ad cd acc, Blk W g12 31 #[.slice Ad acc.length cd] ∧ Own W D (.slice Ad acc.length cd) acc.length acc ∧ gather (hN h) [] (cs.take (k - 1)) = some acc)
theorem RdAcc.later {bs : List (List UInt8)} {idx : Int} {D g9 g10 g11 g12 k : Nat} {W W' : World} (h : RdAcc bs idx D g9 g10 g11 g12 k W) (hb : Below W.heap.size W W') : RdAcc bs idx D g9 g10 g11 g12 k W' := by
  rcases h with ⟨h0, h1, h2, h3, h4⟩ | ⟨h, cs, e1, e2, e3, h1, h2, h3, Ad, cd, acc, h4, h5, h6⟩
  · exact .inl ⟨h0, h1.later hb, h2.later hb, h3.later hb, h4.later hb⟩
  · exact .inr ⟨h, cs, e1, e2, e3, h1.later hb, h2.later hb, h3.later hb, Ad, cd, acc, h4.later hb, rows_below h5 hb (Nat.le_refl _), h6⟩
theorem RdAcc.loop {bs : List (List UInt8)} {idx : Int} {D g9 g10 g11 g12 k : Nat} {W : World} {r : Loop} (h : RdAcc bs idx D g9 g10 g11 g12 k W) (hl : W.heap[D + 1]? = some (.loop r)) (h9 : g9 < D) (h10 : g10 < D) (h11 : g11 < D) (h12 : g12 < D) (o : Obj) : RdAcc bs idx D g9 g10 g11 g12 k (W.putObj (D + 1) o) := by
  rcases h with ⟨h0, h1, h2, h3, h4⟩ | ⟨h, cs, e1, e2, e3, h1, h2, h3, Ad, cd, acc, h4, h5, h6⟩
  · exact .inl ⟨h0, h1.putObj (by omega) _, h2.putObj (by omega) _, h3.putObj (by omega) _, h4.putObj (by omega) _⟩
  · exact .inr ⟨h, cs, e1, e2, e3, h1.putObj (by omega) _, h2.putObj (by omega) _, h3.putObj (by omega) _, Ad, cd, acc, h4.putObj (by omega) _, h5.loop hl o, h6⟩
structure RdJ (bs : List (List UInt8)) (v : Value) (w : World) (D : Nat) (o : Obj) (idx : Int) (g3 g4 g5 g6 gx g9 g10 g11 g12 : Nat) (k : Nat) (W : World) : Prop where
  fix : RdFix v w D o idx g3 g4 g5 g6 gx W
  acc : RdAcc bs idx D g9 g10 g11 g12 k W
/-- the round that leaves -/
structure RdX (bs : List (List UInt8)) (v : Value) (w : World) (D : Nat) (r : Loop) (idx : Int) (g3 g4 g5 g6 gx : Nat) (W : World) : Prop where
  fix : RdFix v w D (.loop { r with state := .done, pending := some .ret }) idx g3 g4 g5 g6 gx W
  no : saysB idx bs = none
set_option maxHeartbeats 4000000 in
theorem snapRead_any (A : Option Addr) (n c : Nat) (l : List UInt8) (idx : Int) (w : World) (hn : n ≤ 16777216) (hnc : n ≤ c) (hr : Reads w w.heap.size 1 A n (bv l)) :
    Calls Try.prog 55 #[.slice A n c, .int .i64 idx] w fun e w' => (∃ T v ok, e = .returned (.tuple #[.int .i64 T, v, .bool ok]) ∧ SaysV w' w.heap.size (saysS l idx) T v ok) ∧ Below w.heap.size w w' := by
  have hln : l.length = n := by have := hr.1; rw [bv_length] at this; omega
  refine calls_vw Try.func55 rfl (by kernel_rfl) ?_
  refine VW.seq (VW.vc (by kernel_rfl) ?_)
  ((conv => whnf); (repeat ((first | (refine VL.cons ?_) | (refine VC.region ?_)); (conv => whnf))))
  ((repeat ((fail); (conv => whnf))))
  refine VSem.boxB ?_
  intro w1 g3 hb3 hg3 hl3 hB1
  ((conv => whnf); (repeat ((first | (refine VL.cons ?_)); (conv => whnf))))
  ((repeat ((fail); (conv => whnf))))
  refine VSem.allocZ (z := .int .i64 0) (by kernel_rfl) ?_
  intro w2 g4 hb4 hg4 hl4 hB2
  ((conv => whnf); (repeat ((first | (refine VL.cons ?_)); (conv => whnf))))
  ((repeat ((fail); (conv => whnf))))
  refine VSem.allocZ (z := .slice none 0 0) (by kernel_rfl) ?_
  intro w3 g5 hb5 hg5 hl5 hB3
  ((conv => whnf); (repeat ((first | (refine VL.cons ?_)); (conv => whnf))))
  ((repeat ((fail); (conv => whnf))))
  refine VSem.allocZ (z := .bool false) (by kernel_rfl) ?_
  intro w4 g6 hb6 hg6 hl6 hB4
  have s1 := hB1.size
  have s2 := hB2.size
  have s3 := hB3.size
  have s4 := hB4.size
  have hB04 : Below w.heap.size w w4 := ((hB1.trans (hB2.mono s1)).trans (hB3.mono (Nat.le_trans s1 s2))).trans (hB4.mono (Nat.le_trans (Nat.le_trans s1 s2) s3))
  replace hb3 := ((hb3.later hB2).later hB3).later hB4
  replace hb4 := (hb4.later hB3).later hB4
  replace hb5 := hb5.later hB4
  ((conv => whnf); (repeat ((first | (refine VL.nil ?_)); (conv => whnf))))
  ((repeat ((fail); (conv => whnf))))
  refine VW.seq (VW.vc (by kernel_rfl) ?_)
  ((conv => whnf); (repeat ((first | (refine VL.cons ?_) | (refine VC.seqS rfl ?_) | (refine VC.region ?_)); (conv => whnf))))
  ((repeat ((fail); (conv => whnf))))
  refine VCall.of (frEnds_any A n c l w4 (by omega) hnc ((hr.below hB04).more hB04.size)) ?_
  rintro e w5 ⟨k, hk, hno, rfl, hB5⟩
  refine ⟨_, rfl, ?_⟩
  obtain rfl := Frame.reach_eq hk hno
  replace hb3 := hb3.later hB5
  replace hb4 := hb4.later hB5
  replace hb5 := hb5.later hB5
  replace hb6 := hb6.later hB5
  have hB05 := hB04.trans (hB5.mono hB04.size)
  have s5 := hB5.size
  ((conv => whnf); (repeat ((first | (refine VL.cons ?_) | (refine VL.nil ?_) | (refine VC.seqS rfl ?_) | (refine VC.region ?_) | (refine VC.cond ?_)); (conv => whnf))))
  ((repeat ((fail); (conv => whnf))))
  replace hb3 : Blk w5 g3 3 #[.int .i64 idx] := hb3
  replace hb4 : Blk w5 g4 3 #[.int .i64 0] := hb4
  replace hb5 : Blk w5 g5 31 #[.slice none 0 0] := hb5
  replace hb6 : Blk w5 g6 4 #[.bool false] := hb6
  by_cases hw : Frame.rest l = []
  case neg =>
    have hpl : ¬ Frame.place l (Frame.bodies l).length = (n : Int) := fun e => hw (Frame.whole_iff.1 (by rw [e, hln]))
    have eS : saysS l idx = none := by unfold saysS; rw [if_neg hw]
    refine VBool.nF hpl ?_
    ((conv => whnf); (repeat ((first | (refine VL.cons ?_) | (refine VC.seqS rfl ?_) | (refine VC.region ?_)); (conv => whnf))))
    ((repeat ((fail); (conv => whnf))))
    refine VUnit.storeB hb4 rfl rfl rfl ?_
    intro w6 k4 hg6'
    ((conv => whnf); (repeat ((first | (refine VL.cons ?_)); (conv => whnf))))
    ((repeat ((fail); (conv => whnf))))
    refine VUnit.storeB (hb5.only hg6' (by omega)) rfl rfl rfl ?_
    intro w7 k5 hg7
    ((conv => whnf); (repeat ((first | (refine VL.cons ?_)); (conv => whnf))))
    ((repeat ((fail); (conv => whnf))))
    refine VUnit.storeB ((hb6.only hg6' (by omega)).only hg7 (by omega)) rfl rfl rfl ?_
    intro w8 k6 hg8
    ((conv => whnf); (repeat ((first | (refine VL.nil ?_) | (refine VC.ret ?_)); (conv => whnf))))
    ((repeat ((fail); (conv => whnf))))
    refine VRes.cell3 rfl rfl rfl ((k4.only hg7 (by omega)).only hg8 (by omega)) (k5.only hg8 (by omega)) k6 ?_
    refine ⟨⟨_, _, _, rfl, ?_⟩, only_new (only_new (only_new hB05 hg6' (by omega) hB05.size) hg7 (by omega) (by have := hg6'.size; omega)) hg8 (by omega) (by have := hg6'.size; have := hg7.size; omega)⟩
    rw [eS]
    exact ⟨rfl, none, 0, 0, rfl⟩
  have hpl : Frame.place l (Frame.bodies l).length = (n : Int) := by rw [Frame.whole_iff.2 hw, hln]
  have eS : saysS l idx = saysB idx (Frame.bodies l) := by unfold saysS; rw [if_pos hw]
  refine VBool.nT hpl ?_
  ((conv => whnf); (repeat ((first | (refine VC.skip ?_)); (conv => whnf))))
  ((repeat ((fail); (conv => whnf))))
  refine VW.seq (VW.vc (by kernel_rfl) ?_)
  ((conv => whnf); (repeat ((first | (refine VL.cons ?_) | (refine VC.region ?_)); (conv => whnf))))
  ((repeat ((fail); (conv => whnf))))
  refine VSem.allocZ (z := .int .i64 0) (by kernel_rfl) ?_
  intro w6 g9 hb9 hg9 hl9 hB6
  ((conv => whnf); (repeat ((first | (refine VL.cons ?_)); (conv => whnf))))
  ((repeat ((fail); (conv => whnf))))
  refine VSem.allocZ (z := .int .i64 0) (by kernel_rfl) ?_
  intro w7 g10 hb10 hg10 hl10 hB7
  ((conv => whnf); (repeat ((first | (refine VL.cons ?_)); (conv => whnf))))
  ((repeat ((fail); (conv => whnf))))
  refine VSem.allocZ (z := .int .i64 0) (by kernel_rfl) ?_
  intro w8 g11 hb11 hg11 hl11 hB8
  have s6 := hB6.size
  have s7 := hB7.size
  have s8 := hB8.size
  have hB08 : Below w.heap.size w w8 := ((hB05.trans (hB6.mono hB05.size)).trans (hB7.mono (by omega))).trans (hB8.mono (by omega))
  replace hb9 := (hb9.later hB7).later hB8
  replace hb10 := hb10.later hB8
  replace hb3 := ((hb3.later hB6).later hB7).later hB8
  replace hb4 := ((hb4.later hB6).later hB7).later hB8
  replace hb5 := ((hb5.later hB6).later hB7).later hB8
  replace hb6 := ((hb6.later hB6).later hB7).later hB8
  replace hb9 : Blk w8 g9 3 #[.int .i64 0] := hb9
  replace hb10 : Blk w8 g10 3 #[.int .i64 0] := hb10
  replace hb11 : Blk w8 g11 3 #[.int .i64 0] := hb11
  ((conv => whnf); (repeat ((first | (refine VL.cons ?_)); (conv => whnf))))
  ((repeat ((fail); (conv => whnf))))
  refine VUnit.storeB hb9 rfl rfl rfl ?_
  intro w9 q9 gg9
  ((conv => whnf); (repeat ((first | (refine VL.cons ?_)); (conv => whnf))))
  ((repeat ((fail); (conv => whnf))))
  refine VUnit.storeB (hb10.only gg9 (by omega)) rfl rfl rfl ?_
  intro w10 q10 gg10
  ((conv => whnf); (repeat ((first | (refine VL.cons ?_)); (conv => whnf))))
  ((repeat ((fail); (conv => whnf))))
  refine VUnit.storeB ((hb11.only gg9 (by omega)).only gg10 (by omega)) rfl rfl rfl ?_
  intro w11 q11 gg11
  have t9 := gg9.size
  have t10 := gg10.size
  have t11 := gg11.size
  replace q9 := (q9.only gg10 (by omega)).only gg11 (by omega)
  replace q10 := q10.only gg11 (by omega)
  replace q9 : Blk w11 g9 3 #[.int .i64 0] := q9
  replace q10 : Blk w11 g10 3 #[.int .i64 0] := q10
  replace q11 : Blk w11 g11 3 #[.int .i64 0] := q11
  replace hb3 := ((hb3.only gg9 (by omega)).only gg10 (by omega)).only gg11 (by omega)
  replace hb4 := ((hb4.only gg9 (by omega)).only gg10 (by omega)).only gg11 (by omega)
  replace hb5 := ((hb5.only gg9 (by omega)).only gg10 (by omega)).only gg11 (by omega)
  replace hb6 := ((hb6.only gg9 (by omega)).only gg10 (by omega)).only gg11 (by omega)
  have hB011 : Below w.heap.size w w11 := only_new (only_new (only_new hB08 gg9 (by omega) hB08.size) gg10 (by omega) (by omega)) gg11 (by omega) (by omega)
  ((conv => whnf); (repeat ((first | (refine VL.nil ?_)); (conv => whnf))))
  ((repeat ((fail); (conv => whnf))))
  refine VW.seq (VW.vc (by kernel_rfl) ?_)
  ((conv => whnf); (repeat ((first | (refine VL.cons ?_) | (refine VC.region ?_)); (conv => whnf))))
  ((repeat ((fail); (conv => whnf))))
  refine VSem.allocZ (z := .slice none 0 0) (by kernel_rfl) ?_
  intro w12 g12 hb12 hg12 hl12 hB12
  have s12 := hB12.size
  have hB012 := hB011.trans (hB12.mono hB011.size)
  replace hb3 := hb3.later hB12
  replace hb4 := hb4.later hB12
  replace hb5 := hb5.later hB12
  replace hb6 := hb6.later hB12
  replace q9 := q9.later hB12
  replace q10 := q10.later hB12
  replace q11 := q11.later hB12
  replace hb12 : Blk w12 g12 31 #[.slice none 0 0] := hb12
  ((conv => whnf); (repeat ((first | (refine VL.nil ?_)); (conv => whnf))))
  ((repeat ((fail); (conv => whnf))))
  refine VW.seq (VW.seq (VW.vc (by kernel_rfl) ?_))
  ((conv => whnf); (repeat ((first | (refine VL.cons ?_) | (refine VC.region ?_)); (conv => whnf))))
  ((repeat ((fail); (conv => whnf))))
  refine VCall.of (frAll_any (.slice A n c) ⟨_, _, _, rfl⟩ w12) ?_
  rintro e w13 ⟨gx, rfl, hbx, hgx, hB13⟩
  refine ⟨_, rfl, ?_⟩
  have hxl := blk_lt hbx
  have hB013 := hB012.trans (hB13.mono hB012.size)
  replace hb3 := hb3.later hB13
  replace hb4 := hb4.later hB13
  replace hb5 := hb5.later hB13
  replace hb6 := hb6.later hB13
  replace q9 := q9.later hB13
  replace q10 := q10.later hB13
  replace q11 := q11.later hB13
  replace hb12 := hb12.later hB13
  obtain ⟨o1, o2, o3, o4, o5, o6, o7, o8, o9, o10⟩ : w.heap.size ≤ g3 ∧ g3 < g4 ∧ g4 < g5 ∧ g5 < g6 ∧ g6 < g9 ∧ g9 < g10 ∧ g10 < g11 ∧ g11 < g12 ∧ g12 < gx ∧ gx < w13.heap.size := by omega
  clear hg3 hl3 hB1 hg4 hl4 hB2 hg5 hl5 hB3 hg6 hl6 hB4 s1 s2 s3 s4 hB04 hB5 hB05 s5 hg9 hl9 hB6 hg10 hl10 hB7 hg11 hl11 hB8 s6 s7 s8 hB08 hb9 hb10 hb11 gg9 gg10 gg11 t9 t10 t11 hB011 hg12 hl12 hB12 s12 hB012 hB13 hxl hgx hpl hk hno
  ((conv => whnf); (repeat ((first | (refine VL.nil ?_)); (conv => whnf))))
  ((repeat ((fail); (conv => whnf))))
  refine VW.block (VW.range rfl (by kernel_rfl) ?_)
  intro r w14 hr1 hr2 hr3 hr4 hr5 hA5 hB14 hD14 hL14 hS14
  obtain ⟨D, hD⟩ : ∃ D, w13.heap.size = D := ⟨_, rfl⟩
  obtain ⟨bs, hbs⟩ : ∃ bs, Frame.bodies l = bs := ⟨_, rfl⟩
  rw [hD] at o10 hD14 hL14 hS14
  rw [hbs] at eS
  have hwD : w.heap.size ≤ D := by omega
  have hB014 := hB013.trans (hB14.mono hB013.size)
  have hJ0 : RdJ bs (.slice A n c) w D (.loop r) idx g3 g4 g5 g6 gx g9 g10 g11 g12 0 w14 :=
    ⟨⟨hb3.later hB14, hb4.later hB14, hb5.later hB14, hb6.later hB14, hbx.later hB14, hD14, hL14, hB014⟩, .inl ⟨rfl, q9.later hB14, q10.later hB14, q11.later hB14, hb12.later hB14⟩⟩
  clear hb3 hb4 hb5 hb6 q9 q10 q11 hb12 hbx hD14 hL14 hB14 hB013 hB014
  rw [hD]
  refine VCall.of (all1 _ ⟨gx, 0, none⟩ A n c l (RdJ bs (.slice A n c) w D (.loop r) idx g3 g4 g5 g6 gx g9 g10 g11 g12) (fun _ => RdX bs (.slice A n c) w D r idx g3 g4 g5 g6 gx) w14 (by omega) hnc hln (.inr ⟨_, rfl⟩) ?_ hJ0) ?_
  · refine ⟨fun k W hJ => ⟨?_, ?_⟩, fun k W W' hJ hb => ⟨hJ.fix.later hb, hJ.acc.later hb⟩, fun k W hk hok hJ B u m hO => ?_⟩
    · rw [hJ.fix.bx.cell 0]; rfl
    · exact (hr.below hJ.fix.since).more hJ.fix.since.size
    have hkb : k < bs.length := by
      rw [← hbs]
      exact Frame.reach_le (k := k + 1) (fun i hi => by
        by_cases e : i = k
        · rw [e]; exact hok
        · exact hk i (by omega))
    obtain ⟨b, hb⟩ : ∃ b, bs[k]? = some b := ⟨_, List.getElem?_eq_getElem hkb⟩
    have hbl : 1 ≤ b.length ∧ b.length ≤ 1048576 := Frame.body_ok (l := l) (by rw [hbs]; exact hb)
    have hbk : Frame.body l k = b := Frame.body_at (by rw [hbs]; exact hb)
    have hp0 : Frame.place l k = 0 ↔ k = 0 := Frame.place_zero (by rw [hbs]; exact hkb)
    obtain ⟨A1, c1, rfl⟩ := own_form hO
    rw [hbk] at hO
    have hml : b.length = m := hO.len
    refine VYield.of hJ.fix.ll hr1 hA5 (by rw [hr3, hr4, hr5]; kernel_rfl) ?_
    rw [hr3, hr4, hr5]
    ((conv => whnf); (repeat ((first | (refine VL.cons ?_) | (refine VL.nil ?_) | (refine VC.seqS rfl ?_) | (refine VC.region ?_)); (conv => whnf))))
    refine ⟨r, hJ.fix.ll, hr1, ?_⟩
    obtain ⟨W2, hW2⟩ : ∃ W2, W2 = W.putObj (D + 1) (.loop { r with state := .busy }) := ⟨_, rfl⟩
    rw [← hW2]
    have fx : RdFix (.slice A n c) w D (.loop { r with state := .busy }) idx g3 g4 g5 g6 gx W2 := by rw [hW2]; exact hJ.fix.loop (by omega) (by omega) (by omega) (by omega) (by omega) (by omega)
    have ac : RdAcc bs idx D g9 g10 g11 g12 k W2 := by rw [hW2]; exact hJ.acc.loop hJ.fix.ll (by omega) (by omega) (by omega) (by omega) _
    have hO2 : Own W2 B (.slice A1 m c1) m b := by rw [hW2]; exact hO.loop hJ.fix.ll _
    have hDl : D + 1 < W2.heap.size := (Array.getElem?_eq_some_iff.1 fx.ll).1
    clear hW2 hJ hO
    by_cases k0 : k = 0
    · subst k0
      rw [hp0.2 rfl]
      rcases ac with ⟨_, p9, p10, p11, p12⟩ | ⟨_, _, _, h1, _⟩
      case inr => omega
      obtain ⟨cs, hcs⟩ : ∃ cs, bs = b :: cs := by
        cases bs with
        | nil => simp at hb
        | cons x cs => simp at hb; exact ⟨cs, by rw [hb]⟩
      ((conv => whnf); (repeat ((first | (refine VC.block ?_)); (conv => whnf))))
      ((repeat ((first | (refine VL.cons ?_) | (refine VL.nil ?_) | (refine VC.seqS rfl ?_) | (refine VC.region ?_) | (refine VC.cond ?_) | (refine VBool.t ?_) | (refine VC.seq ?_)); (conv => whnf))))
      refine VCall.of (rNew_any A1 m c1 _ b W2 (by omega) hO2.reads) ?_
      rintro e W3 ⟨gr, rfl, hgr, hR, hB3⟩
      refine ⟨_, rfl, ?_⟩
      replace fx := fx.later hB3
      replace p9 := p9.later hB3
      replace p10 := p10.later hB3
      replace p11 := p11.later hB3
      replace p12 := p12.later hB3
      ((conv => whnf); (repeat ((first | (refine VL.cons ?_) | (refine VL.nil ?_) | (refine VC.seqS rfl ?_) | (refine VC.region ?_)); (conv => whnf))))
      ((repeat ((fail); (conv => whnf))))
      refine VCall.of (rInt_any W3 gr _ hR) ?_
      rintro e W4 ⟨rfl, hR4, y4⟩
      refine ⟨_, rfl, ?_⟩
      replace fx := fx.only y4 (by omega) (by omega) (by omega) (by omega) (by omega) (by omega) (by omega) (by omega)
      ((conv => whnf); (repeat ((first | (refine VL.cons ?_)); (conv => whnf))))
      ((repeat ((fail); (conv => whnf))))
      refine VUnit.storeB (p9.only y4 (by omega)) rfl rfl rfl ?_
      intro W5 p9' y5
      have hR5 := hR4.apartC (p9.only y4 (by omega)) (by rfl) y5 (by omega)
      replace p10 := (p10.only y4 (by omega)).only y5 (by omega)
      replace p11 := (p11.only y4 (by omega)).only y5 (by omega)
      replace p12 := (p12.only y4 (by omega)).only y5 (by omega)
      replace fx := fx.only y5 (by omega) (by omega) (by omega) (by omega) (by omega) (by omega) (by omega) (by omega)
      clear p9
      ((conv => whnf); (repeat ((first | (refine VL.cons ?_) | (refine VL.nil ?_) | (refine VC.seqS rfl ?_) | (refine VC.region ?_)); (conv => whnf))))
      ((repeat ((fail); (conv => whnf))))
      refine VCall.of (rInt_any W5 gr _ hR5) ?_
      rintro e W6 ⟨rfl, hR6, y6⟩
      refine ⟨_, rfl, ?_⟩
      replace fx := fx.only y6 (by omega) (by omega) (by omega) (by omega) (by omega) (by omega) (by omega) (by omega)
      ((conv => whnf); (repeat ((first | (refine VL.cons ?_)); (conv => whnf))))
      ((repeat ((fail); (conv => whnf))))
      refine VUnit.storeB (p10.only y6 (by omega)) rfl rfl rfl ?_
      intro W7 p10' y7
      have hR7 := hR6.apartC (p10.only y6 (by omega)) (by rfl) y7 (by omega)
      replace p9' := (p9'.only y6 (by omega)).only y7 (by omega)
      replace p11 := (p11.only y6 (by omega)).only y7 (by omega)
      replace p12 := (p12.only y6 (by omega)).only y7 (by omega)
      replace fx := fx.only y7 (by omega) (by omega) (by omega) (by omega) (by omega) (by omega) (by omega) (by omega)
      clear p10
      ((conv => whnf); (repeat ((first | (refine VL.cons ?_) | (refine VL.nil ?_) | (refine VC.seqS rfl ?_) | (refine VC.region ?_)); (conv => whnf))))
      ((repeat ((fail); (conv => whnf))))
      refine VCall.of (rInt_any W7 gr _ hR7) ?_
      rintro e W8 ⟨rfl, hR8, y8⟩
      refine ⟨_, rfl, ?_⟩
      replace fx := fx.only y8 (by omega) (by omega) (by omega) (by omega) (by omega) (by omega) (by omega) (by omega)
      ((conv => whnf); (repeat ((first | (refine VL.cons ?_)); (conv => whnf))))
      ((repeat ((fail); (conv => whnf))))
      refine VUnit.storeB (p11.only y8 (by omega)) rfl rfl rfl ?_
      intro W9 p11' y9
      have hR9 := hR8.apartC (p11.only y8 (by omega)) (by rfl) y9 (by omega)
      replace p9' := (p9'.only y8 (by omega)).only y9 (by omega)
      replace p10' := (p10'.only y8 (by omega)).only y9 (by omega)
      replace p12 := (p12.only y8 (by omega)).only y9 (by omega)
      replace fx := fx.only y9 (by omega) (by omega) (by omega) (by omega) (by omega) (by omega) (by omega) (by omega)
      clear p11
      ((conv => whnf); (repeat ((first | (refine VL.nil ?_)); (conv => whnf))))
      ((repeat ((first | (refine VL.cons ?_) | (refine VC.seqS rfl ?_) | (refine VC.region ?_) | (refine VC.seq ?_)); (conv => whnf))))
      refine VCall.of (rEnd_any W9 gr _ hR9) ?_
      rintro e W10 ⟨rfl, N, rfl⟩
      refine ⟨_, rfl, ?_⟩
      have hN10 : Below W9.heap.size W9 (W9.drewN N) := below_drewN (Below.refl _ _) N
      replace fx := fx.later hN10
      replace p9' : Blk (W9.drewN N) g9 3 #[.int .i64 (hA b)] := p9'.later hN10
      replace p10' : Blk (W9.drewN N) g10 3 #[.int .i64 (hT b)] := p10'.later hN10
      replace p11' : Blk (W9.drewN N) g11 3 #[.int .i64 (hN b)] := p11'.later hN10
      replace p12 := p12.later hN10
      rw [show Wire.endS (Wire.intS (Wire.intS (Wire.intS (some b)).2).2).2 = hE b from rfl]
      generalize W9.drewN N = W10 at *
      have k3 := fx.b3
      by_cases hh : HdOk b idx
      · have h1 := hh.e
        have h2 := hh.a
        have h3 := hh.t1
        have h4 := hh.t2
        have h5 := hh.n1
        have h6 := hh.n2
        rw [h1]
        ((conv => whnf); (repeat ((first | (refine VL.cons ?_)); (conv => whnf))))
        (repeat (first | ((first | (refine VL.cons ?_) | (refine VL.nil ?_) | (refine VC.cond ?_) | (refine VC.exit ?_) | (refine VC.skip ?_) | (refine VBool.f ?_) | (refine VBool.dF (by omega) ?_) | (refine VBool.nT (by omega) ?_)); (conv => whnf)) | (refine VRead.loadB k3 rfl rfl ?_; (conv => whnf)) | (refine VRead.loadB p9' rfl rfl ?_; (conv => whnf)) | (refine VRead.loadB p10' rfl rfl ?_; (conv => whnf)) | (refine VRead.loadB p11' rfl rfl ?_; (conv => whnf))))
        refine ⟨_, fx.ll, .inl ⟨rfl, ?_⟩⟩
        have er : (Loop.mk .ready none r.fn r.tmps r.params r.assign r.body r.defers) = r := by
          cases r; simp only at hr1 hr2; subst hr1 hr2; rfl
        refine ⟨?_, .inr ⟨b, cs, hcs, Nat.le_refl _, hh, p9'.putObj (by omega) _, p10'.putObj (by omega) _, p11'.putObj (by omega) _, none, 0, [], p12.putObj (by omega) _, Own.nil _ _, rfl⟩⟩
        have := fx.loop (o' := .loop r) (by omega) (by omega) (by omega) (by omega) (by omega) (by omega)
        show RdFix (.slice A n c) w D (.loop r) idx g3 g4 g5 g6 gx (W10.putObj (D + 1) (.loop (Loop.mk .ready none r.fn r.tmps r.params r.assign r.body r.defers)))
        rw [er]
        exact this
      · have hno : saysB idx bs = none := by rw [hcs, saysB_cons, if_neg hh]
        have hcase : hE b = false ∨ (hE b = true ∧ hA b ≠ idx) ∨ (hE b = true ∧ hA b = idx ∧ hT b < 1) ∨ (hE b = true ∧ hA b = idx ∧ 1 ≤ hT b ∧ 1099511627776 < hT b) ∨ (hE b = true ∧ hA b = idx ∧ 1 ≤ hT b ∧ hT b ≤ 1099511627776 ∧ hN b < 1) ∨
            (hE b = true ∧ hA b = idx ∧ 1 ≤ hT b ∧ hT b ≤ 1099511627776 ∧ 1 ≤ hN b ∧ 1048576 < hN b) := by
          cases h1 : hE b with
          | false => exact .inl rfl
          | true =>
            right
            by_cases h2 : hA b = idx
            case neg => exact .inl ⟨rfl, h2⟩
            by_cases h3 : 1 ≤ hT b
            case neg => exact .inr (.inl ⟨rfl, h2, by omega⟩)
            by_cases h4 : hT b ≤ 1099511627776
            case neg => exact .inr (.inr (.inl ⟨rfl, h2, h3, by omega⟩))
            by_cases h5 : 1 ≤ hN b
            case neg => exact .inr (.inr (.inr (.inl ⟨rfl, h2, h3, h4, by omega⟩)))
            by_cases h6 : hN b ≤ 1048576
            case neg => exact .inr (.inr (.inr (.inr ⟨rfl, h2, h3, h4, h5, by omega⟩)))
            exact absurd ⟨h1, h2, h3, h4, h5, h6⟩ hh
        rcases hcase with h1 | ⟨h1, h2⟩ | ⟨h1, h2, h3⟩ | ⟨h1, h2, h3, h4⟩ | ⟨h1, h2, h3, h4, h5⟩ | ⟨h1, h2, h3, h4, h5, h6⟩
        all_goals
          rw [h1]
          ((conv => whnf); (repeat ((first | (refine VL.cons ?_)); (conv => whnf))))
          (repeat (first | ((first | (refine VL.cons ?_) | (refine VL.nil ?_) | (refine VC.seqS rfl ?_) | (refine VC.region ?_) | (refine VC.cond ?_) | (refine VBool.t ?_) | (refine VBool.f ?_) | (refine VBool.dT (by omega) ?_) | (refine VBool.dF (by omega) ?_) | (refine VBool.nT (by omega) ?_) | (refine VBool.nF (by omega) ?_)); (conv => whnf)) | (refine VRead.loadB k3 rfl rfl ?_; (conv => whnf)) | (refine VRead.loadB p9' rfl rfl ?_; (conv => whnf)) | (refine VRead.loadB p10' rfl rfl ?_; (conv => whnf)) | (refine VRead.loadB p11' rfl rfl ?_; (conv => whnf))))
          refine VUnit.storeB fx.b4 rfl rfl rfl ?_
          intro V1 z4 y1
          have fx1 := fx.set4 z4 y1 (by omega) (by omega) (by omega) (by omega) (by omega) (by omega)
          ((conv => whnf); (repeat ((first | (refine VL.cons ?_)); (conv => whnf))))
          ((repeat ((fail); (conv => whnf))))
          refine VUnit.storeB fx1.b5 rfl rfl rfl ?_
          intro V2 z5 y2
          have fx2 := fx1.set5 z5 y2 (by omega) (by omega) (by omega) (by omega) (by omega) (by omega)
          ((conv => whnf); (repeat ((first | (refine VL.cons ?_)); (conv => whnf))))
          ((repeat ((fail); (conv => whnf))))
          refine VUnit.storeB fx2.b6 rfl rfl rfl ?_
          intro V3 z6 y3
          have fx3 := fx2.set6 z6 y3 (by omega) (by omega) (by omega) (by omega) (by omega) (by omega)
          ((conv => whnf); (repeat ((first | (refine VL.nil ?_) | (refine VC.ret ?_)); (conv => whnf))))
          ((repeat ((fail); (conv => whnf))))
          exact ⟨_, fx3.ll, .inr ⟨rfl, ⟨fx3.loop (by omega) (by omega) (by omega) (by omega) (by omega) (by omega), hno⟩⟩⟩
    · have hp0' : ¬ Frame.place l k = 0 := fun e => k0 (hp0.1 e)
      rcases ac with ⟨h0, _⟩ | ⟨h, cs, hcs, hk1, hh, p9, p10, p11, Ad, cd, acc, p12, hOa, hga⟩
      · exact absurd h0 k0
      have hcb : cs[k - 1]? = some b := by
        rw [hcs] at hb
        obtain ⟨j, rfl⟩ : ∃ j, k = j + 1 := ⟨k - 1, by omega⟩
        simpa using hb
      have htk : cs.take (k + 1 - 1) = cs.take (k - 1) ++ [b] := by
        rw [show k + 1 - 1 = (k - 1) + 1 from by omega]
        exact take_snoc hcb
      have hsn : gather (hN h) [] (cs.take (k + 1 - 1)) = if (b.length : Int) = min 1000 (hN h - acc.length) then some (acc ++ b) else none := by rw [htk, gather_snoc, hga]
      have hn2 := hh.n2
      have hn1 := hh.n1
      have hal : (acc.length : Int) ≤ hN h := gather_le (by simp; omega) hga
      have k12 := p12
      by_cases hlen : (b.length : Int) = min 1000 (hN h - acc.length)
      · rw [if_pos hlen] at hsn
        ((conv => whnf); (repeat ((first | (refine VC.block ?_)); (conv => whnf))))
        (repeat (first | ((first | (refine VL.cons ?_) | (refine VL.nil ?_) | (refine VC.seqS rfl ?_) | (refine VC.region ?_) | (refine VC.cond ?_) | (refine VC.skip ?_) | (refine VBool.dF (by omega) ?_) | (refine VBool.nT (by omega) ?_) | (refine VRead.lenS ?_) | (refine VWrap.i64 (by omega) (by omega) ?_) | (refine VC.seq ?_)); (conv => whnf)) | (refine VBool.dF hp0' ?_; (conv => whnf)) | (refine VRead.loadB p11 rfl rfl ?_; (conv => whnf)) | (refine VRead.loadB p12 rfl rfl ?_; (conv => whnf)) | (refine VRead.minZ (z := (b.length : Int)) (by rw [hlen]; split <;> omega) ?_; (conv => whnf))))
        refine VSem.appO hOa (Own.reads hO2) (by omega) (by omega) ?_
        intro Ad2 cd2 W3 hOa3 y3 _
        have hrow : ∀ g, (Value.slice Ad acc.length cd).ownBlock = some g → D ≤ g ∧ g ≠ D ∧ g ≠ D + 1 ∧ g < W2.heap.size := fun g hg => by
          obtain ⟨h1, cs0, h2⟩ := row_cells hOa g hg
          refine ⟨h1, fun e => ?_, fun e => ?_, (World.ownsRow.lt hOa g hg).2⟩
          · subst e; rw [fx.dd] at h2; cases h2
          · subst e; rw [fx.ll] at h2; cases h2
        have keep : ∀ i, i < W2.heap.size → i < D ∨ i = D ∨ i = D + 1 → W3.heap[i]? = W2.heap[i]? := fun i hi hid => y3.block i hi (fun e => by
          have := hrow i e.symm
          omega)
        have hsz3 := y3.size
        have q3 : RdFix (.slice A n c) w D (.loop { r with state := .busy }) idx g3 g4 g5 g6 gx W3 :=
          ⟨(keep g3 (by omega) (.inl (by omega))).trans fx.b3, (keep g4 (by omega) (.inl (by omega))).trans fx.b4, (keep g5 (by omega) (.inl (by omega))).trans fx.b5, (keep g6 (by omega) (.inl (by omega))).trans fx.b6, (keep gx (by omega) (.inl (by omega))).trans fx.bx,
            (keep D (by omega) (.inr (.inl rfl))).trans fx.dd, (keep (D + 1) (by omega) (.inr (.inr rfl))).trans fx.ll, fx.since.grown y3 fx.since.size (fun g hg => by have := hrow g hg; omega)⟩
        have r9 : Blk W3 g9 3 #[.int .i64 (hA h)] := (keep g9 (by omega) (.inl (by omega))).trans p9
        have r10 : Blk W3 g10 3 #[.int .i64 (hT h)] := (keep g10 (by omega) (.inl (by omega))).trans p10
        have r11 : Blk W3 g11 3 #[.int .i64 (hN h)] := (keep g11 (by omega) (.inl (by omega))).trans p11
        have r12 : Blk W3 g12 31 #[.slice Ad acc.length cd] := (keep g12 (by omega) (.inl (by omega))).trans p12
        ((conv => whnf); (repeat ((first | (refine VL.cons ?_)); (conv => whnf))))
        ((repeat ((fail); (conv => whnf))))
        refine VUnit.storeB r12 rfl rfl rfl ?_
        intro W4 r12' y4
        have q4 := q3.only y4 (by omega) (by omega) (by omega) (by omega) (by omega) (by omega) (by omega) (by omega)
        have hOa4 : Own W4 D (.slice Ad2 (acc.length + m) cd2) (acc.length + m) (acc ++ b) := ownsRow_stay hOa3 (fun g hg => y4.block g (World.ownsRow.lt hOa3 g hg).2 (fun e => by injection e with e; have := (World.ownsRow.lt hOa3 g hg).1; omega))
        ((conv => whnf); (repeat ((first | (refine VL.nil ?_)); (conv => whnf))))
        ((repeat ((fail); (conv => whnf))))
        refine ⟨_, q4.ll, .inl ⟨rfl, ?_⟩⟩
        have er : (Loop.mk .ready none r.fn r.tmps r.params r.assign r.body r.defers) = r := by
          cases r; simp only at hr1 hr2; subst hr1 hr2; rfl
        have e5 : (acc ++ b).length = acc.length + m := by rw [List.length_append, hml]
        refine ⟨?_, .inr ⟨h, cs, hcs, by omega, hh, (r9.only y4 (by omega)).putObj (by omega) _, (r10.only y4 (by omega)).putObj (by omega) _, (r11.only y4 (by omega)).putObj (by omega) _, Ad2, cd2, acc ++ b, ?_, ?_, hsn⟩⟩
        · have := q4.loop (o' := .loop r) (by omega) (by omega) (by omega) (by omega) (by omega) (by omega)
          show RdFix (.slice A n c) w D (.loop r) idx g3 g4 g5 g6 gx (W4.putObj (D + 1) (.loop (Loop.mk .ready none r.fn r.tmps r.params r.assign r.body r.defers)))
          rw [er]
          exact this
        · rw [e5]
          exact Blk.putObj (T := 31) (cs := #[.slice Ad2 (acc.length + m) cd2]) r12' (by omega) _
        · rw [e5]
          exact hOa4.loop q4.ll _
      · rw [if_neg hlen] at hsn
        have hno : saysB idx bs = none := by
          rw [hcs, saysB_cons, if_pos hh, gather_none hsn]
        ((conv => whnf); (repeat ((first | (refine VC.block ?_)); (conv => whnf))))
        (repeat (first | ((first | (refine VL.cons ?_) | (refine VL.nil ?_) | (refine VC.seqS rfl ?_) | (refine VC.region ?_) | (refine VC.cond ?_) | (refine VC.skip ?_) | (refine VBool.dF (by omega) ?_) | (refine VBool.nF (by omega) ?_) | (refine VRead.lenS ?_) | (refine VWrap.i64 (by omega) (by omega) ?_) | (refine VC.seq ?_)); (conv => whnf)) | (refine VBool.dF hp0' ?_; (conv => whnf)) | (refine VRead.loadB p11 rfl rfl ?_; (conv => whnf)) | (refine VRead.loadB p12 rfl rfl ?_; (conv => whnf)) | (refine VRead.minZ (z := min 1000 (hN h - acc.length)) (by split <;> omega) ?_; (conv => whnf))))
        refine VUnit.storeB fx.b4 rfl rfl rfl ?_
        intro V1 z4 y1
        have fx1 := fx.set4 z4 y1 (by omega) (by omega) (by omega) (by omega) (by omega) (by omega)
        ((conv => whnf); (repeat ((first | (refine VL.cons ?_)); (conv => whnf))))
        ((repeat ((fail); (conv => whnf))))
        refine VUnit.storeB fx1.b5 rfl rfl rfl ?_
        intro V2 z5 y2
        have fx2 := fx1.set5 z5 y2 (by omega) (by omega) (by omega) (by omega) (by omega) (by omega)
        ((conv => whnf); (repeat ((first | (refine VL.cons ?_)); (conv => whnf))))
        ((repeat ((fail); (conv => whnf))))
        refine VUnit.storeB fx2.b6 rfl rfl rfl ?_
        intro V3 z6 y3
        have fx3 := fx2.set6 z6 y3 (by omega) (by omega) (by omega) (by omega) (by omega) (by omega)
        ((conv => whnf); (repeat ((first | (refine VL.nil ?_) | (refine VC.ret ?_)); (conv => whnf))))
        ((repeat ((fail); (conv => whnf))))
        exact ⟨_, fx3.ll, .inr ⟨rfl, ⟨fx3.loop (by omega) (by omega) (by omega) (by omega) (by omega) (by omega), hno⟩⟩⟩
  · rintro e W ⟨rfl, k, hk, hh⟩
    rcases hh with ⟨hno, hJ⟩ | ⟨_, hX⟩
    · have hkk : k = bs.length := by rw [← hbs]; exact Frame.reach_eq hk hno
      refine ⟨_, rfl, r, hJ.fix.ll, by rw [hr1]; decide, ?_⟩
      rw [hr2]
      (conv => whnf)
      obtain ⟨W2, hW2⟩ : ∃ W2, W2 = W.putObj (D + 1) (.loop { r with state := .exhausted, pending := none }) := ⟨_, rfl⟩
      rw [← hW2]
      have fx : RdFix (.slice A n c) w D (.loop { r with state := .exhausted, pending := none }) idx g3 g4 g5 g6 gx W2 := by rw [hW2]; exact hJ.fix.loop (by omega) (by omega) (by omega) (by omega) (by omega) (by omega)
      have ac : RdAcc bs idx D g9 g10 g11 g12 k W2 := by rw [hW2]; exact hJ.acc.loop hJ.fix.ll (by omega) (by omega) (by omega) (by omega) _
      have hDl : D + 1 < W2.heap.size := (Array.getElem?_eq_some_iff.1 fx.ll).1
      clear hW2 hJ
      obtain ⟨T, N, x, A2, c2, p10, p11, p12, hOx, hval⟩ : ∃ (T N : Int) (x : List UInt8) (A2 : Option Addr) (c2 : Nat), Blk W2 g10 3 #[.int .i64 T] ∧ Blk W2 g11 3 #[.int .i64 N] ∧ Blk W2 g12 31 #[.slice A2 x.length c2] ∧ Own W2 D (.slice A2 x.length c2) x.length x ∧
          saysB idx bs = if 0 < N ∧ (x.length : Int) = N then some (T, x) else none := by
        rcases ac with ⟨h0, p9, p10, p11, p12⟩ | ⟨h, cs, hcs, hk1, hh, p9, p10, p11, Ad, cd, acc, p12, hOa, hga⟩
        · have : bs = [] := List.eq_nil_of_length_eq_zero (by omega)
          exact ⟨0, 0, [], none, 0, p10, p11, p12, Own.nil _ _, by rw [this]; rfl⟩
        · have : cs.take (k - 1) = cs := List.take_of_length_le (by rw [hcs, List.length_cons] at hkk; omega)
          rw [this] at hga
          refine ⟨_, _, acc, Ad, cd, p10, p11, p12, hOa, ?_⟩
          rw [hcs, saysB_cons, if_pos hh, hga]
          have := hh.n1
          simp only
          by_cases e : (acc.length : Int) = hN h
          · rw [if_pos e, if_pos ⟨by omega, e⟩]
          · rw [if_neg e, if_neg (fun h => e h.2)]
      have fin : ∀ (b : Bool) (W5 : World), (b = true → 0 < N ∧ (x.length : Int) = N) → (b = false → ¬ (0 < N ∧ (x.length : Int) = N)) → Own W5 D (.slice A2 x.length c2) x.length x → SaysV W5 w.heap.size (saysS l idx) T (.slice A2 x.length c2) b := fun b W5 h1 h2 h3 => by
        rw [eS, hval]
        cases b with
        | true => rw [if_pos (h1 rfl)]; exact ⟨rfl, rfl, A2, c2, rfl, rows_more h3 (by omega)⟩
        | false => rw [if_neg (h2 rfl)]; exact ⟨rfl, _, _, _, rfl⟩
      have hrow : ∀ g, (Value.slice A2 x.length c2).ownBlock = some g → D ≤ g ∧ g ≠ D ∧ g < W2.heap.size := fun g hg => by
        obtain ⟨h1, cs0, h2⟩ := row_cells hOx g hg
        refine ⟨h1, fun e => ?_, (World.ownsRow.lt hOx g hg).2⟩
        subst e; rw [fx.dd] at h2; cases h2
      refine VW.vc (by kernel_rfl) ?_
      ((conv => whnf); (repeat ((fail); (conv => whnf))))
      refine VC.seq ?_
      refine VC.draw ?_
      refine VDraw.seg (fun X => Blk X g10 3 #[.int .i64 T] ∧ Blk X g11 3 #[.int .i64 N] ∧ Blk X g12 31 #[.slice A2 x.length c2]) [([0, 1, 2, 3, 4, 5, 6, 7, 8, 9], 10), ([], 11), ([], 12)] [] (by kernel_rfl) (by kernel_rfl) ⟨p10, p11, p12⟩ ?_
      (conv => whnf)
      have tail : ∀ (b : Bool) (V1 V2 V3 : World), Blk V1 g4 3 #[.int .i64 T] → (W2.drewN 1).grownBy V1 (some g4) → Blk V2 g5 31 #[.slice A2 x.length c2] → V1.grownBy V2 (some g5) → Blk V3 g6 4 #[.bool b] → V2.grownBy V3 (some g6) →
          (b = true → 0 < N ∧ (x.length : Int) = N) → (b = false → ¬ (0 < N ∧ (x.length : Int) = N)) → V3.heap[D]? = some (.deferred (some [])) ∧ Blk (V3.putObj D (.deferred none)) g4 3 #[.int .i64 T] ∧ Blk (V3.putObj D (.deferred none)) g5 31 #[.slice A2 x.length c2] ∧
          Blk (V3.putObj D (.deferred none)) g6 4 #[.bool b] ∧ (∃ T v ok, Ending.returned (.tuple #[.int .i64 T, v, .bool ok]) = .returned (.tuple #[.int .i64 T, v, .bool ok]) ∧ SaysV (V3.putObj D (.deferred none)) w.heap.size (saysS l idx) T v ok) ∧
          SaysV (V3.putObj D (.deferred none)) w.heap.size (saysS l idx) T (.slice A2 x.length c2) b ∧ Below w.heap.size w (V3.putObj D (.deferred none)) := by
        intro b V1 V2 V3 z4 y1 z5 y2 z6 y3 hb1 hb2
        have dd0 : (W2.drewN 1).heap[D]? = some (.deferred (some [])) := fx.dd
        have dd3 := obj_only (obj_only (obj_only dd0 y1 (by omega)) y2 (by omega)) y3 (by omega)
        have hO0 : Own (W2.drewN 1) D (.slice A2 x.length c2) x.length x := rows_below hOx (below_drewN (Below.refl W2.heap.size W2) 1) (Nat.le_refl _)
        have hO3 : Own (V3.putObj D (.deferred none)) D (.slice A2 x.length c2) x.length x := ownsRow_stay hO0 (fun g hg => by
          have h := hrow g hg
          have e0 : (W2.drewN 1).heap.size = W2.heap.size := rfl
          have := y1.size
          have := y2.size
          rw [World.putObj_heap_other (by omega), y3.block g (by omega) (fun e => by injection e; omega), y2.block g (by omega) (fun e => by injection e; omega), y1.block g (by omega) (fun e => by injection e; omega)])
        have hS := fin b (V3.putObj D (.deferred none)) hb1 hb2 hO3
        refine ⟨dd3, ((z4.only y2 (by omega)).only y3 (by omega)).putObj (by omega) _, (z5.only y3 (by omega)).putObj (by omega) _, z6.putObj (by omega) _, ⟨_, _, _, rfl, hS⟩, hS, Below.putObj ?_ (by omega) _⟩
        have b0 : Below w.heap.size w (W2.drewN 1) := below_drewN fx.since 1
        exact only_new (only_new (only_new b0 y1 (by omega) b0.size) y2 (by omega) (by have := b0.size; have := y1.size; omega)) y3 (by omega) (by have := b0.size; have := y1.size; have := y2.size; omega)
      have k4 : Blk (W2.drewN 1) g4 3 #[.int .i64 0] := fx.b4
      have k5 : Blk (W2.drewN 1) g5 31 #[.slice none 0 0] := fx.b5
      have k6 : Blk (W2.drewN 1) g6 4 #[.bool false] := fx.b6
      have k10 : Blk (W2.drewN 1) g10 3 #[.int .i64 T] := p10
      have k11 : Blk (W2.drewN 1) g11 3 #[.int .i64 N] := p11
      have k12 : Blk (W2.drewN 1) g12 31 #[.slice A2 x.length c2] := p12
      by_cases hN0 : 0 < N
      · (repeat ((first | (refine VRead.loadBS (fun X hX => hX.1) rfl rfl ?_) | (refine VRead.loadBS (fun X hX => hX.2.1) rfl rfl ?_) | (refine VRead.loadBS (fun X hX => hX.2.2) rfl rfl ?_) | (refine VQ.cons ?_) | (refine VQ.nil ?_) | (refine VG.cons ?_) | (refine VBool.t ?_) | (refine VBool.dT (by omega) ?_) | (refine VRead.lenS ?_)); (conv => whnf)))
        refine VUnit.storeB k4 rfl rfl rfl ?_
        intro V1 z4 y1
        (conv => whnf)
        refine Keep.mk ⟨k10.only y1 (by omega), k11.only y1 (by omega), k12.only y1 (by omega)⟩ ?_
        (conv => whnf)
        ((repeat ((first | (refine VQ.nil ?_) | (refine VG.cons ?_)); (conv => whnf))))
        refine VUnit.storeB (k5.only y1 (by omega)) rfl rfl rfl ?_
        intro V2 z5 y2
        (conv => whnf)
        refine Keep.mk ⟨(k10.only y1 (by omega)).only y2 (by omega), (k11.only y1 (by omega)).only y2 (by omega), (k12.only y1 (by omega)).only y2 (by omega)⟩ ?_
        (conv => whnf)
        ((repeat ((first | (refine VQ.nil ?_) | (refine VG.cons ?_)); (conv => whnf))))
        refine VUnit.storeB ((k6.only y1 (by omega)).only y2 (by omega)) rfl rfl rfl ?_
        intro V3 z6 y3
        (conv => whnf)
        refine Keep.mk ⟨((k10.only y1 (by omega)).only y2 (by omega)).only y3 (by omega), ((k11.only y1 (by omega)).only y2 (by omega)).only y3 (by omega), ((k12.only y1 (by omega)).only y2 (by omega)).only y3 (by omega)⟩ ?_
        (conv => whnf)
        ((repeat ((first | (refine VC.ret ?_) | (refine VQ.nil ?_) | (refine VG.nil ?_)); (conv => whnf))))
        have tt := tail (decide ((x.length : Int) = N)) V1 V2 V3 z4 y1 z5 y2 z6 y3 (fun h => ⟨hN0, of_decide_eq_true h⟩) (fun h hh => of_decide_eq_false h hh.2)
        refine ⟨tt.1, ?_⟩
        refine VRes.cell3 rfl rfl rfl tt.2.1 tt.2.2.1 tt.2.2.2.1 ?_
        exact ⟨⟨_, _, _, rfl, tt.2.2.2.2.2.1⟩, tt.2.2.2.2.2.2⟩
      · (repeat ((first | (refine VRead.loadBS (fun X hX => hX.1) rfl rfl ?_) | (refine VRead.loadBS (fun X hX => hX.2.1) rfl rfl ?_) | (refine VRead.loadBS (fun X hX => hX.2.2) rfl rfl ?_) | (refine VQ.cons ?_) | (refine VQ.nil ?_) | (refine VG.cons ?_) | (refine VBool.f ?_) | (refine VBool.dF (by omega) ?_)); (conv => whnf)))
        refine VUnit.storeB k4 rfl rfl rfl ?_
        intro V1 z4 y1
        (conv => whnf)
        refine Keep.mk ⟨k10.only y1 (by omega), k11.only y1 (by omega), k12.only y1 (by omega)⟩ ?_
        (conv => whnf)
        ((repeat ((first | (refine VQ.nil ?_) | (refine VG.cons ?_)); (conv => whnf))))
        refine VUnit.storeB (k5.only y1 (by omega)) rfl rfl rfl ?_
        intro V2 z5 y2
        (conv => whnf)
        refine Keep.mk ⟨(k10.only y1 (by omega)).only y2 (by omega), (k11.only y1 (by omega)).only y2 (by omega), (k12.only y1 (by omega)).only y2 (by omega)⟩ ?_
        (conv => whnf)
        ((repeat ((first | (refine VQ.nil ?_) | (refine VG.cons ?_)); (conv => whnf))))
        refine VUnit.storeB ((k6.only y1 (by omega)).only y2 (by omega)) rfl rfl rfl ?_
        intro V3 z6 y3
        (conv => whnf)
        refine Keep.mk ⟨((k10.only y1 (by omega)).only y2 (by omega)).only y3 (by omega), ((k11.only y1 (by omega)).only y2 (by omega)).only y3 (by omega), ((k12.only y1 (by omega)).only y2 (by omega)).only y3 (by omega)⟩ ?_
        (conv => whnf)
        ((repeat ((first | (refine VC.ret ?_) | (refine VQ.nil ?_) | (refine VG.nil ?_)); (conv => whnf))))
        have tt := tail false V1 V2 V3 z4 y1 z5 y2 z6 y3 (fun h => by cases h) (fun _ hh => hN0 hh.1)
        refine ⟨tt.1, ?_⟩
        refine VRes.cell3 rfl rfl rfl tt.2.1 tt.2.2.1 tt.2.2.2.1 ?_
        exact ⟨⟨_, _, _, rfl, tt.2.2.2.2.2.1⟩, tt.2.2.2.2.2.2⟩
    · refine ⟨_, rfl, _, hX.fix.ll, by simp, ?_⟩
      (conv => whnf)
      have fx := hX.fix.loop (o' := .loop { r with state := .exhausted, pending := some .ret }) (by omega) (by omega) (by omega) (by omega) (by omega) (by omega)
      refine ⟨fx.dd, ?_⟩
      have z4 := fx.b4.putObj (r := D) (by omega) (.deferred none)
      have z5 := fx.b5.putObj (r := D) (by omega) (.deferred none)
      have z6 := fx.b6.putObj (r := D) (by omega) (.deferred none)
      refine VRes.cell3 rfl rfl rfl z4 z5 z6 ?_
      refine ⟨⟨_, _, _, rfl, ?_⟩, Below.putObj fx.since (by omega) _⟩
      rw [eS, hX.no]
      exact ⟨rfl, none, 0, 0, rfl⟩
end Go.Proofs.Ytebeidnmplnlpaa
end

section
set_option maxRecDepth 10000
namespace Go.Proofs.Ytebeidnmplnlpaa
set_option linter.unusedVariables false
open Go.RowKit

theorem VRes.tmp4 {P : Program} {a b c d : Nat} {σ : Env} {w : World} {R : Ending → World → Prop} (h : R (.returned (.tuple #[σ a, σ b, σ c, σ d])) w) : VRes P [.tmp a, .tmp b, .tmp c, .tmp d] σ w R := ⟨⟨_, by simp [resE], h⟩⟩
abbrev Sn := Nat × Int × List UInt8
def newStep (acc : Option Sn) (p : List UInt8 × Fl) : Option Sn := match snNum p.1 with
  | some n => match saysS p.2.b n with
    | some y => some (n, y.1, y.2)
    | none => acc
  | none => acc
def newest (T : PT) : Option Sn := T.foldl newStep none
def SnV (W : World) (B : Nat) (o : Option Sn) (i t : Int) (v : Value) : Prop := match o with
  | some y => i = (y.1 : Int) ∧ 1 ≤ y.1 ∧ y.1 ≤ 1099511627776 ∧ t = y.2.1 ∧ ∃ A c, v = .slice A y.2.2.length c ∧ Own W B (.slice A y.2.2.length c) y.2.2.length y.2.2
  | none => i = 0 ∧ t = 0 ∧ v = .slice none 0 0
theorem SnV.below {W W' : World} {B : Nat} {o : Option Sn} {i t : Int} {v : Value} (h : SnV W B o i t v) (hb : Below W.heap.size W W') : SnV W' B o i t v := by
  unfold SnV at *
  cases o with
  | none => exact h
  | some y =>
    obtain ⟨h1, h2, h3, h4, A, c, h5, h6⟩ := h
    exact ⟨h1, h2, h3, h4, A, c, h5, rows_below h6 hb (Nat.le_refl _)⟩
def snErr (o : Option Sn) : Int := match o with | some _ => 0 | none => 3
set_option maxHeartbeats 2000000 in
theorem snapNewest_any (W : World) (U : Foot) (d : Nat) (S : DS) (h : Dsk W U d S) :
    Calls Try.prog 22 #[.pointer (some ⟨d, 0, none⟩)] W fun e W' => (∃ i t v, e = .returned (.tuple #[.int .i64 i, .int .i64 t, v, .int .i64 (snErr (newest S.t))]) ∧ SnV W' W.heap.size (newest S.t) i t v) ∧ Below W.heap.size W W' := by
  have hfew := h.wf.t.few
  have hris := h.wf.t.ris
  have hroom := h.wf.k.room
  have hfit := h.wf.t.fit
  refine calls_vc Try.func22 rfl (by kernel_rfl) ?_
  ((conv => whnf); (repeat ((first | (refine VL.cons ?_) | (refine VL.nil ?_) | (refine VC.seqS rfl ?_) | (refine VC.region ?_) | (refine VC.label ?_) | (refine VC.scope ?_)); (conv => whnf))))
  ((repeat ((first | (refine VL.cons ?_) | (refine VC.seqS rfl ?_) | (refine VC.region ?_) | (refine VC.seq ?_)); (conv => whnf))))
  refine VCall.of (oList W U d S h) ?_
  rintro e W1 ⟨Al, kl, rfl, hOl, hB1⟩
  refine ⟨_, rfl, ?_⟩
  ((conv => whnf); (repeat ((first | (refine VL.cons ?_)); (conv => whnf))))
  ((repeat ((first | (refine VL.cons ?_) | (refine VL.nil ?_) | (refine VC.block ?_) | (refine VRead.lenS ?_)); (conv => whnf))))
  refine VC.loop [6, 7, 8, 20] [(6, 8), (10, 16), (20, 49)] (fun q vs w => ∃ (j : Nat) (i t : Int) (v : Value), vs = [.int .i64 i, .int .i64 t, v, .int .i64 (j : Int)] ∧ q = S.t.length - j ∧ j ≤ S.t.length ∧ SnV w W.heap.size ((S.t.take j).foldl newStep none) i t v ∧ Below W1.heap.size W1 w) (by kernel_rfl)
    ⟨_, 0, 0, 0, .slice none 0 0, rfl, rfl, by omega, ⟨rfl, rfl, rfl⟩, Below.refl _ _⟩ ?_
  rintro q τ vs w ⟨j, i, t, v, rfl, rfl, hj, hV, hBw⟩
  have hB0w := hB1.trans (hBw.mono hB1.size)
  by_cases hjn : j < S.t.length
  case neg =>
    obtain rfl : j = S.t.length := by omega
    rw [List.take_length] at hV
    have hnw : S.t.foldl newStep none = newest S.t := rfl
    rw [hnw] at hV
    cases hs : newest S.t with
    | none =>
      rw [hs] at hV
      obtain ⟨rfl, rfl, rfl⟩ := hV
      ((conv => whnf); (repeat ((first | (refine VL.cons ?_) | (refine VL.nil ?_) | (refine VC.seqS rfl ?_) | (refine VC.region ?_)); (conv => whnf))))
      ((repeat ((first | (refine VL.cons ?_) | (refine VL.nil ?_) | (refine VC.seqS rfl ?_) | (refine VC.region ?_) | (refine VC.cond ?_) | (refine VC.exit ?_) | (refine VC.ret ?_) | (refine VBool.t ?_) | (refine VBool.dF (by omega) ?_) | (refine VC.seq ?_)); (conv => whnf))))
      refine VRes.tmp4 ?_
      exact ⟨⟨0, 0, .slice none 0 0, rfl, ⟨rfl, rfl, rfl⟩⟩, hB0w⟩
    | some y =>
      rw [hs] at hV
      obtain ⟨rfl, h1, h2, rfl, A, c, rfl, hO⟩ := hV
      ((conv => whnf); (repeat ((first | (refine VL.cons ?_) | (refine VL.nil ?_) | (refine VC.seqS rfl ?_) | (refine VC.region ?_)); (conv => whnf))))
      ((repeat ((first | (refine VL.cons ?_) | (refine VL.nil ?_) | (refine VC.seqS rfl ?_) | (refine VC.region ?_) | (refine VC.cond ?_) | (refine VC.exit ?_) | (refine VC.ret ?_) | (refine VC.skip ?_) | (refine VBool.dF (by omega) ?_) | (refine VC.seq ?_)); (conv => whnf))))
      refine VRes.tmp4 ?_
      exact ⟨⟨_, _, _, rfl, ⟨rfl, h1, h2, rfl, A, c, rfl, hO⟩⟩, hB0w⟩
  obtain ⟨p, hp⟩ : ∃ p, S.t[j]? = some p := ⟨_, List.getElem?_eq_getElem hjn⟩
  have hpm := List.mem_of_getElem? hp
  have hpn := (h.wf.t.names p hpm).2
  have htk : (S.t.take (j + 1)).foldl newStep none = newStep ((S.t.take j).foldl newStep none) p := by rw [take_snoc hp, List.foldl_append]; rfl
  have hpu := len_used hpm
  obtain ⟨ad, u, rfl, _, hu, hcell⟩ := ((Reads.row hOl).below hBw).at_ hjn
  obtain ⟨x', hx', rfl⟩ := map_at hu
  rw [List.getElem?_map, hp] at hx'
  obtain rfl := Option.some.inj hx'
  have hcell' : w.cell? (ad.add j) = some (.string (txt p.1)) := hcell
  generalize (S.t.take j).foldl newStep none = acc at *
  ((conv => whnf); (repeat ((first | (refine VL.cons ?_) | (refine VL.nil ?_) | (refine VC.seqS rfl ?_) | (refine VC.region ?_)); (conv => whnf))))
  (repeat (first | ((first | (refine VL.cons ?_) | (refine VL.nil ?_) | (refine VC.seqS rfl ?_) | (refine VC.region ?_) | (refine VC.cond ?_) | (refine VC.block ?_) | (refine VC.skip ?_) | (refine VBool.dT (by omega) ?_) | (refine VRead.load1 (by assumption) ?_) | (refine VRead.at1 (by omega) ?_) | (refine VC.seq ?_)); (conv => whnf)) | (refine VRead.at1 hjn ?_; (conv => whnf))))
  refine VCall.of (snapNumber_any p.1 w (by omega)) ?_
  rintro e w2 ⟨rfl, hB2⟩
  refine ⟨_, rfl, ?_⟩
  cases hN : snNum p.1 with
  | none =>
    have e1 : newStep acc p = acc := by unfold newStep; rw [hN]
    ((conv => whnf); (repeat ((first | (refine VL.cons ?_) | (refine VL.nil ?_)); (conv => whnf))))
    ((repeat ((first | (refine VL.cons ?_) | (refine VL.nil ?_) | (refine VC.seqS rfl ?_) | (refine VC.region ?_) | (refine VC.cond ?_) | (refine VC.exit ?_) | (refine VBool.t ?_) | (refine VWrap.i64 (by omega) (by omega) ?_) | (refine VC.seq ?_)); (conv => whnf))))
    exact ⟨_, by omega, j + 1, i, t, v, rfl, rfl, by omega, by rw [htk, e1]; exact hV.below hB2, hBw.trans (hB2.mono hBw.size)⟩
  | some k =>
    obtain ⟨_, hk1, hk2⟩ := snNum_some hN
    have hB02 := hB0w.trans (hB2.mono hB0w.size)
    have hd2 : Dsk w2 U d S := ⟨h.disk.below hB02 (Nat.le_refl _), fun j hj => Nat.lt_of_lt_of_le (h.lt j hj) hB02.size⟩
    ((conv => whnf); (repeat ((first | (refine VL.cons ?_) | (refine VL.nil ?_)); (conv => whnf))))
    ((repeat ((first | (refine VL.cons ?_) | (refine VL.nil ?_) | (refine VC.seqS rfl ?_) | (refine VC.region ?_) | (refine VC.cond ?_) | (refine VC.skip ?_) | (refine VBool.f ?_) | (refine VC.seq ?_)); (conv => whnf))))
    refine VCall.of (oRead w2 U d S p.1 hd2 (by omega)) ?_
    rintro e w3 ⟨u3, rfl, hrd, hB3⟩
    refine ⟨_, rfl, ?_⟩
    unfold readR at hrd
    rw [tfind_of hris.nd (show (p.1, p.2) ∈ S.t from hpm)] at hrd
    obtain ⟨A3, k3, rfl, hO3⟩ := hrd
    ((conv => whnf); (repeat ((first | (refine VL.cons ?_) | (refine VL.nil ?_) | (refine VC.seqS rfl ?_) | (refine VC.region ?_)); (conv => whnf))))
    ((repeat ((fail); (conv => whnf))))
    refine VCall.of (snapRead_any A3 p.2.b.length k3 p.2.b (k : Int) w3 (by omega) hO3.cap hO3.reads) ?_
    rintro e w4 ⟨⟨T, v4, ok, rfl, hS4⟩, hB4⟩
    refine ⟨_, rfl, ?_⟩
    have hB24 : Below w.heap.size w w4 := (hB2.trans (hB3.mono hB2.size)).trans (hB4.mono (Nat.le_trans hB2.size hB3.size))
    cases hs : saysS p.2.b (k : Int) with
    | none =>
      rw [hs] at hS4
      obtain ⟨rfl, A, n, c, rfl⟩ := hS4
      have e1 : newStep acc p = acc := by unfold newStep; rw [hN]; simp only; rw [hs]
      ((conv => whnf); (repeat ((first | (refine VL.cons ?_) | (refine VL.nil ?_)); (conv => whnf))))
      ((repeat ((first | (refine VL.cons ?_) | (refine VL.nil ?_) | (refine VC.seqS rfl ?_) | (refine VC.region ?_) | (refine VC.cond ?_) | (refine VC.exit ?_) | (refine VBool.t ?_) | (refine VWrap.i64 (by omega) (by omega) ?_) | (refine VC.seq ?_)); (conv => whnf))))
      exact ⟨_, by omega, j + 1, i, t, v, rfl, rfl, by omega, by rw [htk, e1]; exact hV.below hB24, hBw.trans (hB24.mono hBw.size)⟩
    | some y =>
      rw [hs] at hS4
      obtain ⟨rfl, rfl, A, c, rfl, hO4⟩ := hS4
      have e1 : newStep acc p = some (k, y.1, y.2) := by unfold newStep; rw [hN]; simp only; rw [hs]
      ((conv => whnf); (repeat ((first | (refine VL.cons ?_) | (refine VL.nil ?_)); (conv => whnf))))
      ((repeat ((first | (refine VL.cons ?_) | (refine VL.nil ?_) | (refine VC.seqS rfl ?_) | (refine VC.region ?_) | (refine VC.cond ?_) | (refine VC.skip ?_) | (refine VBool.f ?_) | (refine VWrap.i64 (by omega) (by omega) ?_) | (refine VC.seq ?_)); (conv => whnf))))
      exact ⟨_, by omega, j + 1, (k : Int), y.1, _, rfl, rfl, by omega, by rw [htk, e1]; exact ⟨rfl, hk1, hk2, rfl, A, c, rfl, rows_more hO4 (by have := hB0w.size; have := hB2.size; have := hB3.size; omega)⟩, hBw.trans (hB24.mono hBw.size)⟩
end Go.Proofs.Ytebeidnmplnlpaa
end

section
set_option maxRecDepth 10000
namespace Go.Proofs.Ytebeidnmplnlpaa
set_option linter.unusedVariables false
open Go.RowKit

/-! ### what is in a file -/
def fileB (i t : Int) (data : List UInt8) : List UInt8 := Frame.laid (hdB i t data.length :: chunks data)
def fullF (b : List UInt8) : Fl := ⟨b, b.length⟩
theorem chunks_ind {P : List UInt8 → Prop} (h0 : P []) (h1 : ∀ l, l ≠ [] → P (l.drop 1000) → P l) : ∀ (n : Nat) (l : List UInt8), l.length ≤ n → P l
  | 0, l, h => by
    obtain rfl : l = [] := List.eq_nil_of_length_eq_zero (by omega)
    exact h0
  | n + 1, l, h => by
    by_cases hl : l = []
    · subst hl; exact h0
    · have : 0 < l.length := List.length_pos_iff.2 hl
      exact h1 l hl (chunks_ind h0 h1 n _ (by rw [List.length_drop]; omega))
theorem chunks_ok (l : List UInt8) : Frame.Ok1 (chunks l) :=
  chunks_ind (P := fun l => Frame.Ok1 (chunks l)) (fun b hb => by simp [chunks_nil] at hb) (fun l hl ih b hb => by
    have : 0 < l.length := List.length_pos_iff.2 hl
    rw [chunks_cons hl] at hb
    rcases List.mem_cons.1 hb with rfl | hb
    · rw [List.length_take]; omega
    · exact ih b hb) l.length l (Nat.le_refl _)
theorem chunks_flat (l : List UInt8) : (chunks l).flatten = l :=
  chunks_ind (P := fun l => (chunks l).flatten = l) rfl (fun l hl ih => by rw [chunks_cons hl, List.flatten_cons, ih, List.take_append_drop]) l.length l (Nat.le_refl _)
theorem intS_put' {v : Int} (h : -9223372036854775808 ≤ v ∧ v ≤ 9223372036854775807) (t : List UInt8) : Wire.intS (some (Wire.int v ++ t)) = (v, some t) := by
  unfold Wire.intS
  simp only
  rw [Wire.getInt_int h]
theorem hd_read {i t : Int} {n : Nat} (hi : -9223372036854775808 ≤ i ∧ i ≤ 9223372036854775807) (ht : -9223372036854775808 ≤ t ∧ t ≤ 9223372036854775807) (hn : n ≤ 9223372036854775807) :
    hA (hdB i t n) = i ∧ hT (hdB i t n) = t ∧ hN (hdB i t n) = (n : Int) ∧ hE (hdB i t n) = true := by
  have e0 : hdB i t n = Wire.int i ++ (Wire.int t ++ (Wire.int (n : Int) ++ [])) := by unfold hdB; simp
  have e1 : Wire.intS (some (hdB i t n)) = (i, some (Wire.int t ++ (Wire.int (n : Int) ++ []))) := by rw [e0]; exact intS_put' hi _
  have e2 : Wire.intS (some (Wire.int t ++ (Wire.int (n : Int) ++ []))) = (t, some (Wire.int (n : Int) ++ [])) := intS_put' ht _
  have e3 : Wire.intS (some (Wire.int (n : Int) ++ [])) = ((n : Int), some []) := intS_put' (by omega) _
  refine ⟨?_, ?_, ?_, ?_⟩
  · unfold hA; rw [e1]
  · unfold hT; rw [e1]; simp only; rw [e2]
  · unfold hN; rw [e1]; simp only; rw [e2]; simp only; rw [e3]
  · unfold hE; rw [e1]; simp only; rw [e2]; simp only; rw [e3]; rfl
theorem hd_len (i t : Int) (n : Nat) : 3 ≤ (hdB i t n).length ∧ (hdB i t n).length ≤ 30 := by
  have a1 := Wire.int_len i
  have a2 := Wire.int_len t
  have a3 := Wire.int_len (n : Int)
  unfold hdB
  simp only [List.length_append]
  omega
theorem gather_chunks (n : Int) : ∀ (k : Nat) (l acc : List UInt8), l.length ≤ k → (acc.length : Int) + l.length = n → gather n acc (chunks l) = some (acc ++ l)
  | 0, l, acc, h, hn => by
    obtain rfl : l = [] := List.eq_nil_of_length_eq_zero (by omega)
    simp [chunks_nil, gather]
  | k + 1, l, acc, h, hn => by
    by_cases hl : l = []
    · subst hl; simp [chunks_nil, gather]
    · have h0 : 0 < l.length := List.length_pos_iff.2 hl
      rw [chunks_cons hl]
      unfold gather
      rw [if_pos (by rw [List.length_take]; omega), gather_chunks n k (l.drop 1000) (acc ++ l.take 1000) (by rw [List.length_drop]; omega) (by rw [List.length_append, List.length_take, List.length_drop]; omega), List.append_assoc, List.take_append_drop]
structure SvOk (i t : Int) (data : List UInt8) : Prop where
  i1 : 1 ≤ i
  i2 : i ≤ 1099511627776
  t1 : 1 ≤ t
  t2 : t ≤ 1099511627776
  n1 : 1 ≤ data.length
  n2 : data.length ≤ 1048576
theorem SvOk.hd {i t : Int} {data : List UInt8} (h : SvOk i t data) : HdOk (hdB i t data.length) i := by
  obtain ⟨h1, h2, h3, h4, h5, h6⟩ := h
  obtain ⟨e1, e2, e3, e4⟩ := hd_read (i := i) (t := t) (n := data.length) (by omega) (by omega) (by omega)
  exact ⟨e4, e1, by rw [e2]; exact h3, by rw [e2]; exact h4, by rw [e3]; omega, by rw [e3]; omega⟩
theorem SvOk.bs {i t : Int} {data : List UInt8} (h : SvOk i t data) : Frame.Ok1 (hdB i t data.length :: chunks data) := fun b hb => by
  rcases List.mem_cons.1 hb with rfl | hb
  · have := hd_len i t data.length; omega
  · exact chunks_ok data b hb
theorem says_file {i t : Int} {data : List UInt8} (h : SvOk i t data) : saysS (fileB i t data) i = some (t, data) := by
  obtain ⟨b1, b2⟩ := Frame.bodies_all h.bs
  obtain ⟨h1, h2, h3, h4, h5, h6⟩ := id h
  obtain ⟨e1, e2, e3, e4⟩ := hd_read (i := i) (t := t) (n := data.length) (by omega) (by omega) (by omega)
  unfold saysS fileB
  rw [b2, if_pos rfl, b1, saysB_cons, if_pos h.hd, gather_chunks _ data.length data [] (Nat.le_refl _) (by rw [e3]; simp)]
  simp only [List.nil_append]
  rw [if_pos e3.symm, e2]
theorem not_bad {i t : Int} {data : List UInt8} (h : SvOk i t data) : ¬ svBad i t data.length := by
  obtain ⟨h1, h2, h3, h4, h5, h6⟩ := h
  rintro (hb | hb | hb | hb | hb)
  · unfold snName at hb
    rw [if_neg (by omega)] at hb
    have := congrArg List.length hb
    rw [nameN_len] at this
    cases this
  all_goals omega
theorem laid_len : ∀ (bs : List (List UInt8)), (Frame.laid bs).length ≤ 14 * bs.length + bs.flatten.length
  | [] => by simp [Frame.laid]
  | b :: bs => by
    have := laid_len bs
    have h1 := Frame.put_len b
    have h2 := (Wire.int_len (b.length : Int)).2
    rw [Frame.laid_cons, List.length_append, List.flatten_cons, List.length_append, List.length_cons]
    omega
theorem file_len {i t : Int} {data : List UInt8} {k : Nat} (h : data.length ≤ 1000 * k) : (fileB i t data).length ≤ 14 * (k + 1) + 30 + data.length := by
  have h1 := laid_len (hdB i t data.length :: chunks data)
  have h2 := chunks_count k data h
  have h3 := (hd_len i t data.length).2
  rw [List.flatten_cons, List.length_append, chunks_flat, List.length_cons] at h1
  unfold fileB
  omega
theorem newest_one {n : Nat} {t : Int} {data : List UInt8} {f : Fl} (h : SvOk (n : Int) t data) (hf : f.b = fileB (n : Int) t data) (acc : Option Sn) : newStep acc (snName (n : Int), f) = some (n, t, data) := by
  have h1 := h.i1
  have h2 := h.i2
  unfold newStep
  simp only
  rw [snNum_name (by omega) (by omega)]
  simp only
  rw [hf, says_file h]
/-! ### tables of few files -/
theorem sn_lt_tmp {n : Nat} (h1 : 1 ≤ n) (h2 : n ≤ 1099511627776) : snName (n : Int) < frN := by
  rw [snName_of h1 h2]
  show snPre ++ dgs 13 n < snPre ++ [116, 109, 112]
  refine append_lt.2 ?_
  have hl := dgs_len 13 n
  have ha := dgs_all 13 n
  cases hd : dgs 13 n with
  | nil => rw [hd] at hl; cases hl
  | cons x r =>
    rw [hd] at ha
    have hx : isDig x = true := List.all_eq_true.1 ha x (by simp)
    unfold isDig at hx
    simp at hx
    rw [List.cons_lt_cons_iff]
    left
    rw [UInt8.lt_iff_toNat_lt]
    have : (116 : UInt8).toNat = 116 := rfl
    omega
section
variable {T : PT} {s : List UInt8} {f g : Fl}
theorem tset_cons (j : List UInt8) (y : Fl) (r : PT) (i : List UInt8) (x : Fl) : tset ((j, y) :: r) i x = if i < j then (i, x) :: (j, y) :: r else if j = i then (i, x) :: r else (j, y) :: tset r i x := rfl
theorem tset_nil (i : List UInt8) (x : Fl) : tset ([] : PT) i x = [(i, x)] := rfl
theorem tset_tset : ∀ {T : PT}, tset (tset T s f) s g = tset T s g
  | [] => by rw [tset_nil, tset_cons, if_neg (List.lt_irrefl _), if_pos rfl, tset_nil]
  | (j, y) :: T => by
    rw [tset_cons, tset_cons]
    by_cases h1 : s < j
    · rw [if_pos h1, if_pos h1, tset_cons, if_neg (List.lt_irrefl _), if_pos rfl]
    · rw [if_neg h1, if_neg h1]
      by_cases h2 : j = s
      · rw [if_pos h2, if_pos h2, tset_cons, if_neg (List.lt_irrefl _), if_pos rfl]
      · rw [if_neg h2, if_neg h2, tset_cons, if_neg h1, if_neg h2, tset_tset]
theorem tset_last (hT : ∀ p ∈ T, p.1 < s) : tset T s f = T ++ [(s, f)] := by
  induction T with
  | nil => rfl
  | cons q T ih =>
    obtain ⟨j, y⟩ := q
    have hq : j < s := hT (j, y) (by simp)
    rw [tset_cons, if_neg (fun h => List.lt_irrefl _ (List.lt_trans hq h)), if_neg (fun e => by subst e; exact List.lt_irrefl _ hq), ih (fun p hp => hT p (List.mem_cons_of_mem _ hp))]
    rfl
theorem tfind_last (hT : ∀ p ∈ T, p.1 < s) : tfind (T ++ [(s, f)]) s = some f := by
  induction T with
  | nil => simp [tfind]
  | cons q T ih =>
    obtain ⟨j, y⟩ := q
    have hq : j < s := hT (j, y) (by simp)
    rw [List.cons_append]
    unfold tfind
    rw [if_neg (fun e => by subst e; exact List.lt_irrefl _ hq)]
    exact ih (fun p hp => hT p (List.mem_cons_of_mem _ hp))
theorem tdel_low (hT : ∀ p ∈ T, p.1 < s) : tdel T s = T := tdel_not (fun h => by
  obtain ⟨p, hp, rfl⟩ := List.mem_map.1 h
  exact List.lt_irrefl _ (hT p hp))
theorem tdel_last (hT : ∀ p ∈ T, p.1 < s) : tdel (T ++ [(s, f)]) s = T := by
  unfold tdel
  rw [List.filter_append]
  have h1 := tdel_low hT
  unfold tdel at h1
  rw [h1]
  simp
theorem tset_lastA (hT : ∀ p ∈ T, p.1 < s) : tset (T ++ [(s, f)]) s g = T ++ [(s, g)] := by rw [← tset_last (f := f) hT, tset_tset, tset_last hT]
end
end Go.Proofs.Ytebeidnmplnlpaa
end

section
set_option maxRecDepth 10000
namespace Go.Proofs.Ytebeidnmplnlpaa
set_option linter.unusedVariables false
open Go.RowKit

section
variable {S : DS} {s u b : List UInt8} {f : Fl}
end
theorem clear_cons (S : DS) (pre nm x : List UInt8) (r : List (List UInt8)) : S.clear pre nm (x :: r) = if isPre pre x = true ∧ x ≠ nm then andT (S.remove x) fun S' => DS.clear S' pre nm r else DS.clear S pre nm r := rfl
/-- a table of snapshots elder than one -/
structure Elder (T0 : PT) (n : Nat) : Prop where
  ris : Rising T0
  low : ∀ p ∈ T0, p.1 < snName (n : Int)
  pre : ∀ p ∈ T0, isPre snPre p.1 = true ∧ nameOk p.1
  few : T0.length < 64
theorem frN_ok : nameOk frN := by decide
theorem snName_nm {n : Nat} (h1 : 1 ≤ n) (h2 : n ≤ 1099511627776) : nameOk (snName (n : Int)) := by unfold nameOk; rw [snName_len h1 h2]; omega
theorem save_eq {S : DS} {i t : Int} {data : List UInt8} (h : SvOk i t data) : S.save i t data = andT (S.create frN) fun S1 => andT (S1.appends frN (hdB i t data.length :: chunks data)) fun S2 => andT (S2.sync frN) fun S3 => andT (S3.rename frN (snName i)) fun S4 => S4.clear snPre (snName i) S4.keys := by
  unfold DS.save
  rw [if_neg (not_bad h)]
/-! ### a disk that nothing ails -/
theorem used_append (A B : PT) : used (A ++ B) = used A + used B := by
  induction A with
  | nil => simp [used]
  | cons p A ih => rw [List.cons_append, show used (p :: (A ++ B)) = p.2.b.length + used (A ++ B) from rfl, show used (p :: A) = p.2.b.length + used A from rfl, ih]; omega
theorem appends_k0 {r : Int} {s : List UInt8} (hs : nameOk s) {T0 : PT} (hT : ∀ p ∈ T0, p.1 < s) : ∀ (bs : List (List UInt8)) (c : Int) (f : Fl), (used T0 : Int) + f.b.length + (Frame.laid bs).length ≤ r →
    DS.appends ⟨k0 r c, T0 ++ [(s, f)]⟩ s bs = (0, ⟨k0 r (c + bs.length), T0 ++ [(s, ⟨f.b ++ Frame.laid bs, f.sure⟩)]⟩)
  | [], c, f, h => by simp [DS.appends, Frame.laid]
  | b :: bs, c, f, h => by
    rw [Frame.laid_cons, List.length_append] at h
    have hu : used (T0 ++ [(s, f)]) = used T0 + f.b.length := by rw [used_append]; simp [used]
    unfold DS.appends
    rw [k0_append hs (tfind_last hT) (by rw [hu]; omega), andT_ok rfl, tset_lastA hT]
    simp only
    rw [appends_k0 hs hT bs (c + 1) _ (by simp only [List.length_append]; omega), Frame.laid_cons, List.append_assoc]
    congr 3
    rw [List.length_cons]
    omega
theorem clear_k0 {r : Int} {pre c : List UInt8} {f : Fl} : ∀ (T0 : PT) (k : Int), Rising (T0 ++ [(c, f)]) → (∀ p ∈ T0, isPre pre p.1 = true ∧ nameOk p.1) →
    DS.clear ⟨k0 r k, T0 ++ [(c, f)]⟩ pre c (T0.map (·.1) ++ [c]) = (0, ⟨k0 r (k + T0.length), [(c, f)]⟩)
  | [], k, hR, hp => by
    rw [List.map_nil, List.nil_append, List.nil_append, clear_cons, if_neg (fun e => e.2 rfl)]
    simp [DS.clear]
  | p :: T0, k, hR, hp => by
    have hpp := hp p (by simp)
    have hR' : ((p :: (T0 ++ [(c, f)])).map (·.1)).Pairwise (· < ·) := hR
    rw [List.map_cons, List.pairwise_cons] at hR'
    have hne : p.1 ≠ c := fun e => by
      have := hR'.1 c (List.mem_map_of_mem (f := (·.1)) (a := (c, f)) (by simp))
      rw [e] at this
      exact List.lt_irrefl _ this
    rw [List.map_cons]
    show DS.clear ⟨k0 r k, p :: T0 ++ [(c, f)]⟩ pre c (p.1 :: (T0.map (·.1) ++ [c])) = _
    rw [clear_cons, if_pos ⟨hpp.1, hne⟩]
    have hfi : tfind (p :: T0 ++ [(c, f)]) p.1 = some p.2 := by
      rw [List.cons_append]
      unfold tfind
      rw [if_pos rfl]
    have hde : tdel (p :: T0 ++ [(c, f)]) p.1 = T0 ++ [(c, f)] := tdel_eq (A := []) (B := T0 ++ [(c, f)]) (i := p.1) (y := p.2) hR.nd
    rw [k0_remove hpp.2 hfi, andT_ok rfl, hde]
    simp only
    rw [clear_k0 T0 (k + 1) hR'.2 (fun q hq => hp q (List.mem_cons_of_mem _ hq))]
    congr 3
    rw [List.length_cons]
    omega
theorem save_k0 {r c : Int} {T0 : PT} {n : Nat} {t : Int} {data : List UInt8} (hE : Elder T0 n) (h : SvOk (n : Int) t data) (hr : (used T0 : Int) + (fileB n t data).length ≤ r) :
    ∃ c', c ≤ c' ∧ c' ≤ c + 1200 ∧ DS.save ⟨k0 r c, T0⟩ n t data = (0, ⟨k0 r c', [(snName (n : Int), fullF (fileB n t data))]⟩) := by
  have h1 := h.i1
  have h2 := h.i2
  have hn2 := h.n2
  have hlt : snName (n : Int) < frN := sn_lt_tmp (by omega) (by omega)
  have hlow : ∀ p ∈ T0, p.1 < frN := fun p hp => List.lt_trans (hE.low p hp) hlt
  have hnm := snName_nm (n := n) (by omega) (by omega)
  have hcnt := chunks_count 1049 data (by omega)
  have hfew := hE.few
  rw [save_eq h, k0_create frN_ok (by omega), andT_ok rfl, tset_last hlow]
  simp only
  rw [appends_k0 frN_ok hlow _ _ _ (by simpa [fileB] using hr), andT_ok rfl]
  simp only
  rw [k0_sync frN_ok (tfind_last hlow), andT_ok rfl, tset_lastA hlow]
  simp only
  rw [k0_rename frN_ok hnm (tfind_last hlow), andT_ok rfl, tdel_last hlow, tset_last hE.low]
  simp only
  have hR : Rising (T0 ++ [(snName (n : Int), (⟨[] ++ Frame.laid (hdB n t data.length :: chunks data), ([] ++ Frame.laid (hdB n t data.length :: chunks data)).length⟩ : Fl))]) := by
    unfold Rising
    rw [List.map_append, List.pairwise_append]
    refine ⟨hE.ris, by simp, fun a ha b hb => ?_⟩
    obtain ⟨p, hp, rfl⟩ := List.mem_map.1 ha
    simp at hb
    rw [hb]
    exact hE.low p hp
  have hkeys : ∀ (K : Dk) (f : Fl), DS.keys ⟨K, T0 ++ [(snName (n : Int), f)]⟩ = T0.map (·.1) ++ [snName (n : Int)] := fun K f => by unfold DS.keys; simp
  rw [hkeys, clear_k0 T0 _ hR hE.pre]
  refine ⟨_, ?_, ?_, rfl⟩
  · rw [List.length_cons]; omega
  · rw [List.length_cons]; omega
end Go.Proofs.Ytebeidnmplnlpaa
end

section
set_option maxRecDepth 10000
namespace Go.Proofs.Ytebeidnmplnlpaa
set_option linter.unusedVariables false
open Go.RowKit

theorem intS_fromS {s : Option (List UInt8)} {v : Int} {r : List UInt8} (h : Wire.intS s = (v, some r)) : s = some (Wire.int v ++ r) := by
  cases s with
  | none => simp [Wire.intS] at h
  | some l =>
    unfold Wire.intS at h
    simp only at h
    cases hg : Wire.getInt l with
    | none => rw [hg] at h; simp at h
    | some p =>
      obtain ⟨u, q⟩ := p
      rw [hg] at h
      simp only [Prod.mk.injEq, Option.some.injEq] at h
      obtain ⟨rfl, rfl⟩ := h
      rw [(Wire.getInt_back hg).1]
theorem intS_up {s : Option (List UInt8)} {r : List UInt8} (h : (Wire.intS s).2 = some r) : s = some (Wire.int (Wire.intS s).1 ++ r) := intS_fromS (Prod.ext rfl h)
/-- a header that is one is written so -/
theorem hd_back {h : List UInt8} (he : hE h = true) (hn : 0 ≤ hN h) : h = hdB (hA h) (hT h) (hN h).toNat := by
  have h3 : (Wire.intS (Wire.intS (Wire.intS (some h)).2).2).2 = some [] := by
    unfold hE at he
    cases hx : (Wire.intS (Wire.intS (Wire.intS (some h)).2).2).2 with
    | none => rw [hx] at he; cases he
    | some l =>
      rw [hx] at he
      have : l.length = 0 := of_decide_eq_true he
      rw [List.eq_nil_of_length_eq_zero this]
  have h2 := intS_up h3
  have h1 := intS_up h2
  have h0 := intS_up h1
  injection h0 with h0
  have e : ((hN h).toNat : Int) = hN h := by omega
  unfold hdB
  rw [e, List.append_assoc]
  simpa [hA, hT, hN] using h0
theorem chunks_app {b y : List UInt8} (hb : 1 ≤ b.length) (h : b.length = min 1000 (b.length + y.length)) : chunks (b ++ y) = b :: chunks y := by
  have hne : b ++ y ≠ [] := fun e => by
    have := congrArg List.length e
    rw [List.length_append, List.length_nil] at this
    omega
  rw [chunks_cons hne]
  by_cases hy : y.length = 0
  · obtain rfl := List.eq_nil_of_length_eq_zero hy
    rw [List.append_nil, List.take_of_length_le (by omega), List.drop_eq_nil_of_le (by omega)]
  · have h1 : b.length = 1000 := by omega
    have e1 : (b ++ y).take 1000 = b := by rw [← h1]; simp
    have e2 : (b ++ y).drop 1000 = y := by rw [← h1]; simp
    rw [e1, e2]
theorem gather_back {n : Int} : ∀ {cs : List (List UInt8)} {acc x : List UInt8}, Frame.Ok1 cs → gather n acc cs = some x → (x.length : Int) = n → ∃ y, x = acc ++ y ∧ cs = chunks y
  | [], acc, x, _, h, hx => by
    injection h with h
    exact ⟨[], by rw [h, List.append_nil], rfl⟩
  | b :: cs, acc, x, hok, h, hx => by
    unfold gather at h
    by_cases hb : (b.length : Int) = min 1000 (n - acc.length)
    · rw [if_pos hb] at h
      obtain ⟨y, e1, e2⟩ := gather_back (fun z hz => hok z (List.mem_cons_of_mem _ hz)) h hx
      refine ⟨b ++ y, by rw [e1, List.append_assoc], ?_⟩
      have hl := congrArg List.length e1
      rw [List.length_append, List.length_append] at hl
      rw [chunks_app (hok b (by simp)).1 (by omega), e2]
    · rw [if_neg hb] at h
      cases h
/-- what is right is just what is written -/
theorem says_back {b : List UInt8} {i t : Int} {data : List UInt8} (hi : 1 ≤ i ∧ i ≤ 1099511627776) (h : saysS b i = some (t, data)) : SvOk i t data ∧ b = fileB i t data := by
  obtain ⟨e0, _, hok⟩ := Frame.bodies_spec b
  unfold saysS at h
  by_cases hr : Frame.rest b = []
  · rw [if_pos hr] at h
    rw [hr, List.append_nil] at e0
    cases hb : Frame.bodies b with
    | nil => rw [hb] at h; cases h
    | cons hd cs =>
      rw [hb, saysB_cons] at h
      rw [hb] at e0 hok
      by_cases hh : HdOk hd i
      · rw [if_pos hh] at h
        cases hg : gather (hN hd) [] cs with
        | none => rw [hg] at h; cases h
        | some x =>
          rw [hg] at h
          simp only at h
          by_cases hx : (x.length : Int) = hN hd
          · rw [if_pos hx] at h
            injection h with h
            injection h with h1 h2
            subst h1 h2
            obtain ⟨y, e1, e2⟩ := gather_back (fun z hz => hok z (List.mem_cons_of_mem _ hz)) hg hx
            rw [List.nil_append] at e1
            subst e1
            obtain ⟨k1, k2, k3, k4, k5, k6⟩ := hh
            refine ⟨⟨hi.1, hi.2, k3, k4, by omega, by omega⟩, ?_⟩
            have hbk := hd_back k1 (by omega)
            rw [k2, ← hx, Int.toNat_natCast] at hbk
            unfold fileB
            rw [← hbk, ← e2]
            exact e0
          · rw [if_neg hx] at h; cases h
      · rw [if_neg hh] at h; cases h
  · rw [if_neg hr] at h; cases h
/-- the newest from behind -/
theorem newest_skip {T : PT} {j : Nat} {p : List UInt8 × Fl} (hp : T[j]? = some p) (h : ∀ acc, newStep acc p = acc) : newest (T.take (j + 1)) = newest (T.take j) := by
  unfold newest
  rw [take_snoc hp, List.foldl_append]
  exact h _
theorem newest_hit {T : PT} {j : Nat} {p : List UInt8 × Fl} {y : Sn} (hp : T[j]? = some p) (h : ∀ acc, newStep acc p = some y) : newest (T.take (j + 1)) = some y := by
  unfold newest
  rw [take_snoc hp, List.foldl_append]
  exact h _
end Go.Proofs.Ytebeidnmplnlpaa
end

section
set_option maxRecDepth 10000
namespace Go.Proofs.Ytebeidnmplnlpaa
set_option linter.unusedVariables false
open Go.RowKit

theorem rdNew_any (W : World) (room : Int) :
    Calls Try.prog 30 #[.int .i64 room] W fun e W' => ∃ r, e = .returned (.pointer (some ⟨r, 0, none⟩)) ∧ RefD W' (fun j => W.heap.size ≤ j) r (DS.new room) ∧ Below W.heap.size W W' := by
  refine calls_vc Try.func30 rfl (by kernel_rfl) ?_
  ((conv => whnf); (repeat ((first | (refine VL.cons ?_) | (refine VL.nil ?_) | (refine VC.seqS rfl ?_) | (refine VC.region ?_)); (conv => whnf))))
  ((repeat ((fail); (conv => whnf))))
  refine VRead.maxZ (z := max room 0) (by split <;> omega) ?_
  ((conv => whnf); (repeat ((first | (refine VL.cons ?_)); (conv => whnf))))
  refine VRead.minZ (z := max 0 (min room 16777216)) (by split <;> omega) ?_
  ((conv => whnf); (repeat ((first | (refine VL.cons ?_)); (conv => whnf))))
  refine VRead.ofW (v := .agg (rC (Dk.new room) none 0 0)) (fun _ => by kernel_rfl) ?_
  ((conv => whnf); (repeat ((first | (refine VL.cons ?_)); (conv => whnf))))
  refine VSem.boxB ?_
  intro W2 g hb2 hg2 hl2 hB2
  ((conv => whnf); (repeat ((first | (refine VL.cons ?_) | (refine VL.nil ?_) | (refine VC.ret ?_)); (conv => whnf))))
  ((repeat ((fail); (conv => whnf))))
  exact ⟨g, rfl, ⟨DWf.new room, none, 0, [], ⟨Nat.le_of_eq hg2.symm, hb2, ⟨World.ownsRow_nil _ _ _ _, fun g h => (by simp [Value.ownBlock] at h), (by simp [FEls, DS.new])⟩⟩⟩, hB2⟩
theorem rNamed_any (W : World) (s : List UInt8) (hs : s.length ≤ 1000) : Calls Try.prog 96 #[encStr s] W fun e W' => e = .returned (.bool (decide (nameOk s))) ∧ W' = W := by
  have hsz : ByteArray.size ⟨s.toArray⟩ = s.length := txt_size s
  refine calls_vc Try.func96 rfl (by kernel_rfl) ?_
  by_cases h1 : 1 ≤ s.length
  · ((conv => whnf); (repeat ((first | (refine VL.cons ?_) | (refine VL.nil ?_) | (refine VC.seqS rfl ?_) | (refine VC.region ?_)); (conv => whnf))))
    ((repeat ((first | (refine VL.cons ?_) | (refine VL.nil ?_) | (refine VC.ret ?_) | (refine VBool.t ?_) | (refine VBool.dT (by omega) ?_) | (refine VRead.lenT ?_)); (conv => whnf))))
    refine ⟨?_, rfl⟩
    by_cases h2 : s.length ≤ 32
    · rw [decide_eq_true (p := nameOk s) ⟨h1, h2⟩]
      show Ending.returned (.bool (decide (((ByteArray.size ⟨s.toArray⟩ : Nat) : Int) ≤ 32))) = _
      rw [decide_eq_true (by omega)]
    · rw [decide_eq_false (p := nameOk s) (fun h => h2 h.2)]
      show Ending.returned (.bool (decide (((ByteArray.size ⟨s.toArray⟩ : Nat) : Int) ≤ 32))) = _
      rw [decide_eq_false (by omega)]
  · rw [decide_eq_false (p := nameOk s) (fun h => h1 h.1)]
    ((conv => whnf); (repeat ((first | (refine VL.cons ?_) | (refine VL.nil ?_) | (refine VC.seqS rfl ?_) | (refine VC.region ?_)); (conv => whnf))))
    ((repeat ((first | (refine VL.cons ?_) | (refine VL.nil ?_) | (refine VC.ret ?_) | (refine VBool.f ?_) | (refine VBool.dF (by omega) ?_) | (refine VRead.lenT ?_)); (conv => whnf))))
    exact ⟨rfl, rfl⟩
section
variable {U : Foot} {r c : Nat} {A : Option Addr} {xs : List Value} {K : Dk} {T : PT}
set_option maxHeartbeats 1000000 in
theorem rCall_at (W : World) (h : RefAt W U r A c xs K T) (hw : KWf K) :
    Calls Try.prog 95 #[.pointer (some ⟨r, 0, none⟩)] W fun e W' => e = .returned (.int .i64 K.call.1) ∧ RefAt W' U r A c xs K.call.2 T ∧ W.grownBy W' (some r) := by
  obtain ⟨room, calls, armed, kind, after, off⟩ := K
  have hc := hw.calls
  have ha := hw.after
  simp only at hc ha
  have hb : Blk W r 98 #[.slice A T.length c, .int .i64 room, .int .i64 calls, .bool armed, .int .i64 kind, .int .i64 after, .bool off] := h.blk
  refine calls_vc Try.func95 rfl (by kernel_rfl) ?_
  ((conv => whnf); (repeat ((first | (refine VL.cons ?_) | (refine VL.nil ?_) | (refine VC.seqS rfl ?_) | (refine VC.region ?_)); (conv => whnf))))
  (repeat (first | ((first | (refine VL.cons ?_) | (refine VRead.fld ?_) | (refine VWrap.i64 (by omega) (by omega) ?_)); (conv => whnf)) | (refine VRead.loadB hb rfl rfl ?_; (conv => whnf))))
  refine VUnit.storeB hb rfl rfl rfl ?_
  intro W1 hb1 hg1
  replace hb1 : Blk W1 r 98 #[.slice A T.length c, .int .i64 room, .int .i64 (calls + 1), .bool armed, .int .i64 kind, .int .i64 after, .bool off] := hb1
  have h1 : RefAt W1 U r A c xs ⟨room, calls + 1, armed, kind, after, off⟩ T := h.own hb1 hg1
  ((conv => whnf); (repeat ((first | (refine VL.nil ?_)); (conv => whnf))))
  (repeat (first | ((first | (refine VL.cons ?_) | (refine VL.nil ?_) | (refine VC.seqS rfl ?_) | (refine VC.region ?_) | (refine VC.cond ?_) | (refine VRead.fld ?_) | (refine VC.seq ?_)); (conv => whnf)) | (refine VRead.loadB hb1 rfl rfl ?_; (conv => whnf))))
  cases off with
  | true =>
    ((repeat ((first | (refine VL.cons ?_) | (refine VL.nil ?_) | (refine VC.seqS rfl ?_) | (refine VC.region ?_) | (refine VC.ret ?_) | (refine VBool.t ?_)); (conv => whnf))))
    exact ⟨rfl, h1, hg1⟩
  | false =>
    ((repeat ((first | (refine VL.cons ?_) | (refine VC.seqS rfl ?_) | (refine VC.region ?_) | (refine VC.skip ?_) | (refine VBool.f ?_) | (refine VRead.fld ?_) | (refine VC.seq ?_)); (conv => whnf))))
    (repeat (first | ((first | (refine VL.cons ?_) | (refine VL.nil ?_) | (refine VC.cond ?_)); (conv => whnf)) | (refine VRead.loadB hb1 rfl rfl ?_; (conv => whnf))))
    cases armed with
    | false =>
      ((repeat ((first | (refine VL.cons ?_) | (refine VL.nil ?_) | (refine VC.seqS rfl ?_) | (refine VC.region ?_) | (refine VC.ret ?_) | (refine VBool.t ?_)); (conv => whnf))))
      exact ⟨rfl, h1, hg1⟩
    | true =>
      ((repeat ((first | (refine VL.cons ?_) | (refine VC.seqS rfl ?_) | (refine VC.region ?_) | (refine VC.skip ?_) | (refine VBool.f ?_) | (refine VRead.fld ?_) | (refine VC.seq ?_)); (conv => whnf))))
      (repeat (first | ((first | (refine VL.cons ?_) | (refine VL.nil ?_) | (refine VC.cond ?_)); (conv => whnf)) | (refine VRead.loadB hb1 rfl rfl ?_; (conv => whnf))))
      by_cases ha0 : 0 < after
      · ((repeat ((first | (refine VL.cons ?_) | (refine VC.seqS rfl ?_) | (refine VC.region ?_) | (refine VBool.dT (by omega) ?_) | (refine VRead.fld ?_)); (conv => whnf))))
        (repeat (first | ((first | (refine VL.cons ?_) | (refine VRead.fld ?_) | (refine VWrap.i64 (by omega) (by omega) ?_)); (conv => whnf)) | (refine VRead.loadB hb1 rfl rfl ?_; (conv => whnf))))
        refine VUnit.storeB hb1 rfl rfl rfl ?_
        intro W2 hb2 hg2
        replace hb2 : Blk W2 r 98 #[.slice A T.length c, .int .i64 room, .int .i64 (calls + 1), .bool true, .int .i64 kind, .int .i64 (after - 1), .bool false] := hb2
        ((conv => whnf); (repeat ((first | (refine VL.cons ?_) | (refine VL.nil ?_) | (refine VC.seqS rfl ?_) | (refine VC.region ?_) | (refine VC.ret ?_)); (conv => whnf))))
        ((repeat ((fail); (conv => whnf))))
        have e : Dk.call ⟨room, calls, true, kind, after, false⟩ = (0, ⟨room, calls + 1, true, kind, after - 1, false⟩) := by simp [Dk.call, ha0]
        rw [e]
        refine ⟨rfl, ?_, only_trans hg1 hg2⟩
        · have : RefAt W2 U r A c xs ⟨room, calls + 1, true, kind, after - 1, false⟩ T := h1.own hb2 hg2
          exact this
      · ((repeat ((first | (refine VL.cons ?_) | (refine VC.seqS rfl ?_) | (refine VC.region ?_) | (refine VC.skip ?_) | (refine VBool.dF (by omega) ?_) | (refine VRead.fld ?_)); (conv => whnf))))
        refine VUnit.storeB hb1 rfl rfl rfl ?_
        intro W2 hb2 hg2
        replace hb2 : Blk W2 r 98 #[.slice A T.length c, .int .i64 room, .int .i64 (calls + 1), .bool false, .int .i64 kind, .int .i64 after, .bool false] := hb2
        have h2 : RefAt W2 U r A c xs ⟨room, calls + 1, false, kind, after, false⟩ T := h1.own hb2 hg2
        ((conv => whnf); (repeat ((first | (refine VL.cons ?_) | (refine VL.nil ?_) | (refine VC.seqS rfl ?_) | (refine VC.region ?_)); (conv => whnf))))
        (repeat (first | ((first | (refine VL.cons ?_) | (refine VRead.fld ?_)); (conv => whnf)) | (refine VRead.loadB hb2 rfl rfl ?_; (conv => whnf))))
        refine VUnit.storeB hb2 rfl rfl rfl ?_
        intro W3 hb3 hg3
        replace hb3 : Blk W3 r 98 #[.slice A T.length c, .int .i64 room, .int .i64 (calls + 1), .bool false, .int .i64 kind, .int .i64 after, .bool (decide (kind = 19))] := hb3
        have h3 : RefAt W3 U r A c xs ⟨room, calls + 1, false, kind, after, decide (kind = 19)⟩ T := h2.own hb3 hg3
        ((conv => whnf); (repeat ((first | (refine VL.cons ?_) | (refine VL.nil ?_) | (refine VC.seqS rfl ?_) | (refine VC.region ?_)); (conv => whnf))))
        (repeat (first | ((first | (refine VL.cons ?_) | (refine VL.nil ?_) | (refine VC.ret ?_) | (refine VRead.fld ?_)); (conv => whnf)) | (refine VRead.loadB hb3 rfl rfl ?_; (conv => whnf))))
        have e : Dk.call ⟨room, calls, true, kind, after, false⟩ = (kind, ⟨room, calls + 1, false, kind, after, decide (kind = 19)⟩) := by simp [Dk.call, ha0]
        rw [e]
        exact ⟨rfl, h3, only_trans hg1 (only_trans hg2 hg3)⟩
/-- where a name stands -/
def Stands (T : PT) (s : List UInt8) (k : Int) : Prop := (tfind T s = none ∧ k = -1) ∨ ∃ A f B, T = A ++ (s, f) :: B ∧ tfind T s = some f ∧ k = A.length
set_option maxHeartbeats 1000000 in
theorem rFind_at (W : World) (s : List UInt8) (h : RefAt W U r A c xs K T) (hR : Rising T) (hfew : T.length ≤ 1000) :
    Calls Try.prog 97 #[.pointer (some ⟨r, 0, none⟩), encStr s] W fun e W' => (∃ k, e = .returned (.int .i64 k) ∧ Stands T s k) ∧ W' = W := by
  have hb : Blk W r 98 #[.slice A T.length c, .int .i64 K.room, .int .i64 K.calls, .bool K.armed, .int .i64 K.kind, .int .i64 K.after, .bool K.off] := h.blk
  refine calls_vc Try.func97 rfl (by kernel_rfl) ?_
  ((conv => whnf); (repeat ((first | (refine VL.cons ?_) | (refine VL.nil ?_) | (refine VC.seqS rfl ?_) | (refine VC.region ?_)); (conv => whnf))))
  ((repeat ((first | (refine VL.cons ?_) | (refine VL.nil ?_) | (refine VC.seqS rfl ?_) | (refine VC.region ?_) | (refine VC.block ?_) | (refine VC.seq ?_)); (conv => whnf))))
  refine VC.loop [5] [(4, 25)] (fun q vs w => ∃ T0 T1 : PT, vs = [.int .i64 (T0.length : Int)] ∧ q = T1.length ∧ T = T0 ++ T1 ∧ s ∉ T0.map (·.1) ∧ w = W) (by kernel_rfl) ⟨_, [], T, rfl, rfl, rfl, by simp, rfl⟩ ?_
  rintro q τ vs w ⟨T0, T1, rfl, rfl, hT, hn, rfl⟩
  have hTl : T.length = T0.length + T1.length := by rw [hT]; simp
  cases T1 with
  | nil =>
    simp only [List.length_nil] at hTl
    rw [List.append_nil] at hT
    subst hT
    ((conv => whnf); (repeat ((fail); (conv => whnf))))
    (repeat (first | ((first | (refine VL.cons ?_) | (refine VL.nil ?_) | (refine VC.seqS rfl ?_) | (refine VC.region ?_) | (refine VC.cond ?_) | (refine VC.exit ?_) | (refine VC.ret ?_) | (refine VBool.dF (by omega) ?_) | (refine VRead.lenS ?_) | (refine VRead.fld ?_) | (refine VC.seq ?_)); (conv => whnf)) | (refine VRead.loadB hb rfl rfl ?_; (conv => whnf))))
    exact ⟨⟨-1, rfl, .inl ⟨tfind_not hn, rfl⟩⟩, rfl⟩
  | cons p T1 =>
    simp only [List.length_cons] at hTl
    have hels := h.fr.els
    rw [hT] at hels
    obtain ⟨x1, a, b, c', x2, hxs, hx1, _, hel, _⟩ := hels.at_
    obtain ⟨rfl, _⟩ := hel
    obtain ⟨g, rfl, hgl, hcell⟩ := h.fr.cell (i := T0.length) (k := 0) (v := encStr p.1) (by rw [hxs, List.getElem?_append_right (by omega)]; simp [hx1])
    by_cases he : p.1 = s
    · have hf : tfind T s = some p.2 := tfind_of hR.nd (by rw [hT, ← he]; simp)
      subst he
      ((conv => whnf); (repeat ((fail); (conv => whnf))))
      (repeat (first | ((first | (refine VL.cons ?_) | (refine VL.nil ?_) | (refine VC.seqS rfl ?_) | (refine VC.region ?_) | (refine VC.cond ?_) | (refine VC.block ?_) | (refine VC.ret ?_) | (refine VC.skip ?_) | (refine VBool.dT (by omega) ?_) | (refine VRead.lenS ?_) | (refine VRead.fld ?_) | (refine VRead.load1 (by assumption) ?_) | (refine VBool.dT rfl ?_) | (refine VC.seq ?_)); (conv => whnf)) | (refine VRead.loadB hb rfl rfl ?_; (conv => whnf)) | (refine VRead.atK (by omega) ?_; (conv => whnf)) | (refine VRead.load1 hcell ?_; (conv => whnf))))
      exact ⟨⟨_, rfl, .inr ⟨T0, p.2, T1, hT, hf, rfl⟩⟩, rfl⟩
    · have hne : ¬ (⟨p.1.toArray⟩ : ByteArray) = ⟨s.toArray⟩ := fun h => he (txt_inj.1 h)
      ((conv => whnf); (repeat ((fail); (conv => whnf))))
      (repeat (first | ((first | (refine VL.cons ?_) | (refine VL.nil ?_) | (refine VC.seqS rfl ?_) | (refine VC.region ?_) | (refine VC.cond ?_) | (refine VC.block ?_) | (refine VC.skip ?_) | (refine VBool.dT (by omega) ?_) | (refine VBool.dF (by omega) ?_) | (refine VRead.lenS ?_) | (refine VRead.fld ?_) | (refine VRead.load1 (by assumption) ?_) | (refine VWrap.i64 (by omega) (by omega) ?_) | (refine VC.seq ?_)); (conv => whnf)) | (refine VRead.loadB hb rfl rfl ?_; (conv => whnf)) | (refine VRead.atK (by omega) ?_; (conv => whnf)) | (refine VRead.load1 hcell ?_; (conv => whnf)) | (refine VBool.dF hne ?_; (conv => whnf))))
      exact ⟨_, by simp, T0 ++ [p], T1, by simp only [List.length_append, List.length_cons, List.length_nil]; rfl, rfl, by rw [hT]; simp, by simp [hn]; exact fun e => he e.symm, rfl⟩
end
end Go.Proofs.Ytebeidnmplnlpaa
end

section
namespace Go.Proofs.Ytebeidnmplnlpaa
set_option linter.unusedVariables false
open Go.ChangeShapes Go.WideShapes Go.ChangeAt Go.RowKit
open Go.Deep (open_bools boolRow)

section
variable {H : Type} {enc : TypeId × Value → H} {P : Program}
end
end Go.Proofs.Ytebeidnmplnlpaa
end

section
set_option maxRecDepth 10000
namespace Go.Proofs.Ytebeidnmplnlpaa
set_option linter.unusedVariables false
open Go.ChangeShapes Go.WideShapes Go.ChangeAt Go.RowKit

structure Op17 where
  kind : Int
  a : Int
  b : Int
  n : Int
  data : List UInt8
  picks : List Int
instance : Inhabited Op17 := ⟨⟨0, 0, 0, 0, [], []⟩⟩
def i64 (z : Int) : Prop := -9223372036854775808 ≤ z ∧ z ≤ 9223372036854775807
structure Op17.Ok (W : World) (B : Nat) (o : Op17) (Ad : Option Addr) (m k : Nat) (Ap : Option Addr) (mp kp : Nat) : Prop where
  kind : i64 o.kind
  a : i64 o.a
  b : i64 o.b
  n : i64 o.n
  le : m ≤ k
  k : k ≤ 140737488351232
  data : Reads W B 1 Ad m (bv o.data)
  lep : mp ≤ kp
  kp : kp ≤ 17592186043904
  picks : Reads W B 1 Ap mp (iv .i64 o.picks)
  each : ∀ x ∈ o.picks, i64 x
def opC (o : Op17) (Ad : Option Addr) (m k : Nat) (Ap : Option Addr) (mp kp : Nat) : Array Value := #[.int .i64 o.kind, .int .i64 o.a, .int .i64 o.b, .int .i64 o.n, .slice Ad m k, .slice Ap mp kp]
def OpsAt (W : World) (B : Nat) (A : Option Addr) (n : Nat) (ops : List Op17) : Prop :=
  ops.length = n ∧ (0 < n → ∃ x, A = some x ∧ x.block < B ∧ ∀ i o, ops[i]? = some o → ∃ Ad m k Ap mp kp, (∀ j u, (opC o Ad m k Ap mp kp).toList[j]? = some u → W.cell? (x.add (6 * i + j)) = some u) ∧ o.Ok W B Ad m k Ap mp kp)
section
variable {H : Type} {enc : TypeId × Value → H}
theorem cell_block {W : World} {x : Addr} {u : Value} (h : W.cell? x = some u) : x.block < W.heap.size := by
  unfold World.cell? at h
  cases hb : W.heap[x.block]? with
  | none => rw [hb] at h; cases h
  | some o => exact (Array.getElem?_eq_some_iff.1 hb).1
theorem bytes_open {W : World} {n : Nat} {c : Value} {y : DataW H × List MemPlace} (h : DataW.trod enc Try.prog W 0 (fun _ => true) true n 31 [c] = some y) (hw : ∀ x ∈ y.1.weights Try.prog 31, x ≤ reachBytes) :
    ∃ A m k l, c = .slice A m k ∧ m ≤ k ∧ k ≤ 140737488351232 ∧ Reads W W.heap.size 1 A m (bv l) := by
  rcases open_ints Try.underlying31 Try.underlying5 (by kernel_rfl) h with ⟨hcs, hx⟩ | ⟨x, l, c', zs, hcs, _, hl, hm, hz, hx, hcell, hwz⟩
  · simp at hcs
    obtain rfl := hcs
    exact ⟨none, 0, 0, [], rfl, Nat.le_refl _, by omega, Reads.none_⟩
  · simp at hcs
    obtain rfl := hcs
    simp only [if_true] at hz
    subst hx
    have h1 := hw _ (by simp only [DataW.weights]; rw [Try.underlying31]; exact List.mem_cons_self ..)
    simp [lits, reachBytes] at h1
    rw [show Try.prog.bytesOf 5 = 1 from by kernel_rfl] at h1
    have hb : ∀ i, i < l → ∃ b : UInt8, W.cell? (x.add i) = some (.int .u8 (b.toNat : Int)) := fun i hi => by
      have h1 := hcell i (by omega)
      have h2 := hwz (zs.getD i 0) (by
        rw [List.getD_eq_getElem?_getD, List.getElem?_eq_getElem (by omega)]
        exact List.getElem_mem _)
      obtain ⟨b, hb⟩ := u8_nat h2
      exact ⟨b, by rw [h1, hb]⟩
    obtain ⟨f, hf⟩ := Deep.choose_lt hb
    refine ⟨some x, l, c', (List.range l).map f, rfl, hl, by omega, by simp [bv], fun hn => ⟨x, rfl, ?_, fun j u hu => ?_⟩⟩
    · have := cell_block (hf 0 hn)
      rwa [show x.add 0 = x from by simp [Addr.add]] at this
    · simp only [bv, List.map_map, List.getElem?_map, Option.map_eq_some_iff] at hu
      obtain ⟨i, hi, rfl⟩ := hu
      have hj : j < l := by have := (List.getElem?_eq_some_iff.1 hi).1; simpa using this
      rw [List.getElem?_range hj] at hi
      obtain rfl := Option.some.inj hi
      exact hf j hj
theorem ints_open {W : World} {n : Nat} {c : Value} {y : DataW H × List MemPlace} (h : DataW.trod enc Try.prog W 0 (fun _ => true) true n 28 [c] = some y) (hw : ∀ x ∈ y.1.weights Try.prog 28, x ≤ reachBytes) :
    ∃ A m k l, c = .slice A m k ∧ m ≤ k ∧ k ≤ 17592186043904 ∧ Reads W W.heap.size 1 A m (iv .i64 l) ∧ ∀ x ∈ l, i64 x := by
  rcases open_ints Try.underlying28 Try.underlying3 (by kernel_rfl) h with ⟨hcs, hx⟩ | ⟨x, l, c', zs, hcs, _, hl, hm, hz, hx, hcell, hwz⟩
  · simp at hcs
    obtain rfl := hcs
    exact ⟨none, 0, 0, [], rfl, Nat.le_refl _, by omega, Reads.none_, by simp⟩
  · simp at hcs
    obtain rfl := hcs
    simp only [if_true] at hz
    subst hx
    have h1 := hw _ (by simp only [DataW.weights]; rw [Try.underlying28]; exact List.mem_cons_self ..)
    simp [lits, reachBytes] at h1
    rw [show Try.prog.bytesOf 3 = 8 from by kernel_rfl] at h1
    refine ⟨some x, l, c', zs.take l, rfl, hl, by omega, ⟨by simp [iv]; omega, fun hn => ⟨x, rfl, ?_, fun j u hu => ?_⟩⟩, fun y hy => int_bounds (hwz y (List.mem_of_mem_take hy))⟩
    · have := cell_block (hcell 0 (by omega))
      rwa [show x.add 0 = x from by simp [Addr.add]] at this
    · unfold iv at hu
      rw [List.getElem?_map, Option.map_eq_some_iff] at hu
      obtain ⟨y, hy, rfl⟩ := hu
      have hi : j < l := by have := (List.getElem?_eq_some_iff.1 hy).1; simp at this; omega
      rw [List.getElem?_take_of_lt hi] at hy
      rw [hcell j (by omega)]
      simp [List.getD, hy]
theorem list6 {α : Type} {l : List α} (h : l.length = 6) : ∃ a b c d e f, l = [a, b, c, d, e, f] := by
  match l, h with
  | [a, b, c, d, e, f], _ => exact ⟨a, b, c, d, e, f, rfl⟩
theorem cells_i : Try.prog.cellsOf 3 = 1 := by kernel_rfl
theorem cells_b : Try.prog.cellsOf 31 = 1 := by kernel_rfl
theorem cells_is : Try.prog.cellsOf 28 = 1 := by kernel_rfl
end
theorem add_blk (x : Addr) (j : Nat) : (x.add j).block = x.block := by unfold Addr.add; split <;> rfl
theorem OpsAt.len {W : World} {B n : Nat} {A : Option Addr} {ops : List Op17} (h : OpsAt W B A n ops) : ops.length = n := h.1
theorem Op17.Ok.below {W W' : World} {B C : Nat} {o : Op17} {Ad Ap : Option Addr} {m k mp kp : Nat} (h : o.Ok W B Ad m k Ap mp kp) (hb : Below B W W') : o.Ok W' B Ad m k Ap mp kp :=
  ⟨h.kind, h.a, h.b, h.n, h.le, h.k, h.data.below hb, h.lep, h.kp, h.picks.below hb, h.each⟩
/-- an operation of a number, in all later worlds -/
theorem OpsAt.later {W : World} {B i n : Nat} {A : Option Addr} {ops : List Op17} {o : Op17} (h : OpsAt W B A n ops) (ho : ops[i]? = some o) :
    ∃ x Ad m k Ap mp kp, A = some x ∧ ∀ W', Below B W W' → (∀ j u, (opC o Ad m k Ap mp kp).toList[j]? = some u → W'.cell? ((x.add (i * 6)).add j) = some u) ∧ o.Ok W' B Ad m k Ap mp kp := by
  have hi := (List.getElem?_eq_some_iff.1 ho).1
  have h1 := h.1
  obtain ⟨x, hA, hx, h3⟩ := h.2 (by omega)
  obtain ⟨Ad, m, k, Ap, mp, kp, e1, e2⟩ := h3 i o ho
  refine ⟨x, Ad, m, k, Ap, mp, kp, hA, fun W' hb => ⟨fun j u hu => ?_, e2.below (C := 0) hb⟩⟩
  rw [hb.cell (by rw [add_blk, add_blk]; exact hx), Deep.add_add, Nat.mul_comm i 6]
  exact e1 j u hu
/-- a struct's value, read where it lies -/
theorem run_load_list {P : Program} {W : World} {t k : Nat} {p : Addr} {cs : List Value} (a : TAgg P t k) (hc : ∀ j v, cs[j]? = some v → W.cell? (p.add j) = some v) (hs : cs.length = k) : (Instr.loadAt t (.pointer (some p))).run P W = .ok (.agg cs.toArray) W := by
  have hl : (loadCells p k).run P W = .ok cs.toArray W := by
    have := run_loadCells_list (P := P) W p cs hc
    rw [hs] at this
    exact this
  unfold Instr.loadAt Instr.sureAddr loadVar
  simp [run_isAgg_agg a, run_size a.s, hl]
theorem VRead.loadL {P : Program} {w : World} {t k : Nat} {p : Addr} {cs : Array Value} {K : Value → Prop} [a : TAgg P t k] (hc : ∀ j v, cs.toList[j]? = some v → w.cell? (p.add j) = some v) (hs : Nat.beq cs.size k = true) (hk : K (.agg cs)) : VRead P (Eq w) (Instr.loadAt t (.pointer (some p))) K :=
  .of1 (by have := run_load_list a hc (by rw [Array.length_toList]; exact Nat.eq_of_beq_eq_true hs); simpa using this) hk
end Go.Proofs.Ytebeidnmplnlpaa
end

section
set_option maxRecDepth 10000
namespace Go.Proofs.Ytebeidnmplnlpaa
set_option linter.unusedVariables false
open Go.RowKit

theorem rArm_at (W : World) (U : Foot) (r c : Nat) (A : Option Addr) (xs : List Value) (K : Dk) (T : PT) (kind after : Int) (h : RefAt W U r A c xs K T) :
    Calls Try.prog 31 #[.pointer (some ⟨r, 0, none⟩), .int .i64 kind, .int .i64 after] W fun e W' => e = .returned (.int .i64 (K.arm kind after).1) ∧ RefAt W' U r A c xs (K.arm kind after).2 T ∧ W.grownBy W' (some r) := by
  obtain ⟨room, calls, armed, kind0, after0, off⟩ := K
  have hb : Blk W r 98 #[.slice A T.length c, .int .i64 room, .int .i64 calls, .bool armed, .int .i64 kind0, .int .i64 after0, .bool off] := h.blk
  refine calls_vc Try.func31 rfl (by kernel_rfl) ?_
  by_cases hbad : (kind ≠ 18 ∧ kind ≠ 19) ∨ after < 0
  · have e : Dk.arm ⟨room, calls, armed, kind0, after0, off⟩ kind after = (1, ⟨room, calls, armed, kind0, after0, off⟩) := by simp only [Dk.arm]; rw [if_pos hbad]
    rw [e]
    by_cases h18 : kind = 18
    · have ha : after < 0 := by omega
      subst h18
      ((conv => whnf); (repeat ((first | (refine VL.cons ?_) | (refine VL.nil ?_) | (refine VC.seqS rfl ?_) | (refine VC.region ?_)); (conv => whnf))))
      ((repeat ((first | (refine VL.cons ?_) | (refine VL.nil ?_) | (refine VC.seqS rfl ?_) | (refine VC.region ?_) | (refine VC.cond ?_) | (refine VC.ret ?_) | (refine VBool.f ?_) | (refine VBool.dT (by omega) ?_) | (refine VC.seq ?_)); (conv => whnf))))
      exact ⟨rfl, h, only_refl W r⟩
    · by_cases h19 : kind = 19
      · have ha : after < 0 := by omega
        subst h19
        ((conv => whnf); (repeat ((first | (refine VL.cons ?_) | (refine VL.nil ?_) | (refine VC.seqS rfl ?_) | (refine VC.region ?_)); (conv => whnf))))
        ((repeat ((first | (refine VL.cons ?_) | (refine VL.nil ?_) | (refine VC.seqS rfl ?_) | (refine VC.region ?_) | (refine VC.cond ?_) | (refine VC.ret ?_) | (refine VBool.t ?_) | (refine VBool.f ?_) | (refine VBool.dT (by omega) ?_) | (refine VC.seq ?_)); (conv => whnf))))
        exact ⟨rfl, h, only_refl W r⟩
      · ((conv => whnf); (repeat ((first | (refine VL.cons ?_) | (refine VL.nil ?_) | (refine VC.seqS rfl ?_) | (refine VC.region ?_)); (conv => whnf))))
        ((repeat ((first | (refine VL.cons ?_) | (refine VL.nil ?_) | (refine VC.seqS rfl ?_) | (refine VC.region ?_) | (refine VC.cond ?_) | (refine VC.ret ?_) | (refine VBool.t ?_) | (refine VBool.nF (by omega) ?_) | (refine VC.seq ?_)); (conv => whnf))))
        exact ⟨rfl, h, only_refl W r⟩
  · have e : Dk.arm ⟨room, calls, armed, kind0, after0, off⟩ kind after = (0, ⟨room, calls, true, kind, after, off⟩) := by simp only [Dk.arm]; rw [if_neg hbad]
    rw [e]
    have ha : 0 ≤ after := by omega
    by_cases h18 : kind = 18
    · subst h18
      ((conv => whnf); (repeat ((first | (refine VL.cons ?_) | (refine VL.nil ?_) | (refine VC.seqS rfl ?_) | (refine VC.region ?_)); (conv => whnf))))
      ((repeat ((first | (refine VL.cons ?_) | (refine VL.nil ?_) | (refine VC.seqS rfl ?_) | (refine VC.region ?_) | (refine VC.cond ?_) | (refine VC.skip ?_) | (refine VBool.f ?_) | (refine VBool.dF (by omega) ?_) | (refine VRead.fld ?_) | (refine VC.seq ?_)); (conv => whnf))))
      refine VUnit.storeB hb rfl rfl rfl ?_
      intro W1 hb1 hg1
      ((conv => whnf); (repeat ((first | (refine VL.cons ?_) | (refine VL.nil ?_) | (refine VC.seqS rfl ?_) | (refine VC.region ?_)); (conv => whnf))))
      ((repeat ((first | (refine VL.cons ?_) | (refine VRead.fld ?_)); (conv => whnf))))
      refine VUnit.storeB hb1 rfl rfl rfl ?_
      intro W2 hb2 hg2
      ((conv => whnf); (repeat ((first | (refine VL.cons ?_) | (refine VL.nil ?_) | (refine VC.seqS rfl ?_) | (refine VC.region ?_)); (conv => whnf))))
      ((repeat ((first | (refine VL.cons ?_) | (refine VRead.fld ?_)); (conv => whnf))))
      refine VUnit.storeB hb2 rfl rfl rfl ?_
      intro W3 hb3 hg3
      ((conv => whnf); (repeat ((first | (refine VL.cons ?_) | (refine VL.nil ?_) | (refine VC.seqS rfl ?_) | (refine VC.region ?_) | (refine VC.ret ?_)); (conv => whnf))))
      ((repeat ((fail); (conv => whnf))))
      have hg := only_trans hg1 (only_trans hg2 hg3)
      exact ⟨rfl, h.own hb3 hg, hg⟩
    · have h19 : kind = 19 := by omega
      subst h19
      ((conv => whnf); (repeat ((first | (refine VL.cons ?_) | (refine VL.nil ?_) | (refine VC.seqS rfl ?_) | (refine VC.region ?_)); (conv => whnf))))
      ((repeat ((first | (refine VL.cons ?_) | (refine VL.nil ?_) | (refine VC.seqS rfl ?_) | (refine VC.region ?_) | (refine VC.cond ?_) | (refine VC.skip ?_) | (refine VBool.t ?_) | (refine VBool.f ?_) | (refine VBool.dF (by omega) ?_) | (refine VRead.fld ?_) | (refine VC.seq ?_)); (conv => whnf))))
      refine VUnit.storeB hb rfl rfl rfl ?_
      intro W1 hb1 hg1
      ((conv => whnf); (repeat ((first | (refine VL.cons ?_) | (refine VL.nil ?_) | (refine VC.seqS rfl ?_) | (refine VC.region ?_)); (conv => whnf))))
      ((repeat ((first | (refine VL.cons ?_) | (refine VRead.fld ?_)); (conv => whnf))))
      refine VUnit.storeB hb1 rfl rfl rfl ?_
      intro W2 hb2 hg2
      ((conv => whnf); (repeat ((first | (refine VL.cons ?_) | (refine VL.nil ?_) | (refine VC.seqS rfl ?_) | (refine VC.region ?_)); (conv => whnf))))
      ((repeat ((first | (refine VL.cons ?_) | (refine VRead.fld ?_)); (conv => whnf))))
      refine VUnit.storeB hb2 rfl rfl rfl ?_
      intro W3 hb3 hg3
      ((conv => whnf); (repeat ((first | (refine VL.cons ?_) | (refine VL.nil ?_) | (refine VC.seqS rfl ?_) | (refine VC.region ?_) | (refine VC.ret ?_)); (conv => whnf))))
      ((repeat ((fail); (conv => whnf))))
      have hg := only_trans hg1 (only_trans hg2 hg3)
      exact ⟨rfl, h.own hb3 hg, hg⟩
theorem rArm_any (W : World) (U : Foot) (r : Nat) (S : DS) (kind after : Int) (h : RefD W U r S) (ha : after ≤ 9223372036854775807) :
    Calls Try.prog 31 #[.pointer (some ⟨r, 0, none⟩), .int .i64 kind, .int .i64 after] W fun e W' => e = .returned (.int .i64 (S.arm kind after).1) ∧ RefD W' U r (S.arm kind after).2 ∧ Out U W W' := by
  obtain ⟨h0, A, c, xs, h1⟩ := h
  refine (rArm_at W U r c A xs S.k S.t kind after h1).mono ?_
  rintro e W' ⟨rfl, h4, hg⟩
  exact ⟨rfl, ⟨⟨h0.k.arm ha, by have := h0.t; unfold DS.arm; simp only; rw [Dk.arm_room]; exact this⟩, A, c, xs, h4⟩, .grown hg h1.hr⟩
section
variable {U : Foot} {r c : Nat} {A : Option Addr} {xs : List Value} {K : Dk} {T : PT}
theorem used_app : ∀ (A B : PT), used (A ++ B) = used A + used B
  | [], B => by simp [used]
  | p :: A, B => by simp only [List.cons_append, used, used_app A B]; omega
theorem rCell {W : World} {T0 T1 : PT} {p : List UInt8 × Fl} (h : FRow W U A T.length c xs T) (hT : T = T0 ++ p :: T1) :
    ∃ g As cs Ap cp, A = some ⟨g, 0, none⟩ ∧ g < W.heap.size ∧ W.cell? (((⟨g, 0, none⟩ : Addr).add (T0.length * 3)).add 0) = some (encStr p.1) ∧
      W.cell? (((⟨g, 0, none⟩ : Addr).add (T0.length * 3)).add 1) = some (.slice As p.2.sure cs) ∧ W.cell? (((⟨g, 0, none⟩ : Addr).add (T0.length * 3)).add 2) = some (.slice Ap (p.2.b.length - p.2.sure) cp) ∧
      Lies W U As p.2.sure (p.2.b.take p.2.sure) ∧ Lies W U Ap (p.2.b.length - p.2.sure) (p.2.b.drop p.2.sure) ∧ p.2.sure ≤ cs ∧ p.2.b.length - p.2.sure ≤ cp := by
  have hels := h.els
  rw [hT] at hels
  obtain ⟨x1, a, b, c', x2, hxs, hx1, _, hel, _⟩ := hels.at_
  obtain ⟨rfl, ⟨As, cs, rfl, hls, hcs⟩, Ap, cp, rfl, hlp, hcp⟩ := hel
  obtain ⟨g, rfl, hgl, h0⟩ := h.cell (i := T0.length) (k := 0) (v := encStr p.1) (by rw [hxs, List.getElem?_append_right (by omega)]; simp [hx1])
  obtain ⟨g', e1, _, h1⟩ := h.cell (i := T0.length) (k := 1) (v := .slice As p.2.sure cs) (by rw [hxs, List.getElem?_append_right (by omega)]; simp [hx1])
  obtain ⟨g'', e2, _, h2⟩ := h.cell (i := T0.length) (k := 2) (v := .slice Ap (p.2.b.length - p.2.sure) cp) (by rw [hxs, List.getElem?_append_right (by omega)]; simp [hx1])
  injection e1 with e1; injection e1 with e1; subst e1
  injection e2 with e2; injection e2 with e2; subst e2
  exact ⟨g, As, cs, Ap, cp, rfl, hgl, h0, h1, h2, hls, hlp, hcs, hcp⟩
theorem rUsed_at (W : World) (h : RefAt W U r A c xs K T) (hroom : K.room ≤ 16777216) (hw : TWf K.room T) :
    Calls Try.prog 101 #[.pointer (some ⟨r, 0, none⟩)] W fun e W' => e = .returned (.int .i64 (used T : Int)) ∧ Below W.heap.size W W' := by
  have hb : Blk W r 98 #[.slice A T.length c, .int .i64 K.room, .int .i64 K.calls, .bool K.armed, .int .i64 K.kind, .int .i64 K.after, .bool K.off] := h.blk
  have hfit := hw.fit
  have hfew := hw.few
  refine calls_vc Try.func101 rfl (by kernel_rfl) ?_
  ((conv => whnf); (repeat ((first | (refine VL.cons ?_) | (refine VL.nil ?_) | (refine VC.seqS rfl ?_) | (refine VC.region ?_)); (conv => whnf))))
  ((repeat ((first | (refine VL.cons ?_) | (refine VL.nil ?_) | (refine VC.seqS rfl ?_) | (refine VC.region ?_) | (refine VC.block ?_) | (refine VC.seq ?_)); (conv => whnf))))
  refine VC.loop [3, 4] [(3, 34)] (fun q vs w => ∃ T0 T1 : PT, vs = [.int .i64 (used T0 : Int), .int .i64 (T0.length : Int)] ∧ q = T1.length ∧ T = T0 ++ T1 ∧ Below W.heap.size W w) (by kernel_rfl) ⟨_, [], T, rfl, rfl, rfl, Below.refl _ _⟩ ?_
  rintro q τ vs w ⟨T0, T1, rfl, rfl, hT, hB⟩
  have hb1 := hb.below hB hb.lt
  have hTl : T.length = T0.length + T1.length := by rw [hT]; simp
  have hTu : used T = used T0 + used T1 := by rw [hT, used_app]
  cases T1 with
  | nil =>
    simp only [List.length_nil] at hTl
    rw [List.append_nil] at hT
    subst hT
    ((conv => whnf); (repeat ((fail); (conv => whnf))))
    (repeat (first | ((first | (refine VL.cons ?_) | (refine VL.nil ?_) | (refine VC.seqS rfl ?_) | (refine VC.region ?_) | (refine VC.cond ?_) | (refine VC.exit ?_) | (refine VC.ret ?_) | (refine VBool.dF (by omega) ?_) | (refine VRead.lenS ?_) | (refine VRead.fld ?_) | (refine VC.seq ?_)); (conv => whnf)) | (refine VRead.loadB hb1 rfl rfl ?_; (conv => whnf))))
    exact ⟨rfl, hB⟩
  | cons p T1 =>
    simp only [List.length_cons] at hTl
    have hsu := hw.sure p (by rw [hT]; simp)
    have hTu2 : used T = used T0 + (p.2.b.length + used T1) := hTu
    obtain ⟨g, As, cs, Ap, cp, rfl, hgl, c0, c1, c2, hls, hlp, hcs, hcp⟩ := rCell (h.below hB (Nat.le_refl _)).fr hT
    ((conv => whnf); (repeat ((fail); (conv => whnf))))
    (repeat (first | ((first | (refine VL.cons ?_) | (refine VL.nil ?_) | (refine VC.seqS rfl ?_) | (refine VC.region ?_) | (refine VC.draw ?_) | (refine VC.cond ?_) | (refine VC.block ?_) | (refine VC.skip ?_) | (refine VBool.dT (by omega) ?_) | (refine VRead.lenS ?_) | (refine VRead.fld ?_) | (refine VC.seq ?_)); (conv => whnf)) | (refine VRead.loadB hb1 rfl rfl ?_; (conv => whnf))))
    (refine VDraw.seg (Eq (World.drewN _ 1)) [] [0, 1, 2, 3, 4, 5, 6, 7, 8, 9, 10, 11, 12, 13, 14, 15, 16, 17, 18, 19, 20, 21] (by kernel_rfl) (by kernel_rfl) rfl ?_; (conv => whnf))
    (repeat ((first | (refine VRead.loadB hb1 rfl rfl ?_) | (refine VRead.atK (by omega) ?_) | (refine VRead.load1 c1 ?_) | (refine VRead.load1 c2 ?_) | (refine VL.cons ?_) | (refine VL.nil ?_) | (refine VC.region ?_) | (refine VQ.cons ?_) | (refine VQ.nil ?_) | (refine VG.nil ?_) | (refine VRead.lenS ?_) | (refine VRead.fld ?_) | (refine VWrap.i64 (by omega) (by omega) ?_)); (conv => whnf)))
    ((repeat ((fail); (conv => whnf))))
    refine ⟨_, by simp, T0 ++ [p], T1, ?_, rfl, by rw [hT]; simp, below_drewN hB 1⟩
    have e : used (T0 ++ [p]) = used T0 + p.2.sure + (p.2.b.length - p.2.sure) := by rw [used_app]; simp only [used]; omega
    rw [e]
    simp only [List.length_append, List.length_cons, List.length_nil, Int.natCast_add]
    rfl
theorem rList_any (W : World) {S : DS} (h : RefD W U r S) :
    Calls Try.prog 66 #[.pointer (some ⟨r, 0, none⟩)] W fun e W' => ∃ A k, e = .returned (.slice A S.t.length k) ∧ W'.ownsRow W.heap.size 9 1 (.slice A S.t.length k) S.t.length ((S.t.map (·.1)).map encStr) ∧ Below W.heap.size W W' := by
  obtain ⟨⟨hk, hw⟩, A, c, xs, h⟩ := h
  obtain ⟨K, T⟩ := S
  simp only at h hk hw ⊢
  have hb : Blk W r 98 #[.slice A T.length c, .int .i64 K.room, .int .i64 K.calls, .bool K.armed, .int .i64 K.kind, .int .i64 K.after, .bool K.off] := h.blk
  have hfew := hw.few
  refine calls_vc Try.func66 rfl (by kernel_rfl) ?_
  ((conv => whnf); (repeat ((first | (refine VL.cons ?_) | (refine VL.nil ?_) | (refine VC.seqS rfl ?_) | (refine VC.region ?_)); (conv => whnf))))
  ((repeat ((first | (refine VL.cons ?_) | (refine VL.nil ?_) | (refine VC.seqS rfl ?_) | (refine VC.region ?_) | (refine VC.block ?_) | (refine VC.seq ?_)); (conv => whnf))))
  refine VC.loop [3, 4] [(3, 24)] (fun q vs w => ∃ T0 T1 : PT, ∃ A k, vs = [.slice A T0.length k, .int .i64 (T0.length : Int)] ∧ q = T1.length ∧ T = T0 ++ T1 ∧ w.ownsRow W.heap.size 9 1 (.slice A T0.length k) T0.length ((T0.map (·.1)).map encStr) ∧ Below W.heap.size W w) (by kernel_rfl)
    ⟨_, [], T, _, _, rfl, rfl, rfl, World.ownsRow_nil W _ _ _, Below.refl _ _⟩ ?_
  rintro q τ vs w ⟨T0, T1, B, k, rfl, rfl, hT, hO, hB⟩
  have hTl : T.length = T0.length + T1.length := by rw [hT]; simp
  have hb1 := hb.below hB hb.lt
  cases T1 with
  | nil =>
    simp only [List.length_nil] at hTl
    rw [List.append_nil] at hT
    subst hT
    ((conv => whnf); (repeat ((fail); (conv => whnf))))
    (repeat (first | ((first | (refine VL.cons ?_) | (refine VL.nil ?_) | (refine VC.seqS rfl ?_) | (refine VC.region ?_) | (refine VC.cond ?_) | (refine VC.exit ?_) | (refine VC.ret ?_) | (refine VBool.dF (by omega) ?_) | (refine VRead.lenS ?_) | (refine VRead.fld ?_) | (refine VC.seq ?_)); (conv => whnf)) | (refine VRead.loadB hb1 rfl rfl ?_; (conv => whnf))))
    exact ⟨B, k, rfl, hO, hB⟩
  | cons p T1 =>
    simp only [List.length_cons] at hTl
    obtain ⟨g, As, cs, Ap, cp, rfl, hgl, c0, c1, c2, hls, hlp, hcs, hcp⟩ := rCell (h.below hB (Nat.le_refl _)).fr hT
    ((conv => whnf); (repeat ((fail); (conv => whnf))))
    (repeat (first | ((first | (refine VL.cons ?_) | (refine VL.nil ?_) | (refine VC.seqS rfl ?_) | (refine VC.region ?_) | (refine VC.cond ?_) | (refine VC.block ?_) | (refine VC.skip ?_) | (refine VBool.dT (by omega) ?_) | (refine VRead.lenS ?_) | (refine VRead.fld ?_) | (refine VRead.load1 (by assumption) ?_) | (refine VC.seq ?_)); (conv => whnf)) | (refine VRead.loadB hb1 rfl rfl ?_; (conv => whnf)) | (refine VRead.atK (by omega) ?_; (conv => whnf)) | (refine VRead.load1 c0 ?_; (conv => whnf))))
    refine VSem.one rfl ?_
    intro w2 hr2 hB2 hz2
    have hO2 := rows_below hO hB2 (Nat.le_refl _)
    have hBw2 := hB.trans (hB2.mono hB.size)
    ((conv => whnf); (repeat ((first | (refine VL.cons ?_)); (conv => whnf))))
    ((repeat ((fail); (conv => whnf))))
    refine VSem.push str_info rfl hO2 hr2 rfl (by omega) (by decide) hBw2.size ?_
    intro A' k' w3 hO3 hg3
    have hBw3 := hBw2.grown hg3 hBw2.size (fun j hj => (row_cells hO2 j hj).1)
    ((conv => whnf); (repeat ((first | (refine VL.cons ?_) | (refine VL.nil ?_) | (refine VC.region ?_)); (conv => whnf))))
    ((repeat ((first | (refine VL.cons ?_) | (refine VL.nil ?_) | (refine VWrap.i64 (by omega) (by omega) ?_)); (conv => whnf))))
    refine ⟨_, by simp, T0 ++ [p], T1, A', k', ?_, rfl, by rw [hT]; simp, ?_, hBw3⟩
    · simp only [List.length_append, List.length_cons, List.length_nil]; rfl
    · simpa only [List.length_append, List.length_cons, List.length_nil, List.map_append, List.map_cons, List.map_nil] using hO3
theorem rRead_any (W : World) {S : DS} (s : List UInt8) (h : RefD W U r S) :
    Calls Try.prog 70 #[.pointer (some ⟨r, 0, none⟩), encStr s] W fun e W' => ∃ v, e = .returned v ∧ readR W' W.heap.size S.t s v ∧ Below W.heap.size W W' := by
  obtain ⟨⟨hk, hw⟩, A, c, xs, h⟩ := h
  obtain ⟨K, T⟩ := S
  simp only at h hk hw ⊢
  have hb : Blk W r 98 #[.slice A T.length c, .int .i64 K.room, .int .i64 K.calls, .bool K.armed, .int .i64 K.kind, .int .i64 K.after, .bool K.off] := h.blk
  have hfew := hw.few
  have hfit := hw.fit
  have hroom := hk.room
  unfold readR
  refine calls_vc Try.func70 rfl (by kernel_rfl) ?_
  ((conv => whnf); (repeat ((first | (refine VL.cons ?_) | (refine VL.nil ?_) | (refine VC.seqS rfl ?_) | (refine VC.region ?_)); (conv => whnf))))
  ((repeat ((fail); (conv => whnf))))
  refine VCall.of (rFind_at W s h hw.ris (by omega)) ?_
  rintro e W1 ⟨⟨k, rfl, hst⟩, eW⟩
  obtain rfl := eW.symm
  refine ⟨_, rfl, ?_⟩
  rcases hst with ⟨hf, rfl⟩ | ⟨T0, f, T1, hT, hf, rfl⟩
  · rw [hf]
    ((conv => whnf); (repeat ((first | (refine VL.cons ?_) | (refine VL.nil ?_)); (conv => whnf))))
    ((repeat ((first | (refine VL.cons ?_) | (refine VL.nil ?_) | (refine VC.seqS rfl ?_) | (refine VC.region ?_) | (refine VC.cond ?_) | (refine VC.ret ?_) | (refine VBool.t ?_) | (refine VC.seq ?_)); (conv => whnf))))
    exact ⟨_, rfl, rfl, Below.refl _ _⟩
  · rw [hf]
    have hTl : T.length = T0.length + (T1.length + 1) := by rw [hT]; simp
    have hlen := len_used (T := T) (p := (s, f)) (tfind_mem hf)
    have hsu := hw.sure (s, f) (tfind_mem hf)
    obtain ⟨g, As, cs, Ap, cp, rfl, hgl, c0, c1, c2, hls, hlp, hcs, hcp⟩ := rCell h.fr hT
    simp only at hlen hsu c1 c2 hls hlp hcs hcp
    have hS : Below W.heap.size W (W.drewN 1) := below_drewN (Below.refl _ _) 1
    have kB : ∀ X, Below W.heap.size W X → Blk X r 98 #[.slice (some ⟨g, 0, none⟩) T.length c, .int .i64 K.room, .int .i64 K.calls, .bool K.armed, .int .i64 K.kind, .int .i64 K.after, .bool K.off] := fun X hX => hb.below hX hb.lt
    have kc : ∀ {j : Nat} {v : Value}, W.cell? (((⟨g, 0, none⟩ : Addr).add (T0.length * 3)).add j) = some v → ∀ X, Below W.heap.size W X → X.cell? (((⟨g, 0, none⟩ : Addr).add (T0.length * 3)).add j) = some v := fun h X hX => by rw [hX.cell (by rw [add_blk, add_blk]; exact hgl)]; exact h
    ((conv => whnf); (repeat ((first | (refine VL.cons ?_) | (refine VL.nil ?_)); (conv => whnf))))
    ((repeat ((first | (refine VL.cons ?_) | (refine VL.nil ?_) | (refine VC.seqS rfl ?_) | (refine VC.region ?_) | (refine VC.draw ?_) | (refine VC.cond ?_) | (refine VC.skip ?_) | (refine VBool.f ?_) | (refine VC.seq ?_)); (conv => whnf))))
    refine VDraw.seg (fun X => Below W.heap.size W X) [([0, 1, 2, 3, 4, 5, 6, 7, 9, 10, 11, 12, 13, 14, 15, 16], 8), ([], 17)] [18, 19] (by kernel_rfl) (by kernel_rfl) hS ?_
    (conv => whnf)
    (repeat ((first | (refine VRead.loadBS kB rfl rfl ?_) | (refine VRead.atK (by omega) ?_) | (refine VRead.load (kc c1) ?_) | (refine VRead.load (kc c2) ?_) | (refine VQ.cons ?_) | (refine VQ.nil ?_) | (refine VG.cons ?_) | (refine VRead.fld ?_)); (conv => whnf)))
    refine VSem.appO (Own.nil (W.drewN 1) W.heap.size) (hls.below hS (Nat.le_refl _)).1 (by omega) (Nat.le_refl _) ?_
    intro A' k' W1 hO1 _ hB1
    rw [Nat.zero_add, List.nil_append] at hO1
    rw [Nat.zero_add]
    have hS1 := hS.trans hB1
    (conv => whnf)
    refine Keep.mk hS1 ?_
    (conv => whnf)
    (repeat ((first | (refine VQ.nil ?_) | (refine VG.cons ?_)); (conv => whnf)))
    refine VSem.appO hO1 (hlp.below hS1 (Nat.le_refl _)).1 (by omega) hS1.size ?_
    intro A2 k2 W2 hO2 _ hB2
    rw [List.take_append_drop] at hO2
    have e : f.sure + (f.b.length - f.sure) = f.b.length := by omega
    rw [e] at hO2 ⊢
    have hS2 := hS1.trans hB2
    (conv => whnf)
    refine Keep.mk hS2 ?_
    (conv => whnf)
    ((repeat ((first | (refine VC.ret ?_) | (refine VQ.cons ?_) | (refine VQ.nil ?_) | (refine VG.nil ?_)); (conv => whnf))))
    exact ⟨_, rfl, ⟨A2, k2, rfl, hO2⟩, hS2⟩
end
end Go.Proofs.Ytebeidnmplnlpaa
end
