/- A calculus of conditions: frames as functions, operations one by one, draws by segments. No condition. -/
import Derived.Test.YtajheglnhfjodaaDoorWords
import Derived.BigQuiet
import Derived.OrdersHeld
import Derived.Laws.Strings
import Derived.RangeFuncIn
import Derived.TacticsIn
import Derived.Scope
import Derived.Deep.LoopGhost
namespace Go.Proofs.YtajheglnhfjodaaDoor
set_option linter.unusedVariables false
open Go.RowKit

/-! ### frames as functions -/
abbrev Env := Nat → Value
def setE (σ : Env) (d : Nat) (v : Value) : Env := fun t => bif Nat.beq t d then v else σ t
def putE (σ : Env) (d : Option Tmp) (v : Value) : Env := match d with | some d => setE σ d v | none => σ
def ev (σ : Env) (x : Operand) : Value := match x with
  | .tmp t => σ t
  | .const v => v
  | .global g => .pointer (some ⟨g, 0, none⟩)
  | .func f => .func (.func f) #[] #[]
def learn (σ : Env) (c : Operand) (b : Bool) : Env := match c with | .tmp t => setE σ t (.bool b) | _ => σ
def envOf : List Value → Env
  | [], _ => undef
  | v :: _, 0 => v
  | _ :: r, t + 1 => envOf r t
structure Agr (n : Nat) (ds : List Deferred) (a : Act) (σ : Env) : Prop where
  size : a.tmps.size = n
  val : ∀ t, a.tmps.getD t undef = σ t
  defers : a.defers = ds
theorem setE_same (σ : Env) (d : Nat) (v : Value) : setE σ d v d = v := by simp [setE]
theorem setE_ne (σ : Env) {d t : Nat} (v : Value) (h : t ≠ d) : setE σ d v t = σ t := by
  have : Nat.beq t d = false := by rw [Bool.eq_false_iff]; intro e; exact h (Nat.eq_of_beq_eq_true e)
  simp [setE, this]
theorem setE_id {σ : Env} {d : Nat} {v : Value} (h : σ d = v) : setE σ d v = σ := by
  funext t
  by_cases e : t = d
  · subst e; rw [setE_same, h]
  · exact setE_ne σ v e
theorem learn_id {σ : Env} {c : Operand} {b : Bool} (h : ev σ c = .bool b) : learn σ c b = σ := by
  cases c <;> simp only [learn]
  exact setE_id h
theorem Agr.put {n : Nat} {ds : List Deferred} {a : Act} {σ : Env} (h : Agr n ds a σ) {d : Option Tmp} (hd : ∀ t, d = some t → t < n) (v : Value) : Agr n ds (a.put d v) (putE σ d v) := by
  cases d with
  | none => exact h
  | some d =>
    have hdn := hd d rfl
    refine ⟨by simp [Act.put, h.size], fun t => ?_, h.defers⟩
    simp only [Act.put, putE]
    by_cases e : t = d
    · subst e
      rw [setE_same, Array.getD_eq_getD_getElem?, Array.getElem?_setIfInBounds_self_of_lt (by rw [h.size]; exact hdn)]
      rfl
    · rw [setE_ne σ v e, ← h.val t, Array.getD_eq_getD_getElem?, Array.getD_eq_getD_getElem?, Array.getElem?_setIfInBounds_ne (fun e' => e e'.symm)]
theorem Agr.eval {n : Nat} {ds : List Deferred} {a : Act} {σ : Env} (h : Agr n ds a σ) : a.eval = ev σ := by
  funext x
  cases x <;> simp only [Act.eval, ev]
  exact h.val _

/-! ### what may stop the reckoning -/
def enters (P : Program) (f : FuncId) : Bool := match P.funcs[f]? with | some fn => fn.body.isSome && !(fn.name == "runtime.NumGoroutine") | none => false
structure VSem (P : Program) (s : Sem Value) (w : World) (K : Value → World → Prop) : Prop where
  out : ∃ v w', s.run P w = .ok v w' ∧ K v w'
theorem VSem_eq {P : Program} {s : Sem Value} {w : World} {K : Value → World → Prop} : VSem P s w K = (∃ v w', s.run P w = .ok v w' ∧ K v w') := propext ⟨fun h => h.out, fun h => ⟨h⟩⟩
structure VUnit (P : Program) (s : Sem Unit) (w : World) (K : World → Prop) : Prop where
  out : ∃ w', s.run P w = .ok () w' ∧ K w'
theorem VUnit_eq {P : Program} {s : Sem Unit} {w : World} {K : World → Prop} : VUnit P s w K = (∃ w', s.run P w = .ok () w' ∧ K w') := propext ⟨fun h => h.out, fun h => ⟨h⟩⟩
structure VRead (P : Program) (S : World → Prop) (s : Sem Value) (K : Value → Prop) : Prop where
  out : ∃ v, (∀ W, S W → s.run P W = .ok v W) ∧ K v
theorem VRead_eq {P : Program} {S : World → Prop} {s : Sem Value} {K : Value → Prop} : VRead P S s K = (∃ v, (∀ W, S W → s.run P W = .ok v W) ∧ K v) := propext ⟨fun h => h.out, fun h => ⟨h⟩⟩
structure VCall (P : Program) (f : FuncId) (args : List Value) (w : World) (K : Value → World → Prop) : Prop where
  out : enters P f = true ∧ Calls P f args.toArray w (fun e w' => ∃ v, e = .returned v ∧ K v w')
theorem VCall_eq {P : Program} {f : FuncId} {args : List Value} {w : World} {K : Value → World → Prop} : VCall P f args w K = (enters P f = true ∧ Calls P f args.toArray w (fun e w' => ∃ v, e = .returned v ∧ K v w')) := propext ⟨fun h => h.out, fun h => ⟨h⟩⟩
structure VYield (P : Program) (k : Nat) (args : List Value) (w : World) (K : Value → World → Prop) : Prop where
  out : ∃ fn tmps assign body, (Instr.yield k args.toArray).run P w = .ok (.round k fn tmps assign body) w ∧ RoundIn Fence.wide 0 P k fn tmps assign body w (fun e w' => ∃ v, e = .returned v ∧ K v w')
structure VNext (P : Program) (s : Sem Next) (w : World) (K : Value → World → Prop) : Prop where
  out : (∃ v w', s.run P w = .ok (.value v) w' ∧ K v w') ∨ (∃ w', s.run P w = .ok .skip w' ∧ K undef w') ∨
    (∃ f args w', s.run P w = .ok (.enter f args) w' ∧ Calls P f args w' (fun e w'' => ∃ v, e = .returned v ∧ K v w''))
theorem VNext_eq {P : Program} {s : Sem Next} {w : World} {K : Value → World → Prop} : VNext P s w K = ((∃ v w', s.run P w = .ok (.value v) w' ∧ K v w') ∨ (∃ w', s.run P w = .ok .skip w' ∧ K undef w') ∨     (∃ f args w', s.run P w = .ok (.enter f args) w' ∧ Calls P f args w' (fun e w'' => ∃ v, e = .returned v ∧ K v w''))) := propext ⟨fun h => h.out, fun h => ⟨h⟩⟩
structure VWrap (k : IntKind) (z : Int) (K : Int → Prop) : Prop where
  out : K (k.wrap z)
theorem VWrap_eq {k : IntKind} {z : Int} {K : Int → Prop} : VWrap k z K = (K (k.wrap z)) := propext ⟨fun h => h.out, fun h => ⟨h⟩⟩
structure VBool (b : Bool) (k : Bool → Prop) : Prop where
  out : k b
theorem VBool_eq {b : Bool} {k : Bool → Prop} : VBool b k = (k b) := propext ⟨fun h => h.out, fun h => ⟨h⟩⟩
theorem VBool.mono {b : Bool} {k k' : Bool → Prop} (h : VBool b k) (hk : k b → k' b) : VBool b k' := ⟨hk h.out⟩

theorem VSem.mono {P : Program} {s : Sem Value} {w : World} {K K' : Value → World → Prop} (h : VSem P s w K) (hk : ∀ v w, K v w → K' v w) : VSem P s w K' := by
  simp only [VSem_eq] at *; obtain ⟨v, w', h1, h2⟩ := h; exact ⟨v, w', h1, hk _ _ h2⟩
theorem VUnit.mono {P : Program} {s : Sem Unit} {w : World} {K K' : World → Prop} (h : VUnit P s w K) (hk : ∀ w, K w → K' w) : VUnit P s w K' := by
  simp only [VUnit_eq] at *; obtain ⟨w', h1, h2⟩ := h; exact ⟨w', h1, hk _ h2⟩
theorem VRead.mono {P : Program} {S : World → Prop} {s : Sem Value} {K K' : Value → Prop} (h : VRead P S s K) (hk : ∀ v, K v → K' v) : VRead P S s K' := by
  simp only [VRead_eq] at *; obtain ⟨v, h1, h2⟩ := h; exact ⟨v, h1, hk _ h2⟩
theorem VCall.mono {P : Program} {f : FuncId} {args : List Value} {w : World} {K K' : Value → World → Prop} (h : VCall P f args w K) (hk : ∀ v w, K v w → K' v w) : VCall P f args w K' := by
  simp only [VCall_eq] at *; exact ⟨h.1, h.2.mono fun e w' ⟨v, h1, h2⟩ => ⟨v, h1, hk _ _ h2⟩⟩
theorem VYield.mono {P : Program} {k : Nat} {args : List Value} {w : World} {K K' : Value → World → Prop} (h : VYield P k args w K) (hk : ∀ v w, K v w → K' v w) : VYield P k args w K' := by
  obtain ⟨fn, tmps, assign, body, h1, h2⟩ := h.out
  exact ⟨fn, tmps, assign, body, h1, h2.mono fun e w' ⟨v, k1, k2⟩ => ⟨v, k1, hk _ _ k2⟩⟩
theorem VNext.mono {P : Program} {s : Sem Next} {w : World} {K K' : Value → World → Prop} (h : VNext P s w K) (hk : ∀ v w, K v w → K' v w) : VNext P s w K' := by
  simp only [VNext_eq] at *
  rcases h with ⟨v, w', h1, h2⟩ | ⟨w', h1, h2⟩ | ⟨f, args, w', h1, h2⟩
  · exact .inl ⟨v, w', h1, hk _ _ h2⟩
  · exact .inr (.inl ⟨w', h1, hk _ _ h2⟩)
  · exact .inr (.inr ⟨f, args, w', h1, h2.mono fun e w'' ⟨v, k1, k2⟩ => ⟨v, k1, hk _ _ k2⟩⟩)
theorem VWrap.mono {k : IntKind} {z : Int} {K K' : Int → Prop} (h : VWrap k z K) (hk : ∀ v, K v → K' v) : VWrap k z K' := by
  simp only [VWrap_eq] at *; exact hk _ h

/-! ### operations that leave the world alone -/
def sameK : IntKind → IntKind → Bool
  | .i8, .i8 | .i16, .i16 | .i32, .i32 | .i64, .i64 | .u8, .u8 | .u16, .u16 | .u32, .u32 | .u64, .u64 => true
  | _, _ => false
theorem sameK_eq {k j : IntKind} (h : sameK k j = true) : k = j := by cases k <;> cases j <;> first | rfl | cases h
def vbin (P : Program) (S : World → Prop) (op : BinOp) (t : TypeId) (x y : Operand) (a b : Value) (K : Value → Prop) : Prop :=
  match op, a, b with
  | .add, .int k m, .int j n => bif sameK k j then VWrap k (m + n) (fun z => K (.int k z)) else False
  | .sub, .int k m, .int j n => bif sameK k j then VWrap k (m - n) (fun z => K (.int k z)) else False
  | .mul, .int k m, .int j n => bif sameK k j then VWrap k (m * n) (fun z => K (.int k z)) else False
  | .eql, .int k m, .int j n => bif sameK k j then K (.bool (decide (m = n))) else False
  | .neq, .int k m, .int j n => bif sameK k j then K (.bool (!decide (m = n))) else False
  | .lss, .int k m, .int j n => bif sameK k j then K (.bool (decide (m < n))) else False
  | .leq, .int k m, .int j n => bif sameK k j then K (.bool (decide (m ≤ n))) else False
  | .gtr, .int k m, .int j n => bif sameK k j then K (.bool (decide (n < m))) else False
  | .geq, .int k m, .int j n => bif sameK k j then K (.bool (decide (n ≤ m))) else False
  | .eql, .string s, .string u => K (.bool (decide (s = u)))
  | .neq, .string s, .string u => K (.bool (!decide (s = u)))
  | op, a, b => VRead P S (do eqGuard op t x y a b; binOp op t a b) K
/-- these leave the world alone -/
def isRead : Op → Bool
  | .move _ | .assign _ | .pick .. | .load .. | .binOp .. | .unOp .. | .extract .. | .slice .. | .fieldAddr .. | .field .. | .indexAddr .. | .index .. | .makeInterface .. | .nilCheck .. | .build .. => true
  | .call c => match c.callee with | .builtin .len | .builtin .cap | .builtin .min | .builtin .max => true | _ => false
  | _ => false
/-- a value, reckoned to its head -/
def forceV (v : Value) (K : Value → Prop) : Prop := match v with
  | .bool b => K (.bool b)
  | .int k n => K (.int k n)
  | .float k b => K (.float k b)
  | .complex k a b => K (.complex k a b)
  | .string s => K (.string s)
  | .pointer a => K (.pointer a)
  | .slice a n c => K (.slice a n c)
  | .map r => K (.map r)
  | .chan r => K (.chan r)
  | .func f a b => K (.func f a b)
  | .nilFunc => K .nilFunc
  | .iface t v => K (.iface t v)
  | .nilIface => K .nilIface
  | .agg c => K (.agg c)
  | .tuple v => K (.tuple v)
theorem forceV_eq (v : Value) (K : Value → Prop) : forceV v K = K v := by cases v <;> rfl
def forceL : List Value → (List Value → Prop) → Prop
  | [], K => K []
  | v :: r, K => forceV v fun v => forceL r fun r => K (v :: r)
theorem forceL_eq : ∀ (l : List Value) (K : List Value → Prop), forceL l K = K l
  | [], K => rfl
  | v :: r, K => by rw [forceL, forceV_eq, forceL_eq r]
def zipP : List (Nat × Operand) → List Value → List (Nat × Value)
  | p :: r, v :: vs => (p.1, v) :: zipP r vs
  | _, _ => []
theorem zipP_eq (ρ : Operand → Value) : ∀ l : List (Nat × Operand), zipP l (l.map fun p => ρ p.2) = l.map fun p => (p.1, ρ p.2)
  | [] => rfl
  | p :: r => by simp only [List.map_cons, zipP, zipP_eq ρ r]
def argsOf (ρ : Operand → Value) (c : Call) : List Value := c.args.toList.map ρ
def vread (P : Program) (S : World → Prop) (ρ : Operand → Value) (op : Op) (ty : TypeId) (K : Value → Prop) : Prop :=
  match op with
  | .move x | .assign x => forceV (ρ x) K
  | .pick c a b => match ρ c with | .bool t => forceV (bif t then ρ a else ρ b) K | _ => False
  | .load t a => forceV (ρ a) fun a => VRead P S (Instr.loadAt t a) K
  | .binOp op t x y _ => forceV (ρ x) fun a => forceV (ρ y) fun b => vbin P S op t x y a b K
  | .unOp op t x => match op, ρ x with | .not, .bool b => K (.bool (!b)) | _, v => VRead P S (Op.unary op v) K
  | .extract t i => match ρ t with | .tuple vs => (match vs.toList[i]? with | some v => K v | none => False) | _ => False
  | .slice t x lo hi mx => VRead P S (Instr.sliceAt t (ρ x) (lo.map ρ) (hi.map ρ) (mx.map ρ)) K
  | .fieldAddr s x f => forceV (ρ x) fun x => VRead P S (Instr.fieldAt s x f) K
  | .field t x f => forceV (ρ x) fun x => VRead P S (Instr.field t x f) K
  | .indexAddr t x i => forceV (ρ x) fun x => forceV (ρ i) fun i => VRead P S (Instr.indexAt t x i) K
  | .index t x i => forceV (ρ x) fun x => forceV (ρ i) fun i => VRead P S (Instr.index t x i) K
  | .makeInterface t x => forceV (ρ x) fun x => VRead P S (Instr.makeInterface t x) K
  | .convert s d x => forceV (ρ x) fun x => VRead P S (convert s d x) K
  | .build t ps => forceL (ps.toList.map fun p => ρ p.2) fun l => VRead P S (Instr.build t (zipP ps.toList l).toArray) K
  | .lookup t x i ok => forceV (ρ x) fun x => forceV (ρ i) fun i => VRead P S (Instr.lookup t x i ok) K
  | .nilCheck x => match ρ x with | .pointer (some a) => K (.pointer (some a)) | _ => False
  | .call c => match c.callee with
    | .builtin .len => forceL (argsOf ρ c) fun l => VRead P S (Builtin.len_ c.argTypes ty l.toArray) K
    | .builtin .cap => forceL (argsOf ρ c) fun l => VRead P S (Builtin.cap_ c.argTypes ty l.toArray) K
    | .builtin .min => forceL (argsOf ρ c) fun l => VRead P S (Builtin.min_ c.argTypes ty l.toArray) K
    | .builtin .max => forceL (argsOf ρ c) fun l => VRead P S (Builtin.max_ c.argTypes ty l.toArray) K
    | _ => False
  | _ => False
theorem vbin_mono {P : Program} {S : World → Prop} {op : BinOp} {t : TypeId} {x y : Operand} {a b : Value} {K K' : Value → Prop} (h : vbin P S op t x y a b K) (hk : ∀ v, K v → K' v) : vbin P S op t x y a b K' := by
  unfold vbin at *
  split at h <;> first
    | exact h.mono hk
    | exact hk _ h
    | (rename_i k m j n; cases hs : sameK k j <;> rw [hs] at h <;> simp only [cond_true, cond_false] at h ⊢ <;> first | exact h.elim | exact h.mono fun z => hk _ | exact hk _ h)
theorem args_arr (ρ : Operand → Value) (c : Call) : (argsOf ρ c).toArray = c.args.map ρ := by
  unfold argsOf; rw [← Array.toList_inj]; simp
theorem bytes_eq (s u : ByteArray) : (s.toList == u.toList) = decide (s = u) := by
  have e : ∀ s : ByteArray, s.toList = s.data.toList := fun s => by cases s with | mk d => cases d with | mk l => exact ByteArray.toList_mk l
  rw [e, e, Bool.eq_iff_iff, beq_iff_eq, decide_eq_true_iff]
  constructor
  · intro h
    cases s with | mk d => cases u with | mk d' => congr; exact Array.toList_inj.1 h
  · rintro rfl; rfl
theorem run_v' {P : Program} {s : Sem Value} {v : Value} {W W' : World} (h : s.run P W = .ok v W') : (do pure (.value (← s)) : Sem Next).run P W = .ok (.value v) W' := by
  rw [Sem.run_bind, h]; rfl
theorem eqGuard_int {P : Program} (op : BinOp) (t : TypeId) (x y : Operand) (k j : IntKind) (m n : Int) (W : World) : (eqGuard op t x y (.int k m) (.int j n)).run P W = .ok () W := by
  unfold eqGuard; cases op <;> rfl
theorem eqGuard_str {P : Program} (op : BinOp) (t : TypeId) (x y : Operand) (s u : ByteArray) (W : World) : (eqGuard op t x y (.string s) (.string u)).run P W = .ok () W := by
  unfold eqGuard; cases op <;> rfl
theorem vbin_sound {P : Program} {S : World → Prop} {op : BinOp} {t : TypeId} {x y : Operand} {a b : Value} {K : Value → Prop} (h : vbin P S op t x y a b K) :
    ∃ v, (∀ W, S W → (do eqGuard op t x y a b; binOp op t a b : Sem Value).run P W = .ok v W) ∧ K v := by
  unfold vbin at h
  split at h
  case h_12 => simp only [VRead_eq] at h; exact h
  case h_10 s u => exact ⟨_, fun W _ => by rw [Sem.run_bind, eqGuard_str]; show (Op.stringOp .eql s u).run P W = _; unfold Op.stringOp; simp only [Sem.run_pure]; rw [bytes_eq], h⟩
  case h_11 s u => exact ⟨_, fun W _ => by rw [Sem.run_bind, eqGuard_str]; show (Op.stringOp .neq s u).run P W = _; unfold Op.stringOp; simp only [Sem.run_pure]; rw [bytes_eq], h⟩
  all_goals
    rename_i k m j n
    by_cases hs : sameK k j = true
    · rw [hs] at h
      simp only [cond_true] at h
      obtain rfl := sameK_eq hs
      try simp only [VWrap_eq] at h
      try dsimp only at h
      refine ⟨_, fun W _ => ?_, h⟩
      rw [Sem.run_bind, eqGuard_int]
      first | rfl | (simp [binOp, Op.intArith, Op.intCmp, Result.andThen, bne]; done) | (simp [binOp, Op.intArith, Op.intCmp, Result.andThen, bne]; rfl)
    · rw [Bool.not_eq_true] at hs
      rw [hs] at h
      exact h.elim
theorem vread_sound {P : Program} {S : World → Prop} {ρ : Operand → Value} {o : Oper} {K : Value → Prop} (h : vread P S ρ o.op o.type K) :
    ∃ v, (∀ W, S W → (execOp ρ o).run P W = .ok (.value v) W) ∧ K v := by
  unfold execOp
  cases ho : o.op <;> rw [ho] at h <;> simp only [vread, forceV_eq, forceL_eq] at h ⊢
  all_goals first
    | exact h.elim
    | (simp only [VRead_eq] at h; obtain ⟨v, h1, h2⟩ := h; exact ⟨v, fun W hW => run_v' (h1 W hW), h2⟩)
    | exact ⟨_, fun W hW => rfl, h⟩
    | skip
  case build t ps =>
    have e : (ps.toList.map fun p => (p.1, ρ p.2)).toArray = ps.map fun p => (p.1, ρ p.2) := by rw [← Array.toList_inj]; simp
    rw [zipP_eq, e] at h
    simp only [VRead_eq] at h; obtain ⟨v, h1, h2⟩ := h; exact ⟨v, fun W hW => run_v' (h1 W hW), h2⟩
  case pick c x y =>
    split at h
    · rename_i t e
      refine ⟨_, fun W hW => ?_, h⟩
      rw [e]
      cases t <;> rfl
    · exact h.elim
  case nilCheck x =>
    split at h
    · rename_i a e
      refine ⟨_, fun W hW => ?_, h⟩
      rw [e]
      rfl
    · exact h.elim
  case binOp op t x y yt =>
    obtain ⟨v, h1, h2⟩ := vbin_sound h
    exact ⟨v, fun W hW => run_v' (h1 W hW), h2⟩
  case unOp op t x =>
    split at h
    · rename_i b e
      refine ⟨_, fun W hW => ?_, h⟩
      rw [e]
      rfl
    · simp only [VRead_eq] at h
      obtain ⟨v, h1, h2⟩ := h
      exact ⟨v, fun W hW => run_v' (h1 W hW), h2⟩
  case extract t i =>
    split at h
    · rename_i vs e
      split at h
      · rename_i v e2
        refine ⟨_, fun W hW => ?_, h⟩
        rw [e]
        have e3 : vs[i]? = some v := by rw [← e2]; simp
        unfold Instr.extract
        simp only [e3]
        rfl
      · exact h.elim
    · exact h.elim
  case call c =>
    unfold resolve
    split at h
    all_goals first
      | exact h.elim
      | (rename_i e
         simp only [VRead_eq] at h
         obtain ⟨v, h1, h2⟩ := h
         refine ⟨v, fun W hW => ?_, h2⟩
         have h3 := h1 W hW
         rw [args_arr] at h3
         simp only [e]
         rw [Sem.run_bind, Sem.run_pure]
         simp only [Result.andThen_ok]
         unfold invoke builtin
         exact run_v' h3)
theorem vread_mono {P : Program} {S : World → Prop} {ρ : Operand → Value} {op : Op} {ty : TypeId} {K K' : Value → Prop} (h : vread P S ρ op ty K) (hk : ∀ v, K v → K' v) : vread P S ρ op ty K' := by
  cases op <;> simp only [vread, forceV_eq, forceL_eq] at h ⊢
  all_goals first
    | exact h.elim
    | exact h.mono hk
    | exact hk _ h
    | exact vbin_mono h hk
    | (split at h <;> first | exact h.elim | exact h.mono hk | exact hk _ h | (split at h <;> first | exact h.elim | exact hk _ h))

/-! ### any operation -/
def vop (P : Program) (y : Bool) (ρ : Operand → Value) (op : Op) (ty : TypeId) (w : World) (K : Value → World → Prop) : Prop :=
  bif isRead op then vread P (Eq w) ρ op ty (fun v => K v w) else
  match op with
  | .store t a x => forceV (ρ a) fun a => forceV (ρ x) fun x => VUnit P (Instr.storeAt t a x) w (K undef)
  | .convert s d x => forceV (ρ x) fun x => VSem P (convert s d x) w K
  | .lookup t x i ok => forceV (ρ x) fun x => forceV (ρ i) fun i => VSem P (Instr.lookup t x i ok) w K
  | .alloc e => VSem P (Instr.alloc e true (.tuple #[])) w K
  | .box e x => forceV (ρ x) fun x => VSem P (Instr.box e x) w K
  | .buildSlice t n ps => forceL (ps.toList.map fun p => ρ p.2) fun l => VSem P (Instr.buildSlice t n (zipP ps.toList l).toArray) w K
  | .makeSlice t l c => forceV (ρ l) fun l => forceV (ρ c) fun c => VSem P (Instr.makeSlice t l c) w K
  | .makeFunc f xs ys => VSem P (Instr.makeFunc f (xs.toList.map ρ).toArray (ys.toList.map ρ).toArray) w K
  | .makeMap t r => VSem P (Instr.makeMap t (r.map ρ)) w K
  | .mapUpdate t m k x => forceV (ρ m) fun m => forceV (ρ k) fun k => forceV (ρ x) fun x => VUnit P (Instr.mapUpdate t m k x) w (K undef)
  | .range t x => forceV (ρ x) fun x => VSem P (Instr.range t x) w K
  | .next it s => forceV (ρ it) fun it => VSem P (Instr.next it s ty) w K
  | .entry it => forceV (ρ it) fun it => VSem P (Instr.entry it) w K
  | .call c => match c.callee with
    | .builtin .append => forceL (argsOf ρ c) fun l => VSem P (Builtin.append_ c.argTypes ty l.toArray) w K
    | .builtin .copy => forceL (argsOf ρ c) fun l => VSem P (Builtin.copy_ c.argTypes ty l.toArray) w K
    | .value f => match ρ f with
      | .func (.func g) first captured => forceL (first.toList ++ argsOf ρ c ++ captured.toList) fun l => VCall P g l w K
      | .func (.yield k) first captured => bif y then forceL (first.toList ++ argsOf ρ c) fun l => VYield P k l w K else False
      | _ => VNext P (do let d ← Deferred.ofValue (ρ f) (argsOf ρ c).toArray; invoke d.target d.args) w K
    | _ => VNext P (do let d ← resolve ρ c ty; invoke d.target d.args) w K
  | o => VNext P (execOp ρ ⟨none, o, ty, "", #[], none⟩) w K
theorem run_u' {P : Program} {s : Sem Unit} {W W' : World} (h : s.run P W = .ok () W') : (do s; pure .skip : Sem Next).run P W = .ok .skip W' := by
  rw [Sem.run_bind, h]; rfl
theorem list_arr {α β : Type} (f : α → β) (c : Array α) : (c.toList.map f).toArray = c.map f := by rw [← Array.toList_inj]; simp
theorem execOp_bare (ρ : Operand → Value) (o : Oper) : execOp ρ ⟨none, o.op, o.type, "", #[], none⟩ = execOp ρ o := by
  unfold execOp; cases o.op <;> rfl
theorem callFunc_run {P : Program} {g : FuncId} {args : Array Value} {w : World} (h : enters P g = true) : (callFunc g args).run P w = .ok (.enter g args) w := by
  unfold enters at h
  cases hf : P.funcs[g]? with
  | none => rw [hf] at h; cases h
  | some fn =>
    rw [hf] at h
    simp only [Bool.and_eq_true, Bool.not_eq_true'] at h
    unfold callFunc
    simp [hf, show ¬ fn.name = "runtime.NumGoroutine" from by simpa using h.2, Option.isSome_iff_ne_none.1 h.1]
theorem vnext_sound {P : Program} {o : Oper} {a : Act} {w : World} {K : Value → World → Prop} {next : Act → World → Prop} {Q : Exit → Act → World → Prop} (h : VNext P (execOp a.eval o) w K) (hk : ∀ v w', K v w' → next (a.put o.dst v) w') : o.wp P a w next Q := by
  simp only [VNext_eq] at h
  unfold Oper.wp
  rcases h with ⟨v, w', h1, h2⟩ | ⟨w', h1, h2⟩ | ⟨f, args, w', h1, h2⟩
  · rw [h1]; exact hk _ _ h2
  · rw [h1]; exact hk _ _ h2
  · rw [h1]
    refine h2.mono fun e w'' hh => ?_
    obtain ⟨v, rfl, k⟩ := hh
    exact hk _ _ k
theorem vsem_next {P : Program} {s : Sem Value} {w : World} {K : Value → World → Prop} (h : VSem P s w K) : VNext P (do pure (.value (← s))) w K := by
  simp only [VSem_eq] at h; obtain ⟨v, w', h1, h2⟩ := h
  simp only [VNext_eq]; exact .inl ⟨v, w', run_v' h1, h2⟩
theorem vunit_next {P : Program} {s : Sem Unit} {w : World} {K : Value → World → Prop} (h : VUnit P s w (K undef)) : VNext P (do s; pure .skip) w K := by
  simp only [VUnit_eq] at h; obtain ⟨w', h1, h2⟩ := h
  simp only [VNext_eq]; exact .inr (.inl ⟨w', run_u' h1, h2⟩)
theorem vnext_of_run {P : Program} {s : Sem Next} {v : Value} {w : World} {K : Value → World → Prop} (h : s.run P w = .ok (.value v) w) (hk : K v w) : VNext P s w K := by
  simp only [VNext_eq]; exact .inl ⟨v, w, h, hk⟩
theorem vnext_bind_ok {P : Program} {α : Type} {s : Sem α} {x : α} {w : World} {f : α → Sem Next} {K : Value → World → Prop} (h : s.run P w = .ok x w) (hk : VNext P (f x) w K) : VNext P (s >>= f) w K := by
  simp only [VNext_eq] at *
  have e : (s >>= f).run P w = (f x).run P w := by rw [Sem.run_bind, h]; rfl
  rw [e]; exact hk
/-- what an operation's run is good for: a value, a call, or a round of a loop over a function -/
def VNextY (P : Program) (y : Bool) (s : Sem Next) (w : World) (K : Value → World → Prop) : Prop := VNext P s w K ∨ (y = true ∧ ∃ k fn tmps assign body, s.run P w = .ok (.round k fn tmps assign body) w ∧ RoundIn Fence.wide 0 P k fn tmps assign body w (fun e w' => ∃ v, e = .returned v ∧ K v w'))
theorem vop_next {P : Program} {y : Bool} {ρ : Operand → Value} {o : Oper} {w : World} {K : Value → World → Prop} (h : vop P y ρ o.op o.type w K) : VNextY P y (execOp ρ o) w K := by
  unfold vop at h
  by_cases hr : isRead o.op = true
  · rw [hr] at h
    simp only [cond_true] at h
    obtain ⟨v, h1, h2⟩ := vread_sound (o := o) h
    exact .inl (vnext_of_run (h1 w rfl) h2)
  · rw [Bool.not_eq_true] at hr
    rw [hr] at h
    simp only [cond_false] at h
    rw [← execOp_bare]
    generalize o.op = op at h hr
    generalize o.type = ty at h
    cases op <;> simp only [forceV_eq, forceL_eq] at h
    all_goals first
      | exact .inl h
      | exact .inl (vsem_next h)
      | exact .inl (vunit_next h)
      | (rw [zipP_eq, list_arr] at h; exact .inl (vsem_next h))
      | (rw [list_arr] at h; exact .inl (vsem_next h))
      | (rw [list_arr, list_arr] at h; exact .inl (vsem_next h))
      | skip
    case call c =>
      unfold execOp resolve
      simp only
      split at h
      · rename_i e
        rw [e]
        rw [args_arr] at h
        exact .inl (vnext_bind_ok rfl (vsem_next h))
      · rename_i e
        rw [e]
        rw [args_arr] at h
        exact .inl (vnext_bind_ok rfl (vsem_next h))
      · rename_i f e
        rw [e]
        simp only
        split at h
        · rename_i g first captured e2
          rw [e2]
          unfold Deferred.ofValue
          simp only
          refine .inl (vnext_bind_ok rfl ?_)
          simp only [VCall_eq] at h
          obtain ⟨h1, h2⟩ := h
          simp only [VNext_eq]
          refine .inr (.inr ⟨g, _, w, callFunc_run h1, ?_⟩)
          have e3 : (first.toList ++ argsOf ρ c ++ captured.toList).toArray = first ++ c.args.map ρ ++ captured := by
            rw [← args_arr, ← Array.toList_inj]; simp
          rw [e3] at h2
          exact h2
        · rename_i k first captured e2
          cases y
          · exact h.elim
          · rw [e2]
            obtain ⟨fn, tmps, assign, body, h1, h2⟩ := VYield.out h
            refine .inr ⟨rfl, k, fn, tmps, assign, body, ?_, h2⟩
            have e3 : (first.toList ++ argsOf ρ c).toArray = first ++ c.args.map ρ := by rw [← args_arr, ← Array.toList_inj]; simp
            rw [e3] at h1
            unfold Deferred.ofValue
            simp only
            rw [Sem.run_bind, Sem.run_pure]
            exact h1
        · rw [args_arr] at h
          exact .inl h
      · exact .inl h
theorem vop_sound {P : Program} {n : Nat} {ds : List Deferred} {σ : Env} {o : Oper} {a : Act} {w : World} {K : Value → World → Prop} {next : Act → World → Prop} {Q : Exit → Act → World → Prop} (hA : Agr n ds a σ) (h : vop P false (ev σ) o.op o.type w K)
    (hk : ∀ v w', K v w' → next (a.put o.dst v) w') : o.wp P a w next Q := by
  rw [← hA.eval] at h
  rcases vop_next h with h | ⟨h, _⟩
  · exact vnext_sound h hk
  · cases h
/-- every function, any depth; in a round of a loop over a function, or in none -/
def fen (ro : Option Nat) : Fence := { Fence.wide with round := ro }
theorem vop_soundIn {P : Program} {ro : Option Nat} {m n : Nat} {ds : List Deferred} {σ : Env} {o : Oper} {a : Act} {w : World} {K : Value → World → Prop} {next : Act → World → Prop} {Q : Exit → Act → World → Prop} (hd : ∀ c, o.op ≠ .defer c) (hA : Agr n ds a σ) (h : vop P true (ev σ) o.op o.type w K)
    (hk : ∀ v w', K v w' → next (a.put o.dst v) w') : o.wpIn (fen ro) m P a w next Q := by
  rw [← hA.eval] at h
  have hdep : (fen ro).depth.isSome = true → 1 ≤ m := fun h => by cases h
  refine ⟨fun _ _ => trivial, ?_⟩
  rw [Oper.semAt_eq _ _ _ hd]
  rcases vop_next h with h | ⟨_, k, fn, tmps, assign, body, h1, h2⟩
  · rcases h.out with ⟨v, w', h1, h2⟩ | ⟨w', h1, h2⟩ | ⟨f, args, w', h1, h2⟩
    · rw [h1]; exact hk _ _ h2
    · rw [h1]; exact hk _ _ h2
    · rw [h1]
      refine ⟨hdep, ?_⟩
      have h3 : CallsIn Fence.wide (m - 1) P f args w' _ := callsIn_wide.2 h2
      exact CallsIn.mono (F := fen ro) h3 fun e w'' hh => by
        obtain ⟨v, rfl, k⟩ := hh
        exact hk _ _ k
  · rw [h1]
    refine ⟨hdep, ?_⟩
    have h3 : RoundIn (fen ro) (m - 1) P k fn tmps assign body w (fun e w' => ∃ v, e = .returned v ∧ K v w') := ⟨trivial, fun c cs _ => h2.2 c cs (room_wide _)⟩
    exact h3.mono fun e w'' hh => by
      obtain ⟨v, rfl, k⟩ := hh
      exact hk _ _ k
theorem vop_mono {P : Program} {y : Bool} {ρ : Operand → Value} {op : Op} {ty : TypeId} {w : World} {K K' : Value → World → Prop} (h : vop P y ρ op ty w K) (hk : ∀ v w, K v w → K' v w) : vop P y ρ op ty w K' := by
  unfold vop at *
  by_cases hr : isRead op = true
  · rw [hr] at h ⊢
    simp only [cond_true] at h ⊢
    exact vread_mono h fun v => hk v w
  · rw [Bool.not_eq_true] at hr
    rw [hr] at h ⊢
    simp only [cond_false] at h ⊢
    cases op <;> simp only [forceV_eq, forceL_eq] at h ⊢
    all_goals first
      | exact h.mono hk
      | exact h.mono (fun w => hk _ w)
      | skip
    case call c =>
      split at h
      · exact h.mono hk
      · exact h.mono hk
      · split at h
        · exact h.mono hk
        · cases y
          · exact h.elim
          · exact VYield.mono h hk
        · exact h.mono hk
      · exact h.mono hk

/-! ### lists of operations -/
def nthDst : List Oper → Nat → Option Tmp
  | [], _ => none
  | o :: _, 0 => o.dst
  | _ :: r, j + 1 => nthDst r j
theorem nthDst_eq : ∀ (l : List Oper) (j : Nat), nthDst l j = (l[j]?).bind (·.dst)
  | [], j => by simp [nthDst]
  | o :: r, 0 => by simp [nthDst]
  | o :: r, j + 1 => by simp [nthDst, nthDst_eq r j]
def eqb (a b : Bool) : Bool := match a, b with | true, true => true | false, false => true | _, _ => false
theorem eqb_iff {a b : Bool} : eqb a b = true ↔ a = b := by cases a <;> cases b <;> simp [eqb]
/-- an operation's guard: Y: it is carried out; N: it is passed over -/
def vguard (ops : List Oper) (σ : Env) (g : Option (Nat × Bool)) (Y N : Env → Prop) : Prop :=
  match g with
  | none => Y σ
  | some (j, want) => match nthDst ops j with
    | none => N σ
    | some d => match σ d with
      | .bool b => VBool b (fun b' => bif eqb b' want then Y (setE σ d (.bool b')) else N (setE σ d (.bool b')))
      | _ => N σ
theorem vguard_mono {ops : List Oper} {σ : Env} {g : Option (Nat × Bool)} {Y N Y' N' : Env → Prop} (h : vguard ops σ g Y N) (hY : Y σ → Y' σ) (hN : N σ → N' σ) : vguard ops σ g Y' N' := by
  unfold vguard at *
  split
  · exact hY h
  · rename_i j want
    simp only at h
    split
    · rename_i e; rw [e] at h; exact hN h
    · rename_i d e
      rw [e] at h
      simp only at h
      split
      · rename_i b e2
        rw [e2] at h
        simp only at h
        refine h.mono fun h => ?_
        rw [setE_id e2] at h ⊢
        cases hb : eqb b want
        · rw [hb] at h; exact hN h
        · rw [hb] at h; exact hY h
      · rename_i hne
        split at h
        · rename_i b e2; exact absurd e2 (hne b)
        · exact hN h
theorem yielded_env {n : Nat} {ds : List Deferred} {a : Act} {σ : Env} {ops : List Oper} (hA : Agr n ds a σ) (j : Nat) : yielded ops.toArray a.tmps j = match nthDst ops j with | none => none | some d => (match σ d with | .bool b => some b | _ => none) := by
  unfold yielded
  rw [nthDst_eq]
  simp only [List.getElem?_toArray]
  cases (ops[j]?).bind (·.dst) with
  | none => rfl
  | some d =>
    simp only [Option.bind_some]
    have h := hA.val d
    rw [Array.getD_eq_getD_getElem?] at h
    cases hd : a.tmps[d]? with
    | none =>
      rw [hd] at h
      simp only [Option.getD_none] at h
      rw [← h]; rfl
    | some v =>
      rw [hd] at h
      simp only [Option.getD_some] at h
      rw [h]
      cases σ d <;> rfl
theorem vguard_sound {n : Nat} {ds : List Deferred} {a : Act} {σ : Env} {ops : List Oper} {o : Oper} {Y N : Env → Prop} (hA : Agr n ds a σ) (h : vguard ops σ o.guard Y N) :
    (Region.wanted o (yielded ops.toArray a.tmps) = true ∧ Y σ) ∨ (Region.wanted o (yielded ops.toArray a.tmps) = false ∧ N σ) := by
  unfold vguard at h
  unfold Region.wanted
  split at h
  · rename_i e; rw [e]; exact .inl ⟨rfl, h⟩
  · rename_i j want e
    rw [e]
    simp only
    rw [yielded_env hA]
    split at h
    · rename_i e2; exact .inr ⟨rfl, h⟩
    · rename_i d e2
      split at h
      · rename_i b e3
        have h := h.out
        rw [setE_id e3] at h
        cases hb : eqb b want
        · rw [hb] at h
          refine .inr ⟨?_, h⟩
          cases b <;> cases want <;> first | rfl | cases hb
        · rw [hb] at h
          refine .inl ⟨?_, h⟩
          rw [eqb_iff.1 hb]; simp
      · exact .inr ⟨rfl, h⟩
def vlist (P : Program) (ops : List Oper) (K : Env → World → Prop) : List Oper → Env → World → Prop
  | [], σ, w => K σ w
  | o :: r, σ, w => vguard ops σ o.guard (fun σ => vop P true (ev σ) o.op o.type w (fun v w' => vlist P ops K r (putE σ o.dst v) w')) (fun σ => vlist P ops K r (putE σ o.dst undef) w)
def dsts (l : List Oper) : List Nat := l.filterMap (·.dst)
def Fr (D : List Nat) (σ' σ : Env) : Prop := ∀ t, t ∉ D → σ' t = σ t
theorem Fr.refl (D : List Nat) (σ : Env) : Fr D σ σ := fun _ _ => rfl
theorem Fr.trans {D D' E : List Nat} {a b c : Env} (h : Fr D b a) (h' : Fr D' c b) (hD : ∀ t, t ∈ D → t ∈ E) (hD' : ∀ t, t ∈ D' → t ∈ E) : Fr E c a := fun t ht => by
  rw [h' t (fun e => ht (hD' t e)), h t (fun e => ht (hD t e))]
theorem Fr.put {D : List Nat} {σ' σ : Env} (h : Fr D σ' σ) {d : Option Tmp} (hd : ∀ t, d = some t → t ∈ D) (v : Value) : Fr D (putE σ' d v) σ := by
  cases d with
  | none => exact h
  | some d => exact fun t ht => by rw [show putE σ' (some d) v t = σ' t from setE_ne _ _ (fun e => ht (e ▸ hd d rfl))]; exact h t ht
theorem mem_dsts {o : Oper} {l : List Oper} (h : o ∈ l) {t : Nat} (ht : o.dst = some t) : t ∈ dsts l := List.mem_filterMap.2 ⟨o, h, ht⟩
theorem vlist_mf {P : Program} {ops : List Oper} {K K' : Env → World → Prop} {D : List Nat} {σ0 : Env} : ∀ (l : List Oper) (σ : Env) (w : World), (∀ o ∈ l, ∀ t, o.dst = some t → t ∈ D) → Fr D σ σ0 → vlist P ops K l σ w → (∀ σ' w', K σ' w' → Fr D σ' σ0 → K' σ' w') → vlist P ops K' l σ w
  | [], σ, w, hl, hF, h, hk => hk _ _ h hF
  | o :: r, σ, w, hl, hF, h, hk => by
    unfold vlist at h ⊢
    have hr : ∀ o ∈ r, ∀ t, o.dst = some t → t ∈ D := fun o ho => hl o (List.mem_cons_of_mem _ ho)
    exact vguard_mono h (fun h => vop_mono h fun v w' h => vlist_mf r _ _ hr (hF.put (hl o (by simp)) v) h hk) (fun h => vlist_mf r _ _ hr (hF.put (hl o (by simp)) undef) h hk)
theorem vlist_soundIn {P : Program} {ro : Option Nat} {m n : Nat} {ds : List Deferred} {ops : List Oper} {K : Env → World → Prop} {Q : Exit → Act → World → Prop} (hQ : ∀ a' σ' w', Agr n ds a' σ' → K σ' w' → Q .normal a' w') :
    ∀ (l : List Oper) (a : Act) (σ : Env) (w : World), (∀ o ∈ l, (∀ t, o.dst = some t → t < n) ∧ ∀ c, o.op ≠ .defer c) → Agr n ds a σ → vlist P ops K l σ w → wpListIn (fen ro) m P ops.toArray Q l a w
  | [], a, σ, w, hl, hA, h => hQ _ _ _ hA h
  | o :: r, a, σ, w, hl, hA, h => by
    unfold vlist at h
    unfold wpListIn
    have hr : ∀ o ∈ r, (∀ t, o.dst = some t → t < n) ∧ ∀ c, o.op ≠ .defer c := fun o ho => hl o (List.mem_cons_of_mem _ ho)
    rcases vguard_sound hA h with ⟨h1, h2⟩ | ⟨h1, h2⟩
    · rw [if_pos h1]
      exact vop_soundIn (hl o (by simp)).2 hA h2 fun v w' hk => vlist_soundIn hQ r _ _ _ hr (hA.put (hl o (by simp)).1 v) hk
    · rw [if_neg (by rw [h1]; simp)]
      exact ⟨fun _ _ => trivial, vlist_soundIn hQ r _ _ _ hr (hA.put (hl o (by simp)).1 undef) h2⟩

/-! ### code -/
abbrev Post := Exit → Env → World → Prop
def thenP (K : Env → World → Prop) (Q : Post) : Post := fun e σ w => match e with | .normal => K σ w | e => Q e σ w
def blockP (id : Nat) (Q : Post) : Post := fun e σ w => match e with | .exit id' => bif Nat.beq id' id then Q .normal σ w else Q (.exit id') σ w | e => Q e σ w
def Lift (n : Nat) (ds : List Deferred) (Q : Post) (D : List Nat) (σ0 : Env) : Exit → Act → World → Prop := fun e a w => match e with
  | .panic _ | .outgrown => False
  | e => ∃ σ, Agr n ds a σ ∧ Fr D σ σ0 ∧ Q e σ w
def writes : Code → List Nat
  | .region _ ops _ => dsts ops.toList
  | .seq a b | .cond _ a b => writes a ++ writes b
  | .block _ b | .loop b | .scope b => writes b
  | _ => []
def codeOk (n : Nat) : Code → Bool
  | .region _ ops _ => ops.toList.all fun o => (match o.dst with | some d => Nat.blt d n | none => true) && (match o.op with | .defer _ => false | _ => true)
  | .seq a b | .cond _ a b => codeOk n a && codeOk n b
  | .block _ b | .loop b | .scope b => codeOk n b
  | .rangeFunc .. | .refuse _ => false
  | _ => true
/-- no region of it draws, nothing jumps -/
def calm : Code → Bool
  | .region _ _ d => !d
  | .seq a b | .cond _ a b => calm a && calm b
  | .block _ b | .loop b => calm b
  | .scope _ => false
  | _ => true
def noGotoP (Q : Post) : Post := fun e σ w => match e with | .goto _ => False | e => Q e σ w
/-- a piece of code before another: a place for a cut -/
structure VSeq (A : Post → Env → World → Prop) (B : Env → World → Prop) (Q : Post) (σ : Env) (w : World) : Prop where
  out : A (thenP B Q) σ w
theorem VSeq_eq {A : Post → Env → World → Prop} {B : Env → World → Prop} {Q : Post} {σ : Env} {w : World} : VSeq A B Q σ w = (A (thenP B Q) σ w) := propext ⟨fun h => h.out, fun h => ⟨h⟩⟩
structure VLoop (A : Post → Env → World → Prop) (Q : Post) (σ : Env) (w : World) : Prop where
  out : ∃ (I : Nat → Env → World → Prop), (∃ m, I m σ w) ∧ ∀ m σ1 w1, I m σ1 w1 → A (thenP (fun σ' w' => ∃ m', m' < m ∧ I m' σ' w') Q) σ1 w1
theorem VLoop_eq {A : Post → Env → World → Prop} {Q : Post} {σ : Env} {w : World} : VLoop A Q σ w = (∃ (I : Nat → Env → World → Prop), (∃ m, I m σ w) ∧ ∀ m σ1 w1, I m σ1 w1 → A (thenP (fun σ' w' => ∃ m', m' < m ∧ I m' σ' w') Q) σ1 w1) := propext ⟨fun h => h.out, fun h => ⟨h⟩⟩
structure VDraw (P : Program) (n : Nat) (ops : List Oper) (Q : Post) (σ : Env) (w : World) : Prop where
  out : ∀ ds a id, Agr n ds a σ → (Code.region id ops.toArray true).wp P (Lift n ds Q (dsts ops) σ) a w
theorem VDraw_eq {P : Program} {n : Nat} {ops : List Oper} {Q : Post} {σ : Env} {w : World} : VDraw P n ops Q σ w = (∀ ds a id, Agr n ds a σ → (Code.region id ops.toArray true).wp P (Lift n ds Q (dsts ops) σ) a w) := propext ⟨fun h => h.out, fun h => ⟨h⟩⟩
def big : Code → Bool
  | .cond .. | .block .. | .loop .. => true
  | .region _ _ d => d
  | .seq a b => big a || big b
  | _ => false
def vc (P : Program) (n : Nat) : Code → Post → Env → World → Prop
  | .skip, Q, σ, w => Q .normal σ w
  | .label _, Q, σ, w => Q .normal σ w
  | .region _ ops d, Q, σ, w => bif d then VDraw P n ops.toList Q σ w else vlist P ops.toList (Q .normal) ops.toList σ w
  | .seq a b, Q, σ, w => bif big a then VSeq (vc P n a) (vc P n b Q) Q σ w else vc P n a (thenP (vc P n b Q) Q) σ w
  | .cond c x y, Q, σ, w => match ev σ c with | .bool b => VBool b (fun b' => bif b' then vc P n x Q (learn σ c b') w else vc P n y Q (learn σ c b') w) | _ => False
  | .block id b, Q, σ, w => vc P n b (blockP id Q) σ w
  | .loop b, Q, σ, w => VLoop (vc P n b) Q σ w
  | .scope b, Q, σ, w => vc P n b (noGotoP Q) σ w
  | .exit id, Q, σ, w => Q (.exit id) σ w
  | .goto l, Q, σ, w => Q (.goto l) σ w
  | .ret, Q, σ, w => Q .ret σ w
  | _, _, _, _ => False

theorem Lift.mono {n : Nat} {ds : List Deferred} {Q Q' : Post} {D D' : List Nat} {σ0 σ1 : Env} {e : Exit} {a : Act} {w : World} (h : Lift n ds Q D σ0 e a w) (hq : ∀ σ, Agr n ds a σ → Fr D σ σ0 → Q e σ w → Q' e σ w ∧ Fr D' σ σ1) : Lift n ds Q' D' σ1 e a w := by
  unfold Lift at *
  cases e <;> simp only at h ⊢
  all_goals first
    | exact h
    | (obtain ⟨σ, h1, h2, h3⟩ := h; exact ⟨σ, h1, (hq σ h1 h2 h3).2, (hq σ h1 h2 h3).1⟩)

theorem vc_mf {P : Program} {n : Nat} : ∀ (c : Code) (Q Q' : Post) (σ : Env) (w : World), vc P n c Q σ w → (∀ e σ' w', Q e σ' w' → Fr (writes c) σ' σ → Q' e σ' w') → vc P n c Q' σ w
  | .skip, Q, Q', σ, w, h, hq => hq _ _ _ h (Fr.refl _ _)
  | .label _, Q, Q', σ, w, h, hq => hq _ _ _ h (Fr.refl _ _)
  | .exit _, Q, Q', σ, w, h, hq => hq _ _ _ h (Fr.refl _ _)
  | .goto _, Q, Q', σ, w, h, hq => hq _ _ _ h (Fr.refl _ _)
  | .ret, Q, Q', σ, w, h, hq => hq _ _ _ h (Fr.refl _ _)
  | .region id ops d, Q, Q', σ, w, h, hq => by
    unfold vc at h ⊢
    cases d
    · exact vlist_mf _ _ _ (fun o ho t ht => mem_dsts ho ht) (Fr.refl _ _) h fun σ' w' hk hF => hq _ _ _ hk hF
    · simp only [cond_true] at h ⊢
      simp only [VDraw_eq] at h ⊢
      intro ds a id hA
      refine wp_mono (h ds a id hA) fun e a' w' hl => hl.mono fun σ' _ hF hQ => ⟨hq _ _ _ hQ hF, hF⟩
  | .seq a b, Q, Q', σ, w, h, hq => by
    have key : vc P n a (thenP (vc P n b Q) Q) σ w → vc P n a (thenP (vc P n b Q') Q') σ w := fun h =>
      vc_mf a _ _ σ w h fun e σ1 w1 h1 hF1 => by
        cases e with
        | normal => exact vc_mf b _ _ σ1 w1 h1 fun e σ2 w2 h2 hF2 => hq _ _ _ h2 (hF1.trans hF2 (fun t ht => List.mem_append_left _ ht) (fun t ht => List.mem_append_right _ ht))
        | _ => exact hq _ _ _ h1 (fun t ht => hF1 t (fun e => ht (List.mem_append_left _ e)))
    unfold vc at h ⊢
    cases hb : big a <;> rw [hb] at h
    · exact key h
    · simp only [cond_true] at h ⊢
      simp only [VSeq_eq] at h ⊢
      exact key h
  | .cond c x y, Q, Q', σ, w, h, hq => by
    unfold vc at h ⊢
    split at h
    · rename_i b e
      refine h.mono fun h => ?_
      rw [learn_id e] at h ⊢
      cases b
      · exact vc_mf y _ _ σ w h fun e σ' w' h' hF => hq _ _ _ h' (fun t ht => hF t (fun e => ht (List.mem_append_right _ e)))
      · exact vc_mf x _ _ σ w h fun e σ' w' h' hF => hq _ _ _ h' (fun t ht => hF t (fun e => ht (List.mem_append_left _ e)))
    · exact h.elim
  | .block id b, Q, Q', σ, w, h, hq => by
    unfold vc at h ⊢
    refine vc_mf b _ _ σ w h fun e σ' w' h' hF => ?_
    unfold blockP at h' ⊢
    cases e with
    | exit id' =>
      simp only at h' ⊢
      cases hb : Nat.beq id' id <;> rw [hb] at h'
      · exact hq _ _ _ h' hF
      · exact hq _ _ _ h' hF
    | _ => exact hq _ _ _ h' hF
  | .loop b, Q, Q', σ, w, h, hq => by
    unfold vc at h ⊢
    simp only [VLoop_eq] at h ⊢
    obtain ⟨I, ⟨m, h0⟩, hr⟩ := h
    refine ⟨fun m σ1 w1 => I m σ1 w1 ∧ Fr (writes b) σ1 σ, ⟨m, h0, Fr.refl _ _⟩, fun m σ1 w1 ⟨hI, hF1⟩ => ?_⟩
    refine vc_mf b _ _ σ1 w1 (hr m σ1 w1 hI) fun e σ2 w2 h2 hF2 => ?_
    have hF := hF1.trans hF2 (E := writes b) (fun t ht => ht) (fun t ht => ht)
    cases e with
    | normal => obtain ⟨m', hm, hI'⟩ := h2; exact ⟨m', hm, hI', hF⟩
    | _ => exact hq _ _ _ h2 hF
  | .rangeFunc .., Q, Q', σ, w, h, hq => h.elim
  | .scope b, Q, Q', σ, w, h, hq => by
    unfold vc at h ⊢
    refine vc_mf b _ _ σ w h fun e σ' w' h' hF => ?_
    unfold noGotoP at h' ⊢
    cases e with
    | goto _ => exact h'
    | _ => exact hq _ _ _ h' hF
  | .refuse _, Q, Q', σ, w, h, hq => h.elim

theorem wpIn_loop_ghost {F : Fence} {m : Nat} {P : Program} {Q : Exit → Act → World → Prop} {a : Act} {w : World} {c : Code} (I : Nat → Act → World → Prop) (n₀ : Nat) (h₀ : I n₀ a w)
    (round : ∀ n a w, I n a w → c.wpIn F m P (Exit.then (fun a' w' => ∃ n', n' < n ∧ I n' a' w') Q) a w) : (Code.loop c).wpIn F m P Q a w := by
  refine wpIn_loop (fun a w => ∃ n, I n a w) (fun a w => leastOf (fun n => I n a w)) ⟨n₀, h₀⟩ ?_
  intro a w hI
  refine wpIn_mono (round _ a w (leastOf_spec hI).1) ?_
  intro e a' w' hq
  cases e with
  | normal =>
    obtain ⟨n', hlt, hI'⟩ := hq
    exact show (∃ n, I n a' w') ∧ leastOf (fun n => I n a' w') < leastOf (fun n => I n a w) from ⟨⟨n', hI'⟩, Nat.lt_of_le_of_lt ((leastOf_spec ⟨n', hI'⟩).2 n' hI') hlt⟩
  | _ => exact hq
theorem vc_soundIn {P : Program} {ro : Option Nat} {m n : Nat} {ds : List Deferred} : ∀ (c : Code) (Q : Post) (σ : Env) (w : World) (a : Act), codeOk n c = true → (ro = none ∨ calm c = true) → Agr n ds a σ → vc P n c Q σ w → c.wpIn (fen ro) m P (Lift n ds Q (writes c) σ) a w
  | .skip, Q, σ, w, a, hok, hc, hA, h => wpIn_skip ⟨σ, hA, Fr.refl _ _, h⟩
  | .label _, Q, σ, w, a, hok, hc, hA, h => wpIn_label ⟨σ, hA, Fr.refl _ _, h⟩
  | .exit _, Q, σ, w, a, hok, hc, hA, h => wpIn_exit ⟨σ, hA, Fr.refl _ _, h⟩
  | .goto _, Q, σ, w, a, hok, hc, hA, h => wpIn_goto ⟨σ, hA, Fr.refl _ _, h⟩
  | .ret, Q, σ, w, a, hok, hc, hA, h => wpIn_ret ⟨σ, hA, Fr.refl _ _, h⟩
  | .region id ops d, Q, σ, w, a, hok, hc, hA, h => by
    unfold vc at h
    have hl : ∀ o ∈ ops.toList, (∀ t, o.dst = some t → t < n) ∧ ∀ c, o.op ≠ .defer c := fun o ho => by
      unfold codeOk at hok
      have := List.all_eq_true.1 hok o ho
      simp only [Bool.and_eq_true] at this
      refine ⟨fun t ht => ?_, fun c e => ?_⟩
      · have h1 := this.1
        rw [ht] at h1
        exact Nat.blt_eq ▸ h1
      · have h2 := this.2
        rw [e] at h2
        cases h2
    cases d
    · refine wpIn_region_list ?_
      have h' := vlist_mf (K' := fun σ' w' => Q .normal σ' w' ∧ Fr (dsts ops.toList) σ' σ) _ _ _ (fun o ho t ht => mem_dsts ho ht) (Fr.refl _ _) h fun σ' w' hk hF => ⟨hk, hF⟩
      exact vlist_soundIn (Q := Lift n ds Q (writes (.region id ops false)) σ) (fun a' σ' w' hA' hK => ⟨σ', hA', hK.2, hK.1⟩) _ _ _ _ hl hA h'
    · rcases hc with rfl | hc
      · simp only [cond_true] at h
        simp only [VDraw_eq] at h
        exact wpIn_wide.2 (h ds a id hA)
      · cases hc
  | .seq x y, Q, σ, w, a, hok, hc, hA, h => by
    unfold codeOk at hok
    simp only [Bool.and_eq_true] at hok
    have hcx : ro = none ∨ calm x = true := hc.imp (fun h => h) fun h => by unfold calm at h; simp only [Bool.and_eq_true] at h; exact h.1
    have hcy : ro = none ∨ calm y = true := hc.imp (fun h => h) fun h => by unfold calm at h; simp only [Bool.and_eq_true] at h; exact h.2
    have h' : vc P n x (thenP (vc P n y Q) Q) σ w := by
      unfold vc at h
      cases hb : big x <;> rw [hb] at h
      · exact h
      · simp only [cond_true] at h
        simp only [VSeq_eq] at h
        exact h
    refine wpIn_seq (wpIn_mono (vc_soundIn x _ σ w a hok.1 hcx hA h') fun e a1 w1 hl => ?_)
    cases e with
    | normal =>
      obtain ⟨σ1, hA1, hF1, h1⟩ := hl
      refine wpIn_mono (vc_soundIn y _ σ1 w1 a1 hok.2 hcy hA1 h1) fun e a2 w2 hl2 => hl2.mono fun σ2 _ hF2 h2 => ⟨h2, hF1.trans hF2 (fun t ht => List.mem_append_left _ ht) (fun t ht => List.mem_append_right _ ht)⟩
    | panic _ => exact hl
    | outgrown => exact hl
    | exit _ => exact Lift.mono (Q' := Q) (D' := writes (.seq x y)) (σ1 := σ) hl fun σ2 _ hF2 h2 => ⟨h2, fun t ht => hF2 t (fun e => ht (List.mem_append_left _ e))⟩
    | goto _ => exact Lift.mono (Q' := Q) (D' := writes (.seq x y)) (σ1 := σ) hl fun σ2 _ hF2 h2 => ⟨h2, fun t ht => hF2 t (fun e => ht (List.mem_append_left _ e))⟩
    | ret => exact Lift.mono (Q' := Q) (D' := writes (.seq x y)) (σ1 := σ) hl fun σ2 _ hF2 h2 => ⟨h2, fun t ht => hF2 t (fun e => ht (List.mem_append_left _ e))⟩
  | .cond c x y, Q, σ, w, a, hok, hc, hA, h => by
    unfold codeOk at hok
    simp only [Bool.and_eq_true] at hok
    have hcx : ro = none ∨ calm x = true := hc.imp (fun h => h) fun h => by unfold calm at h; simp only [Bool.and_eq_true] at h; exact h.1
    have hcy : ro = none ∨ calm y = true := hc.imp (fun h => h) fun h => by unfold calm at h; simp only [Bool.and_eq_true] at h; exact h.2
    unfold vc at h
    split at h
    · rename_i b e
      have h := h.out
      rw [learn_id e] at h
      refine wpIn_cond (t := b) (by rw [hA.eval]; exact e) ?_
      cases b
      · exact wpIn_mono (vc_soundIn y _ σ w a hok.2 hcy hA h) fun e a2 w2 hl2 => hl2.mono fun σ2 _ hF2 h2 => ⟨h2, fun t ht => hF2 t (fun e => ht (List.mem_append_right _ e))⟩
      · exact wpIn_mono (vc_soundIn x _ σ w a hok.1 hcx hA h) fun e a2 w2 hl2 => hl2.mono fun σ2 _ hF2 h2 => ⟨h2, fun t ht => hF2 t (fun e => ht (List.mem_append_left _ e))⟩
    · exact h.elim
  | .block id b, Q, σ, w, a, hok, hc, hA, h => by
    unfold codeOk at hok
    unfold vc at h
    refine wpIn_block (wpIn_mono (vc_soundIn b _ σ w a hok (hc.imp (fun h => h) fun h => by unfold calm at h; exact h) hA h) fun e a1 w1 hl => ?_)
    cases e with
    | exit id' =>
      obtain ⟨σ1, hA1, hF1, h1⟩ := hl
      simp only [blockP] at h1
      simp only [Exit.inBlock]
      by_cases hid : id' = id
      · rw [if_pos hid]
        have : Nat.beq id' id = true := by rw [hid]; exact Nat.beq_refl id
        rw [this] at h1
        exact ⟨σ1, hA1, hF1, h1⟩
      · rw [if_neg hid]
        have : Nat.beq id' id = false := by rw [Bool.eq_false_iff]; intro e; exact hid (Nat.eq_of_beq_eq_true e)
        rw [this] at h1
        exact ⟨σ1, hA1, hF1, h1⟩
    | _ => exact hl
  | .loop b, Q, σ, w, a, hok, hc, hA, h => by
    unfold codeOk at hok
    unfold vc at h
    simp only [VLoop_eq] at h
    obtain ⟨I, ⟨m0, h0⟩, hr⟩ := h
    refine wpIn_loop_ghost (fun m a1 w1 => ∃ σ1, Agr n ds a1 σ1 ∧ Fr (writes b) σ1 σ ∧ I m σ1 w1) m0 ⟨σ, hA, Fr.refl _ _, h0⟩ fun m a1 w1 ⟨σ1, hA1, hF1, hI⟩ => ?_
    refine wpIn_mono (vc_soundIn b _ σ1 w1 a1 hok (hc.imp (fun h => h) fun h => by unfold calm at h; exact h) hA1 (hr m σ1 w1 hI)) fun e a2 w2 hl => ?_
    cases e with
    | normal =>
      obtain ⟨σ2, hA2, hF2, m', hm, hI'⟩ := hl
      exact ⟨m', hm, σ2, hA2, hF1.trans hF2 (fun t ht => ht) (fun t ht => ht), hI'⟩
    | panic _ => exact hl
    | outgrown => exact hl
    | exit _ => exact Lift.mono (Q' := Q) (D' := writes (.loop b)) (σ1 := σ) hl fun σ2 _ hF2 h2 => ⟨h2, hF1.trans hF2 (fun t ht => ht) (fun t ht => ht)⟩
    | goto _ => exact Lift.mono (Q' := Q) (D' := writes (.loop b)) (σ1 := σ) hl fun σ2 _ hF2 h2 => ⟨h2, hF1.trans hF2 (fun t ht => ht) (fun t ht => ht)⟩
    | ret => exact Lift.mono (Q' := Q) (D' := writes (.loop b)) (σ1 := σ) hl fun σ2 _ hF2 h2 => ⟨h2, hF1.trans hF2 (fun t ht => ht) (fun t ht => ht)⟩
  | .scope b, Q, σ, w, a, hok, hc, hA, h => by
    unfold codeOk at hok
    unfold vc at h
    rcases hc with rfl | hc
    · refine wpIn_wide.2 (wp_scope_straight (wp_mono (wpIn_wide.1 (vc_soundIn (ro := none) (m := m) b _ σ w a hok (.inl rfl) hA h)) fun e a1 w1 hl => ?_))
      cases e with
      | goto _ => obtain ⟨σ1, _, _, h1⟩ := hl; exact h1
      | _ => exact hl
    · cases hc
  | .rangeFunc .., Q, σ, w, a, hok, hc, hA, h => h.elim
  | .refuse _, Q, σ, w, a, hok, hc, hA, h => h.elim
theorem vc_sound {P : Program} {n : Nat} {ds : List Deferred} (c : Code) (Q : Post) (σ : Env) (w : World) (a : Act) (hok : codeOk n c = true) (hA : Agr n ds a σ) (h : vc P n c Q σ w) : c.wp P (Lift n ds Q (writes c) σ) a w :=
  wpIn_wide.1 (vc_soundIn (ro := none) (m := 0) c Q σ w a hok (.inl rfl) hA h)
