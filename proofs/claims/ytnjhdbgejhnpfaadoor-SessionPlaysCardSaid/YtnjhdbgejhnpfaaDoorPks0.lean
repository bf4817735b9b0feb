/- Texts joined: Words, V, Mem, Bytes, VR, VO, VI, More, VB, VA, VS, VM, VSort, VRow, Tab. No condition. -/
import Derived.Below
import Derived.Laws.OwnMore
import Derived.Laws.Rows
import Derived.Deep.AppendLies
import Derived.Deep.Draws
import Derived.Maps.AppendAt
import Derived.RegionTactic
import Derived.OwnWalk
import Derived.BigQuiet
import Derived.OrdersHeld
import Derived.Laws.Strings
import Derived.RangeFuncIn
import Derived.TacticsIn
import Derived.Scope
import Derived.Deep.LoopGhost
import Derived.Test.YtnjhdbgejhnpfaaDoorRows
import Derived.WalkKit
import Derived.ProofKit
import Derived.SizedLaws
import Derived.Laws.DeepNot64
import Derived.SliceStrings
import Derived.Laws.BytesArg
import Derived.Lib.Hide
import Derived.WalkSpells
import Derived.WalkLawsBesides
import Derived.ArgAppend
import Derived.Lib.AppendStr
import Derived.Lib.OthersKept
import Derived.Lib.BufferWrite
import Derived.Lib.TrimUEq
import Derived.Maps.RangeWalk
import Derived.Maps.Views
import Derived.Shelf.Sort.Plain
import Derived.Shelf.Slices.In.SortNone
import Derived.Sort.OwnSortedInts
import Derived.Sort.OwnSorted
import Derived.Lib.ConvBytes
import Derived.Lib.UnsafeStr
import Derived.Lib.Strings
section
namespace Go.Proofs.YtnjhdbgejhnpfaaDoor
set_option linter.unusedVariables false
open Go.RowKit
theorem block_of_add (a : Addr) (n : Nat) : (a.add n).block = a.block := by unfold Addr.add; split <;> rfl
theorem add_of_add (a : Addr) (i j : Nat) : (a.add i).add j = a.add (i + j) := by
  unfold Addr.add
  by_cases hi : i = 0 <;> by_cases hj : j = 0 <;> simp [hi, hj, Nat.add_assoc]

def Reads (w : World) (B size : Nat) (A : Option Addr) (n : Nat) (xs : List Value) : Prop :=
  xs.length = n * size ∧ (0 < n → ∃ ad, A = some ad ∧ ad.block < B ∧ ∀ j u, xs[j]? = some u → w.cell? (ad.add j) = some u)

section
variable {w w' : World} {B B' size n : Nat} {A : Option Addr} {xs : List Value}
theorem Reads.none_ : Reads w B size A 0 [] := ⟨by simp, fun h => absurd h (by omega)⟩
theorem Reads.at_ {k : Nat} (h : Reads w B 1 A n xs) (hk : k < n) : ∃ ad u, A = some ad ∧ ad.block < B ∧ xs[k]? = some u ∧ w.cell? (ad.add k) = some u := by
  obtain ⟨ad, e, hb, hc⟩ := h.2 (by omega)
  have hl : k < xs.length := by have := h.1; omega
  exact ⟨ad, xs[k], e, hb, List.getElem?_eq_getElem hl, hc k _ (List.getElem?_eq_getElem hl)⟩
theorem Reads.none_zero (h : Reads w B size A n xs) (e : A = none) : n = 0 := by
  rcases Nat.eq_zero_or_pos n with h0 | h0
  · exact h0
  · obtain ⟨ad, e', _⟩ := h.2 h0
    rw [e] at e'
    cases e'
theorem Reads.keep (h : Reads w B size A n xs) (hk : ∀ p : Addr, p.block < B → w'.cell? p = w.cell? p) : Reads w' B size A n xs :=
  ⟨h.1, fun hn => by
    obtain ⟨ad, e, hb, hc⟩ := h.2 hn
    exact ⟨ad, e, hb, fun j u hu => (hk _ (by rw [block_of_add]; exact hb)).trans (hc j u hu)⟩⟩
theorem Reads.more (h : Reads w B size A n xs) (hB : B ≤ B') : Reads w B' size A n xs :=
  ⟨h.1, fun hn => by
    obtain ⟨ad, e, hb, hc⟩ := h.2 hn
    exact ⟨ad, e, by omega, hc⟩⟩
theorem Reads.below (h : Reads w B size A n xs) (hb : Below B w w') : Reads w' B size A n xs := h.keep fun _ hp => hb.cell hp
theorem Reads.drew (h : Reads w B size A n xs) : Reads w.drew B size A n xs := h
theorem Reads.drewN (h : Reads w B size A n xs) (k : Nat) : Reads (w.drewN k) B size A n xs := h
theorem Reads.alloc (h : Reads w B size A n xs) (hB : B ≤ w.heap.size) (o : Obj) : Reads (w.alloc o) B size A n xs := h.keep fun p hp => World.cell?_alloc_lt w o p (by omega)
theorem Reads.setCell (h : Reads w B size A n xs) {p : Addr} (hB : B ≤ p.block) (u : Value) : Reads (w.setCell p u) B size A n xs :=
  h.keep fun q hq => World.cell?_setCell_other w p q u (fun e => by subst e; omega)
theorem Reads.grown (h : Reads w B size A n xs) {row : Option Nat} (hg : w.grownBy w' row) (hB : B ≤ w.heap.size) (hr : ∀ g, row = some g → B ≤ g) : Reads w' B size A n xs :=
  h.keep fun p hp => World.cell?_of_block (hg.block p.block (by omega) (fun e => by have := hr _ e.symm; omega))
theorem Reads.cut (h : Reads w B size A n xs) {k cap : Nat} (hk : k ≤ n) (hc : n ≤ cap) :
    Reads w B size (if cap = k then A else A.map (·.add (k * size))) (n - k) (xs.drop (k * size)) := by
  refine ⟨by rw [List.length_drop, h.1, Nat.sub_mul], fun hn => ?_⟩
  obtain ⟨ad, rfl, hb, hcell⟩ := h.2 (by omega)
  rw [if_neg (by omega)]
  refine ⟨ad.add (k * size), rfl, by rw [block_of_add]; exact hb, fun j u hu => ?_⟩
  rw [add_of_add]
  exact hcell _ u (by rw [← hu, List.getElem?_drop])
theorem Reads.of_own {base : Nat} {e : TypeId} {c : Nat} (h : w.ownsRow base e size (.slice A n c) n xs) : Reads w w.heap.size size A n xs := by
  refine ⟨h.1, fun hn => ?_⟩
  obtain ⟨g, cap, hv, _, hlt⟩ := h.form hn
  have hA : A = some ⟨g, 0, none⟩ := by injection hv
  subst hA
  exact ⟨_, rfl, hlt, h.cells (g := g) rfl⟩
end

def Blk (w : World) (g : Nat) (t : TypeId) (cs : Array Value) : Prop := w.heap[g]? = some (.cells cs t (0, 0))

section
variable {w w' : World} {g : Nat} {t : TypeId} {cs : Array Value}
theorem Blk.lt (h : Blk w g t cs) : g < w.heap.size := by
  rcases Nat.lt_or_ge g w.heap.size with hlt | hge
  · exact hlt
  · unfold Blk at h; rw [Array.getElem?_eq_none hge] at h; cases h
theorem Blk.cell (h : Blk w g t cs) (i : Nat) : w.cell? ⟨g, i, none⟩ = cs[i]? := cell_of_row w g i cs t (0, 0) h
theorem Blk.frozen (h : Blk w g t cs) (i : Nat) : w.frozen? ⟨g, i, none⟩ = false := by
  unfold Blk at h
  simp [World.frozen?, h]
theorem Blk.new (w : World) (t : TypeId) (cs : Array Value) : Blk (w.alloc (.cells cs t)) w.heap.size t cs := heap_alloc_new w _
theorem Blk.drew (h : Blk w g t cs) : Blk w.drew g t cs := h
theorem Blk.drewN (h : Blk w g t cs) (n : Nat) : Blk (w.drewN n) g t cs := h
theorem Blk.alloc (h : Blk w g t cs) (o : Obj) : Blk (w.alloc o) g t cs := (Below.heap_alloc w o g h.lt).trans h
theorem Blk.set_ (h : Blk w g t cs) (i : Nat) (u : Value) : Blk (w.setCell ⟨g, i, none⟩ u) g t (cs.setIfInBounds i u) := by
  unfold Blk at h ⊢
  simp [World.setCell, Array.getElem?_modify, h]
theorem Blk.far (h : Blk w g t cs) {p : Addr} (hp : g ≠ p.block) (u : Value) : Blk (w.setCell p u) g t cs := (Below.heap_setCell w p u g hp).trans h
theorem Blk.below {B : Nat} (h : Blk w g t cs) (hb : Below B w w') (hg : g < B) : Blk w' g t cs := (hb.block g hg).trans h
theorem Blk.grown {row : Option Nat} (h : Blk w g t cs) (hb : w.grownBy w' row) (hg : some g ≠ row) : Blk w' g t cs := (hb.block g h.lt hg).trans h
theorem Blk.ne_ {g' : Nat} {t' : TypeId} {cs' : Array Value} (h : Blk w g t cs) (h' : Blk w g' t' cs') (hne : t ≠ t') : g ≠ g' := by
  rintro rfl
  unfold Blk at h h'
  rw [h] at h'
  injection h' with h'
  injection h' with _ ht
  exact hne ht
end

section
variable {P : Program} (w : World)

theorem run_append_of_nil (base : Nat) (t ty e : TypeId) (i : TypeInfo) (size : Nat) (ht : P.underlying t = some (.slice e)) (hi : P.info? e = some i)
    (v : Value) (n : Nat) (xs : List Value) (hown : w.ownsRow base e size v n xs) (c : Nat) : (Builtin.append_ #[t, t] ty #[v, .slice none 0 c]).run P w = .ok v w := by
  rcases hown.2 with ⟨rfl, rfl⟩ | ⟨g, cap, cur, rfl, _, _, hnc, _⟩
  · simp [Builtin.append_, run_underlying ht, sizeOf, typeInfo, hi, Builtin.lenOf, Builtin.firstCells]
  · simp [Builtin.append_, run_underlying ht, sizeOf, typeInfo, hi, Builtin.lenOf, Builtin.firstCells, hnc, storeCells]

theorem run_append_any (base : Nat) (t ty e : TypeId) (i : TypeInfo) (z : Value) (size bytes : Nat) (ht : P.underlying t = some (.slice e)) (hi : P.info? e = some i) (hz : i.zero = some z)
    (hsize : i.size = size) (hby : i.bytes = bytes) (hzs : z.cells.size = size) (hsz : 0 < size)
    (v : Value) (n : Nat) (xs : List Value) (hown : w.ownsRow base e size v n xs)
    (B : Nat) (A : Option Addr) (m c : Nat) (news : List Value) (hr : Reads w B size A m news) (h1 : ∀ u ∈ news, u.oneCell' = true)
    (h63 : n + m ≤ maxLen) (hbytes : (n + m) * bytes ≤ 140737488355328) (hbase : base ≤ w.heap.size) :
    ∃ v' w', (Builtin.append_ #[t, t] ty #[v, .slice A m c]).run P w = .ok v' w' ∧ w'.ownsRow base e size v' (n + m) (xs ++ news) ∧ w.grownBy w' v.ownBlock ∧
      (v'.ownBlock = v.ownBlock ∨ v'.ownBlock = some w.heap.size) := by
  rcases A with _ | ad
  · have hm : m = 0 := by
      rcases Nat.eq_zero_or_pos m with h0 | h0
      · exact h0
      · obtain ⟨ad, h, _⟩ := hr.2 h0
        cases h
    subst hm
    have hn : news = [] := List.eq_nil_of_length_eq_zero (by simpa using hr.1)
    subst hn
    exact ⟨v, w, run_append_of_nil w base t ty e i size ht hi v n xs hown c, by simpa using hown, World.grownBy.refl w _, .inl rfl⟩
  · have hcells : ∀ j u, news[j]? = some u → w.cell? (ad.add j) = some u := by
      intro j u hu
      rcases Nat.eq_zero_or_pos m with h0 | h0
      · subst h0
        have hn : news = [] := List.eq_nil_of_length_eq_zero (by simpa using hr.1)
        subst hn
        simp at hu
      · obtain ⟨ad', h, _, hc⟩ := hr.2 h0
        injection h with h
        subst h
        exact hc j u hu
    obtain ⟨v', w', hrun, h2, h3, _, h5⟩ := run_append_own_at (P := P) w base t ty e i z size bytes ht hi hz hsize hby hzs hsz v n xs hown ad m c news hr.1 hcells h1 h63 hbytes hbase
    exact ⟨v', w', hrun, h2, h3, h5⟩

theorem wp_append_any {o : Oper} {a : Act} {K : Act → World → Prop} {Q : Exit → Act → World → Prop} (s x : Operand) (t : TypeId)
    (ho : o.op = .call { callee := .builtin .append, args := #[s, x], argTypes := #[t, t] })
    (base : Nat) (e : TypeId) (i : TypeInfo) (z : Value) (size bytes : Nat) (ht : P.underlying t = some (.slice e)) (hi : P.info? e = some i) (hz : i.zero = some z)
    (hsize : i.size = size) (hby : i.bytes = bytes) (hzs : z.cells.size = size) (hsz : 0 < size)
    (v : Value) (n : Nat) (xs : List Value) (hs : a.eval s = v) (hown : w.ownsRow base e size v n xs)
    (B : Nat) (A : Option Addr) (m c : Nat) (news : List Value) (hx : a.eval x = .slice A m c) (hr : Reads w B size A m news) (h1 : ∀ u ∈ news, u.oneCell' = true)
    (h63 : n + m ≤ maxLen) (hbytes : (n + m) * bytes ≤ 140737488355328) (hbase : base ≤ w.heap.size)
    (h : ∀ v' w', w'.ownsRow base e size v' (n + m) (xs ++ news) → w.grownBy w' v.ownBlock → (v'.ownBlock = v.ownBlock ∨ v'.ownBlock = some w.heap.size) → K (a.put o.dst v') w') : o.wp P a w K Q := by
  obtain ⟨v', w', hrun, h2, h3, h4⟩ := run_append_any (P := P) w base t o.type e i z size bytes ht hi hz hsize hby hzs hsz v n xs hown B A m c news hr h1 h63 hbytes hbase
  unfold Oper.wp execOp
  simp only [ho, resolve, invoke, builtin, Sem.run_bind, Sem.run_pure, Result.andThen_ok, List.map_toArray, List.map_cons, List.map_nil, hs, hx, hrun]
  exact h v' w' h2 h3 h4

theorem wpList_append_any {ops : Array Oper} {rest : List Oper} {o : Oper} {a : Act} {Q : Exit → Act → World → Prop} (hgd : o.guard = none) (s x : Operand) (t : TypeId)
    (ho : o.op = .call { callee := .builtin .append, args := #[s, x], argTypes := #[t, t] })
    (base : Nat) (e : TypeId) (i : TypeInfo) (z : Value) (size bytes : Nat) (ht : P.underlying t = some (.slice e)) (hi : P.info? e = some i) (hz : i.zero = some z)
    (hsize : i.size = size) (hby : i.bytes = bytes) (hzs : z.cells.size = size) (hsz : 0 < size)
    (v : Value) (n : Nat) (xs : List Value) (hs : a.eval s = v) (hown : w.ownsRow base e size v n xs)
    (B : Nat) (A : Option Addr) (m c : Nat) (news : List Value) (hx : a.eval x = .slice A m c) (hr : Reads w B size A m news) (h1 : ∀ u ∈ news, u.oneCell' = true)
    (h63 : n + m ≤ maxLen) (hbytes : (n + m) * bytes ≤ 140737488355328) (hbase : base ≤ w.heap.size)
    (h : ∀ v' w', w'.ownsRow base e size v' (n + m) (xs ++ news) → w.grownBy w' v.ownBlock → (v'.ownBlock = v.ownBlock ∨ v'.ownBlock = some w.heap.size) → wpList P ops Q rest (a.put o.dst v') w') : wpList P ops Q (o :: rest) a w :=
  wpList_plain hgd fun _ hK => wp_append_any w s x t ho base e i z size bytes ht hi hz hsize hby hzs hsz v n xs hs hown B A m c news hx hr h1 h63 hbytes hbase fun v' w' h2 h3 h4 => hK _ _ (h v' w' h2 h3 h4)

end

/-! ### only one block has turned -/
theorem only_refl (w : World) (g : Nat) : w.grownBy w (some g) := ⟨rfl, rfl, rfl, Nat.le_refl _, fun _ _ _ => rfl⟩
theorem only_drewN {a w : World} {row : Option Nat} (h : a.grownBy w row) (n : Nat) : a.grownBy (w.drewN n) row := ⟨h.os, h.tape, h.output, h.size, h.block⟩
theorem only_setCell {a w : World} {g : Nat} (h : a.grownBy w (some g)) {p : Addr} (hp : p.block = g ∨ a.heap.size ≤ p.block) (u : Value) : a.grownBy (w.setCell p u) (some g) :=
  ⟨h.os, h.tape, h.output, by simpa [World.setCell] using h.size, fun i hi hne => (Below.heap_setCell w p u i (by
    rintro rfl
    rcases hp with hp | hp
    · exact hne (by rw [hp])
    · omega)).trans (h.block i hi hne)⟩
theorem only_trans {a b c : World} {g : Nat} (h : a.grownBy b (some g)) (k : b.grownBy c (some g)) : a.grownBy c (some g) :=
  ⟨k.os.trans h.os, k.tape.trans h.tape, k.output.trans h.output, Nat.le_trans h.size k.size, fun i hi hne => (k.block i (Nat.lt_of_lt_of_le hi h.size) hne).trans (h.block i hi hne)⟩
/-- the block is one of the call's own -/
theorem only_new {B : Nat} {a w w' : World} {g : Nat} (h : Below B a w) (k : w.grownBy w' (some g)) (hg : B ≤ g) (hB : B ≤ w.heap.size) : Below B a w' :=
  h.grown k hB (fun j hj => by injection hj with hj; omega)
theorem below_drewN {B : Nat} {a w : World} (h : Below B a w) (n : Nat) : Below B a (w.drewN n) := ⟨h.os, h.tape, h.output, h.size, h.block⟩
theorem Reads.only {w w' : World} {B size n : Nat} {A : Option Addr} {xs : List Value} {g : Nat} (h : Reads w B size A n xs) (hg : w.grownBy w' (some g)) (hB : B ≤ w.heap.size) (hr : B ≤ g) : Reads w' B size A n xs :=
  h.grown hg hB (fun j hj => by injection hj with hj; omega)
end Go.Proofs.YtnjhdbgejhnpfaaDoor
end

section
namespace Go.Proofs.YtnjhdbgejhnpfaaDoor
set_option linter.unusedVariables false
open Go.RowKit

/-! ### frames as functions -/
abbrev Env := Nat → Value
def setE (σ : Env) (d : Nat) (v : Value) : Env := fun t => bif Nat.beq t d then v else σ t
def putE (σ : Env) (d : Option Tmp) (v : Value) : Env := match d with | some d => setE σ d v | none => σ
def ev (σ : Env) (x : Operand) : Value := match x with
  | .tmp t => σ t
  | .const v => v
  | .global g => .pointer (some ⟨g, 0, none⟩)
  | .func f => .func (.func f) #[] #[]
def learn (σ : Env) (c : Operand) (b : Bool) : Env := match c with | .tmp t => setE σ t (.bool b) | _ => σ
def envOf : List Value → Env
  | [], _ => undef
  | v :: _, 0 => v
  | _ :: r, t + 1 => envOf r t
structure Agr (n : Nat) (ds : List Deferred) (a : Act) (σ : Env) : Prop where
  size : a.tmps.size = n
  val : ∀ t, a.tmps.getD t undef = σ t
  defers : a.defers = ds
theorem setE_same (σ : Env) (d : Nat) (v : Value) : setE σ d v d = v := by simp [setE]
theorem setE_ne (σ : Env) {d t : Nat} (v : Value) (h : t ≠ d) : setE σ d v t = σ t := by
  have : Nat.beq t d = false := by rw [Bool.eq_false_iff]; intro e; exact h (Nat.eq_of_beq_eq_true e)
  simp [setE, this]
theorem setE_id {σ : Env} {d : Nat} {v : Value} (h : σ d = v) : setE σ d v = σ := by
  funext t
  by_cases e : t = d
  · subst e; rw [setE_same, h]
  · exact setE_ne σ v e
theorem learn_id {σ : Env} {c : Operand} {b : Bool} (h : ev σ c = .bool b) : learn σ c b = σ := by
  cases c <;> simp only [learn]
  exact setE_id h
theorem Agr.put {n : Nat} {ds : List Deferred} {a : Act} {σ : Env} (h : Agr n ds a σ) {d : Option Tmp} (hd : ∀ t, d = some t → t < n) (v : Value) : Agr n ds (a.put d v) (putE σ d v) := by
  cases d with
  | none => exact h
  | some d =>
    have hdn := hd d rfl
    refine ⟨by simp [Act.put, h.size], fun t => ?_, h.defers⟩
    simp only [Act.put, putE]
    by_cases e : t = d
    · subst e
      rw [setE_same, Array.getD_eq_getD_getElem?, Array.getElem?_setIfInBounds_self_of_lt (by rw [h.size]; exact hdn)]
      rfl
    · rw [setE_ne σ v e, ← h.val t, Array.getD_eq_getD_getElem?, Array.getD_eq_getD_getElem?, Array.getElem?_setIfInBounds_ne (fun e' => e e'.symm)]
theorem Agr.eval {n : Nat} {ds : List Deferred} {a : Act} {σ : Env} (h : Agr n ds a σ) : a.eval = ev σ := by
  funext x
  cases x <;> simp only [Act.eval, ev]
  exact h.val _

/-! ### what may stop the reckoning -/
def enters (P : Program) (f : FuncId) : Bool := match P.funcs[f]? with | some fn => fn.body.isSome && !(fn.name == "runtime.NumGoroutine") | none => false
structure VSem (P : Program) (s : Sem Value) (w : World) (K : Value → World → Prop) : Prop where
  out : ∃ v w', s.run P w = .ok v w' ∧ K v w'
theorem VSem_eq {P : Program} {s : Sem Value} {w : World} {K : Value → World → Prop} : VSem P s w K = (∃ v w', s.run P w = .ok v w' ∧ K v w') := propext ⟨fun h => h.out, fun h => ⟨h⟩⟩
structure VUnit (P : Program) (s : Sem Unit) (w : World) (K : World → Prop) : Prop where
  out : ∃ w', s.run P w = .ok () w' ∧ K w'
theorem VUnit_eq {P : Program} {s : Sem Unit} {w : World} {K : World → Prop} : VUnit P s w K = (∃ w', s.run P w = .ok () w' ∧ K w') := propext ⟨fun h => h.out, fun h => ⟨h⟩⟩
structure VRead (P : Program) (S : World → Prop) (s : Sem Value) (K : Value → Prop) : Prop where
  out : ∃ v, (∀ W, S W → s.run P W = .ok v W) ∧ K v
theorem VRead_eq {P : Program} {S : World → Prop} {s : Sem Value} {K : Value → Prop} : VRead P S s K = (∃ v, (∀ W, S W → s.run P W = .ok v W) ∧ K v) := propext ⟨fun h => h.out, fun h => ⟨h⟩⟩
structure VCall (P : Program) (f : FuncId) (args : List Value) (w : World) (K : Value → World → Prop) : Prop where
  out : enters P f = true ∧ Calls P f args.toArray w (fun e w' => ∃ v, e = .returned v ∧ K v w')
theorem VCall_eq {P : Program} {f : FuncId} {args : List Value} {w : World} {K : Value → World → Prop} : VCall P f args w K = (enters P f = true ∧ Calls P f args.toArray w (fun e w' => ∃ v, e = .returned v ∧ K v w')) := propext ⟨fun h => h.out, fun h => ⟨h⟩⟩
structure VYield (P : Program) (k : Nat) (args : List Value) (w : World) (K : Value → World → Prop) : Prop where
  out : ∃ fn tmps assign body, (Instr.yield k args.toArray).run P w = .ok (.round k fn tmps assign body) w ∧ RoundIn Fence.wide 0 P k fn tmps assign body w (fun e w' => ∃ v, e = .returned v ∧ K v w')
structure VNext (P : Program) (s : Sem Next) (w : World) (K : Value → World → Prop) : Prop where
  out : (∃ v w', s.run P w = .ok (.value v) w' ∧ K v w') ∨ (∃ w', s.run P w = .ok .skip w' ∧ K undef w') ∨
    (∃ f args w', s.run P w = .ok (.enter f args) w' ∧ Calls P f args w' (fun e w'' => ∃ v, e = .returned v ∧ K v w''))
theorem VNext_eq {P : Program} {s : Sem Next} {w : World} {K : Value → World → Prop} : VNext P s w K = ((∃ v w', s.run P w = .ok (.value v) w' ∧ K v w') ∨ (∃ w', s.run P w = .ok .skip w' ∧ K undef w') ∨     (∃ f args w', s.run P w = .ok (.enter f args) w' ∧ Calls P f args w' (fun e w'' => ∃ v, e = .returned v ∧ K v w''))) := propext ⟨fun h => h.out, fun h => ⟨h⟩⟩
structure VWrap (k : IntKind) (z : Int) (K : Int → Prop) : Prop where
  out : K (k.wrap z)
theorem VWrap_eq {k : IntKind} {z : Int} {K : Int → Prop} : VWrap k z K = (K (k.wrap z)) := propext ⟨fun h => h.out, fun h => ⟨h⟩⟩
structure VBool (b : Bool) (k : Bool → Prop) : Prop where
  out : k b
theorem VBool.mono {b : Bool} {k k' : Bool → Prop} (h : VBool b k) (hk : k b → k' b) : VBool b k' := ⟨hk h.out⟩

theorem VSem.mono {P : Program} {s : Sem Value} {w : World} {K K' : Value → World → Prop} (h : VSem P s w K) (hk : ∀ v w, K v w → K' v w) : VSem P s w K' := by
  simp only [VSem_eq] at *; obtain ⟨v, w', h1, h2⟩ := h; exact ⟨v, w', h1, hk _ _ h2⟩
theorem VUnit.mono {P : Program} {s : Sem Unit} {w : World} {K K' : World → Prop} (h : VUnit P s w K) (hk : ∀ w, K w → K' w) : VUnit P s w K' := by
  simp only [VUnit_eq] at *; obtain ⟨w', h1, h2⟩ := h; exact ⟨w', h1, hk _ h2⟩
theorem VRead.mono {P : Program} {S : World → Prop} {s : Sem Value} {K K' : Value → Prop} (h : VRead P S s K) (hk : ∀ v, K v → K' v) : VRead P S s K' := by
  simp only [VRead_eq] at *; obtain ⟨v, h1, h2⟩ := h; exact ⟨v, h1, hk _ h2⟩
theorem VCall.mono {P : Program} {f : FuncId} {args : List Value} {w : World} {K K' : Value → World → Prop} (h : VCall P f args w K) (hk : ∀ v w, K v w → K' v w) : VCall P f args w K' := by
  simp only [VCall_eq] at *; exact ⟨h.1, h.2.mono fun e w' ⟨v, h1, h2⟩ => ⟨v, h1, hk _ _ h2⟩⟩
theorem VYield.mono {P : Program} {k : Nat} {args : List Value} {w : World} {K K' : Value → World → Prop} (h : VYield P k args w K) (hk : ∀ v w, K v w → K' v w) : VYield P k args w K' := by
  obtain ⟨fn, tmps, assign, body, h1, h2⟩ := h.out
  exact ⟨fn, tmps, assign, body, h1, h2.mono fun e w' ⟨v, k1, k2⟩ => ⟨v, k1, hk _ _ k2⟩⟩
theorem VNext.mono {P : Program} {s : Sem Next} {w : World} {K K' : Value → World → Prop} (h : VNext P s w K) (hk : ∀ v w, K v w → K' v w) : VNext P s w K' := by
  simp only [VNext_eq] at *
  rcases h with ⟨v, w', h1, h2⟩ | ⟨w', h1, h2⟩ | ⟨f, args, w', h1, h2⟩
  · exact .inl ⟨v, w', h1, hk _ _ h2⟩
  · exact .inr (.inl ⟨w', h1, hk _ _ h2⟩)
  · exact .inr (.inr ⟨f, args, w', h1, h2.mono fun e w'' ⟨v, k1, k2⟩ => ⟨v, k1, hk _ _ k2⟩⟩)
theorem VWrap.mono {k : IntKind} {z : Int} {K K' : Int → Prop} (h : VWrap k z K) (hk : ∀ v, K v → K' v) : VWrap k z K' := by
  simp only [VWrap_eq] at *; exact hk _ h

/-! ### operations that leave the world alone -/
def sameK : IntKind → IntKind → Bool
  | .i8, .i8 | .i16, .i16 | .i32, .i32 | .i64, .i64 | .u8, .u8 | .u16, .u16 | .u32, .u32 | .u64, .u64 => true
  | _, _ => false
theorem sameK_eq {k j : IntKind} (h : sameK k j = true) : k = j := by cases k <;> cases j <;> first | rfl | cases h
def vbin (P : Program) (S : World → Prop) (op : BinOp) (t : TypeId) (x y : Operand) (a b : Value) (K : Value → Prop) : Prop :=
  match op, a, b with
  | .add, .int k m, .int j n => bif sameK k j then VWrap k (m + n) (fun z => K (.int k z)) else False
  | .sub, .int k m, .int j n => bif sameK k j then VWrap k (m - n) (fun z => K (.int k z)) else False
  | .mul, .int k m, .int j n => bif sameK k j then VWrap k (m * n) (fun z => K (.int k z)) else False
  | .eql, .int k m, .int j n => bif sameK k j then K (.bool (decide (m = n))) else False
  | .neq, .int k m, .int j n => bif sameK k j then K (.bool (!decide (m = n))) else False
  | .lss, .int k m, .int j n => bif sameK k j then K (.bool (decide (m < n))) else False
  | .leq, .int k m, .int j n => bif sameK k j then K (.bool (decide (m ≤ n))) else False
  | .gtr, .int k m, .int j n => bif sameK k j then K (.bool (decide (n < m))) else False
  | .geq, .int k m, .int j n => bif sameK k j then K (.bool (decide (n ≤ m))) else False
  | .eql, .string s, .string u => K (.bool (decide (s = u)))
  | .neq, .string s, .string u => K (.bool (!decide (s = u)))
  | op, a, b => VRead P S (do eqGuard op t x y a b; binOp op t a b) K
/-- these leave the world alone -/
def isRead : Op → Bool
  | .move _ | .assign _ | .pick .. | .load .. | .binOp .. | .unOp .. | .extract .. | .slice .. | .fieldAddr .. | .field .. | .indexAddr .. | .index .. | .makeInterface .. | .nilCheck .. | .build .. => true
  | .call c => match c.callee with | .builtin .len | .builtin .cap | .builtin .min | .builtin .max => true | _ => false
  | _ => false
/-- a value, reckoned to its head -/
def forceV (v : Value) (K : Value → Prop) : Prop := match v with
  | .bool b => K (.bool b)
  | .int k n => K (.int k n)
  | .float k b => K (.float k b)
  | .complex k a b => K (.complex k a b)
  | .string s => K (.string s)
  | .pointer a => K (.pointer a)
  | .slice a n c => K (.slice a n c)
  | .map r => K (.map r)
  | .chan r => K (.chan r)
  | .func f a b => K (.func f a b)
  | .nilFunc => K .nilFunc
  | .iface t v => K (.iface t v)
  | .nilIface => K .nilIface
  | .agg c => K (.agg c)
  | .tuple v => K (.tuple v)
theorem forceV_eq (v : Value) (K : Value → Prop) : forceV v K = K v := by cases v <;> rfl
def forceL : List Value → (List Value → Prop) → Prop
  | [], K => K []
  | v :: r, K => forceV v fun v => forceL r fun r => K (v :: r)
theorem forceL_eq : ∀ (l : List Value) (K : List Value → Prop), forceL l K = K l
  | [], K => rfl
  | v :: r, K => by rw [forceL, forceV_eq, forceL_eq r]
def zipP : List (Nat × Operand) → List Value → List (Nat × Value)
  | p :: r, v :: vs => (p.1, v) :: zipP r vs
  | _, _ => []
theorem zipP_eq (ρ : Operand → Value) : ∀ l : List (Nat × Operand), zipP l (l.map fun p => ρ p.2) = l.map fun p => (p.1, ρ p.2)
  | [] => rfl
  | p :: r => by simp only [List.map_cons, zipP, zipP_eq ρ r]
def argsOf (ρ : Operand → Value) (c : Call) : List Value := c.args.toList.map ρ
def vread (P : Program) (S : World → Prop) (ρ : Operand → Value) (op : Op) (ty : TypeId) (K : Value → Prop) : Prop :=
  match op with
  | .move x | .assign x => forceV (ρ x) K
  | .pick c a b => match ρ c with | .bool t => forceV (bif t then ρ a else ρ b) K | _ => False
  | .load t a => forceV (ρ a) fun a => VRead P S (Instr.loadAt t a) K
  | .binOp op t x y _ => forceV (ρ x) fun a => forceV (ρ y) fun b => vbin P S op t x y a b K
  | .unOp op t x => match op, ρ x with | .not, .bool b => K (.bool (!b)) | _, v => VRead P S (Op.unary op v) K
  | .extract t i => match ρ t with | .tuple vs => (match vs.toList[i]? with | some v => K v | none => False) | _ => False
  | .slice t x lo hi mx => VRead P S (Instr.sliceAt t (ρ x) (lo.map ρ) (hi.map ρ) (mx.map ρ)) K
  | .fieldAddr s x f => forceV (ρ x) fun x => VRead P S (Instr.fieldAt s x f) K
  | .field t x f => forceV (ρ x) fun x => VRead P S (Instr.field t x f) K
  | .indexAddr t x i => forceV (ρ x) fun x => forceV (ρ i) fun i => VRead P S (Instr.indexAt t x i) K
  | .index t x i => forceV (ρ x) fun x => forceV (ρ i) fun i => VRead P S (Instr.index t x i) K
  | .makeInterface t x => forceV (ρ x) fun x => VRead P S (Instr.makeInterface t x) K
  | .convert s d x => forceV (ρ x) fun x => VRead P S (convert s d x) K
  | .build t ps => forceL (ps.toList.map fun p => ρ p.2) fun l => VRead P S (Instr.build t (zipP ps.toList l).toArray) K
  | .lookup t x i ok => forceV (ρ x) fun x => forceV (ρ i) fun i => VRead P S (Instr.lookup t x i ok) K
  | .nilCheck x => match ρ x with | .pointer (some a) => K (.pointer (some a)) | _ => False
  | .call c => match c.callee with
    | .builtin .len => forceL (argsOf ρ c) fun l => VRead P S (Builtin.len_ c.argTypes ty l.toArray) K
    | .builtin .cap => forceL (argsOf ρ c) fun l => VRead P S (Builtin.cap_ c.argTypes ty l.toArray) K
    | .builtin .min => forceL (argsOf ρ c) fun l => VRead P S (Builtin.min_ c.argTypes ty l.toArray) K
    | .builtin .max => forceL (argsOf ρ c) fun l => VRead P S (Builtin.max_ c.argTypes ty l.toArray) K
    | _ => False
  | _ => False
theorem vbin_mono {P : Program} {S : World → Prop} {op : BinOp} {t : TypeId} {x y : Operand} {a b : Value} {K K' : Value → Prop} (h : vbin P S op t x y a b K) (hk : ∀ v, K v → K' v) : vbin P S op t x y a b K' := by
  unfold vbin at *
  split at h <;> first
    | exact h.mono hk
    | exact hk _ h
    | (rename_i k m j n; cases hs : sameK k j <;> rw [hs] at h <;> simp only [cond_true, cond_false] at h ⊢ <;> first | exact h.elim | exact h.mono fun z => hk _ | exact hk _ h)
theorem args_arr (ρ : Operand → Value) (c : Call) : (argsOf ρ c).toArray = c.args.map ρ := by
  unfold argsOf; rw [← Array.toList_inj]; simp
theorem bytes_eq (s u : ByteArray) : (s.toList == u.toList) = decide (s = u) := by
  have e : ∀ s : ByteArray, s.toList = s.data.toList := fun s => by cases s with | mk d => cases d with | mk l => exact ByteArray.toList_mk l
  rw [e, e, Bool.eq_iff_iff, beq_iff_eq, decide_eq_true_iff]
  constructor
  · intro h
    cases s with | mk d => cases u with | mk d' => congr; exact Array.toList_inj.1 h
  · rintro rfl; rfl
theorem run_v' {P : Program} {s : Sem Value} {v : Value} {W W' : World} (h : s.run P W = .ok v W') : (do pure (.value (← s)) : Sem Next).run P W = .ok (.value v) W' := by
  rw [Sem.run_bind, h]; rfl
theorem eqGuard_int {P : Program} (op : BinOp) (t : TypeId) (x y : Operand) (k j : IntKind) (m n : Int) (W : World) : (eqGuard op t x y (.int k m) (.int j n)).run P W = .ok () W := by
  unfold eqGuard; cases op <;> rfl
theorem eqGuard_str {P : Program} (op : BinOp) (t : TypeId) (x y : Operand) (s u : ByteArray) (W : World) : (eqGuard op t x y (.string s) (.string u)).run P W = .ok () W := by
  unfold eqGuard; cases op <;> rfl
theorem vbin_sound {P : Program} {S : World → Prop} {op : BinOp} {t : TypeId} {x y : Operand} {a b : Value} {K : Value → Prop} (h : vbin P S op t x y a b K) :
    ∃ v, (∀ W, S W → (do eqGuard op t x y a b; binOp op t a b : Sem Value).run P W = .ok v W) ∧ K v := by
  unfold vbin at h
  split at h
  case h_12 => simp only [VRead_eq] at h; exact h
  case h_10 s u => exact ⟨_, fun W _ => by rw [Sem.run_bind, eqGuard_str]; show (Op.stringOp .eql s u).run P W = _; unfold Op.stringOp; simp only [Sem.run_pure]; rw [bytes_eq], h⟩
  case h_11 s u => exact ⟨_, fun W _ => by rw [Sem.run_bind, eqGuard_str]; show (Op.stringOp .neq s u).run P W = _; unfold Op.stringOp; simp only [Sem.run_pure]; rw [bytes_eq], h⟩
  all_goals
    rename_i k m j n
    by_cases hs : sameK k j = true
    · rw [hs] at h
      simp only [cond_true] at h
      obtain rfl := sameK_eq hs
      try simp only [VWrap_eq] at h
      try dsimp only at h
      refine ⟨_, fun W _ => ?_, h⟩
      rw [Sem.run_bind, eqGuard_int]
      first | rfl | (simp [binOp, Op.intArith, Op.intCmp, Result.andThen, bne]; done) | (simp [binOp, Op.intArith, Op.intCmp, Result.andThen, bne]; rfl)
    · rw [Bool.not_eq_true] at hs
      rw [hs] at h
      exact h.elim
theorem vread_sound {P : Program} {S : World → Prop} {ρ : Operand → Value} {o : Oper} {K : Value → Prop} (h : vread P S ρ o.op o.type K) :
    ∃ v, (∀ W, S W → (execOp ρ o).run P W = .ok (.value v) W) ∧ K v := by
  unfold execOp
  cases ho : o.op <;> rw [ho] at h <;> simp only [vread, forceV_eq, forceL_eq] at h ⊢
  all_goals first
    | exact h.elim
    | (simp only [VRead_eq] at h; obtain ⟨v, h1, h2⟩ := h; exact ⟨v, fun W hW => run_v' (h1 W hW), h2⟩)
    | exact ⟨_, fun W hW => rfl, h⟩
    | skip
  case build t ps =>
    have e : (ps.toList.map fun p => (p.1, ρ p.2)).toArray = ps.map fun p => (p.1, ρ p.2) := by rw [← Array.toList_inj]; simp
    rw [zipP_eq, e] at h
    simp only [VRead_eq] at h; obtain ⟨v, h1, h2⟩ := h; exact ⟨v, fun W hW => run_v' (h1 W hW), h2⟩
  case pick c x y =>
    split at h
    · rename_i t e
      refine ⟨_, fun W hW => ?_, h⟩
      rw [e]
      cases t <;> rfl
    · exact h.elim
  case nilCheck x =>
    split at h
    · rename_i a e
      refine ⟨_, fun W hW => ?_, h⟩
      rw [e]
      rfl
    · exact h.elim
  case binOp op t x y yt =>
    obtain ⟨v, h1, h2⟩ := vbin_sound h
    exact ⟨v, fun W hW => run_v' (h1 W hW), h2⟩
  case unOp op t x =>
    split at h
    · rename_i b e
      refine ⟨_, fun W hW => ?_, h⟩
      rw [e]
      rfl
    · simp only [VRead_eq] at h
      obtain ⟨v, h1, h2⟩ := h
      exact ⟨v, fun W hW => run_v' (h1 W hW), h2⟩
  case extract t i =>
    split at h
    · rename_i vs e
      split at h
      · rename_i v e2
        refine ⟨_, fun W hW => ?_, h⟩
        rw [e]
        have e3 : vs[i]? = some v := by rw [← e2]; simp
        unfold Instr.extract
        simp only [e3]
        rfl
      · exact h.elim
    · exact h.elim
  case call c =>
    unfold resolve
    split at h
    all_goals first
      | exact h.elim
      | (rename_i e
         simp only [VRead_eq] at h
         obtain ⟨v, h1, h2⟩ := h
         refine ⟨v, fun W hW => ?_, h2⟩
         have h3 := h1 W hW
         rw [args_arr] at h3
         simp only [e]
         rw [Sem.run_bind, Sem.run_pure]
         simp only [Result.andThen_ok]
         unfold invoke builtin
         exact run_v' h3)
theorem vread_mono {P : Program} {S : World → Prop} {ρ : Operand → Value} {op : Op} {ty : TypeId} {K K' : Value → Prop} (h : vread P S ρ op ty K) (hk : ∀ v, K v → K' v) : vread P S ρ op ty K' := by
  cases op <;> simp only [vread, forceV_eq, forceL_eq] at h ⊢
  all_goals first
    | exact h.elim
    | exact h.mono hk
    | exact hk _ h
    | exact vbin_mono h hk
    | (split at h <;> first | exact h.elim | exact h.mono hk | exact hk _ h | (split at h <;> first | exact h.elim | exact hk _ h))

/-! ### any operation -/
def vop (P : Program) (y : Bool) (ρ : Operand → Value) (op : Op) (ty : TypeId) (w : World) (K : Value → World → Prop) : Prop :=
  bif isRead op then vread P (Eq w) ρ op ty (fun v => K v w) else
  match op with
  | .store t a x => forceV (ρ a) fun a => forceV (ρ x) fun x => VUnit P (Instr.storeAt t a x) w (K undef)
  | .convert s d x => forceV (ρ x) fun x => VSem P (convert s d x) w K
  | .lookup t x i ok => forceV (ρ x) fun x => forceV (ρ i) fun i => VSem P (Instr.lookup t x i ok) w K
  | .alloc e => VSem P (Instr.alloc e true (.tuple #[])) w K
  | .box e x => forceV (ρ x) fun x => VSem P (Instr.box e x) w K
  | .buildSlice t n ps => forceL (ps.toList.map fun p => ρ p.2) fun l => VSem P (Instr.buildSlice t n (zipP ps.toList l).toArray) w K
  | .makeSlice t l c => forceV (ρ l) fun l => forceV (ρ c) fun c => VSem P (Instr.makeSlice t l c) w K
  | .makeFunc f xs ys => VSem P (Instr.makeFunc f (xs.toList.map ρ).toArray (ys.toList.map ρ).toArray) w K
  | .makeMap t r => VSem P (Instr.makeMap t (r.map ρ)) w K
  | .mapUpdate t m k x => forceV (ρ m) fun m => forceV (ρ k) fun k => forceV (ρ x) fun x => VUnit P (Instr.mapUpdate t m k x) w (K undef)
  | .range t x => forceV (ρ x) fun x => VSem P (Instr.range t x) w K
  | .next it s => forceV (ρ it) fun it => VSem P (Instr.next it s ty) w K
  | .entry it => forceV (ρ it) fun it => VSem P (Instr.entry it) w K
  | .call c => match c.callee with
    | .builtin .append => forceL (argsOf ρ c) fun l => VSem P (Builtin.append_ c.argTypes ty l.toArray) w K
    | .builtin .copy => forceL (argsOf ρ c) fun l => VSem P (Builtin.copy_ c.argTypes ty l.toArray) w K
    | .value f => match ρ f with
      | .func (.func g) first captured => forceL (first.toList ++ argsOf ρ c ++ captured.toList) fun l => VCall P g l w K
      | .func (.yield k) first captured => bif y then forceL (first.toList ++ argsOf ρ c) fun l => VYield P k l w K else False
      | _ => VNext P (do let d ← Deferred.ofValue (ρ f) (argsOf ρ c).toArray; invoke d.target d.args) w K
    | _ => VNext P (do let d ← resolve ρ c ty; invoke d.target d.args) w K
  | o => VNext P (execOp ρ ⟨none, o, ty, "", #[], none⟩) w K
theorem run_u' {P : Program} {s : Sem Unit} {W W' : World} (h : s.run P W = .ok () W') : (do s; pure .skip : Sem Next).run P W = .ok .skip W' := by
  rw [Sem.run_bind, h]; rfl
theorem list_arr {α β : Type} (f : α → β) (c : Array α) : (c.toList.map f).toArray = c.map f := by rw [← Array.toList_inj]; simp
theorem execOp_bare (ρ : Operand → Value) (o : Oper) : execOp ρ ⟨none, o.op, o.type, "", #[], none⟩ = execOp ρ o := by
  unfold execOp; cases o.op <;> rfl
theorem callFunc_run {P : Program} {g : FuncId} {args : Array Value} {w : World} (h : enters P g = true) : (callFunc g args).run P w = .ok (.enter g args) w := by
  unfold enters at h
  cases hf : P.funcs[g]? with
  | none => rw [hf] at h; cases h
  | some fn =>
    rw [hf] at h
    simp only [Bool.and_eq_true, Bool.not_eq_true'] at h
    unfold callFunc
    simp [hf, show ¬ fn.name = "runtime.NumGoroutine" from by simpa using h.2, Option.isSome_iff_ne_none.1 h.1]
theorem vnext_sound {P : Program} {o : Oper} {a : Act} {w : World} {K : Value → World → Prop} {next : Act → World → Prop} {Q : Exit → Act → World → Prop} (h : VNext P (execOp a.eval o) w K) (hk : ∀ v w', K v w' → next (a.put o.dst v) w') : o.wp P a w next Q := by
  simp only [VNext_eq] at h
  unfold Oper.wp
  rcases h with ⟨v, w', h1, h2⟩ | ⟨w', h1, h2⟩ | ⟨f, args, w', h1, h2⟩
  · rw [h1]; exact hk _ _ h2
  · rw [h1]; exact hk _ _ h2
  · rw [h1]
    refine h2.mono fun e w'' hh => ?_
    obtain ⟨v, rfl, k⟩ := hh
    exact hk _ _ k
theorem vsem_next {P : Program} {s : Sem Value} {w : World} {K : Value → World → Prop} (h : VSem P s w K) : VNext P (do pure (.value (← s))) w K := by
  simp only [VSem_eq] at h; obtain ⟨v, w', h1, h2⟩ := h
  simp only [VNext_eq]; exact .inl ⟨v, w', run_v' h1, h2⟩
theorem vunit_next {P : Program} {s : Sem Unit} {w : World} {K : Value → World → Prop} (h : VUnit P s w (K undef)) : VNext P (do s; pure .skip) w K := by
  simp only [VUnit_eq] at h; obtain ⟨w', h1, h2⟩ := h
  simp only [VNext_eq]; exact .inr (.inl ⟨w', run_u' h1, h2⟩)
theorem vnext_of_run {P : Program} {s : Sem Next} {v : Value} {w : World} {K : Value → World → Prop} (h : s.run P w = .ok (.value v) w) (hk : K v w) : VNext P s w K := by
  simp only [VNext_eq]; exact .inl ⟨v, w, h, hk⟩
theorem vnext_bind_ok {P : Program} {α : Type} {s : Sem α} {x : α} {w : World} {f : α → Sem Next} {K : Value → World → Prop} (h : s.run P w = .ok x w) (hk : VNext P (f x) w K) : VNext P (s >>= f) w K := by
  simp only [VNext_eq] at *
  have e : (s >>= f).run P w = (f x).run P w := by rw [Sem.run_bind, h]; rfl
  rw [e]; exact hk
/-- what an operation's run is good for: a value, a call, or a round of a loop over a function -/
def VNextY (P : Program) (y : Bool) (s : Sem Next) (w : World) (K : Value → World → Prop) : Prop := VNext P s w K ∨ (y = true ∧ ∃ k fn tmps assign body, s.run P w = .ok (.round k fn tmps assign body) w ∧ RoundIn Fence.wide 0 P k fn tmps assign body w (fun e w' => ∃ v, e = .returned v ∧ K v w'))
theorem vop_next {P : Program} {y : Bool} {ρ : Operand → Value} {o : Oper} {w : World} {K : Value → World → Prop} (h : vop P y ρ o.op o.type w K) : VNextY P y (execOp ρ o) w K := by
  unfold vop at h
  by_cases hr : isRead o.op = true
  · rw [hr] at h
    simp only [cond_true] at h
    obtain ⟨v, h1, h2⟩ := vread_sound (o := o) h
    exact .inl (vnext_of_run (h1 w rfl) h2)
  · rw [Bool.not_eq_true] at hr
    rw [hr] at h
    simp only [cond_false] at h
    rw [← execOp_bare]
    generalize o.op = op at h hr
    generalize o.type = ty at h
    cases op <;> simp only [forceV_eq, forceL_eq] at h
    all_goals first
      | exact .inl h
      | exact .inl (vsem_next h)
      | exact .inl (vunit_next h)
      | (rw [zipP_eq, list_arr] at h; exact .inl (vsem_next h))
      | (rw [list_arr] at h; exact .inl (vsem_next h))
      | (rw [list_arr, list_arr] at h; exact .inl (vsem_next h))
      | skip
    case call c =>
      unfold execOp resolve
      simp only
      split at h
      · rename_i e
        rw [e]
        rw [args_arr] at h
        exact .inl (vnext_bind_ok rfl (vsem_next h))
      · rename_i e
        rw [e]
        rw [args_arr] at h
        exact .inl (vnext_bind_ok rfl (vsem_next h))
      · rename_i f e
        rw [e]
        simp only
        split at h
        · rename_i g first captured e2
          rw [e2]
          unfold Deferred.ofValue
          simp only
          refine .inl (vnext_bind_ok rfl ?_)
          simp only [VCall_eq] at h
          obtain ⟨h1, h2⟩ := h
          simp only [VNext_eq]
          refine .inr (.inr ⟨g, _, w, callFunc_run h1, ?_⟩)
          have e3 : (first.toList ++ argsOf ρ c ++ captured.toList).toArray = first ++ c.args.map ρ ++ captured := by
            rw [← args_arr, ← Array.toList_inj]; simp
          rw [e3] at h2
          exact h2
        · rename_i k first captured e2
          cases y
          · exact h.elim
          · rw [e2]
            obtain ⟨fn, tmps, assign, body, h1, h2⟩ := VYield.out h
            refine .inr ⟨rfl, k, fn, tmps, assign, body, ?_, h2⟩
            have e3 : (first.toList ++ argsOf ρ c).toArray = first ++ c.args.map ρ := by rw [← args_arr, ← Array.toList_inj]; simp
            rw [e3] at h1
            unfold Deferred.ofValue
            simp only
            rw [Sem.run_bind, Sem.run_pure]
            exact h1
        · rw [args_arr] at h
          exact .inl h
      · exact .inl h
theorem vop_sound {P : Program} {n : Nat} {ds : List Deferred} {σ : Env} {o : Oper} {a : Act} {w : World} {K : Value → World → Prop} {next : Act → World → Prop} {Q : Exit → Act → World → Prop} (hA : Agr n ds a σ) (h : vop P false (ev σ) o.op o.type w K)
    (hk : ∀ v w', K v w' → next (a.put o.dst v) w') : o.wp P a w next Q := by
  rw [← hA.eval] at h
  rcases vop_next h with h | ⟨h, _⟩
  · exact vnext_sound h hk
  · cases h
/-- every function, any depth; in a round of a loop over a function, or in none -/
def fen (ro : Option Nat) : Fence := { Fence.wide with round := ro }
theorem vop_soundIn {P : Program} {ro : Option Nat} {m n : Nat} {ds : List Deferred} {σ : Env} {o : Oper} {a : Act} {w : World} {K : Value → World → Prop} {next : Act → World → Prop} {Q : Exit → Act → World → Prop} (hd : ∀ c, o.op ≠ .defer c) (hA : Agr n ds a σ) (h : vop P true (ev σ) o.op o.type w K)
    (hk : ∀ v w', K v w' → next (a.put o.dst v) w') : o.wpIn (fen ro) m P a w next Q := by
  rw [← hA.eval] at h
  have hdep : (fen ro).depth.isSome = true → 1 ≤ m := fun h => by cases h
  refine ⟨fun _ _ => trivial, ?_⟩
  rw [Oper.semAt_eq _ _ _ hd]
  rcases vop_next h with h | ⟨_, k, fn, tmps, assign, body, h1, h2⟩
  · rcases h.out with ⟨v, w', h1, h2⟩ | ⟨w', h1, h2⟩ | ⟨f, args, w', h1, h2⟩
    · rw [h1]; exact hk _ _ h2
    · rw [h1]; exact hk _ _ h2
    · rw [h1]
      refine ⟨hdep, ?_⟩
      have h3 : CallsIn Fence.wide (m - 1) P f args w' _ := callsIn_wide.2 h2
      exact CallsIn.mono (F := fen ro) h3 fun e w'' hh => by
        obtain ⟨v, rfl, k⟩ := hh
        exact hk _ _ k
  · rw [h1]
    refine ⟨hdep, ?_⟩
    have h3 : RoundIn (fen ro) (m - 1) P k fn tmps assign body w (fun e w' => ∃ v, e = .returned v ∧ K v w') := ⟨trivial, fun c cs _ => h2.2 c cs (room_wide _)⟩
    exact h3.mono fun e w'' hh => by
      obtain ⟨v, rfl, k⟩ := hh
      exact hk _ _ k
theorem vop_mono {P : Program} {y : Bool} {ρ : Operand → Value} {op : Op} {ty : TypeId} {w : World} {K K' : Value → World → Prop} (h : vop P y ρ op ty w K) (hk : ∀ v w, K v w → K' v w) : vop P y ρ op ty w K' := by
  unfold vop at *
  by_cases hr : isRead op = true
  · rw [hr] at h ⊢
    simp only [cond_true] at h ⊢
    exact vread_mono h fun v => hk v w
  · rw [Bool.not_eq_true] at hr
    rw [hr] at h ⊢
    simp only [cond_false] at h ⊢
    cases op <;> simp only [forceV_eq, forceL_eq] at h ⊢
    all_goals first
      | exact h.mono hk
      | exact h.mono (fun w => hk _ w)
      | skip
    case call c =>
      split at h
      · exact h.mono hk
      · exact h.mono hk
      · split at h
        · exact h.mono hk
        · cases y
          · exact h.elim
          · exact VYield.mono h hk
        · exact h.mono hk
      · exact h.mono hk

/-! ### lists of operations -/
def nthDst : List Oper → Nat → Option Tmp
  | [], _ => none
  | o :: _, 0 => o.dst
  | _ :: r, j + 1 => nthDst r j
theorem nthDst_eq : ∀ (l : List Oper) (j : Nat), nthDst l j = (l[j]?).bind (·.dst)
  | [], j => by simp [nthDst]
  | o :: r, 0 => by simp [nthDst]
  | o :: r, j + 1 => by simp [nthDst, nthDst_eq r j]
def eqb (a b : Bool) : Bool := match a, b with | true, true => true | false, false => true | _, _ => false
theorem eqb_iff {a b : Bool} : eqb a b = true ↔ a = b := by cases a <;> cases b <;> simp [eqb]
/-- an operation's guard: Y: it is carried out; N: it is passed over -/
def vguard (ops : List Oper) (σ : Env) (g : Option (Nat × Bool)) (Y N : Env → Prop) : Prop :=
  match g with
  | none => Y σ
  | some (j, want) => match nthDst ops j with
    | none => N σ
    | some d => match σ d with
      | .bool b => VBool b (fun b' => bif eqb b' want then Y (setE σ d (.bool b')) else N (setE σ d (.bool b')))
      | _ => N σ
theorem vguard_mono {ops : List Oper} {σ : Env} {g : Option (Nat × Bool)} {Y N Y' N' : Env → Prop} (h : vguard ops σ g Y N) (hY : Y σ → Y' σ) (hN : N σ → N' σ) : vguard ops σ g Y' N' := by
  unfold vguard at *
  split
  · exact hY h
  · rename_i j want
    simp only at h
    split
    · rename_i e; rw [e] at h; exact hN h
    · rename_i d e
      rw [e] at h
      simp only at h
      split
      · rename_i b e2
        rw [e2] at h
        simp only at h
        refine h.mono fun h => ?_
        rw [setE_id e2] at h ⊢
        cases hb : eqb b want
        · rw [hb] at h; exact hN h
        · rw [hb] at h; exact hY h
      · rename_i hne
        split at h
        · rename_i b e2; exact absurd e2 (hne b)
        · exact hN h
theorem yielded_env {n : Nat} {ds : List Deferred} {a : Act} {σ : Env} {ops : List Oper} (hA : Agr n ds a σ) (j : Nat) : yielded ops.toArray a.tmps j = match nthDst ops j with | none => none | some d => (match σ d with | .bool b => some b | _ => none) := by
  unfold yielded
  rw [nthDst_eq]
  simp only [List.getElem?_toArray]
  cases (ops[j]?).bind (·.dst) with
  | none => rfl
  | some d =>
    simp only [Option.bind_some]
    have h := hA.val d
    rw [Array.getD_eq_getD_getElem?] at h
    cases hd : a.tmps[d]? with
    | none =>
      rw [hd] at h
      simp only [Option.getD_none] at h
      rw [← h]; rfl
    | some v =>
      rw [hd] at h
      simp only [Option.getD_some] at h
      rw [h]
      cases σ d <;> rfl
theorem vguard_sound {n : Nat} {ds : List Deferred} {a : Act} {σ : Env} {ops : List Oper} {o : Oper} {Y N : Env → Prop} (hA : Agr n ds a σ) (h : vguard ops σ o.guard Y N) :
    (Region.wanted o (yielded ops.toArray a.tmps) = true ∧ Y σ) ∨ (Region.wanted o (yielded ops.toArray a.tmps) = false ∧ N σ) := by
  unfold vguard at h
  unfold Region.wanted
  split at h
  · rename_i e; rw [e]; exact .inl ⟨rfl, h⟩
  · rename_i j want e
    rw [e]
    simp only
    rw [yielded_env hA]
    split at h
    · rename_i e2; exact .inr ⟨rfl, h⟩
    · rename_i d e2
      split at h
      · rename_i b e3
        have h := h.out
        rw [setE_id e3] at h
        cases hb : eqb b want
        · rw [hb] at h
          refine .inr ⟨?_, h⟩
          cases b <;> cases want <;> first | rfl | cases hb
        · rw [hb] at h
          refine .inl ⟨?_, h⟩
          rw [eqb_iff.1 hb]; simp
      · exact .inr ⟨rfl, h⟩
def vlist (P : Program) (ops : List Oper) (K : Env → World → Prop) : List Oper → Env → World → Prop
  | [], σ, w => K σ w
  | o :: r, σ, w => vguard ops σ o.guard (fun σ => vop P true (ev σ) o.op o.type w (fun v w' => vlist P ops K r (putE σ o.dst v) w')) (fun σ => vlist P ops K r (putE σ o.dst undef) w)
def dsts (l : List Oper) : List Nat := l.filterMap (·.dst)
def Fr (D : List Nat) (σ' σ : Env) : Prop := ∀ t, t ∉ D → σ' t = σ t
theorem Fr.refl (D : List Nat) (σ : Env) : Fr D σ σ := fun _ _ => rfl
theorem Fr.trans {D D' E : List Nat} {a b c : Env} (h : Fr D b a) (h' : Fr D' c b) (hD : ∀ t, t ∈ D → t ∈ E) (hD' : ∀ t, t ∈ D' → t ∈ E) : Fr E c a := fun t ht => by
  rw [h' t (fun e => ht (hD' t e)), h t (fun e => ht (hD t e))]
theorem Fr.put {D : List Nat} {σ' σ : Env} (h : Fr D σ' σ) {d : Option Tmp} (hd : ∀ t, d = some t → t ∈ D) (v : Value) : Fr D (putE σ' d v) σ := by
  cases d with
  | none => exact h
  | some d => exact fun t ht => by rw [show putE σ' (some d) v t = σ' t from setE_ne _ _ (fun e => ht (e ▸ hd d rfl))]; exact h t ht
theorem mem_dsts {o : Oper} {l : List Oper} (h : o ∈ l) {t : Nat} (ht : o.dst = some t) : t ∈ dsts l := List.mem_filterMap.2 ⟨o, h, ht⟩
theorem vlist_mf {P : Program} {ops : List Oper} {K K' : Env → World → Prop} {D : List Nat} {σ0 : Env} : ∀ (l : List Oper) (σ : Env) (w : World), (∀ o ∈ l, ∀ t, o.dst = some t → t ∈ D) → Fr D σ σ0 → vlist P ops K l σ w → (∀ σ' w', K σ' w' → Fr D σ' σ0 → K' σ' w') → vlist P ops K' l σ w
  | [], σ, w, hl, hF, h, hk => hk _ _ h hF
  | o :: r, σ, w, hl, hF, h, hk => by
    unfold vlist at h ⊢
    have hr : ∀ o ∈ r, ∀ t, o.dst = some t → t ∈ D := fun o ho => hl o (List.mem_cons_of_mem _ ho)
    exact vguard_mono h (fun h => vop_mono h fun v w' h => vlist_mf r _ _ hr (hF.put (hl o (by simp)) v) h hk) (fun h => vlist_mf r _ _ hr (hF.put (hl o (by simp)) undef) h hk)
theorem vlist_soundIn {P : Program} {ro : Option Nat} {m n : Nat} {ds : List Deferred} {ops : List Oper} {K : Env → World → Prop} {Q : Exit → Act → World → Prop} (hQ : ∀ a' σ' w', Agr n ds a' σ' → K σ' w' → Q .normal a' w') :
    ∀ (l : List Oper) (a : Act) (σ : Env) (w : World), (∀ o ∈ l, (∀ t, o.dst = some t → t < n) ∧ ∀ c, o.op ≠ .defer c) → Agr n ds a σ → vlist P ops K l σ w → wpListIn (fen ro) m P ops.toArray Q l a w
  | [], a, σ, w, hl, hA, h => hQ _ _ _ hA h
  | o :: r, a, σ, w, hl, hA, h => by
    unfold vlist at h
    unfold wpListIn
    have hr : ∀ o ∈ r, (∀ t, o.dst = some t → t < n) ∧ ∀ c, o.op ≠ .defer c := fun o ho => hl o (List.mem_cons_of_mem _ ho)
    rcases vguard_sound hA h with ⟨h1, h2⟩ | ⟨h1, h2⟩
    · rw [if_pos h1]
      exact vop_soundIn (hl o (by simp)).2 hA h2 fun v w' hk => vlist_soundIn hQ r _ _ _ hr (hA.put (hl o (by simp)).1 v) hk
    · rw [if_neg (by rw [h1]; simp)]
      exact ⟨fun _ _ => trivial, vlist_soundIn hQ r _ _ _ hr (hA.put (hl o (by simp)).1 undef) h2⟩

/-! ### code -/
abbrev Post := Exit → Env → World → Prop
def thenP (K : Env → World → Prop) (Q : Post) : Post := fun e σ w => match e with | .normal => K σ w | e => Q e σ w
def blockP (id : Nat) (Q : Post) : Post := fun e σ w => match e with | .exit id' => bif Nat.beq id' id then Q .normal σ w else Q (.exit id') σ w | e => Q e σ w
def Lift (n : Nat) (ds : List Deferred) (Q : Post) (D : List Nat) (σ0 : Env) : Exit → Act → World → Prop := fun e a w => match e with
  | .panic _ | .outgrown => False
  | e => ∃ σ, Agr n ds a σ ∧ Fr D σ σ0 ∧ Q e σ w
def writes : Code → List Nat
  | .region _ ops _ => dsts ops.toList
  | .seq a b | .cond _ a b => writes a ++ writes b
  | .block _ b | .loop b | .scope b => writes b
  | _ => []
def codeOk (n : Nat) : Code → Bool
  | .region _ ops _ => ops.toList.all fun o => (match o.dst with | some d => Nat.blt d n | none => true) && (match o.op with | .defer _ => false | _ => true)
  | .seq a b | .cond _ a b => codeOk n a && codeOk n b
  | .block _ b | .loop b | .scope b => codeOk n b
  | .rangeFunc .. | .refuse _ => false
  | _ => true
/-- no region of it draws, nothing jumps -/
def calm : Code → Bool
  | .region _ _ d => !d
  | .seq a b | .cond _ a b => calm a && calm b
  | .block _ b | .loop b => calm b
  | .scope _ => false
  | _ => true
def noGotoP (Q : Post) : Post := fun e σ w => match e with | .goto _ => False | e => Q e σ w
/-- a piece of code before another: a place for a cut -/
structure VSeq (A : Post → Env → World → Prop) (B : Env → World → Prop) (Q : Post) (σ : Env) (w : World) : Prop where
  out : A (thenP B Q) σ w
theorem VSeq_eq {A : Post → Env → World → Prop} {B : Env → World → Prop} {Q : Post} {σ : Env} {w : World} : VSeq A B Q σ w = (A (thenP B Q) σ w) := propext ⟨fun h => h.out, fun h => ⟨h⟩⟩
structure VLoop (A : Post → Env → World → Prop) (Q : Post) (σ : Env) (w : World) : Prop where
  out : ∃ (I : Nat → Env → World → Prop), (∃ m, I m σ w) ∧ ∀ m σ1 w1, I m σ1 w1 → A (thenP (fun σ' w' => ∃ m', m' < m ∧ I m' σ' w') Q) σ1 w1
theorem VLoop_eq {A : Post → Env → World → Prop} {Q : Post} {σ : Env} {w : World} : VLoop A Q σ w = (∃ (I : Nat → Env → World → Prop), (∃ m, I m σ w) ∧ ∀ m σ1 w1, I m σ1 w1 → A (thenP (fun σ' w' => ∃ m', m' < m ∧ I m' σ' w') Q) σ1 w1) := propext ⟨fun h => h.out, fun h => ⟨h⟩⟩
structure VDraw (P : Program) (n : Nat) (ops : List Oper) (Q : Post) (σ : Env) (w : World) : Prop where
  out : ∀ ds a id, Agr n ds a σ → (Code.region id ops.toArray true).wp P (Lift n ds Q (dsts ops) σ) a w
theorem VDraw_eq {P : Program} {n : Nat} {ops : List Oper} {Q : Post} {σ : Env} {w : World} : VDraw P n ops Q σ w = (∀ ds a id, Agr n ds a σ → (Code.region id ops.toArray true).wp P (Lift n ds Q (dsts ops) σ) a w) := propext ⟨fun h => h.out, fun h => ⟨h⟩⟩
def big : Code → Bool
  | .cond .. | .block .. | .loop .. => true
  | .region _ _ d => d
  | .seq a b => big a || big b
  | _ => false
def vc (P : Program) (n : Nat) : Code → Post → Env → World → Prop
  | .skip, Q, σ, w => Q .normal σ w
  | .label _, Q, σ, w => Q .normal σ w
  | .region _ ops d, Q, σ, w => bif d then VDraw P n ops.toList Q σ w else vlist P ops.toList (Q .normal) ops.toList σ w
  | .seq a b, Q, σ, w => bif big a then VSeq (vc P n a) (vc P n b Q) Q σ w else vc P n a (thenP (vc P n b Q) Q) σ w
  | .cond c x y, Q, σ, w => match ev σ c with | .bool b => VBool b (fun b' => bif b' then vc P n x Q (learn σ c b') w else vc P n y Q (learn σ c b') w) | _ => False
  | .block id b, Q, σ, w => vc P n b (blockP id Q) σ w
  | .loop b, Q, σ, w => VLoop (vc P n b) Q σ w
  | .scope b, Q, σ, w => vc P n b (noGotoP Q) σ w
  | .exit id, Q, σ, w => Q (.exit id) σ w
  | .goto l, Q, σ, w => Q (.goto l) σ w
  | .ret, Q, σ, w => Q .ret σ w
  | _, _, _, _ => False

theorem Lift.mono {n : Nat} {ds : List Deferred} {Q Q' : Post} {D D' : List Nat} {σ0 σ1 : Env} {e : Exit} {a : Act} {w : World} (h : Lift n ds Q D σ0 e a w) (hq : ∀ σ, Agr n ds a σ → Fr D σ σ0 → Q e σ w → Q' e σ w ∧ Fr D' σ σ1) : Lift n ds Q' D' σ1 e a w := by
  unfold Lift at *
  cases e <;> simp only at h ⊢
  all_goals first
    | exact h
    | (obtain ⟨σ, h1, h2, h3⟩ := h; exact ⟨σ, h1, (hq σ h1 h2 h3).2, (hq σ h1 h2 h3).1⟩)

theorem vc_mf {P : Program} {n : Nat} : ∀ (c : Code) (Q Q' : Post) (σ : Env) (w : World), vc P n c Q σ w → (∀ e σ' w', Q e σ' w' → Fr (writes c) σ' σ → Q' e σ' w') → vc P n c Q' σ w
  | .skip, Q, Q', σ, w, h, hq => hq _ _ _ h (Fr.refl _ _)
  | .label _, Q, Q', σ, w, h, hq => hq _ _ _ h (Fr.refl _ _)
  | .exit _, Q, Q', σ, w, h, hq => hq _ _ _ h (Fr.refl _ _)
  | .goto _, Q, Q', σ, w, h, hq => hq _ _ _ h (Fr.refl _ _)
  | .ret, Q, Q', σ, w, h, hq => hq _ _ _ h (Fr.refl _ _)
  | .region id ops d, Q, Q', σ, w, h, hq => by
    unfold vc at h ⊢
    cases d
    · exact vlist_mf _ _ _ (fun o ho t ht => mem_dsts ho ht) (Fr.refl _ _) h fun σ' w' hk hF => hq _ _ _ hk hF
    · simp only [cond_true] at h ⊢
      simp only [VDraw_eq] at h ⊢
      intro ds a id hA
      refine wp_mono (h ds a id hA) fun e a' w' hl => hl.mono fun σ' _ hF hQ => ⟨hq _ _ _ hQ hF, hF⟩
  | .seq a b, Q, Q', σ, w, h, hq => by
    have key : vc P n a (thenP (vc P n b Q) Q) σ w → vc P n a (thenP (vc P n b Q') Q') σ w := fun h =>
      vc_mf a _ _ σ w h fun e σ1 w1 h1 hF1 => by
        cases e with
        | normal => exact vc_mf b _ _ σ1 w1 h1 fun e σ2 w2 h2 hF2 => hq _ _ _ h2 (hF1.trans hF2 (fun t ht => List.mem_append_left _ ht) (fun t ht => List.mem_append_right _ ht))
        | _ => exact hq _ _ _ h1 (fun t ht => hF1 t (fun e => ht (List.mem_append_left _ e)))
    unfold vc at h ⊢
    cases hb : big a <;> rw [hb] at h
    · exact key h
    · simp only [cond_true] at h ⊢
      simp only [VSeq_eq] at h ⊢
      exact key h
  | .cond c x y, Q, Q', σ, w, h, hq => by
    unfold vc at h ⊢
    split at h
    · rename_i b e
      refine h.mono fun h => ?_
      rw [learn_id e] at h ⊢
      cases b
      · exact vc_mf y _ _ σ w h fun e σ' w' h' hF => hq _ _ _ h' (fun t ht => hF t (fun e => ht (List.mem_append_right _ e)))
      · exact vc_mf x _ _ σ w h fun e σ' w' h' hF => hq _ _ _ h' (fun t ht => hF t (fun e => ht (List.mem_append_left _ e)))
    · exact h.elim
  | .block id b, Q, Q', σ, w, h, hq => by
    unfold vc at h ⊢
    refine vc_mf b _ _ σ w h fun e σ' w' h' hF => ?_
    unfold blockP at h' ⊢
    cases e with
    | exit id' =>
      simp only at h' ⊢
      cases hb : Nat.beq id' id <;> rw [hb] at h'
      · exact hq _ _ _ h' hF
      · exact hq _ _ _ h' hF
    | _ => exact hq _ _ _ h' hF
  | .loop b, Q, Q', σ, w, h, hq => by
    unfold vc at h ⊢
    simp only [VLoop_eq] at h ⊢
    obtain ⟨I, ⟨m, h0⟩, hr⟩ := h
    refine ⟨fun m σ1 w1 => I m σ1 w1 ∧ Fr (writes b) σ1 σ, ⟨m, h0, Fr.refl _ _⟩, fun m σ1 w1 ⟨hI, hF1⟩ => ?_⟩
    refine vc_mf b _ _ σ1 w1 (hr m σ1 w1 hI) fun e σ2 w2 h2 hF2 => ?_
    have hF := hF1.trans hF2 (E := writes b) (fun t ht => ht) (fun t ht => ht)
    cases e with
    | normal => obtain ⟨m', hm, hI'⟩ := h2; exact ⟨m', hm, hI', hF⟩
    | _ => exact hq _ _ _ h2 hF
  | .rangeFunc .., Q, Q', σ, w, h, hq => h.elim
  | .scope b, Q, Q', σ, w, h, hq => by
    unfold vc at h ⊢
    refine vc_mf b _ _ σ w h fun e σ' w' h' hF => ?_
    unfold noGotoP at h' ⊢
    cases e with
    | goto _ => exact h'
    | _ => exact hq _ _ _ h' hF
  | .refuse _, Q, Q', σ, w, h, hq => h.elim

theorem wpIn_loop_ghost {F : Fence} {m : Nat} {P : Program} {Q : Exit → Act → World → Prop} {a : Act} {w : World} {c : Code} (I : Nat → Act → World → Prop) (n₀ : Nat) (h₀ : I n₀ a w)
    (round : ∀ n a w, I n a w → c.wpIn F m P (Exit.then (fun a' w' => ∃ n', n' < n ∧ I n' a' w') Q) a w) : (Code.loop c).wpIn F m P Q a w := by
  refine wpIn_loop (fun a w => ∃ n, I n a w) (fun a w => leastOf (fun n => I n a w)) ⟨n₀, h₀⟩ ?_
  intro a w hI
  refine wpIn_mono (round _ a w (leastOf_spec hI).1) ?_
  intro e a' w' hq
  cases e with
  | normal =>
    obtain ⟨n', hlt, hI'⟩ := hq
    exact show (∃ n, I n a' w') ∧ leastOf (fun n => I n a' w') < leastOf (fun n => I n a w) from ⟨⟨n', hI'⟩, Nat.lt_of_le_of_lt ((leastOf_spec ⟨n', hI'⟩).2 n' hI') hlt⟩
  | _ => exact hq
theorem vc_soundIn {P : Program} {ro : Option Nat} {m n : Nat} {ds : List Deferred} : ∀ (c : Code) (Q : Post) (σ : Env) (w : World) (a : Act), codeOk n c = true → (ro = none ∨ calm c = true) → Agr n ds a σ → vc P n c Q σ w → c.wpIn (fen ro) m P (Lift n ds Q (writes c) σ) a w
  | .skip, Q, σ, w, a, hok, hc, hA, h => wpIn_skip ⟨σ, hA, Fr.refl _ _, h⟩
  | .label _, Q, σ, w, a, hok, hc, hA, h => wpIn_label ⟨σ, hA, Fr.refl _ _, h⟩
  | .exit _, Q, σ, w, a, hok, hc, hA, h => wpIn_exit ⟨σ, hA, Fr.refl _ _, h⟩
  | .goto _, Q, σ, w, a, hok, hc, hA, h => wpIn_goto ⟨σ, hA, Fr.refl _ _, h⟩
  | .ret, Q, σ, w, a, hok, hc, hA, h => wpIn_ret ⟨σ, hA, Fr.refl _ _, h⟩
  | .region id ops d, Q, σ, w, a, hok, hc, hA, h => by
    unfold vc at h
    have hl : ∀ o ∈ ops.toList, (∀ t, o.dst = some t → t < n) ∧ ∀ c, o.op ≠ .defer c := fun o ho => by
      unfold codeOk at hok
      have := List.all_eq_true.1 hok o ho
      simp only [Bool.and_eq_true] at this
      refine ⟨fun t ht => ?_, fun c e => ?_⟩
      · have h1 := this.1
        rw [ht] at h1
        exact Nat.blt_eq ▸ h1
      · have h2 := this.2
        rw [e] at h2
        cases h2
    cases d
    · refine wpIn_region_list ?_
      have h' := vlist_mf (K' := fun σ' w' => Q .normal σ' w' ∧ Fr (dsts ops.toList) σ' σ) _ _ _ (fun o ho t ht => mem_dsts ho ht) (Fr.refl _ _) h fun σ' w' hk hF => ⟨hk, hF⟩
      exact vlist_soundIn (Q := Lift n ds Q (writes (.region id ops false)) σ) (fun a' σ' w' hA' hK => ⟨σ', hA', hK.2, hK.1⟩) _ _ _ _ hl hA h'
    · rcases hc with rfl | hc
      · simp only [cond_true] at h
        simp only [VDraw_eq] at h
        exact wpIn_wide.2 (h ds a id hA)
      · cases hc
  | .seq x y, Q, σ, w, a, hok, hc, hA, h => by
    unfold codeOk at hok
    simp only [Bool.and_eq_true] at hok
    have hcx : ro = none ∨ calm x = true := hc.imp (fun h => h) fun h => by unfold calm at h; simp only [Bool.and_eq_true] at h; exact h.1
    have hcy : ro = none ∨ calm y = true := hc.imp (fun h => h) fun h => by unfold calm at h; simp only [Bool.and_eq_true] at h; exact h.2
    have h' : vc P n x (thenP (vc P n y Q) Q) σ w := by
      unfold vc at h
      cases hb : big x <;> rw [hb] at h
      · exact h
      · simp only [cond_true] at h
        simp only [VSeq_eq] at h
        exact h
    refine wpIn_seq (wpIn_mono (vc_soundIn x _ σ w a hok.1 hcx hA h') fun e a1 w1 hl => ?_)
    cases e with
    | normal =>
      obtain ⟨σ1, hA1, hF1, h1⟩ := hl
      refine wpIn_mono (vc_soundIn y _ σ1 w1 a1 hok.2 hcy hA1 h1) fun e a2 w2 hl2 => hl2.mono fun σ2 _ hF2 h2 => ⟨h2, hF1.trans hF2 (fun t ht => List.mem_append_left _ ht) (fun t ht => List.mem_append_right _ ht)⟩
    | panic _ => exact hl
    | outgrown => exact hl
    | exit _ => exact Lift.mono (Q' := Q) (D' := writes (.seq x y)) (σ1 := σ) hl fun σ2 _ hF2 h2 => ⟨h2, fun t ht => hF2 t (fun e => ht (List.mem_append_left _ e))⟩
    | goto _ => exact Lift.mono (Q' := Q) (D' := writes (.seq x y)) (σ1 := σ) hl fun σ2 _ hF2 h2 => ⟨h2, fun t ht => hF2 t (fun e => ht (List.mem_append_left _ e))⟩
    | ret => exact Lift.mono (Q' := Q) (D' := writes (.seq x y)) (σ1 := σ) hl fun σ2 _ hF2 h2 => ⟨h2, fun t ht => hF2 t (fun e => ht (List.mem_append_left _ e))⟩
  | .cond c x y, Q, σ, w, a, hok, hc, hA, h => by
    unfold codeOk at hok
    simp only [Bool.and_eq_true] at hok
    have hcx : ro = none ∨ calm x = true := hc.imp (fun h => h) fun h => by unfold calm at h; simp only [Bool.and_eq_true] at h; exact h.1
    have hcy : ro = none ∨ calm y = true := hc.imp (fun h => h) fun h => by unfold calm at h; simp only [Bool.and_eq_true] at h; exact h.2
    unfold vc at h
    split at h
    · rename_i b e
      have h := h.out
      rw [learn_id e] at h
      refine wpIn_cond (t := b) (by rw [hA.eval]; exact e) ?_
      cases b
      · exact wpIn_mono (vc_soundIn y _ σ w a hok.2 hcy hA h) fun e a2 w2 hl2 => hl2.mono fun σ2 _ hF2 h2 => ⟨h2, fun t ht => hF2 t (fun e => ht (List.mem_append_right _ e))⟩
      · exact wpIn_mono (vc_soundIn x _ σ w a hok.1 hcx hA h) fun e a2 w2 hl2 => hl2.mono fun σ2 _ hF2 h2 => ⟨h2, fun t ht => hF2 t (fun e => ht (List.mem_append_left _ e))⟩
    · exact h.elim
  | .block id b, Q, σ, w, a, hok, hc, hA, h => by
    unfold codeOk at hok
    unfold vc at h
    refine wpIn_block (wpIn_mono (vc_soundIn b _ σ w a hok (hc.imp (fun h => h) fun h => by unfold calm at h; exact h) hA h) fun e a1 w1 hl => ?_)
    cases e with
    | exit id' =>
      obtain ⟨σ1, hA1, hF1, h1⟩ := hl
      simp only [blockP] at h1
      simp only [Exit.inBlock]
      by_cases hid : id' = id
      · rw [if_pos hid]
        have : Nat.beq id' id = true := by rw [hid]; exact Nat.beq_refl id
        rw [this] at h1
        exact ⟨σ1, hA1, hF1, h1⟩
      · rw [if_neg hid]
        have : Nat.beq id' id = false := by rw [Bool.eq_false_iff]; intro e; exact hid (Nat.eq_of_beq_eq_true e)
        rw [this] at h1
        exact ⟨σ1, hA1, hF1, h1⟩
    | _ => exact hl
  | .loop b, Q, σ, w, a, hok, hc, hA, h => by
    unfold codeOk at hok
    unfold vc at h
    simp only [VLoop_eq] at h
    obtain ⟨I, ⟨m0, h0⟩, hr⟩ := h
    refine wpIn_loop_ghost (fun m a1 w1 => ∃ σ1, Agr n ds a1 σ1 ∧ Fr (writes b) σ1 σ ∧ I m σ1 w1) m0 ⟨σ, hA, Fr.refl _ _, h0⟩ fun m a1 w1 ⟨σ1, hA1, hF1, hI⟩ => ?_
    refine wpIn_mono (vc_soundIn b _ σ1 w1 a1 hok (hc.imp (fun h => h) fun h => by unfold calm at h; exact h) hA1 (hr m σ1 w1 hI)) fun e a2 w2 hl => ?_
    cases e with
    | normal =>
      obtain ⟨σ2, hA2, hF2, m', hm, hI'⟩ := hl
      exact ⟨m', hm, σ2, hA2, hF1.trans hF2 (fun t ht => ht) (fun t ht => ht), hI'⟩
    | panic _ => exact hl
    | outgrown => exact hl
    | exit _ => exact Lift.mono (Q' := Q) (D' := writes (.loop b)) (σ1 := σ) hl fun σ2 _ hF2 h2 => ⟨h2, hF1.trans hF2 (fun t ht => ht) (fun t ht => ht)⟩
    | goto _ => exact Lift.mono (Q' := Q) (D' := writes (.loop b)) (σ1 := σ) hl fun σ2 _ hF2 h2 => ⟨h2, hF1.trans hF2 (fun t ht => ht) (fun t ht => ht)⟩
    | ret => exact Lift.mono (Q' := Q) (D' := writes (.loop b)) (σ1 := σ) hl fun σ2 _ hF2 h2 => ⟨h2, hF1.trans hF2 (fun t ht => ht) (fun t ht => ht)⟩
  | .scope b, Q, σ, w, a, hok, hc, hA, h => by
    unfold codeOk at hok
    unfold vc at h
    rcases hc with rfl | hc
    · refine wpIn_wide.2 (wp_scope_straight (wp_mono (wpIn_wide.1 (vc_soundIn (ro := none) (m := m) b _ σ w a hok (.inl rfl) hA h)) fun e a1 w1 hl => ?_))
      cases e with
      | goto _ => obtain ⟨σ1, _, _, h1⟩ := hl; exact h1
      | _ => exact hl
    · cases hc
  | .rangeFunc .., Q, σ, w, a, hok, hc, hA, h => h.elim
  | .refuse _, Q, σ, w, a, hok, hc, hA, h => h.elim
theorem vc_sound {P : Program} {n : Nat} {ds : List Deferred} (c : Code) (Q : Post) (σ : Env) (w : World) (a : Act) (hok : codeOk n c = true) (hA : Agr n ds a σ) (h : vc P n c Q σ w) : c.wp P (Lift n ds Q (writes c) σ) a w :=
  wpIn_wide.1 (vc_soundIn (ro := none) (m := 0) c Q σ w a hok (.inl rfl) hA h)

end Go.Proofs.YtnjhdbgejhnpfaaDoor
end

section
namespace Go.Proofs.YtnjhdbgejhnpfaaDoor
set_option linter.unusedVariables false
open Go.RowKit Go.ChangeShapes Go.WideShapes Go.ChangeAt
open Go.ChangeMaps (open_string shut_string)

/-- bytes as cells -/
def bv (l : List UInt8) : List Value := l.map fun x => .int .u8 (x.toNat : Int)
/-- numbers as cells -/
def iv (k : IntKind) (l : List Int) : List Value := l.map (Value.int k)
/-- a text of bytes -/
def txt (l : List UInt8) : ByteArray := ⟨l.toArray⟩

theorem map_at {α : Type} {f : α → Value} {l : List α} {k : Nat} {u : Value} (h : (l.map f)[k]? = some u) : ∃ x, l[k]? = some x ∧ u = f x := by
  simp only [List.getElem?_map, Option.map_eq_some_iff] at h
  obtain ⟨x, h1, rfl⟩ := h
  exact ⟨x, h1, rfl⟩
theorem bv_length (l : List UInt8) : (bv l).length = l.length := by simp [bv]
theorem bv_append (l m : List UInt8) : bv (l ++ m) = bv l ++ bv m := by simp [bv]
theorem bv_take (l : List UInt8) (n : Nat) : bv (l.take n) = (bv l).take n := by simp [bv, List.map_take]
theorem bv_drop (l : List UInt8) (n : Nat) : bv (l.drop n) = (bv l).drop n := by simp [bv, List.map_drop]
theorem bv_at {l : List UInt8} {k : Nat} {u : Value} (h : (bv l)[k]? = some u) : ∃ x, l[k]? = some x ∧ u = .int .u8 (x.toNat : Int) := map_at h
theorem bv_one (l : List UInt8) : ∀ u ∈ bv l, u.oneCell' = true := by
  intro u hu
  obtain ⟨x, _, rfl⟩ := List.mem_map.1 hu
  rfl
theorem u64_not {s : Nat} (h : s < 18446744073709551616) : s ^^^ 18446744073709551615 = 18446744073709551615 - s := by
  have e := BitVec.toNat_not (x := BitVec.ofNat 64 s)
  have e2 := congrArg BitVec.toNat (BitVec.xor_allOnes (x := BitVec.ofNat 64 s))
  rw [e, BitVec.toNat_xor] at e2
  simp only [BitVec.toNat_ofNat, BitVec.toNat_allOnes] at e2
  rw [Nat.mod_eq_of_lt (by omega)] at e2
  simpa using e2
theorem u8_and127 (x : UInt8) : bits BinOp.and IntKind.u8 (x.toNat : Int) 127 = ((x.toNat % 128 : Nat) : Int) := by
  have hx := x.toNat_lt
  rw [show (127 : Int) = ((127 : Nat) : Int) from rfl, u8_and_nat _ _ (by omega) (by omega), nat_mask7]
theorem u64_or_add {q z i : Nat} (hq : q < 2 ^ i) (hz : z < 18446744073709551616) (hd : 2 ^ i ∣ z) (hs : q + z < 18446744073709551616) : bits BinOp.or IntKind.u64 (q : Int) (z : Int) = ((q + z : Nat) : Int) := by
  rw [u64_or_nat _ _ (by omega) hz]
  congr 1
  obtain ⟨m, rfl⟩ := hd
  rw [Nat.add_comm, Nat.or_comm]
  exact (Nat.two_pow_add_eq_or_of_lt hq m).symm
theorem i64_xor_zero (a : Nat) (ha : a < 9223372036854775808) : bits BinOp.xor IntKind.i64 (a : Int) 0 = (a : Int) := by
  show IntKind.i64.wrap ((BitVec.ofInt 64 (a : Int) ^^^ BitVec.ofInt 64 0).toNat : Int) = _
  rw [show BitVec.ofInt 64 0 = 0#64 from rfl, BitVec.xor_zero, ofInt_u64 a (by omega)]
  simp [IntKind.wrap, IntKind.bits, IntKind.signed]
  omega
theorem i64_xor_neg (a : Nat) (ha : a < 9223372036854775808) : bits BinOp.xor IntKind.i64 (a : Int) (-1) = -(a : Int) - 1 := by
  have h := i64_not a ha
  have e : bits BinOp.xor IntKind.i64 (a : Int) (-1) = bits BinOp.xor IntKind.i64 (-1) (a : Int) := by simp [bits, BitVec.xor_comm]
  rw [e, h]
  omega
theorem u8_or128 (q : Nat) : bits BinOp.or IntKind.u8 ((q : Int) % 256) 128 = ((q % 128 + 128 : Nat) : Int) := by
  rw [show ((q : Int) % 256) = ((q % 256 : Nat) : Int) from by omega, show (128 : Int) = ((128 : Nat) : Int) from rfl, u8_or_nat _ _ (by omega) (by omega)]
  have h : ∀ r : Fin 256, (r.val ||| 128) = r.val % 128 + 128 := by decide +kernel
  have h1 := h ⟨q % 256, by omega⟩
  simp only at h1
  rw [h1]
  omega
theorem take_snoc {α : Type} {l : List α} {k : Nat} {x : α} (h : l[k]? = some x) : l.take (k + 1) = l.take k ++ [x] := by
  rw [List.take_add_one, h]; rfl
theorem txt_size (l : List UInt8) : (txt l).size = l.length := by simp [txt, ByteArray.size]
theorem txt_list (l : List UInt8) : (txt l).data.toList = l := rfl
@[go_sem] theorem txt_toList (l : List UInt8) : (txt l).toList = l := ByteArray.toList_mk l
theorem txt_inj {l m : List UInt8} : txt l = txt m ↔ l = m := ⟨fun h => by have := congrArg (fun s => s.data.toList) h; exact this, fun h => by rw [h]⟩

/-- a slice of bytes that came in: its bytes, below the reach -/
def InBytes (w : World) (A : Option Addr) (n c : Nat) (l : List UInt8) : Prop :=
  Reads w w.heap.size 1 A n (bv l) ∧ n ≤ c ∧ c ≤ 140737488351232
theorem InBytes.len {w : World} {A : Option Addr} {n c : Nat} {l : List UInt8} (h : InBytes w A n c l) : l.length = n := by
  have := h.1.1; rw [bv_length] at this; omega

/-- a new block, marked or not, read from its head -/
theorem reads_new (w : World) (l : List UInt8) (e : TypeId) (m : Nat × Nat) (C : Array Value) (hC : C = (bv l).toArray) (n : Nat) (hn : l.length = n) :
    Reads (w.alloc (.cells C e m)) (w.heap.size + 1) 1 (some ⟨w.heap.size, 0, none⟩) n (bv l) := by
  subst hC
  refine ⟨by rw [bv_length]; omega, fun _ => ⟨_, rfl, by simp, fun j u hu => ?_⟩⟩
  rw [show (⟨w.heap.size, 0, none⟩ : Addr).add j = ⟨w.heap.size, j, none⟩ from by unfold Addr.add; split <;> simp_all]
  rw [cell_of_row (w.alloc (.cells (bv l).toArray e m)) w.heap.size j (bv l).toArray e m (heap_alloc_new w _)]
  simpa using hu

/-! ### string(b) -/
theorem strOfNums_bytes (l : List UInt8) : strOfNums (l.map fun x => (x.toNat : Int)) = txt l := by
  unfold strOfNums txt
  rw [List.map_map]
  congr 1
  conv => rhs; rw [← List.map_id l]
  congr 1
  apply List.map_congr_left
  intro x _
  simp
theorem run_string_of {P : Program} (w : World) {src e dst : TypeId} (hs : P.underlying src = some (.slice e)) (he : P.underlying e = some (.int .u8)) (hd : P.underlying dst = some .string)
    {B : Nat} {A : Option Addr} {n : Nat} (c : Nat) {l : List UInt8} (h : Reads w B 1 A n (bv l)) : (convert src dst (.slice A n c)).run P w = .ok (.string (txt l)) w := by
  rcases A with _ | ad
  · have hn : n = 0 := by
      rcases Nat.eq_zero_or_pos n with h0 | h0
      · exact h0
      · obtain ⟨ad, h', _⟩ := h.2 h0; cases h'
    have hl : l = [] := List.eq_nil_of_length_eq_zero (by have := h.1; rw [bv_length] at this; omega)
    subst hl
    exact run_convert_bytes_nil w src e hs he n c dst hd
  · have hl : (loadCells ad n).run P w = .ok ((l.map fun x => (x.toNat : Int)).map (Value.int .u8)).toArray w := by
      have hlen : (bv l).length = n := by have := h.1; omega
      have := run_loadCells_list (P := P) w ad (bv l) (fun j v hj => by
        have hj' : j < (bv l).length := (List.getElem?_eq_some_iff.1 hj).1
        obtain ⟨ad', e', _, hc⟩ := h.2 (by omega)
        injection e' with e'
        subst e'
        exact hc j v hj)
      rw [hlen] at this
      rw [this]
      simp [bv]
    rw [run_convert_bytes_string w src dst e _ n c hs he hd, run_bytesToString w _ n c _ hl, foldl_push_bytes, ← strOfNums_bytes]
    simp [strOfNums, ByteArray.empty, ByteArray.emptyWithCapacity]
    rfl

theorem ret_i64 {a b : Int} (h : a = b) : Ending.returned (.int .i64 a) = .returned (.int .i64 b) := by rw [h]

/-! ### bulk -/
/-! ### arguments -/
section
variable {H : Type} {enc : TypeId × Value → H} {P : Program}
theorem int_bounds {n : Int} (h : (Lit.int .i64 n).wf = true) : -9223372036854775808 ≤ n ∧ n ≤ 9223372036854775807 := by
  simpa [Lit.wf, IntKind.min, IntKind.max, IntKind.signed, IntKind.bits] using h
theorem u8_nat {n : Int} (h : (Lit.int .u8 n).wf = true) : ∃ m : UInt8, n = (m.toNat : Int) := by
  have h' : 0 ≤ n ∧ n ≤ 255 := by simpa [Lit.wf, IntKind.min, IntKind.max, IntKind.signed, IntKind.bits] using h
  refine ⟨UInt8.ofNat n.toNat, ?_⟩
  rw [UInt8.toNat_ofNat']
  omega
theorem add_block (a : Addr) (i : Nat) : (a.add i).block = a.block := block_of_add a i

end
end Go.Proofs.YtnjhdbgejhnpfaaDoor
end

section
set_option maxRecDepth 10000
namespace Go.Proofs.YtnjhdbgejhnpfaaDoor
set_option linter.unusedVariables false
open Go.RowKit

theorem u8_info : (Tryd.prog.info? 5).map (fun i => (i.zero, i.size, i.bytes)) = some (some (.int .u8 0), 1, 1) := by kernel_rfl

/-- an owned row of bytes -/
def Own (w : World) (B : Nat) (v : Value) (n : Nat) (l : List UInt8) : Prop := w.ownsRow B 5 1 v n (bv l)
theorem Own.form {w : World} {B : Nat} {v : Value} {n : Nat} {l : List UInt8} (h : Own w B v n l) : ∃ A c, v = .slice A n c := by
  rcases h.2 with ⟨rfl, rfl⟩ | ⟨g, cap, cur, rfl, _⟩
  · exact ⟨_, _, rfl⟩
  · exact ⟨_, _, rfl⟩
theorem Own.len {w : World} {B : Nat} {v : Value} {n : Nat} {l : List UInt8} (h : Own w B v n l) : l.length = n := by
  have := h.1; rw [bv_length] at this; omega
theorem Own.nil (w : World) (B : Nat) : Own w B (.slice none 0 0) 0 [] := World.ownsRow_nil w B _ _
theorem Own.reads {w : World} {B : Nat} {A : Option Addr} {n c : Nat} {l : List UInt8} (h : Own w B (.slice A n c) n l) : Reads w w.heap.size 1 A n (bv l) := Reads.of_own h
theorem Own.alloc {w : World} {B : Nat} {v : Value} {n : Nat} {l : List UInt8} (h : Own w B v n l) (o : Obj) : Own (w.alloc o) B v n l := World.ownsRow.alloc h o
theorem Own.more {w : World} {B B' : Nat} {v : Value} {n : Nat} {l : List UInt8} (h : Own w B v n l) (hB : B' ≤ B) : Own w B' v n l := by
  refine ⟨h.1, ?_⟩
  rcases h.2 with h0 | ⟨g, cap, cur, hv, hb, r⟩
  · exact .inl h0
  · exact .inr ⟨g, cap, cur, hv, by omega, r⟩
/-- kept while whatever it owns is untouched -/
theorem Own.below {w w' : World} {B C : Nat} {v : Value} {n : Nat} {l : List UInt8} (h : Own w B v n l) (hb : Below C w w') (hC : w.heap.size ≤ C) : Own w' B v n l := by
  refine ⟨h.1, ?_⟩
  rcases h.2 with h0 | ⟨g, cap, cur, hv, hbg, hg, r⟩
  · exact .inl h0
  · exact .inr ⟨g, cap, cur, hv, hbg, by rw [hb.block g (by have := (Array.getElem?_eq_some_iff.1 hg).1; omega)]; exact hg, r⟩

/-- 'append(b, x...)': b owned, x readable -/
theorem app_bytes {ops : Array Oper} {rest : List Oper} {o : Oper} {a : Act} {Q : Exit → Act → World → Prop} (w : World) (hgd : o.guard = none) (s x : Operand)
    (ho : o.op = .call { callee := .builtin .append, args := #[s, x], argTypes := #[35, 35] })
    (B : Nat) (v : Value) (n : Nat) (l : List UInt8) (hs : a.eval s = v) (hown : Own w B v n l)
    (C : Nat) (A : Option Addr) (m c : Nat) (news : List UInt8) (hx : a.eval x = .slice A m c) (hr : Reads w C 1 A m (bv news))
    (hbytes : n + m ≤ 140737488355328) (hbase : B ≤ w.heap.size)
    (h : ∀ A' c' w', Own w' B (.slice A' (n + m) c') (n + m) (l ++ news) → w.grownBy w' v.ownBlock → ((Value.slice A' (n + m) c').ownBlock = v.ownBlock ∨ (Value.slice A' (n + m) c').ownBlock = some w.heap.size) →
      wpList Tryd.prog ops Q rest (a.put o.dst (.slice A' (n + m) c')) w') : wpList Tryd.prog ops Q (o :: rest) a w := by
  obtain ⟨i0, hi0, hz0, hz1, hz2⟩ := info_parts u8_info
  refine wpList_append_any w hgd s x 35 ho B 5 i0 _ 1 1 Tryd.underlying35 hi0 hz0 hz1 hz2 rfl (by omega) v n (bv l) hs hown C A m c (bv news) hx hr (bv_one _)
    (by simp only [maxLen]; omega) (by omega) hbase ?_
  intro v' w' hown' hg hat
  have hO : Own w' B v' (n + m) (l ++ news) := by unfold Own; rw [bv_append]; exact hown'
  obtain ⟨A', c', rfl⟩ := hO.form
  exact h A' c' w' hO hg hat
/-- 'append([]byte(nil), x...)' -/
theorem app_copy {ops : Array Oper} {rest : List Oper} {o : Oper} {a : Act} {Q : Exit → Act → World → Prop} (w : World) (hgd : o.guard = none) (x : Operand)
    (ho : o.op = .call { callee := .builtin .append, args := #[.const (.slice none 0 0), x], argTypes := #[35, 35] })
    (C : Nat) (A : Option Addr) (m c : Nat) (news : List UInt8) (hx : a.eval x = .slice A m c) (hr : Reads w C 1 A m (bv news)) (hbytes : m ≤ 140737488355328)
    (h : ∀ A' c' w', Own w' w.heap.size (.slice A' m c') m news → Below w.heap.size w w' → wpList Tryd.prog ops Q rest (a.put o.dst (.slice A' m c')) w') : wpList Tryd.prog ops Q (o :: rest) a w := by
  refine app_bytes w hgd _ x ho w.heap.size (.slice none 0 0) 0 [] rfl (Own.nil _ _) C A m c news hx hr (by omega) (Nat.le_refl _) ?_
  intro A' c' w' hO hg _
  rw [Nat.zero_add] at hO ⊢
  exact h A' c' w' hO ((Below.refl _ _).grown hg (Nat.le_refl _) (by simp [Value.ownBlock]))

/-- what 'append' may be called on without writing old memory: a row of the call's own, or a slice that came in and has no room -/
def AppB (w : World) (B : Nat) (v : Value) (n : Nat) (l : List UInt8) : Prop :=
  Own w B v n l ∨ ∃ A, v = .slice A n n ∧ Reads w B 1 A n (bv l) ∧ (A = none → n = 0)
theorem AppB.len {w : World} {B : Nat} {v : Value} {n : Nat} {l : List UInt8} (h : AppB w B v n l) : l.length = n := by
  rcases h with h | ⟨A, _, h, _⟩
  · exact h.len
  · have := h.1; rw [bv_length] at this; omega
theorem AppB.form {w : World} {B : Nat} {v : Value} {n : Nat} {l : List UInt8} (h : AppB w B v n l) : ∃ A c, v = .slice A n c ∧ n ≤ c ∧ (A = none → n = 0) := by
  rcases h with h | ⟨A, rfl, _, hn⟩
  · rcases h.2 with ⟨rfl, rfl⟩ | ⟨g, cap, cur, rfl, _, _, hnc, _⟩
    · exact ⟨_, _, rfl, Nat.le_refl _, fun _ => rfl⟩
    · exact ⟨_, _, rfl, hnc, fun h => by cases h⟩
  · exact ⟨_, _, rfl, Nat.le_refl _, hn⟩
theorem AppB.alloc {w : World} {B : Nat} {v : Value} {n : Nat} {l : List UInt8} (h : AppB w B v n l) (hB : B ≤ w.heap.size) (o : Obj) : AppB (w.alloc o) B v n l := by
  rcases h with h | ⟨A, rfl, hr, hn⟩
  · exact .inl (h.alloc o)
  · exact .inr ⟨A, rfl, hr.alloc hB o, hn⟩
theorem AppB.reads {w : World} {B : Nat} {A : Option Addr} {n c : Nat} {l : List UInt8} (h : AppB w B (.slice A n c) n l) (hB : B ≤ w.heap.size) : Reads w w.heap.size 1 A n (bv l) := by
  rcases h with h | ⟨A', e, hr, hn⟩
  · exact h.reads
  · injection e with e1 e2 e3
    subst e1
    exact hr.more hB
/-- 'append(b, x...)', x in a block, not empty: what comes out is the call's own -/
theorem app_grow {ops : Array Oper} {rest : List Oper} {o : Oper} {a : Act} {Q : Exit → Act → World → Prop} (w : World) (hgd : o.guard = none) (s x : Operand)
    (ho : o.op = .call { callee := .builtin .append, args := #[s, x], argTypes := #[35, 35] })
    (B : Nat) (v : Value) (n : Nat) (l : List UInt8) (hs : a.eval s = v) (hd : AppB w B v n l)
    (C : Nat) (ad : Addr) (m c : Nat) (news : List UInt8) (hx : a.eval x = .slice (some ad) m c) (hr : Reads w C 1 (some ad) m (bv news)) (hm : 1 ≤ m)
    (hbytes : n + m ≤ 140737488355328) (hbase : B ≤ w.heap.size)
    (h : ∀ A' c' w', Own w' B (.slice A' (n + m) c') (n + m) (l ++ news) → Below B w w' → wpList Tryd.prog ops Q rest (a.put o.dst (.slice A' (n + m) c')) w') : wpList Tryd.prog ops Q (o :: rest) a w := by
  rcases hd with hown | ⟨A, rfl, hra, hnil⟩
  · refine app_bytes w hgd s x ho B v n l hs hown C (some ad) m c news hx hr hbytes hbase ?_
    intro A' c' w' hO hg _
    refine h A' c' w' hO ((Below.refl _ _).grown hg hbase fun k hk => ?_)
    exact (World.ownsRow.lt hown k hk).1
  · obtain ⟨i0, hi0, hz0, hz1, hz2⟩ := info_parts u8_info
    refine wpList_append_grows w hgd s x 35 ho 5 i0 _ 1 1 Tryd.underlying35 hi0 hz0 hz1 hz2 rfl (by omega) A n n (bv l) hs (fun e => ⟨hnil e, hnil e⟩) hra.1
      (fun b e j u hu => ?_) ad m c (bv news) hx hr.1 (fun j u hu => ?_) (bv_one _) (by omega) (by simp only [maxLen]; omega) (by omega) ?_
    · have hn : 0 < n := by
        have h1 := (List.getElem?_eq_some_iff.1 hu).1
        have h2 := hra.1
        omega
      obtain ⟨ad', e', _, hc⟩ := hra.2 hn
      rw [e] at e'
      injection e' with e'
      subst e'
      exact hc j u hu
    · obtain ⟨ad', e', _, hc⟩ := hr.2 (by omega)
      injection e' with e'
      subst e'
      exact hc j u hu
    · intro v' w' hown' hg
      have hO : Own w' w.heap.size v' (n + m) (l ++ news) := by unfold Own; rw [bv_append]; exact hown'
      obtain ⟨A', c', rfl⟩ := hO.form
      exact h A' c' w' (hO.more hbase) ((Below.refl _ _).grown hg hbase (by simp))
/-- 'append(b, s...)', b owned, s a text -/
theorem app_text {ops : Array Oper} {rest : List Oper} {o : Oper} {a : Act} {Q : Exit → Act → World → Prop} (w : World) (hgd : o.guard = none) (s x : Operand)
    (ho : o.op = .call { callee := .builtin .append, args := #[s, x], argTypes := #[35, 9] })
    (B : Nat) (v : Value) (n : Nat) (l : List UInt8) (hs : a.eval s = v) (hown : Own w B v n l)
    (t : ByteArray) (hx : a.eval x = .string t) (hbytes : n + t.size ≤ 140737488355328) (hbase : B ≤ w.heap.size)
    (h : ∀ A' c' w', Own w' B (.slice A' (n + t.size) c') (n + t.size) (l ++ t.data.toList) → Below B w w' → wpList Tryd.prog ops Q rest (a.put o.dst (.slice A' (n + t.size) c')) w') : wpList Tryd.prog ops Q (o :: rest) a w := by
  obtain ⟨i0, hi0, hz0, hz1, hz2⟩ := info_parts u8_info
  refine Lib.wpList_append_own_string w hgd s x 35 9 ho B 5 i0 Tryd.underlying35 Tryd.underlying9 hi0 hz0 hz1 hz2 v n (bv l) hs hown t hx
    (by simp only [maxLen]; omega) hbytes hbase ?_
  intro v' w' hown' hg _
  have hO : Own w' B v' (n + t.size) (l ++ t.data.toList) := by unfold Own; rw [bv_append]; exact hown'
  obtain ⟨A', c', rfl⟩ := hO.form
  exact h A' c' w' hO ((Below.refl _ _).grown hg hbase fun k hk => (World.ownsRow.lt hown k hk).1)

/-! ### making and storing -/
def zeros (n : Nat) : Array Value := madeCells #[.int .u8 0] n
theorem zeros_list (n : Nat) : (zeros n).toList = bv (List.replicate n 0) := by
  unfold zeros
  rw [toList_madeCells_one]
  simp [bv]
theorem Own.made (w : World) (n : Nat) (hn : n ≤ 281474976710656) : Own (w.alloc (.cells (zeros n) 5)) w.heap.size (.slice (some ⟨w.heap.size, 0, none⟩) n n) n (List.replicate n 0) := by
  unfold Own
  rw [← zeros_list]
  exact World.ownsRow_lit w (zeros n) n (Nat.le_refl _) (by simp only [maxLen]; omega) (by unfold zeros; rw [size_madeCells]; omega)
theorem Own.at_ {w : World} {B g n c : Nat} {l : List UInt8} (h : Own w B (.slice (some ⟨g, 0, none⟩) n c) n l) {j : Nat} {x : UInt8} (hj : l[j]? = some x) :
    w.cell? ⟨g, j, none⟩ = some (.int .u8 (x.toNat : Int)) ∧ w.frozen? ⟨g, j, none⟩ = false := by
  have hl := h.len
  have hlt : j < n := by have := (List.getElem?_eq_some_iff.1 hj).1; omega
  refine ⟨?_, World.ownsRow.frozenAt h j⟩
  rw [World.ownsRow.cellAt h j (by omega)]
  simp [bv, hj]
theorem Own.set {w : World} {B g n c : Nat} {l : List UInt8} (h : Own w B (.slice (some ⟨g, 0, none⟩) n c) n l) (j : Nat) (y : UInt8) :
    Own (w.setCell ⟨g, j, none⟩ (.int .u8 (y.toNat : Int))) B (.slice (some ⟨g, 0, none⟩) n c) n (l.set j y) := by
  have h1 := (World.ownsRow.stored h j (.int .u8 (y.toNat : Int))).1
  unfold Own
  rw [show bv (l.set j y) = (bv l).set j (.int .u8 (y.toNat : Int)) from by simp [bv, List.map_set]]
  exact h1
theorem Own.drew {w : World} {B : Nat} {v : Value} {n : Nat} {l : List UInt8} (h : Own w B v n l) : Own w.drew B v n l := h.below (C := w.heap.size) ((Below.refl _ _).drew) (Nat.le_refl _)

/-! ### cutting bytes -/
/-- the head's address behind a cut at k -/
def cutA (A : Option Addr) (c k : Nat) : Option Addr := if c = k then A else A.map (·.add k)
theorem cutA_zero (A : Option Addr) (c : Nat) : cutA A c 0 = A := by
  unfold cutA
  split
  · rfl
  · cases A <;> simp [Addr.add]
theorem Reads.cutA {w : World} {B n c k : Nat} {A : Option Addr} {l : List UInt8} (h : Reads w B 1 A n (bv l)) (hk : k ≤ n) (hc : n ≤ c) : Reads w B 1 (cutA A c k) (n - k) (bv (l.drop k)) := by
  have := Reads.cut h hk hc
  simp only [Nat.mul_one] at this
  rw [bv_drop]
  exact this
theorem Reads.take {w : World} {B n k : Nat} {A : Option Addr} {l : List UInt8} (h : Reads w B 1 A n (bv l)) (hk : k ≤ n) : Reads w B 1 A k (bv (l.take k)) := by
  refine ⟨by rw [bv_take]; have := h.1; simp; omega, fun hk0 => ?_⟩
  obtain ⟨ad, rfl, hb, hc⟩ := h.2 (by omega)
  refine ⟨ad, rfl, hb, fun j u hu => ?_⟩
  rw [bv_take, List.getElem?_take] at hu
  split at hu
  · exact hc j u hu
  · cases hu
theorem slice_lh (w : World) (A : Option Addr) (n c k m : Nat) (hk : k ≤ m) (hm : m ≤ c) :
    (Instr.slice 35 (.slice A n c) (some (.int .i64 (k : Int))) (some (.int .i64 (m : Int))) none).run Tryd.prog w = .ok (.slice (cutA A c k) (m - k) (c - k)) w := by
  rw [run_slice_lh w 35 A n c (by kernel_rfl) .i64 .i64 k m (by omega) (by omega) (by omega)]
  rw [show (sizeOf (Tryd.prog.elem 35)).run Tryd.prog w = .ok 1 w from by kernel_rfl]
  simp [Result.andThen, sliced, cutA]
end Go.Proofs.YtnjhdbgejhnpfaaDoor
end

section
namespace Go.Proofs.YtnjhdbgejhnpfaaDoor
set_option linter.unusedVariables false
open Go.RowKit

/-! ### walking by words: what the kernel need not unfold -/
structure VC (P : Program) (n : Nat) (c : Code) (Q : Post) (σ : Env) (w : World) : Prop where
  out : vc P n c Q σ w
structure VL (P : Program) (ops : List Oper) (K : Env → World → Prop) (l : List Oper) (σ : Env) (w : World) : Prop where
  out : vlist P ops K l σ w
theorem VC_fun (P : Program) (n : Nat) (c : Code) : VC P n c = vc P n c := by funext Q σ w; exact propext ⟨fun h => h.out, fun h => ⟨h⟩⟩
theorem VL_fun (P : Program) (ops : List Oper) (K : Env → World → Prop) (l : List Oper) : VL P ops K l = vlist P ops K l := by funext σ w; exact propext ⟨fun h => h.out, fun h => ⟨h⟩⟩
def vcond (v : Value) (k : Bool → Prop) : Prop := match v with | .bool b => VBool b k | _ => False
section
variable {P : Program} {n : Nat} {Q : Post} {σ : Env} {w : World}
theorem VL.nil {ops : List Oper} {K : Env → World → Prop} (h : K σ w) : VL P ops K [] σ w := ⟨h⟩
theorem VL.cons {ops r : List Oper} {K : Env → World → Prop} {o : Oper} (h : vguard ops σ o.guard (fun σ => vop P true (ev σ) o.op o.type w (fun v w' => VL P ops K r (putE σ o.dst v) w')) (fun σ => VL P ops K r (putE σ o.dst undef) w)) : VL P ops K (o :: r) σ w := by
  rw [VL_fun] at h
  exact ⟨h⟩
theorem VC.seq {a b : Code} (h : VC P n a (thenP (VC P n b Q) Q) σ w) : VC P n (.seq a b) Q σ w := by
  rw [VC_fun, VC_fun] at h
  refine ⟨?_⟩
  unfold vc
  cases big a
  · exact h
  · exact ⟨h⟩
theorem VC.seqS {a b : Code} (hb : big a = false) (h : VC P n a (thenP (VC P n b Q) Q) σ w) : VC P n (.seq a b) Q σ w := .seq h
theorem VC.region {id : Nat} {ops : Array Oper} (h : VL P ops.toList (Q .normal) ops.toList σ w) : VC P n (.region id ops false) Q σ w := ⟨h.out⟩
theorem VC.draw {id : Nat} {ops : Array Oper} (h : VDraw P n ops.toList Q σ w) : VC P n (.region id ops true) Q σ w := ⟨h⟩
theorem VC.cond {c : Operand} {x y : Code} (h : vcond (ev σ c) (fun b' => bif b' then VC P n x Q (learn σ c b') w else VC P n y Q (learn σ c b') w)) : VC P n (.cond c x y) Q σ w := by
  rw [VC_fun, VC_fun] at h
  exact ⟨h⟩
theorem VC.block {id : Nat} {b : Code} (h : VC P n b (blockP id Q) σ w) : VC P n (.block id b) Q σ w := ⟨h.out⟩
theorem VC.exit {id : Nat} (h : Q (.exit id) σ w) : VC P n (.exit id) Q σ w := ⟨h⟩
theorem VC.goto {l : Nat} (h : Q (.goto l) σ w) : VC P n (.goto l) Q σ w := ⟨h⟩
theorem VC.ret (h : Q .ret σ w) : VC P n .ret Q σ w := ⟨h⟩
theorem VC.skip (h : Q .normal σ w) : VC P n .skip Q σ w := ⟨h⟩
theorem VC.scope {b : Code} (h : VC P n b (noGotoP Q) σ w) : VC P n (.scope b) Q σ w := ⟨h.out⟩
theorem VC.label {l : Nat} (h : Q .normal σ w) : VC P n (.label l) Q σ w := ⟨h⟩
end

/-! ### entering and leaving -/
def resE (rs : List ResultVar) (σ : Env) : Sem Value := do
  let vs ← rs.toArray.mapM fun
    | .tmp t => pure (σ t)
    | .cell a t => do loadVar t (← asAddr (σ a))
  pure (if h : vs.size = 1 then vs[0] else .tuple vs)
structure VRes (P : Program) (rs : List ResultVar) (σ : Env) (w : World) (R : Ending → World → Prop) : Prop where
  out : ∃ v, (resE rs σ).run P w = .ok v w ∧ R (.returned v) w
theorem VRes_eq {P : Program} {rs : List ResultVar} {σ : Env} {w : World} {R : Ending → World → Prop} : VRes P rs σ w R = (∃ v, (resE rs σ).run P w = .ok v w ∧ R (.returned v) w) := propext ⟨fun h => h.out, fun h => ⟨h⟩⟩
def vres (P : Program) (rs : List ResultVar) (σ : Env) (w : World) (R : Ending → World → Prop) : Prop :=
  match rs with
  | [] => R (.returned (.tuple #[])) w
  | [.tmp t] => R (.returned (σ t)) w
  | [.tmp t, .tmp u] => R (.returned (.tuple #[σ t, σ u])) w
  | [.tmp t, .tmp u, .tmp v] => R (.returned (.tuple #[σ t, σ u, σ v])) w
  | rs => VRes P rs σ w R
def retP (P : Program) (rs : List ResultVar) (R : Ending → World → Prop) : Post := fun e σ w => match e with
  | .normal | .ret => vres P rs σ w R
  | _ => False
theorem resE_run {P : Program} {n : Nat} {ds : List Deferred} {a : Act} {σ : Env} (hA : Agr n ds a σ) (fn : Func) : results fn a.tmps = resE fn.results.toList σ := by
  unfold results resE
  simp only [hA.val, Array.toArray_toList]
  rfl
theorem vres_out {P : Program} {rs : List ResultVar} {σ : Env} {w : World} {R : Ending → World → Prop} (h : vres P rs σ w R) : ∃ v, (resE rs σ).run P w = .ok v w ∧ R (.returned v) w := by
  unfold vres at h
  split at h
  · exact ⟨_, by simp [resE], h⟩
  · exact ⟨_, by simp [resE], h⟩
  · exact ⟨_, by simp [resE], h⟩
  · exact ⟨_, by simp [resE], h⟩
  · simp only [VRes_eq] at h; exact h
theorem envOf_get : ∀ (l : List Value) (t : Nat), envOf l t = (l[t]?).getD undef
  | [], t => by simp [envOf]
  | v :: r, 0 => by simp [envOf]
  | v :: r, t + 1 => by simp [envOf, envOf_get r t]
theorem Agr.enter (n : Nat) (args : List Value) (h : args.length ≤ n) : Agr n [] { tmps := args.toArray ++ Array.replicate (n - args.toArray.size) undef, defers := [] } (envOf args) := by
  refine ⟨by simp; omega, fun t => ?_, rfl⟩
  rw [envOf_get, Array.getD_eq_getD_getElem?]
  by_cases ht : t < args.length
  · rw [Array.getElem?_append_left (by simpa using ht)]; simp
  · rw [Array.getElem?_append_right (by simpa using ht), List.getElem?_eq_none (by omega)]
    by_cases h2 : t - args.toArray.size < n - args.toArray.size
    · rw [Array.getElem?_eq_getElem (by simpa using h2)]; simp
    · rw [Array.getElem?_eq_none (by simpa using h2)]
theorem calls_vc {P : Program} {f : FuncId} {fn : Func} {c : Code} {args : List Value} {w : World} {R : Ending → World → Prop} (hf : P.funcs[f]? = some fn) (hb : fn.body = some c)
    (hok : (codeOk fn.ntmps c && Nat.ble args.length fn.ntmps) = true) (h : VC P fn.ntmps c (retP P fn.results.toList R) (envOf args) w) : Calls P f args.toArray w R := by
  simp only [Bool.and_eq_true] at hok
  refine calls_of_wp hf hb (wp_mono (vc_sound c _ _ _ _ hok.1 (Agr.enter _ args (Nat.le_of_ble_eq_true hok.2)) h.out) fun e a' w' hl => ?_)
  unfold Lift at hl
  cases e <;> simp only at hl
  all_goals first
    | exact hl.elim
    | (obtain ⟨σ, hA, _, hr⟩ := hl
       first
         | exact hr.elim
         | (obtain ⟨v, h1, h2⟩ := vres_out hr
            exact ⟨hA.defers, v, by rw [resE_run (P := P) hA]; exact h1, h2⟩))

/-! ### cuts and loops -/
/-- a slot lies in one of these ranges -/
def memb (t : Nat) : List (Nat × Nat) → Bool
  | [] => false
  | d :: r => bif Nat.ble d.1 t then (bif Nat.ble t d.2 then true else memb t r) else memb t r
def hav (D : List (Nat × Nat)) (τ σ : Env) : Env := fun t => bif memb t D then τ t else σ t
def setAll : List Nat → List Value → Env → Env
  | d :: ds, v :: vs, σ => setE (setAll ds vs σ) d v
  | _, _, σ => σ
def FrR (D : List (Nat × Nat)) (σ' σ : Env) : Prop := ∀ t, memb t D = false → σ' t = σ t
theorem hav_fr {D : List (Nat × Nat)} {σ' σ : Env} (h : FrR D σ' σ) : hav D σ' σ = σ' := by
  funext t
  unfold hav
  cases hm : memb t D
  · exact (h t hm).symm
  · rfl
theorem setAll_self (σ : Env) : ∀ (ds : List Nat), setAll ds (ds.map σ) σ = σ
  | [] => rfl
  | d :: ds => by simp only [List.map_cons, setAll, setAll_self σ ds]; exact setE_id rfl
def inB (l : List Nat) (D : List (Nat × Nat)) : Bool := l.all fun t => memb t D
theorem Fr.sub {D : List Nat} {D' : List (Nat × Nat)} {σ' σ : Env} (h : Fr D σ' σ) (hD : inB D D' = true) : FrR D' σ' σ := fun t ht => h t (fun e => by have := List.all_eq_true.1 hD t e; rw [ht] at this; cases this)
theorem VC.cut {P : Program} {n : Nat} {a b : Code} {Q : Post} {σ : Env} {w : World} (slots : List Nat) (D : List (Nat × Nat)) (J : List Value → World → Prop) (hD : inB (writes a) D = true)
    (h1 : VC P n a (thenP (fun σ' w' => J (slots.map σ') w') Q) σ w) (h2 : ∀ τ vs w', J vs w' → VC P n b Q (setAll slots vs (hav D τ σ)) w') : VC P n (.seq a b) Q σ w := by
  refine .seq ⟨vc_mf a _ _ σ w h1.out fun e σ' w' hq hF => ?_⟩
  cases e with
  | normal =>
    have := h2 σ' (slots.map σ') w' hq
    rwa [hav_fr (hF.sub hD), setAll_self] at this
  | _ => exact hq
theorem VC.loop {P : Program} {n : Nat} {b : Code} {Q : Post} {σ : Env} {w : World} (slots : List Nat) (D : List (Nat × Nat)) (I : Nat → List Value → World → Prop) (hD : inB (writes b) D = true) (h0 : ∃ m, I m (slots.map σ) w)
    (hr : ∀ m τ vs w1, I m vs w1 → VC P n b (thenP (fun σ' w' => ∃ m', m' < m ∧ I m' (slots.map σ') w') Q) (setAll slots vs (hav D τ σ)) w1) : VC P n (.loop b) Q σ w := by
  refine ⟨⟨fun m σ1 w1 => I m (slots.map σ1) w1 ∧ FrR D σ1 σ, ⟨h0.choose, h0.choose_spec, fun _ _ => rfl⟩, fun m σ1 w1 ⟨hI, hF⟩ => ?_⟩⟩
  have h := hr m σ1 (slots.map σ1) w1 hI
  rw [hav_fr hF, setAll_self] at h
  refine vc_mf b _ _ σ1 w1 h.out fun e σ2 w2 hq hF2 => ?_
  cases e with
  | normal => obtain ⟨m', h1, h2⟩ := hq; exact ⟨m', h1, h2, fun t ht => by rw [hF2.sub hD t ht, hF t ht]⟩
  | _ => exact hq

/-! ### draws -/
def nthOp : List Oper → Nat → Option Oper
  | [], _ => none
  | o :: _, 0 => some o
  | _ :: r, j + 1 => nthOp r j
theorem nthOp_eq : ∀ (l : List Oper) (j : Nat), nthOp l j = l[j]?
  | [], j => by simp [nthOp]
  | o :: r, 0 => by simp [nthOp]
  | o :: r, j + 1 => by simp [nthOp, nthOp_eq r j]
def picks (ops : List Oper) : List Nat → List Oper
  | [] => []
  | i :: r => match nthOp ops i with | some o => o :: picks ops r | none => picks ops r
def vquiet (P : Program) (S : World → Prop) (ops : List Oper) (K : Env → Prop) : List Oper → Env → Prop
  | [], σ => K σ
  | o :: r, σ => vguard ops σ o.guard (fun σ => vread P S (ev σ) o.op o.type (fun v => vquiet P S ops K r (putE σ o.dst v))) (fun σ => vquiet P S ops K r (putE σ o.dst undef))
/-- the condition on the world, shown anew -/
structure Keep (S : World → Prop) (w : World) (p : Prop) : Prop where
  keep : S w
  rest : p
def vone (P : Program) (S : World → Prop) (ops : List Oper) (K : Env → World → Prop) (o : Option Oper) (σ : Env) (w : World) : Prop := match o with
  | none => False
  | some o => vguard ops σ o.guard (fun σ => vop P false (ev σ) o.op o.type w (fun v w2 => Keep S w2 (K (putE σ o.dst v) w2))) (fun σ => K (putE σ o.dst undef) w)
def vseg (P : Program) (S : World → Prop) (ops : List Oper) (K : Env → World → Prop) : List (List Nat × Nat) → List Nat → Env → World → Prop
  | [], last, σ, w => vquiet P S ops (fun σ' => K σ' w) (picks ops last) σ
  | (l, c) :: r, last, σ, w => vquiet P S ops (fun σ' => vone P S ops (fun σ2 w2 => vseg P S ops K r last σ2 w2) (nthOp ops c) σ' w) (picks ops l) σ
section
variable (md : Region.Mode) (ops : Array Oper)
def takeC : List Nat → Array Bool → Option (Array Bool)
  | [], L => some L
  | i :: r, L => if Region.free md ops L i && (Region.ready md ops L).contains i && (ops[i]?).isSome then takeC r (L.setIfInBounds i true) else none
def segC : List (List Nat × Nat) → List Nat → Array Bool → Bool
  | [], last, L => match takeC md ops last L with | some L' => (Region.ready md ops L').isEmpty | none => false
  | (l, c) :: rest, last, L => match takeC md ops l L with | some L' => Region.ready md ops L' == [c] && (ops[c]?).isSome && segC rest last (L'.setIfInBounds c true) | none => false
def segLn : List (List Nat × Nat) → List Nat → Nat
  | [], last => last.length
  | (l, _) :: rest, last => l.length + 1 + segLn rest last
end
theorem quiet_take {P : Program} {n : Nat} {ds : List Deferred} {ops : List Oper} {md : Region.Mode} {Q : Exit → Act → World → Prop} {S : World → Prop} {D : List Nat} {σ0 : Env} (hdst : ∀ o ∈ ops, ∀ t, o.dst = some t → t < n ∧ t ∈ D) (hs : Region.noSelect ops.toArray = true)
    (hQ : ∀ c a a' w, Q (.panic c) a w → Q (.panic c) a' w) {w : World} (hS : S w) {K : Env → Prop} {L' : Array Bool} {fuel : Nat} (hR : ∀ a σ, Agr n ds a σ → Fr D σ σ0 → K σ → wpAnyH P md ops.toArray Q S fuel L' a w) :
    ∀ (l : List Nat) (L : Array Bool) (a : Act) (σ : Env), takeC md ops.toArray l L = some L' → Agr n ds a σ → Fr D σ σ0 → vquiet P S ops K (picks ops l) σ → wpAnyH P md ops.toArray Q S (fuel + l.length) L a w
  | [], L, a, σ, hB, hA, hF, h => by
    simp only [takeC, Option.some.injEq] at hB
    subst hB
    exact hR a σ hA hF h
  | i :: r, L, a, σ, hB, hA, hF, h => by
    unfold takeC at hB
    split at hB
    · rename_i hc
      simp only [Bool.and_eq_true] at hc
      obtain ⟨⟨h1, h2⟩, h3⟩ := hc
      cases ho : ops[i]? with
      | none => simp [ho] at h3
      | some o =>
        unfold picks at h
        rw [nthOp_eq, ho] at h
        simp only [vquiet] at h
        have hm : o ∈ ops := List.mem_of_getElem? ho
        rw [show fuel + (i :: r).length = (fuel + r.length) + 1 from by simp; omega]
        have ho' : ops.toArray[i]? = some o := by simpa using ho
        rcases vguard_sound hA h with ⟨k1, k2⟩ | ⟨k1, k2⟩
        · obtain ⟨v, v1, v2⟩ := vread_sound k2
          refine wpAnyH_take ho' hs h1 h2 (fun c a w => hQ c _ _ w) (.inl ⟨k1, fun W hW => ?_⟩) hS (quiet_take hdst hs hQ hS hR r _ _ _ hB (hA.put (fun t ht => (hdst o hm t ht).1) v) (hF.put (fun t ht => (hdst o hm t ht).2) v) v2)
          rw [hA.eval]
          exact v1 W hW
        · exact wpAnyH_take ho' hs h1 h2 (fun c a w => hQ c _ _ w) (.inr ⟨k1, rfl⟩) hS (quiet_take hdst hs hQ hS hR r _ _ _ hB (hA.put (fun t ht => (hdst o hm t ht).1) undef) (hF.put (fun t ht => (hdst o hm t ht).2) undef) k2)
    · cases hB
theorem seg_sound {P : Program} {n : Nat} {ds : List Deferred} {ops : List Oper} {md : Region.Mode} {Q : Exit → Act → World → Prop} {S : World → Prop} {K : Env → World → Prop} {D : List Nat} {σ0 : Env} (hdst : ∀ o ∈ ops, ∀ t, o.dst = some t → t < n ∧ t ∈ D) (hs : Region.noSelect ops.toArray = true)
    (hQ : ∀ c a a' w, Q (.panic c) a w → Q (.panic c) a' w) (hK : ∀ a σ w, Agr n ds a σ → Fr D σ σ0 → K σ w → Q .normal a w) :
    ∀ (segs : List (List Nat × Nat)) (last : List Nat) (L : Array Bool) (a : Act) (σ : Env) (w : World), S w → segC md ops.toArray segs last L = true → Agr n ds a σ → Fr D σ σ0 → vseg P S ops K segs last σ w → wpAnyH P md ops.toArray Q S (segLn segs last) L a w
  | [], last, L, a, σ, w, hS, hB, hA, hF, h => by
    unfold segC at hB
    cases hT : takeC md ops.toArray last L with
    | none => rw [hT] at hB; cases hB
    | some L' =>
      rw [hT] at hB
      simp only [List.isEmpty_iff] at hB
      have := quiet_take (md := md) (fuel := 0) (Q := Q) hdst hs hQ hS (K := fun σ' => K σ' w) (fun a σ hA hF hk => wpAnyH_done hB (hK a σ w hA hF hk) 0) last L a σ hT hA hF h
      simpa [segLn] using this
  | (l, c) :: rest, last, L, a, σ, w, hS, hB, hA, hF, h => by
    unfold segC at hB
    cases hT : takeC md ops.toArray l L with
    | none => rw [hT] at hB; cases hB
    | some L' =>
      rw [hT] at hB
      simp only [Bool.and_eq_true, beq_iff_eq] at hB
      obtain ⟨⟨h1, h2⟩, h3⟩ := hB
      unfold vseg at h
      have := quiet_take (md := md) (fuel := segLn rest last + 1) (Q := Q) hdst hs hQ hS (fun a σ' hA hF ha => ?_) l L a σ hT hA hF h
      · rw [show segLn ((l, c) :: rest) last = segLn rest last + 1 + l.length from by simp [segLn]; omega]
        exact this
      · refine wpAnyH_all h1 (by simp) (fun i hi => ?_)
        simp only [List.mem_singleton] at hi
        subst hi
        rw [nthOp_eq] at ha
        cases ho : ops[i]? with
        | none => rw [ho] at ha; exact ha.elim
        | some o =>
          rw [ho] at ha
          simp only [vone] at ha
          have hm : o ∈ ops := List.mem_of_getElem? ho
          unfold wpOp
          rw [show ops.toArray[i]? = some o from by simpa using ho]
          simp only
          rcases vguard_sound hA ha with ⟨k1, k2⟩ | ⟨k1, k2⟩
          · rw [if_pos k1]
            exact .inl (vop_sound hA k2 fun v w' hk => ⟨hk.keep, seg_sound hdst hs hQ hK rest last _ _ _ w' hk.keep h3 (hA.put (fun t ht => (hdst o hm t ht).1) v) (hF.put (fun t ht => (hdst o hm t ht).2) v) hk.rest⟩)
          · rw [if_neg (by rw [k1]; simp)]
            exact ⟨hS, seg_sound hdst hs hQ hK rest last _ _ _ w hS h3 (hA.put (fun t ht => (hdst o hm t ht).1) undef) (hF.put (fun t ht => (hdst o hm t ht).2) undef) k2⟩
def drawB (n : Nat) (ops : List Oper) (segs : List (List Nat × Nat)) (last : List Nat) : Bool :=
  Region.noSelect ops.toArray && segC .any ops.toArray segs last (Array.replicate ops.length false) && Nat.beq (segLn segs last) ops.length && ops.all fun o => match o.dst with | some d => Nat.blt d n | none => true
structure VQ (P : Program) (S : World → Prop) (ops : List Oper) (K : Env → Prop) (l : List Oper) (σ : Env) : Prop where
  out : vquiet P S ops K l σ
structure VG (P : Program) (S : World → Prop) (ops : List Oper) (K : Env → World → Prop) (segs : List (List Nat × Nat)) (last : List Nat) (σ : Env) (w : World) : Prop where
  out : vseg P S ops K segs last σ w
theorem VQ_fun (P : Program) (S : World → Prop) (ops : List Oper) (K : Env → Prop) (l : List Oper) : VQ P S ops K l = vquiet P S ops K l := by funext σ; exact propext ⟨fun h => h.out, fun h => ⟨h⟩⟩
theorem VG_fun (P : Program) (S : World → Prop) (ops : List Oper) (K : Env → World → Prop) (segs : List (List Nat × Nat)) (last : List Nat) : VG P S ops K segs last = vseg P S ops K segs last := by funext σ w; exact propext ⟨fun h => h.out, fun h => ⟨h⟩⟩
theorem VQ.nil {P : Program} {S : World → Prop} {ops : List Oper} {K : Env → Prop} {σ : Env} (h : K σ) : VQ P S ops K [] σ := ⟨h⟩
theorem VQ.cons {P : Program} {S : World → Prop} {ops r : List Oper} {K : Env → Prop} {o : Oper} {σ : Env} (h : vguard ops σ o.guard (fun σ => vread P S (ev σ) o.op o.type (fun v => VQ P S ops K r (putE σ o.dst v))) (fun σ => VQ P S ops K r (putE σ o.dst undef))) : VQ P S ops K (o :: r) σ := by
  rw [VQ_fun] at h
  exact ⟨h⟩
theorem VG.nil {P : Program} {S : World → Prop} {ops : List Oper} {K : Env → World → Prop} {last : List Nat} {σ : Env} {w : World} (h : VQ P S ops (fun σ' => K σ' w) (picks ops last) σ) : VG P S ops K [] last σ w := ⟨h.out⟩
theorem VG.cons {P : Program} {S : World → Prop} {ops : List Oper} {K : Env → World → Prop} {l : List Nat} {c : Nat} {r : List (List Nat × Nat)} {last : List Nat} {σ : Env} {w : World}
    (h : VQ P S ops (fun σ' => vone P S ops (fun σ2 w2 => VG P S ops K r last σ2 w2) (nthOp ops c) σ' w) (picks ops l) σ) : VG P S ops K ((l, c) :: r) last σ w := by
  refine ⟨?_⟩
  have h := h.out
  simp only [VG_fun] at h
  exact h
theorem VDraw.seg {P : Program} {n : Nat} {ops : List Oper} {Q : Post} {σ : Env} {w : World} (S : World → Prop) (segs : List (List Nat × Nat)) (last : List Nat) (hm : P.follows .mixedOrders = true) (hB : drawB n ops segs last = true)
    (hS : S (w.drewN 1)) (h : VG P S ops (Q .normal) segs last σ (w.drewN 1)) : VDraw P n ops Q σ w := by
  replace h := h.out
  unfold drawB at hB
  simp only [Bool.and_eq_true] at hB
  obtain ⟨⟨⟨h1, h2⟩, h3⟩, h4⟩ := hB
  simp only [VDraw_eq]
  intro ds a id hA
  refine wp_region_held (S := S) hm ?_
  have hlen := Nat.eq_of_beq_eq_true h3
  have hdst : ∀ o ∈ ops, ∀ t, o.dst = some t → t < n ∧ t ∈ dsts ops := fun o ho t ht => ⟨by
    have := List.all_eq_true.1 h4 o ho
    rw [ht] at this
    exact Nat.blt_eq ▸ this, mem_dsts ho ht⟩
  have := seg_sound (ds := ds) (Q := Lift n ds Q (dsts ops) σ) (K := Q .normal) hdst h1 (fun c a a' w h => h) (fun a σ' w hA hF hk => ⟨σ', hA, hF, hk⟩) segs last _ a σ _ hS h2 hA (Fr.refl _ _) h
  rw [hlen] at this
  have e : ops.toArray.size = ops.length := by simp
  rw [e]
  exact this

end Go.Proofs.YtnjhdbgejhnpfaaDoor
end

section
set_option maxRecDepth 10000
namespace Go.Proofs.YtnjhdbgejhnpfaaDoor
set_option linter.unusedVariables false
open Go.RowKit

/-! ### what is known of types -/
class TSlice (P : Program) (t : TypeId) (e : outParam TypeId) (k : outParam Nat) : Prop where
  u : P.underlying t = some (.slice e)
  s : (P.info? e).map (·.size) = some k
class TStr (P : Program) (t : TypeId) : Prop where
  u : P.underlying t = some .string
class TBool (P : Program) (t : TypeId) : Prop where
  u : P.underlying t = some .bool
class TPtr (P : Program) (t : TypeId) : Prop where
  u : ∃ e, P.underlying t = some (.pointer e)
class TInt (P : Program) (t : TypeId) (k : outParam IntKind) : Prop where
  u : P.underlying t = some (.int k)
def cellB (P : Program) (t : TypeId) : Bool := match P.underlying t with
  | none | some (.struct _) | some (.array ..) => false
  | _ => match P.info? t with | some i => Nat.beq i.size 1 && i.zero.isSome | none => false
class TCell (P : Program) (t : TypeId) : Prop where
  c : cellB P t = true
def fieldB (P : Program) (s : TypeId) (f : Nat) : Option (TypeId × Nat × Nat) := match P.underlying s with
  | some (.struct fs) => match fs[f]? with
    | some fd => match P.info? fd.type with | some i => some (fd.type, fd.offset, i.size) | none => none
    | none => none
  | _ => none
class TField (P : Program) (s : TypeId) (f : Nat) (t : outParam TypeId) (o : outParam Nat) (k : outParam Nat) : Prop where
  f : fieldB P s f = some (t, o, k)
  n : k ≠ 0
class TAgg (P : Program) (t : TypeId) (k : outParam Nat) : Prop where
  a : (match P.underlying t with | some (.struct _) | some (.array ..) => true | _ => false) = true
  s : (P.info? t).map (·.size) = some k
class TArr (P : Program) (t : TypeId) (n : outParam Nat) (e : outParam TypeId) (k : outParam Nat) : Prop where
  u : P.underlying t = some (.array n e)
  s : (P.info? e).map (·.size) = some k
class TMap (P : Program) (t : TypeId) (k : outParam TypeId) (e : outParam TypeId) : Prop where
  u : P.underlying t = some (.map k e)
class Ent (P : Program) (f : FuncId) : Prop where
  e : enters P f = true

section
variable {P : Program} {S : World → Prop} {w W : World}
theorem cellB_out {t : TypeId} (h : cellB P t = true) : (∃ d, P.underlying t = some d ∧ (∀ fs, d ≠ .struct fs) ∧ (∀ n e, d ≠ .array n e)) ∧ ∃ i, P.info? t = some i ∧ i.size = 1 ∧ i.zero.isSome = true := by
  unfold cellB at h
  split at h
  · cases h
  · cases h
  · cases h
  · rename_i h1 h2 h3
    split at h
    · rename_i i hi
      simp only [Bool.and_eq_true] at h
      refine ⟨?_, i, hi, Nat.eq_of_beq_eq_true h.1, h.2⟩
      cases hu : P.underlying t with
      | none => exact (h1 hu).elim
      | some d => exact ⟨d, rfl, fun fs e => h2 fs (by rw [hu, e]), fun n e e' => h3 n e (by rw [hu, e'])⟩
    · cases h
theorem run_isAgg_cell {t : TypeId} (h : cellB P t = true) : (isAgg t).run P W = .ok false W := by
  obtain ⟨⟨d, hd, h1, h2⟩, _⟩ := cellB_out h
  unfold isAgg
  simp only [Sem.run_bind, run_underlying hd, Result.andThen_ok]
  cases d <;> first | rfl | exact (h1 _ rfl).elim | exact (h2 _ _ rfl).elim
theorem run_load_cell {t : TypeId} {p : Addr} {v : Value} (h : cellB P t = true) (hc : W.cell? p = some v) : (Instr.loadAt t (.pointer (some p))).run P W = .ok v W := by
  unfold Instr.loadAt Instr.sureAddr loadVar
  simp [run_isAgg_cell h, hc]
theorem run_size {t : TypeId} {k : Nat} (h : (P.info? t).map (·.size) = some k) : (sizeOf t).run P W = .ok k W := by
  cases hi : P.info? t with
  | none => rw [hi] at h; cases h
  | some i =>
    rw [hi] at h
    simp only [Option.map_some, Option.some.injEq] at h
    simp [sizeOf, typeInfo, hi, h]
theorem fieldB_out {s f t o k : Nat} (h : fieldB P s f = some (t, o, k)) : ∃ fs fd, P.underlying s = some (.struct fs) ∧ fs[f]? = some fd ∧ fd.type = t ∧ fd.offset = o ∧ (P.info? t).map (·.size) = some k := by
  unfold fieldB at h
  split at h
  · rename_i fs hs
    split at h
    · rename_i fd hf
      split at h
      · rename_i i hi
        simp only [Option.some.injEq, Prod.mk.injEq] at h
        obtain ⟨rfl, rfl, rfl⟩ := h
        exact ⟨fs, fd, hs, hf, rfl, rfl, by rw [hi]; rfl⟩
      · cases h
    · cases h
  · cases h
theorem VRead.of {s : Sem Value} {K : Value → Prop} {v : Value} (h : ∀ W, S W → s.run P W = .ok v W) (hk : K v) : VRead P S s K := by simp only [VRead_eq]; exact ⟨v, h, hk⟩
theorem VRead.ofW {s : Sem Value} {K : Value → Prop} {v : Value} (h : ∀ W, s.run P W = .ok v W) (hk : K v) : VRead P S s K := .of (fun W _ => h W) hk
theorem VRead.of1 {s : Sem Value} {K : Value → Prop} {v : Value} (h : s.run P w = .ok v w) (hk : K v) : VRead P (Eq w) s K := .of (fun W e => e ▸ h) hk
theorem VSem.of {s : Sem Value} {K : Value → World → Prop} {v : Value} {w' : World} (h : s.run P w = .ok v w') (hk : K v w') : VSem P s w K := by simp only [VSem_eq]; exact ⟨v, w', h, hk⟩
theorem VUnit.of {s : Sem Unit} {K : World → Prop} {w' : World} (h : s.run P w = .ok () w') (hk : K w') : VUnit P s w K := by simp only [VUnit_eq]; exact ⟨w', h, hk⟩
theorem VRead.load {t : TypeId} {p : Addr} {v : Value} {K : Value → Prop} [c : TCell P t] (h : ∀ W, S W → W.cell? p = some v) (hk : K v) : VRead P S (Instr.loadAt t (.pointer (some p))) K :=
  .of (fun W hW => run_load_cell c.c (h W hW)) hk
theorem VRead.load1 {t : TypeId} {p : Addr} {v : Value} {K : Value → Prop} [c : TCell P t] (h : w.cell? p = some v) (hk : K v) : VRead P (Eq w) (Instr.loadAt t (.pointer (some p))) K :=
  .of1 (run_load_cell c.c h) hk
theorem elem_of {t e : TypeId} (h : P.underlying t = some (.slice e)) : P.underlying t = some (.slice (P.elem t)) := by rw [h]; unfold Program.elem; rw [h]
theorem VRead.lenS {t ty e k : Nat} {A : Option Addr} {n c : Nat} {K : Value → Prop} [i : TSlice P t e k] (hk : K (.int .i64 n)) : VRead P S (Builtin.len_ #[t] ty [Value.slice A n c].toArray) K :=
  .ofW (fun W => run_len_slice W t ty A n c (elem_of i.u)) hk
theorem VRead.lenT {t ty : TypeId} {s : ByteArray} {K : Value → Prop} [i : TStr P t] (hk : K (.int .i64 s.size)) : VRead P S (Builtin.len_ #[t] ty [Value.string s].toArray) K :=
  .ofW (fun W => run_len_string W t ty s i.u) hk
theorem VRead.at1 {t e : Nat} {a : Addr} {n c j : Nat} {kk : IntKind} {K : Value → Prop} [i : TSlice P t e 1] (h : j < n) (hk : K (.pointer (some (a.add j)))) : VRead P S (Instr.indexAt t (.slice (some a) n c) (.int kk (j : Int))) K :=
  .ofW (fun W => by rw [run_indexAt_slice W t a n c kk j (elem_of i.u), if_pos ⟨by omega, by omega⟩, show P.elem t = e from by unfold Program.elem; rw [i.u], run_size i.s]; simp) hk
theorem VRead.atK {t e k : Nat} {a : Addr} {n c j : Nat} {kk : IntKind} {K : Value → Prop} [i : TSlice P t e k] (h : j < n) (hk : K (.pointer (some (a.add (j * k))))) : VRead P S (Instr.indexAt t (.slice (some a) n c) (.int kk (j : Int))) K :=
  .ofW (fun W => by rw [run_indexAt_slice W t a n c kk j (elem_of i.u), if_pos ⟨by omega, by omega⟩, show P.elem t = e from by unfold Program.elem; rw [i.u], run_size i.s]; simp) hk
theorem VRead.idxT {t : Nat} {s : ByteArray} {j : Nat} {kk : IntKind} {x : UInt8} {K : Value → Prop} [i : TStr P t] (h : s.data.toList[j]? = some x) (hk : K (.int .u8 (x.toNat : Int))) : VRead P S (Instr.index t (.string s) (.int kk (j : Int))) K :=
  .ofW (fun W => by
    have hl := (List.getElem?_eq_some_iff.1 h)
    obtain ⟨h1, h2⟩ := hl
    have h3 : j < s.size := by rw [Array.length_toList] at h1; exact h1
    rw [run_index_string W t s kk j i.u, dif_pos ⟨by omega, by omega⟩]
    congr 3
    rw [← h2]
    rfl) hk
theorem VRead.fld {s f t o k : Nat} {p : Addr} {K : Value → Prop} [i : TField P s f t o k] (hk : K (.pointer (some (p.add o)))) : VRead P S (Instr.fieldAt s (.pointer (some p)) f) K := by
  obtain ⟨fs, fd, h1, h2, h3, h4, h5⟩ := fieldB_out i.f
  refine .ofW (v := .pointer (some (p.add o))) (fun W => ?_) hk
  subst h3
  unfold Instr.fieldAt Instr.sureAddr fieldPlace
  simp [run_underlying h1, h2, run_size h5, i.n, h4]
theorem VRead.part {s f t o k : Nat} {cs : Array Value} {v : Value} {K : Value → Prop} [i : TField P s f t o k] [c : TCell P t] (hv : cs.toList[o]? = some v) (hk : K v) : VRead P S (Instr.field s (.agg cs) f) K := by
  obtain ⟨fs, fd, h1, h2, h3, h4, h5⟩ := fieldB_out i.f
  refine .ofW (v := v) (fun W => ?_) hk
  have hv' : cs[o]? = some v := by rw [← hv]; simp
  subst h3
  unfold Instr.field Go.part
  simp [run_underlying h1, h2, asAgg, run_isAgg_cell c.c, h4, hv']

/-! ### slices of slices -/
/-! ### numbers -/
theorem VWrap.i64 {z : Int} {K : Int → Prop} (h1 : -9223372036854775808 ≤ z) (h2 : z ≤ 9223372036854775807) (hk : K z) : VWrap .i64 z K := by
  simp only [VWrap_eq]; rwa [IntWalk.i64_in z ⟨h1, h2⟩]
theorem VWrap.of {k : IntKind} {z z' : Int} {K : Int → Prop} (e : k.wrap z = z') (hk : K z') : VWrap k z K := by simp only [VWrap_eq]; rwa [e]
theorem VWrap.any {k : IntKind} {z : Int} {K : Int → Prop} (hk : K (k.wrap z)) : VWrap k z K := by simp only [VWrap_eq]; exact hk
theorem wrap_u {k : IntKind} {z : Int} (hs : k.signed = false) (h1 : 0 ≤ z) (h2 : z < 2 ^ k.bits) : k.wrap z = z := by
  unfold IntKind.wrap
  rw [hs]
  simp only [Bool.false_eq_true, if_false, false_and]
  exact Int.emod_eq_of_lt h1 h2
theorem VWrap.u64 {z : Int} {K : Int → Prop} (h1 : 0 ≤ z) (h2 : z ≤ 18446744073709551615) (hk : K z) : VWrap .u64 z K := by
  simp only [VWrap_eq]; rwa [wrap_u rfl h1 (by simp [IntKind.bits]; omega)]
theorem VWrap.u32 {z : Int} {K : Int → Prop} (h1 : 0 ≤ z) (h2 : z ≤ 4294967295) (hk : K z) : VWrap .u32 z K := by
  simp only [VWrap_eq]; rwa [wrap_u rfl h1 (by simp [IntKind.bits]; omega)]
theorem VWrap.u8 {z : Int} {K : Int → Prop} (h1 : 0 ≤ z) (h2 : z ≤ 255) (hk : K z) : VWrap .u8 z K := by
  simp only [VWrap_eq]; rwa [wrap_u rfl h1 (by simp [IntKind.bits]; omega)]
theorem VBin.of {op : BinOp} {t : TypeId} {x y : Operand} {k j : IntKind} {m n : Int} {v : Value} {K : Value → Prop} (h : ∀ W, (binOp op t (.int k m) (.int j n)).run P W = .ok v W) (hk : K v) :
    VRead P S (do eqGuard op t x y (.int k m) (.int j n); binOp op t (.int k m) (.int j n)) K :=
  .ofW (fun W => by rw [Sem.run_bind, eqGuard_int]; exact h W) hk
theorem VRead.rem {t : TypeId} {x y : Operand} {k : IntKind} {m n : Int} {K : Value → Prop} (h0 : 0 ≤ m) (h1 : n ≠ 0) (hk : K (.int k (m % n))) :
    VRead P S (do eqGuard .rem t x y (.int k m) (.int k n); binOp .rem t (.int k m) (.int k n)) K :=
  VBin.of (fun W => by
    have e : m.tmod n = m % n := Int.tmod_eq_emod_of_nonneg h0
    simp [binOp, Op.intDiv, h1, e]) hk
theorem VRead.remT {t : TypeId} {x y : Operand} {k : IntKind} {m n : Int} {K : Value → Prop} (h1 : n ≠ 0) (hk : K (.int k (m.tmod n))) :
    VRead P S (do eqGuard .rem t x y (.int k m) (.int k n); binOp .rem t (.int k m) (.int k n)) K :=
  VBin.of (fun W => by simp [binOp, Op.intDiv, h1]) hk
theorem run_bits {op : BinOp} {k : IntKind} {m n : Int} (h : op = .and ∨ op = .or ∨ op = .xor) (t : TypeId) : (binOp op t (.int k m) (.int k n)).run P W = .ok (.int k (bits op k m n)) W := by
  rcases h with rfl | rfl | rfl <;> simp [binOp, Op.intBits, bits]
theorem VRead.and {t : TypeId} {x y : Operand} {k : IntKind} {m n : Int} {K : Value → Prop} (hk : K (.int k (bits .and k m n))) :
    VRead P S (do eqGuard .and t x y (.int k m) (.int k n); binOp .and t (.int k m) (.int k n)) K := VBin.of (fun W => run_bits (.inl rfl) t) hk
theorem VRead.or {t : TypeId} {x y : Operand} {k : IntKind} {m n : Int} {K : Value → Prop} (hk : K (.int k (bits .or k m n))) :
    VRead P S (do eqGuard .or t x y (.int k m) (.int k n); binOp .or t (.int k m) (.int k n)) K := VBin.of (fun W => run_bits (.inr (.inl rfl)) t) hk
theorem VRead.xor {t : TypeId} {x y : Operand} {k : IntKind} {m n : Int} {K : Value → Prop} (hk : K (.int k (bits .xor k m n))) :
    VRead P S (do eqGuard .xor t x y (.int k m) (.int k n); binOp .xor t (.int k m) (.int k n)) K := VBin.of (fun W => run_bits (.inr (.inr rfl)) t) hk
theorem VRead.neg {k : IntKind} {n : Int} {K : Value → Prop} (hk : VWrap k (0 - n) fun z => K (.int k z)) : VRead P S (Op.unary .neg (.int k n)) K := by
  simp only [VWrap_eq] at hk
  exact .ofW (fun W => by simp [Op.unary, Op.intArith]) hk
theorem VRead.eqB {t : TypeId} {x y : Operand} {a b : Bool} {K : Value → Prop} [i : TBool P t] (hk : K (.bool (decide (a = b)))) :
    VRead P S (do eqGuard .eql t x y (.bool a) (.bool b); binOp .eql t (.bool a) (.bool b)) K :=
  .ofW (fun W => by
    rw [Sem.run_bind, show (eqGuard .eql t x y (.bool a) (.bool b)).run P W = .ok () W from rfl]
    simp only [Result.andThen_ok]
    rw [run_eql_bool W t a b i.u]
    cases a <;> cases b <;> rfl) hk
theorem VRead.eqPN {t : TypeId} {x y : Operand} {p : Addr} {K : Value → Prop} [i : TPtr P t] (hk : K (.bool false)) :
    VRead P S (do eqGuard .eql t x y (.pointer (some p)) (.pointer none); binOp .eql t (.pointer (some p)) (.pointer none)) K := by
  obtain ⟨e, he⟩ := i.u
  refine .ofW (fun W => ?_) hk
  rw [Sem.run_bind, show (eqGuard .eql t x y (.pointer (some p)) (.pointer none)).run P W = .ok () W from rfl]
  have hp : P.underlying t = some (.pointer (P.pointee t)) := by rw [he]; unfold Program.pointee; rw [he]
  simp only [Result.andThen_ok]
  rw [run_eql_pointer_nil W t (some p) hp]
  rfl
theorem run_conv {s d : TypeId} {j k : IntKind} {n : Int} (hs : P.underlying s = some (.int j)) (hd : P.underlying d = some (.int k)) : (convert s d (.int j n)).run P W = .ok (.int k (k.wrap n)) W := by
  simp [convert, run_underlying hs, run_underlying hd, Conv.intToInt]
theorem VSem.convI {s d : TypeId} {j k : IntKind} {n : Int} {K : Value → World → Prop} [a : TInt P s j] [b : TInt P d k] (hk : VWrap k n fun z => K (.int k z) w) : VSem P (convert s d (.int j n)) w K := by
  simp only [VWrap_eq] at hk; exact .of (run_conv a.u b.u) hk
theorem VRead.convI {s d : TypeId} {j k : IntKind} {n : Int} {K : Value → Prop} [a : TInt P s j] [b : TInt P d k] (hk : VWrap k n fun z => K (.int k z)) : VRead P S (convert s d (.int j n)) K := by
  simp only [VWrap_eq] at hk; exact .ofW (fun W => run_conv a.u b.u) hk
theorem VSem.convT {s d e k : TypeId} {B : Nat} {A : Option Addr} {n c : Nat} {l : List UInt8} {K : Value → World → Prop} [a : TSlice P s e k] [i : TInt P e .u8] [b : TStr P d] (h : Reads w B 1 A n (bv l)) (hk : K (.string (txt l)) w) :
    VSem P (convert s d (.slice A n c)) w K := .of (run_string_of w a.u i.u b.u c h) hk
theorem VRead.convT {s d e k : TypeId} {B : Nat} {A : Option Addr} {n c : Nat} {l : List UInt8} {K : Value → Prop} [a : TSlice P s e k] [i : TInt P e .u8] [b : TStr P d] (h : ∀ W, S W → Reads W B 1 A n (bv l)) (hk : K (.string (txt l))) :
    VRead P S (convert s d (.slice A n c)) K := .of (fun W hW => run_string_of W a.u i.u b.u c (h W hW)) hk
theorem VRead.min2 {ts : Array TypeId} {t : TypeId} {k k' : IntKind} {x y : Int} {K : Value → Prop} (hk : K (.int k (if y < x then y else x))) : VRead P S (Builtin.min_ ts t [Value.int k x, .int k' y].toArray) K :=
  .ofW (fun W => run_min_int2 W ts t k k' x y) hk
theorem VRead.minZ {ts : Array TypeId} {t : TypeId} {k k' : IntKind} {x y z : Int} {K : Value → Prop} (e : (if y < x then y else x) = z) (hk : K (.int k z)) : VRead P S (Builtin.min_ ts t [Value.int k x, .int k' y].toArray) K :=
  .min2 (by rw [e]; exact hk)
theorem VRead.maxZ {ts : Array TypeId} {t : TypeId} {k k' : IntKind} {x y z : Int} {K : Value → Prop} (e : (if x < y then y else x) = z) (hk : K (.int k z)) : VRead P S (Builtin.max_ ts t [Value.int k x, .int k' y].toArray) K :=
  .ofW (fun W => by rw [show [Value.int k x, .int k' y].toArray = #[Value.int k x, .int k' y] from rfl, run_max_int2 W ts t k k' x y, e]) hk
/-! ### truths -/
theorem VBool.t {k : Bool → Prop} (h : k true) : VBool true k := .mk h
theorem VBool.f {k : Bool → Prop} (h : k false) : VBool false k := .mk h
theorem VBool.dec {p : Prop} [d : Decidable p] {k : Bool → Prop} (h1 : p → k true) (h2 : ¬ p → k false) : VBool (decide p) k := by
  refine .mk ?_
  by_cases h : p
  · rw [decide_eq_true h]; exact h1 h
  · rw [decide_eq_false h]; exact h2 h
theorem VBool.yes {b : Bool} {k : Bool → Prop} (h : b = true) (hk : k true) : VBool b k := by subst h; exact .mk hk
theorem VBool.no {b : Bool} {k : Bool → Prop} (h : b = false) (hk : k false) : VBool b k := by subst h; exact .mk hk
theorem VBool.not {b : Bool} {k : Bool → Prop} (h : VBool b fun x => k (!x)) : VBool (!b) k := .mk h.out
theorem VBool.cases {b : Bool} {k : Bool → Prop} (h1 : b = true → k true) (h2 : b = false → k false) : VBool b k := .mk (by cases b; exact h2 rfl; exact h1 rfl)
theorem VBool.dT {p : Prop} [d : Decidable p] {k : Bool → Prop} (h : p) (hk : k true) : VBool (decide p) k := .yes (decide_eq_true h) hk
theorem VBool.dF {p : Prop} [d : Decidable p] {k : Bool → Prop} (h : ¬ p) (hk : k false) : VBool (decide p) k := .no (decide_eq_false h) hk
theorem VBool.nT {p : Prop} [d : Decidable p] {k : Bool → Prop} (h : p) (hk : k false) : VBool (!decide p) k := .no (by simp [h]) hk
theorem VBool.nF {p : Prop} [d : Decidable p] {k : Bool → Prop} (h : ¬ p) (hk : k true) : VBool (!decide p) k := .yes (by simp [h]) hk

/-! ### what is built -/
def idxs (k : Nat) : List Value → List (Nat × Value)
  | [] => []
  | v :: r => (k, v) :: idxs (k + 1) r
theorem idxs_of : ∀ (ps : List (Nat × Value)) (k : Nat), ps.map (·.1) = List.range' k ps.length → ps = idxs k (ps.map (·.2))
  | [], k, h => rfl
  | p :: r, k, h => by
    simp only [List.map_cons, List.length_cons, List.range'_succ, List.cons.injEq] at h
    simp only [List.map_cons, idxs]
    rw [← idxs_of r (k + 1) h.2, ← h.1]
theorem cells_one {v : Value} (h : v.oneCell' = true) : v.cells = #[v] := by cases v <;> first | rfl | cases h
theorem fill_ones : ∀ (vs pre rest : List Value), (∀ v ∈ vs, v.oneCell' = true) → rest.length = vs.length → Instr.fill (fun i => some (i, 1)) (pre ++ rest).toArray (idxs pre.length vs) = some (pre ++ vs).toArray
  | [], pre, rest, h1, hl => by simp [List.eq_nil_of_length_eq_zero hl, idxs, Instr.fill]
  | v :: vs, pre, x :: rest, h1, hl => by
    simp only [idxs, Instr.fill, cells_one (h1 v (by simp))]
    have e1 : ((#[v] : Array Value).zipIdx.foldl (fun cs (c, j) => cs.setIfInBounds (pre.length + j) c) (pre ++ x :: rest).toArray) = ((pre ++ [v]) ++ rest).toArray := by
      simp
    have e2 : ((#[v] : Array Value).size ≠ 1 || pre.length + (#[v] : Array Value).size > (pre ++ x :: rest).toArray.size) = false := by simp
    have ih := fill_ones vs (pre ++ [v]) rest (fun u hu => h1 u (List.mem_cons_of_mem _ hu)) (by simpa using hl)
    rw [if_neg (by rw [e2]; simp), e1]
    have e3 : (pre ++ [v]).length = pre.length + 1 := by simp
    rw [e3] at ih
    simpa using ih
  | v :: vs, pre, [], h1, hl => by simp at hl
theorem run_buildS {t e : TypeId} {n : Nat} {ps : List (Nat × Value)} (i : TSlice P t e 1) (c : TCell P e) (hp : ps.map (·.1) = List.range' 0 ps.length) (hn : ps.length = n) (h1 : ∀ v ∈ ps.map (·.2), v.oneCell' = true) (hb : n ≤ 16777216) :
    (Instr.buildSlice t n ps.toArray).run P w = .ok (.slice (some ⟨w.heap.size, 0, none⟩) n n) (w.alloc (.cells (ps.map (·.2)).toArray e)) := by
  obtain ⟨_, j, hj, hs, hz⟩ := cellB_out c.c
  obtain ⟨z, hz⟩ := Option.isSome_iff_exists.1 hz
  have e1 : (sizeOf e).run P w = .ok 1 w := run_size i.s
  have hps := idxs_of ps 0 hp
  have hf : ∀ C : Array Value, C.size = n → Instr.fill (fun i => some (i, 1)) C ps = some (ps.map (·.2)).toArray := fun C hC => by
    have := fill_ones (ps.map (·.2)) [] C.toList h1 (by simp [hC, hn])
    simp only [List.nil_append, List.length_nil, Array.toArray_toList] at this
    rw [← hps] at this
    exact this
  unfold Instr.buildSlice
  simp only [Sem.run_bind, run_underlying i.u, Result.andThen_ok, e1, Nat.mul_one]
  rw [if_neg (by omega)]
  by_cases h0 : n = 0
  · rw [if_pos h0]
    simp only [Sem.run_bind, Sem.run_pure, Result.andThen_ok]
    rw [hf _ (by simp)]
    simp [newRow]
  · rw [if_neg h0]
    simp only [Sem.run_bind, zeroValue, typeInfo, run_program, hj, hz, Sem.run_pure, Result.andThen_ok]
    rw [hf _ (by simp)]
    simp [newRow]
theorem VSem.buildS {t e : TypeId} {n : Nat} {ps : List (Nat × Value)} {K : Value → World → Prop} [i : TSlice P t e 1] [c : TCell P e] (hp : ps.map (·.1) = List.range' 0 ps.length) (hn : ps.length = n) (h1 : ∀ v ∈ ps.map (·.2), v.oneCell' = true) (hb : n ≤ 16777216)
    (hk : K (.slice (some ⟨w.heap.size, 0, none⟩) n n) (w.alloc (.cells (ps.map (·.2)).toArray e))) : VSem P (Instr.buildSlice t n ps.toArray) w K := .of (run_buildS i c hp hn h1 hb) hk

/-! ### calls and stores -/
theorem VCall.of {f : FuncId} {args : List Value} {K : Value → World → Prop} {R : Ending → World → Prop} [e : Ent P f] (h : Calls P f args.toArray w R) (hk : ∀ e w', R e w' → ∃ v, e = .returned v ∧ K v w') : VCall P f args w K := by
  simp only [VCall_eq]; exact ⟨e.e, h.mono fun e w' hr => hk e w' hr⟩
theorem run_store_cell {t : TypeId} {p : Addr} {u v : Value} (h : cellB P t = true) (hc : w.cell? p = some u) (hf : w.frozen? p = false) (hv : v.oneCell' = true) : (Instr.storeAt t (.pointer (some p)) v).run P w = .ok () (w.setCell p v) := by
  obtain ⟨_, i, hi, hs, _⟩ := cellB_out h
  have e1 : v.cells = #[v] := by cases v <;> first | rfl | cases hv
  have e2 : (store p v).run P w = .ok () (w.setCell p v) := by
    cases v <;> first | (cases hv; done) | simp [store, Sem.run, hc, hf]
  unfold Instr.storeAt Instr.sureAddr storeVar
  simp [e1, run_size (k := 1) (by rw [hi]; simp [hs]), storeCells, Addr.add]
  exact e2
theorem VUnit.store {t : TypeId} {p : Addr} {u v : Value} {K : World → Prop} [c : TCell P t] (hc : w.cell? p = some u) (hf : w.frozen? p = false) (hv : v.oneCell' = true) (hk : K (w.setCell p v)) : VUnit P (Instr.storeAt t (.pointer (some p)) v) w K :=
  .of (run_store_cell c.c hc hf hv) hk
/-- a store into a block that is known whole: a new world -/
theorem VUnit.storeB {t T : TypeId} {p : Addr} {g i : Nat} {cs : Array Value} {v : Value} {K : World → Prop} [c : TCell P t] (hb : Blk w g T cs) (hp : p = ⟨g, i, none⟩) (hi : Nat.blt i cs.size = true) (hv : v.oneCell' = true)
    (h : ∀ w', Blk w' g T (cs.setIfInBounds i v) → w.grownBy w' (some g) → K w') : VUnit P (Instr.storeAt t (.pointer (some p)) v) w K := by
  subst hp
  have hi' : i < cs.size := Nat.blt_eq ▸ hi
  have hc : w.cell? ⟨g, i, none⟩ = some cs[i] := by rw [hb.cell i]; exact Array.getElem?_eq_getElem hi'
  exact .store hc (hb.frozen i) hv (h _ (hb.set_ i v) (only_setCell (only_refl w g) (.inl rfl) _))
end
end Go.Proofs.YtnjhdbgejhnpfaaDoor
end

section
namespace Go.Proofs.YtnjhdbgejhnpfaaDoor
instance : TCell Tryd.prog 0 := ⟨by kernel_rfl⟩
instance : TCell Tryd.prog 1 := ⟨by kernel_rfl⟩
instance : TInt Tryd.prog 2 .i64 := ⟨by kernel_rfl⟩
instance : TCell Tryd.prog 2 := ⟨by kernel_rfl⟩
instance : TInt Tryd.prog 3 .i64 := ⟨by kernel_rfl⟩
instance : TCell Tryd.prog 3 := ⟨by kernel_rfl⟩
instance : TBool Tryd.prog 4 := ⟨by kernel_rfl⟩
instance : TCell Tryd.prog 4 := ⟨by kernel_rfl⟩
instance : TInt Tryd.prog 5 .u8 := ⟨by kernel_rfl⟩
instance : TCell Tryd.prog 5 := ⟨by kernel_rfl⟩
instance : TInt Tryd.prog 6 .u8 := ⟨by kernel_rfl⟩
instance : TCell Tryd.prog 6 := ⟨by kernel_rfl⟩
instance : TAgg Tryd.prog 7 4 := ⟨by kernel_rfl, by kernel_rfl⟩
instance : TField Tryd.prog 7 0 2 0 1 := ⟨by kernel_rfl, by decide⟩
instance : TField Tryd.prog 7 1 3 1 1 := ⟨by kernel_rfl, by decide⟩
instance : TField Tryd.prog 7 2 4 2 1 := ⟨by kernel_rfl, by decide⟩
instance : TField Tryd.prog 7 3 6 3 1 := ⟨by kernel_rfl, by decide⟩
instance : TAgg Tryd.prog 8 4 := ⟨by kernel_rfl, by kernel_rfl⟩
instance : TField Tryd.prog 8 0 2 0 1 := ⟨by kernel_rfl, by decide⟩
instance : TField Tryd.prog 8 1 3 1 1 := ⟨by kernel_rfl, by decide⟩
instance : TField Tryd.prog 8 2 4 2 1 := ⟨by kernel_rfl, by decide⟩
instance : TField Tryd.prog 8 3 6 3 1 := ⟨by kernel_rfl, by decide⟩
instance : TStr Tryd.prog 9 := ⟨by kernel_rfl⟩
instance : TCell Tryd.prog 9 := ⟨by kernel_rfl⟩
instance : TStr Tryd.prog 10 := ⟨by kernel_rfl⟩
instance : TCell Tryd.prog 10 := ⟨by kernel_rfl⟩
instance : TStr Tryd.prog 11 := ⟨by kernel_rfl⟩
instance : TCell Tryd.prog 11 := ⟨by kernel_rfl⟩
instance : TInt Tryd.prog 12 .u64 := ⟨by kernel_rfl⟩
instance : TCell Tryd.prog 12 := ⟨by kernel_rfl⟩
instance : TAgg Tryd.prog 13 2 := ⟨by kernel_rfl, by kernel_rfl⟩
instance : TField Tryd.prog 13 0 9 0 1 := ⟨by kernel_rfl, by decide⟩
instance : TField Tryd.prog 13 1 12 1 1 := ⟨by kernel_rfl, by decide⟩
instance : TAgg Tryd.prog 14 2 := ⟨by kernel_rfl, by kernel_rfl⟩
instance : TField Tryd.prog 14 0 9 0 1 := ⟨by kernel_rfl, by decide⟩
instance : TField Tryd.prog 14 1 12 1 1 := ⟨by kernel_rfl, by decide⟩
instance : TPtr Tryd.prog 15 := ⟨127, by kernel_rfl⟩
instance : TCell Tryd.prog 15 := ⟨by kernel_rfl⟩
instance : TPtr Tryd.prog 16 := ⟨130, by kernel_rfl⟩
instance : TCell Tryd.prog 16 := ⟨by kernel_rfl⟩
instance : TPtr Tryd.prog 17 := ⟨138, by kernel_rfl⟩
instance : TCell Tryd.prog 17 := ⟨by kernel_rfl⟩
instance : TAgg Tryd.prog 18 1 := ⟨by kernel_rfl, by kernel_rfl⟩
instance : TField Tryd.prog 18 0 17 0 1 := ⟨by kernel_rfl, by decide⟩
instance : TAgg Tryd.prog 19 1 := ⟨by kernel_rfl, by kernel_rfl⟩
instance : TField Tryd.prog 19 0 17 0 1 := ⟨by kernel_rfl, by decide⟩
instance : TCell Tryd.prog 20 := ⟨by kernel_rfl⟩
instance : TInt Tryd.prog 21 .i32 := ⟨by kernel_rfl⟩
instance : TCell Tryd.prog 21 := ⟨by kernel_rfl⟩
instance : TSlice Tryd.prog 22 37 9 := ⟨by kernel_rfl, by kernel_rfl⟩
instance : TCell Tryd.prog 22 := ⟨by kernel_rfl⟩
instance : TPtr Tryd.prog 23 := ⟨44, by kernel_rfl⟩
instance : TCell Tryd.prog 23 := ⟨by kernel_rfl⟩
instance : TCell Tryd.prog 24 := ⟨by kernel_rfl⟩
instance : TPtr Tryd.prog 25 := ⟨29, by kernel_rfl⟩
instance : TCell Tryd.prog 25 := ⟨by kernel_rfl⟩
instance : TCell Tryd.prog 26 := ⟨by kernel_rfl⟩
instance : TSlice Tryd.prog 27 56 8 := ⟨by kernel_rfl, by kernel_rfl⟩
instance : TCell Tryd.prog 27 := ⟨by kernel_rfl⟩
instance : TAgg Tryd.prog 28 2 := ⟨by kernel_rfl, by kernel_rfl⟩
instance : TField Tryd.prog 28 0 27 0 1 := ⟨by kernel_rfl, by decide⟩
instance : TField Tryd.prog 28 1 3 1 1 := ⟨by kernel_rfl, by decide⟩
instance : TAgg Tryd.prog 29 2 := ⟨by kernel_rfl, by kernel_rfl⟩
instance : TField Tryd.prog 29 0 27 0 1 := ⟨by kernel_rfl, by decide⟩
instance : TField Tryd.prog 29 1 3 1 1 := ⟨by kernel_rfl, by decide⟩
instance : TInt Tryd.prog 30 .i64 := ⟨by kernel_rfl⟩
instance : TCell Tryd.prog 30 := ⟨by kernel_rfl⟩
instance : TAgg Tryd.prog 31 3 := ⟨by kernel_rfl, by kernel_rfl⟩
instance : TField Tryd.prog 31 0 3 0 1 := ⟨by kernel_rfl, by decide⟩
instance : TField Tryd.prog 31 1 2 1 1 := ⟨by kernel_rfl, by decide⟩
instance : TField Tryd.prog 31 2 9 2 1 := ⟨by kernel_rfl, by decide⟩
instance : TAgg Tryd.prog 32 3 := ⟨by kernel_rfl, by kernel_rfl⟩
instance : TField Tryd.prog 32 0 3 0 1 := ⟨by kernel_rfl, by decide⟩
instance : TField Tryd.prog 32 1 2 1 1 := ⟨by kernel_rfl, by decide⟩
instance : TField Tryd.prog 32 2 9 2 1 := ⟨by kernel_rfl, by decide⟩
instance : TAgg Tryd.prog 33 5 := ⟨by kernel_rfl, by kernel_rfl⟩
instance : TField Tryd.prog 33 0 30 0 1 := ⟨by kernel_rfl, by decide⟩
instance : TField Tryd.prog 33 1 3 1 1 := ⟨by kernel_rfl, by decide⟩
instance : TField Tryd.prog 33 2 32 2 3 := ⟨by kernel_rfl, by decide⟩
instance : TAgg Tryd.prog 34 5 := ⟨by kernel_rfl, by kernel_rfl⟩
instance : TField Tryd.prog 34 0 30 0 1 := ⟨by kernel_rfl, by decide⟩
instance : TField Tryd.prog 34 1 3 1 1 := ⟨by kernel_rfl, by decide⟩
instance : TField Tryd.prog 34 2 32 2 3 := ⟨by kernel_rfl, by decide⟩
instance : TSlice Tryd.prog 35 5 1 := ⟨by kernel_rfl, by kernel_rfl⟩
instance : TCell Tryd.prog 35 := ⟨by kernel_rfl⟩
instance : TAgg Tryd.prog 36 9 := ⟨by kernel_rfl, by kernel_rfl⟩
instance : TField Tryd.prog 36 0 3 0 1 := ⟨by kernel_rfl, by decide⟩
instance : TField Tryd.prog 36 1 3 1 1 := ⟨by kernel_rfl, by decide⟩
instance : TField Tryd.prog 36 2 3 2 1 := ⟨by kernel_rfl, by decide⟩
instance : TField Tryd.prog 36 3 34 3 5 := ⟨by kernel_rfl, by decide⟩
instance : TField Tryd.prog 36 4 35 8 1 := ⟨by kernel_rfl, by decide⟩
instance : TAgg Tryd.prog 37 9 := ⟨by kernel_rfl, by kernel_rfl⟩
instance : TField Tryd.prog 37 0 3 0 1 := ⟨by kernel_rfl, by decide⟩
instance : TField Tryd.prog 37 1 3 1 1 := ⟨by kernel_rfl, by decide⟩
instance : TField Tryd.prog 37 2 3 2 1 := ⟨by kernel_rfl, by decide⟩
instance : TField Tryd.prog 37 3 34 3 5 := ⟨by kernel_rfl, by decide⟩
instance : TField Tryd.prog 37 4 35 8 1 := ⟨by kernel_rfl, by decide⟩
instance : TCell Tryd.prog 38 := ⟨by kernel_rfl⟩
instance : TCell Tryd.prog 39 := ⟨by kernel_rfl⟩
instance : TCell Tryd.prog 40 := ⟨by kernel_rfl⟩
instance : TCell Tryd.prog 41 := ⟨by kernel_rfl⟩
instance : TMap Tryd.prog 42 3 68 := ⟨by kernel_rfl⟩
instance : TCell Tryd.prog 42 := ⟨by kernel_rfl⟩
instance : TAgg Tryd.prog 43 2 := ⟨by kernel_rfl, by kernel_rfl⟩
instance : TField Tryd.prog 43 0 3 0 1 := ⟨by kernel_rfl, by decide⟩
instance : TField Tryd.prog 43 1 42 1 1 := ⟨by kernel_rfl, by decide⟩
instance : TAgg Tryd.prog 44 2 := ⟨by kernel_rfl, by kernel_rfl⟩
instance : TField Tryd.prog 44 0 3 0 1 := ⟨by kernel_rfl, by decide⟩
instance : TField Tryd.prog 44 1 42 1 1 := ⟨by kernel_rfl, by decide⟩
instance : TCell Tryd.prog 45 := ⟨by kernel_rfl⟩
instance : TCell Tryd.prog 46 := ⟨by kernel_rfl⟩
instance : TCell Tryd.prog 47 := ⟨by kernel_rfl⟩
instance : TCell Tryd.prog 48 := ⟨by kernel_rfl⟩
instance : TSlice Tryd.prog 49 3 1 := ⟨by kernel_rfl, by kernel_rfl⟩
instance : TCell Tryd.prog 49 := ⟨by kernel_rfl⟩
instance : TCell Tryd.prog 50 := ⟨by kernel_rfl⟩
instance : TCell Tryd.prog 51 := ⟨by kernel_rfl⟩
instance : TCell Tryd.prog 52 := ⟨by kernel_rfl⟩
instance : TCell Tryd.prog 53 := ⟨by kernel_rfl⟩
instance : TCell Tryd.prog 54 := ⟨by kernel_rfl⟩
instance : TAgg Tryd.prog 55 8 := ⟨by kernel_rfl, by kernel_rfl⟩
instance : TField Tryd.prog 55 0 3 0 1 := ⟨by kernel_rfl, by decide⟩
instance : TField Tryd.prog 55 1 3 1 1 := ⟨by kernel_rfl, by decide⟩
instance : TField Tryd.prog 55 2 3 2 1 := ⟨by kernel_rfl, by decide⟩
instance : TField Tryd.prog 55 3 34 3 5 := ⟨by kernel_rfl, by decide⟩
instance : TAgg Tryd.prog 56 8 := ⟨by kernel_rfl, by kernel_rfl⟩
instance : TField Tryd.prog 56 0 3 0 1 := ⟨by kernel_rfl, by decide⟩
instance : TField Tryd.prog 56 1 3 1 1 := ⟨by kernel_rfl, by decide⟩
instance : TField Tryd.prog 56 2 3 2 1 := ⟨by kernel_rfl, by decide⟩
instance : TField Tryd.prog 56 3 34 3 5 := ⟨by kernel_rfl, by decide⟩
instance : TPtr Tryd.prog 57 := ⟨73, by kernel_rfl⟩
instance : TCell Tryd.prog 57 := ⟨by kernel_rfl⟩
instance : TCell Tryd.prog 58 := ⟨by kernel_rfl⟩
instance : TCell Tryd.prog 59 := ⟨by kernel_rfl⟩
instance : TCell Tryd.prog 60 := ⟨by kernel_rfl⟩
instance : TPtr Tryd.prog 61 := ⟨63, by kernel_rfl⟩
instance : TCell Tryd.prog 61 := ⟨by kernel_rfl⟩
instance : TAgg Tryd.prog 62 3 := ⟨by kernel_rfl, by kernel_rfl⟩
instance : TField Tryd.prog 62 0 35 0 1 := ⟨by kernel_rfl, by decide⟩
instance : TField Tryd.prog 62 1 3 1 1 := ⟨by kernel_rfl, by decide⟩
instance : TField Tryd.prog 62 2 4 2 1 := ⟨by kernel_rfl, by decide⟩
instance : TAgg Tryd.prog 63 3 := ⟨by kernel_rfl, by kernel_rfl⟩
instance : TField Tryd.prog 63 0 35 0 1 := ⟨by kernel_rfl, by decide⟩
instance : TField Tryd.prog 63 1 3 1 1 := ⟨by kernel_rfl, by decide⟩
instance : TField Tryd.prog 63 2 4 2 1 := ⟨by kernel_rfl, by decide⟩
instance : TCell Tryd.prog 64 := ⟨by kernel_rfl⟩
instance : TCell Tryd.prog 65 := ⟨by kernel_rfl⟩
instance : TCell Tryd.prog 66 := ⟨by kernel_rfl⟩
instance : TAgg Tryd.prog 67 7 := ⟨by kernel_rfl, by kernel_rfl⟩
instance : TField Tryd.prog 67 0 3 0 1 := ⟨by kernel_rfl, by decide⟩
instance : TField Tryd.prog 67 1 3 1 1 := ⟨by kernel_rfl, by decide⟩
instance : TField Tryd.prog 67 2 34 2 5 := ⟨by kernel_rfl, by decide⟩
instance : TAgg Tryd.prog 68 7 := ⟨by kernel_rfl, by kernel_rfl⟩
instance : TField Tryd.prog 68 0 3 0 1 := ⟨by kernel_rfl, by decide⟩
instance : TField Tryd.prog 68 1 3 1 1 := ⟨by kernel_rfl, by decide⟩
instance : TField Tryd.prog 68 2 34 2 5 := ⟨by kernel_rfl, by decide⟩
instance : TCell Tryd.prog 69 := ⟨by kernel_rfl⟩
instance : TCell Tryd.prog 70 := ⟨by kernel_rfl⟩
instance : TCell Tryd.prog 71 := ⟨by kernel_rfl⟩
instance : TAgg Tryd.prog 72 3 := ⟨by kernel_rfl, by kernel_rfl⟩
instance : TField Tryd.prog 72 0 35 0 1 := ⟨by kernel_rfl, by decide⟩
instance : TField Tryd.prog 72 1 3 1 1 := ⟨by kernel_rfl, by decide⟩
instance : TField Tryd.prog 72 2 4 2 1 := ⟨by kernel_rfl, by decide⟩
instance : TAgg Tryd.prog 73 3 := ⟨by kernel_rfl, by kernel_rfl⟩
instance : TField Tryd.prog 73 0 35 0 1 := ⟨by kernel_rfl, by decide⟩
instance : TField Tryd.prog 73 1 3 1 1 := ⟨by kernel_rfl, by decide⟩
instance : TField Tryd.prog 73 2 4 2 1 := ⟨by kernel_rfl, by decide⟩
instance : TCell Tryd.prog 74 := ⟨by kernel_rfl⟩
instance : TCell Tryd.prog 75 := ⟨by kernel_rfl⟩
instance : TCell Tryd.prog 76 := ⟨by kernel_rfl⟩
instance : TCell Tryd.prog 77 := ⟨by kernel_rfl⟩
instance : TCell Tryd.prog 78 := ⟨by kernel_rfl⟩
instance : TCell Tryd.prog 79 := ⟨by kernel_rfl⟩
instance : TCell Tryd.prog 80 := ⟨by kernel_rfl⟩
instance : TCell Tryd.prog 81 := ⟨by kernel_rfl⟩
instance : TCell Tryd.prog 82 := ⟨by kernel_rfl⟩
instance : TCell Tryd.prog 83 := ⟨by kernel_rfl⟩
instance : TInt Tryd.prog 84 .u64 := ⟨by kernel_rfl⟩
instance : TCell Tryd.prog 84 := ⟨by kernel_rfl⟩
instance : TCell Tryd.prog 85 := ⟨by kernel_rfl⟩
instance : TInt Tryd.prog 86 .u64 := ⟨by kernel_rfl⟩
instance : TCell Tryd.prog 86 := ⟨by kernel_rfl⟩
instance : TCell Tryd.prog 87 := ⟨by kernel_rfl⟩
instance : TCell Tryd.prog 88 := ⟨by kernel_rfl⟩
instance : TCell Tryd.prog 89 := ⟨by kernel_rfl⟩
instance : TCell Tryd.prog 90 := ⟨by kernel_rfl⟩
instance : TCell Tryd.prog 91 := ⟨by kernel_rfl⟩
instance : TInt Tryd.prog 92 .i64 := ⟨by kernel_rfl⟩
instance : TCell Tryd.prog 92 := ⟨by kernel_rfl⟩
instance : TCell Tryd.prog 93 := ⟨by kernel_rfl⟩
instance : TCell Tryd.prog 94 := ⟨by kernel_rfl⟩
instance : TCell Tryd.prog 95 := ⟨by kernel_rfl⟩
instance : TCell Tryd.prog 96 := ⟨by kernel_rfl⟩
instance : TCell Tryd.prog 97 := ⟨by kernel_rfl⟩
instance : TCell Tryd.prog 98 := ⟨by kernel_rfl⟩
instance : TInt Tryd.prog 99 .u32 := ⟨by kernel_rfl⟩
instance : TCell Tryd.prog 99 := ⟨by kernel_rfl⟩
instance : TCell Tryd.prog 100 := ⟨by kernel_rfl⟩
instance : TCell Tryd.prog 101 := ⟨by kernel_rfl⟩
instance : TCell Tryd.prog 102 := ⟨by kernel_rfl⟩
instance : TInt Tryd.prog 103 .u64 := ⟨by kernel_rfl⟩
instance : TCell Tryd.prog 103 := ⟨by kernel_rfl⟩
instance : TCell Tryd.prog 104 := ⟨by kernel_rfl⟩
instance : TCell Tryd.prog 105 := ⟨by kernel_rfl⟩
instance : TCell Tryd.prog 106 := ⟨by kernel_rfl⟩
instance : TPtr Tryd.prog 107 := ⟨3, by kernel_rfl⟩
instance : TCell Tryd.prog 107 := ⟨by kernel_rfl⟩
instance : TCell Tryd.prog 108 := ⟨by kernel_rfl⟩
instance : TCell Tryd.prog 109 := ⟨by kernel_rfl⟩
instance : TSlice Tryd.prog 110 113 4 := ⟨by kernel_rfl, by kernel_rfl⟩
instance : TCell Tryd.prog 110 := ⟨by kernel_rfl⟩
instance : TCell Tryd.prog 111 := ⟨by kernel_rfl⟩
instance : TAgg Tryd.prog 112 4 := ⟨by kernel_rfl, by kernel_rfl⟩
instance : TField Tryd.prog 112 0 3 0 1 := ⟨by kernel_rfl, by decide⟩
instance : TField Tryd.prog 112 1 3 1 1 := ⟨by kernel_rfl, by decide⟩
instance : TField Tryd.prog 112 2 21 2 1 := ⟨by kernel_rfl, by decide⟩
instance : TField Tryd.prog 112 3 4 3 1 := ⟨by kernel_rfl, by decide⟩
instance : TAgg Tryd.prog 113 4 := ⟨by kernel_rfl, by kernel_rfl⟩
instance : TField Tryd.prog 113 0 3 0 1 := ⟨by kernel_rfl, by decide⟩
instance : TField Tryd.prog 113 1 3 1 1 := ⟨by kernel_rfl, by decide⟩
instance : TField Tryd.prog 113 2 21 2 1 := ⟨by kernel_rfl, by decide⟩
instance : TField Tryd.prog 113 3 4 3 1 := ⟨by kernel_rfl, by decide⟩
instance : TPtr Tryd.prog 114 := ⟨103, by kernel_rfl⟩
instance : TCell Tryd.prog 114 := ⟨by kernel_rfl⟩
instance : TCell Tryd.prog 115 := ⟨by kernel_rfl⟩
instance : TCell Tryd.prog 116 := ⟨by kernel_rfl⟩
instance : TCell Tryd.prog 117 := ⟨by kernel_rfl⟩
instance : TCell Tryd.prog 118 := ⟨by kernel_rfl⟩
instance : TAgg Tryd.prog 119 256 := ⟨by kernel_rfl, by kernel_rfl⟩
instance : TArr Tryd.prog 119 256 5 1 := ⟨by kernel_rfl, by kernel_rfl⟩
instance : TAgg Tryd.prog 120 2 := ⟨by kernel_rfl, by kernel_rfl⟩
instance : TField Tryd.prog 120 0 5 0 1 := ⟨by kernel_rfl, by decide⟩
instance : TField Tryd.prog 120 1 5 1 1 := ⟨by kernel_rfl, by decide⟩
instance : TAgg Tryd.prog 121 2 := ⟨by kernel_rfl, by kernel_rfl⟩
instance : TField Tryd.prog 121 0 5 0 1 := ⟨by kernel_rfl, by decide⟩
instance : TField Tryd.prog 121 1 5 1 1 := ⟨by kernel_rfl, by decide⟩
instance : TAgg Tryd.prog 122 32 := ⟨by kernel_rfl, by kernel_rfl⟩
instance : TArr Tryd.prog 122 16 121 2 := ⟨by kernel_rfl, by kernel_rfl⟩
instance : TCell Tryd.prog 123 := ⟨by kernel_rfl⟩
instance : TCell Tryd.prog 124 := ⟨by kernel_rfl⟩
instance : TCell Tryd.prog 125 := ⟨by kernel_rfl⟩
instance : TAgg Tryd.prog 126 4 := ⟨by kernel_rfl, by kernel_rfl⟩
instance : TField Tryd.prog 126 0 17 0 1 := ⟨by kernel_rfl, by decide⟩
instance : TField Tryd.prog 126 1 17 1 1 := ⟨by kernel_rfl, by decide⟩
instance : TField Tryd.prog 126 2 17 2 1 := ⟨by kernel_rfl, by decide⟩
instance : TField Tryd.prog 126 3 9 3 1 := ⟨by kernel_rfl, by decide⟩
instance : TAgg Tryd.prog 127 4 := ⟨by kernel_rfl, by kernel_rfl⟩
instance : TField Tryd.prog 127 0 17 0 1 := ⟨by kernel_rfl, by decide⟩
instance : TField Tryd.prog 127 1 17 1 1 := ⟨by kernel_rfl, by decide⟩
instance : TField Tryd.prog 127 2 17 2 1 := ⟨by kernel_rfl, by decide⟩
instance : TField Tryd.prog 127 3 9 3 1 := ⟨by kernel_rfl, by decide⟩
instance : TAgg Tryd.prog 128 0 := ⟨by kernel_rfl, by kernel_rfl⟩
instance : TArr Tryd.prog 128 0 16 1 := ⟨by kernel_rfl, by kernel_rfl⟩
instance : TAgg Tryd.prog 129 0 := ⟨by kernel_rfl, by kernel_rfl⟩
instance : TAgg Tryd.prog 130 0 := ⟨by kernel_rfl, by kernel_rfl⟩
instance : TInt Tryd.prog 131 .u8 := ⟨by kernel_rfl⟩
instance : TCell Tryd.prog 131 := ⟨by kernel_rfl⟩
instance : TInt Tryd.prog 132 .u8 := ⟨by kernel_rfl⟩
instance : TCell Tryd.prog 132 := ⟨by kernel_rfl⟩
instance : TCell Tryd.prog 133 := ⟨by kernel_rfl⟩
instance : TPtr Tryd.prog 134 := ⟨5, by kernel_rfl⟩
instance : TCell Tryd.prog 134 := ⟨by kernel_rfl⟩
instance : TInt Tryd.prog 135 .i32 := ⟨by kernel_rfl⟩
instance : TCell Tryd.prog 135 := ⟨by kernel_rfl⟩
instance : TInt Tryd.prog 136 .i32 := ⟨by kernel_rfl⟩
instance : TCell Tryd.prog 136 := ⟨by kernel_rfl⟩
instance : TAgg Tryd.prog 137 11 := ⟨by kernel_rfl, by kernel_rfl⟩
instance : TField Tryd.prog 137 0 12 0 1 := ⟨by kernel_rfl, by decide⟩
instance : TField Tryd.prog 137 1 12 1 1 := ⟨by kernel_rfl, by decide⟩
instance : TField Tryd.prog 137 2 99 2 1 := ⟨by kernel_rfl, by decide⟩
instance : TField Tryd.prog 137 3 131 3 1 := ⟨by kernel_rfl, by decide⟩
instance : TField Tryd.prog 137 4 5 4 1 := ⟨by kernel_rfl, by decide⟩
instance : TField Tryd.prog 137 5 5 5 1 := ⟨by kernel_rfl, by decide⟩
instance : TField Tryd.prog 137 6 132 6 1 := ⟨by kernel_rfl, by decide⟩
instance : TField Tryd.prog 137 7 133 7 1 := ⟨by kernel_rfl, by decide⟩
instance : TField Tryd.prog 137 8 134 8 1 := ⟨by kernel_rfl, by decide⟩
instance : TField Tryd.prog 137 9 135 9 1 := ⟨by kernel_rfl, by decide⟩
instance : TField Tryd.prog 137 10 136 10 1 := ⟨by kernel_rfl, by decide⟩
instance : TAgg Tryd.prog 138 11 := ⟨by kernel_rfl, by kernel_rfl⟩
instance : TField Tryd.prog 138 0 12 0 1 := ⟨by kernel_rfl, by decide⟩
instance : TField Tryd.prog 138 1 12 1 1 := ⟨by kernel_rfl, by decide⟩
instance : TField Tryd.prog 138 2 99 2 1 := ⟨by kernel_rfl, by decide⟩
instance : TField Tryd.prog 138 3 131 3 1 := ⟨by kernel_rfl, by decide⟩
instance : TField Tryd.prog 138 4 5 4 1 := ⟨by kernel_rfl, by decide⟩
instance : TField Tryd.prog 138 5 5 5 1 := ⟨by kernel_rfl, by decide⟩
instance : TField Tryd.prog 138 6 132 6 1 := ⟨by kernel_rfl, by decide⟩
instance : TField Tryd.prog 138 7 133 7 1 := ⟨by kernel_rfl, by decide⟩
instance : TField Tryd.prog 138 8 134 8 1 := ⟨by kernel_rfl, by decide⟩
instance : TField Tryd.prog 138 9 135 9 1 := ⟨by kernel_rfl, by decide⟩
instance : TField Tryd.prog 138 10 136 10 1 := ⟨by kernel_rfl, by decide⟩
instance : TCell Tryd.prog 139 := ⟨by kernel_rfl⟩
instance : Ent Tryd.prog 2 := ⟨by kernel_rfl⟩
instance : Ent Tryd.prog 3 := ⟨by kernel_rfl⟩
instance : Ent Tryd.prog 4 := ⟨by kernel_rfl⟩
instance : Ent Tryd.prog 5 := ⟨by kernel_rfl⟩
instance : Ent Tryd.prog 6 := ⟨by kernel_rfl⟩
instance : Ent Tryd.prog 7 := ⟨by kernel_rfl⟩
instance : Ent Tryd.prog 8 := ⟨by kernel_rfl⟩
instance : Ent Tryd.prog 9 := ⟨by kernel_rfl⟩
instance : Ent Tryd.prog 10 := ⟨by kernel_rfl⟩
instance : Ent Tryd.prog 11 := ⟨by kernel_rfl⟩
instance : Ent Tryd.prog 12 := ⟨by kernel_rfl⟩
instance : Ent Tryd.prog 13 := ⟨by kernel_rfl⟩
instance : Ent Tryd.prog 14 := ⟨by kernel_rfl⟩
instance : Ent Tryd.prog 15 := ⟨by kernel_rfl⟩
instance : Ent Tryd.prog 16 := ⟨by kernel_rfl⟩
instance : Ent Tryd.prog 17 := ⟨by kernel_rfl⟩
instance : Ent Tryd.prog 18 := ⟨by kernel_rfl⟩
instance : Ent Tryd.prog 19 := ⟨by kernel_rfl⟩
instance : Ent Tryd.prog 20 := ⟨by kernel_rfl⟩
instance : Ent Tryd.prog 21 := ⟨by kernel_rfl⟩
instance : Ent Tryd.prog 22 := ⟨by kernel_rfl⟩
instance : Ent Tryd.prog 23 := ⟨by kernel_rfl⟩
instance : Ent Tryd.prog 24 := ⟨by kernel_rfl⟩
instance : Ent Tryd.prog 25 := ⟨by kernel_rfl⟩
instance : Ent Tryd.prog 26 := ⟨by kernel_rfl⟩
instance : Ent Tryd.prog 27 := ⟨by kernel_rfl⟩
instance : Ent Tryd.prog 28 := ⟨by kernel_rfl⟩
instance : Ent Tryd.prog 29 := ⟨by kernel_rfl⟩
instance : Ent Tryd.prog 30 := ⟨by kernel_rfl⟩
instance : Ent Tryd.prog 31 := ⟨by kernel_rfl⟩
instance : Ent Tryd.prog 32 := ⟨by kernel_rfl⟩
instance : Ent Tryd.prog 33 := ⟨by kernel_rfl⟩
instance : Ent Tryd.prog 34 := ⟨by kernel_rfl⟩
instance : Ent Tryd.prog 35 := ⟨by kernel_rfl⟩
instance : Ent Tryd.prog 36 := ⟨by kernel_rfl⟩
instance : Ent Tryd.prog 37 := ⟨by kernel_rfl⟩
instance : Ent Tryd.prog 38 := ⟨by kernel_rfl⟩
instance : Ent Tryd.prog 39 := ⟨by kernel_rfl⟩
instance : Ent Tryd.prog 40 := ⟨by kernel_rfl⟩
instance : Ent Tryd.prog 41 := ⟨by kernel_rfl⟩
instance : Ent Tryd.prog 42 := ⟨by kernel_rfl⟩
instance : Ent Tryd.prog 43 := ⟨by kernel_rfl⟩
instance : Ent Tryd.prog 44 := ⟨by kernel_rfl⟩
instance : Ent Tryd.prog 45 := ⟨by kernel_rfl⟩
instance : Ent Tryd.prog 46 := ⟨by kernel_rfl⟩
instance : Ent Tryd.prog 47 := ⟨by kernel_rfl⟩
instance : Ent Tryd.prog 48 := ⟨by kernel_rfl⟩
instance : Ent Tryd.prog 49 := ⟨by kernel_rfl⟩
instance : Ent Tryd.prog 50 := ⟨by kernel_rfl⟩
instance : Ent Tryd.prog 51 := ⟨by kernel_rfl⟩
instance : Ent Tryd.prog 52 := ⟨by kernel_rfl⟩
instance : Ent Tryd.prog 53 := ⟨by kernel_rfl⟩
instance : Ent Tryd.prog 54 := ⟨by kernel_rfl⟩
instance : Ent Tryd.prog 55 := ⟨by kernel_rfl⟩
instance : Ent Tryd.prog 56 := ⟨by kernel_rfl⟩
instance : Ent Tryd.prog 57 := ⟨by kernel_rfl⟩
instance : Ent Tryd.prog 58 := ⟨by kernel_rfl⟩
instance : Ent Tryd.prog 59 := ⟨by kernel_rfl⟩
instance : Ent Tryd.prog 60 := ⟨by kernel_rfl⟩
instance : Ent Tryd.prog 61 := ⟨by kernel_rfl⟩
instance : Ent Tryd.prog 62 := ⟨by kernel_rfl⟩
instance : Ent Tryd.prog 63 := ⟨by kernel_rfl⟩
instance : Ent Tryd.prog 64 := ⟨by kernel_rfl⟩
instance : Ent Tryd.prog 65 := ⟨by kernel_rfl⟩
instance : Ent Tryd.prog 66 := ⟨by kernel_rfl⟩
instance : Ent Tryd.prog 67 := ⟨by kernel_rfl⟩
instance : Ent Tryd.prog 68 := ⟨by kernel_rfl⟩
instance : Ent Tryd.prog 69 := ⟨by kernel_rfl⟩
instance : Ent Tryd.prog 70 := ⟨by kernel_rfl⟩
instance : Ent Tryd.prog 71 := ⟨by kernel_rfl⟩
instance : Ent Tryd.prog 72 := ⟨by kernel_rfl⟩
instance : Ent Tryd.prog 73 := ⟨by kernel_rfl⟩
instance : Ent Tryd.prog 74 := ⟨by kernel_rfl⟩
instance : Ent Tryd.prog 75 := ⟨by kernel_rfl⟩
instance : Ent Tryd.prog 76 := ⟨by kernel_rfl⟩
instance : Ent Tryd.prog 77 := ⟨by kernel_rfl⟩
instance : Ent Tryd.prog 78 := ⟨by kernel_rfl⟩
instance : Ent Tryd.prog 79 := ⟨by kernel_rfl⟩
instance : Ent Tryd.prog 80 := ⟨by kernel_rfl⟩
instance : Ent Tryd.prog 81 := ⟨by kernel_rfl⟩
instance : Ent Tryd.prog 82 := ⟨by kernel_rfl⟩
instance : Ent Tryd.prog 83 := ⟨by kernel_rfl⟩
instance : Ent Tryd.prog 84 := ⟨by kernel_rfl⟩
instance : Ent Tryd.prog 85 := ⟨by kernel_rfl⟩
instance : Ent Tryd.prog 86 := ⟨by kernel_rfl⟩
instance : Ent Tryd.prog 109 := ⟨by kernel_rfl⟩
end Go.Proofs.YtnjhdbgejhnpfaaDoor
end

section
namespace Go.Proofs.YtnjhdbgejhnpfaaDoor
set_option linter.unusedVariables false
open Go.RowKit

theorem Own.cap {w : World} {B : Nat} {A : Option Addr} {n c : Nat} {l : List UInt8} (h : Own w B (.slice A n c) n l) : n ≤ c := by
  rcases h.2 with ⟨e, _⟩ | ⟨g, cap, cur, e, _, _, hnc, _⟩
  · injection e with e1 e2 e3; omega
  · injection e with e1 e2 e3; omega
end Go.Proofs.YtnjhdbgejhnpfaaDoor
end

section
set_option maxRecDepth 10000
namespace Go.Proofs.YtnjhdbgejhnpfaaDoor
set_option linter.unusedVariables false
open Go.RowKit

section
variable {S : World → Prop} {w W : World}
theorem AppB.of {w : World} {B n : Nat} {A : Option Addr} {l : List UInt8} (h : Reads w B 1 A n (bv l)) : AppB w B (.slice A n n) n l := .inr ⟨A, rfl, h, h.none_zero⟩
theorem growBy_le {need : Nat} : ∀ (r c : Nat), Builtin.growBy need r c ≤ max c (need + (need + 768) / 4)
  | 0, c => by unfold Builtin.growBy; omega
  | r + 1, c => by
    unfold Builtin.growBy
    split
    · omega
    · have := growBy_le (need := need) r (c + (c + 768) / 4)
      omega
theorem fits_big {need old : Nat} (h : old < need) (hb : need ≤ 211106232532992) : Builtin.nextslicecap need old * 1 ≤ 281474976710656 := by
  unfold Builtin.nextslicecap
  split
  · omega
  · split
    · omega
    · have := growBy_le (need := need) 4 old
      omega
/-- where there is no room: a new row -/
theorem grow_big {ty : TypeId} {n cap : Nat} {b : Option Addr} {olds : List UInt8} {C m c : Nat} {A : Option Addr} {news : List UInt8} (hro : Reads w C 1 b n (bv olds)) (hnil : b = none → cap = 0) (hr : Reads w C 1 A m (bv news)) (hg : cap < n + m) (hn : n ≤ cap)
    (hb : n + m ≤ 211106232532992) :
    ∃ v' w', (Builtin.append_ #[35, 35] ty #[.slice b n cap, .slice A m c]).run Tryd.prog w = .ok v' w' ∧ Own w' w.heap.size v' (n + m) (olds ++ news) ∧ w.grownBy w' none := by
  obtain ⟨i0, hi0, hz0, hz1, hz2⟩ := info_parts u8_info
  have ht : (Tryd.prog).underlying 35 = some (.slice 5) := Tryd.underlying35
  have hlo : olds.length = n := by have := hro.1; rw [bv_length] at this; omega
  have hln : news.length = m := by have := hr.1; rw [bv_length] at this; omega
  have hfit := fits_big hg hb
  have hge := grownCap_ge w (n + m) cap 5
  have hcm : grownCap w (n + m) cap 5 ≤ maxLen := grownCap_le_maxLen w (n + m) cap 5 (by simp only [maxLen]; omega)
  have made : Own (w.drew.alloc (.cells ((bv olds).toArray ++ (bv news).toArray ++ Builtin.zeroCells (Value.int .u8 0).cells (grownCap w (n + m) cap 5 - (n + m))) 5)) w.heap.size
      (.slice (some ⟨w.heap.size, 0, none⟩) (n + m) (grownCap w (n + m) cap 5)) (n + m) (olds ++ news) := by
    refine ⟨by rw [bv_length]; simp [hlo, hln], .inr ⟨w.heap.size, _, _, rfl, Nat.le_refl _, heap_alloc_new w.drew _, hge, hcm, ?_, ?_⟩⟩
    · simp only [Array.size_append, List.size_toArray, size_zeroCells, bv_length, hlo, hln, Value.cells]
      simp
      omega
    · rw [bv_append]
      simp only [Array.toList_append, List.append_assoc]
      rw [← List.append_assoc]
      have e : (n + m) * 1 = (bv olds ++ bv news).length := by simp [bv_length, hlo, hln]
      rw [e]
      exact List.take_left
  obtain ⟨hnews, a, hA⟩ : (0 < m → ∃ a, A = some a ∧ ∀ j u, (bv news)[j]? = some u → w.cell? (a.add j) = some u) ∧ ∃ a : Addr, True := ⟨fun hm => by obtain ⟨a, e, _, h⟩ := hr.2 hm; exact ⟨a, e, h⟩, default, trivial⟩
  obtain ⟨a, rfl, hc⟩ := hnews (by omega)
  cases b with
  | none =>
    have hc0 := hnil rfl
    subst hc0
    have hn0 : n = 0 := by omega
    subst hn0
    have ho : olds = [] := List.eq_nil_of_length_eq_zero hlo
    subst ho
    have hr := run_append_nil (P := Tryd.prog) w 35 ty 5 i0 _ ht hi0 hz0 a m c (bv news) (by rw [hz1, bv_length]; omega) hc (by omega) (by omega) (by rw [hz2]; omega)
    simp only [bv, List.map_nil, Array.empty_append, Nat.zero_add, List.nil_append] at made hr ⊢
    exact ⟨_, _, hr, made, ⟨rfl, rfl, rfl, by simp, fun k hk _ => heap_alloc_old w.drew _ hk⟩⟩
  | some b =>
    have holds : ∀ j u, (bv olds)[j]? = some u → w.cell? (b.add j) = some u := fun j u hu => by
      have h0 : 0 < n := by have h1 := (List.getElem?_eq_some_iff.1 hu).1; rw [bv_length] at h1; omega
      obtain ⟨b', e, _, h⟩ := hro.2 h0
      injection e with e
      subst e
      exact h j u hu
    have hr := run_append_grow (P := Tryd.prog) w 35 ty 5 i0 _ ht hi0 hz0 b n cap (bv olds) (by rw [hz1, bv_length]; omega) holds a m c (bv news) (by rw [hz1, bv_length]; omega) hc hg (by omega) (by rw [hz2]; exact hfit)
    exact ⟨_, _, hr, made, ⟨rfl, rfl, rfl, by simp, fun k hk _ => heap_alloc_old w.drew _ hk⟩⟩
theorem keep_nil {ty : TypeId} {b : Option Addr} {n cap c : Nat} {A : Option Addr} (hn : n ≤ cap) :
    (Builtin.append_ #[35, 35] ty #[.slice b n cap, .slice A 0 c]).run Tryd.prog w = .ok (.slice b (n + 0) cap) w := by
  obtain ⟨i0, hi0, hz0, hz1, hz2⟩ := info_parts u8_info
  have ht : (Tryd.prog).underlying 35 = some (.slice 5) := Tryd.underlying35
  cases A with
  | none => cases b <;> simp [Builtin.append_, run_underlying ht, sizeOf, typeInfo, hi0, Builtin.lenOf, Builtin.firstCells, storeCells, hn]
  | some ad => cases b <;> simp [Builtin.append_, run_underlying ht, sizeOf, typeInfo, hi0, hz1, Builtin.lenOf, Builtin.firstCells, storeCells, loadCells, loadCellsFrom, hn]
/-- append(b, x...), b the call's own -/
theorem VSem.appO {ty : TypeId} {B : Nat} {v : Value} {n : Nat} {l : List UInt8} {C : Nat} {A : Option Addr} {m c : Nat} {news : List UInt8} {K : Value → World → Prop} (hown : Own w B v n l) (hr : Reads w C 1 A m (bv news))
    (hbytes : n + m ≤ 211106232532992) (hbase : B ≤ w.heap.size)
    (h : ∀ A' c' w', Own w' B (.slice A' (n + m) c') (n + m) (l ++ news) → w.grownBy w' v.ownBlock → Below B w w' → K (.slice A' (n + m) c') w') :
    VSem Tryd.prog (Builtin.append_ #[35, 35] ty [v, .slice A m c].toArray) w K := by
  have hlt : ∀ k, v.ownBlock = some k → B ≤ k := fun k hk => (World.ownsRow.lt hown k hk).1
  have fin : ∀ v' w', (Builtin.append_ #[35, 35] ty #[v, .slice A m c]).run Tryd.prog w = .ok v' w' → Own w' B v' (n + m) (l ++ news) → w.grownBy w' v.ownBlock →
      VSem Tryd.prog (Builtin.append_ #[35, 35] ty [v, .slice A m c].toArray) w K := fun v' w' h1 hO hg => by
    obtain ⟨A', c', rfl⟩ := hO.form
    exact .of h1 (h A' c' w' hO hg ((Below.refl _ _).grown hg hbase hlt))
  by_cases hm : m = 0
  · subst hm
    have hn0 : news = [] := List.eq_nil_of_length_eq_zero (by have := hr.1; rw [bv_length] at this; omega)
    subst hn0
    rcases hown.2 with ⟨rfl, rfl⟩ | ⟨g, cap, cur, rfl, _, _, hnc, _⟩
    · exact fin _ _ (keep_nil (Nat.le_refl _)) (by simpa using hown) (World.grownBy.refl w _)
    · exact fin _ _ (keep_nil hnc) (by simpa using hown) (World.grownBy.refl w _)
  · have hrd := hown
    rcases hown.2 with ⟨rfl, rfl⟩ | ⟨g, cap, cur, rfl, hbg, hg, hnc, hcm, hcs, htake⟩
    · have hl0 : l = [] := List.eq_nil_of_length_eq_zero (by have := hown.1; rw [bv_length] at this; omega)
      subst hl0
      obtain ⟨v', w', h1, h2, h3⟩ := grow_big (ty := ty) (n := 0) (cap := 0) (b := none) (olds := []) (C := C) Reads.none_ (fun _ => rfl) hr (by omega) (Nat.le_refl _) hbytes
      exact fin v' w' h1 (h2.more hbase) ⟨h3.os, h3.tape, h3.output, h3.size, fun i hi _ => h3.block i hi (by simp)⟩
    · by_cases hroom : n + m ≤ cap
      · obtain ⟨i0, hi0, hz0, hz1, hz2⟩ := info_parts u8_info
        obtain ⟨a, rfl, _, hc⟩ := hr.2 (by omega)
        have hln : (bv news).length = m := by have := hr.1; omega
        have hfit : n * i0.size + (bv news).length ≤ cur.size := by rw [hln, hcs, hz1]; omega
        have h1 := run_append_room (P := Tryd.prog) w 35 ty 5 i0 Tryd.underlying35 hi0 g n cap cur hg a m c (bv news) (by rw [hln, hz1]; omega) hc (bv_one _) hroom hfit
        have hlo : (bv l).length = n := by have := hown.1; omega
        refine fin _ _ h1 ⟨by rw [bv_length, List.length_append]; rw [bv_length] at hlo hln; omega, .inr ⟨g, cap, _, rfl, hbg, setRow_heap w g cur _ 5 _ hg, hroom, hcm, ?_, ?_⟩⟩ ⟨rfl, rfl, rfl, by simp, fun k _ hk => setRow_other w g k _ (fun e => hk (by simp [Value.ownBlock, e]))⟩
        · simp only [List.size_toArray, List.length_append, List.length_take, List.length_drop, Array.length_toList]
          omega
        · rw [hz1, htake, bv_append]
          have e : (n + m) * 1 = (bv l ++ bv news).length := by rw [List.length_append, hlo, hln]; omega
          rw [e]
          exact List.take_left
      · obtain ⟨v', w', h1, h2, h3⟩ := grow_big (ty := ty) (n := n) (cap := cap) (b := some ⟨g, 0, none⟩) (olds := l) (C := max w.heap.size C) ((Reads.of_own hown).more (by omega)) (fun e => by cases e) (hr.more (by omega)) (by omega) hnc hbytes
        exact fin v' w' h1 (h2.more hbase) ⟨h3.os, h3.tape, h3.output, h3.size, fun i hi _ => h3.block i hi (by simp)⟩
end
end Go.Proofs.YtnjhdbgejhnpfaaDoor
end

section
set_option maxRecDepth 10000
namespace Go.Proofs.YtnjhdbgejhnpfaaDoor
set_option linter.unusedVariables false
open Go.RowKit

section
variable {P : Program} {S : World → Prop} {w W : World}
def setFrom (cs : Array Value) (i : Nat) : List Value → Array Value
  | [] => cs
  | v :: r => setFrom (cs.setIfInBounds i v) (i + 1) r
theorem run_storeCells_blk {g : Nat} {T : TypeId} : ∀ (vs : List Value) (i : Nat) (w : World) (cs : Array Value), Blk w g T cs → (∀ v ∈ vs, v.oneCell' = true) → i + vs.length ≤ cs.size →
    ∃ w', (storeCells ⟨g, 0, none⟩ vs i).run P w = .ok () w' ∧ Blk w' g T (setFrom cs i vs) ∧ w.grownBy w' (some g)
  | [], i, w, cs, hb, h1, hl => ⟨w, rfl, hb, only_refl w g⟩
  | v :: r, i, w, cs, hb, h1, hl => by
    simp only [List.length_cons] at hl
    have ha : (⟨g, 0, none⟩ : Addr).add i = ⟨g, i, none⟩ := by unfold Addr.add; split <;> simp_all
    have hc : w.cell? ⟨g, i, none⟩ = some cs[i] := by rw [hb.cell i]; exact Array.getElem?_eq_getElem (by omega)
    have hf := hb.frozen i
    have e2 : (store ⟨g, i, none⟩ v).run P w = .ok () (w.setCell ⟨g, i, none⟩ v) := by
      have hv := h1 v (by simp)
      cases v <;> first | (cases hv; done) | simp [store, Sem.run, hc, hf]
    obtain ⟨w', h2, h3, h4⟩ := run_storeCells_blk r (i + 1) (w.setCell ⟨g, i, none⟩ v) (cs.setIfInBounds i v) (hb.set_ i v) (fun u hu => h1 u (List.mem_cons_of_mem _ hu)) (by simp; omega)
    refine ⟨w', ?_, h3, only_trans (only_setCell (only_refl w g) (.inl rfl) _) h4⟩
    unfold storeCells
    rw [ha, Sem.run_bind, e2]
    exact h2
theorem VUnit.storeAB {t T g k : Nat} {p : Addr} {cs vs : Array Value} {K : World → Prop} [a : TAgg P t k] (hb : Blk w g T cs) (hp : p = ⟨g, 0, none⟩) (hs : Nat.beq vs.size k = true) (hk : Nat.ble k cs.size = true) (h1 : ∀ v ∈ vs.toList, v.oneCell' = true)
    (h : ∀ w', Blk w' g T (setFrom cs 0 vs.toList) → w.grownBy w' (some g) → K w') : VUnit P (Instr.storeAt t (.pointer (some p)) (.agg vs)) w K := by
  subst hp
  have e := Nat.eq_of_beq_eq_true hs
  have l := Nat.le_of_ble_eq_true hk
  obtain ⟨w', h2, h3, h4⟩ := run_storeCells_blk (P := P) vs.toList 0 w cs hb h1 (by rw [Array.length_toList]; omega)
  refine .of (w' := w') ?_ (h w' h3 h4)
  unfold Instr.storeAt Instr.sureAddr storeVar
  simp [run_size a.s, Value.cells, e]
  exact h2
theorem run_isAgg_agg {t k : Nat} (a : TAgg P t k) : (isAgg t).run P W = .ok true W := by
  have h := a.a
  unfold isAgg
  cases hu : P.underlying t with
  | none => rw [hu] at h; cases h
  | some d =>
    simp only [Sem.run_bind, run_underlying hu, Result.andThen_ok]
    rw [hu] at h
    cases d <;> first | rfl | cases h
theorem run_load_agg {t T g k : Nat} {cs : Array Value} (a : TAgg P t k) (hb : Blk W g T cs) (hs : cs.size = k) : (Instr.loadAt t (.pointer (some ⟨g, 0, none⟩))).run P W = .ok (.agg cs) W := by
  have hl : (loadCells ⟨g, 0, none⟩ k).run P W = .ok cs W := by
    have := run_loadCells_list (P := P) W ⟨g, 0, none⟩ cs.toList (fun j v hj => by
      rw [show (⟨g, 0, none⟩ : Addr).add j = ⟨g, j, none⟩ from by unfold Addr.add; split <;> simp_all, hb.cell j]
      simpa using hj)
    rw [Array.length_toList, hs] at this
    simpa using this
  unfold Instr.loadAt Instr.sureAddr loadVar
  simp [run_isAgg_agg a, run_size a.s, hl]
theorem VRead.loadAB {t T g k : Nat} {p : Addr} {cs : Array Value} {K : Value → Prop} [a : TAgg P t k] (hb : ∀ W, S W → Blk W g T cs) (hp : p = ⟨g, 0, none⟩) (hs : Nat.beq cs.size k = true) (hk : K (.agg cs)) : VRead P S (Instr.loadAt t (.pointer (some p))) K := by
  subst hp
  exact .of (fun W hW => run_load_agg a (hb W hW) (Nat.eq_of_beq_eq_true hs)) hk
theorem VRead.loadAB1 {t T g k : Nat} {p : Addr} {cs : Array Value} {K : Value → Prop} [a : TAgg P t k] (hb : Blk w g T cs) (hp : p = ⟨g, 0, none⟩) (hs : Nat.beq cs.size k = true) (hk : K (.agg cs)) : VRead P (Eq w) (Instr.loadAt t (.pointer (some p))) K :=
  .loadAB (fun W e => e ▸ hb) hp hs hk
/-- a cell of a block that is known whole -/
theorem VRead.loadB {t T g i : Nat} {p : Addr} {cs : Array Value} {v : Value} {K : Value → Prop} [c : TCell P t] (hb : Blk w g T cs) (hp : p = ⟨g, i, none⟩) (hv : cs.toList[i]? = some v) (hk : K v) : VRead P (Eq w) (Instr.loadAt t (.pointer (some p))) K := by
  subst hp
  exact .load1 (by rw [hb.cell i, ← hv]; simp) hk
/-- a new variable, all zero -/
theorem VSem.allocZ {t : TypeId} {z : Value} {K : Value → World → Prop} (hz : ((P.info? t).bind (·.zero)) = some z) (h : ∀ w' g, Blk w' g t z.cells → g = w.heap.size → g < w'.heap.size → Below w.heap.size w w' → K (.pointer (some ⟨g, 0, none⟩)) w') :
    VSem P (Instr.alloc t true (.tuple #[])) w K := by
  refine .of (v := .pointer (some ⟨w.heap.size, 0, none⟩)) (w' := w.alloc (.cells z.cells t)) ?_ (h _ _ (Blk.new w t _) rfl (by simp) ((Below.refl _ _).alloc (Nat.le_refl _) _))
  cases hi : P.info? t with
  | none => rw [hi] at hz; cases hz
  | some i =>
    rw [hi] at hz
    simp only [Option.bind_some] at hz
    simp [Instr.alloc, zeroValue, typeInfo, hi, hz, newVar, newRow]
/-- a value put into a new variable -/
theorem VSem.boxB {t : TypeId} {v : Value} {K : Value → World → Prop} (h : ∀ w' g, Blk w' g t v.cells → g = w.heap.size → g < w'.heap.size → Below w.heap.size w w' → K (.pointer (some ⟨g, 0, none⟩)) w') : VSem P (Instr.box t v) w K := by
  refine .of (v := .pointer (some ⟨w.heap.size, 0, none⟩)) (w' := w.alloc (.cells v.cells t)) ?_ (h _ _ (Blk.new w t _) rfl (by simp) ((Below.refl _ _).alloc (Nat.le_refl _) _))
  simp [Instr.box, newVar, newRow]
/-- a struct's result in a variable of its own, and a truth -/
theorem VRes.cellTmp {a u t T g k : Nat} {σ : Env} {cs : Array Value} {R : Ending → World → Prop} [i : TAgg P t k] (ha : σ a = .pointer (some ⟨g, 0, none⟩)) (hb : Blk w g T cs) (hs : Nat.beq cs.size k = true) (h : R (.returned (.tuple #[.agg cs, σ u])) w) :
    VRes P [.cell a t, .tmp u] σ w R := by
  have h2 := run_load_agg (P := P) i hb (Nat.eq_of_beq_eq_true hs)
  unfold Instr.loadAt Instr.sureAddr at h2
  simp only [Sem.run_bind, Sem.run_pure, Result.andThen_ok] at h2
  exact ⟨⟨_, by simp [resE, ha, asAddr, h2], h⟩⟩
end
end Go.Proofs.YtnjhdbgejhnpfaaDoor
end

section
set_option maxRecDepth 10000
namespace Go.Proofs.YtnjhdbgejhnpfaaDoor
set_option linter.unusedVariables false
open Go.RowKit

/-- an iterator over a string -/
def It (w : World) (g : Nat) (s : ByteArray) (pos : Nat) : Prop := w.heap[g]? = some (.stringIter s pos)
theorem It.below {w w' : World} {g pos B : Nat} {s : ByteArray} (h : It w g s pos) (hb : Below B w w') (hB : g < B) : It w' g s pos := by
  unfold It at *
  rw [hb.block g hB]; exact h
theorem It.lt {w : World} {g pos : Nat} {s : ByteArray} (h : It w g s pos) : g < w.heap.size := (Array.getElem?_eq_some_iff.1 h).1
/-- only block g has turned -/
structure Only (g : Nat) (w w' : World) : Prop where
  os : w'.os = w.os
  tape : w'.tape = w.tape
  output : w'.output = w.output
  size : w'.heap.size = w.heap.size
  block : ∀ j, j ≠ g → w'.heap[j]? = w.heap[j]?
theorem Only.below {g B : Nat} {w w' : World} (h : Only g w w') (hB : B ≤ g) : Below B w w' := ⟨h.os, h.tape, h.output, Nat.le_of_eq h.size.symm, fun j hj => h.block j (by omega)⟩
theorem Only.grown {g : Nat} {w w' : World} (h : Only g w w') : w.grownBy w' (some g) := ⟨h.os, h.tape, h.output, Nat.le_of_eq h.size.symm, fun j _ hj => h.block j (fun e => hj (by rw [e]))⟩
section
variable {P : Program} {w : World}
end
end Go.Proofs.YtnjhdbgejhnpfaaDoor
end

section
set_option maxRecDepth 10000
namespace Go.Proofs.YtnjhdbgejhnpfaaDoor
set_option linter.unusedVariables false
open Go.RowKit
open Go.Maps (Keyed)
open Go.ChangeMaps Go.WideElems

/-- an element as it is -/
def RV : Value → Option (DataW Value × List MemPlace) := fun v => some (.held v, [])
/-- block b is a map of at most n entries -/
def MapIs (P : Program) (k : TypeId) (W : World) (b n : Nat) (D : DataW Value) : Prop := W.ownsMap P k RV b n D
/-- what is at a key -/
def mval (D : DataW Value) (kl : Lit) (z : Value) : Value := match D.atKey kl (.held z) with | .held v => v | _ => z
theorem mval_of {D : DataW Value} {kl : Lit} {z v : Value} {ps : List MemPlace} (h : RV v = some (D.atKey kl (.held z), ps)) : mval D kl z = v := by
  unfold RV at h
  injection h with h
  injection h with h1 _
  unfold mval
  rw [← h1]
theorem mval_put_same {D : DataW Value} {kl : Lit} {z v : Value} (hD : Maps.IsMap D) (hk : WideAt.IsKeyLit kl) : mval (D.put kl (.held v)) kl z = v := by
  unfold mval; rw [Maps.atKey_put_same hD hk]
theorem mval_put_other {D : DataW Value} {kl kl' : Lit} {z v : Value} (h : kl' ≠ kl) : mval (D.put kl (.held v)) kl' z = mval D kl' z := by
  unfold mval; rw [Maps.atKey_put_other h]
section
variable {P : Program} {S : World → Prop} {w : World} {k e t ty : TypeId} {b n : Nat} {D : DataW Value}
theorem MapIs.below {w' : World} {B : Nat} (h : MapIs P k w b n D) (hb : Below B w w') (hB : b < B) : MapIs P k w' b n D := by
  obtain ⟨es, clock, h1, h2⟩ := h
  exact ⟨es, clock, by rw [hb.block b hB]; exact h1, h2⟩
theorem MapIs.kept {w' : World} {row : Option Nat} (h : MapIs P k w b n D) (hg : w.grownBy w' row) (hne : some b ≠ row) : MapIs P k w' b n D := World.ownsMap.kept h hg hne
theorem MapIs.lt (h : MapIs P k w b n D) : b < w.heap.size := World.ownsMap.lt h
theorem MapIs.drewN (h : MapIs P k w b n D) (N : Nat) : MapIs P k (w.drewN N) b n D := h
theorem VRead.mapOk {key z : Value} {kl : Lit} {K : Value → Prop} [i : TMap P t k e] (h : ∀ W, S W → MapIs P k W b n D) (Kd : Keyed P k) (hz : ∀ W : World, (zeroValue e).run P W = .ok z W) (hkey : keyOf P k key = some kl)
    (hk : K (.tuple #[mval D kl z, .bool (Maps.has D kl)])) : VRead P S (Instr.lookup t (.map (some b)) key true) K := by
  refine .of (fun W hW => ?_) hk
  obtain ⟨v, ps, hrun, hv⟩ := World.ownsMap.look_ok (h W hW) Kd i.u (hz W) (zd := .held z) (zp := []) rfl hkey
  rw [hrun, mval_of hv]
theorem VRead.mapAt {key z : Value} {kl : Lit} {K : Value → Prop} [i : TMap P t k e] (h : ∀ W, S W → MapIs P k W b n D) (Kd : Keyed P k) (hz : ∀ W : World, (zeroValue e).run P W = .ok z W) (hkey : keyOf P k key = some kl)
    (hk : K (mval D kl z)) : VRead P S (Instr.lookup t (.map (some b)) key false) K := by
  refine .of (fun W hW => ?_) hk
  obtain ⟨v, ps, hrun, hv⟩ := World.ownsMap.lookup (h W hW) Kd i.u (hz W) (zd := .held z) (zp := []) rfl hkey
  rw [hrun, mval_of hv]
theorem VSem.mapOk {key z : Value} {kl : Lit} {K : Value → World → Prop} [i : TMap P t k e] (h : MapIs P k w b n D) (Kd : Keyed P k) (hz : ∀ W : World, (zeroValue e).run P W = .ok z W) (hkey : keyOf P k key = some kl)
    (hk : K (.tuple #[mval D kl z, .bool (Maps.has D kl)]) w) : VSem P (Instr.lookup t (.map (some b)) key true) w K := by
  obtain ⟨v, ps, hrun, hv⟩ := World.ownsMap.look_ok h Kd i.u (hz w) (zd := .held z) (zp := []) rfl hkey
  exact .of hrun (by rw [mval_of hv] at hk; exact hk)
theorem VSem.mapAt {key z : Value} {kl : Lit} {K : Value → World → Prop} [i : TMap P t k e] (h : MapIs P k w b n D) (Kd : Keyed P k) (hz : ∀ W : World, (zeroValue e).run P W = .ok z W) (hkey : keyOf P k key = some kl)
    (hk : K (mval D kl z) w) : VSem P (Instr.lookup t (.map (some b)) key false) w K := by
  obtain ⟨v, ps, hrun, hv⟩ := World.ownsMap.lookup h Kd i.u (hz w) (zd := .held z) (zp := []) rfl hkey
  exact .of hrun (by rw [mval_of hv] at hk; exact hk)
theorem VUnit.mapSet {key val : Value} {kl : Lit} {K : World → Prop} [i : TMap P t k e] (h : MapIs P k w b n D) (Kd : Keyed P k) (hn : n ≤ 1000000000) (hkey : keyOf P k key = some kl)
    (hk : ∀ w', MapIs P k w' b (n + 1) (D.put kl (.held val)) → w.grownBy w' (some b) → K w') : VUnit P (Instr.mapUpdate t (.map (some b)) key val) w K := by
  obtain ⟨w', hrun, h1, h2⟩ := World.ownsMap.update h Kd i.u (by simp only [maxLen]; omega) hkey (d := .held val) (ps := []) rfl
  exact .of hrun (hk w' h1 h2)
theorem VSem.mapDel {key : Value} {kl : Lit} {K : Value → World → Prop} [i : TMap P t k e] (h : MapIs P k w b n D) (Kd : Keyed P k) (hkey : keyOf P k key = some kl)
    (hk : ∀ w', MapIs P k w' b n (D.del kl) → w.grownBy w' (some b) → K (.tuple #[]) w') : VSem P (Builtin.delete_ #[t, k] ty [.map (some b), key].toArray) w K := by
  obtain ⟨w', hrun, h1, h2⟩ := World.ownsMap.drop (ty := ty) h Kd i.u hkey
  exact .of hrun (hk w' h1 h2.grown)
theorem VRead.mapLen {K : Value → Prop} [i : TMap P t k e] (h : ∀ W, S W → MapIs P k W b n D) (hk : K (.int .i64 (Maps.size D))) : VRead P S (Builtin.len_ #[t] ty [.map (some b)].toArray) K :=
  .of (fun W hW => World.ownsMap.len (h W hW) i.u ty) hk
theorem VSem.makeMap {K : Value → World → Prop} (hk : ∀ w', MapIs P k w' w.heap.size 0 (.map []) → Below w.heap.size w w' → w'.heap.size = w.heap.size + 1 → K (.map (some w.heap.size)) w') : VSem P (Instr.makeMap t none) w K :=
  .of (v := .map (some w.heap.size)) (w' := w.alloc (.map #[] 0)) rfl (hk _ (World.ownsMap_made w P k RV) ((Below.refl _ _).alloc (Nat.le_refl _) _) (by simp))
/-- a range over a map under way -/
def RangeIs (P : Program) (k : TypeId) (W : World) (b r n : Nat) (D : DataW Value) (left : Lit → Bool) (cnt : Nat) : Prop := W.ranges P k RV b r n D left cnt
theorem RangeIs.map {r cnt : Nat} {left : Lit → Bool} (h : RangeIs P k w b r n D left cnt) : MapIs P k w b n D := World.ranges.owns h
theorem RangeIs.kept {w' : World} {row : Option Nat} {r cnt : Nat} {left : Lit → Bool} (h : RangeIs P k w b r n D left cnt) (hg : w.grownBy w' row) (hb : some b ≠ row) (hr : some r ≠ row) : RangeIs P k w' b r n D left cnt := World.ranges.kept h hg hb hr
theorem VSem.rangeM {K : Value → World → Prop} [i : TMap P t k e] (h : MapIs P k w b n D) (Kd : Keyed P k)
    (hk : ∀ w', RangeIs P k w' b w.heap.size n D (Maps.has D) (Maps.size D) → w.grownBy w' none → w'.heap.size = w.heap.size + 1 → K (.pointer (some ⟨w.heap.size, 0, none⟩)) w') : VSem P (Instr.range t (.map (some b))) w K := by
  obtain ⟨w', hrun, h1, h2, h3⟩ := World.ownsMap.range h Kd i.u
  exact .of hrun (hk w' h1 h2 h3)
theorem VSem.nextM {r cnt : Nat} {left : Lit → Bool} {K : Value → World → Prop} (h : RangeIs P k w b r n D left cnt) (Kd : Keyed P k)
    (h0 : cnt = 0 → (∀ kl, left kl = false) → K (.tuple #[.bool false]) w)
    (h1 : ∀ key v kl w' cnt', keyOf P k key = some kl → left kl = true → (∀ z, mval D kl z = v) → Maps.has D kl = true → RangeIs P k w' b r n D (fun x => left x && !x.sameKey kl) cnt' → cnt' < cnt → w.grownBy w' (some r) → w'.heap.size = w.heap.size →
      (Instr.entry (.pointer (some ⟨r, 0, none⟩))).run P w' = .ok (.tuple #[key, v]) w' → K (.tuple #[.bool true, key, v]) w') :
    VSem P (Instr.next (.pointer (some ⟨r, 0, none⟩)) false ty) w K := by
  rcases World.ranges.next h Kd ty with ⟨e0, e1, hrun⟩ | ⟨key, v, kl, y, w', cnt', e1, e2, e3, e4, hrun, e5, e6, e7, e8, e9⟩
  · exact .of hrun (h0 e0 e1)
  · have hy : y = (.held v, []) := by unfold RV at e3; injection e3 with e3; exact e3.symm
    subst hy
    refine .of hrun (h1 key v kl w' cnt' e1 e2 (fun z => ?_) ?_ e5 e6 e7 e8 e9)
    · unfold mval; rw [e4]
    · exact Maps.has_true_of_atKey e4
end
end Go.Proofs.YtnjhdbgejhnpfaaDoor
end

section
set_option maxRecDepth 10000
namespace Go.Proofs.YtnjhdbgejhnpfaaDoor
set_option linter.unusedVariables false
open Go.RowKit Go.Shelf Go.Sort

theorem sortInts_row {P : Program} {ρ : Ren} (Ly : Lays.n189 P ρ) {W : World} {B e n c : Nat} {A : Option Addr} {l : List Int} (h : W.ownsRow B e 1 (.slice A n c) n (l.map (Value.int .i64))) (hn : n ≤ 1000000) :
    Calls P (ρ.f 189) #[.slice A n c] W fun r W' => r = .returned (.tuple #[]) ∧ W'.ownsRow B e 1 (.slice A n c) n ((l.mergeSort fun x y => decide (x ≤ y)).map (Value.int .i64)) ∧ W.grownBy W' (Value.slice A n c).ownBlock := by
  have hl : l.length = n := by have := h.1; simpa using this
  rcases h.2 with ⟨hv, h0⟩ | ⟨g, cap, cur, hv, hbg, hb, h1, h2, h3, h4⟩
  · injection hv with e1 e2 e3
    subst e1 e3 h0
    obtain rfl : l = [] := List.eq_nil_of_length_eq_zero hl
    refine (Any.slices_Sort_int_none Ly none 0 W).mono ?_
    rintro r W' ⟨rfl, rfl⟩
    exact ⟨rfl, by simpa using h, ⟨rfl, rfl, rfl, Nat.le_refl _, fun _ _ _ => rfl⟩⟩
  · injection hv with e1 e2 e3
    subst e1 e3
    subst hl
    refine (Any.slices_Sort_int Ly g 0 c l W (holds_of_blockI hb (by simpa using h4)) (Array.getElem?_eq_some_iff.1 hb).1 (by omega)).mono ?_
    rintro r W' ⟨rfl, N, os, rfl⟩
    exact ⟨rfl, ownsRow_sortedI (by simp) hbg hb h1 h2 h3, grownBy_sortedI _⟩
/-! ### the keys of a map, collected in whatever order, and sorted -/
theorem sorted_ints {l : List Int} (hn : l.Nodup) : (l.mergeSort fun x y => decide (x ≤ y)).Pairwise (· < ·) := by
  have h1 : (l.mergeSort fun x y => decide (x ≤ y)).Pairwise (fun a b => decide (a ≤ b) = true) := List.pairwise_mergeSort (fun a b c h1 h2 => by simp at *; omega) (fun a b => by simp; omega) l
  have h2 : (l.mergeSort fun x y => decide (x ≤ y)).Nodup := (List.mergeSort_perm l _).nodup_iff.2 hn
  have h3 := h1.and h2
  exact h3.imp (fun {a b} h => by have h4 := h.1; simp at h4; have := h.2; omega)
end Go.Proofs.YtnjhdbgejhnpfaaDoor
end

section
set_option maxRecDepth 10000
namespace Go.Proofs.YtnjhdbgejhnpfaaDoor
set_option linter.unusedVariables false
open Go.RowKit

/-- append to a row of the call's own, of whatever elements -/
theorem VSem.appR {P : Program} {w : World} {t ty e : TypeId} {size bytes base : Nat} {i : TypeInfo} {z : Value} (ht : P.underlying t = some (.slice e)) (hi : P.info? e = some i) (hz : i.zero = some z) (hsize : i.size = size) (hby : i.bytes = bytes) (hzs : z.cells.size = size) (hsz : 0 < size)
    {v : Value} {n : Nat} {xs : List Value} (hown : w.ownsRow base e size v n xs) {B : Nat} {A : Option Addr} {m c : Nat} {news : List Value} (hr : Reads w B size A m news) (h1 : ∀ u ∈ news, u.oneCell' = true) (h63 : n + m ≤ maxLen) (hbytes : (n + m) * bytes ≤ 140737488355328) (hbase : base ≤ w.heap.size)
    {K : Value → World → Prop} (h : ∀ A' c' w', w'.ownsRow base e size (.slice A' (n + m) c') (n + m) (xs ++ news) → w.grownBy w' v.ownBlock → ((Value.slice A' (n + m) c').ownBlock = v.ownBlock ∨ (Value.slice A' (n + m) c').ownBlock = some w.heap.size) → K (.slice A' (n + m) c') w') :
    VSem P (Builtin.append_ #[t, t] ty [v, .slice A m c].toArray) w K := by
  obtain ⟨v', w', hrun, h2, h3, h4⟩ := run_append_any (P := P) w base t ty e i z size bytes ht hi hz hsize hby hzs hsz v n xs hown B A m c news hr h1 h63 hbytes hbase
  have hf : ∃ A' c', v' = .slice A' (n + m) c' := by
    rcases h2.2 with ⟨rfl, e0⟩ | ⟨g, cap, cur, e1, _⟩
    · exact ⟨none, 0, by rw [e0]⟩
    · exact ⟨_, _, e1⟩
  obtain ⟨A', c', rfl⟩ := hf
  exact .of hrun (h A' c' w' h2 h3 h4)
theorem rows_below {w w' : World} {B C e size n : Nat} {v : Value} {xs : List Value} (h : w.ownsRow B e size v n xs) (hb : Below C w w') (hC : w.heap.size ≤ C) : w'.ownsRow B e size v n xs := by
  refine ⟨h.1, ?_⟩
  rcases h.2 with h0 | ⟨g, cap, cur, hv, hbg, hg, r⟩
  · exact .inl h0
  · exact .inr ⟨g, cap, cur, hv, hbg, by rw [hb.block g (by have := (Array.getElem?_eq_some_iff.1 hg).1; omega)]; exact hg, r⟩
theorem rows_apart {w w' : World} {B e size n : Nat} {v : Value} {xs : List Value} {row : Option Nat} (h : w.ownsRow B e size v n xs) (hg : w.grownBy w' row) (hne : ∀ g, row = some g → v.ownBlock ≠ some g) : w'.ownsRow B e size v n xs := by
  refine ⟨h.1, ?_⟩
  rcases h.2 with h0 | ⟨k, cap, cur, hv, hbg, hk, r⟩
  · exact .inl h0
  · refine .inr ⟨k, cap, cur, hv, hbg, ?_, r⟩
    rw [hg.block k (Array.getElem?_eq_some_iff.1 hk).1 (fun e => hne k e.symm (by rw [hv]; rfl))]
    exact hk
theorem row_addr' {w : World} {B e s n c : Nat} {A : Option Addr} {xs : List Value} (h : w.ownsRow B e s (.slice A n c) n xs) (hn : 0 < n) : ∃ g, A = some ⟨g, 0, none⟩ := by
  obtain ⟨g, c, e, -, -⟩ := h.form hn
  injection e with e1 e2 e3
  exact ⟨g, e1⟩
/-- the bytes of a string -/
theorem VSem.convB {P : Program} {w : World} {s d e : TypeId} {k : Nat} {x : ByteArray} {K : Value → World → Prop} [a : TStr P s] [b : TSlice P d e k] [i : TInt P e .u8]
    (h : ∀ A c w', Reads w' w'.heap.size 1 A x.size (bv x.data.toList) → x.size ≤ c → Below w.heap.size w w' → K (.slice A x.size c) w') : VSem P (convert s d (.string x)) w K := by
  refine VSem.of (Lib.run_convert_string_bytes w s d e x a.u b.u i.u) (h _ _ _ ?_ (grownCap_ge _ _ _ _) ?_)
  · refine ⟨by rw [bv_length]; simp, fun _ => ⟨_, rfl, by rw [Lib.bytesWorld_size]; show w.heap.size < _; omega, fun j u hu => ?_⟩⟩
    have hj : j < x.size := by
      have := (List.getElem?_eq_some_iff.1 hu).1
      rw [bv_length] at this; simpa using this
    rw [show (⟨w.heap.size, 0, none⟩ : Addr).add j = ⟨w.heap.size, j, none⟩ from by unfold Addr.add; split <;> simp_all, Lib.bytesWorld_cell w e x j hj]
    rw [← hu]
    unfold bv
    rw [List.getElem?_map, List.getD_eq_getElem?_getD, List.getElem?_eq_getElem (by simpa using hj)]
    rfl
  · exact Lib.below_freeze (((Below.refl _ w).drew).alloc (Nat.le_refl _) _) (Nat.le_refl _) _
theorem rows_more {w : World} {B B' e size n : Nat} {v : Value} {xs : List Value} (h : w.ownsRow B e size v n xs) (hB : B' ≤ B) : w.ownsRow B' e size v n xs :=
  ⟨h.1, h.2.elim .inl fun ⟨g, cap, cur, hv, hg, r⟩ => .inr ⟨g, cap, cur, hv, Nat.le_trans hB hg, r⟩⟩
theorem Reads.row {w : World} {B e s n c : Nat} {A : Option Addr} {xs : List Value} (h : w.ownsRow B e s (.slice A n c) n xs) : Reads w w.heap.size s A n xs := Reads.of_own h
/-- a slice of one cell -/
theorem VSem.one {P : Program} {w : World} {t e : TypeId} {v : Value} {K : Value → World → Prop} [i : TSlice P t e 1] [c : TCell P e] (h1 : v.oneCell' = true)
    (h : ∀ w', Reads w' w'.heap.size 1 (some ⟨w.heap.size, 0, none⟩) 1 [v] → Below w.heap.size w w' → w'.heap.size = w.heap.size + 1 → K (.slice (some ⟨w.heap.size, 0, none⟩) 1 1) w') :
    VSem P (Instr.buildSlice t 1 [(0, v)].toArray) w K := by
  refine VSem.buildS (P := P) (t := t) (e := e) (n := 1) (ps := [(0, v)]) rfl rfl (by simpa using h1) (by omega) ?_
  have hnew := Blk.new w e #[v]
  have hsz : (w.alloc (.cells #[v] e)).heap.size = w.heap.size + 1 := by simp
  rw [show (List.map (fun x => x.2) [(0, v)]).toArray = #[v] from rfl]
  refine h _ ⟨rfl, fun _ => ⟨_, rfl, by show w.heap.size < _; rw [hsz]; omega, fun j u hu => ?_⟩⟩ ((Below.refl w.heap.size w).alloc (Nat.le_refl _) (.cells #[v] e)) hsz
  rw [show (⟨w.heap.size, 0, none⟩ : Addr).add j = ⟨w.heap.size, j, none⟩ from by unfold Addr.add; split <;> simp_all, hnew.cell j]
  simpa using hu
/-- one cell more -/
theorem VSem.push {P : Program} {w : World} {t ty e : TypeId} {z u : Value} {bytes base n B c : Nat} {v : Value} {xs : List Value} {A : Option Addr} {K : Value → World → Prop} [i : TSlice P t e 1]
    (hinf : (P.info? e).map (fun i => (i.zero, i.size, i.bytes)) = some (some z, 1, bytes)) (hz : z.cells.size = 1) (hown : w.ownsRow base e 1 v n xs) (hr : Reads w B 1 A 1 [u]) (h1 : u.oneCell' = true)
    (hn : n ≤ 16777216) (hby : bytes ≤ 1024) (hbase : base ≤ w.heap.size)
    (h : ∀ A' c' w', w'.ownsRow base e 1 (.slice A' (n + 1) c') (n + 1) (xs ++ [u]) → w.grownBy w' v.ownBlock → K (.slice A' (n + 1) c') w') : VSem P (Builtin.append_ #[t, t] ty [v, .slice A 1 c].toArray) w K := by
  obtain ⟨i0, hi0, hz0, hz1, hz2⟩ := info_parts hinf
  have hb2 : (n + 1) * bytes ≤ (n + 1) * 1024 := Nat.mul_le_mul_left _ hby
  exact VSem.appR i.u hi0 hz0 hz1 hz2 hz (by decide) hown hr (by simpa using h1) (by simp only [maxLen]; omega) (by omega) hbase fun A' c' w' k1 k2 _ => h A' c' w' k1 k2
end Go.Proofs.YtnjhdbgejhnpfaaDoor
end

section
set_option maxRecDepth 10000
namespace Go.Proofs.YtnjhdbgejhnpfaaDoor
set_option linter.unusedVariables false
open Go.RowKit
open Go.Maps (Keyed)
open Go.ChangeMaps Go.WideElems

section
variable {κ α : Type} [DecidableEq κ]
/-- what stands at a key -/
def tfind : List (κ × α) → κ → Option α
  | [], _ => none
  | (j, x) :: r, i => if j = i then some x else tfind r i
theorem tfind_none {i : κ} : ∀ {L : List (κ × α)}, tfind L i = none → i ∉ L.map (·.1)
  | [], _ => by simp
  | (j, x) :: r, h => by
    unfold tfind at h
    by_cases e : j = i
    · rw [if_pos e] at h; cases h
    · rw [if_neg e] at h
      have := tfind_none h
      simp only [List.map_cons, List.mem_cons, not_or]
      exact ⟨fun h' => e h'.symm, this⟩
theorem tfind_not {i : κ} : ∀ {L : List (κ × α)}, i ∉ L.map (·.1) → tfind L i = none
  | [], _ => rfl
  | (j, x) :: r, h => by
    simp only [List.map_cons, List.mem_cons, not_or] at h
    unfold tfind
    rw [if_neg (fun e => h.1 e.symm)]
    exact tfind_not h.2
theorem tfind_some {i : κ} {x : α} : ∀ {L : List (κ × α)}, tfind L i = some x → ∃ A B, L = A ++ (i, x) :: B
  | [], h => by cases h
  | (j, y) :: r, h => by
    unfold tfind at h
    by_cases e : j = i
    · rw [if_pos e] at h; injection h with h; subst h; subst e; exact ⟨[], r, rfl⟩
    · rw [if_neg e] at h
      obtain ⟨A, B, e'⟩ := tfind_some h
      exact ⟨(j, y) :: A, B, by rw [e']; rfl⟩
theorem tfind_mem {i : κ} {x : α} {L : List (κ × α)} (h : tfind L i = some x) : (i, x) ∈ L := by
  obtain ⟨A, B, rfl⟩ := tfind_some h; simp
theorem tfind_of {i : κ} {x : α} : ∀ {L : List (κ × α)}, (L.map (·.1)).Nodup → (i, x) ∈ L → tfind L i = some x
  | [], _, h => by cases h
  | (j, y) :: r, hn, h => by
    simp only [List.map_cons, List.nodup_cons] at hn
    unfold tfind
    rcases List.mem_cons.1 h with e | h
    · injection e with e1 e2; subst e1; subst e2; rw [if_pos rfl]
    · have : j ≠ i := fun e => hn.1 (by rw [e]; exact List.mem_map_of_mem h)
      rw [if_neg this]
      exact tfind_of hn.2 h
end
section
variable {κ α : Type}
/-- D holds, at the keys of L, what L says, and nothing else -/
structure Rel (P : Program) (k : TypeId) (val : κ → Value) (lit : κ → Lit) (enc : α → Value) (D : DataW Value) (L : List (κ × α)) : Prop where
  tidy : Maps.Tidy D
  nd : (L.map (·.1)).Nodup
  key : ∀ p ∈ L, keyOf P k (val p.1) = some (lit p.1)
  src : ∀ kl, Maps.has D kl = true → ∃ p ∈ L, kl = lit p.1
  has : ∀ p ∈ L, Maps.has D (lit p.1) = true
  at_ : ∀ p ∈ L, ∀ z, mval D (lit p.1) z = enc p.2
  size : Maps.size D = L.length
variable {P : Program} {k : TypeId} {val : κ → Value} {lit : κ → Lit} {enc : α → Value} {D : DataW Value} {L : List (κ × α)} {i : κ} {x y : α}
theorem Rel.empty : Rel P k val lit enc (.map []) ([] : List (κ × α)) :=
  ⟨Maps.tidy_empty, by simp, (by intro p h; cases h), (by intro kl h; simp [Maps.has] at h), (by intro p h; cases h), (by intro p h; cases h), rfl⟩
theorem mval_not {D : DataW Value} {kl : Lit} {z : Value} (h : Maps.has D kl = false) : mval D kl z = z := by
  unfold mval; rw [Maps.atKey_of_not_has h]
theorem Rel.hasF (R : Rel P k val lit enc D L) (hi : ∀ a b, lit a = lit b → a = b) (h : i ∉ L.map (·.1)) : Maps.has D (lit i) = false := by
  cases e : Maps.has D (lit i) with
  | false => rfl
  | true =>
    obtain ⟨p, hp, e'⟩ := R.src _ e
    exact absurd (by rw [hi _ _ e']; exact List.mem_map_of_mem hp) h
theorem Rel.perm {L' : List (κ × α)} (R : Rel P k val lit enc D L) (h : L.Perm L') : Rel P k val lit enc D L' :=
  ⟨R.tidy, ((h.map _).nodup_iff).1 R.nd, fun p hp => R.key p (h.mem_iff.2 hp), fun kl hk => by obtain ⟨p, hp, e⟩ := R.src kl hk; exact ⟨p, h.mem_iff.1 hp, e⟩,
    fun p hp => R.has p (h.mem_iff.2 hp), fun p hp => R.at_ p (h.mem_iff.2 hp), by rw [R.size, h.length_eq]⟩
theorem Rel.put (R : Rel P k val lit enc D L) (Kd : Keyed P k) (hi : ∀ a b, lit a = lit b → a = b) (hk : keyOf P k (val i) = some (lit i)) (h : i ∉ L.map (·.1)) :
    Rel P k val lit enc (D.put (lit i) (.held (enc x))) (L ++ [(i, x)]) := by
  have hl := Kd.key hk
  have hne : ∀ p ∈ L, lit p.1 ≠ lit i := fun p hp e => h (by rw [← hi _ _ e]; exact List.mem_map_of_mem hp)
  refine ⟨R.tidy.put hl _, ?_, ?_, ?_, ?_, ?_, ?_⟩
  · rw [List.map_append, List.nodup_append]
    refine ⟨R.nd, by simp, ?_⟩
    intro a ha b hb e
    simp at hb
    subst hb; subst e
    exact h ha
  · intro p hp
    rcases List.mem_append.1 hp with hp | hp
    · exact R.key p hp
    · simp at hp; subst hp; exact hk
  · intro kl hkl
    by_cases e : kl = lit i
    · exact ⟨(i, x), by simp, e⟩
    · rw [Maps.has_put_other e] at hkl
      obtain ⟨p, hp, e'⟩ := R.src kl hkl
      exact ⟨p, List.mem_append_left _ hp, e'⟩
  · intro p hp
    rcases List.mem_append.1 hp with hp | hp
    · rw [Maps.has_put_other (hne p hp)]; exact R.has p hp
    · simp at hp; subst hp; exact Maps.has_put_same R.tidy.isMap hl _
  · intro p hp z
    rcases List.mem_append.1 hp with hp | hp
    · rw [mval_put_other (hne p hp)]; exact R.at_ p hp z
    · simp at hp; subst hp; exact mval_put_same R.tidy.isMap hl
  · rw [Maps.size_put R.tidy, R.hasF hi h, R.size]
    simp
theorem Rel.set {A B : List (κ × α)} (R : Rel P k val lit enc D (A ++ (i, y) :: B)) (Kd : Keyed P k) (hi : ∀ a b, lit a = lit b → a = b) :
    Rel P k val lit enc (D.put (lit i) (.held (enc x))) (A ++ (i, x) :: B) := by
  have hk : keyOf P k (val i) = some (lit i) := R.key (i, y) (by simp)
  have hl := Kd.key hk
  have hm : ∀ p, p ∈ A ∨ p ∈ B → p ∈ A ++ (i, y) :: B := by intro p hp; simp; rcases hp with h | h <;> simp [h]
  have hnd := R.nd
  simp only [List.map_append, List.map_cons] at hnd
  have h0 : i ∉ A.map (·.1) ∧ i ∉ B.map (·.1) := by
    rw [List.nodup_append] at hnd
    refine ⟨fun h => hnd.2.2 i h i (List.mem_cons_self ..) rfl, ?_⟩
    exact (List.nodup_cons.1 hnd.2.1).1
  have hne : ∀ p, p ∈ A ∨ p ∈ B → lit p.1 ≠ lit i := fun p hp e => by
    have e := hi _ _ e
    rcases hp with hp | hp
    · exact h0.1 (by rw [← e]; exact List.mem_map_of_mem hp)
    · exact h0.2 (by rw [← e]; exact List.mem_map_of_mem hp)
  have hspl : ∀ p ∈ A ++ (i, x) :: B, (p ∈ A ∨ p ∈ B) ∨ p = (i, x) := by
    intro p hp; simp at hp; rcases hp with h | h | h
    · exact .inl (.inl h)
    · exact .inr h
    · exact .inl (.inr h)
  refine ⟨R.tidy.put hl _, by simpa using R.nd, ?_, ?_, ?_, ?_, ?_⟩
  · intro p hp
    rcases hspl p hp with h | rfl
    · exact R.key p (hm p h)
    · exact hk
  · intro kl hkl
    by_cases e : kl = lit i
    · exact ⟨(i, x), by simp, e⟩
    · rw [Maps.has_put_other e] at hkl
      obtain ⟨p, hp, e'⟩ := R.src kl hkl
      simp at hp
      rcases hp with h | h | h
      · exact ⟨p, by simp [h], e'⟩
      · subst h; exact absurd e' e
      · exact ⟨p, by simp [h], e'⟩
  · intro p hp
    rcases hspl p hp with h | rfl
    · rw [Maps.has_put_other (hne p h)]; exact R.has p (hm p h)
    · exact Maps.has_put_same R.tidy.isMap hl _
  · intro p hp z
    rcases hspl p hp with h | rfl
    · rw [mval_put_other (hne p h)]; exact R.at_ p (hm p h) z
    · exact mval_put_same R.tidy.isMap hl
  · rw [Maps.size_put R.tidy, R.has (i, y) (by simp), R.size]
    simp
theorem Rel.del {A B : List (κ × α)} (R : Rel P k val lit enc D (A ++ (i, y) :: B)) (hi : ∀ a b, lit a = lit b → a = b) :
    Rel P k val lit enc (D.del (lit i)) (A ++ B) := by
  have hm : ∀ p, p ∈ A ∨ p ∈ B → p ∈ A ++ (i, y) :: B := by intro p hp; simp; rcases hp with h | h <;> simp [h]
  have hnd := R.nd
  simp only [List.map_append, List.map_cons] at hnd
  rw [List.nodup_append] at hnd
  have h0 : i ∉ A.map (·.1) ∧ i ∉ B.map (·.1) := ⟨fun h => hnd.2.2 i h i (List.mem_cons_self ..) rfl, (List.nodup_cons.1 hnd.2.1).1⟩
  have hne : ∀ p, p ∈ A ∨ p ∈ B → lit p.1 ≠ lit i := fun p hp e => by
    have e := hi _ _ e
    rcases hp with hp | hp
    · exact h0.1 (by rw [← e]; exact List.mem_map_of_mem hp)
    · exact h0.2 (by rw [← e]; exact List.mem_map_of_mem hp)
  refine ⟨R.tidy.del _, ?_, ?_, ?_, ?_, ?_, ?_⟩
  · rw [List.map_append, List.nodup_append]
    exact ⟨hnd.1, (List.nodup_cons.1 hnd.2.1).2, fun a ha b hb => hnd.2.2 a ha b (List.mem_cons_of_mem _ hb)⟩
  · intro p hp; exact R.key p (hm p (List.mem_append.1 hp))
  · intro kl hkl
    by_cases e : kl = lit i
    · subst e; rw [Maps.has_del_same] at hkl; cases hkl
    · rw [Maps.has_del_other e] at hkl
      obtain ⟨p, hp, e'⟩ := R.src kl hkl
      simp at hp
      rcases hp with h | h | h
      · exact ⟨p, by simp [h], e'⟩
      · subst h; exact absurd e' e
      · exact ⟨p, by simp [h], e'⟩
  · intro p hp
    rw [Maps.has_del_other (hne p (List.mem_append.1 hp))]; exact R.has p (hm p (List.mem_append.1 hp))
  · intro p hp z
    unfold mval
    rw [Maps.atKey_del_other (hne p (List.mem_append.1 hp))]; exact R.at_ p (hm p (List.mem_append.1 hp)) z
  · have h1 := Maps.size_del R.tidy (k := lit i)
    rw [R.has (i, y) (by simp), R.size] at h1
    simp at h1 ⊢
    omega
theorem nodup_le {κ : Type} : ∀ {l m : List κ}, l.Nodup → (∀ a ∈ l, a ∈ m) → l.length ≤ m.length
  | [], _, _, _ => by simp
  | a :: l, m, hn, h => by
    obtain ⟨h1, h2⟩ := List.nodup_cons.1 hn
    obtain ⟨A, B, rfl⟩ := List.append_of_mem (h a (List.mem_cons_self ..))
    have := nodup_le (m := A ++ B) h2 (fun x hx => by
      have := h x (List.mem_cons_of_mem _ hx)
      simp at this ⊢
      rcases this with h' | h' | h'
      · exact .inl h'
      · subst h'; exact absurd hx h1
      · exact .inr h')
    simp at this ⊢
    omega
/-! ### the keys that a range has yet to tell -/
structure Todo (lit : κ → Lit) (L : List (κ × α)) (left : Lit → Bool) (acc : List κ) : Prop where
  nd : acc.Nodup
  sub : ∀ a ∈ acc, a ∈ L.map (·.1)
  cov : ∀ p ∈ L, p.1 ∈ acc ∨ left (lit p.1) = true
  out : ∀ a ∈ acc, left (lit a) = false
theorem Todo.start {left : Lit → Bool} (h : ∀ p ∈ L, left (lit p.1) = true) : Todo lit L left [] := ⟨by simp, by simp, fun p hp => .inr (h p hp), by simp⟩
theorem Todo.next {left : Lit → Bool} {acc : List κ} {kl : Lit} (T : Todo lit L left acc) (hi : ∀ a b, lit a = lit b → a = b) (hk : WideAt.IsKeyLit kl) (e : kl = lit i) (hm : i ∈ L.map (·.1)) (hl : left kl = true) :
    Todo lit L (fun x => left x && !x.sameKey kl) (acc ++ [i]) := by
  subst e
  refine ⟨?_, ?_, ?_, ?_⟩
  · rw [List.nodup_append]
    refine ⟨T.nd, by simp, ?_⟩
    intro a ha b hb e
    simp at hb; subst hb; subst e
    have := T.out a ha
    rw [hl] at this; cases this
  · intro a ha
    rcases List.mem_append.1 ha with h | h
    · exact T.sub a h
    · simp at h; subst h; exact hm
  · intro p hp
    by_cases e : p.1 = i
    · exact .inl (by simp [e])
    · rcases T.cov p hp with h | h
      · exact .inl (List.mem_append_left _ h)
      · right
        rw [h, Maps.sameKey_ne (fun e' => e (hi _ _ e'))]; rfl
  · intro a ha
    rcases List.mem_append.1 ha with h | h
    · rw [T.out a h]; rfl
    · simp at h; subst h
      rw [WideAt.sameKey_self hk]; simp
theorem Todo.all {left : Lit → Bool} {acc : List κ} (T : Todo lit L left acc) (h : ∀ kl, left kl = false) : ∀ a, a ∈ acc ↔ a ∈ L.map (·.1) := fun a =>
  ⟨T.sub a, fun ha => by
    obtain ⟨p, hp, rfl⟩ := List.mem_map.1 ha
    rcases T.cov p hp with h' | h'
    · exact h'
    · rw [h] at h'; cases h'⟩
theorem Todo.len {left : Lit → Bool} {acc : List κ} (T : Todo lit L left acc) : acc.length ≤ L.length := by
  have := nodup_le T.nd T.sub
  simpa using this
end
section
variable {P : Program} {k : TypeId} {W W' : World} {b r n : Nat} {D : DataW Value} {left : Lit → Bool} {cnt : Nat}
theorem RangeIs.of_same (h : RangeIs P k W b r n D left cnt) (h1 : W'.heap[b]? = W.heap[b]?) (h2 : W'.heap[r]? = W.heap[r]?) : RangeIs P k W' b r n D left cnt := by
  obtain ⟨es, clock, since, seen, c0, e1, e2, e3, e4, e5, e6⟩ := h
  exact ⟨es, clock, since, seen, c0, by rw [h1]; exact e1, e2, e3, e4, by rw [h2]; exact e5, e6⟩
theorem RangeIs.not_cells (h : RangeIs P k W b r n D left cnt) : ∀ g cs t fr, W.heap[g]? = some (Obj.cells cs t fr) → g ≠ b ∧ g ≠ r := by
  obtain ⟨es, clock, since, seen, c0, e1, e2, e3, e4, e5, e6⟩ := h
  intro g cs t fr hg
  refine ⟨fun e => ?_, fun e => ?_⟩
  · subst e; rw [e1] at hg; cases hg
  · subst e; rw [e5] at hg; cases hg
theorem RangeIs.lt (h : RangeIs P k W b r n D left cnt) : b < W.heap.size ∧ r < W.heap.size := by
  obtain ⟨es, clock, since, seen, c0, e1, e2, e3, e4, e5, e6⟩ := h
  exact ⟨(Array.getElem?_eq_some_iff.1 e1).1, (Array.getElem?_eq_some_iff.1 e5).1⟩
theorem row_cells {B e s m : Nat} {v : Value} {xs : List Value} (h : W.ownsRow B e s v m xs) : ∀ g, v.ownBlock = some g → B ≤ g ∧ ∃ cs, W.heap[g]? = some (Obj.cells cs e (0, 0)) := by
  intro g hg
  rcases h.2 with ⟨rfl, _⟩ | ⟨g', cap, cur, rfl, hB, hc, _⟩
  · simp [Value.ownBlock] at hg
  · have : g' = g := by simpa [Value.ownBlock] using hg
    subst this
    exact ⟨hB, cur, hc⟩
/-- a row of its own turns: the range goes on -/
theorem RangeIs.row {B e s m : Nat} {v : Value} {xs : List Value} (h : RangeIs P k W b r n D left cnt) (ho : W.ownsRow B e s v m xs) (hg : W.grownBy W' v.ownBlock) : RangeIs P k W' b r n D left cnt := by
  refine h.kept hg (fun e => ?_) (fun e => ?_)
  · obtain ⟨_, cs, hc⟩ := row_cells ho _ e.symm
    exact (h.not_cells _ _ _ _ hc).1 rfl
  · obtain ⟨_, cs, hc⟩ := row_cells ho _ e.symm
    exact (h.not_cells _ _ _ _ hc).2 rfl
theorem RangeIs.below {C : Nat} (h : RangeIs P k W b r n D left cnt) (hb : Below C W W') (hC : W.heap.size ≤ C) : RangeIs P k W' b r n D left cnt :=
  h.of_same (hb.block _ (Nat.lt_of_lt_of_le h.lt.1 hC)) (hb.block _ (Nat.lt_of_lt_of_le h.lt.2 hC))
/-- the range goes on: a row of its own stays -/
theorem row_range {B e s m : Nat} {v : Value} {xs : List Value} (ho : W.ownsRow B e s v m xs) (h : RangeIs P k W b r n D left cnt) (hg : W.grownBy W' (some r)) : W'.ownsRow B e s v m xs :=
  rows_apart ho hg (fun g hg' e => by
    obtain rfl := Option.some.inj hg'
    obtain ⟨_, cs, hc⟩ := row_cells ho _ e
    exact (h.not_cells _ _ _ _ hc).2 rfl)
end
end Go.Proofs.YtnjhdbgejhnpfaaDoor
end
