/- The rules of the calculus for structs in blocks that are known whole. No condition. -/
import Derived.Test.YtajheglnhfjodaaDoorVB
set_option maxRecDepth 10000
namespace Go.Proofs.YtajheglnhfjodaaDoor
set_option linter.unusedVariables false
open Go.RowKit

section
variable {P : Program} {S : World → Prop} {w W : World}
def setFrom (cs : Array Value) (i : Nat) : List Value → Array Value
  | [] => cs
  | v :: r => setFrom (cs.setIfInBounds i v) (i + 1) r
theorem run_storeCells_blk {g : Nat} {T : TypeId} : ∀ (vs : List Value) (i : Nat) (w : World) (cs : Array Value), Blk w g T cs → (∀ v ∈ vs, v.oneCell' = true) → i + vs.length ≤ cs.size →
    ∃ w', (storeCells ⟨g, 0, none⟩ vs i).run P w = .ok () w' ∧ Blk w' g T (setFrom cs i vs) ∧ w.grownBy w' (some g)
  | [], i, w, cs, hb, h1, hl => ⟨w, rfl, hb, only_refl w g⟩
  | v :: r, i, w, cs, hb, h1, hl => by
    simp only [List.length_cons] at hl
    have ha : (⟨g, 0, none⟩ : Addr).add i = ⟨g, i, none⟩ := by unfold Addr.add; split <;> simp_all
    have hc : w.cell? ⟨g, i, none⟩ = some cs[i] := by rw [hb.cell i]; exact Array.getElem?_eq_getElem (by omega)
    have hf := hb.frozen i
    have e2 : (store ⟨g, i, none⟩ v).run P w = .ok () (w.setCell ⟨g, i, none⟩ v) := by
      have hv := h1 v (by simp)
      cases v <;> first | (cases hv; done) | simp [store, Sem.run, hc, hf]
    obtain ⟨w', h2, h3, h4⟩ := run_storeCells_blk r (i + 1) (w.setCell ⟨g, i, none⟩ v) (cs.setIfInBounds i v) (hb.set_ i v) (fun u hu => h1 u (List.mem_cons_of_mem _ hu)) (by simp; omega)
    refine ⟨w', ?_, h3, only_trans (only_setCell (only_refl w g) (.inl rfl) _) h4⟩
    unfold storeCells
    rw [ha, Sem.run_bind, e2]
    exact h2
theorem VUnit.storeAB {t T g k : Nat} {p : Addr} {cs vs : Array Value} {K : World → Prop} [a : TAgg P t k] (hb : Blk w g T cs) (hp : p = ⟨g, 0, none⟩) (hs : Nat.beq vs.size k = true) (hk : Nat.ble k cs.size = true) (h1 : ∀ v ∈ vs.toList, v.oneCell' = true)
    (h : ∀ w', Blk w' g T (setFrom cs 0 vs.toList) → w.grownBy w' (some g) → K w') : VUnit P (Instr.storeAt t (.pointer (some p)) (.agg vs)) w K := by
  subst hp
  have e := Nat.eq_of_beq_eq_true hs
  have l := Nat.le_of_ble_eq_true hk
  obtain ⟨w', h2, h3, h4⟩ := run_storeCells_blk (P := P) vs.toList 0 w cs hb h1 (by rw [Array.length_toList]; omega)
  refine .of (w' := w') ?_ (h w' h3 h4)
  unfold Instr.storeAt Instr.sureAddr storeVar
  simp [run_size a.s, Value.cells, e]
  exact h2
theorem run_isAgg_agg {t k : Nat} (a : TAgg P t k) : (isAgg t).run P W = .ok true W := by
  have h := a.a
  unfold isAgg
  cases hu : P.underlying t with
  | none => rw [hu] at h; cases h
  | some d =>
    simp only [Sem.run_bind, run_underlying hu, Result.andThen_ok]
    rw [hu] at h
    cases d <;> first | rfl | cases h
theorem run_load_agg {t T g k : Nat} {cs : Array Value} (a : TAgg P t k) (hb : Blk W g T cs) (hs : cs.size = k) : (Instr.loadAt t (.pointer (some ⟨g, 0, none⟩))).run P W = .ok (.agg cs) W := by
  have hl : (loadCells ⟨g, 0, none⟩ k).run P W = .ok cs W := by
    have := run_loadCells_list (P := P) W ⟨g, 0, none⟩ cs.toList (fun j v hj => by
      rw [show (⟨g, 0, none⟩ : Addr).add j = ⟨g, j, none⟩ from by unfold Addr.add; split <;> simp_all, hb.cell j]
      simpa using hj)
    rw [Array.length_toList, hs] at this
    simpa using this
  unfold Instr.loadAt Instr.sureAddr loadVar
  simp [run_isAgg_agg a, run_size a.s, hl]
theorem VRead.loadAB {t T g k : Nat} {p : Addr} {cs : Array Value} {K : Value → Prop} [a : TAgg P t k] (hb : ∀ W, S W → Blk W g T cs) (hp : p = ⟨g, 0, none⟩) (hs : Nat.beq cs.size k = true) (hk : K (.agg cs)) : VRead P S (Instr.loadAt t (.pointer (some p))) K := by
  subst hp
  exact .of (fun W hW => run_load_agg a (hb W hW) (Nat.eq_of_beq_eq_true hs)) hk
theorem VRead.loadAB1 {t T g k : Nat} {p : Addr} {cs : Array Value} {K : Value → Prop} [a : TAgg P t k] (hb : Blk w g T cs) (hp : p = ⟨g, 0, none⟩) (hs : Nat.beq cs.size k = true) (hk : K (.agg cs)) : VRead P (Eq w) (Instr.loadAt t (.pointer (some p))) K :=
  .loadAB (fun W e => e ▸ hb) hp hs hk
/-- a cell of a block that is known whole -/
theorem VRead.loadB {t T g i : Nat} {p : Addr} {cs : Array Value} {v : Value} {K : Value → Prop} [c : TCell P t] (hb : Blk w g T cs) (hp : p = ⟨g, i, none⟩) (hv : cs.toList[i]? = some v) (hk : K v) : VRead P (Eq w) (Instr.loadAt t (.pointer (some p))) K := by
  subst hp
  exact .load1 (by rw [hb.cell i, ← hv]; simp) hk
/-- a new variable, all zero -/
theorem VSem.allocZ {t : TypeId} {z : Value} {K : Value → World → Prop} (hz : ((P.info? t).bind (·.zero)) = some z) (h : ∀ w' g, Blk w' g t z.cells → g = w.heap.size → g < w'.heap.size → Below w.heap.size w w' → K (.pointer (some ⟨g, 0, none⟩)) w') :
    VSem P (Instr.alloc t true (.tuple #[])) w K := by
  refine .of (v := .pointer (some ⟨w.heap.size, 0, none⟩)) (w' := w.alloc (.cells z.cells t)) ?_ (h _ _ (Blk.new w t _) rfl (by simp) ((Below.refl _ _).alloc (Nat.le_refl _) _))
  cases hi : P.info? t with
  | none => rw [hi] at hz; cases hz
  | some i =>
    rw [hi] at hz
    simp only [Option.bind_some] at hz
    simp [Instr.alloc, zeroValue, typeInfo, hi, hz, newVar, newRow]
/-- a value put into a new variable -/
theorem VSem.boxB {t : TypeId} {v : Value} {K : Value → World → Prop} (h : ∀ w' g, Blk w' g t v.cells → g = w.heap.size → g < w'.heap.size → Below w.heap.size w w' → K (.pointer (some ⟨g, 0, none⟩)) w') : VSem P (Instr.box t v) w K := by
  refine .of (v := .pointer (some ⟨w.heap.size, 0, none⟩)) (w' := w.alloc (.cells v.cells t)) ?_ (h _ _ (Blk.new w t _) rfl (by simp) ((Below.refl _ _).alloc (Nat.le_refl _) _))
  simp [Instr.box, newVar, newRow]
/-- a struct's result in a variable of its own, and a truth -/
theorem VRes.cellTmp {a u t T g k : Nat} {σ : Env} {cs : Array Value} {R : Ending → World → Prop} [i : TAgg P t k] (ha : σ a = .pointer (some ⟨g, 0, none⟩)) (hb : Blk w g T cs) (hs : Nat.beq cs.size k = true) (h : R (.returned (.tuple #[.agg cs, σ u])) w) :
    VRes P [.cell a t, .tmp u] σ w R := by
  have h2 := run_load_agg (P := P) i hb (Nat.eq_of_beq_eq_true hs)
  unfold Instr.loadAt Instr.sureAddr at h2
  simp only [Sem.run_bind, Sem.run_pure, Result.andThen_ok] at h2
  exact ⟨⟨_, by simp [resE, ha, asAddr, h2], h⟩⟩
end
end Go.Proofs.YtajheglnhfjodaaDoor
