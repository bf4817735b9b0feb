/- The rules of the calculus for maps of the call's own. No condition. -/
import Derived.Test.YtajheglnhfjodaaDoorVS
import Derived.Maps.RangeWalk
import Derived.Maps.Views
set_option maxRecDepth 10000
namespace Go.Proofs.YtajheglnhfjodaaDoor
set_option linter.unusedVariables false
open Go.RowKit
open Go.Maps (Keyed)
open Go.ChangeMaps Go.WideElems

/-- an element as it is -/
def RV : Value → Option (DataW Value × List MemPlace) := fun v => some (.held v, [])
/-- block b is a map of at most n entries -/
def MapIs (P : Program) (k : TypeId) (W : World) (b n : Nat) (D : DataW Value) : Prop := W.ownsMap P k RV b n D
/-- what is at a key -/
def mval (D : DataW Value) (kl : Lit) (z : Value) : Value := match D.atKey kl (.held z) with | .held v => v | _ => z
theorem mval_of {D : DataW Value} {kl : Lit} {z v : Value} {ps : List MemPlace} (h : RV v = some (D.atKey kl (.held z), ps)) : mval D kl z = v := by
  unfold RV at h
  injection h with h
  injection h with h1 _
  unfold mval
  rw [← h1]
theorem mval_put_same {D : DataW Value} {kl : Lit} {z v : Value} (hD : Maps.IsMap D) (hk : WideAt.IsKeyLit kl) : mval (D.put kl (.held v)) kl z = v := by
  unfold mval; rw [Maps.atKey_put_same hD hk]
theorem mval_put_other {D : DataW Value} {kl kl' : Lit} {z v : Value} (h : kl' ≠ kl) : mval (D.put kl (.held v)) kl' z = mval D kl' z := by
  unfold mval; rw [Maps.atKey_put_other h]
section
variable {P : Program} {S : World → Prop} {w : World} {k e t ty : TypeId} {b n : Nat} {D : DataW Value}
theorem MapIs.below {w' : World} {B : Nat} (h : MapIs P k w b n D) (hb : Below B w w') (hB : b < B) : MapIs P k w' b n D := by
  obtain ⟨es, clock, h1, h2⟩ := h
  exact ⟨es, clock, by rw [hb.block b hB]; exact h1, h2⟩
theorem MapIs.kept {w' : World} {row : Option Nat} (h : MapIs P k w b n D) (hg : w.grownBy w' row) (hne : some b ≠ row) : MapIs P k w' b n D := World.ownsMap.kept h hg hne
theorem MapIs.lt (h : MapIs P k w b n D) : b < w.heap.size := World.ownsMap.lt h
theorem MapIs.drewN (h : MapIs P k w b n D) (N : Nat) : MapIs P k (w.drewN N) b n D := h
theorem VRead.mapOk {key z : Value} {kl : Lit} {K : Value → Prop} [i : TMap P t k e] (h : ∀ W, S W → MapIs P k W b n D) (Kd : Keyed P k) (hz : ∀ W : World, (zeroValue e).run P W = .ok z W) (hkey : keyOf P k key = some kl)
    (hk : K (.tuple #[mval D kl z, .bool (Maps.has D kl)])) : VRead P S (Instr.lookup t (.map (some b)) key true) K := by
  refine .of (fun W hW => ?_) hk
  obtain ⟨v, ps, hrun, hv⟩ := World.ownsMap.look_ok (h W hW) Kd i.u (hz W) (zd := .held z) (zp := []) rfl hkey
  rw [hrun, mval_of hv]
theorem VRead.mapAt {key z : Value} {kl : Lit} {K : Value → Prop} [i : TMap P t k e] (h : ∀ W, S W → MapIs P k W b n D) (Kd : Keyed P k) (hz : ∀ W : World, (zeroValue e).run P W = .ok z W) (hkey : keyOf P k key = some kl)
    (hk : K (mval D kl z)) : VRead P S (Instr.lookup t (.map (some b)) key false) K := by
  refine .of (fun W hW => ?_) hk
  obtain ⟨v, ps, hrun, hv⟩ := World.ownsMap.lookup (h W hW) Kd i.u (hz W) (zd := .held z) (zp := []) rfl hkey
  rw [hrun, mval_of hv]
theorem VSem.mapOk {key z : Value} {kl : Lit} {K : Value → World → Prop} [i : TMap P t k e] (h : MapIs P k w b n D) (Kd : Keyed P k) (hz : ∀ W : World, (zeroValue e).run P W = .ok z W) (hkey : keyOf P k key = some kl)
    (hk : K (.tuple #[mval D kl z, .bool (Maps.has D kl)]) w) : VSem P (Instr.lookup t (.map (some b)) key true) w K := by
  obtain ⟨v, ps, hrun, hv⟩ := World.ownsMap.look_ok h Kd i.u (hz w) (zd := .held z) (zp := []) rfl hkey
  exact .of hrun (by rw [mval_of hv] at hk; exact hk)
theorem VSem.mapAt {key z : Value} {kl : Lit} {K : Value → World → Prop} [i : TMap P t k e] (h : MapIs P k w b n D) (Kd : Keyed P k) (hz : ∀ W : World, (zeroValue e).run P W = .ok z W) (hkey : keyOf P k key = some kl)
    (hk : K (mval D kl z) w) : VSem P (Instr.lookup t (.map (some b)) key false) w K := by
  obtain ⟨v, ps, hrun, hv⟩ := World.ownsMap.lookup h Kd i.u (hz w) (zd := .held z) (zp := []) rfl hkey
  exact .of hrun (by rw [mval_of hv] at hk; exact hk)
theorem VUnit.mapSet {key val : Value} {kl : Lit} {K : World → Prop} [i : TMap P t k e] (h : MapIs P k w b n D) (Kd : Keyed P k) (hn : n ≤ 1000000000) (hkey : keyOf P k key = some kl)
    (hk : ∀ w', MapIs P k w' b (n + 1) (D.put kl (.held val)) → w.grownBy w' (some b) → K w') : VUnit P (Instr.mapUpdate t (.map (some b)) key val) w K := by
  obtain ⟨w', hrun, h1, h2⟩ := World.ownsMap.update h Kd i.u (by simp only [maxLen]; omega) hkey (d := .held val) (ps := []) rfl
  exact .of hrun (hk w' h1 h2)
theorem VSem.mapDel {key : Value} {kl : Lit} {K : Value → World → Prop} [i : TMap P t k e] (h : MapIs P k w b n D) (Kd : Keyed P k) (hkey : keyOf P k key = some kl)
    (hk : ∀ w', MapIs P k w' b n (D.del kl) → w.grownBy w' (some b) → K (.tuple #[]) w') : VSem P (Builtin.delete_ #[t, k] ty [.map (some b), key].toArray) w K := by
  obtain ⟨w', hrun, h1, h2⟩ := World.ownsMap.drop (ty := ty) h Kd i.u hkey
  exact .of hrun (hk w' h1 h2.grown)
theorem VRead.mapLen {K : Value → Prop} [i : TMap P t k e] (h : ∀ W, S W → MapIs P k W b n D) (hk : K (.int .i64 (Maps.size D))) : VRead P S (Builtin.len_ #[t] ty [.map (some b)].toArray) K :=
  .of (fun W hW => World.ownsMap.len (h W hW) i.u ty) hk
theorem VSem.makeMap {K : Value → World → Prop} (hk : ∀ w', MapIs P k w' w.heap.size 0 (.map []) → Below w.heap.size w w' → w'.heap.size = w.heap.size + 1 → K (.map (some w.heap.size)) w') : VSem P (Instr.makeMap t none) w K :=
  .of (v := .map (some w.heap.size)) (w' := w.alloc (.map #[] 0)) rfl (hk _ (World.ownsMap_made w P k RV) ((Below.refl _ _).alloc (Nat.le_refl _) _) (by simp))
/-- a range over a map under way -/
def RangeIs (P : Program) (k : TypeId) (W : World) (b r n : Nat) (D : DataW Value) (left : Lit → Bool) (cnt : Nat) : Prop := W.ranges P k RV b r n D left cnt
theorem RangeIs.map {r cnt : Nat} {left : Lit → Bool} (h : RangeIs P k w b r n D left cnt) : MapIs P k w b n D := World.ranges.owns h
theorem RangeIs.kept {w' : World} {row : Option Nat} {r cnt : Nat} {left : Lit → Bool} (h : RangeIs P k w b r n D left cnt) (hg : w.grownBy w' row) (hb : some b ≠ row) (hr : some r ≠ row) : RangeIs P k w' b r n D left cnt := World.ranges.kept h hg hb hr
theorem VSem.rangeM {K : Value → World → Prop} [i : TMap P t k e] (h : MapIs P k w b n D) (Kd : Keyed P k)
    (hk : ∀ w', RangeIs P k w' b w.heap.size n D (Maps.has D) (Maps.size D) → w.grownBy w' none → w'.heap.size = w.heap.size + 1 → K (.pointer (some ⟨w.heap.size, 0, none⟩)) w') : VSem P (Instr.range t (.map (some b))) w K := by
  obtain ⟨w', hrun, h1, h2, h3⟩ := World.ownsMap.range h Kd i.u
  exact .of hrun (hk w' h1 h2 h3)
theorem VSem.nextM {r cnt : Nat} {left : Lit → Bool} {K : Value → World → Prop} (h : RangeIs P k w b r n D left cnt) (Kd : Keyed P k)
    (h0 : cnt = 0 → (∀ kl, left kl = false) → K (.tuple #[.bool false]) w)
    (h1 : ∀ key v kl w' cnt', keyOf P k key = some kl → left kl = true → (∀ z, mval D kl z = v) → Maps.has D kl = true → RangeIs P k w' b r n D (fun x => left x && !x.sameKey kl) cnt' → cnt' < cnt → w.grownBy w' (some r) → w'.heap.size = w.heap.size →
      (Instr.entry (.pointer (some ⟨r, 0, none⟩))).run P w' = .ok (.tuple #[key, v]) w' → K (.tuple #[.bool true, key, v]) w') :
    VSem P (Instr.next (.pointer (some ⟨r, 0, none⟩)) false ty) w K := by
  rcases World.ranges.next h Kd ty with ⟨e0, e1, hrun⟩ | ⟨key, v, kl, y, w', cnt', e1, e2, e3, e4, hrun, e5, e6, e7, e8, e9⟩
  · exact .of hrun (h0 e0 e1)
  · have hy : y = (.held v, []) := by unfold RV at e3; injection e3 with e3; exact e3.symm
    subst hy
    refine .of hrun (h1 key v kl w' cnt' e1 e2 (fun z => ?_) ?_ e5 e6 e7 e8 e9)
    · unfold mval; rw [e4]
    · exact Maps.has_true_of_atKey e4
end
end Go.Proofs.YtajheglnhfjodaaDoor
