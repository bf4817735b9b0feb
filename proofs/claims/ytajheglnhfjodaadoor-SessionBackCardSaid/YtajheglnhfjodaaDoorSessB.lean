/- The table of sessions: what turns in memory; Open, Use. No condition. -/
import Derived.Test.YtajheglnhfjodaaDoorSessA
import Derived.Test.YtajheglnhfjodaaDoorVD
set_option maxRecDepth 10000
namespace Go.Proofs.YtajheglnhfjodaaDoor
set_option linter.unusedVariables false
open Go.RowKit
open Go.Maps (Keyed)
open Go.ChangeMaps Go.WideElems

def MapS (W : World) (m c : Nat) (L : STb) : Prop := ∃ n D, n ≤ c ∧ MapIs Tryd.prog 3 W m n D ∧ Rel Tryd.prog 3 ikey ilit seV D L
def seZ : Value := .agg #[.int .i64 0, .int .i64 0, .int .i64 0, .int .i64 0, .int .i64 0, .int .i64 0, .string ByteArray.empty]
theorem seZ_run (W : World) : (zeroValue 64).run Tryd.prog W = .ok seZ W := by
  rw [Tryd.zeroValue64]; rfl
section
variable {W W' : World} {U V : Foot} {d m c : Nat} {S : SS} {L : STb} {i : Int} {x : Se}
theorem MapS.lt (h : MapS W m c L) : m < W.heap.size := by obtain ⟨n, D, h1, h2, h3⟩ := h; exact h2.lt
theorem MapS.stay (h : MapS W m c L) (hk : W'.heap[m]? = W.heap[m]?) : MapS W' m c L := by
  obtain ⟨n, D, h1, ⟨es, clock, h2, h4⟩, h3⟩ := h
  exact ⟨n, D, h1, ⟨es, clock, by rw [hk]; exact h2, h4⟩, h3⟩
theorem MapS.below {C : Nat} (h : MapS W m c L) (hb : Below C W W') (hC : W.heap.size ≤ C) : MapS W' m c L := h.stay (hb.block _ (Nat.lt_of_lt_of_le h.lt hC))
theorem VUnit.sSet {Q : World → Prop} (h : MapS W m c L) (hR : Rising L) (hc : c ≤ 1000000000) (hi : -9223372036854775808 ≤ i ∧ i ≤ 9223372036854775807)
    (hk : ∀ W', MapS W' m (c + 1) (tset L i x) → W.grownBy W' (some m) → Q W') : VUnit Tryd.prog (Instr.mapUpdate 60 (.map (some m)) (ikey i) (seV x)) W Q := by
  obtain ⟨n, D, h1, h2, R⟩ := h
  have hkey := i_key hi
  refine VUnit.mapSet h2 i_keyed (by omega) hkey (fun W' h3 hg => hk W' ⟨n + 1, _, by omega, h3, ?_⟩ hg)
  cases hf : tfind L i with
  | none => exact (R.put i_keyed ilit_inj hkey (tfind_none hf)).perm (tset_perm (tfind_none hf))
  | some y =>
    obtain ⟨A1, B1, rfl⟩ := tfind_some hf
    rw [tset_old hR]
    exact R.set i_keyed ilit_inj
theorem VSem.sDel {ty : Nat} {Q : Value → World → Prop} (h : MapS W m c L) (hR : Rising L) (hf : tfind L i = some x) (hi : -9223372036854775808 ≤ i ∧ i ≤ 9223372036854775807)
    (hk : ∀ W', MapS W' m c (tdel L i) → W.grownBy W' (some m) → Q (.tuple #[]) W') : VSem Tryd.prog (Builtin.delete_ #[60, 3] ty [.map (some m), ikey i].toArray) W Q := by
  obtain ⟨n, D, h1, h2, R⟩ := h
  have hkey := i_key hi
  refine VSem.mapDel h2 i_keyed hkey (fun W' h3 hg => hk W' ⟨n, _, h1, h3, ?_⟩ hg)
  obtain ⟨A1, B1, rfl⟩ := tfind_some hf
  rw [tdel_eq hR.nd]
  exact R.del ilit_inj
/-- what a lookup says -/
def sLookV (L : STb) (i : Int) : Value := match tfind L i with | some x => seV x | none => seZ
theorem sLook {Q : Value → World → Prop} (h : MapS W m c L) (hi : -9223372036854775808 ≤ i ∧ i ≤ 9223372036854775807)
    (hk : Q (.tuple #[sLookV L i, .bool (tfind L i).isSome]) W) : VSem Tryd.prog (Instr.lookup 60 (.map (some m)) (ikey i) true) W Q := by
  obtain ⟨n, D, h1, h2, R⟩ := h
  refine VSem.mapOk h2 i_keyed (z := seZ) seZ_run (i_key hi) ?_
  unfold sLookV at hk
  cases hf : tfind L i with
  | none =>
    rw [hf] at hk
    rw [mval_not (R.hasF ilit_inj (tfind_none hf)), R.hasF ilit_inj (tfind_none hf)]
    exact hk
  | some p =>
    rw [hf] at hk
    rw [R.at_ (i, p) (tfind_mem hf), R.has (i, p) (tfind_mem hf)]
    exact hk
theorem sLook1 {S : World → Prop} {Q : Value → Prop} (h : ∀ W, S W → MapS W m c L) (h0 : ∃ W, S W) (hi : -9223372036854775808 ≤ i ∧ i ≤ 9223372036854775807)
    (hk : Q (sLookV L i)) : VRead Tryd.prog S (Instr.lookup 60 (.map (some m)) (ikey i) false) Q := by
  refine .of (v := sLookV L i) (fun W hW => ?_) hk
  obtain ⟨n, D, h1, h2, R⟩ := h W hW
  obtain ⟨v, ps, hrun, hv⟩ := World.ownsMap.lookup h2 i_keyed (TMap.u (P := Tryd.prog) (t := 60)) (seZ_run W) (zd := .held seZ) (zp := []) rfl (i_key hi)
  rw [hrun, ← mval_of hv]
  unfold sLookV
  cases hf : tfind L i with
  | none => rw [mval_not (R.hasF ilit_inj (tfind_none hf))]
  | some p => rw [R.at_ (i, p) (tfind_mem hf)]
theorem sLookF {S : World → Prop} {Q : Value → Prop} (h : ∀ W, S W → MapS W m c L) (hf : tfind L i = some x) (hi : -9223372036854775808 ≤ i ∧ i ≤ 9223372036854775807)
    (hk : Q (.agg #[.int .i64 x.used, .int .i64 x.seq, .int .i64 x.rp.err, .int .i64 x.rp.n, .int .i64 x.rp.kind, .int .i64 x.rp.vn, .string (txt x.rp.s)])) : VRead Tryd.prog S (Instr.lookup 60 (.map (some m)) (ikey i) false) Q := by
  refine .of (v := seV x) (fun W hW => ?_) hk
  obtain ⟨n, D, h1, h2, R⟩ := h W hW
  obtain ⟨v, ps, hrun, hv⟩ := World.ownsMap.lookup h2 i_keyed (TMap.u (P := Tryd.prog) (t := 60)) (seZ_run W) (zd := .held seZ) (zp := []) rfl (i_key hi)
  rw [hrun, ← mval_of hv, R.at_ (i, x) (tfind_mem hf)]
theorem sLen {S : World → Prop} {ty : Nat} {Q : Value → Prop} (h : ∀ W, S W → MapS W m c L) (hk : Q (.int .i64 (L.length : Int))) :
    VRead Tryd.prog S (Builtin.len_ #[60] ty [.map (some m)].toArray) Q := by
  refine .of (v := .int .i64 (L.length : Int)) (fun W hW => ?_) hk
  obtain ⟨n, D, h1, h2, R⟩ := h W hW
  rw [← R.size]
  exact World.ownsMap.len h2 (TMap.u (P := Tryd.prog) (t := 60)) ty
/-- the map's entry turns -/
theorem TabAt.turn {T : STb} (h : TabAt W U d m c S) (hg : W.grownBy W' (some m)) {c' : Nat} (hM : MapS W' m c' T) : TabAt W' U d m c' ⟨S.most, T⟩ := by
  obtain ⟨n, D, h1, h2, h3⟩ := h.map
  exact ⟨h.hd, h.hm, h.blk.grown hg (fun e => map_not_blk h2 h.blk (Option.some.inj e).symm), hM⟩
end
/-! ### what the operations answer -/
def oldGo : STb → Int → Int → Int
  | [], g, _ => g
  | p :: r, g, u => if g = 0 ∨ p.2.used < u then oldGo r p.1 p.2.used else oldGo r g u
def oldest (T : STb) : Int := oldGo T 0 0
def fresh (i : Int) : Se := ⟨i, 0, Rp.zero⟩
def SS.open (S : SS) (i : Int) : (Int × Bool) × SS :=
  if (tfind S.t i).isSome = true ∨ i < 1 ∨ 1099511627776 < i then ((0, false), S)
  else if S.most ≤ S.t.length then ((oldest S.t, true), ⟨S.most, tset (tdel S.t (oldest S.t)) i (fresh i)⟩)
  else ((0, true), ⟨S.most, tset S.t i (fresh i)⟩)
def SS.use (S : SS) (i at_ : Int) : Bool × SS := match tfind S.t i with
  | some x => (true, ⟨S.most, tset S.t i { x with used := max x.used (min at_ 1099511627776) }⟩)
  | none => (false, S)
theorem oldGo_mem : ∀ (T : STb) (g u : Int), (∀ p ∈ T, p.1 ≠ 0) → (g = 0 → T ≠ []) → oldGo T g u = g ∧ g ≠ 0 ∨ oldGo T g u ∈ T.map (·.1)
  | [], g, u, _, h => .inl ⟨rfl, fun e => h e rfl⟩
  | p :: r, g, u, hp, h => by
    unfold oldGo
    split
    · have := oldGo_mem r p.1 p.2.used (fun q hq => hp q (by simp [hq])) (fun e => absurd e (hp p (by simp)))
      rcases this with ⟨e, _⟩ | h'
      · exact .inr (by rw [e]; simp)
      · exact .inr (by simp only [List.map_cons]; exact List.mem_cons_of_mem _ h')
    · rename_i hn
      have := oldGo_mem r g u (fun q hq => hp q (by simp [hq])) (fun e => absurd (.inl e) hn)
      rcases this with h' | h'
      · exact .inl h'
      · exact .inr (by simp only [List.map_cons]; exact List.mem_cons_of_mem _ h')
theorem SWf.oldest {S : SS} (h : SWf S) (hne : S.t ≠ []) : ∃ x, tfind S.t (oldest S.t) = some x := by
  have := oldGo_mem S.t 0 0 (fun p hp => by have := (h.ids p hp).1; omega) (fun _ => hne)
  rcases this with ⟨_, e⟩ | hm
  · exact absurd rfl e
  · obtain ⟨p, hp, e⟩ := List.mem_map.1 hm
    refine ⟨p.2, ?_⟩
    unfold Go.Proofs.YtajheglnhfjodaaDoor.oldest
    rw [← e]
    exact tfind_of h.ris.nd hp
theorem SWf.set {S : SS} {i : Int} {x : Se} (h : SWf S) (hi : 1 ≤ i ∧ i ≤ 1099511627776) (hn : ((tdel S.t i).length : Int) + 1 ≤ S.most) : SWf ⟨S.most, tset S.t i x⟩ :=
  ⟨h.most, by simp only; rw [tset_length h.ris]; omega, fun p hp => by
    rcases mem_tset h.ris hp with rfl | hp
    · exact hi
    · exact h.ids p (mem_tdel hp).1, h.ris.set⟩
theorem SWf.del {S : SS} (h : SWf S) (i : Int) : SWf ⟨S.most, tdel S.t i⟩ :=
  ⟨h.most, by simp only; have := tdel_le (L := S.t) i; have := h.few; omega, fun p hp => h.ids p (mem_tdel hp).1, h.ris.del⟩
theorem SWf.open {S : SS} (h : SWf S) (i : Int) : SWf (S.open i).2 := by
  unfold SS.open
  split
  · exact h
  · rename_i hn
    have hi : 1 ≤ i ∧ i ≤ 1099511627776 := by constructor <;> (apply Decidable.byContradiction; intro hh; exact hn (by omega))
    have hf : tfind S.t i = none := by
      cases e : tfind S.t i with
      | none => rfl
      | some x => exact absurd (.inl (by rw [e]; rfl)) hn
    have hfew := h.few
    have hmost := h.most
    split
    · rename_i hfull
      obtain ⟨x, hx⟩ := h.oldest (by intro e; rw [e] at hfull; simp at hfull; omega)
      have h2 := h.del (Go.Proofs.YtajheglnhfjodaaDoor.oldest S.t)
      have := tdel_length h.ris hx
      have := tdel_le (L := tdel S.t (Go.Proofs.YtajheglnhfjodaaDoor.oldest S.t)) i
      exact h2.set hi (by show ((tdel (tdel S.t _) i).length : Int) + 1 ≤ S.most; omega)
    · rename_i hfull
      exact h.set hi (by rw [tdel_not (tfind_none hf)]; omega)
theorem SWf.same {S : SS} {i : Int} {x y : Se} (h : SWf S) (hf : tfind S.t i = some x) : SWf ⟨S.most, tset S.t i y⟩ := by
  have := tdel_length h.ris hf
  have := h.few
  exact h.set (h.ids _ (tfind_mem hf)) (by omega)
theorem SWf.use {S : SS} (h : SWf S) (i a : Int) : SWf (S.use i a).2 := by
  unfold SS.use
  cases hf : tfind S.t i with
  | none => exact h
  | some x => exact h.same hf
end Go.Proofs.YtajheglnhfjodaaDoor
