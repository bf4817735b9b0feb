/- SessionOldest, plainly; the document's example; sameness of ints. No condition. -/
import Derived.Test.YtajheglnhfjodaaDoorSessC
set_option maxRecDepth 10000
namespace Go.Proofs.YtajheglnhfjodaaDoor
set_option linter.unusedVariables false
open Go.RowKit
open Go.Maps (Keyed)
open Go.ChangeMaps Go.WideElems

def usedOf (T : STb) (a : Int) : Int := match tfind T a with | some x => x.used | none => 0
structure LInv (S : SS) (line : List Int) (at_ : Int) : Prop where
  mem : ∀ a, (tfind S.t a).isSome = true ↔ a ∈ line
  len : S.t.length = line.length
  ord : line.Pairwise (fun a b => usedOf S.t a < usedOf S.t b)
  top : ∀ a ∈ line, a ≤ at_ ∧ usedOf S.t a ≤ at_
theorem LInv.start (n : Int) : LInv ⟨n, []⟩ [] 0 := ⟨fun a => by simp [tfind], rfl, by simp, by simp⟩
theorem oldGo_min : ∀ (T : STb) (g u : Int), (∀ p ∈ T, p.1 ≠ 0) → (oldGo T g u = g ∧ (g = 0 → T = []) ∧ (∀ q ∈ T, u ≤ q.2.used)) ∨ (∃ p ∈ T, oldGo T g u = p.1 ∧ (∀ q ∈ T, p.2.used ≤ q.2.used) ∧ (g ≠ 0 → p.2.used ≤ u))
  | [], g, u, _ => .inl ⟨rfl, fun _ => rfl, by simp⟩
  | p :: r, g, u, hp => by
    unfold oldGo
    have hp0 := hp p (by simp)
    have hr : ∀ q ∈ r, q.1 ≠ 0 := fun q hq => hp q (by simp [hq])
    split
    · rename_i hc
      refine .inr ?_
      rcases oldGo_min r p.1 p.2.used hr with ⟨e, _, h⟩ | ⟨q, hq, e, h1, h2⟩
      · refine ⟨p, by simp, e, fun q hq => ?_, fun hg => ?_⟩
        · rcases List.mem_cons.1 hq with rfl | hq
          · exact Int.le_refl _
          · exact h q hq
        · rcases hc with hc | hc
          · exact absurd hc hg
          · omega
      · refine ⟨q, by simp [hq], e, fun q' hq' => ?_, fun hg => ?_⟩
        · rcases List.mem_cons.1 hq' with rfl | hq'
          · exact h2 hp0
          · exact h1 q' hq'
        · have := h2 hp0
          rcases hc with hc | hc
          · exact absurd hc hg
          · omega
    · rename_i hc
      have hg : g ≠ 0 := fun e => hc (.inl e)
      have hu : u ≤ p.2.used := by apply Int.not_lt.1; intro e; exact hc (.inr e)
      rcases oldGo_min r g u hr with ⟨e, _, h⟩ | ⟨q, hq, e, h1, h2⟩
      · refine .inl ⟨e, fun e' => absurd e' hg, fun q hq => ?_⟩
        rcases List.mem_cons.1 hq with rfl | hq
        · exact hu
        · exact h q hq
      · refine .inr ⟨q, by simp [hq], e, fun q' hq' => ?_, h2⟩
        rcases List.mem_cons.1 hq' with rfl | hq'
        · have := h2 hg; omega
        · exact h1 q' hq'
theorem LInv.oldest {S : SS} {a : Int} {r : List Int} {t : Int} (h : LInv S (a :: r) t) (hw : SWf S) : Go.Proofs.YtajheglnhfjodaaDoor.oldest S.t = a := by
  have ha := (h.mem a).2 (by simp)
  obtain ⟨x, hx⟩ := Option.isSome_iff_exists.1 ha
  have hmem := tfind_mem hx
  rcases oldGo_min S.t 0 0 (fun p hp => by have := (hw.ids p hp).1; omega) with ⟨_, h0, _⟩ | ⟨p, hp, e, h1, _⟩
  · rw [h0 rfl] at hmem; cases hmem
  · unfold Go.Proofs.YtajheglnhfjodaaDoor.oldest
    rw [e]
    have hpf : tfind S.t p.1 = some p.2 := tfind_of hw.ris.nd hp
    have hpl := (h.mem p.1).1 (by rw [hpf]; rfl)
    rcases List.mem_cons.1 hpl with e' | hr
    · exact e'
    · have h2 := (List.pairwise_cons.1 h.ord).1 p.1 hr
      have h3 := h1 _ hmem
      unfold usedOf at h2
      rw [hx, hpf] at h2
      simp only at h2 h3
      omega
theorem usedOf_tset {T : STb} {i a : Int} {x : Se} (hR : Rising T) : usedOf (tset T i x) a = if a = i then x.used else usedOf T a := by
  unfold usedOf
  rw [tfind_tset hR]
  by_cases h : a = i
  · rw [if_pos h, if_pos h]
  · rw [if_neg h, if_neg h]
theorem usedOf_tdel {T : STb} {i a : Int} (h : a ≠ i) : usedOf (tdel T i) a = usedOf T a := by
  unfold usedOf
  rw [tfind_tdel, if_neg h]
theorem ord_append {T T' : STb} {l : List Int} {i v : Int} (h : l.Pairwise (fun a b => usedOf T a < usedOf T b)) (h1 : ∀ a ∈ l, usedOf T' a = usedOf T a) (h2 : usedOf T' i = v) (h3 : ∀ a ∈ l, usedOf T a < v) :
    (l ++ [i]).Pairwise (fun a b => usedOf T' a < usedOf T' b) := by
  rw [List.pairwise_append]
  refine ⟨?_, by simp, fun a ha b hb => ?_⟩
  · exact h.imp_of_mem (fun {a b} ha hb hab => by rw [h1 a ha, h1 b hb]; exact hab)
  · simp at hb; subst hb
    rw [h1 a ha, h2]; exact h3 a ha
/-- one more, while there is room -/
theorem LInv.add {S : SS} {line : List Int} {t i : Int} (h : LInv S line t) (hw : SWf S) (hi : t < i) (hi1 : 1 ≤ i ∧ i ≤ 1099511627776) (hfew : (line.length : Int) < S.most) :
    S.open i = ((0, true), ⟨S.most, tset S.t i (fresh i)⟩) ∧ LInv ⟨S.most, tset S.t i (fresh i)⟩ (line ++ [i]) i := by
  have hn : i ∉ line := fun hm => by have := (h.top i hm).1; omega
  have hf : tfind S.t i = none := by
    cases e : tfind S.t i with
    | none => rfl
    | some x => exact absurd ((h.mem i).1 (by rw [e]; rfl)) hn
  have hlen := h.len
  refine ⟨by unfold SS.open; rw [if_neg (by rw [hf]; simp; omega), if_neg (by omega)], ⟨fun a => ?_, ?_, ?_, fun a ha => ?_⟩⟩
  · simp only
    rw [tfind_tset hw.ris]
    by_cases e : a = i
    · rw [if_pos e]; simp [e]
    · rw [if_neg e, h.mem a]; simp [e]
  · simp only
    rw [tset_length hw.ris, tdel_not (tfind_none hf), hlen]; simp
  · exact ord_append (T := S.t) h.ord (fun a ha => by rw [usedOf_tset hw.ris, if_neg (fun e => hn (by rw [← e]; exact ha))]) (by rw [usedOf_tset hw.ris, if_pos rfl]) (fun a ha => by have := (h.top a ha).2; show usedOf S.t a < i; omega)
  · simp only
    rw [usedOf_tset hw.ris]
    rcases List.mem_append.1 ha with ha | ha
    · have := h.top a ha
      rw [if_neg (fun e => hn (by rw [← e]; exact ha))]
      omega
    · simp at ha; subst ha
      rw [if_pos rfl]; exact ⟨Int.le_refl _, Int.le_refl _⟩
/-- one more, when it is full -/
theorem LInv.swap {S : SS} {a : Int} {r : List Int} {t i : Int} (h : LInv S (a :: r) t) (hw : SWf S) (hi : t < i) (hi1 : 1 ≤ i ∧ i ≤ 1099511627776) (hfull : S.most = ((a :: r).length : Int)) :
    S.open i = ((a, true), ⟨S.most, tset (tdel S.t a) i (fresh i)⟩) ∧ LInv ⟨S.most, tset (tdel S.t a) i (fresh i)⟩ (r ++ [i]) i := by
  have hn : i ∉ a :: r := fun hm => by have := (h.top i hm).1; omega
  have hf : tfind S.t i = none := by
    cases e : tfind S.t i with
    | none => rfl
    | some x => exact absurd ((h.mem i).1 (by rw [e]; rfl)) hn
  have hlen := h.len
  have hold := h.oldest hw
  obtain ⟨x, hx⟩ := Option.isSome_iff_exists.1 ((h.mem a).2 (by simp))
  have hR := hw.ris.del (i := a)
  have hp := List.pairwise_cons.1 h.ord
  have har : a ∉ r := fun hm => by have := hp.1 a hm; omega
  have hir : i ∉ r := fun hm => hn (by simp [hm])
  have hne : i ≠ a := fun e => hn (by simp [e])
  refine ⟨by unfold SS.open; rw [if_neg (by rw [hf]; simp; omega), if_pos (by omega), hold], ⟨fun b => ?_, ?_, ?_, fun b hb => ?_⟩⟩
  · simp only
    rw [tfind_tset hR, tfind_tdel]
    by_cases e : b = i
    · rw [if_pos e]; simp [e]
    · rw [if_neg e]
      by_cases e2 : b = a
      · rw [if_pos e2]
        subst e2
        simp [har, e]
      · rw [if_neg e2, h.mem b]; simp [e, e2]
  · simp only
    have h1 := tdel_length hw.ris hx
    have h2 : tfind (tdel S.t a) i = none := by rw [tfind_tdel, if_neg hne, hf]
    rw [tset_length hR, tdel_not (tfind_none h2)]
    simp at hlen ⊢
    omega
  · refine ord_append (T := S.t) hp.2 (fun b hb => ?_) (by rw [usedOf_tset hR, if_pos rfl]) (fun b hb => by have := (h.top b (by simp [hb])).2; show usedOf S.t b < i; omega)
    have hb1 : b ≠ i := fun e => hir (by rw [← e]; exact hb)
    have hb2 : b ≠ a := fun e => har (by rw [← e]; exact hb)
    rw [usedOf_tset hR, if_neg hb1, usedOf_tdel hb2]
  · simp only
    rw [usedOf_tset hR]
    rcases List.mem_append.1 hb with hb | hb
    · have := h.top b (by simp [hb])
      have hb1 : b ≠ i := fun e => hir (by rw [← e]; exact hb)
      have hb2 : b ≠ a := fun e => har (by rw [← e]; exact hb)
      rw [if_neg hb1, usedOf_tdel hb2]
      omega
    · simp at hb; subst hb
      rw [if_pos rfl]; exact ⟨Int.le_refl _, Int.le_refl _⟩
/-- one is used -/
theorem LInv.used {S : SS} {A B : List Int} {t i j : Int} (h : LInv S (A ++ j :: B) t) (hw : SWf S) (hi : t < i) (hi1 : 1 ≤ i ∧ i ≤ 1099511627776) :
    ∃ T, S.use j i = (true, ⟨S.most, T⟩) ∧ LInv ⟨S.most, T⟩ (A ++ B ++ [j]) i := by
  obtain ⟨x, hx⟩ := Option.isSome_iff_exists.1 ((h.mem j).2 (by simp))
  have hju : usedOf S.t j = x.used := by unfold usedOf; rw [hx]
  have hjt := (h.top j (by simp)).2
  have hm : max x.used (min i 1099511627776) = i := by omega
  refine ⟨tset S.t j { x with used := i }, by unfold SS.use; rw [hx]; simp only [hm], ?_⟩
  have hsub : (A ++ B).Sublist (A ++ j :: B) := List.Sublist.append (List.Sublist.refl _) (List.sublist_cons_self ..)
  have hp := h.ord.sublist hsub
  have hj : j ∉ A ++ B := fun hm => by
    have h1 := List.pairwise_append.1 h.ord
    rcases List.mem_append.1 hm with ha | hb
    · have := h1.2.2 j ha j (by simp); omega
    · have := (List.pairwise_cons.1 h1.2.1).1 j hb; omega
  have hlen := h.len
  refine ⟨fun b => ?_, ?_, ?_, fun b hb => ?_⟩
  · simp only
    rw [tfind_tset hw.ris]
    by_cases e : b = j
    · rw [if_pos e]; simp [e]
    · rw [if_neg e, h.mem b]; simp [e]
  · simp only
    have h1 := tdel_length hw.ris hx
    rw [tset_length hw.ris]
    simp at hlen ⊢
    omega
  · exact ord_append (T := S.t) hp (fun b hb => by rw [usedOf_tset hw.ris, if_neg (fun e => hj (by rw [← e]; exact hb))]) (by rw [usedOf_tset hw.ris, if_pos rfl]) (fun b hb => by have := (h.top b (hsub.subset hb)).2; show usedOf S.t b < i; omega)
  · simp only
    rw [usedOf_tset hw.ris]
    rcases List.mem_append.1 hb with hb | hb
    · have := h.top b (hsub.subset hb)
      rw [if_neg (fun e => hj (by rw [← e]; exact hb))]
      omega
    · simp at hb; subst hb
      rw [if_pos rfl]
      have := h.top b (by simp)
      simp only
      omega
end Go.Proofs.YtajheglnhfjodaaDoor
