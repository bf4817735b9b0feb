/- Tables read: Load. No condition. -/
import Derived.Test.YtajheglnhfjodaaDoorSessN
set_option maxRecDepth 10000
namespace Go.Proofs.YtajheglnhfjodaaDoor
set_option linter.unusedVariables false
open Go.RowKit
open Go.Maps (Keyed)
open Go.ChangeMaps Go.WideElems

instance : DecidableEq Rp := fun a b => by
  cases a; cases b
  rw [Rp.mk.injEq]
  infer_instance
/-! ### plain -/
def e1S (s : Option (List UInt8)) := Wire.intS s
def e2S (s : Option (List UInt8)) := Wire.intS (e1S s).2
def e3S (s : Option (List UInt8)) := Wire.intS (e2S s).2
def e4S (s : Option (List UInt8)) := Wire.textS 1000 (e3S s).2
structure LdOk (last : Int) (s : Option (List UInt8)) : Prop where
  ok : Wire.okS (e4S s).2 = true
  rp : (getR (e4S s).1).2 = true
  last : last < (e1S s).1
  u1 : (e1S s).1 ≤ (e2S s).1
  u2 : (e2S s).1 ≤ 1099511627776
  q1 : 0 ≤ (e3S s).1
  q2 : (e3S s).1 ≤ 1099511627776
  none_ : (e3S s).1 = 0 → (getR (e4S s).1).1 = Rp.zero
instance (last : Int) (s : Option (List UInt8)) : Decidable (LdOk last s) :=
  decidable_of_iff (Wire.okS (e4S s).2 = true ∧ (getR (e4S s).1).2 = true ∧ last < (e1S s).1 ∧ (e1S s).1 ≤ (e2S s).1 ∧ (e2S s).1 ≤ 1099511627776 ∧ 0 ≤ (e3S s).1 ∧ (e3S s).1 ≤ 1099511627776 ∧ ((e3S s).1 = 0 → (getR (e4S s).1).1 = Rp.zero))
    ⟨fun ⟨h1, h2, h3, h4, h5, h6, h7, h8⟩ => ⟨h1, h2, h3, h4, h5, h6, h7, h8⟩, fun ⟨h1, h2, h3, h4, h5, h6, h7, h8⟩ => ⟨h1, h2, h3, h4, h5, h6, h7, h8⟩⟩
def ldP (s : Option (List UInt8)) : Int × Se := ((e1S s).1, ⟨(e2S s).1, (e3S s).1, (getR (e4S s).1).1⟩)
def ldN : Nat → Int → STb → Option (List UInt8) → Option (STb × Option (List UInt8))
  | 0, _, acc, s => some (acc, s)
  | k + 1, last, acc, s => if LdOk last s then ldN k (e1S s).1 (acc ++ [ldP s]) (e4S s).2 else none
def SS.load (S : SS) (s : Option (List UInt8)) : Bool × SS × Option (List UInt8) :=
  match ldN (Wire.countS S.most s).1.toNat 0 [] (Wire.countS S.most s).2 with
  | none => (false, S, none)
  | some (T, s') => if Wire.okS s' = true then (true, ⟨S.most, T⟩, s') else (false, S, none)
theorem intS_i64 (s : Option (List UInt8)) : i64' (Wire.intS s).1 := by
  unfold Wire.intS
  cases s with
  | none => simp [i64']
  | some l =>
    simp only
    cases h : Wire.getInt l with
    | none => simp [i64']
    | some p =>
      obtain ⟨v, r⟩ := p
      exact (Wire.getInt_back h).2
theorem getR_ok {b : List UInt8} (h : (getR b).2 = true) : ROk (getR b).1 = true ∧ i64' (getR b).1.vn := by
  unfold getR at h ⊢
  split at h
  · rename_i hc
    rw [if_pos hc]
    simp only [Bool.and_eq_true] at hc
    refine ⟨hc.2, ?_⟩
    show i64' (rdR b).vn
    unfold rdR vGetS
    simp only
    split
    · exact intS_i64 _
    · simp [i64']
  · cases h
structure AOk (last : Int) (acc : STb) : Prop where
  ris : Rising acc
  le : ∀ p ∈ acc, p.1 ≤ last
  ids : ∀ p ∈ acc, 1 ≤ p.1 ∧ p.1 ≤ 1099511627776
  ok : TOk acc
  last : 0 ≤ last ∧ last ≤ 1099511627776
theorem AOk.next {last : Int} {acc : STb} {s : Option (List UInt8)} (h : AOk last acc) (hs : LdOk last s) : AOk (e1S s).1 (acc ++ [ldP s]) := by
  have h1 := hs.last
  have h2 := hs.u1
  have h3 := hs.u2
  have h4 := h.last
  refine ⟨?_, ?_, ?_, ?_, by omega⟩
  · unfold Rising
    rw [List.map_append, List.pairwise_append]
    refine ⟨h.ris, by simp, ?_⟩
    intro a ha b hb
    obtain ⟨p, hp, rfl⟩ := List.mem_map.1 ha
    simp [ldP] at hb
    subst hb
    have := h.le p hp
    omega
  · intro p hp
    rcases List.mem_append.1 hp with hp | hp
    · have := h.le p hp; omega
    · simp at hp; subst hp; exact Int.le_refl _
  · intro p hp
    rcases List.mem_append.1 hp with hp | hp
    · exact h.ids p hp
    · simp at hp; subst hp; show 1 ≤ (e1S s).1 ∧ (e1S s).1 ≤ _; omega
  · intro p hp
    rcases List.mem_append.1 hp with hp | hp
    · exact h.ok p hp
    · simp at hp; subst hp
      exact ⟨⟨h2, h3⟩, ⟨hs.q1, hs.q2⟩, (getR_ok hs.rp).1, (getR_ok hs.rp).2, hs.none_⟩
theorem ldN_ok : ∀ (k : Nat) (last : Int) (acc : STb) (s : Option (List UInt8)) (T : STb) (s' : Option (List UInt8)), AOk last acc → ldN k last acc s = some (T, s') → (∃ last', AOk last' T) ∧ T.length = acc.length + k
  | 0, last, acc, s, T, s', h, e => by
    unfold ldN at e
    injection e with e
    injection e with e1 e2
    subst e1
    exact ⟨⟨last, h⟩, rfl⟩
  | k + 1, last, acc, s, T, s', h, e => by
    unfold ldN at e
    split at e
    · rename_i hc
      obtain ⟨h1, h2⟩ := ldN_ok k _ _ _ _ _ (h.next hc) e
      refine ⟨h1, ?_⟩
      rw [h2]; simp; omega
    · cases e
theorem tset_snoc {acc : STb} {i : Int} {x : Se} (h : ∀ p ∈ acc, p.1 < i) : tset acc i x = acc ++ [(i, x)] := by
  induction acc with
  | nil => rfl
  | cons q r ih =>
    obtain ⟨j, y⟩ := q
    have h1 : j < i := h (j, y) (by simp)
    simp only [List.cons_append, tset]
    rw [if_neg (by omega), if_neg (by omega), ih (fun p hp => h p (by simp [hp]))]
theorem e_put {p : Int × Se} {last : Int} {t : List UInt8} (hp : 1 ≤ p.1 ∧ p.1 ≤ 1099511627776) (ho : SeOk p.1 p.2) (hl : last < p.1) : LdOk last (some (enB p ++ t)) ∧ ldP (some (enB p ++ t)) = p ∧ (e4S (some (enB p ++ t))).2 = some t ∧ (e1S (some (enB p ++ t))).1 = p.1 := by
  have hu := ho.used
  have hq := ho.seq
  have e0 : enB p ++ t = Wire.int p.1 ++ (Wire.int p.2.used ++ (Wire.int p.2.seq ++ (Wire.text (rB p.2.rp) ++ t))) := by unfold enB; simp
  have e1 : e1S (some (enB p ++ t)) = (p.1, some (Wire.int p.2.used ++ (Wire.int p.2.seq ++ (Wire.text (rB p.2.rp) ++ t)))) := by
    unfold e1S; rw [e0]; exact intS_put (by unfold i64'; omega) _
  have e2 : e2S (some (enB p ++ t)) = (p.2.used, some (Wire.int p.2.seq ++ (Wire.text (rB p.2.rp) ++ t))) := by
    unfold e2S; rw [e1]; exact intS_put (by unfold i64'; omega) _
  have e3 : e3S (some (enB p ++ t)) = (p.2.seq, some (Wire.text (rB p.2.rp) ++ t)) := by
    unfold e3S; rw [e2]; exact intS_put (by unfold i64'; omega) _
  have hle := rB_le ho.rp
  have e4 : e4S (some (enB p ++ t)) = (rB p.2.rp, some t) := by
    unfold e4S; rw [e3]; exact textS_put (by omega) (by omega)
  have eg := getR_put ho.rp ho.vn
  refine ⟨⟨by rw [e4]; rfl, by rw [e4, eg], by rw [e1]; exact hl, by rw [e1, e2]; exact hu.1, by rw [e2]; exact hu.2, by rw [e3]; exact hq.1, by rw [e3]; exact hq.2, by rw [e3, e4, eg]; exact ho.none_⟩, ?_, by rw [e4], by rw [e1]⟩
  unfold ldP
  rw [e1, e2, e3, e4, eg]
theorem ldN_put : ∀ (T : STb) (last : Int) (acc : STb) (t : List UInt8), Rising T → (∀ p ∈ T, last < p.1) → (∀ p ∈ T, 1 ≤ p.1 ∧ p.1 ≤ 1099511627776) → TOk T → ldN T.length last acc (some (tabB T ++ t)) = some (acc ++ T, some t)
  | [], last, acc, t, _, _, _, _ => by simp [ldN, tabB]
  | p :: r, last, acc, t, hR, hl, hi, ho => by
    obtain ⟨h1, h2, h3, h4⟩ := e_put (t := tabB r ++ t) (hi p (by simp)) (ho p (by simp)) (hl p (by simp))
    have e : tabB (p :: r) ++ t = enB p ++ (tabB r ++ t) := by simp [tabB]
    rw [e]
    show (if LdOk last (some (enB p ++ (tabB r ++ t))) then _ else none) = _
    rw [if_pos h1, h2, h3, h4]
    unfold Rising at hR
    rw [List.map_cons, List.pairwise_cons] at hR
    rw [ldN_put r p.1 (acc ++ [p]) t hR.2 (fun q hq => hR.1 _ (List.mem_map_of_mem hq)) (fun q hq => hi q (by simp [hq])) (fun q hq => ho q (by simp [hq]))]
    simp
theorem tabB_len : ∀ (T : STb), T.length ≤ (tabB T).length
  | [] => Nat.zero_le _
  | p :: r => by
    have := tabB_len r
    have := (Wire.int_len p.1).1
    show r.length + 1 ≤ (enB p ++ tabB r).length
    unfold enB
    simp only [List.length_append]
    omega
theorem SWf.load {S : SS} (h : SWf S) (s : Option (List UInt8)) : SWf (S.load s).2.1 := by
  have hm := h.most
  unfold SS.load
  cases e : ldN (Wire.countS S.most s).1.toNat 0 [] (Wire.countS S.most s).2 with
  | none => exact h
  | some q =>
    obtain ⟨T, s'⟩ := q
    obtain ⟨⟨last, hA⟩, hl⟩ := ldN_ok _ 0 [] _ _ _ ⟨by simp [Rising], by simp, by simp, by intro p hp; simp at hp, by decide⟩ e
    simp only
    split
    · refine ⟨hm, ?_, hA.ids, hA.ris⟩
      simp only
      rw [hl]
      have : (Wire.countS S.most s).1 ≤ S.most := by
        unfold Wire.countS
        split
        · simp only; omega
        · split
          · simp only; omega
          · rename_i hc; simp only; omega
      simp only [List.length_nil]
      omega
    · exact h
theorem TOk.load {S : SS} (h : TOk S.t) (s : Option (List UInt8)) : TOk (S.load s).2.1.t := by
  unfold SS.load
  cases e : ldN (Wire.countS S.most s).1.toNat 0 [] (Wire.countS S.most s).2 with
  | none => exact h
  | some q =>
    obtain ⟨T, s'⟩ := q
    obtain ⟨⟨last, hA⟩, hl⟩ := ldN_ok _ 0 [] _ _ _ ⟨by simp [Rising], by simp, by simp, by intro p hp; simp at hp, by decide⟩ e
    simp only
    split
    · exact hA.ok
    · exact h
/-- what was put is loaded -/
theorem SS.load_put {S S0 : SS} (h : SWf S) (ho : TOk S.t) (hm : S.most = S0.most) : S0.load (some S.put) = (true, ⟨S0.most, S.t⟩, some []) := by
  have hfew := h.few
  have hmost := h.most
  have e : Wire.countS S0.most (some S.put) = ((S.t.length : Int), some (tabB S.t)) := countS_put (by omega) (tabB_len _) (by omega)
  unfold SS.load
  rw [e]
  simp only [Int.toNat_natCast]
  have := ldN_put S.t 0 [] [] h.ris (fun p hp => by have := (h.ids p hp).1; omega) h.ids ho
  rw [List.append_nil] at this
  rw [this]
  simp [Wire.okS]
end Go.Proofs.YtajheglnhfjodaaDoor
