/- Frames one behind the other, and cut: the plain law. No condition. -/
import Derived.Test.YtpaibalemjkkcaaFrameJ
namespace Go.Proofs.Ytpaibalemjkkcaa.Frame
set_option linter.unusedVariables false

theorem stop_le {l : List UInt8} {k j : Nat} (hk : ∀ i, i < k → okAt l i) (hj : ¬ okAt l j) : k ≤ j := by
  rcases Nat.lt_or_ge j k with h | h
  · exact absurd (hk j h) hj
  · exact h
def laid (bs : List (List UInt8)) : List UInt8 := (bs.map put).flatten
def Good (bs : List (List UInt8)) : Prop := ∀ b ∈ bs, 1 ≤ b.length ∧ b.length ≤ 2000
def ends (bs : List (List UInt8)) : List Int := (List.range bs.length).map fun i => ((laid (bs.take (i + 1))).length : Int)
def sel (s : List ByteArray) : List (List UInt8) := (s.filter fun x => decide (1 ≤ x.size ∧ x.size ≤ 2000)).map fun x => x.data.toList

theorem laid_append (a b : List (List UInt8)) : laid (a ++ b) = laid a ++ laid b := by simp [laid]
theorem laid_one (b : List UInt8) : laid [b] = put b := by simp [laid]
theorem sel_append (a b : List ByteArray) : sel (a ++ b) = sel a ++ sel b := by simp [sel]
theorem sel_good (s : List ByteArray) : Good (sel s) := by
  intro b hb
  simp only [sel, List.mem_map, List.mem_filter, decide_eq_true_eq] at hb
  obtain ⟨x, ⟨_, h1, h2⟩, rfl⟩ := hb
  exact ⟨h1, h2⟩
theorem sel_yes {x : ByteArray} (h1 : 1 ≤ x.size) (h2 : x.size ≤ 2000) : sel [x] = [x.data.toList] := by simp [sel, h1, h2]
theorem sel_no {x : ByteArray} (h : x.size < 1 ∨ 2000 < x.size) : sel [x] = [] := by
  simp only [sel, List.map_eq_nil_iff, List.filter_eq_nil_iff, List.mem_singleton, decide_eq_true_eq]
  rintro y rfl
  omega
theorem take_succ {α : Type} {l : List α} {i : Nat} {x : α} (h : l[i]? = some x) : l.take (i + 1) = l.take i ++ [x] := by
  rw [List.take_add_one, h]; rfl
theorem ends_append (bs : List (List UInt8)) (b : List UInt8) : ends (bs ++ [b]) = ends bs ++ [((laid (bs ++ [b])).length : Int)] := by
  unfold ends
  rw [List.length_append, List.length_singleton, List.range_succ, List.map_append]
  congr 1
  · apply List.map_congr_left
    intro i hi
    rw [List.mem_range] at hi
    rw [List.take_append_of_le_length (by omega)]
  · simp only [List.map_cons, List.map_nil]
    rw [List.take_of_length_le (by simp)]
theorem ends_get {bs : List (List UInt8)} {i : Nat} (h : i < bs.length) : (ends bs)[i]? = some ((laid (bs.take (i + 1))).length : Int) := by
  unfold ends
  rw [List.getElem?_map, List.getElem?_range h]; rfl
theorem ends_len (bs : List (List UInt8)) : (ends bs).length = bs.length := by simp [ends]
theorem put_pos (b : List UInt8) : 5 ≤ (put b).length := by
  have := (Wire.int_len (b.length : Int)).1
  rw [put_len]; omega
theorem laid_le {bs : List (List UInt8)} (h : Good bs) : (laid bs).length ≤ 2014 * bs.length := by
  induction bs with
  | nil => simp [laid]
  | cons b r ih =>
    have h1 := h b (by simp)
    have h2 := ih fun x hx => h x (by simp [hx])
    have h3 := (Wire.int_len (b.length : Int)).2
    have e : laid (b :: r) = put b ++ laid r := rfl
    rw [e, List.length_append, put_len, List.length_cons]
    omega
theorem laid_take_le (bs : List (List UInt8)) (i : Nat) : (laid (bs.take i)).length ≤ (laid bs).length := by
  have e : laid bs = laid (bs.take i) ++ laid (bs.drop i) := by rw [← laid_append, List.take_append_drop]
  rw [e, List.length_append]; omega
theorem laid_split {bs : List (List UInt8)} {i : Nat} {b : List UInt8} (h : bs[i]? = some b) : laid bs = laid (bs.take i) ++ (put b ++ laid (bs.drop (i + 1))) := by
  have hlt := (List.getElem?_eq_some_iff.1 h).1
  have h2 := (List.getElem?_eq_some_iff.1 h).2
  have e : bs = bs.take i ++ (b :: bs.drop (i + 1)) := by
    rw [← h2, ← List.drop_eq_getElem_cons hlt, List.take_append_drop]
  calc laid bs = laid (bs.take i ++ (b :: bs.drop (i + 1))) := by rw [← e]
    _ = _ := by rw [laid_append]; rfl
theorem first_short {b r : List UInt8} {j : Nat} (h1 : 1 ≤ b.length) (h2 : b.length ≤ 1048576) (hj : j < (put b).length) : first ((put b ++ r).take j) = none := by
  cases h : first ((put b ++ r).take j) with
  | none => rfl
  | some x =>
    obtain ⟨b', r'⟩ := x
    obtain ⟨e, h3, h4⟩ := first_some h
    have e2 : put b ++ r = put b' ++ (r' ++ (put b ++ r).drop j) := by rw [← List.append_assoc, ← e, List.take_append_drop]
    have f1 := first_put r h1 h2
    rw [e2, first_put _ h3 h4] at f1
    injection f1 with f1
    have hb : b' = b := congrArg Prod.fst f1
    have := congrArg List.length e
    rw [List.length_append, hb, List.length_take] at this
    omega
theorem get_mid {p b r : List UInt8} (h1 : 1 ≤ b.length) (h2 : b.length ≤ 1048576) : get (p ++ (put b ++ r)) (p.length : Int) = (b, (p.length : Int) + (put b).length, 0) := by
  have h5 := put_pos b
  unfold get
  rw [if_neg (by simp only [List.length_append]; omega), if_neg (by simp only [List.length_append]; omega), Int.toNat_natCast, List.drop_left' rfl, first_put r h1 h2]
theorem get_stop {p t : List UInt8} (h : first t = none) : (get (p ++ t) (p.length : Int)).2.2 ≠ 0 := by
  unfold get
  rw [if_neg (by simp only [List.length_append]; omega)]
  split
  · decide
  · rw [Int.toNat_natCast, List.drop_left' rfl, h]; exact (by decide : (4 : Int) ≠ 0)
theorem get_none (l : List UInt8) : (get l (l.length : Int)).2.2 = 3 := by
  unfold get
  rw [if_neg (by omega), if_pos rfl]
section
variable {l t : List UInt8} {bs : List (List UInt8)} (e : l = laid bs ++ t) (hg : Good bs)
include e hg
theorem many_get {i : Nat} {b : List UInt8} (h : bs[i]? = some b) : get l ((laid (bs.take i)).length : Int) = (b, ((laid (bs.take (i + 1))).length : Int), 0) := by
  have hb := hg b (List.mem_of_getElem? h)
  rw [e, laid_split h, List.append_assoc, List.append_assoc, get_mid hb.1 (by omega), take_succ h, laid_append, laid_one, List.length_append]
  simp
theorem many_place : ∀ i, i ≤ bs.length → place l i = ((laid (bs.take i)).length : Int)
  | 0, _ => by simp [laid, place]
  | i + 1, h => by
    obtain ⟨b, hb⟩ : ∃ b, bs[i]? = some b := ⟨_, List.getElem?_eq_getElem (by omega)⟩
    have e1 : place l (i + 1) = (get l (place l i)).2.1 := rfl
    rw [e1, many_place i (by omega), many_get e hg hb]
theorem many_ok {i : Nat} (h : i < bs.length) : okAt l i := by
  obtain ⟨b, hb⟩ : ∃ b, bs[i]? = some b := ⟨_, List.getElem?_eq_getElem (by omega)⟩
  show (get l (place l i)).2.2 = 0
  rw [many_place e hg i (by omega), many_get e hg hb]
theorem many_body {i : Nat} {b : List UInt8} (h : bs[i]? = some b) : body l i = b := by
  have hlt := (List.getElem?_eq_some_iff.1 h).1
  show (get l (place l i)).1 = b
  rw [many_place e hg i (by omega), many_get e hg h]
theorem many_no (ht : first t = none) : ¬ okAt l bs.length := by
  show ¬ (get l (place l bs.length)).2.2 = 0
  rw [many_place e hg _ (Nat.le_refl _), List.take_of_length_le (Nat.le_refl _), e]
  exact get_stop ht
end
theorem laid_cut {bs : List (List UInt8)} {n k : Nat} (hg : Good bs) (hn : n ≤ bs.length) (h1 : (laid (bs.take n)).length ≤ k) (h2 : n = bs.length ∨ k < (laid (bs.take (n + 1))).length) :
    ∃ t, (laid bs).take k = laid (bs.take n) ++ t ∧ first t = none := by
  by_cases h : n = bs.length
  · subst h
    rw [List.take_of_length_le (Nat.le_refl _)] at h1 ⊢
    exact ⟨[], by rw [List.take_of_length_le h1, List.append_nil], rfl⟩
  · obtain ⟨b, hb⟩ : ∃ b, bs[n]? = some b := ⟨_, List.getElem?_eq_getElem (by omega)⟩
    have hgb := hg b (List.mem_of_getElem? hb)
    have h3 : k < (laid (bs.take (n + 1))).length := h2.resolve_left h
    rw [take_succ hb, laid_append, laid_one, List.length_append] at h3
    refine ⟨(put b ++ laid (bs.drop (n + 1))).take (k - (laid (bs.take n)).length), ?_, first_short hgb.1 (by omega) (by omega)⟩
    rw [laid_split hb, List.take_append, List.take_of_length_le (by omega)]
end Go.Proofs.Ytpaibalemjkkcaa.Frame
