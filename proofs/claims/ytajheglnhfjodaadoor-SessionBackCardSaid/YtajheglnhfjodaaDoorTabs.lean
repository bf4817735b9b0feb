/- Sorted tables: keys in rising order. No condition, no program. -/
import Derived.Test.YtajheglnhfjodaaDoorTab
namespace Go.Proofs.YtajheglnhfjodaaDoor
set_option linter.unusedVariables false

class TO (κ : Type) [LT κ] : Prop where
  irr : ∀ a : κ, ¬ a < a
  tr : ∀ a b c : κ, a < b → b < c → a < c
  tri : ∀ a b : κ, a < b ∨ a = b ∨ b < a
instance : TO Int := ⟨fun a => by omega, fun a b c => by omega, fun a b => by omega⟩
instance : TO (List UInt8) := ⟨fun a => List.lt_irrefl a, fun a b c h1 h2 => List.lt_trans h1 h2, fun a b => by
  rcases Decidable.em (a < b) with h | h
  · exact .inl h
  · rcases Decidable.em (b < a) with h' | h'
    · exact .inr (.inr h')
    · exact .inr (.inl (List.le_antisymm h' h))⟩
section
variable {κ α : Type} [LT κ] [DecidableLT κ] [DecidableEq κ] [TO κ]
def Rising (L : List (κ × α)) : Prop := (L.map (·.1)).Pairwise (· < ·)
omit [DecidableLT κ] [DecidableEq κ] in
theorem Rising.nd {L : List (κ × α)} (h : Rising L) : (L.map (·.1)).Nodup := h.imp (fun {a b} hab e => by subst e; exact TO.irr _ hab)
def tset : List (κ × α) → κ → α → List (κ × α)
  | [], i, x => [(i, x)]
  | (j, y) :: r, i, x => if i < j then (i, x) :: (j, y) :: r else if j = i then (i, x) :: r else (j, y) :: tset r i x
def tdel (L : List (κ × α)) (i : κ) : List (κ × α) := L.filter (fun p => decide (p.1 ≠ i))
omit [DecidableLT κ] [TO κ] [LT κ] in
theorem tdel_eq {A B : List (κ × α)} {i : κ} {y : α} (h : ((A ++ (i, y) :: B).map (·.1)).Nodup) : tdel (A ++ (i, y) :: B) i = A ++ B := by
  simp only [List.map_append, List.map_cons] at h
  rw [List.nodup_append] at h
  unfold tdel
  rw [List.filter_append, List.filter_cons]
  simp only [ne_eq, not_true_eq_false, decide_false, Bool.false_eq_true, ↓reduceIte]
  rw [List.filter_eq_self.2, List.filter_eq_self.2]
  · intro p hp; simp; intro e
    exact (List.nodup_cons.1 h.2.1).1 (by rw [← e]; exact List.mem_map_of_mem hp)
  · intro p hp; simp; intro e
    exact h.2.2 p.1 (List.mem_map_of_mem hp) i (List.mem_cons_self ..) e
omit [DecidableLT κ] [TO κ] [LT κ] in
theorem tdel_not {L : List (κ × α)} {i : κ} (h : i ∉ L.map (·.1)) : tdel L i = L := by
  unfold tdel
  rw [List.filter_eq_self.2]
  intro p hp; simp; intro e
  exact h (by rw [← e]; exact List.mem_map_of_mem hp)
theorem tset_old {i : κ} {x y : α} : ∀ {A B : List (κ × α)}, Rising (A ++ (i, y) :: B) → tset (A ++ (i, y) :: B) i x = A ++ (i, x) :: B
  | [], B, _ => by simp [tset, TO.irr]
  | (j, z) :: A, B, h => by
    have h' : j < i := by
      unfold Rising at h
      simp only [List.map_append, List.map_cons, List.cons_append] at h
      exact (List.pairwise_cons.1 h).1 i (by simp)
    have h1 : ¬ i < j := fun h1 => TO.irr _ (TO.tr _ _ _ h' h1)
    have h2 : j ≠ i := fun e => by subst e; exact TO.irr _ h'
    show tset ((j, z) :: (A ++ (i, y) :: B)) i x = _
    unfold tset
    rw [if_neg h1, if_neg h2, tset_old]
    · rfl
    · unfold Rising at *
      simp only [List.map_append, List.map_cons, List.cons_append] at h ⊢
      exact (List.pairwise_cons.1 h).2
omit [TO κ] in
theorem tset_new {i : κ} {x : α} : ∀ {L : List (κ × α)}, i ∉ L.map (·.1) → ∃ A B, L = A ++ B ∧ tset L i x = A ++ (i, x) :: B
  | [], _ => ⟨[], [], rfl, rfl⟩
  | (j, z) :: L, h => by
    simp only [List.map_cons, List.mem_cons, not_or] at h
    unfold tset
    by_cases h1 : i < j
    · rw [if_pos h1]; exact ⟨[], (j, z) :: L, rfl, rfl⟩
    · rw [if_neg h1, if_neg (fun e => h.1 e.symm)]
      obtain ⟨A, B, e1, e2⟩ := tset_new (x := x) h.2
      exact ⟨(j, z) :: A, B, by rw [e1]; rfl, by rw [e2]; rfl⟩
omit [TO κ] in
theorem tset_perm {i : κ} {x : α} {L : List (κ × α)} (h : i ∉ L.map (·.1)) : (L ++ [(i, x)]).Perm (tset L i x) := by
  obtain ⟨A, B, rfl, e⟩ := tset_new (x := x) h
  rw [e, List.append_assoc]
  exact List.Perm.append_left A List.perm_append_comm
omit [TO κ] in
theorem tset_keys {i a : κ} {x : α} : ∀ {L : List (κ × α)}, a ∈ (tset L i x).map (·.1) → a = i ∨ a ∈ L.map (·.1)
  | [], h => by simp [tset] at h; exact .inl h
  | (j, z) :: L, h => by
    unfold tset at h
    by_cases h1 : i < j
    · rw [if_pos h1] at h
      simp only [List.map_cons, List.mem_cons] at h ⊢
      exact h
    · rw [if_neg h1] at h
      by_cases h2 : j = i
      · rw [if_pos h2] at h
        simp only [List.map_cons, List.mem_cons] at h ⊢
        rcases h with h | h
        · exact .inl h
        · exact .inr (.inr h)
      · rw [if_neg h2] at h
        simp only [List.map_cons, List.mem_cons] at h ⊢
        rcases h with h | h
        · exact .inr (.inl h)
        · rcases tset_keys h with h | h
          · exact .inl h
          · exact .inr (.inr h)
theorem Rising.set {i : κ} {x : α} : ∀ {L : List (κ × α)}, Rising L → Rising (tset L i x)
  | [], _ => by simp [tset, Rising]
  | (j, z) :: L, h => by
    have h' : (∀ a ∈ L.map (·.1), j < a) ∧ Rising L := by
      unfold Rising at *
      simp only [List.map_cons] at h
      exact ⟨(List.pairwise_cons.1 h).1, (List.pairwise_cons.1 h).2⟩
    unfold tset
    by_cases h1 : i < j
    · rw [if_pos h1]
      unfold Rising at *
      simp only [List.map_cons] at h ⊢
      refine List.pairwise_cons.2 ⟨fun a ha => ?_, h⟩
      rcases List.mem_cons.1 ha with e | ha
      · rw [e]; exact h1
      · exact TO.tr _ _ _ h1 (h'.1 a ha)
    · rw [if_neg h1]
      by_cases h2 : j = i
      · rw [if_pos h2]
        subst h2
        unfold Rising at *
        simpa only [List.map_cons] using h
      · rw [if_neg h2]
        have ih := Rising.set (i := i) (x := x) h'.2
        unfold Rising at ih ⊢
        simp only [List.map_cons]
        refine List.pairwise_cons.2 ⟨fun a ha => ?_, ih⟩
        rcases tset_keys ha with e | ha
        · rw [e]
          rcases TO.tri i j with c | c | c
          · exact absurd c h1
          · exact absurd c.symm h2
          · exact c
        · exact h'.1 a ha
omit [DecidableLT κ] [TO κ] in
theorem Rising.del {i : κ} {L : List (κ × α)} (h : Rising L) : Rising (tdel L i) := by
  unfold Rising tdel at *
  exact h.sublist (List.filter_sublist.map _)
omit [TO κ] in
theorem tfind_tset {i j : κ} {x : α} : ∀ {L : List (κ × α)}, Rising L → tfind (tset L i x) j = if j = i then some x else tfind L j
  | [], _ => by
    unfold tset tfind tfind
    by_cases e : i = j
    · rw [if_pos e, if_pos e.symm]
    · rw [if_neg e, if_neg (fun e' => e e'.symm)]
  | (k, z) :: L, h => by
    have h' : (∀ a ∈ L.map (·.1), k < a) ∧ Rising L := by
      unfold Rising at *
      simp only [List.map_cons] at h
      exact ⟨(List.pairwise_cons.1 h).1, (List.pairwise_cons.1 h).2⟩
    unfold tset
    by_cases h1 : i < k
    · rw [if_pos h1]
      conv => lhs; unfold tfind
      by_cases e : i = j
      · rw [if_pos e, if_pos e.symm]
      · rw [if_neg e, if_neg (fun e' => e e'.symm)]
    · rw [if_neg h1]
      by_cases h2 : k = i
      · rw [if_pos h2]
        subst h2
        conv => lhs; unfold tfind
        by_cases e : k = j
        · rw [if_pos e, if_pos e.symm]
        · rw [if_neg e, if_neg (fun e' => e e'.symm)]
          conv => rhs; unfold tfind
          rw [if_neg e]
      · rw [if_neg h2]
        conv => lhs; unfold tfind
        by_cases e : k = j
        · rw [if_pos e, if_neg (fun e' => h2 (e.trans e'))]
          conv => rhs; unfold tfind
          rw [if_pos e]
        · rw [if_neg e, tfind_tset h'.2]
          conv => rhs; unfold tfind
          rw [if_neg e]
omit [DecidableLT κ] [TO κ] [LT κ] in
theorem tfind_tdel {i j : κ} : ∀ {L : List (κ × α)}, tfind (tdel L i) j = if j = i then none else tfind L j
  | [] => by unfold tdel tfind; simp [tfind]
  | (k, z) :: L => by
    have ih := tfind_tdel (i := i) (j := j) (L := L)
    unfold tdel at ih ⊢
    rw [List.filter_cons]
    by_cases h : k = i
    · rw [if_neg (by simp [h]), ih]
      subst h
      by_cases e : j = k
      · rw [if_pos e, if_pos e]
      · rw [if_neg e, if_neg e]
        conv => rhs; unfold tfind
        rw [if_neg (fun e' => e e'.symm)]
    · rw [if_pos (by simp [h])]
      conv => lhs; unfold tfind
      by_cases e : k = j
      · rw [if_pos e, if_neg (fun e' => h (e.trans e'))]
        conv => rhs; unfold tfind
        rw [if_pos e]
      · rw [if_neg e, ih]
        conv => rhs; unfold tfind
        rw [if_neg e]
omit [DecidableLT κ] [DecidableEq κ] in
/-- two rising lists of the same members are one -/
theorem rising_one : ∀ {l m : List κ}, l.Pairwise (· < ·) → m.Pairwise (· < ·) → (∀ x, x ∈ l ↔ x ∈ m) → l = m
  | [], [], _, _, _ => rfl
  | [], y :: m, _, _, h => by have := (h y).2 (List.mem_cons_self ..); cases this
  | x :: l, [], _, _, h => by have := (h x).1 (List.mem_cons_self ..); cases this
  | x :: l, y :: m, h1, h2, h => by
    obtain ⟨a1, a2⟩ := List.pairwise_cons.1 h1
    obtain ⟨b1, b2⟩ := List.pairwise_cons.1 h2
    have e : x = y := by
      rcases List.mem_cons.1 ((h x).1 (List.mem_cons_self ..)) with e | c1
      · exact e
      · rcases List.mem_cons.1 ((h y).2 (List.mem_cons_self ..)) with e | c2
        · exact e.symm
        · exact absurd (TO.tr _ _ _ (b1 x c1) (a1 y c2)) (TO.irr _)
    subst e
    rw [rising_one a2 b2 (fun z => by
      constructor
      · intro hz
        rcases List.mem_cons.1 ((h z).1 (List.mem_cons_of_mem _ hz)) with e | c
        · rw [e] at hz; exact absurd (a1 x hz) (TO.irr _)
        · exact c
      · intro hz
        rcases List.mem_cons.1 ((h z).2 (List.mem_cons_of_mem _ hz)) with e | c
        · rw [e] at hz; exact absurd (b1 x hz) (TO.irr _)
        · exact c)]
end
/-- the keys of a sorted table, from any order -/
theorem sorted_keys {α : Type} {L : List (List UInt8 × α)} (hR : Rising L) {acc : List (List UInt8)} (hn : acc.Nodup) (h : ∀ a, a ∈ acc ↔ a ∈ L.map (·.1)) : (acc.mergeSort fun x y => decide (x ≤ y)) = L.map (·.1) := by
  refine rising_one ?_ hR (fun x => by rw [(List.mergeSort_perm acc _).mem_iff]; exact h x)
  have h1 : (acc.mergeSort fun x y => decide (x ≤ y)).Pairwise (fun a b => decide (a ≤ b) = true) := List.pairwise_mergeSort (fun a b c h1 h2 => by simp at *; exact List.le_trans h1 h2) (fun a b => by simp; exact List.le_total a b) acc
  have h2 : (acc.mergeSort fun x y => decide (x ≤ y)).Nodup := (List.mergeSort_perm acc _).nodup_iff.2 hn
  exact (h1.and h2).imp (fun {a b} h => by
    have h4 : a ≤ b := by simpa using h.1
    rcases TO.tri a b with c | c | c
    · exact c
    · exact absurd c h.2
    · exact absurd c h4)
theorem sorted_keysI {α : Type} {L : List (Int × α)} (hR : Rising L) {acc : List Int} (hn : acc.Nodup) (h : ∀ a, a ∈ acc ↔ a ∈ L.map (·.1)) : (acc.mergeSort fun x y => decide (x ≤ y)) = L.map (·.1) :=
  rising_one (sorted_ints hn) hR (fun x => by rw [(List.mergeSort_perm acc _).mem_iff]; exact h x)
/-! ### tables whose values are mapped -/
section
variable {κ α β : Type}
def tmap (f : α → β) (L : List (κ × α)) : List (κ × β) := L.map fun p => (p.1, f p.2)
theorem tmap_keys (f : α → β) (L : List (κ × α)) : (tmap f L).map (·.1) = L.map (·.1) := by unfold tmap; rw [List.map_map]; rfl
theorem tmap_length (f : α → β) (L : List (κ × α)) : (tmap f L).length = L.length := by unfold tmap; simp
theorem tmap_find [DecidableEq κ] (f : α → β) (i : κ) : ∀ L : List (κ × α), tfind (tmap f L) i = (tfind L i).map f
  | [] => rfl
  | (j, x) :: r => by
    show tfind ((j, f x) :: tmap f r) i = _
    unfold tfind
    by_cases e : j = i
    · rw [if_pos e, if_pos e]; rfl
    · rw [if_neg e, if_neg e]; exact tmap_find f i r
theorem tmap_set [LT κ] [DecidableLT κ] [DecidableEq κ] (f : α → β) (i : κ) (x : α) : ∀ L : List (κ × α), tmap f (tset L i x) = tset (tmap f L) i (f x)
  | [] => rfl
  | (j, y) :: r => by
    show _ = tset ((j, f y) :: tmap f r) i (f x)
    unfold tset
    by_cases h : i < j
    · rw [if_pos h, if_pos h]; rfl
    · rw [if_neg h, if_neg h]
      by_cases e : j = i
      · rw [if_pos e, if_pos e]; rfl
      · rw [if_neg e, if_neg e, ← tmap_set f i x r]; rfl
theorem tmap_del [DecidableEq κ] (f : α → β) (i : κ) : ∀ L : List (κ × α), tmap f (tdel L i) = tdel (tmap f L) i
  | [] => rfl
  | (j, y) :: r => by
    have ih := tmap_del f i r
    show tmap f (tdel ((j, y) :: r) i) = tdel ((j, f y) :: tmap f r) i
    unfold tdel at ih ⊢
    rw [List.filter_cons, List.filter_cons]
    by_cases e : j = i
    · simp only [e, ne_eq, not_true_eq_false, decide_false, Bool.false_eq_true, ↓reduceIte]; exact ih
    · simp only [ne_eq, e, not_false_eq_true, decide_true, ↓reduceIte]
      rw [← ih]; rfl
end
section
variable {κ α : Type} [LT κ] [DecidableLT κ] [DecidableEq κ] [TO κ]
omit [DecidableLT κ] [DecidableEq κ] [TO κ] in
theorem rising_tmap {β : Type} (f : α → β) (L : List (κ × α)) : Rising (tmap f L) ↔ Rising L := by unfold Rising; rw [tmap_keys]
theorem tset_perm2 {L : List (κ × α)} (h : Rising L) (i : κ) (x : α) : (tset L i x).Perm ((i, x) :: tdel L i) := by
  cases hf : tfind L i with
  | none =>
    rw [tdel_not (tfind_none hf)]
    exact (tset_perm (tfind_none hf)).symm.trans (List.perm_append_comm (l₁ := L) (l₂ := [(i, x)]))
  | some y =>
    obtain ⟨A, B, rfl⟩ := tfind_some hf
    rw [tset_old h, tdel_eq h.nd]
    exact List.perm_middle
theorem mem_tset {L : List (κ × α)} (h : Rising L) {i : κ} {x : α} {p : κ × α} (hp : p ∈ tset L i x) : p = (i, x) ∨ p ∈ tdel L i := by
  simpa using (tset_perm2 h i x).mem_iff.1 hp
theorem mem_tset_new {L : List (κ × α)} (h : Rising L) {i : κ} {x : α} : (i, x) ∈ tset L i x := (tset_perm2 h i x).mem_iff.2 (by simp)
omit [DecidableLT κ] [TO κ] [LT κ] in
theorem mem_tdel {L : List (κ × α)} {i : κ} {p : κ × α} (hp : p ∈ tdel L i) : p ∈ L ∧ p.1 ≠ i := by
  unfold tdel at hp
  have := List.mem_filter.1 hp
  exact ⟨this.1, by simpa using this.2⟩
omit [DecidableLT κ] [TO κ] [LT κ] in
theorem tdel_le {L : List (κ × α)} (i : κ) : (tdel L i).length ≤ L.length := List.length_filter_le _ _
theorem tset_length {L : List (κ × α)} (h : Rising L) (i : κ) (x : α) : (tset L i x).length = (tdel L i).length + 1 := by
  have := (tset_perm2 h i x).length_eq
  simpa using this
omit [DecidableLT κ] in
theorem tdel_length {L : List (κ × α)} (h : Rising L) {i : κ} {x : α} (hf : tfind L i = some x) : L.length = (tdel L i).length + 1 := by
  obtain ⟨A, B, rfl⟩ := tfind_some hf
  rw [tdel_eq h.nd]
  simp; omega
end
end Go.Proofs.YtajheglnhfjodaaDoor
