/- A map as a list of keys and what stands at them. No condition. -/
import Derived.Test.YtajheglnhfjodaaDoorVSort
import Derived.Test.YtajheglnhfjodaaDoorVRow
set_option maxRecDepth 10000
namespace Go.Proofs.YtajheglnhfjodaaDoor
set_option linter.unusedVariables false
open Go.RowKit
open Go.Maps (Keyed)
open Go.ChangeMaps Go.WideElems

section
variable {κ α : Type} [DecidableEq κ]
/-- what stands at a key -/
def tfind : List (κ × α) → κ → Option α
  | [], _ => none
  | (j, x) :: r, i => if j = i then some x else tfind r i
theorem tfind_none {i : κ} : ∀ {L : List (κ × α)}, tfind L i = none → i ∉ L.map (·.1)
  | [], _ => by simp
  | (j, x) :: r, h => by
    unfold tfind at h
    by_cases e : j = i
    · rw [if_pos e] at h; cases h
    · rw [if_neg e] at h
      have := tfind_none h
      simp only [List.map_cons, List.mem_cons, not_or]
      exact ⟨fun h' => e h'.symm, this⟩
theorem tfind_not {i : κ} : ∀ {L : List (κ × α)}, i ∉ L.map (·.1) → tfind L i = none
  | [], _ => rfl
  | (j, x) :: r, h => by
    simp only [List.map_cons, List.mem_cons, not_or] at h
    unfold tfind
    rw [if_neg (fun e => h.1 e.symm)]
    exact tfind_not h.2
theorem tfind_some {i : κ} {x : α} : ∀ {L : List (κ × α)}, tfind L i = some x → ∃ A B, L = A ++ (i, x) :: B
  | [], h => by cases h
  | (j, y) :: r, h => by
    unfold tfind at h
    by_cases e : j = i
    · rw [if_pos e] at h; injection h with h; subst h; subst e; exact ⟨[], r, rfl⟩
    · rw [if_neg e] at h
      obtain ⟨A, B, e'⟩ := tfind_some h
      exact ⟨(j, y) :: A, B, by rw [e']; rfl⟩
theorem tfind_mem {i : κ} {x : α} {L : List (κ × α)} (h : tfind L i = some x) : (i, x) ∈ L := by
  obtain ⟨A, B, rfl⟩ := tfind_some h; simp
theorem tfind_of {i : κ} {x : α} : ∀ {L : List (κ × α)}, (L.map (·.1)).Nodup → (i, x) ∈ L → tfind L i = some x
  | [], _, h => by cases h
  | (j, y) :: r, hn, h => by
    simp only [List.map_cons, List.nodup_cons] at hn
    unfold tfind
    rcases List.mem_cons.1 h with e | h
    · injection e with e1 e2; subst e1; subst e2; rw [if_pos rfl]
    · have : j ≠ i := fun e => hn.1 (by rw [e]; exact List.mem_map_of_mem h)
      rw [if_neg this]
      exact tfind_of hn.2 h
end
section
variable {κ α : Type}
/-- D holds, at the keys of L, what L says, and nothing else -/
structure Rel (P : Program) (k : TypeId) (val : κ → Value) (lit : κ → Lit) (enc : α → Value) (D : DataW Value) (L : List (κ × α)) : Prop where
  tidy : Maps.Tidy D
  nd : (L.map (·.1)).Nodup
  key : ∀ p ∈ L, keyOf P k (val p.1) = some (lit p.1)
  src : ∀ kl, Maps.has D kl = true → ∃ p ∈ L, kl = lit p.1
  has : ∀ p ∈ L, Maps.has D (lit p.1) = true
  at_ : ∀ p ∈ L, ∀ z, mval D (lit p.1) z = enc p.2
  size : Maps.size D = L.length
variable {P : Program} {k : TypeId} {val : κ → Value} {lit : κ → Lit} {enc : α → Value} {D : DataW Value} {L : List (κ × α)} {i : κ} {x y : α}
theorem Rel.empty : Rel P k val lit enc (.map []) ([] : List (κ × α)) :=
  ⟨Maps.tidy_empty, by simp, (by intro p h; cases h), (by intro kl h; simp [Maps.has] at h), (by intro p h; cases h), (by intro p h; cases h), rfl⟩
theorem mval_not {D : DataW Value} {kl : Lit} {z : Value} (h : Maps.has D kl = false) : mval D kl z = z := by
  unfold mval; rw [Maps.atKey_of_not_has h]
theorem Rel.hasF (R : Rel P k val lit enc D L) (hi : ∀ a b, lit a = lit b → a = b) (h : i ∉ L.map (·.1)) : Maps.has D (lit i) = false := by
  cases e : Maps.has D (lit i) with
  | false => rfl
  | true =>
    obtain ⟨p, hp, e'⟩ := R.src _ e
    exact absurd (by rw [hi _ _ e']; exact List.mem_map_of_mem hp) h
theorem Rel.perm {L' : List (κ × α)} (R : Rel P k val lit enc D L) (h : L.Perm L') : Rel P k val lit enc D L' :=
  ⟨R.tidy, ((h.map _).nodup_iff).1 R.nd, fun p hp => R.key p (h.mem_iff.2 hp), fun kl hk => by obtain ⟨p, hp, e⟩ := R.src kl hk; exact ⟨p, h.mem_iff.1 hp, e⟩,
    fun p hp => R.has p (h.mem_iff.2 hp), fun p hp => R.at_ p (h.mem_iff.2 hp), by rw [R.size, h.length_eq]⟩
theorem Rel.put (R : Rel P k val lit enc D L) (Kd : Keyed P k) (hi : ∀ a b, lit a = lit b → a = b) (hk : keyOf P k (val i) = some (lit i)) (h : i ∉ L.map (·.1)) :
    Rel P k val lit enc (D.put (lit i) (.held (enc x))) (L ++ [(i, x)]) := by
  have hl := Kd.key hk
  have hne : ∀ p ∈ L, lit p.1 ≠ lit i := fun p hp e => h (by rw [← hi _ _ e]; exact List.mem_map_of_mem hp)
  refine ⟨R.tidy.put hl _, ?_, ?_, ?_, ?_, ?_, ?_⟩
  · rw [List.map_append, List.nodup_append]
    refine ⟨R.nd, by simp, ?_⟩
    intro a ha b hb e
    simp at hb
    subst hb; subst e
    exact h ha
  · intro p hp
    rcases List.mem_append.1 hp with hp | hp
    · exact R.key p hp
    · simp at hp; subst hp; exact hk
  · intro kl hkl
    by_cases e : kl = lit i
    · exact ⟨(i, x), by simp, e⟩
    · rw [Maps.has_put_other e] at hkl
      obtain ⟨p, hp, e'⟩ := R.src kl hkl
      exact ⟨p, List.mem_append_left _ hp, e'⟩
  · intro p hp
    rcases List.mem_append.1 hp with hp | hp
    · rw [Maps.has_put_other (hne p hp)]; exact R.has p hp
    · simp at hp; subst hp; exact Maps.has_put_same R.tidy.isMap hl _
  · intro p hp z
    rcases List.mem_append.1 hp with hp | hp
    · rw [mval_put_other (hne p hp)]; exact R.at_ p hp z
    · simp at hp; subst hp; exact mval_put_same R.tidy.isMap hl
  · rw [Maps.size_put R.tidy, R.hasF hi h, R.size]
    simp
theorem Rel.set {A B : List (κ × α)} (R : Rel P k val lit enc D (A ++ (i, y) :: B)) (Kd : Keyed P k) (hi : ∀ a b, lit a = lit b → a = b) :
    Rel P k val lit enc (D.put (lit i) (.held (enc x))) (A ++ (i, x) :: B) := by
  have hk : keyOf P k (val i) = some (lit i) := R.key (i, y) (by simp)
  have hl := Kd.key hk
  have hm : ∀ p, p ∈ A ∨ p ∈ B → p ∈ A ++ (i, y) :: B := by intro p hp; simp; rcases hp with h | h <;> simp [h]
  have hnd := R.nd
  simp only [List.map_append, List.map_cons] at hnd
  have h0 : i ∉ A.map (·.1) ∧ i ∉ B.map (·.1) := by
    rw [List.nodup_append] at hnd
    refine ⟨fun h => hnd.2.2 i h i (List.mem_cons_self ..) rfl, ?_⟩
    exact (List.nodup_cons.1 hnd.2.1).1
  have hne : ∀ p, p ∈ A ∨ p ∈ B → lit p.1 ≠ lit i := fun p hp e => by
    have e := hi _ _ e
    rcases hp with hp | hp
    · exact h0.1 (by rw [← e]; exact List.mem_map_of_mem hp)
    · exact h0.2 (by rw [← e]; exact List.mem_map_of_mem hp)
  have hspl : ∀ p ∈ A ++ (i, x) :: B, (p ∈ A ∨ p ∈ B) ∨ p = (i, x) := by
    intro p hp; simp at hp; rcases hp with h | h | h
    · exact .inl (.inl h)
    · exact .inr h
    · exact .inl (.inr h)
  refine ⟨R.tidy.put hl _, by simpa using R.nd, ?_, ?_, ?_, ?_, ?_⟩
  · intro p hp
    rcases hspl p hp with h | rfl
    · exact R.key p (hm p h)
    · exact hk
  · intro kl hkl
    by_cases e : kl = lit i
    · exact ⟨(i, x), by simp, e⟩
    · rw [Maps.has_put_other e] at hkl
      obtain ⟨p, hp, e'⟩ := R.src kl hkl
      simp at hp
      rcases hp with h | h | h
      · exact ⟨p, by simp [h], e'⟩
      · subst h; exact absurd e' e
      · exact ⟨p, by simp [h], e'⟩
  · intro p hp
    rcases hspl p hp with h | rfl
    · rw [Maps.has_put_other (hne p h)]; exact R.has p (hm p h)
    · exact Maps.has_put_same R.tidy.isMap hl _
  · intro p hp z
    rcases hspl p hp with h | rfl
    · rw [mval_put_other (hne p h)]; exact R.at_ p (hm p h) z
    · exact mval_put_same R.tidy.isMap hl
  · rw [Maps.size_put R.tidy, R.has (i, y) (by simp), R.size]
    simp
theorem Rel.del {A B : List (κ × α)} (R : Rel P k val lit enc D (A ++ (i, y) :: B)) (hi : ∀ a b, lit a = lit b → a = b) :
    Rel P k val lit enc (D.del (lit i)) (A ++ B) := by
  have hm : ∀ p, p ∈ A ∨ p ∈ B → p ∈ A ++ (i, y) :: B := by intro p hp; simp; rcases hp with h | h <;> simp [h]
  have hnd := R.nd
  simp only [List.map_append, List.map_cons] at hnd
  rw [List.nodup_append] at hnd
  have h0 : i ∉ A.map (·.1) ∧ i ∉ B.map (·.1) := ⟨fun h => hnd.2.2 i h i (List.mem_cons_self ..) rfl, (List.nodup_cons.1 hnd.2.1).1⟩
  have hne : ∀ p, p ∈ A ∨ p ∈ B → lit p.1 ≠ lit i := fun p hp e => by
    have e := hi _ _ e
    rcases hp with hp | hp
    · exact h0.1 (by rw [← e]; exact List.mem_map_of_mem hp)
    · exact h0.2 (by rw [← e]; exact List.mem_map_of_mem hp)
  refine ⟨R.tidy.del _, ?_, ?_, ?_, ?_, ?_, ?_⟩
  · rw [List.map_append, List.nodup_append]
    exact ⟨hnd.1, (List.nodup_cons.1 hnd.2.1).2, fun a ha b hb => hnd.2.2 a ha b (List.mem_cons_of_mem _ hb)⟩
  · intro p hp; exact R.key p (hm p (List.mem_append.1 hp))
  · intro kl hkl
    by_cases e : kl = lit i
    · subst e; rw [Maps.has_del_same] at hkl; cases hkl
    · rw [Maps.has_del_other e] at hkl
      obtain ⟨p, hp, e'⟩ := R.src kl hkl
      simp at hp
      rcases hp with h | h | h
      · exact ⟨p, by simp [h], e'⟩
      · subst h; exact absurd e' e
      · exact ⟨p, by simp [h], e'⟩
  · intro p hp
    rw [Maps.has_del_other (hne p (List.mem_append.1 hp))]; exact R.has p (hm p (List.mem_append.1 hp))
  · intro p hp z
    unfold mval
    rw [Maps.atKey_del_other (hne p (List.mem_append.1 hp))]; exact R.at_ p (hm p (List.mem_append.1 hp)) z
  · have h1 := Maps.size_del R.tidy (k := lit i)
    rw [R.has (i, y) (by simp), R.size] at h1
    simp at h1 ⊢
    omega
theorem nodup_le {κ : Type} : ∀ {l m : List κ}, l.Nodup → (∀ a ∈ l, a ∈ m) → l.length ≤ m.length
  | [], _, _, _ => by simp
  | a :: l, m, hn, h => by
    obtain ⟨h1, h2⟩ := List.nodup_cons.1 hn
    obtain ⟨A, B, rfl⟩ := List.append_of_mem (h a (List.mem_cons_self ..))
    have := nodup_le (m := A ++ B) h2 (fun x hx => by
      have := h x (List.mem_cons_of_mem _ hx)
      simp at this ⊢
      rcases this with h' | h' | h'
      · exact .inl h'
      · subst h'; exact absurd hx h1
      · exact .inr h')
    simp at this ⊢
    omega
/-! ### the keys that a range has yet to tell -/
structure Todo (lit : κ → Lit) (L : List (κ × α)) (left : Lit → Bool) (acc : List κ) : Prop where
  nd : acc.Nodup
  sub : ∀ a ∈ acc, a ∈ L.map (·.1)
  cov : ∀ p ∈ L, p.1 ∈ acc ∨ left (lit p.1) = true
  out : ∀ a ∈ acc, left (lit a) = false
theorem Todo.start {left : Lit → Bool} (h : ∀ p ∈ L, left (lit p.1) = true) : Todo lit L left [] := ⟨by simp, by simp, fun p hp => .inr (h p hp), by simp⟩
theorem Todo.next {left : Lit → Bool} {acc : List κ} {kl : Lit} (T : Todo lit L left acc) (hi : ∀ a b, lit a = lit b → a = b) (hk : WideAt.IsKeyLit kl) (e : kl = lit i) (hm : i ∈ L.map (·.1)) (hl : left kl = true) :
    Todo lit L (fun x => left x && !x.sameKey kl) (acc ++ [i]) := by
  subst e
  refine ⟨?_, ?_, ?_, ?_⟩
  · rw [List.nodup_append]
    refine ⟨T.nd, by simp, ?_⟩
    intro a ha b hb e
    simp at hb; subst hb; subst e
    have := T.out a ha
    rw [hl] at this; cases this
  · intro a ha
    rcases List.mem_append.1 ha with h | h
    · exact T.sub a h
    · simp at h; subst h; exact hm
  · intro p hp
    by_cases e : p.1 = i
    · exact .inl (by simp [e])
    · rcases T.cov p hp with h | h
      · exact .inl (List.mem_append_left _ h)
      · right
        rw [h, Maps.sameKey_ne (fun e' => e (hi _ _ e'))]; rfl
  · intro a ha
    rcases List.mem_append.1 ha with h | h
    · rw [T.out a h]; rfl
    · simp at h; subst h
      rw [WideAt.sameKey_self hk]; simp
theorem Todo.all {left : Lit → Bool} {acc : List κ} (T : Todo lit L left acc) (h : ∀ kl, left kl = false) : ∀ a, a ∈ acc ↔ a ∈ L.map (·.1) := fun a =>
  ⟨T.sub a, fun ha => by
    obtain ⟨p, hp, rfl⟩ := List.mem_map.1 ha
    rcases T.cov p hp with h' | h'
    · exact h'
    · rw [h] at h'; cases h'⟩
theorem Todo.len {left : Lit → Bool} {acc : List κ} (T : Todo lit L left acc) : acc.length ≤ L.length := by
  have := nodup_le T.nd T.sub
  simpa using this
end
section
variable {P : Program} {k : TypeId} {W W' : World} {b r n : Nat} {D : DataW Value} {left : Lit → Bool} {cnt : Nat}
theorem RangeIs.of_same (h : RangeIs P k W b r n D left cnt) (h1 : W'.heap[b]? = W.heap[b]?) (h2 : W'.heap[r]? = W.heap[r]?) : RangeIs P k W' b r n D left cnt := by
  obtain ⟨es, clock, since, seen, c0, e1, e2, e3, e4, e5, e6⟩ := h
  exact ⟨es, clock, since, seen, c0, by rw [h1]; exact e1, e2, e3, e4, by rw [h2]; exact e5, e6⟩
theorem RangeIs.not_cells (h : RangeIs P k W b r n D left cnt) : ∀ g cs t fr, W.heap[g]? = some (Obj.cells cs t fr) → g ≠ b ∧ g ≠ r := by
  obtain ⟨es, clock, since, seen, c0, e1, e2, e3, e4, e5, e6⟩ := h
  intro g cs t fr hg
  refine ⟨fun e => ?_, fun e => ?_⟩
  · subst e; rw [e1] at hg; cases hg
  · subst e; rw [e5] at hg; cases hg
theorem RangeIs.lt (h : RangeIs P k W b r n D left cnt) : b < W.heap.size ∧ r < W.heap.size := by
  obtain ⟨es, clock, since, seen, c0, e1, e2, e3, e4, e5, e6⟩ := h
  exact ⟨(Array.getElem?_eq_some_iff.1 e1).1, (Array.getElem?_eq_some_iff.1 e5).1⟩
theorem row_cells {B e s m : Nat} {v : Value} {xs : List Value} (h : W.ownsRow B e s v m xs) : ∀ g, v.ownBlock = some g → B ≤ g ∧ ∃ cs, W.heap[g]? = some (Obj.cells cs e (0, 0)) := by
  intro g hg
  rcases h.2 with ⟨rfl, _⟩ | ⟨g', cap, cur, rfl, hB, hc, _⟩
  · simp [Value.ownBlock] at hg
  · have : g' = g := by simpa [Value.ownBlock] using hg
    subst this
    exact ⟨hB, cur, hc⟩
/-- a row of its own turns: the range goes on -/
theorem RangeIs.row {B e s m : Nat} {v : Value} {xs : List Value} (h : RangeIs P k W b r n D left cnt) (ho : W.ownsRow B e s v m xs) (hg : W.grownBy W' v.ownBlock) : RangeIs P k W' b r n D left cnt := by
  refine h.kept hg (fun e => ?_) (fun e => ?_)
  · obtain ⟨_, cs, hc⟩ := row_cells ho _ e.symm
    exact (h.not_cells _ _ _ _ hc).1 rfl
  · obtain ⟨_, cs, hc⟩ := row_cells ho _ e.symm
    exact (h.not_cells _ _ _ _ hc).2 rfl
theorem RangeIs.below {C : Nat} (h : RangeIs P k W b r n D left cnt) (hb : Below C W W') (hC : W.heap.size ≤ C) : RangeIs P k W' b r n D left cnt :=
  h.of_same (hb.block _ (Nat.lt_of_lt_of_le h.lt.1 hC)) (hb.block _ (Nat.lt_of_lt_of_le h.lt.2 hC))
/-- the range goes on: a row of its own stays -/
theorem row_range {B e s m : Nat} {v : Value} {xs : List Value} (ho : W.ownsRow B e s v m xs) (h : RangeIs P k W b r n D left cnt) (hg : W.grownBy W' (some r)) : W'.ownsRow B e s v m xs :=
  rows_apart ho hg (fun g hg' e => by
    obtain rfl := Option.some.inj hg'
    obtain ⟨_, cs, hc⟩ := row_cells ho _ e
    exact (h.not_cells _ _ _ _ hc).2 rfl)
end
theorem VRead.eqNN {P : Program} {S : World → Prop} {t : TypeId} {x y : Operand} {K : Value → Prop} [i : TPtr P t] (hk : K (.bool true)) :
    VRead P S (do eqGuard .eql t x y (.pointer none) (.pointer none); binOp .eql t (.pointer none) (.pointer none)) K := by
  obtain ⟨e, he⟩ := i.u
  refine .ofW (fun W => ?_) hk
  rw [Sem.run_bind, show (eqGuard .eql t x y (.pointer none) (.pointer none)).run P W = .ok () W from rfl]
  have hp : P.underlying t = some (.pointer (P.pointee t)) := by rw [he]; unfold Program.pointee; rw [he]
  simp only [Result.andThen_ok]
  rw [run_eql_pointer_nil W t none hp]
  rfl
end Go.Proofs.YtajheglnhfjodaaDoor
