/- Texts joined: Tabs, Lies, Shelf, SessA, VD, SessB, SessC, SessD, VT, SessE, SessG, Stp, Rk, RtA, RuneL, RvA, RvB, ShelfU. No condition. -/
import Derived.Test.YtnjhdbgejhnpfaaDoorPks0
import Derived.Deep.OwnRows
import Derived.Laws.OwnMore
import Derived.Shelf.Sort.Plain
import Derived.Test.YtnjhdbgejhnpfaaDoorProg
import Derived.Laws.StructEq
import Derived.Lib.MapLaws
import Derived.Lib.ValidLaws
import Derived.Lib.RuneCount
import Derived.Ground.NamesProg
import Derived.Shelf.Utf8.RuneCount
import Derived.Shelf.Unicode.ValidAny
import Derived.Lib.LaidU8T
section
namespace Go.Proofs.YtnjhdbgejhnpfaaDoor
set_option linter.unusedVariables false

class TO (κ : Type) [LT κ] : Prop where
  irr : ∀ a : κ, ¬ a < a
  tr : ∀ a b c : κ, a < b → b < c → a < c
  tri : ∀ a b : κ, a < b ∨ a = b ∨ b < a
instance : TO Int := ⟨fun a => by omega, fun a b c => by omega, fun a b => by omega⟩
instance : TO (List UInt8) := ⟨fun a => List.lt_irrefl a, fun a b c h1 h2 => List.lt_trans h1 h2, fun a b => by
  rcases Decidable.em (a < b) with h | h
  · exact .inl h
  · rcases Decidable.em (b < a) with h' | h'
    · exact .inr (.inr h')
    · exact .inr (.inl (List.le_antisymm h' h))⟩
section
variable {κ α : Type} [LT κ] [DecidableLT κ] [DecidableEq κ] [TO κ]
def Rising (L : List (κ × α)) : Prop := (L.map (·.1)).Pairwise (· < ·)
omit [DecidableLT κ] [DecidableEq κ] in
theorem Rising.nd {L : List (κ × α)} (h : Rising L) : (L.map (·.1)).Nodup := h.imp (fun {a b} hab e => by subst e; exact TO.irr _ hab)
def tset : List (κ × α) → κ → α → List (κ × α)
  | [], i, x => [(i, x)]
  | (j, y) :: r, i, x => if i < j then (i, x) :: (j, y) :: r else if j = i then (i, x) :: r else (j, y) :: tset r i x
def tdel (L : List (κ × α)) (i : κ) : List (κ × α) := L.filter (fun p => decide (p.1 ≠ i))
omit [DecidableLT κ] [TO κ] [LT κ] in
theorem tdel_eq {A B : List (κ × α)} {i : κ} {y : α} (h : ((A ++ (i, y) :: B).map (·.1)).Nodup) : tdel (A ++ (i, y) :: B) i = A ++ B := by
  simp only [List.map_append, List.map_cons] at h
  rw [List.nodup_append] at h
  unfold tdel
  rw [List.filter_append, List.filter_cons]
  simp only [ne_eq, not_true_eq_false, decide_false, Bool.false_eq_true, ↓reduceIte]
  rw [List.filter_eq_self.2, List.filter_eq_self.2]
  · intro p hp; simp; intro e
    exact (List.nodup_cons.1 h.2.1).1 (by rw [← e]; exact List.mem_map_of_mem hp)
  · intro p hp; simp; intro e
    exact h.2.2 p.1 (List.mem_map_of_mem hp) i (List.mem_cons_self ..) e
omit [DecidableLT κ] [TO κ] [LT κ] in
theorem tdel_not {L : List (κ × α)} {i : κ} (h : i ∉ L.map (·.1)) : tdel L i = L := by
  unfold tdel
  rw [List.filter_eq_self.2]
  intro p hp; simp; intro e
  exact h (by rw [← e]; exact List.mem_map_of_mem hp)
theorem tset_old {i : κ} {x y : α} : ∀ {A B : List (κ × α)}, Rising (A ++ (i, y) :: B) → tset (A ++ (i, y) :: B) i x = A ++ (i, x) :: B
  | [], B, _ => by simp [tset, TO.irr]
  | (j, z) :: A, B, h => by
    have h' : j < i := by
      unfold Rising at h
      simp only [List.map_append, List.map_cons, List.cons_append] at h
      exact (List.pairwise_cons.1 h).1 i (by simp)
    have h1 : ¬ i < j := fun h1 => TO.irr _ (TO.tr _ _ _ h' h1)
    have h2 : j ≠ i := fun e => by subst e; exact TO.irr _ h'
    show tset ((j, z) :: (A ++ (i, y) :: B)) i x = _
    unfold tset
    rw [if_neg h1, if_neg h2, tset_old]
    · rfl
    · unfold Rising at *
      simp only [List.map_append, List.map_cons, List.cons_append] at h ⊢
      exact (List.pairwise_cons.1 h).2
omit [TO κ] in
theorem tset_new {i : κ} {x : α} : ∀ {L : List (κ × α)}, i ∉ L.map (·.1) → ∃ A B, L = A ++ B ∧ tset L i x = A ++ (i, x) :: B
  | [], _ => ⟨[], [], rfl, rfl⟩
  | (j, z) :: L, h => by
    simp only [List.map_cons, List.mem_cons, not_or] at h
    unfold tset
    by_cases h1 : i < j
    · rw [if_pos h1]; exact ⟨[], (j, z) :: L, rfl, rfl⟩
    · rw [if_neg h1, if_neg (fun e => h.1 e.symm)]
      obtain ⟨A, B, e1, e2⟩ := tset_new (x := x) h.2
      exact ⟨(j, z) :: A, B, by rw [e1]; rfl, by rw [e2]; rfl⟩
omit [TO κ] in
theorem tset_perm {i : κ} {x : α} {L : List (κ × α)} (h : i ∉ L.map (·.1)) : (L ++ [(i, x)]).Perm (tset L i x) := by
  obtain ⟨A, B, rfl, e⟩ := tset_new (x := x) h
  rw [e, List.append_assoc]
  exact List.Perm.append_left A List.perm_append_comm
omit [TO κ] in
theorem tset_keys {i a : κ} {x : α} : ∀ {L : List (κ × α)}, a ∈ (tset L i x).map (·.1) → a = i ∨ a ∈ L.map (·.1)
  | [], h => by simp [tset] at h; exact .inl h
  | (j, z) :: L, h => by
    unfold tset at h
    by_cases h1 : i < j
    · rw [if_pos h1] at h
      simp only [List.map_cons, List.mem_cons] at h ⊢
      exact h
    · rw [if_neg h1] at h
      by_cases h2 : j = i
      · rw [if_pos h2] at h
        simp only [List.map_cons, List.mem_cons] at h ⊢
        rcases h with h | h
        · exact .inl h
        · exact .inr (.inr h)
      · rw [if_neg h2] at h
        simp only [List.map_cons, List.mem_cons] at h ⊢
        rcases h with h | h
        · exact .inr (.inl h)
        · rcases tset_keys h with h | h
          · exact .inl h
          · exact .inr (.inr h)
theorem Rising.set {i : κ} {x : α} : ∀ {L : List (κ × α)}, Rising L → Rising (tset L i x)
  | [], _ => by simp [tset, Rising]
  | (j, z) :: L, h => by
    have h' : (∀ a ∈ L.map (·.1), j < a) ∧ Rising L := by
      unfold Rising at *
      simp only [List.map_cons] at h
      exact ⟨(List.pairwise_cons.1 h).1, (List.pairwise_cons.1 h).2⟩
    unfold tset
    by_cases h1 : i < j
    · rw [if_pos h1]
      unfold Rising at *
      simp only [List.map_cons] at h ⊢
      refine List.pairwise_cons.2 ⟨fun a ha => ?_, h⟩
      rcases List.mem_cons.1 ha with e | ha
      · rw [e]; exact h1
      · exact TO.tr _ _ _ h1 (h'.1 a ha)
    · rw [if_neg h1]
      by_cases h2 : j = i
      · rw [if_pos h2]
        subst h2
        unfold Rising at *
        simpa only [List.map_cons] using h
      · rw [if_neg h2]
        have ih := Rising.set (i := i) (x := x) h'.2
        unfold Rising at ih ⊢
        simp only [List.map_cons]
        refine List.pairwise_cons.2 ⟨fun a ha => ?_, ih⟩
        rcases tset_keys ha with e | ha
        · rw [e]
          rcases TO.tri i j with c | c | c
          · exact absurd c h1
          · exact absurd c.symm h2
          · exact c
        · exact h'.1 a ha
omit [DecidableLT κ] [TO κ] in
theorem Rising.del {i : κ} {L : List (κ × α)} (h : Rising L) : Rising (tdel L i) := by
  unfold Rising tdel at *
  exact h.sublist (List.filter_sublist.map _)
omit [TO κ] in
theorem tfind_tset {i j : κ} {x : α} : ∀ {L : List (κ × α)}, Rising L → tfind (tset L i x) j = if j = i then some x else tfind L j
  | [], _ => by
    unfold tset tfind tfind
    by_cases e : i = j
    · rw [if_pos e, if_pos e.symm]
    · rw [if_neg e, if_neg (fun e' => e e'.symm)]
  | (k, z) :: L, h => by
    have h' : (∀ a ∈ L.map (·.1), k < a) ∧ Rising L := by
      unfold Rising at *
      simp only [List.map_cons] at h
      exact ⟨(List.pairwise_cons.1 h).1, (List.pairwise_cons.1 h).2⟩
    unfold tset
    by_cases h1 : i < k
    · rw [if_pos h1]
      conv => lhs; unfold tfind
      by_cases e : i = j
      · rw [if_pos e, if_pos e.symm]
      · rw [if_neg e, if_neg (fun e' => e e'.symm)]
    · rw [if_neg h1]
      by_cases h2 : k = i
      · rw [if_pos h2]
        subst h2
        conv => lhs; unfold tfind
        by_cases e : k = j
        · rw [if_pos e, if_pos e.symm]
        · rw [if_neg e, if_neg (fun e' => e e'.symm)]
          conv => rhs; unfold tfind
          rw [if_neg e]
      · rw [if_neg h2]
        conv => lhs; unfold tfind
        by_cases e : k = j
        · rw [if_pos e, if_neg (fun e' => h2 (e.trans e'))]
          conv => rhs; unfold tfind
          rw [if_pos e]
        · rw [if_neg e, tfind_tset h'.2]
          conv => rhs; unfold tfind
          rw [if_neg e]
omit [DecidableLT κ] [DecidableEq κ] in
/-- two rising lists of the same members are one -/
theorem rising_one : ∀ {l m : List κ}, l.Pairwise (· < ·) → m.Pairwise (· < ·) → (∀ x, x ∈ l ↔ x ∈ m) → l = m
  | [], [], _, _, _ => rfl
  | [], y :: m, _, _, h => by have := (h y).2 (List.mem_cons_self ..); cases this
  | x :: l, [], _, _, h => by have := (h x).1 (List.mem_cons_self ..); cases this
  | x :: l, y :: m, h1, h2, h => by
    obtain ⟨a1, a2⟩ := List.pairwise_cons.1 h1
    obtain ⟨b1, b2⟩ := List.pairwise_cons.1 h2
    have e : x = y := by
      rcases List.mem_cons.1 ((h x).1 (List.mem_cons_self ..)) with e | c1
      · exact e
      · rcases List.mem_cons.1 ((h y).2 (List.mem_cons_self ..)) with e | c2
        · exact e.symm
        · exact absurd (TO.tr _ _ _ (b1 x c1) (a1 y c2)) (TO.irr _)
    subst e
    rw [rising_one a2 b2 (fun z => by
      constructor
      · intro hz
        rcases List.mem_cons.1 ((h z).1 (List.mem_cons_of_mem _ hz)) with e | c
        · rw [e] at hz; exact absurd (a1 x hz) (TO.irr _)
        · exact c
      · intro hz
        rcases List.mem_cons.1 ((h z).2 (List.mem_cons_of_mem _ hz)) with e | c
        · rw [e] at hz; exact absurd (b1 x hz) (TO.irr _)
        · exact c)]
end
theorem sorted_keysI {α : Type} {L : List (Int × α)} (hR : Rising L) {acc : List Int} (hn : acc.Nodup) (h : ∀ a, a ∈ acc ↔ a ∈ L.map (·.1)) : (acc.mergeSort fun x y => decide (x ≤ y)) = L.map (·.1) :=
  rising_one (sorted_ints hn) hR (fun x => by rw [(List.mergeSort_perm acc _).mem_iff]; exact h x)
/-! ### tables whose values are mapped -/
section
variable {κ α β : Type}
end
section
variable {κ α : Type} [LT κ] [DecidableLT κ] [DecidableEq κ] [TO κ]
theorem tset_perm2 {L : List (κ × α)} (h : Rising L) (i : κ) (x : α) : (tset L i x).Perm ((i, x) :: tdel L i) := by
  cases hf : tfind L i with
  | none =>
    rw [tdel_not (tfind_none hf)]
    exact (tset_perm (tfind_none hf)).symm.trans (List.perm_append_comm (l₁ := L) (l₂ := [(i, x)]))
  | some y =>
    obtain ⟨A, B, rfl⟩ := tfind_some hf
    rw [tset_old h, tdel_eq h.nd]
    exact List.perm_middle
theorem mem_tset {L : List (κ × α)} (h : Rising L) {i : κ} {x : α} {p : κ × α} (hp : p ∈ tset L i x) : p = (i, x) ∨ p ∈ tdel L i := by
  simpa using (tset_perm2 h i x).mem_iff.1 hp
omit [DecidableLT κ] [TO κ] [LT κ] in
theorem mem_tdel {L : List (κ × α)} {i : κ} {p : κ × α} (hp : p ∈ tdel L i) : p ∈ L ∧ p.1 ≠ i := by
  unfold tdel at hp
  have := List.mem_filter.1 hp
  exact ⟨this.1, by simpa using this.2⟩
omit [DecidableLT κ] [TO κ] [LT κ] in
theorem tdel_le {L : List (κ × α)} (i : κ) : (tdel L i).length ≤ L.length := List.length_filter_le _ _
theorem tset_length {L : List (κ × α)} (h : Rising L) (i : κ) (x : α) : (tset L i x).length = (tdel L i).length + 1 := by
  have := (tset_perm2 h i x).length_eq
  simpa using this
omit [DecidableLT κ] in
theorem tdel_length {L : List (κ × α)} (h : Rising L) {i : κ} {x : α} (hf : tfind L i = some x) : L.length = (tdel L i).length + 1 := by
  obtain ⟨A, B, rfl⟩ := tfind_some hf
  rw [tdel_eq h.nd]
  simp; omega
end
end Go.Proofs.YtnjhdbgejhnpfaaDoor
end

section
set_option maxRecDepth 10000
namespace Go.Proofs.YtnjhdbgejhnpfaaDoor
set_option linter.unusedVariables false
open Go.RowKit

/-! ### footprints: blocks that may be something's own -/
abbrev Foot := Nat → Prop
/-- what is made from now on lies in the footprint -/
def Up (U : Foot) (W : World) : Prop := ∀ j, W.heap.size ≤ j → U j
/-- outside the footprint the world stays -/
structure Out (U : Foot) (W W' : World) : Prop where
  os : W'.os = W.os
  tape : W'.tape = W.tape
  output : W'.output = W.output
  size : W.heap.size ≤ W'.heap.size
  block : ∀ j, j < W.heap.size → ¬ U j → W'.heap[j]? = W.heap[j]?
section
variable {U V : Foot} {W W' W'' : World}
theorem Up.grow (h : Up U W) (hs : W.heap.size ≤ W'.heap.size) : Up U W' := fun j hj => h j (Nat.le_trans hs hj)
theorem Up.from {B : Nat} (h : B ≤ W.heap.size) : Up (fun j => B ≤ j) W := fun j hj => Nat.le_trans h hj
theorem Out.refl (U : Foot) (W : World) : Out U W W := ⟨rfl, rfl, rfl, Nat.le_refl _, fun _ _ _ => rfl⟩
theorem Out.trans (h : Out U W W') (k : Out U W' W'') : Out U W W'' :=
  ⟨k.os.trans h.os, k.tape.trans h.tape, k.output.trans h.output, Nat.le_trans h.size k.size, fun j hj hu => (k.block j (Nat.lt_of_lt_of_le hj h.size) hu).trans (h.block j hj hu)⟩
theorem Out.mono (h : Out U W W') (hV : ∀ j, U j → V j) : Out V W W' := ⟨h.os, h.tape, h.output, h.size, fun j hj hu => h.block j hj (fun e => hu (hV j e))⟩
theorem Out.of_below {B : Nat} (h : Below B W W') (hB : ∀ j, B ≤ j → j < W.heap.size → U j) : Out U W W' :=
  ⟨h.os, h.tape, h.output, h.size, fun j hj hu => h.block j (Nat.lt_of_not_le fun e => hu (hB j e hj))⟩
theorem Out.new (h : Below W.heap.size W W') : Out U W W' := .of_below h (fun j h1 h2 => absurd h1 (Nat.not_le_of_lt h2))
theorem Out.grown {g : Nat} (h : W.grownBy W' (some g)) (hg : U g) : Out U W W' := ⟨h.os, h.tape, h.output, h.size, fun j hj hu => h.block j hj (fun e => hu (by injection e with e; subst e; exact hg))⟩
theorem Out.row {row : Option Nat} (h : W.grownBy W' row) (hg : ∀ g, row = some g → U g) : Out U W W' := ⟨h.os, h.tape, h.output, h.size, fun j hj hu => h.block j hj (fun e => hu (hg j e.symm))⟩
theorem Out.below {B : Nat} (h : Out U W W') (hB : ∀ j, U j → B ≤ j) (hs : B ≤ W.heap.size) : Below B W W' :=
  ⟨h.os, h.tape, h.output, h.size, fun j hj => h.block j (Nat.lt_of_lt_of_le hj hs) (fun e => absurd (hB j e) (Nat.not_le_of_lt hj))⟩
theorem Out.from {B : Nat} (h : Out (fun j => B ≤ j) W W') (hs : B ≤ W.heap.size) : Below B W W' := h.below (fun _ e => e) hs
end
/-- bytes in a block of bytes -/
def Lies (W : World) (U : Foot) (A : Option Addr) (m : Nat) (l : List UInt8) : Prop := Reads W W.heap.size 1 A m (bv l) ∧ (0 < m → ∃ ad cs fr, A = some ad ∧ U ad.block ∧ W.heap[ad.block]? = some (Obj.cells cs 5 fr))
theorem Lies.len {W : World} {U : Foot} {m : Nat} {A : Option Addr} {l : List UInt8} (h : Lies W U A m l) : l.length = m := by have := h.1.1; rw [bv_length] at this; omega
theorem Lies.nil (W : World) (U : Foot) (A : Option Addr) : Lies W U A 0 [] := ⟨by simpa [bv] using (Reads.none_ (w := W) (B := W.heap.size) (size := 1) (A := A)), fun h0 => absurd h0 (Nat.lt_irrefl 0)⟩
/-- .. stays where the footprint stays -/
theorem Lies.stay {W W' : World} {U : Foot} {m : Nat} {A : Option Addr} {l : List UInt8} (h : Lies W U A m l) (hs : W.heap.size ≤ W'.heap.size) (hk : ∀ j, j < W.heap.size → U j → W'.heap[j]? = W.heap[j]?) : Lies W' U A m l := by
  refine ⟨⟨h.1.1, fun hm => ?_⟩, fun hm => ?_⟩
  · obtain ⟨ad, cs, fr, rfl, h1, h2⟩ := h.2 hm
    obtain ⟨ad', e, h3, h4⟩ := h.1.2 hm
    obtain rfl := Option.some.inj e
    refine ⟨_, rfl, Nat.lt_of_lt_of_le h3 hs, fun j u hu => ?_⟩
    rw [← h4 j u hu]
    exact World.cell?_of_block (by rw [add_block]; exact hk _ h3 h1)
  · obtain ⟨ad, cs, fr, e, h1, h2⟩ := h.2 hm
    exact ⟨ad, cs, fr, e, h1, by rw [hk _ (Array.getElem?_eq_some_iff.1 h2).1 h1]; exact h2⟩
theorem Lies.below {W W' : World} {U : Foot} {C m : Nat} {A : Option Addr} {l : List UInt8} (h : Lies W U A m l) (hb : Below C W W') (hC : W.heap.size ≤ C) : Lies W' U A m l :=
  h.stay hb.size (fun j hj _ => hb.block j (Nat.lt_of_lt_of_le hj hC))
theorem Lies.more {W : World} {U V : Foot} {m : Nat} {A : Option Addr} {l : List UInt8} (h : Lies W U A m l) (hV : ∀ j, j < W.heap.size → U j → V j) : Lies W V A m l :=
  ⟨h.1, fun hm => by obtain ⟨ad, cs, fr, e, h1, h2⟩ := h.2 hm; exact ⟨ad, cs, fr, e, hV _ (Array.getElem?_eq_some_iff.1 h2).1 h1, h2⟩⟩
theorem Lies.of_own {W : World} {U : Foot} {B m c : Nat} {A : Option Addr} {l : List UInt8} (h : Own W B (.slice A m c) m l) (hU : ∀ j, B ≤ j → U j) : Lies W U A m l := by
  refine ⟨h.reads, fun hm => ?_⟩
  rcases h.2 with ⟨_, h0⟩ | ⟨g, cap, cur, e, hg, hh, _⟩
  · omega
  · injection e with e1 e2 e3
    exact ⟨_, _, _, e1, hU _ hg, hh⟩
theorem Lies.take {W : World} {U : Foot} {m k : Nat} {A : Option Addr} {l : List UInt8} (h : Lies W U A m l) (hk : k ≤ m) : Lies W U A k (l.take k) :=
  ⟨h.1.take hk, fun h0 => h.2 (by omega)⟩
/-- .. untouched by what touches no block of bytes -/
theorem Lies.apart {W W' : World} {U : Foot} {m : Nat} {A : Option Addr} {l : List UInt8} {row : Option Nat} (h : Lies W U A m l) (hg : W.grownBy W' row) (hne : ∀ k, row = some k → ∀ cs fr, W.heap[k]? ≠ some (Obj.cells cs 5 fr)) : Lies W' U A m l := by
  have key : ∀ ad cs fr, W.heap[ad]? = some (Obj.cells cs 5 fr) → W'.heap[ad]? = W.heap[ad]? := fun ad cs fr h2 =>
    hg.block ad (Array.getElem?_eq_some_iff.1 h2).1 (fun e => hne ad e.symm cs fr h2)
  refine ⟨⟨h.1.1, fun hm => ?_⟩, fun hm => ?_⟩
  · obtain ⟨ad, cs, fr, rfl, h1, h2⟩ := h.2 hm
    obtain ⟨ad', e, h3, h4⟩ := h.1.2 hm
    obtain rfl := Option.some.inj e
    refine ⟨_, rfl, Nat.lt_of_lt_of_le h3 hg.size, fun j u hu => ?_⟩
    rw [← h4 j u hu]
    exact World.cell?_of_block (by rw [add_block]; exact key _ cs fr h2)
  · obtain ⟨ad, cs, fr, e, h1, h2⟩ := h.2 hm
    exact ⟨ad, cs, fr, e, h1, by rw [key _ cs fr h2]; exact h2⟩
theorem Lies.row {W W' : World} {U : Foot} {B' m e size n : Nat} {A : Option Addr} {l : List UInt8} {v : Value} {xs : List Value} (h : Lies W U A m l) (hr : W.ownsRow B' e size v n xs) (hg : W.grownBy W' v.ownBlock) (hne : 5 ≠ e) : Lies W' U A m l := by
  refine h.apart hg (fun k hk cs fr hc => ?_)
  rcases hr.2 with ⟨rfl, _⟩ | ⟨g', cap, cur, rfl, _, hh, _⟩
  · simp [Value.ownBlock] at hk
  · have : g' = k := by simpa [Value.ownBlock] using hk
    subst this
    rw [hc] at hh
    injection hh with hh
    injection hh with _ h2 _
    exact hne h2
theorem Lies.blk {W W' : World} {U : Foot} {m g T : Nat} {A : Option Addr} {l : List UInt8} {cs : Array Value} (h : Lies W U A m l) (hb : Blk W g T cs) (hg : W.grownBy W' (some g)) (hne : 5 ≠ T) : Lies W' U A m l := by
  refine h.apart hg (fun k hk cs' fr hc => ?_)
  obtain rfl := Option.some.inj hk
  unfold Blk at hb
  rw [hc] at hb
  injection hb with hb
  injection hb with _ h2 _
  exact hne h2

/-- bytes to be read, off the footprint or in a block of bytes -/
def Src (W : World) (U : Foot) (A : Option Addr) (n : Nat) (l : List UInt8) : Prop := Reads W W.heap.size 1 A n (bv l) ∧ (0 < n → ∃ ad, A = some ad ∧ (¬ U ad.block ∨ ∃ cs fr, W.heap[ad.block]? = some (Obj.cells cs 5 fr)))
theorem Src.of_lies {W : World} {U V : Foot} {A : Option Addr} {n : Nat} {l : List UInt8} (h : Lies W V A n l) : Src W U A n l :=
  ⟨h.1, fun h0 => by obtain ⟨ad, cs, fr, e, _, h2⟩ := h.2 h0; exact ⟨ad, e, .inr ⟨cs, fr, h2⟩⟩⟩
theorem Src.of_own {W : World} {U : Foot} {B n c : Nat} {A : Option Addr} {l : List UInt8} (h : Own W B (.slice A n c) n l) : Src W U A n l := .of_lies (Lies.of_own (U := fun _ => True) h (fun _ _ => trivial))
theorem Src.len {W : World} {U : Foot} {A : Option Addr} {n : Nat} {l : List UInt8} (h : Src W U A n l) : l.length = n := by have := h.1.1; rw [bv_length] at this; omega
theorem Src.blk {W W' : World} {U : Foot} {A : Option Addr} {n d T : Nat} {l : List UInt8} {cs : Array Value} (h : Src W U A n l) (hb : Blk W d T cs) (hd : U d) (hg : W.grownBy W' (some d)) (hne : 5 ≠ T) : Src W' U A n l := by
  have key : ∀ ad, (¬ U ad ∨ ∃ cs fr, W.heap[ad]? = some (Obj.cells cs 5 fr)) → ad ≠ d := by
    rintro ad (h1 | ⟨cs', fr, h1⟩) rfl
    · exact h1 hd
    · unfold Blk at hb
      rw [h1] at hb
      injection hb with hb
      injection hb with _ h2 _
      exact hne h2
  refine ⟨⟨h.1.1, fun hm => ?_⟩, fun hm => ?_⟩
  · obtain ⟨ad, rfl, h1⟩ := h.2 hm
    obtain ⟨ad', e, h3, h4⟩ := h.1.2 hm
    obtain rfl := Option.some.inj e
    refine ⟨_, rfl, Nat.lt_of_lt_of_le h3 hg.size, fun j u hu => ?_⟩
    rw [← h4 j u hu]
    exact World.cell?_of_block (by rw [add_block]; exact hg.block _ h3 (fun e => key _ h1 (Option.some.inj e)))
  · obtain ⟨ad, e, h1⟩ := h.2 hm
    obtain ⟨ad', e', h3, _⟩ := h.1.2 hm
    rw [e] at e'
    obtain rfl := Option.some.inj e'
    refine ⟨ad, e, h1.imp (fun h => h) (fun ⟨cs, fr, h2⟩ => ⟨cs, fr, ?_⟩)⟩
    rw [hg.block _ h3 (fun e => key _ h1 (Option.some.inj e))]; exact h2

/-- a row that is written out -/
theorem VSem.buildR {P : Program} {w : World} {t e n : Nat} {ps : List (Nat × Value)} {K : Value → World → Prop} [i : TSlice P t e 1] [c : TCell P e] (hp : ps.map (·.1) = List.range' 0 ps.length) (hn : ps.length = n) (h1 : ∀ v ∈ ps.map (·.2), v.oneCell' = true) (hb : n ≤ 16777216)
    (h : ∀ w', w'.ownsRow w.heap.size e 1 (.slice (some ⟨w.heap.size, 0, none⟩) n n) n (ps.map (·.2)) → Below w.heap.size w w' → w'.heap.size = w.heap.size + 1 → K (.slice (some ⟨w.heap.size, 0, none⟩) n n) w') : VSem P (Instr.buildSlice t n ps.toArray) w K := by
  refine VSem.buildS (P := P) (t := t) (e := e) (n := n) (ps := ps) hp hn h1 hb ?_
  have hnew := Blk.new w e (ps.map (·.2)).toArray
  refine h _ ⟨by simp [hn], .inr ⟨_, n, _, rfl, Nat.le_refl _, hnew, Nat.le_refl _, by simp only [maxLen]; omega, by simp [hn], ?_⟩⟩ ((Below.refl w.heap.size w).alloc (Nat.le_refl _) _) (by simp)
  rw [List.take_of_length_le (by simp [hn])]
end Go.Proofs.YtnjhdbgejhnpfaaDoor
end

section
namespace Go.Proofs.YtnjhdbgejhnpfaaDoor
open Go.Shelf
def Tryd.lays189_ren : Go.Shelf.Ren := ⟨fun | 125 => 49 | 128 => 67 | 129 => 68 | 189 => 30 | 215 => 77 | 216 => 64 | 257 => 48 | 294 => 58 | 295 => 59 | 296 => 60 | 297 => 61 | 298 => 62 | 299 => 63 | 300 => 65 | 301 => 66 | 328 => 72 | 329 => 73 | 330 => 74 | 331 => 75 | 332 => 76 | 343 => 81 | n => n, fun | 0 => 0 | 3 => 3 | 4 => 4 | 5 => 5 | 9 => 9 | 28 => 49 | 46 => 84 | 51 => 99 | 53 => 86 | 131 => 45 | 182 => 92 | 183 => 93 | 218 => 103 | 222 => 107 | 228 => 114 | 229 => 115 | n => n, fun n => n⟩
theorem Tryd.lays189 : Go.Proofs.Lays.n189 Tryd.prog Tryd.lays189_ren := {
  mixed := by kernel_rfl
  f125 := Tryd.func49.trans (congrArg some (by kernel_rfl))
  f128 := Tryd.func67.trans (congrArg some (by kernel_rfl))
  f129 := Tryd.func68.trans (congrArg some (by kernel_rfl))
  f189 := Tryd.func30.trans (congrArg some (by kernel_rfl))
  f215 := Tryd.func77.trans (congrArg some (by kernel_rfl))
  f216 := Tryd.func64.trans (congrArg some (by kernel_rfl))
  f257 := Tryd.func48.trans (congrArg some (by kernel_rfl))
  f294 := Tryd.func58.trans (congrArg some (by kernel_rfl))
  f295 := Tryd.func59.trans (congrArg some (by kernel_rfl))
  f296 := Tryd.func60.trans (congrArg some (by kernel_rfl))
  f297 := Tryd.func61.trans (congrArg some (by kernel_rfl))
  f298 := Tryd.func62.trans (congrArg some (by kernel_rfl))
  f299 := Tryd.func63.trans (congrArg some (by kernel_rfl))
  f300 := Tryd.func65.trans (congrArg some (by kernel_rfl))
  f301 := Tryd.func66.trans (congrArg some (by kernel_rfl))
  f328 := Tryd.func72.trans (congrArg some (by kernel_rfl))
  f329 := Tryd.func73.trans (congrArg some (by kernel_rfl))
  f330 := Tryd.func74.trans (congrArg some (by kernel_rfl))
  f331 := Tryd.func75.trans (congrArg some (by kernel_rfl))
  f332 := Tryd.func76.trans (congrArg some (by kernel_rfl))
  f343 := Tryd.func81.trans (congrArg some (by kernel_rfl))
  t0 := Tryd.underlying0
  a0 := Tryd.isAgg0
  z0 := Tryd.sizeOf0
  v0 := Tryd.zeroValue0
  t3 := Tryd.underlying3
  a3 := Tryd.isAgg3
  z3 := Tryd.sizeOf3
  v3 := Tryd.zeroValue3
  t4 := Tryd.underlying4
  a4 := Tryd.isAgg4
  z4 := Tryd.sizeOf4
  v4 := Tryd.zeroValue4
  t5 := Tryd.underlying5
  a5 := Tryd.isAgg5
  z5 := Tryd.sizeOf5
  v5 := Tryd.zeroValue5
  t9 := Tryd.underlying9
  a9 := Tryd.isAgg9
  z9 := Tryd.sizeOf9
  v9 := Tryd.zeroValue9
  t28 := Tryd.underlying49
  a28 := Tryd.isAgg49
  z28 := Tryd.sizeOf49
  v28 := Tryd.zeroValue49
  t46 := Tryd.underlying84
  a46 := Tryd.isAgg84
  z46 := Tryd.sizeOf84
  v46 := Tryd.zeroValue84
  t51 := Tryd.underlying99
  a51 := Tryd.isAgg99
  z51 := Tryd.sizeOf99
  v51 := Tryd.zeroValue99
  t53 := Tryd.underlying86
  a53 := Tryd.isAgg86
  z53 := Tryd.sizeOf86
  v53 := Tryd.zeroValue86
  t131 := Tryd.underlying45
  a131 := Tryd.isAgg45
  z131 := Tryd.sizeOf45
  v131 := Tryd.zeroValue45
  t182 := Tryd.underlying92
  a182 := Tryd.isAgg92
  z182 := Tryd.sizeOf92
  v182 := Tryd.zeroValue92
  t183 := Tryd.underlying93
  a183 := Tryd.isAgg93
  z183 := Tryd.sizeOf93
  v183 := Tryd.zeroValue93
  t218 := Tryd.underlying103
  a218 := Tryd.isAgg103
  z218 := Tryd.sizeOf103
  v218 := Tryd.zeroValue103
  t222 := Tryd.underlying107
  a222 := Tryd.isAgg107
  z222 := Tryd.sizeOf107
  v222 := Tryd.zeroValue107
  t228 := Tryd.underlying114
  a228 := Tryd.isAgg114
  z228 := Tryd.sizeOf114
  v228 := Tryd.zeroValue114
  t229 := Tryd.underlying115
  a229 := Tryd.isAgg115
  z229 := Tryd.sizeOf115
  v229 := Tryd.zeroValue115 }
end Go.Proofs.YtnjhdbgejhnpfaaDoor
end

section
set_option maxRecDepth 10000
namespace Go.Proofs.YtnjhdbgejhnpfaaDoor
set_option linter.unusedVariables false
open Go.RowKit
open Go.Maps (Keyed)
open Go.ChangeMaps Go.WideElems

structure Rp where
  err : Int
  n : Int
  kind : Int
  vn : Int
  s : List UInt8
structure Se where
  used : Int
  seq : Int
  rp : Rp
def Rp.zero : Rp := ⟨0, 0, 0, 0, []⟩
abbrev STb := List (Int × Se)
structure SS where
  most : Int
  t : STb
def rpC (r : Rp) : Array Value := #[.int .i64 r.err, .int .i64 r.n, .int .i64 r.kind, .int .i64 r.vn, .string (txt r.s)]
def seC (x : Se) : Array Value := #[.int .i64 x.used, .int .i64 x.seq, .int .i64 x.rp.err, .int .i64 x.rp.n, .int .i64 x.rp.kind, .int .i64 x.rp.vn, .string (txt x.rp.s)]
def seV (x : Se) : Value := .agg (seC x)
def ikey (i : Int) : Value := .int .i64 i
def ilit (i : Int) : Lit := .int .i64 i
theorem ilit_inj (a b : Int) (h : ilit a = ilit b) : a = b := by unfold ilit at h; injection h
theorem i_keyed : Keyed Tryd.prog 3 := Maps.int_keyed Tryd.underlying3
theorem i_key {i : Int} (h : -9223372036854775808 ≤ i ∧ i ≤ 9223372036854775807) : keyOf Tryd.prog 3 (ikey i) = some (ilit i) :=
  Maps.keyOf_int_mk Tryd.underlying3 (by unfold Lit.wf; simp; exact ⟨h.1, h.2⟩)
structure SWf (S : SS) : Prop where
  most : 1 ≤ S.most ∧ S.most ≤ 64
  few : (S.t.length : Int) ≤ S.most
  ids : ∀ p ∈ S.t, 1 ≤ p.1 ∧ p.1 ≤ 1099511627776
  ris : Rising S.t
structure TabAt (W : World) (U : Foot) (d m c : Nat) (S : SS) : Prop where
  hd : U d
  hm : U m
  blk : Blk W d 44 #[.int .i64 S.most, .map (some m)]
  map : ∃ n D, n ≤ c ∧ MapIs Tryd.prog 3 W m n D ∧ Rel Tryd.prog 3 ikey ilit seV D S.t
def Tbl (W : World) (U : Foot) (d c : Nat) (S : SS) : Prop := SWf S ∧ ∃ m, TabAt W U d m c S
section
variable {W W' : World} {U V : Foot} {d m c : Nat} {S : SS}
theorem TabAt.stay (h : TabAt W U d m c S) (hk : ∀ j, j < W.heap.size → U j → W'.heap[j]? = W.heap[j]?) : TabAt W' U d m c S := by
  refine ⟨h.hd, h.hm, (hk d h.blk.lt h.hd).trans h.blk, ?_⟩
  obtain ⟨n, D, h1, h2, h3⟩ := h.map
  have hl := h2.lt
  obtain ⟨es, clock, h4, h5⟩ := h2
  exact ⟨n, D, h1, ⟨es, clock, by rw [hk m hl h.hm]; exact h4, h5⟩, h3⟩
theorem TabAt.more (h : TabAt W U d m c S) (hV : ∀ j, j < W.heap.size → U j → V j) : TabAt W V d m c S := by
  obtain ⟨n, D, h1, h2, h3⟩ := h.map
  exact ⟨hV d h.blk.lt h.hd, hV m h2.lt h.hm, h.blk, n, D, h1, h2, h3⟩
theorem Tbl.stay (h : Tbl W U d c S) (hk : ∀ j, j < W.heap.size → U j → W'.heap[j]? = W.heap[j]?) : Tbl W' U d c S := by
  obtain ⟨h0, m, h1⟩ := h; exact ⟨h0, m, h1.stay hk⟩
theorem Tbl.more (h : Tbl W U d c S) (hV : ∀ j, j < W.heap.size → U j → V j) : Tbl W V d c S := by
  obtain ⟨h0, m, h1⟩ := h; exact ⟨h0, m, h1.more hV⟩
theorem Tbl.below {C : Nat} (h : Tbl W U d c S) (hb : Below C W W') (hC : W.heap.size ≤ C) : Tbl W' U d c S :=
  h.stay (fun j hj _ => hb.block j (Nat.lt_of_lt_of_le hj hC))
theorem Tbl.wf (h : Tbl W U d c S) : SWf S := h.1
theorem Tbl.grow {c' : Nat} (h : Tbl W U d c S) (hc : c ≤ c') : Tbl W U d c' S := by
  obtain ⟨h0, m, h1, h2, h3, n, D, h4, h5⟩ := h
  exact ⟨h0, m, h1, h2, h3, n, D, Nat.le_trans h4 hc, h5⟩
theorem map_not_blk {P : Program} {k : TypeId} {n g T : Nat} {D : DataW Value} {cs : Array Value} (h : MapIs P k W m n D) (hb : Blk W g T cs) : m ≠ g := by
  obtain ⟨es, clock, h2, _⟩ := h
  intro e; subst e
  unfold Blk at hb
  rw [h2] at hb
  cases hb
end
def SS.new (most : Int) : SS := ⟨max 1 (min most 64), []⟩
theorem SWf.new (most : Int) : SWf (SS.new most) := ⟨by simp only [SS.new]; omega, by simp only [SS.new, List.length_nil]; omega, by simp [SS.new], by simp [SS.new, Rising]⟩
theorem sNew_any (W : World) (most : Int) :
    Calls Tryd.prog 4 #[.int .i64 most] W fun e W' => ∃ d, e = .returned (.pointer (some ⟨d, 0, none⟩)) ∧ Tbl W' (fun j => W.heap.size ≤ j) d 0 (SS.new most) ∧ Below W.heap.size W W' := by
  refine calls_vc Tryd.func4 rfl (by kernel_rfl) ?_
  ((conv => whnf); (repeat ((first | (refine VL.cons ?_) | (refine VL.nil ?_) | (refine VC.seqS rfl ?_) | (refine VC.region ?_)); (conv => whnf))))
  ((repeat ((fail); (conv => whnf))))
  refine VRead.minZ (z := min most 64) (by split <;> omega) ?_
  ((conv => whnf); (repeat ((first | (refine VL.cons ?_)); (conv => whnf))))
  refine VRead.maxZ (z := max 1 (min most 64)) (by split <;> omega) ?_
  ((conv => whnf); (repeat ((first | (refine VL.cons ?_)); (conv => whnf))))
  ((repeat ((fail); (conv => whnf))))
  refine VSem.makeMap (k := 3) ?_
  intro W1 hM1 hB1 hz1
  ((conv => whnf); (repeat ((first | (refine VL.cons ?_)); (conv => whnf))))
  refine VRead.ofW (v := .agg #[.int .i64 (max 1 (min most 64)), .map (some W.heap.size)]) (fun _ => by kernel_rfl) ?_
  ((conv => whnf); (repeat ((first | (refine VL.cons ?_)); (conv => whnf))))
  refine VSem.boxB ?_
  intro W2 g hb2 hg2 hl2 hB2
  have hB02 := hB1.trans (hB2.mono hB1.size)
  ((conv => whnf); (repeat ((first | (refine VL.cons ?_) | (refine VL.nil ?_) | (refine VC.ret ?_)); (conv => whnf))))
  ((repeat ((fail); (conv => whnf))))
  exact ⟨g, rfl, ⟨SWf.new most, W.heap.size, ⟨by omega, Nat.le_refl _, hb2, 0, _, Nat.le_refl _, hM1.below hB2 (by omega), Rel.empty⟩⟩, hB02⟩
theorem int_info : (Tryd.prog.info? 3).map (fun i => (i.zero, i.size, i.bytes)) = some (some (.int .i64 0), 1, 8) := by kernel_rfl
theorem ikey_of {D : DataW Value} {L : STb} {key : Value} {kl : Lit} (R : Rel Tryd.prog 3 ikey ilit seV D L) (hk : keyOf Tryd.prog 3 key = some kl) (hh : Maps.has D kl = true) :
    ∃ p ∈ L, kl = ilit p.1 ∧ key = ikey p.1 := by
  obtain ⟨p, hp, rfl⟩ := R.src kl hh
  exact ⟨p, hp, rfl, i_keyed.inj hk (R.key p hp)⟩
set_option maxHeartbeats 1000000 in
theorem sIDs_any (W : World) (U : Foot) (d c : Nat) (S : SS) (h : Tbl W U d c S) :
    Calls Tryd.prog 12 #[.pointer (some ⟨d, 0, none⟩)] W fun e W' => ∃ A k, e = .returned (.slice A S.t.length k) ∧ W'.ownsRow W.heap.size 3 1 (.slice A S.t.length k) S.t.length (iv .i64 (S.t.map (·.1))) ∧ Below W.heap.size W W' := by
  obtain ⟨hwf, m, h⟩ := h
  have hfew := hwf.few
  have hmost := hwf.most
  have hb := h.blk
  obtain ⟨nD, D, h1, h2, R⟩ := h.map
  refine calls_vc Tryd.func12 rfl (by kernel_rfl) ?_
  ((conv => whnf); (repeat ((first | (refine VL.cons ?_) | (refine VL.nil ?_) | (refine VC.seqS rfl ?_) | (refine VC.region ?_)); (conv => whnf))))
  (repeat (first | ((first | (refine VL.cons ?_) | (refine VC.seqS rfl ?_) | (refine VC.region ?_) | (refine VRead.fld ?_) | (refine VC.seq ?_)); (conv => whnf)) | (refine VRead.loadB hb rfl rfl ?_; (conv => whnf))))
  refine VSem.rangeM h2 i_keyed ?_
  intro W1 hR1 hg1 hz1
  have hB1 : Below W.heap.size W W1 := (Below.refl _ _).grown hg1 (Nat.le_refl _) (by intro k hk; cases hk)
  ((conv => whnf); (repeat ((first | (refine VL.nil ?_) | (refine VC.block ?_)); (conv => whnf))))
  ((repeat ((fail); (conv => whnf))))
  refine VC.loop [3] [(3, 4), (10, 17)] (fun q vs w => ∃ acc left A k, vs = [.slice A acc.length k] ∧ RangeIs Tryd.prog 3 w m W.heap.size nD D left q ∧ w.ownsRow W.heap.size 3 1 (.slice A acc.length k) acc.length (iv .i64 acc) ∧ Todo ilit S.t left acc ∧ Below W.heap.size W w) (by kernel_rfl)
    ⟨_, [], _, _, _, rfl, hR1, World.ownsRow_nil W1 _ _ _, Todo.start (fun p hp => R.has p hp), hB1⟩ ?_
  rintro q τ vs w ⟨acc, left, A, k, rfl, hRw, hO, hT, hBw⟩
  have hal := hT.len
  ((conv => whnf); (repeat ((first | (refine VL.cons ?_) | (refine VC.seqS rfl ?_) | (refine VC.region ?_)); (conv => whnf))))
  refine VSem.nextM hRw i_keyed (fun h0 hall => ?_) (fun key v kl w' cnt' hkey hleft hmv hhas hRw' hcnt hg' hsz' hentry => ?_)
  · ((conv => whnf); (repeat ((first | (refine VL.cons ?_) | (refine VL.nil ?_)); (conv => whnf))))
    ((repeat ((first | (refine VL.cons ?_) | (refine VC.seqS rfl ?_) | (refine VC.region ?_) | (refine VC.cond ?_) | (refine VC.exit ?_) | (refine VBool.f ?_) | (refine VC.seq ?_)); (conv => whnf))))
    have hsrt := sortInts_row Tryd.lays189 hO (by omega)
    refine VCall.of hsrt ?_
    rintro e w2 ⟨rfl, hO2, hg2⟩
    refine ⟨_, rfl, ?_⟩
    rw [sorted_keysI hwf.ris hT.nd (hT.all hall)] at hO2
    have hlen : acc.length = S.t.length := by
      have := (List.mergeSort_perm acc fun x y => decide (x ≤ y)).length_eq
      rw [sorted_keysI hwf.ris hT.nd (hT.all hall)] at this
      simpa using this.symm
    rw [hlen] at hO2 hg2
    ((conv => whnf); (repeat ((first | (refine VL.cons ?_) | (refine VL.nil ?_) | (refine VC.seqS rfl ?_) | (refine VC.region ?_) | (refine VC.ret ?_)); (conv => whnf))))
    ((repeat ((fail); (conv => whnf))))
    refine ⟨A, k, ?_, hO2, hBw.grown hg2 hBw.size (fun j hj => (row_cells hO j (by rw [hlen]; exact hj)).1)⟩
    rw [← hlen]
    rfl
  · obtain ⟨p, hp, rfl, rfl⟩ := ikey_of R hkey hhas
    have hT' := hT.next ilit_inj (i_keyed.key hkey) rfl (List.mem_map_of_mem hp) hleft
    have hO' := row_range hO hRw hg'
    have hBw' := hBw.grown hg' hBw.size (by intro j hj; injection hj with hj; omega)
    ((conv => whnf); (repeat ((first | (refine VL.cons ?_) | (refine VL.nil ?_)); (conv => whnf))))
    ((repeat ((first | (refine VL.cons ?_) | (refine VC.seqS rfl ?_) | (refine VC.region ?_) | (refine VC.cond ?_) | (refine VC.block ?_) | (refine VC.skip ?_) | (refine VBool.t ?_) | (refine VC.seq ?_)); (conv => whnf))))
    refine VSem.of hentry ?_
    ((conv => whnf); (repeat ((first | (refine VL.cons ?_) | (refine VL.nil ?_) | (refine VC.region ?_)); (conv => whnf))))
    ((repeat ((fail); (conv => whnf))))
    refine VSem.one rfl ?_
    intro w2 hr2 hB2 hz2
    have hR2 := hRw'.below hB2 (Nat.le_refl _)
    have hO2 := rows_below hO' hB2 (Nat.le_refl _)
    have hBw2 := hBw'.trans (hB2.mono hBw'.size)
    ((conv => whnf); (repeat ((first | (refine VL.cons ?_)); (conv => whnf))))
    ((repeat ((fail); (conv => whnf))))
    refine VSem.push int_info rfl hO2 hr2 rfl (by omega) (by decide) hBw2.size ?_
    intro A' k' w3 hO3 hg3
    have hR3 := hR2.row hO2 hg3
    have hBw3 := hBw2.grown hg3 hBw2.size (fun j hj => (row_cells hO2 j hj).1)
    ((conv => whnf); (repeat ((first | (refine VL.cons ?_) | (refine VL.nil ?_)); (conv => whnf))))
    ((repeat ((fail); (conv => whnf))))
    refine ⟨cnt', hcnt, acc ++ [p.1], _, A', k', ?_, hR3, ?_, hT', hBw3⟩
    · simp only [List.length_append, List.length_cons, List.length_nil]; rfl
    · unfold iv at hO3 ⊢
      simpa only [List.length_append, List.length_cons, List.length_nil, List.map_append, List.map_cons, List.map_nil] using hO3
end Go.Proofs.YtnjhdbgejhnpfaaDoor
end

section
namespace Go.Proofs.YtnjhdbgejhnpfaaDoor
set_option linter.unusedVariables false
open Go.RowKit

section
variable {P : Program} {ops : Array Oper} {Q : Exit → Act → World → Prop} {md : Region.Mode} {S : World → Prop} {c : Nat}
/-- what is listed has what it waits for listed -/
def Down (md : Region.Mode) (ops : Array Oper) (L : Array Bool) : Prop := ∀ j oj, ops[j]? = some oj → L.getD j false = true → ∀ e ∈ oj.after, Region.binds md e = true → L.getD e.on false = true
/-- every operation but the last is waited for by a later one -/
def feeds (md : Region.Mode) (ops : Array Oper) (c : Nat) : Bool := Nat.beq ops.size (c + 1) && (List.range c).all fun i => (List.range (c + 1)).any fun k => Nat.blt i k && match ops[k]? with
  | some o => o.after.any fun e => Region.binds md e && Nat.beq e.on i
  | none => false
theorem Down.set {L : Array Bool} {j : Nat} (h : Down md ops L) (hj : j ∈ Region.ready md ops L) : Down md ops (L.setIfInBounds j true) := by
  intro k ok hk hl e he hb
  obtain ⟨h0, o, ho, hall⟩ := mem_ready.1 hj
  by_cases hkj : k = j
  · subst hkj
    rw [ho] at hk
    obtain rfl := Option.some.inj hk
    exact getD_set_true (hall e he hb)
  · rw [getD_set_ne false (Ne.symm hkj)] at hl
    exact getD_set_true (h k ok hk hl e he hb)
theorem Down.start (n : Nat) : Down md ops (Array.replicate n false) := by
  intro j oj hj hl
  exfalso
  rcases Nat.lt_or_ge j n with h | h
  · simp [h] at hl
  · simp [Array.getElem?_eq_none (xs := Array.replicate n false) (by simpa using h)] at hl
theorem feeds_spec (hf : feeds md ops c = true) : ops.size = c + 1 ∧ ∀ i, i < c → ∃ k o e, i < k ∧ k ≤ c ∧ ops[k]? = some o ∧ e ∈ o.after ∧ Region.binds md e = true ∧ e.on = i := by
  unfold feeds at hf
  simp only [Bool.and_eq_true, List.all_eq_true, List.mem_range] at hf
  refine ⟨Nat.eq_of_beq_eq_true hf.1, fun i hi => ?_⟩
  have h1 := hf.2 i hi
  simp only [List.any_eq_true, List.mem_range, Bool.and_eq_true] at h1
  obtain ⟨k, hk, h2, h3⟩ := h1
  cases ho : ops[k]? with
  | none => rw [ho] at h3; cases h3
  | some o =>
    rw [ho] at h3
    obtain ⟨e, he, h4⟩ := Array.any_eq_true'.1 h3
    simp only [Bool.and_eq_true] at h4
    exact ⟨k, o, e, Nat.blt_eq ▸ h2, by omega, ho, he, h4.1, Nat.eq_of_beq_eq_true h4.2⟩
theorem ready_last {L : Array Bool} (hd : Down md ops L) (hf : feeds md ops c = true) (hc : c ∈ Region.ready md ops L) : ∀ (d i : Nat), c - i ≤ d → i < c → L.getD i false = true := by
  intro d
  induction d with
  | zero => intro i h1 h2; omega
  | succ d ih =>
    intro i h1 h2
    obtain ⟨k, o, e, hk, hkc, ho, he, hb, rfl⟩ := (feeds_spec hf).2 i h2
    by_cases hke : k = c
    · subst hke
      obtain ⟨_, o', ho', hall⟩ := mem_ready.1 hc
      rw [ho] at ho'
      obtain rfl := Option.some.inj ho'
      exact hall e he hb
    · exact hd k o ho (ih k (by omega) (by omega)) e he hb
/-- whatever order: S holds till the last operation -/
def wpAnyC (P : Program) (md : Region.Mode) (ops : Array Oper) (Q : Exit → Act → World → Prop) (S : World → Prop) (c : Nat) : Nat → Array Bool → Act → World → Prop
  | 0, listed, a, w => Region.ready md ops listed = [] ∧ Q .normal a w
  | fuel + 1, listed, a, w =>
    (Region.ready md ops listed = [] → Q .normal a w) ∧
    ∀ i ∈ Region.ready md ops listed, wpOp P ops Q i (fun a' w' => (i ≠ c → S w') ∧ wpAnyC P md ops Q S c fuel (listed.setIfInBounds i true) a' w') a w
theorem wpAny_ofC : ∀ (fuel : Nat) (listed : Array Bool) (a : Act) (w : World), wpAnyC P md ops Q S c fuel listed a w → wpAny P md ops Q fuel listed a w
  | 0, _, _, _, h => h
  | fuel + 1, _, _, _, h => ⟨h.1, fun i hi => wpOp_mono (fun a' w' h' => wpAny_ofC fuel _ a' w' h'.2) (h.2 i hi)⟩
theorem wpAnyC_first {i : Nat} {oi : Oper} {v : Value} (hi : ops[i]? = some oi) (hic : i < c) (hf : feeds md ops c = true) (hsel : ∀ (j : Nat) (o : Oper) cs b, ops[j]? = some o → o.op ≠ .select cs b)
    (hQ : ∀ x a w, Q (.panic x) (a.put oi.dst v) w → Q (.panic x) a w) :
    ∀ (fuel : Nat) (listed : Array Bool) (a : Act) (w : World), Down md ops listed →
      (∀ j oj, ops[j]? = some oj → j ≠ i → listed.getD j true = false → (∀ e ∈ oj.after, Region.binds md e = true → e.on ≠ i) → oi.apart ops oj = true) →
      i ∈ Region.ready md ops listed → YieldsIf P ops S oi v a → S w →
      wpAnyC P md ops Q S c fuel (listed.setIfInBounds i true) (a.put oi.dst v) w → wpAnyC P md ops Q S c (fuel + 1) listed a w := by
  intro fuel
  induction fuel with
  | zero =>
    intro listed a w _ _ hr hy hS H
    refine ⟨fun h => (by rw [h] at hr; cases hr), fun j hj => ?_⟩
    by_cases hji : j = i
    · subst hji; exact hy.wpOp hi hS ⟨fun _ => hS, H⟩
    · have := ready_mono hj hji
      rw [H.1] at this
      cases this
  | succ fuel ih =>
    intro listed a w hD hfree hr hy hS H
    refine ⟨fun h => (by rw [h] at hr; cases hr), fun j hj => ?_⟩
    by_cases hji : j = i
    · subst hji; exact hy.wpOp hi hS ⟨fun _ => hS, H⟩
    · have h0 := (mem_ready.1 hr).1
      have hun : listed.getD i false = true → False := fun h1 => by
        rcases Nat.lt_or_ge i listed.size with h' | h'
        · simp [h'] at h0 h1; rw [h0] at h1; cases h1
        · simp [Array.getElem?_eq_none h'] at h1
      have hjc : j ≠ c := fun e => by
        subst e
        exact hun (ready_last hD hf hj (j - i) i (Nat.le_refl _) hic)
      have h1 := H.2 j (ready_mono hj hji)
      obtain ⟨hjun, oj, hoj, hall⟩ := mem_ready.1 hj
      have hnot : ∀ e ∈ oj.after, Region.binds md e = true → e.on ≠ i := fun e he hb heq => hun (by rw [← heq]; exact hall e he hb)
      have h2 := wpOp_putIf hoj (hfree j oj hoj hji hjun hnot) (fun cs b => hsel i oi cs b hi) (fun cs b => hsel j oj cs b hoj) hQ hy h1
      have hfree' : ∀ k ok, ops[k]? = some ok → k ≠ i → (listed.setIfInBounds j true).getD k true = false →
          (∀ e ∈ ok.after, Region.binds md e = true → e.on ≠ i) → oi.apart ops ok = true := fun k ok hk hki hkun hno => by
        refine hfree k ok hk hki ?_ hno
        by_cases hjk : j = k
        · subst hjk; exact hjun
        · rw [getD_set_ne true hjk] at hkun; exact hkun
      refine wpOp_mono (fun a' w' h3 => ⟨h3.2.1, ih (listed.setIfInBounds j true) a' w' (hD.set hj) hfree' (ready_mono hr (Ne.symm hji)) h3.1 (h3.2.1 hjc) ?_⟩) h2
      rw [Array.setIfInBounds_comm _ _ hji]
      exact h3.2.2
end
theorem quiet_takeC {P : Program} {n : Nat} {ds : List Deferred} {ops : List Oper} {md : Region.Mode} {Q : Exit → Act → World → Prop} {S : World → Prop} {D : List Nat} {σ0 : Env} {c : Nat} (hf : feeds md ops.toArray c = true) (hdst : ∀ o ∈ ops, ∀ t, o.dst = some t → t < n ∧ t ∈ D) (hs : Region.noSelect ops.toArray = true)
    (hQ : ∀ x a a' w, Q (.panic x) a w → Q (.panic x) a' w) {w : World} (hS : S w) {K : Env → Prop} {L' : Array Bool} {fuel : Nat} (hR : ∀ a σ, Agr n ds a σ → Fr D σ σ0 → K σ → wpAnyC P md ops.toArray Q S c fuel L' a w) :
    ∀ (l : List Nat) (L : Array Bool) (a : Act) (σ : Env), Down md ops.toArray L → (l.all fun i => Nat.blt i c) = true → takeC md ops.toArray l L = some L' → Agr n ds a σ → Fr D σ σ0 → vquiet P S ops K (picks ops l) σ → wpAnyC P md ops.toArray Q S c (fuel + l.length) L a w
  | [], L, a, σ, hD, hl, hB, hA, hF, h => by
    simp only [takeC, Option.some.injEq] at hB
    subst hB
    exact hR a σ hA hF h
  | i :: r, L, a, σ, hD, hl, hB, hA, hF, h => by
    unfold takeC at hB
    simp only [List.all_cons, Bool.and_eq_true] at hl
    split at hB
    · rename_i hc
      simp only [Bool.and_eq_true] at hc
      obtain ⟨⟨h1, h2⟩, h3⟩ := hc
      cases ho : ops[i]? with
      | none => simp [ho] at h3
      | some o =>
        unfold picks at h
        rw [nthOp_eq, ho] at h
        simp only [vquiet] at h
        have hm : o ∈ ops := List.mem_of_getElem? ho
        rw [show fuel + (i :: r).length = (fuel + r.length) + 1 from by simp; omega]
        have ho' : ops.toArray[i]? = some o := by simpa using ho
        have hic : i < c := Nat.blt_eq ▸ hl.1
        have hr : i ∈ Region.ready md ops.toArray L := by simpa using h2
        rcases vguard_sound hA h with ⟨k1, k2⟩ | ⟨k1, k2⟩
        · obtain ⟨v, v1, v2⟩ := vread_sound k2
          refine wpAnyC_first ho' hic hf (Region.noSelect_spec hs) (fun x a w => hQ x _ _ w) _ L a w hD (Region.free_spec ho' h1) hr (.inl ⟨k1, fun W hW => ?_⟩) hS (quiet_takeC hf hdst hs hQ hS hR r _ _ _ (hD.set hr) hl.2 hB (hA.put (fun t ht => (hdst o hm t ht).1) v) (hF.put (fun t ht => (hdst o hm t ht).2) v) v2)
          rw [hA.eval]
          exact v1 W hW
        · exact wpAnyC_first ho' hic hf (Region.noSelect_spec hs) (fun x a w => hQ x _ _ w) _ L a w hD (Region.free_spec ho' h1) hr (.inr ⟨k1, rfl⟩) hS (quiet_takeC hf hdst hs hQ hS hR r _ _ _ (hD.set hr) hl.2 hB (hA.put (fun t ht => (hdst o hm t ht).1) undef) (hF.put (fun t ht => (hdst o hm t ht).2) undef) k2)
    · cases hB
/-- all but the last are read, in one world; then the last one -/
def lastB (n : Nat) (ops : List Oper) (l : List Nat) (c : Nat) : Bool :=
  Region.noSelect ops.toArray && feeds .any ops.toArray c && (l.all fun i => Nat.blt i c) && segC .any ops.toArray [(l, c)] [] (Array.replicate ops.length false) && Nat.beq (l.length + 1) ops.length && ops.all fun o => match o.dst with | some d => Nat.blt d n | none => true
theorem VDraw.last {P : Program} {n : Nat} {ops : List Oper} {Q : Post} {σ : Env} {w : World} (l : List Nat) (c : Nat) (hm : P.follows .mixedOrders = true) (hB : lastB n ops l c = true)
    (h : VQ P (Eq (w.drewN 1)) ops (fun σ' => vone P (fun _ => True) ops (fun σ2 w2 => Q .normal σ2 w2) (nthOp ops c) σ' (w.drewN 1)) (picks ops l) σ) : VDraw P n ops Q σ w := by
  replace h := h.out
  unfold lastB at hB
  simp only [Bool.and_eq_true] at hB
  obtain ⟨⟨⟨⟨⟨h1, h2⟩, h3⟩, h4⟩, h5⟩, h6⟩ := hB
  have hlen := Nat.eq_of_beq_eq_true h5
  have hdst : ∀ o ∈ ops, ∀ t, o.dst = some t → t < n ∧ t ∈ dsts ops := fun o ho t ht => ⟨by
    have := List.all_eq_true.1 h6 o ho
    rw [ht] at this
    exact Nat.blt_eq ▸ this, mem_dsts ho ht⟩
  simp only [VDraw_eq]
  intro ds a id hA
  refine wp_region_any hm (wpAny_ofC (S := Eq (w.drewN 1)) (c := c) _ _ _ _ ?_)
  rw [show ops.toArray.size = ops.length from by simp]
  unfold segC at h4
  cases hT : takeC .any ops.toArray l (Array.replicate ops.length false) with
  | none => rw [hT] at h4; cases h4
  | some L' =>
    rw [hT] at h4
    simp only [Bool.and_eq_true, beq_iff_eq] at h4
    obtain ⟨⟨k1, k2⟩, k3⟩ := h4
    have := quiet_takeC (md := .any) (Q := Lift n ds Q (dsts ops) σ) (S := Eq (w.drewN 1)) (w := w.drewN 1) (fuel := 1) (σ0 := σ) h2 hdst h1 (fun c a a' w h => h) rfl (fun a σ' hA hF ha => ?_) l _ a σ (Down.start _) h3 hT hA (Fr.refl _ _) h
    · rw [show 1 + l.length = ops.toArray.size from by simp; omega] at this
      rw [show ops.toArray.size = ops.length from by simp] at this
      exact this
    · refine ⟨fun h0 => absurd (k1 ▸ h0) (by simp), fun i hi => ?_⟩
      rw [k1] at hi
      simp only [List.mem_singleton] at hi
      subst hi
      rw [nthOp_eq] at ha
      cases ho : ops[i]? with
      | none => rw [ho] at ha; exact ha.elim
      | some o =>
        rw [ho] at ha
        simp only [vone] at ha
        have hmo : o ∈ ops := List.mem_of_getElem? ho
        have k4 : Region.ready .any ops.toArray (L'.setIfInBounds i true) = [] := by
          unfold segC takeC at k3
          simpa [List.isEmpty_iff] using k3
        unfold wpOp
        rw [show ops.toArray[i]? = some o from by simpa using ho]
        simp only
        rcases vguard_sound hA ha with ⟨j1, j2⟩ | ⟨j1, j2⟩
        · rw [if_pos j1]
          exact .inl (vop_sound hA j2 fun v w' hk => ⟨fun h => absurd rfl h, k4, ⟨_, hA.put (fun t ht => (hdst o hmo t ht).1) v, hF.put (fun t ht => (hdst o hmo t ht).2) v, hk.rest⟩⟩)
        · rw [if_neg (by rw [j1]; simp)]
          exact ⟨fun h => absurd rfl h, k4, ⟨_, hA.put (fun t ht => (hdst o hmo t ht).1) undef, hF.put (fun t ht => (hdst o hmo t ht).2) undef, j2⟩⟩
end Go.Proofs.YtnjhdbgejhnpfaaDoor
end

section
set_option maxRecDepth 10000
namespace Go.Proofs.YtnjhdbgejhnpfaaDoor
set_option linter.unusedVariables false
open Go.RowKit
open Go.Maps (Keyed)
open Go.ChangeMaps Go.WideElems

def MapS (W : World) (m c : Nat) (L : STb) : Prop := ∃ n D, n ≤ c ∧ MapIs Tryd.prog 3 W m n D ∧ Rel Tryd.prog 3 ikey ilit seV D L
def seZ : Value := .agg #[.int .i64 0, .int .i64 0, .int .i64 0, .int .i64 0, .int .i64 0, .int .i64 0, .string ByteArray.empty]
theorem seZ_run (W : World) : (zeroValue 68).run Tryd.prog W = .ok seZ W := by
  rw [Tryd.zeroValue68]; rfl
section
variable {W W' : World} {U V : Foot} {d m c : Nat} {S : SS} {L : STb} {i : Int} {x : Se}
theorem MapS.lt (h : MapS W m c L) : m < W.heap.size := by obtain ⟨n, D, h1, h2, h3⟩ := h; exact h2.lt
theorem MapS.stay (h : MapS W m c L) (hk : W'.heap[m]? = W.heap[m]?) : MapS W' m c L := by
  obtain ⟨n, D, h1, ⟨es, clock, h2, h4⟩, h3⟩ := h
  exact ⟨n, D, h1, ⟨es, clock, by rw [hk]; exact h2, h4⟩, h3⟩
theorem MapS.below {C : Nat} (h : MapS W m c L) (hb : Below C W W') (hC : W.heap.size ≤ C) : MapS W' m c L := h.stay (hb.block _ (Nat.lt_of_lt_of_le h.lt hC))
theorem VUnit.sSet {Q : World → Prop} (h : MapS W m c L) (hR : Rising L) (hc : c ≤ 1000000000) (hi : -9223372036854775808 ≤ i ∧ i ≤ 9223372036854775807)
    (hk : ∀ W', MapS W' m (c + 1) (tset L i x) → W.grownBy W' (some m) → Q W') : VUnit Tryd.prog (Instr.mapUpdate 42 (.map (some m)) (ikey i) (seV x)) W Q := by
  obtain ⟨n, D, h1, h2, R⟩ := h
  have hkey := i_key hi
  refine VUnit.mapSet h2 i_keyed (by omega) hkey (fun W' h3 hg => hk W' ⟨n + 1, _, by omega, h3, ?_⟩ hg)
  cases hf : tfind L i with
  | none => exact (R.put i_keyed ilit_inj hkey (tfind_none hf)).perm (tset_perm (tfind_none hf))
  | some y =>
    obtain ⟨A1, B1, rfl⟩ := tfind_some hf
    rw [tset_old hR]
    exact R.set i_keyed ilit_inj
theorem VSem.sDel {ty : Nat} {Q : Value → World → Prop} (h : MapS W m c L) (hR : Rising L) (hf : tfind L i = some x) (hi : -9223372036854775808 ≤ i ∧ i ≤ 9223372036854775807)
    (hk : ∀ W', MapS W' m c (tdel L i) → W.grownBy W' (some m) → Q (.tuple #[]) W') : VSem Tryd.prog (Builtin.delete_ #[42, 3] ty [.map (some m), ikey i].toArray) W Q := by
  obtain ⟨n, D, h1, h2, R⟩ := h
  have hkey := i_key hi
  refine VSem.mapDel h2 i_keyed hkey (fun W' h3 hg => hk W' ⟨n, _, h1, h3, ?_⟩ hg)
  obtain ⟨A1, B1, rfl⟩ := tfind_some hf
  rw [tdel_eq hR.nd]
  exact R.del ilit_inj
/-- what a lookup says -/
def sLookV (L : STb) (i : Int) : Value := match tfind L i with | some x => seV x | none => seZ
theorem sLook {Q : Value → World → Prop} (h : MapS W m c L) (hi : -9223372036854775808 ≤ i ∧ i ≤ 9223372036854775807)
    (hk : Q (.tuple #[sLookV L i, .bool (tfind L i).isSome]) W) : VSem Tryd.prog (Instr.lookup 42 (.map (some m)) (ikey i) true) W Q := by
  obtain ⟨n, D, h1, h2, R⟩ := h
  refine VSem.mapOk h2 i_keyed (z := seZ) seZ_run (i_key hi) ?_
  unfold sLookV at hk
  cases hf : tfind L i with
  | none =>
    rw [hf] at hk
    rw [mval_not (R.hasF ilit_inj (tfind_none hf)), R.hasF ilit_inj (tfind_none hf)]
    exact hk
  | some p =>
    rw [hf] at hk
    rw [R.at_ (i, p) (tfind_mem hf), R.has (i, p) (tfind_mem hf)]
    exact hk
theorem sLookF {S : World → Prop} {Q : Value → Prop} (h : ∀ W, S W → MapS W m c L) (hf : tfind L i = some x) (hi : -9223372036854775808 ≤ i ∧ i ≤ 9223372036854775807)
    (hk : Q (.agg #[.int .i64 x.used, .int .i64 x.seq, .int .i64 x.rp.err, .int .i64 x.rp.n, .int .i64 x.rp.kind, .int .i64 x.rp.vn, .string (txt x.rp.s)])) : VRead Tryd.prog S (Instr.lookup 42 (.map (some m)) (ikey i) false) Q := by
  refine .of (v := seV x) (fun W hW => ?_) hk
  obtain ⟨n, D, h1, h2, R⟩ := h W hW
  obtain ⟨v, ps, hrun, hv⟩ := World.ownsMap.lookup h2 i_keyed (TMap.u (P := Tryd.prog) (t := 42)) (seZ_run W) (zd := .held seZ) (zp := []) rfl (i_key hi)
  rw [hrun, ← mval_of hv, R.at_ (i, x) (tfind_mem hf)]
theorem sLen {S : World → Prop} {ty : Nat} {Q : Value → Prop} (h : ∀ W, S W → MapS W m c L) (hk : Q (.int .i64 (L.length : Int))) :
    VRead Tryd.prog S (Builtin.len_ #[42] ty [.map (some m)].toArray) Q := by
  refine .of (v := .int .i64 (L.length : Int)) (fun W hW => ?_) hk
  obtain ⟨n, D, h1, h2, R⟩ := h W hW
  rw [← R.size]
  exact World.ownsMap.len h2 (TMap.u (P := Tryd.prog) (t := 42)) ty
/-- the map's entry turns -/
theorem TabAt.turn {T : STb} (h : TabAt W U d m c S) (hg : W.grownBy W' (some m)) {c' : Nat} (hM : MapS W' m c' T) : TabAt W' U d m c' ⟨S.most, T⟩ := by
  obtain ⟨n, D, h1, h2, h3⟩ := h.map
  exact ⟨h.hd, h.hm, h.blk.grown hg (fun e => map_not_blk h2 h.blk (Option.some.inj e).symm), hM⟩
end
/-! ### what the operations answer -/
def oldGo : STb → Int → Int → Int
  | [], g, _ => g
  | p :: r, g, u => if g = 0 ∨ p.2.used < u then oldGo r p.1 p.2.used else oldGo r g u
def oldest (T : STb) : Int := oldGo T 0 0
def fresh (i : Int) : Se := ⟨i, 0, Rp.zero⟩
def SS.open (S : SS) (i : Int) : (Int × Bool) × SS :=
  if (tfind S.t i).isSome = true ∨ i < 1 ∨ 1099511627776 < i then ((0, false), S)
  else if S.most ≤ S.t.length then ((oldest S.t, true), ⟨S.most, tset (tdel S.t (oldest S.t)) i (fresh i)⟩)
  else ((0, true), ⟨S.most, tset S.t i (fresh i)⟩)
def SS.use (S : SS) (i at_ : Int) : Bool × SS := match tfind S.t i with
  | some x => (true, ⟨S.most, tset S.t i { x with used := max x.used (min at_ 1099511627776) }⟩)
  | none => (false, S)
theorem oldGo_mem : ∀ (T : STb) (g u : Int), (∀ p ∈ T, p.1 ≠ 0) → (g = 0 → T ≠ []) → oldGo T g u = g ∧ g ≠ 0 ∨ oldGo T g u ∈ T.map (·.1)
  | [], g, u, _, h => .inl ⟨rfl, fun e => h e rfl⟩
  | p :: r, g, u, hp, h => by
    unfold oldGo
    split
    · have := oldGo_mem r p.1 p.2.used (fun q hq => hp q (by simp [hq])) (fun e => absurd e (hp p (by simp)))
      rcases this with ⟨e, _⟩ | h'
      · exact .inr (by rw [e]; simp)
      · exact .inr (by simp only [List.map_cons]; exact List.mem_cons_of_mem _ h')
    · rename_i hn
      have := oldGo_mem r g u (fun q hq => hp q (by simp [hq])) (fun e => absurd (.inl e) hn)
      rcases this with h' | h'
      · exact .inl h'
      · exact .inr (by simp only [List.map_cons]; exact List.mem_cons_of_mem _ h')
theorem SWf.oldest {S : SS} (h : SWf S) (hne : S.t ≠ []) : ∃ x, tfind S.t (oldest S.t) = some x := by
  have := oldGo_mem S.t 0 0 (fun p hp => by have := (h.ids p hp).1; omega) (fun _ => hne)
  rcases this with ⟨_, e⟩ | hm
  · exact absurd rfl e
  · obtain ⟨p, hp, e⟩ := List.mem_map.1 hm
    refine ⟨p.2, ?_⟩
    unfold Go.Proofs.YtnjhdbgejhnpfaaDoor.oldest
    rw [← e]
    exact tfind_of h.ris.nd hp
theorem SWf.set {S : SS} {i : Int} {x : Se} (h : SWf S) (hi : 1 ≤ i ∧ i ≤ 1099511627776) (hn : ((tdel S.t i).length : Int) + 1 ≤ S.most) : SWf ⟨S.most, tset S.t i x⟩ :=
  ⟨h.most, by simp only; rw [tset_length h.ris]; omega, fun p hp => by
    rcases mem_tset h.ris hp with rfl | hp
    · exact hi
    · exact h.ids p (mem_tdel hp).1, h.ris.set⟩
theorem SWf.del {S : SS} (h : SWf S) (i : Int) : SWf ⟨S.most, tdel S.t i⟩ :=
  ⟨h.most, by simp only; have := tdel_le (L := S.t) i; have := h.few; omega, fun p hp => h.ids p (mem_tdel hp).1, h.ris.del⟩
theorem SWf.open {S : SS} (h : SWf S) (i : Int) : SWf (S.open i).2 := by
  unfold SS.open
  split
  · exact h
  · rename_i hn
    have hi : 1 ≤ i ∧ i ≤ 1099511627776 := by constructor <;> (apply Decidable.byContradiction; intro hh; exact hn (by omega))
    have hf : tfind S.t i = none := by
      cases e : tfind S.t i with
      | none => rfl
      | some x => exact absurd (.inl (by rw [e]; rfl)) hn
    have hfew := h.few
    have hmost := h.most
    split
    · rename_i hfull
      obtain ⟨x, hx⟩ := h.oldest (by intro e; rw [e] at hfull; simp at hfull; omega)
      have h2 := h.del (Go.Proofs.YtnjhdbgejhnpfaaDoor.oldest S.t)
      have := tdel_length h.ris hx
      have := tdel_le (L := tdel S.t (Go.Proofs.YtnjhdbgejhnpfaaDoor.oldest S.t)) i
      exact h2.set hi (by show ((tdel (tdel S.t _) i).length : Int) + 1 ≤ S.most; omega)
    · rename_i hfull
      exact h.set hi (by rw [tdel_not (tfind_none hf)]; omega)
theorem SWf.same {S : SS} {i : Int} {x y : Se} (h : SWf S) (hf : tfind S.t i = some x) : SWf ⟨S.most, tset S.t i y⟩ := by
  have := tdel_length h.ris hf
  have := h.few
  exact h.set (h.ids _ (tfind_mem hf)) (by omega)
theorem SWf.use {S : SS} (h : SWf S) (i a : Int) : SWf (S.use i a).2 := by
  unfold SS.use
  cases hf : tfind S.t i with
  | none => exact h
  | some x => exact h.same hf
end Go.Proofs.YtnjhdbgejhnpfaaDoor
end

section
set_option maxRecDepth 10000
namespace Go.Proofs.YtnjhdbgejhnpfaaDoor
set_option linter.unusedVariables false
open Go.RowKit
open Go.Maps (Keyed)
open Go.ChangeMaps Go.WideElems

theorem VNext.dele {P : Program} {ρ : Operand → Value} {c : Call} {ty : TypeId} {w : World} {K : Value → World → Prop} (hc : c.callee = .builtin .delete) (h : VSem P (Builtin.delete_ c.argTypes ty (argsOf ρ c).toArray) w K) : VNext P (do let d ← resolve ρ c ty; invoke d.target d.args) w K := by
  unfold resolve
  rw [hc]
  rw [args_arr] at h
  exact vnext_bind_ok rfl (vsem_next h)
theorem sLookV_cells (L : STb) (i : Int) : ∃ x : Se, sLookV L i = seV x ∧ (∀ y, tfind L i = some y → x = y) ∧ (tfind L i = none → x = ⟨0, 0, Rp.zero⟩) := by
  unfold sLookV
  cases hf : tfind L i with
  | some y => exact ⟨y, rfl, (fun y' h => by injection h), (fun h => by cases h)⟩
  | none => exact ⟨⟨0, 0, Rp.zero⟩, rfl, (fun y' h => by cases h), (fun _ => rfl)⟩
set_option maxHeartbeats 2000000 in
theorem sUse_any (W : World) (U : Foot) (d c : Nat) (S : SS) (id at_ : Int) (h : Tbl W U d c S) (hc : c ≤ 1000000000) (hi : -9223372036854775808 ≤ id ∧ id ≤ 9223372036854775807) :
    Calls Tryd.prog 10 #[.pointer (some ⟨d, 0, none⟩), .int .i64 id, .int .i64 at_] W fun e W' => e = .returned (.bool (S.use id at_).1) ∧ Tbl W' U d (c + 1) (S.use id at_).2 ∧ Out U W W' := by
  have hwf' := h.1.use id at_
  obtain ⟨hwf, m, h⟩ := h
  have hb := h.blk
  have hM : MapS W m c S.t := h.map
  obtain ⟨x, hx, hx1, hx2⟩ := sLookV_cells S.t id
  refine calls_vc Tryd.func10 rfl (by kernel_rfl) ?_
  ((conv => whnf); (repeat ((first | (refine VL.cons ?_) | (refine VL.nil ?_) | (refine VC.seqS rfl ?_) | (refine VC.region ?_)); (conv => whnf))))
  (repeat (first | ((first | (refine VL.cons ?_) | (refine VRead.fld ?_)); (conv => whnf)) | (refine VRead.loadB hb rfl rfl ?_; (conv => whnf))))
  refine sLook hM hi ?_
  rw [hx]
  ((conv => whnf); (repeat ((first | (refine VL.cons ?_)); (conv => whnf))))
  ((repeat ((fail); (conv => whnf))))
  refine VSem.allocZ (z := seZ) (by kernel_rfl) ?_
  intro W1 g hb1 hgb hlb hB1
  ((conv => whnf); (repeat ((first | (refine VL.cons ?_)); (conv => whnf))))
  ((repeat ((fail); (conv => whnf))))
  refine VUnit.storeAB hb1 rfl rfl rfl (by simp [seC, Value.oneCell']) ?_
  intro W2 hb2 hg2
  replace hb2 : Blk W2 g 68 #[.int .i64 x.used, .int .i64 x.seq, .int .i64 x.rp.err, .int .i64 x.rp.n, .int .i64 x.rp.kind, .int .i64 x.rp.vn, .string (txt x.rp.s)] := hb2
  have hB2 : Below W.heap.size W W2 := only_new hB1 hg2 (by omega) (by omega)
  have h2 : TabAt W2 U d m c S := h.stay (fun j hj _ => hB2.block j hj)
  cases hf : tfind S.t id with
  | none =>
    have e : S.use id at_ = (false, S) := by unfold SS.use; rw [hf]
    rw [e]
    ((conv => whnf); (repeat ((first | (refine VL.cons ?_) | (refine VL.nil ?_)); (conv => whnf))))
    ((repeat ((first | (refine VL.cons ?_) | (refine VL.nil ?_) | (refine VC.seqS rfl ?_) | (refine VC.region ?_) | (refine VC.cond ?_) | (refine VC.ret ?_) | (refine VC.skip ?_) | (refine VBool.f ?_) | (refine VC.seq ?_)); (conv => whnf))))
    exact ⟨rfl, ⟨hwf, m, h2.hd, h2.hm, h2.blk, by obtain ⟨n, D, a1, a2⟩ := h2.map; exact ⟨n, D, by omega, a2⟩⟩, Out.new hB2⟩
  | some y =>
    obtain rfl := hx1 y hf
    have e : S.use id at_ = (true, ⟨S.most, tset S.t id { x with used := max x.used (min at_ 1099511627776) }⟩) := by unfold SS.use; rw [hf]
    rw [e] at hwf' ⊢
    ((conv => whnf); (repeat ((first | (refine VL.cons ?_) | (refine VL.nil ?_)); (conv => whnf))))
    (repeat (first | ((first | (refine VL.cons ?_) | (refine VL.nil ?_) | (refine VC.seqS rfl ?_) | (refine VC.region ?_) | (refine VC.cond ?_) | (refine VBool.t ?_) | (refine VRead.fld ?_) | (refine VC.seq ?_)); (conv => whnf)) | (refine VRead.loadB hb2 rfl rfl ?_; (conv => whnf))))
    refine VRead.minZ (z := min at_ 1099511627776) (by split <;> omega) ?_
    ((conv => whnf); (repeat ((first | (refine VL.cons ?_)); (conv => whnf))))
    refine VRead.maxZ (z := max x.used (min at_ 1099511627776)) (by split <;> omega) ?_
    ((conv => whnf); (repeat ((first | (refine VL.cons ?_)); (conv => whnf))))
    ((repeat ((first | (refine VL.cons ?_) | (refine VRead.fld ?_)); (conv => whnf))))
    refine VUnit.storeB hb2 rfl rfl rfl ?_
    intro W3 hb3 hg3
    replace hb3 : Blk W3 g 68 #[.int .i64 (max x.used (min at_ 1099511627776)), .int .i64 x.seq, .int .i64 x.rp.err, .int .i64 x.rp.n, .int .i64 x.rp.kind, .int .i64 x.rp.vn, .string (txt x.rp.s)] := hb3
    have hB3 : Below W.heap.size W W3 := hB2.grown hg3 hB2.size (fun j hj => by injection hj with hj; omega)
    have h3 : TabAt W3 U d m c S := h.stay (fun j hj _ => hB3.block j hj)
    have hbt := h3.blk
    ((conv => whnf); (repeat ((first | (refine VL.nil ?_) | (refine VC.draw ?_)); (conv => whnf))))
    ((repeat ((fail); (conv => whnf))))
    refine VDraw.last [0, 1, 2, 3, 4, 5] 6 (by kernel_rfl) (by kernel_rfl) ?_
    (conv => whnf)
    (repeat ((first | (refine VRead.loadB hbt rfl rfl ?_) | (refine VRead.loadAB1 hb3 rfl rfl ?_) | (refine VQ.cons ?_) | (refine VQ.nil ?_) | (refine VRead.fld ?_)); (conv => whnf)))
    have hM3 : MapS (W3.drewN 1) m c S.t := h3.map
    refine VUnit.sSet (x := { x with used := max x.used (min at_ 1099511627776) }) hM3 hwf.ris hc hi ?_
    intro W4 hM4 hg4
    (conv => whnf)
    refine Keep.mk trivial ?_
    (conv => whnf)
    have hg4' : W3.grownBy W4 (some m) := ⟨hg4.os, hg4.tape, hg4.output, hg4.size, hg4.block⟩
    ((conv => whnf); (repeat ((first | (refine VL.cons ?_) | (refine VL.nil ?_) | (refine VC.seqS rfl ?_) | (refine VC.region ?_) | (refine VC.ret ?_)); (conv => whnf))))
    ((repeat ((fail); (conv => whnf))))
    exact ⟨rfl, ⟨hwf', m, h3.turn hg4' hM4⟩, (Out.new hB3).trans (Out.grown hg4' h.hm)⟩
set_option maxHeartbeats 4000000 in
theorem sOpen_any (W : World) (U : Foot) (d c : Nat) (S : SS) (id : Int) (h : Tbl W U d c S) (hc : c ≤ 1000000000) (hi : -9223372036854775808 ≤ id ∧ id ≤ 9223372036854775807) :
    Calls Tryd.prog 9 #[.pointer (some ⟨d, 0, none⟩), .int .i64 id] W fun e W' => e = .returned (.tuple #[.int .i64 (S.open id).1.1, .bool (S.open id).1.2]) ∧ Tbl W' U d (c + 1) (S.open id).2 ∧ Out U W W' := by
  have hwf' := h.1.open id
  have hT := h
  obtain ⟨hwf, m, h⟩ := h
  have hfew := hwf.few
  have hmost := hwf.most
  have hb := h.blk
  have hM : MapS W m c S.t := h.map
  obtain ⟨x, hx, hx1, hx2⟩ := sLookV_cells S.t id
  refine calls_vc Tryd.func9 rfl (by kernel_rfl) ?_
  ((conv => whnf); (repeat ((first | (refine VL.cons ?_) | (refine VL.nil ?_) | (refine VC.seqS rfl ?_) | (refine VC.region ?_)); (conv => whnf))))
  (repeat (first | ((first | (refine VL.cons ?_) | (refine VC.seqS rfl ?_) | (refine VC.region ?_) | (refine VRead.fld ?_) | (refine VC.seq ?_)); (conv => whnf)) | (refine VRead.loadB hb rfl rfl ?_; (conv => whnf))))
  refine sLook hM hi ?_
  rw [hx]
  ((conv => whnf); (repeat ((first | (refine VL.cons ?_)); (conv => whnf))))
  ((repeat ((fail); (conv => whnf))))
  refine VSem.allocZ (z := seZ) (by kernel_rfl) ?_
  intro W1 g hb1 hgb hlb hB1
  ((conv => whnf); (repeat ((first | (refine VL.cons ?_)); (conv => whnf))))
  ((repeat ((fail); (conv => whnf))))
  refine VUnit.storeAB hb1 rfl rfl rfl (by simp [seC, Value.oneCell']) ?_
  intro W2 hb2 hg2
  have hB2 : Below W.heap.size W W2 := only_new hB1 hg2 (by omega) (by omega)
  have h2 : TabAt W2 U d m c S := h.stay (fun j hj _ => hB2.block j hj)
  have hT2 := hT.below hB2 (Nat.le_refl _)
  clear hb2 hg2 hb1 hgb hlb hB1
  have no : ((tfind S.t id).isSome = true ∨ id < 1 ∨ 1099511627776 < id) → S.open id = ((0, false), S) := fun hh => by unfold SS.open; rw [if_pos hh]
  cases hf : tfind S.t id with
  | some y =>
    rw [no (.inl (by rw [hf]; rfl))]
    ((conv => whnf); (repeat ((first | (refine VL.cons ?_) | (refine VL.nil ?_) | (refine VC.seqS rfl ?_) | (refine VC.region ?_)); (conv => whnf))))
    ((repeat ((first | (refine VL.cons ?_) | (refine VL.nil ?_) | (refine VC.seqS rfl ?_) | (refine VC.region ?_) | (refine VC.cond ?_) | (refine VC.ret ?_) | (refine VBool.t ?_)); (conv => whnf))))
    exact ⟨rfl, hT2.grow (Nat.le_succ _), Out.new hB2⟩
  | none =>
    by_cases hi1 : id < 1
    · rw [no (.inr (.inl hi1))]
      ((conv => whnf); (repeat ((first | (refine VL.cons ?_) | (refine VL.nil ?_) | (refine VC.seqS rfl ?_) | (refine VC.region ?_)); (conv => whnf))))
      ((repeat ((first | (refine VL.cons ?_) | (refine VL.nil ?_) | (refine VC.seqS rfl ?_) | (refine VC.region ?_) | (refine VC.cond ?_) | (refine VC.ret ?_) | (refine VBool.t ?_) | (refine VBool.f ?_) | (refine VBool.dT (by omega) ?_)); (conv => whnf))))
      exact ⟨rfl, hT2.grow (Nat.le_succ _), Out.new hB2⟩
    by_cases hi2 : 1099511627776 < id
    · rw [no (.inr (.inr hi2))]
      ((conv => whnf); (repeat ((first | (refine VL.cons ?_) | (refine VL.nil ?_) | (refine VC.seqS rfl ?_) | (refine VC.region ?_)); (conv => whnf))))
      ((repeat ((first | (refine VL.cons ?_) | (refine VL.nil ?_) | (refine VC.seqS rfl ?_) | (refine VC.region ?_) | (refine VC.cond ?_) | (refine VC.ret ?_) | (refine VBool.f ?_) | (refine VBool.dT (by omega) ?_) | (refine VBool.dF (by omega) ?_)); (conv => whnf))))
      exact ⟨rfl, hT2.grow (Nat.le_succ _), Out.new hB2⟩
    have hbt := h2.blk
    have hM2 : MapS W2 m c S.t := h2.map
    have hM2' : MapS (W2.drewN 1) m c S.t := hM2
    have hb2' : Blk (W2.drewN 1) d 44 #[.int .i64 S.most, .map (some m)] := hbt
    ((conv => whnf); (repeat ((first | (refine VL.cons ?_) | (refine VL.nil ?_) | (refine VC.seqS rfl ?_) | (refine VC.region ?_)); (conv => whnf))))
    ((repeat ((first | (refine VL.cons ?_) | (refine VL.nil ?_) | (refine VC.seqS rfl ?_) | (refine VC.region ?_) | (refine VC.draw ?_) | (refine VC.cond ?_) | (refine VC.skip ?_) | (refine VBool.f ?_) | (refine VBool.dF (by omega) ?_) | (refine VC.seq ?_)); (conv => whnf))))
    (refine VDraw.seg (Eq (World.drewN _ 1)) [] [0, 1, 2, 3, 4, 5, 6, 7, 8, 9] (by kernel_rfl) (by kernel_rfl) rfl ?_; (conv => whnf))
    (repeat ((first | (refine VRead.loadB hb2' rfl rfl ?_) | (refine sLen (fun _ e => e ▸ hM2') ?_) | (refine VC.cond ?_) | (refine VQ.cons ?_) | (refine VQ.nil ?_) | (refine VG.nil ?_) | (refine VRead.fld ?_)); (conv => whnf)))
    by_cases hfull : S.most ≤ (S.t.length : Int)
    case neg =>
      have e : S.open id = ((0, true), ⟨S.most, tset S.t id (fresh id)⟩) := by unfold SS.open; rw [if_neg (by rw [hf]; simp; omega), if_neg hfull]
      rw [e] at hwf' ⊢
      have hb3 : Blk (W2.drewN 1) d 44 #[.int .i64 S.most, .map (some m)] := hbt
      ((repeat ((first | (refine VL.cons ?_) | (refine VC.seqS rfl ?_) | (refine VC.region ?_) | (refine VC.skip ?_) | (refine VBool.dF (by omega) ?_) | (refine VRead.fld ?_)); (conv => whnf))))
      (repeat (first | ((first | (refine VL.cons ?_)); (conv => whnf)) | (refine VRead.loadB hb3 rfl rfl ?_; (conv => whnf))))
      refine VRead.ofW (v := seV (fresh id)) (fun _ => by kernel_rfl) ?_
      ((conv => whnf); (repeat ((first | (refine VL.cons ?_)); (conv => whnf))))
      refine VUnit.sSet (x := fresh id) hM2' hwf.ris hc hi ?_
      intro W4 hM4 hg4
      have hg4' : W2.grownBy W4 (some m) := ⟨hg4.os, hg4.tape, hg4.output, hg4.size, hg4.block⟩
      ((conv => whnf); (repeat ((first | (refine VL.cons ?_) | (refine VL.nil ?_) | (refine VC.seqS rfl ?_) | (refine VC.region ?_) | (refine VC.ret ?_)); (conv => whnf))))
      ((repeat ((fail); (conv => whnf))))
      exact ⟨rfl, ⟨hwf', m, h2.turn hg4' hM4⟩, (Out.new hB2).trans (Out.grown hg4' h.hm)⟩
    obtain ⟨xo, hxo⟩ := hwf.oldest (by intro e; rw [e] at hfull; simp at hfull; omega)
    have e : S.open id = ((oldest S.t, true), ⟨S.most, tset (tdel S.t (oldest S.t)) id (fresh id)⟩) := by unfold SS.open; rw [if_neg (by rw [hf]; simp; omega), if_pos hfull]
    rw [e] at hwf' ⊢
    have hids := hwf.ids
    ((repeat ((first | (refine VL.cons ?_) | (refine VC.seqS rfl ?_) | (refine VC.region ?_) | (refine VBool.dT (by omega) ?_) | (refine VC.seq ?_)); (conv => whnf))))
    refine VCall.of (sIDs_any (W2.drewN 1) U d c S (hT2.below (below_drewN (Below.refl _ _) 1) (Nat.le_refl _))) ?_
    rintro e W3 ⟨A3, k3, rfl, hO3, hb3⟩
    refine ⟨_, rfl, ?_⟩
    have hB3 : Below W.heap.size W W3 := (below_drewN hB2 1).trans (hb3.mono (by show W.heap.size ≤ W2.heap.size; exact hB2.size))
    have h3 : TabAt W3 U d m c S := h.stay (fun j hj _ => hB3.block j hj)
    have hbt3 := h3.blk
    have hM3 : MapS W3 m c S.t := h3.map
    have hM3' : MapS (W3.drewN 1) m c S.t := hM3
    have hbd3 : Blk (W3.drewN 1) d 44 #[.int .i64 S.most, .map (some m)] := hbt3
    have hr3 := Reads.row hO3
    ((conv => whnf); (repeat ((first | (refine VL.cons ?_)); (conv => whnf))))
    ((repeat ((first | (refine VL.cons ?_) | (refine VL.nil ?_) | (refine VC.block ?_) | (refine VRead.lenS ?_)); (conv => whnf))))
    refine VC.loop [8, 42] [(8, 8), (10, 10), (42, 66)] (fun q vs w => ∃ (T0 T1 : STb) (g : Int) (xg : Se), vs = [.int .i64 g, .int .i64 (T0.length : Int)] ∧ q = T1.length ∧ S.t = T0 ++ T1 ∧ (g = 0 ∨ 1 ≤ g ∧ g ≤ 1099511627776 ∧ tfind S.t g = some xg) ∧ oldest S.t = oldGo T1 g xg.used ∧ (∃ N, w = W3.drewN N)) (by kernel_rfl)
      ⟨_, [], S.t, 0, ⟨0, 0, Rp.zero⟩, rfl, rfl, rfl, .inl rfl, rfl, 0, rfl⟩ ?_
    rintro q τ vs w ⟨T0, T1, g, xg, rfl, rfl, hsp, hg, hold, N, rfl⟩
    have hTl : S.t.length = T0.length + T1.length := by rw [hsp]; simp
    have hMN : MapS (W3.drewN N) m c S.t := hM3
    have hbN : Blk (W3.drewN N) d 44 #[.int .i64 S.most, .map (some m)] := hbt3
    have hBN : Below W.heap.size W (W3.drewN N) := below_drewN hB3 N
    cases T1 with
    | nil =>
      have hgo : oldest S.t = g := hold
      simp only [List.length_nil] at hTl
      have hg1 : 1 ≤ g ∧ g ≤ 1099511627776 ∧ tfind S.t g = some xg := by
        rcases hg with rfl | hg
        · have := (hids _ (tfind_mem hxo)).1
          omega
        · exact hg
      ((conv => whnf); (repeat ((first | (refine VL.cons ?_) | (refine VL.nil ?_) | (refine VC.seqS rfl ?_) | (refine VC.region ?_)); (conv => whnf))))
      (repeat (first | ((first | (refine VL.cons ?_) | (refine VC.region ?_) | (refine VC.cond ?_) | (refine VC.exit ?_) | (refine VBool.dF (by omega) ?_) | (refine VRead.fld ?_) | (refine VC.seq ?_)); (conv => whnf)) | (refine VRead.loadB hbN rfl rfl ?_; (conv => whnf))))
      refine VNext.dele rfl ?_
      refine VSem.sDel hMN hwf.ris hg1.2.2 (by omega) ?_
      intro W4 hM4 hg4
      have hg4' : W3.grownBy W4 (some m) := ⟨hg4.os, hg4.tape, hg4.output, hg4.size, hg4.block⟩
      have h4 := h3.turn hg4' hM4
      have hbt4 := h4.blk
      ((conv => whnf); (repeat ((first | (refine VL.cons ?_) | (refine VL.nil ?_) | (refine VC.seqS rfl ?_) | (refine VC.region ?_)); (conv => whnf))))
      (repeat (first | ((first | (refine VL.cons ?_) | (refine VRead.fld ?_)); (conv => whnf)) | (refine VRead.loadB hbt4 rfl rfl ?_; (conv => whnf))))
      refine VRead.ofW (v := seV (fresh id)) (fun _ => by kernel_rfl) ?_
      ((conv => whnf); (repeat ((first | (refine VL.cons ?_)); (conv => whnf))))
      refine VUnit.sSet (x := fresh id) hM4 hwf.ris.del hc hi ?_
      intro W5 hM5 hg5
      rw [hgo] at hwf' ⊢
      ((conv => whnf); (repeat ((first | (refine VL.cons ?_) | (refine VL.nil ?_) | (refine VC.seqS rfl ?_) | (refine VC.region ?_) | (refine VC.ret ?_)); (conv => whnf))))
      ((repeat ((fail); (conv => whnf))))
      exact ⟨rfl, ⟨hwf', m, h4.turn hg5 hM5⟩, ((Out.new hB3).trans (Out.grown hg4' h.hm)).trans (Out.grown hg5 h.hm)⟩
    | cons p r =>
      have hp : p ∈ S.t := by rw [hsp]; simp
      have hpi := hids p hp
      have hpf : tfind S.t p.1 = some p.2 := tfind_of hwf.ris.nd hp
      have hr3N : Reads (W3.drewN N) W3.heap.size 1 A3 S.t.length (iv .i64 (S.t.map (·.1))) := hr3
      obtain ⟨ad, u, rfl, hbl, hu, hcu⟩ := hr3N.at_ (show T0.length < S.t.length by rw [hTl]; simp)
      obtain rfl : ikey p.1 = u := by
        rw [hsp] at hu
        unfold iv at hu
        show Value.int .i64 p.1 = u
        simpa using hu
      have hMN1 : MapS ((W3.drewN N).drewN 1) m c S.t := hM3
      have hbN1 : Blk ((W3.drewN N).drewN 1) d 44 #[.int .i64 S.most, .map (some m)] := hbt3
      have hlp : sLookV S.t p.1 = seV p.2 := by unfold sLookV; rw [hpf]
      simp only [List.length_cons] at hTl
      have step : (if g = 0 ∨ p.2.used < xg.used then oldGo r p.1 p.2.used else oldGo r g xg.used) = oldest S.t := hold.symm
      rcases hg with rfl | ⟨hg1, hg2, hgf⟩
      · rw [if_pos (.inl rfl)] at step
        ((conv => whnf); (repeat ((first | (refine VL.cons ?_) | (refine VL.nil ?_) | (refine VC.seqS rfl ?_) | (refine VC.region ?_)); (conv => whnf))))
        ((repeat ((first | (refine VL.cons ?_) | (refine VL.nil ?_) | (refine VC.seqS rfl ?_) | (refine VC.region ?_) | (refine VC.draw ?_) | (refine VC.cond ?_) | (refine VC.block ?_) | (refine VC.skip ?_) | (refine VBool.dT (by omega) ?_) | (refine VRead.load1 (by assumption) ?_) | (refine VRead.at1 (by omega) ?_) | (refine VC.seq ?_)); (conv => whnf))))
        (refine VDraw.seg (Eq (World.drewN _ 1)) [] [0, 1, 2, 3, 4, 5, 6, 7, 8, 9, 10, 11, 12, 13, 14, 15, 16, 17, 18] (by kernel_rfl) (by kernel_rfl) rfl ?_; (conv => whnf))
        ((repeat ((first | (refine VL.cons ?_) | (refine VL.nil ?_) | (refine VC.region ?_) | (refine VC.cond ?_) | (refine VQ.cons ?_) | (refine VQ.nil ?_) | (refine VG.nil ?_) | (refine VBool.t ?_) | (refine VWrap.i64 (by omega) (by omega) ?_)); (conv => whnf))))
        exact ⟨_, by simp, T0 ++ [p], r, p.1, p.2, by simp only [List.length_append, List.length_cons, List.length_nil]; rfl, rfl, by rw [hsp]; simp, .inr ⟨hpi.1, hpi.2, hpf⟩, step.symm, N + 1, rfl⟩
      · have hlg : sLookV S.t g = seV xg := by unfold sLookV; rw [hgf]
        by_cases hlt : p.2.used < xg.used
        · rw [if_pos (.inr hlt)] at step
          ((conv => whnf); (repeat ((first | (refine VL.cons ?_) | (refine VL.nil ?_) | (refine VC.seqS rfl ?_) | (refine VC.region ?_)); (conv => whnf))))
          ((repeat ((first | (refine VL.cons ?_) | (refine VL.nil ?_) | (refine VC.seqS rfl ?_) | (refine VC.region ?_) | (refine VC.draw ?_) | (refine VC.cond ?_) | (refine VC.block ?_) | (refine VC.skip ?_) | (refine VBool.dT (by omega) ?_) | (refine VRead.load1 (by assumption) ?_) | (refine VRead.at1 (by omega) ?_) | (refine VC.seq ?_)); (conv => whnf))))
          (refine VDraw.seg (Eq (World.drewN _ 1)) [] [0, 1, 2, 3, 4, 5, 6, 7, 8, 9, 10, 11, 12, 13, 14, 15, 16, 17, 18] (by kernel_rfl) (by kernel_rfl) rfl ?_; (conv => whnf))
          (repeat ((first | (refine VRead.loadB hbN1 rfl rfl ?_) | (refine sLookF (L := S.t) (i := p.1) (fun _ e => e ▸ hMN1) hpf (by omega) ?_) | (refine sLookF (L := S.t) (i := g) (fun _ e => e ▸ hMN1) hgf (by omega) ?_) | (refine VRead.part rfl ?_) | (refine VL.cons ?_) | (refine VL.nil ?_) | (refine VC.region ?_) | (refine VC.cond ?_) | (refine VQ.cons ?_) | (refine VQ.nil ?_) | (refine VG.nil ?_) | (refine VBool.f ?_) | (refine VBool.dT (by omega) ?_) | (refine VBool.dF (by omega) ?_) | (refine VRead.fld ?_) | (refine VWrap.i64 (by omega) (by omega) ?_)); (conv => whnf)))
          exact ⟨_, by simp, T0 ++ [p], r, p.1, p.2, by simp only [List.length_append, List.length_cons, List.length_nil]; rfl, rfl, by rw [hsp]; simp, .inr ⟨hpi.1, hpi.2, hpf⟩, step.symm, N + 1, rfl⟩
        · rw [if_neg (by omega)] at step
          ((conv => whnf); (repeat ((first | (refine VL.cons ?_) | (refine VL.nil ?_) | (refine VC.seqS rfl ?_) | (refine VC.region ?_)); (conv => whnf))))
          ((repeat ((first | (refine VL.cons ?_) | (refine VL.nil ?_) | (refine VC.seqS rfl ?_) | (refine VC.region ?_) | (refine VC.draw ?_) | (refine VC.cond ?_) | (refine VC.block ?_) | (refine VC.skip ?_) | (refine VBool.dT (by omega) ?_) | (refine VRead.load1 (by assumption) ?_) | (refine VRead.at1 (by omega) ?_) | (refine VC.seq ?_)); (conv => whnf))))
          (refine VDraw.seg (Eq (World.drewN _ 1)) [] [0, 1, 2, 3, 4, 5, 6, 7, 8, 9, 10, 11, 12, 13, 14, 15, 16, 17, 18] (by kernel_rfl) (by kernel_rfl) rfl ?_; (conv => whnf))
          (repeat ((first | (refine VRead.loadB hbN1 rfl rfl ?_) | (refine sLookF (L := S.t) (i := p.1) (fun _ e => e ▸ hMN1) hpf (by omega) ?_) | (refine sLookF (L := S.t) (i := g) (fun _ e => e ▸ hMN1) hgf (by omega) ?_) | (refine VRead.part rfl ?_) | (refine VL.cons ?_) | (refine VL.nil ?_) | (refine VC.region ?_) | (refine VC.cond ?_) | (refine VC.skip ?_) | (refine VQ.cons ?_) | (refine VQ.nil ?_) | (refine VG.nil ?_) | (refine VBool.f ?_) | (refine VBool.dF (by omega) ?_) | (refine VRead.fld ?_) | (refine VWrap.i64 (by omega) (by omega) ?_)); (conv => whnf)))
          exact ⟨_, by simp, T0 ++ [p], r, g, xg, by simp only [List.length_append, List.length_cons, List.length_nil]; rfl, rfl, by rw [hsp]; simp, .inr ⟨hg1, hg2, hgf⟩, step.symm, N + 1, rfl⟩
end Go.Proofs.YtnjhdbgejhnpfaaDoor
end

section
set_option maxRecDepth 10000
namespace Go.Proofs.YtnjhdbgejhnpfaaDoor
set_option linter.unusedVariables false
open Go.RowKit
open Go.Maps (Keyed)
open Go.ChangeMaps Go.WideElems

def usedOf (T : STb) (a : Int) : Int := match tfind T a with | some x => x.used | none => 0
structure LInv (S : SS) (line : List Int) (at_ : Int) : Prop where
  mem : ∀ a, (tfind S.t a).isSome = true ↔ a ∈ line
  len : S.t.length = line.length
  ord : line.Pairwise (fun a b => usedOf S.t a < usedOf S.t b)
  top : ∀ a ∈ line, a ≤ at_ ∧ usedOf S.t a ≤ at_
theorem LInv.start (n : Int) : LInv ⟨n, []⟩ [] 0 := ⟨fun a => by simp [tfind], rfl, by simp, by simp⟩
theorem oldGo_min : ∀ (T : STb) (g u : Int), (∀ p ∈ T, p.1 ≠ 0) → (oldGo T g u = g ∧ (g = 0 → T = []) ∧ (∀ q ∈ T, u ≤ q.2.used)) ∨ (∃ p ∈ T, oldGo T g u = p.1 ∧ (∀ q ∈ T, p.2.used ≤ q.2.used) ∧ (g ≠ 0 → p.2.used ≤ u))
  | [], g, u, _ => .inl ⟨rfl, fun _ => rfl, by simp⟩
  | p :: r, g, u, hp => by
    unfold oldGo
    have hp0 := hp p (by simp)
    have hr : ∀ q ∈ r, q.1 ≠ 0 := fun q hq => hp q (by simp [hq])
    split
    · rename_i hc
      refine .inr ?_
      rcases oldGo_min r p.1 p.2.used hr with ⟨e, _, h⟩ | ⟨q, hq, e, h1, h2⟩
      · refine ⟨p, by simp, e, fun q hq => ?_, fun hg => ?_⟩
        · rcases List.mem_cons.1 hq with rfl | hq
          · exact Int.le_refl _
          · exact h q hq
        · rcases hc with hc | hc
          · exact absurd hc hg
          · omega
      · refine ⟨q, by simp [hq], e, fun q' hq' => ?_, fun hg => ?_⟩
        · rcases List.mem_cons.1 hq' with rfl | hq'
          · exact h2 hp0
          · exact h1 q' hq'
        · have := h2 hp0
          rcases hc with hc | hc
          · exact absurd hc hg
          · omega
    · rename_i hc
      have hg : g ≠ 0 := fun e => hc (.inl e)
      have hu : u ≤ p.2.used := by apply Int.not_lt.1; intro e; exact hc (.inr e)
      rcases oldGo_min r g u hr with ⟨e, _, h⟩ | ⟨q, hq, e, h1, h2⟩
      · refine .inl ⟨e, fun e' => absurd e' hg, fun q hq => ?_⟩
        rcases List.mem_cons.1 hq with rfl | hq
        · exact hu
        · exact h q hq
      · refine .inr ⟨q, by simp [hq], e, fun q' hq' => ?_, h2⟩
        rcases List.mem_cons.1 hq' with rfl | hq'
        · have := h2 hg; omega
        · exact h1 q' hq'
theorem LInv.oldest {S : SS} {a : Int} {r : List Int} {t : Int} (h : LInv S (a :: r) t) (hw : SWf S) : Go.Proofs.YtnjhdbgejhnpfaaDoor.oldest S.t = a := by
  have ha := (h.mem a).2 (by simp)
  obtain ⟨x, hx⟩ := Option.isSome_iff_exists.1 ha
  have hmem := tfind_mem hx
  rcases oldGo_min S.t 0 0 (fun p hp => by have := (hw.ids p hp).1; omega) with ⟨_, h0, _⟩ | ⟨p, hp, e, h1, _⟩
  · rw [h0 rfl] at hmem; cases hmem
  · unfold Go.Proofs.YtnjhdbgejhnpfaaDoor.oldest
    rw [e]
    have hpf : tfind S.t p.1 = some p.2 := tfind_of hw.ris.nd hp
    have hpl := (h.mem p.1).1 (by rw [hpf]; rfl)
    rcases List.mem_cons.1 hpl with e' | hr
    · exact e'
    · have h2 := (List.pairwise_cons.1 h.ord).1 p.1 hr
      have h3 := h1 _ hmem
      unfold usedOf at h2
      rw [hx, hpf] at h2
      simp only at h2 h3
      omega
theorem usedOf_tset {T : STb} {i a : Int} {x : Se} (hR : Rising T) : usedOf (tset T i x) a = if a = i then x.used else usedOf T a := by
  unfold usedOf
  rw [tfind_tset hR]
  by_cases h : a = i
  · rw [if_pos h, if_pos h]
  · rw [if_neg h, if_neg h]
theorem ord_append {T T' : STb} {l : List Int} {i v : Int} (h : l.Pairwise (fun a b => usedOf T a < usedOf T b)) (h1 : ∀ a ∈ l, usedOf T' a = usedOf T a) (h2 : usedOf T' i = v) (h3 : ∀ a ∈ l, usedOf T a < v) :
    (l ++ [i]).Pairwise (fun a b => usedOf T' a < usedOf T' b) := by
  rw [List.pairwise_append]
  refine ⟨?_, by simp, fun a ha b hb => ?_⟩
  · exact h.imp_of_mem (fun {a b} ha hb hab => by rw [h1 a ha, h1 b hb]; exact hab)
  · simp at hb; subst hb
    rw [h1 a ha, h2]; exact h3 a ha
/-- one more, while there is room -/
theorem LInv.add {S : SS} {line : List Int} {t i : Int} (h : LInv S line t) (hw : SWf S) (hi : t < i) (hi1 : 1 ≤ i ∧ i ≤ 1099511627776) (hfew : (line.length : Int) < S.most) :
    S.open i = ((0, true), ⟨S.most, tset S.t i (fresh i)⟩) ∧ LInv ⟨S.most, tset S.t i (fresh i)⟩ (line ++ [i]) i := by
  have hn : i ∉ line := fun hm => by have := (h.top i hm).1; omega
  have hf : tfind S.t i = none := by
    cases e : tfind S.t i with
    | none => rfl
    | some x => exact absurd ((h.mem i).1 (by rw [e]; rfl)) hn
  have hlen := h.len
  refine ⟨by unfold SS.open; rw [if_neg (by rw [hf]; simp; omega), if_neg (by omega)], ⟨fun a => ?_, ?_, ?_, fun a ha => ?_⟩⟩
  · simp only
    rw [tfind_tset hw.ris]
    by_cases e : a = i
    · rw [if_pos e]; simp [e]
    · rw [if_neg e, h.mem a]; simp [e]
  · simp only
    rw [tset_length hw.ris, tdel_not (tfind_none hf), hlen]; simp
  · exact ord_append (T := S.t) h.ord (fun a ha => by rw [usedOf_tset hw.ris, if_neg (fun e => hn (by rw [← e]; exact ha))]) (by rw [usedOf_tset hw.ris, if_pos rfl]) (fun a ha => by have := (h.top a ha).2; show usedOf S.t a < i; omega)
  · simp only
    rw [usedOf_tset hw.ris]
    rcases List.mem_append.1 ha with ha | ha
    · have := h.top a ha
      rw [if_neg (fun e => hn (by rw [← e]; exact ha))]
      omega
    · simp at ha; subst ha
      rw [if_pos rfl]; exact ⟨Int.le_refl _, Int.le_refl _⟩
/-- one is used -/
theorem LInv.used {S : SS} {A B : List Int} {t i j : Int} (h : LInv S (A ++ j :: B) t) (hw : SWf S) (hi : t < i) (hi1 : 1 ≤ i ∧ i ≤ 1099511627776) :
    ∃ T, S.use j i = (true, ⟨S.most, T⟩) ∧ LInv ⟨S.most, T⟩ (A ++ B ++ [j]) i := by
  obtain ⟨x, hx⟩ := Option.isSome_iff_exists.1 ((h.mem j).2 (by simp))
  have hju : usedOf S.t j = x.used := by unfold usedOf; rw [hx]
  have hjt := (h.top j (by simp)).2
  have hm : max x.used (min i 1099511627776) = i := by omega
  refine ⟨tset S.t j { x with used := i }, by unfold SS.use; rw [hx]; simp only [hm], ?_⟩
  have hsub : (A ++ B).Sublist (A ++ j :: B) := List.Sublist.append (List.Sublist.refl _) (List.sublist_cons_self ..)
  have hp := h.ord.sublist hsub
  have hj : j ∉ A ++ B := fun hm => by
    have h1 := List.pairwise_append.1 h.ord
    rcases List.mem_append.1 hm with ha | hb
    · have := h1.2.2 j ha j (by simp); omega
    · have := (List.pairwise_cons.1 h1.2.1).1 j hb; omega
  have hlen := h.len
  refine ⟨fun b => ?_, ?_, ?_, fun b hb => ?_⟩
  · simp only
    rw [tfind_tset hw.ris]
    by_cases e : b = j
    · rw [if_pos e]; simp [e]
    · rw [if_neg e, h.mem b]; simp [e]
  · simp only
    have h1 := tdel_length hw.ris hx
    rw [tset_length hw.ris]
    simp at hlen ⊢
    omega
  · exact ord_append (T := S.t) hp (fun b hb => by rw [usedOf_tset hw.ris, if_neg (fun e => hj (by rw [← e]; exact hb))]) (by rw [usedOf_tset hw.ris, if_pos rfl]) (fun b hb => by have := (h.top b (hsub.subset hb)).2; show usedOf S.t b < i; omega)
  · simp only
    rw [usedOf_tset hw.ris]
    rcases List.mem_append.1 hb with hb | hb
    · have := h.top b (hsub.subset hb)
      rw [if_neg (fun e => hj (by rw [← e]; exact hb))]
      omega
    · simp at hb; subst hb
      rw [if_pos rfl]
      have := h.top b (by simp)
      simp only
      omega
end Go.Proofs.YtnjhdbgejhnpfaaDoor
end

section
namespace Go.Proofs.YtnjhdbgejhnpfaaDoor
set_option linter.unusedVariables false
open Go.RowKit

/-- a plan: quiet operations, then one that is left, or one of two -/
inductive Plan where
  | done (l : List Nat)
  | one (l : List Nat) (c : Nat) (p : Plan)
  | two (l : List Nat) (c : Nat) (p : Plan) (d : Nat) (q : Plan)
def Plan.size : Plan → Nat
  | .done l => l.length
  | .one l _ p => l.length + 1 + p.size
  | .two l _ p _ _ => l.length + 1 + p.size
def planC (md : Region.Mode) (ops : Array Oper) : Plan → Array Bool → Bool
  | .done l, L => match takeC md ops l L with | some L' => (Region.ready md ops L').isEmpty | none => false
  | .one l c p, L => match takeC md ops l L with | some L' => Region.ready md ops L' == [c] && (ops[c]?).isSome && planC md ops p (L'.setIfInBounds c true) | none => false
  | .two l c p d q, L => match takeC md ops l L with
    | some L' => Region.ready md ops L' == [c, d] && (ops[c]?).isSome && (ops[d]?).isSome && Nat.beq p.size q.size && planC md ops p (L'.setIfInBounds c true) && planC md ops q (L'.setIfInBounds d true)
    | none => false
def vplan (P : Program) (S : World → Prop) (ops : List Oper) (K : Env → World → Prop) : Plan → Env → World → Prop
  | .done l, σ, w => vquiet P S ops (fun σ' => K σ' w) (picks ops l) σ
  | .one l c p, σ, w => vquiet P S ops (fun σ' => vone P S ops (fun σ2 w2 => vplan P S ops K p σ2 w2) (nthOp ops c) σ' w) (picks ops l) σ
  | .two l c p d q, σ, w => vquiet P S ops (fun σ' => vone P S ops (fun σ2 w2 => vplan P S ops K p σ2 w2) (nthOp ops c) σ' w ∧ vone P S ops (fun σ2 w2 => vplan P S ops K q σ2 w2) (nthOp ops d) σ' w) (picks ops l) σ
theorem plan_sound {P : Program} {n : Nat} {ds : List Deferred} {ops : List Oper} {md : Region.Mode} {Q : Exit → Act → World → Prop} {S : World → Prop} {K : Env → World → Prop} {D : List Nat} {σ0 : Env} (hdst : ∀ o ∈ ops, ∀ t, o.dst = some t → t < n ∧ t ∈ D) (hs : Region.noSelect ops.toArray = true)
    (hQ : ∀ c a a' w, Q (.panic c) a w → Q (.panic c) a' w) (hK : ∀ a σ w, Agr n ds a σ → Fr D σ σ0 → K σ w → Q .normal a w) :
    ∀ (pl : Plan) (L : Array Bool) (a : Act) (σ : Env) (w : World), S w → planC md ops.toArray pl L = true → Agr n ds a σ → Fr D σ σ0 → vplan P S ops K pl σ w → wpAnyH P md ops.toArray Q S pl.size L a w := by
  have one : ∀ (i : Nat) (p : Plan) (L : Array Bool) (a : Act) (σ : Env) (w : World), S w → Agr n ds a σ → Fr D σ σ0 →
      (∀ (a : Act) (σ : Env) (w : World), S w → Agr n ds a σ → Fr D σ σ0 → vplan P S ops K p σ w → wpAnyH P md ops.toArray Q S p.size (L.setIfInBounds i true) a w) →
      vone P S ops (fun σ2 w2 => vplan P S ops K p σ2 w2) (nthOp ops i) σ w → wpOp P ops.toArray Q i (fun a' w' => S w' ∧ wpAnyH P md ops.toArray Q S p.size (L.setIfInBounds i true) a' w') a w := by
    intro i p L a σ w hS hA hF ih ha
    rw [nthOp_eq] at ha
    cases ho : ops[i]? with
    | none => rw [ho] at ha; exact ha.elim
    | some o =>
      rw [ho] at ha
      simp only [vone] at ha
      have hm : o ∈ ops := List.mem_of_getElem? ho
      unfold wpOp
      rw [show ops.toArray[i]? = some o from by simpa using ho]
      simp only
      rcases vguard_sound hA ha with ⟨k1, k2⟩ | ⟨k1, k2⟩
      · rw [if_pos k1]
        exact .inl (vop_sound hA k2 fun v w' hk => ⟨hk.keep, ih _ _ w' hk.keep (hA.put (fun t ht => (hdst o hm t ht).1) v) (hF.put (fun t ht => (hdst o hm t ht).2) v) hk.rest⟩)
      · rw [if_neg (by rw [k1]; simp)]
        exact ⟨hS, ih _ _ w hS (hA.put (fun t ht => (hdst o hm t ht).1) undef) (hF.put (fun t ht => (hdst o hm t ht).2) undef) k2⟩
  intro pl
  induction pl with
  | done l =>
    intro L a σ w hS hB hA hF h
    unfold planC at hB
    cases hT : takeC md ops.toArray l L with
    | none => rw [hT] at hB; cases hB
    | some L' =>
      rw [hT] at hB
      simp only [List.isEmpty_iff] at hB
      have := quiet_take (md := md) (fuel := 0) (Q := Q) hdst hs hQ hS (K := fun σ' => K σ' w) (fun a σ hA hF hk => wpAnyH_done hB (hK a σ w hA hF hk) 0) l L a σ hT hA hF h
      simpa [Plan.size] using this
  | one l c p ih =>
    intro L a σ w hS hB hA hF h
    unfold planC at hB
    cases hT : takeC md ops.toArray l L with
    | none => rw [hT] at hB; cases hB
    | some L' =>
      rw [hT] at hB
      simp only [Bool.and_eq_true, beq_iff_eq] at hB
      obtain ⟨⟨h1, h2⟩, h3⟩ := hB
      unfold vplan at h
      have := quiet_take (md := md) (fuel := p.size + 1) (Q := Q) hdst hs hQ hS (fun a σ' hA hF ha => ?_) l L a σ hT hA hF h
      · rw [show (Plan.one l c p).size = p.size + 1 + l.length from by simp [Plan.size]; omega]
        exact this
      · refine wpAnyH_all h1 (by simp) (fun i hi => ?_)
        simp only [List.mem_singleton] at hi
        subst hi
        exact one i p L' a σ' w hS hA hF (fun a σ w hS hA hF hv => ih _ a σ w hS h3 hA hF hv) ha
  | two l c p d q ihp ihq =>
    intro L a σ w hS hB hA hF h
    unfold planC at hB
    cases hT : takeC md ops.toArray l L with
    | none => rw [hT] at hB; cases hB
    | some L' =>
      rw [hT] at hB
      simp only [Bool.and_eq_true, beq_iff_eq] at hB
      obtain ⟨⟨⟨⟨⟨h1, h2⟩, h3⟩, h4⟩, h5⟩, h6⟩ := hB
      have hpq := Nat.eq_of_beq_eq_true h4
      unfold vplan at h
      have := quiet_take (md := md) (fuel := p.size + 1) (Q := Q) hdst hs hQ hS (fun a σ' hA hF ha => ?_) l L a σ hT hA hF h
      · rw [show (Plan.two l c p d q).size = p.size + 1 + l.length from by simp [Plan.size]; omega]
        exact this
      · refine wpAnyH_all h1 (by simp) (fun i hi => ?_)
        simp only [List.mem_cons, List.not_mem_nil, or_false] at hi
        rcases hi with rfl | rfl
        · exact one i p L' a σ' w hS hA hF (fun a σ w hS hA hF hv => ihp _ a σ w hS h5 hA hF hv) ha.1
        · have := one i q L' a σ' w hS hA hF (fun a σ w hS hA hF hv => ihq _ a σ w hS h6 hA hF hv) ha.2
          rw [← hpq] at this
          exact this
def planB (n : Nat) (ops : List Oper) (pl : Plan) : Bool :=
  Region.noSelect ops.toArray && planC .any ops.toArray pl (Array.replicate ops.length false) && Nat.beq pl.size ops.length && ops.all fun o => match o.dst with | some d => Nat.blt d n | none => true
structure VP (P : Program) (S : World → Prop) (ops : List Oper) (K : Env → World → Prop) (pl : Plan) (σ : Env) (w : World) : Prop where
  out : vplan P S ops K pl σ w
theorem VP_fun (P : Program) (S : World → Prop) (ops : List Oper) (K : Env → World → Prop) (pl : Plan) : VP P S ops K pl = vplan P S ops K pl := by funext σ w; exact propext ⟨fun h => h.out, fun h => ⟨h⟩⟩
section
variable {P : Program} {S : World → Prop} {ops : List Oper} {K : Env → World → Prop} {l : List Nat} {c d : Nat} {p q : Plan} {σ : Env} {w : World}
theorem VP.done (h : VQ P S ops (fun σ' => K σ' w) (picks ops l) σ) : VP P S ops K (.done l) σ w := ⟨h.out⟩
theorem VP.one (h : VQ P S ops (fun σ' => vone P S ops (fun σ2 w2 => VP P S ops K p σ2 w2) (nthOp ops c) σ' w) (picks ops l) σ) : VP P S ops K (.one l c p) σ w := by
  refine ⟨?_⟩
  have h := h.out
  simp only [VP_fun] at h
  exact h
theorem VP.two (h : VQ P S ops (fun σ' => And (vone P S ops (fun σ2 w2 => VP P S ops K p σ2 w2) (nthOp ops c) σ' w) (vone P S ops (fun σ2 w2 => VP P S ops K q σ2 w2) (nthOp ops d) σ' w)) (picks ops l) σ) : VP P S ops K (.two l c p d q) σ w := by
  refine ⟨?_⟩
  have h := h.out
  simp only [VP_fun] at h
  exact h
end
theorem VDraw.plan {P : Program} {n : Nat} {ops : List Oper} {Q : Post} {σ : Env} {w : World} (S : World → Prop) (pl : Plan) (hm : P.follows .mixedOrders = true) (hB : planB n ops pl = true)
    (hS : S (w.drewN 1)) (h : VP P S ops (Q .normal) pl σ (w.drewN 1)) : VDraw P n ops Q σ w := by
  replace h := h.out
  unfold planB at hB
  simp only [Bool.and_eq_true] at hB
  obtain ⟨⟨⟨h1, h2⟩, h3⟩, h4⟩ := hB
  simp only [VDraw_eq]
  intro ds a id hA
  refine wp_region_held (S := S) hm ?_
  have hlen := Nat.eq_of_beq_eq_true h3
  have hdst : ∀ o ∈ ops, ∀ t, o.dst = some t → t < n ∧ t ∈ dsts ops := fun o ho t ht => ⟨by
    have := List.all_eq_true.1 h4 o ho
    rw [ht] at this
    exact Nat.blt_eq ▸ this, mem_dsts ho ht⟩
  have := plan_sound (ds := ds) (Q := Lift n ds Q (dsts ops) σ) (K := Q .normal) hdst h1 (fun c a a' w h => h) (fun a σ' w hA hF hk => ⟨σ', hA, hF, hk⟩) pl _ a σ _ hS h2 hA (Fr.refl _ _) h
  rw [hlen] at this
  have e : ops.toArray.size = ops.length := by simp
  rw [e]
  exact this
end Go.Proofs.YtnjhdbgejhnpfaaDoor
end

section
set_option maxRecDepth 10000
namespace Go.Proofs.YtnjhdbgejhnpfaaDoor
set_option linter.unusedVariables false
open Go.RowKit
open Go.Maps (Keyed)
open Go.ChangeMaps Go.WideElems

theorem place_any (v n : Int) (w : World) (hv : -9223372036854775808 ≤ v ∧ v ≤ 9223372036854775807) (h0 : 1 ≤ n) (hn : n ≤ 4611686018427387904) :
    Calls Tryd.prog 13 #[.int .i64 v, .int .i64 n] w fun e w' => e = .returned (.int .i64 (v % n)) ∧ w' = w := by
  have t1 : -n < v.tmod n := Int.lt_tmod_of_pos v (by omega)
  have t2 : v.tmod n < n := Int.tmod_lt_of_pos v (by omega)
  have t3 : v.tmod n < 0 → v % n = v.tmod n + n := fun h => by
    rw [Int.tmod_eq_emod] at h ⊢
    split at h <;> rename_i hc
    · have := Int.emod_nonneg v (show n ≠ 0 by omega); omega
    · rw [if_neg hc]; omega
  have t4 : 0 ≤ v.tmod n → v % n = v.tmod n := fun h => by
    have hn' := Int.emod_lt_of_pos v (show 0 < n by omega)
    rw [Int.tmod_eq_emod] at h ⊢
    split at h <;> rename_i hc
    · rw [if_pos hc]; omega
    · omega
  refine calls_vc Tryd.func13 rfl (by kernel_rfl) ?_
  ((conv => whnf); (repeat ((first | (refine VL.cons ?_) | (refine VL.nil ?_) | (refine VC.seqS rfl ?_) | (refine VC.region ?_)); (conv => whnf))))
  refine VRead.remT (by omega) ?_
  generalize v.tmod n = r at *
  by_cases hr : r < 0
  · have e := t3 hr
    clear t3 t4
    ((conv => whnf); (repeat ((first | (refine VL.cons ?_) | (refine VL.nil ?_)); (conv => whnf))))
    ((repeat ((first | (refine VL.cons ?_) | (refine VL.nil ?_) | (refine VC.seqS rfl ?_) | (refine VC.region ?_) | (refine VC.cond ?_) | (refine VC.ret ?_) | (refine VBool.dT (by omega) ?_) | (refine VWrap.i64 (by omega) (by omega) ?_) | (refine VC.seq ?_)); (conv => whnf))))
    exact ⟨by rw [e]; rfl, rfl⟩
  · have e := t4 (by omega)
    clear t3 t4
    ((conv => whnf); (repeat ((first | (refine VL.cons ?_) | (refine VL.nil ?_)); (conv => whnf))))
    ((repeat ((first | (refine VL.cons ?_) | (refine VL.nil ?_) | (refine VC.seqS rfl ?_) | (refine VC.region ?_) | (refine VC.cond ?_) | (refine VC.ret ?_) | (refine VC.skip ?_) | (refine VBool.dF (by omega) ?_) | (refine VC.seq ?_)); (conv => whnf))))
    exact ⟨by rw [e]; rfl, rfl⟩
theorem sameInts_any (A B : Option Addr) (n c m k : Nat) (l l2 : List Int) (w : World) (h1 : Reads w w.heap.size 1 A n (iv .i64 l)) (h2 : Reads w w.heap.size 1 B m (iv .i64 l2)) (hn : n ≤ 1000000000) :
    Calls Tryd.prog 11 #[.slice A n c, .slice B m k] w fun e w' => e = .returned (.bool (decide (l = l2))) ∧ Below w.heap.size w w' := by
  have hl : l.length = n := by have := h1.1; unfold iv at this; simp at this; omega
  have hl2 : l2.length = m := by have := h2.1; unfold iv at this; simp at this; omega
  refine calls_vc Tryd.func11 rfl (by kernel_rfl) ?_
  by_cases hnm : n = m
  case neg =>
    rw [decide_eq_false (p := l = l2) (fun e => hnm (by rw [← hl, ← hl2, e]))]
    ((conv => whnf); (repeat ((first | (refine VL.cons ?_) | (refine VL.nil ?_) | (refine VC.seqS rfl ?_) | (refine VC.region ?_)); (conv => whnf))))
    ((repeat ((first | (refine VL.cons ?_) | (refine VL.nil ?_) | (refine VC.seqS rfl ?_) | (refine VC.region ?_) | (refine VC.cond ?_) | (refine VC.ret ?_) | (refine VBool.nF (by omega) ?_) | (refine VRead.lenS ?_) | (refine VC.seq ?_)); (conv => whnf))))
    exact ⟨rfl, Below.refl _ _⟩
  subst hnm
  ((conv => whnf); (repeat ((first | (refine VL.cons ?_) | (refine VL.nil ?_) | (refine VC.seqS rfl ?_) | (refine VC.region ?_)); (conv => whnf))))
  ((repeat ((first | (refine VL.cons ?_) | (refine VL.nil ?_) | (refine VC.seqS rfl ?_) | (refine VC.region ?_) | (refine VC.cond ?_) | (refine VC.block ?_) | (refine VC.skip ?_) | (refine VBool.nT (by omega) ?_) | (refine VRead.lenS ?_) | (refine VC.seq ?_)); (conv => whnf))))
  refine VC.loop [5] [(4, 5), (11, 25)] (fun q vs W => ∃ i : Nat, vs = [.int .i64 (i : Int)] ∧ q = n - i ∧ i ≤ n ∧ l.take i = l2.take i ∧ ∃ N, W = w.drewN N) (by kernel_rfl) ⟨_, 0, rfl, rfl, by omega, by simp, 0, rfl⟩ ?_
  rintro q τ vs W ⟨i, rfl, rfl, hi, heq, N, rfl⟩
  have hB : Below w.heap.size w (w.drewN N) := below_drewN (Below.refl _ _) N
  by_cases hlt : i < n
  · obtain ⟨a1, u1, rfl, _, hu1, hc1⟩ := h1.at_ hlt
    obtain ⟨a2, u2, rfl, _, hu2, hc2⟩ := h2.at_ hlt
    unfold iv at hu1 hu2
    obtain ⟨x, hx, rfl⟩ := map_at hu1
    obtain ⟨y, hy, rfl⟩ := map_at hu2
    have hc1' : ((w.drewN N).drewN 1).cell? (a1.add i) = some (.int .i64 x) := hc1
    have hc2' : ((w.drewN N).drewN 1).cell? (a2.add i) = some (.int .i64 y) := hc2
    by_cases hxy : x = y
    · subst hxy
      ((conv => whnf); (repeat ((fail); (conv => whnf))))
      ((repeat ((first | (refine VL.cons ?_) | (refine VL.nil ?_) | (refine VC.seqS rfl ?_) | (refine VC.region ?_) | (refine VC.draw ?_) | (refine VC.cond ?_) | (refine VC.block ?_) | (refine VC.skip ?_) | (refine VBool.dT (by omega) ?_) | (refine VRead.lenS ?_) | (refine VC.seq ?_)); (conv => whnf))))
      (refine VDraw.seg (Eq (World.drewN _ 1)) [] [0, 1, 2, 3, 4, 5, 6, 7, 8] (by kernel_rfl) (by kernel_rfl) rfl ?_; (conv => whnf))
      ((repeat ((first | (refine VL.cons ?_) | (refine VL.nil ?_) | (refine VC.region ?_) | (refine VC.cond ?_) | (refine VC.skip ?_) | (refine VQ.cons ?_) | (refine VQ.nil ?_) | (refine VG.nil ?_) | (refine VBool.nT (by omega) ?_) | (refine VRead.load1 (by assumption) ?_) | (refine VWrap.i64 (by omega) (by omega) ?_) | (refine VRead.at1 (by omega) ?_)); (conv => whnf))))
      exact ⟨_, by omega, i + 1, rfl, rfl, by omega, by rw [take_snoc hx, take_snoc hy, heq], N + 1, rfl⟩
    · rw [decide_eq_false (p := l = l2) (fun e => hxy (by rw [e, hy] at hx; exact (Option.some.inj hx).symm))]
      ((conv => whnf); (repeat ((fail); (conv => whnf))))
      ((repeat ((first | (refine VL.cons ?_) | (refine VL.nil ?_) | (refine VC.seqS rfl ?_) | (refine VC.region ?_) | (refine VC.draw ?_) | (refine VC.cond ?_) | (refine VC.block ?_) | (refine VC.skip ?_) | (refine VBool.dT (by omega) ?_) | (refine VRead.lenS ?_) | (refine VC.seq ?_)); (conv => whnf))))
      (refine VDraw.seg (Eq (World.drewN _ 1)) [] [0, 1, 2, 3, 4, 5, 6, 7, 8] (by kernel_rfl) (by kernel_rfl) rfl ?_; (conv => whnf))
      ((repeat ((first | (refine VL.cons ?_) | (refine VL.nil ?_) | (refine VC.seqS rfl ?_) | (refine VC.region ?_) | (refine VC.cond ?_) | (refine VC.ret ?_) | (refine VQ.cons ?_) | (refine VQ.nil ?_) | (refine VG.nil ?_) | (refine VBool.nF (by omega) ?_) | (refine VRead.load1 (by assumption) ?_) | (refine VRead.at1 (by omega) ?_)); (conv => whnf))))
      exact ⟨rfl, below_drewN hB 1⟩
  · obtain rfl : i = n := by omega
    rw [List.take_of_length_le (by omega), List.take_of_length_le (by omega)] at heq
    rw [decide_eq_true (p := l = l2) heq]
    ((conv => whnf); (repeat ((fail); (conv => whnf))))
    ((repeat ((first | (refine VL.cons ?_) | (refine VL.nil ?_) | (refine VC.seqS rfl ?_) | (refine VC.region ?_) | (refine VC.cond ?_) | (refine VC.exit ?_) | (refine VC.ret ?_) | (refine VBool.dF (by omega) ?_) | (refine VRead.lenS ?_) | (refine VC.seq ?_)); (conv => whnf))))
    exact ⟨rfl, hB⟩
def aws1 : SS := ⟨2, [(3, fresh 3)]⟩
def aws2 : SS := ⟨2, [(3, fresh 3), (5, fresh 5)]⟩
def aws3 : SS := ⟨2, [(3, ⟨9, 0, Rp.zero⟩), (5, fresh 5)]⟩
def aws4 : SS := ⟨2, [(3, ⟨9, 0, Rp.zero⟩), (11, fresh 11)]⟩
theorem aws1_eq : (SS.new 2).open 3 = ((0, true), aws1) := by rfl
theorem aws2_eq : aws1.open 5 = ((0, true), aws2) := by rfl
theorem aws3_eq : aws2.use 3 9 = (true, aws3) := by rfl
theorem aws4_eq : aws3.open 11 = ((5, true), aws4) := by rfl
set_option maxHeartbeats 1000000 in
theorem awake15_any (W : World) : Calls Tryd.prog 6 #[] W fun e W' => e = .returned (.bool true) ∧ Below W.heap.size W W' := by
  refine calls_vc Tryd.func6 rfl (by kernel_rfl) ?_
  ((conv => whnf); (repeat ((first | (refine VL.cons ?_) | (refine VL.nil ?_) | (refine VC.seqS rfl ?_) | (refine VC.region ?_)); (conv => whnf))))
  ((repeat ((fail); (conv => whnf))))
  refine VCall.of (sNew_any W 2) ?_
  rintro e W1 ⟨d, rfl, h1, hB1⟩
  refine ⟨_, rfl, ?_⟩
  ((conv => whnf); (repeat ((first | (refine VL.cons ?_) | (refine VL.nil ?_)); (conv => whnf))))
  ((repeat ((first | (refine VL.cons ?_) | (refine VL.nil ?_) | (refine VC.seqS rfl ?_) | (refine VC.region ?_) | (refine VC.cond ?_) | (refine VC.skip ?_) | (refine VBool.f ?_) | (refine VRead.eqPN ?_) | (refine VC.seq ?_)); (conv => whnf))))
  refine VCall.of (sOpen_any W1 _ d 0 _ 3 h1 (by decide) (by decide)) ?_
  rw [aws1_eq]
  rintro e W2 ⟨rfl, h2, hO2⟩
  refine ⟨_, rfl, ?_⟩
  have hB2 := hB1.trans (hO2.from hB1.size)
  ((conv => whnf); (repeat ((first | (refine VL.cons ?_) | (refine VL.nil ?_) | (refine VC.seqS rfl ?_) | (refine VC.region ?_)); (conv => whnf))))
  ((repeat ((fail); (conv => whnf))))
  refine VCall.of (sOpen_any W2 _ d 1 _ 5 h2 (by decide) (by decide)) ?_
  rw [aws2_eq]
  rintro e W3 ⟨rfl, h3, hO3⟩
  refine ⟨_, rfl, ?_⟩
  have hB3 := hB2.trans (hO3.from hB2.size)
  ((conv => whnf); (repeat ((first | (refine VL.cons ?_) | (refine VL.nil ?_) | (refine VC.seqS rfl ?_) | (refine VC.region ?_)); (conv => whnf))))
  ((repeat ((fail); (conv => whnf))))
  refine VCall.of (sUse_any W3 _ d 2 _ 3 9 h3 (by decide) (by decide)) ?_
  rw [aws3_eq]
  rintro e W4 ⟨rfl, h4, hO4⟩
  refine ⟨_, rfl, ?_⟩
  have hB4 := hB3.trans (hO4.from hB3.size)
  ((conv => whnf); (repeat ((first | (refine VL.cons ?_) | (refine VL.nil ?_) | (refine VC.seqS rfl ?_) | (refine VC.region ?_)); (conv => whnf))))
  ((repeat ((fail); (conv => whnf))))
  refine VCall.of (sOpen_any W4 _ d 3 _ 11 h4 (by decide) (by decide)) ?_
  rw [aws4_eq]
  rintro e W5 ⟨rfl, h5, hO5⟩
  refine ⟨_, rfl, ?_⟩
  have hB5 := hB4.trans (hO5.from hB4.size)
  ((conv => whnf); (repeat ((first | (refine VL.cons ?_) | (refine VL.nil ?_) | (refine VC.seqS rfl ?_) | (refine VC.region ?_)); (conv => whnf))))
  ((repeat ((first | (refine VL.cons ?_) | (refine VBool.t ?_)); (conv => whnf))))
  refine VCall.of (sIDs_any W5 _ d 4 _ h5) ?_
  rintro e W6 ⟨A6, k6, rfl, hO6, hb6⟩
  refine ⟨_, rfl, ?_⟩
  have hB6 := hB5.trans (hb6.mono hB5.size)
  ((conv => whnf); (repeat ((first | (refine VL.cons ?_)); (conv => whnf))))
  ((repeat ((first | (refine VBool.t ?_)); (conv => whnf))))
  refine VSem.buildR (ps := [(0, .int .i64 3), (1, .int .i64 11)]) rfl rfl (by simp [Value.oneCell']) (by omega) ?_
  intro W7 hO7 hB7 hz7
  have hB07 := hB6.trans (hB7.mono hB6.size)
  have hr6 := Reads.row (rows_below hO6 hB7 (Nat.le_refl _))
  ((conv => whnf); (repeat ((first | (refine VL.cons ?_)); (conv => whnf))))
  ((repeat ((first | (refine VBool.t ?_)); (conv => whnf))))
  refine VCall.of (sameInts_any A6 _ 2 k6 2 2 [3, 11] [3, 11] W7 hr6 (Reads.row hO7) (by decide)) ?_
  rintro e W8 ⟨rfl, hB8⟩
  refine ⟨_, rfl, ?_⟩
  ((conv => whnf); (repeat ((first | (refine VL.cons ?_) | (refine VL.nil ?_) | (refine VC.ret ?_)); (conv => whnf))))
  ((repeat ((fail); (conv => whnf))))
  exact ⟨rfl, hB07.trans (hB8.mono hB07.size)⟩
end Go.Proofs.YtnjhdbgejhnpfaaDoor
end

section
set_option maxRecDepth 10000
namespace Go.Proofs.YtnjhdbgejhnpfaaDoor
set_option linter.unusedVariables false
open Go.RowKit
open Go.Maps (Keyed)
open Go.ChangeMaps Go.WideElems

theorem part_cell {W : World} {t : TypeId} {cs : Array Value} {o : Nat} {v : Value} [c : TCell Tryd.prog t] (hv : cs[o]? = some v) : (part t cs o).run Tryd.prog W = .ok v W := by
  unfold Go.part
  simp [asAgg, run_isAgg_cell c.c, hv]
theorem part_agg {W : World} {t k : Nat} {cs : Array Value} {o : Nat} [a : TAgg Tryd.prog t k] : (part t cs o).run Tryd.prog W = .ok (.agg (cs.extract o (o + k))) W := by
  unfold Go.part
  simp [run_isAgg_agg a, run_size a.s]
theorem eq_fields (W : World) (r : Rp) : (Op.equalIn 10000 34 (.agg (rpC r)) (.agg (rpC r))).run Tryd.prog W = .ok true W := by
  have hp : Tryd.prog.stoodInHeld 34 = false := by kernel_rfl
  have hp2 : Tryd.prog.stoodInHeld 32 = false := by kernel_rfl
  have ht : Tryd.prog.underlying 34 = some (.struct (Tryd.prog.fieldsOf 34)) := by unfold Program.fieldsOf; rw [Tryd.underlying34]
  have ht2 : Tryd.prog.underlying 32 = some (.struct (Tryd.prog.fieldsOf 32)) := by unfold Program.fieldsOf; rw [Tryd.underlying32]
  rw [run_equalIn_agg _ _ _ _ _ ht hp]
  unfold Program.fieldsOf
  rw [Tryd.underlying34]
  simp only [Op.eqFields]
  have e3 : (rpC r).extract 2 (2 + 3) = #[.int .i64 r.kind, .int .i64 r.vn, .string (txt r.s)] := rfl
  simp only [Sem.run_ite, Sem.run_bind, ne_eq, reduceCtorEq, String.reduceEq, not_false_eq_true, if_true, not_true_eq_false, if_false]
  rw [part_cell (t := 30) (cs := rpC r) (o := 0) (v := .int .i64 r.err) rfl]
  simp only [Result.andThen_ok]
  rw [part_cell (t := 30) (cs := rpC r) (o := 0) (v := .int .i64 r.err) rfl]
  simp only [Result.andThen_ok]
  rw [run_equalIn_int _ _ _ _ .i64 _ _ Tryd.underlying30]
  simp only [Result.andThen_ok, beq_self_eq_true, Bool.not_true, Bool.false_eq_true, if_false]
  rw [part_cell (t := 3) (cs := rpC r) (o := 1) (v := .int .i64 r.n) rfl]
  simp only [Result.andThen_ok]
  rw [part_cell (t := 3) (cs := rpC r) (o := 1) (v := .int .i64 r.n) rfl]
  simp only [Result.andThen_ok]
  rw [run_equalIn_int _ _ _ _ .i64 _ _ Tryd.underlying3]
  simp only [Result.andThen_ok, beq_self_eq_true, Bool.not_true, Bool.false_eq_true, if_false]
  rw [part_agg (t := 32) (cs := rpC r) (o := 2), e3]
  simp only [Result.andThen_ok]
  rw [part_agg (t := 32) (cs := rpC r) (o := 2), e3]
  simp only [Result.andThen_ok]
  rw [run_equalIn_agg _ _ _ _ _ ht2 hp2]
  unfold Program.fieldsOf
  rw [Tryd.underlying32]
  simp only [Op.eqFields]
  simp only [Sem.run_ite, Sem.run_bind, ne_eq, reduceCtorEq, String.reduceEq, not_false_eq_true, if_true, not_true_eq_false, if_false]
  rw [part_cell (t := 3) (cs := #[.int .i64 r.kind, .int .i64 r.vn, .string (txt r.s)]) (o := 0) (v := .int .i64 r.kind) rfl]
  simp only [Result.andThen_ok]
  rw [part_cell (t := 3) (cs := #[.int .i64 r.kind, .int .i64 r.vn, .string (txt r.s)]) (o := 0) (v := .int .i64 r.kind) rfl]
  simp only [Result.andThen_ok]
  rw [run_equalIn_int _ _ _ _ .i64 _ _ Tryd.underlying3]
  simp only [Result.andThen_ok, beq_self_eq_true, Bool.not_true, Bool.false_eq_true, if_false]
  rw [part_cell (t := 2) (cs := #[.int .i64 r.kind, .int .i64 r.vn, .string (txt r.s)]) (o := 1) (v := .int .i64 r.vn) rfl]
  simp only [Result.andThen_ok]
  rw [part_cell (t := 2) (cs := #[.int .i64 r.kind, .int .i64 r.vn, .string (txt r.s)]) (o := 1) (v := .int .i64 r.vn) rfl]
  simp only [Result.andThen_ok]
  rw [run_equalIn_int _ _ _ _ .i64 _ _ Tryd.underlying2]
  simp only [Result.andThen_ok, beq_self_eq_true, Bool.not_true, Bool.false_eq_true, if_false]
  rw [part_cell (t := 9) (cs := #[.int .i64 r.kind, .int .i64 r.vn, .string (txt r.s)]) (o := 2) (v := .string (txt r.s)) rfl]
  simp only [Result.andThen_ok]
  rw [part_cell (t := 9) (cs := #[.int .i64 r.kind, .int .i64 r.vn, .string (txt r.s)]) (o := 2) (v := .string (txt r.s)) rfl]
  simp only [Result.andThen_ok]
  rw [run_equalIn_string _ _ _ _ _ Tryd.underlying9]
  simp only [Result.andThen_ok, beq_self_eq_true, Bool.not_true, Bool.false_eq_true, if_false]
  rfl
theorem VRead.eqR {S : World → Prop} {x y : Operand} {r : Rp} {K : Value → Prop} (hk : K (.bool true)) :
    VRead Tryd.prog S (do eqGuard .eql 34 x y (.agg (rpC r)) (.agg (rpC r)); binOp .eql 34 (.agg (rpC r)) (.agg (rpC r))) K :=
  .ofW (fun W => by rw [Sem.run_bind, run_eqGuard_agg _ _ _ _ _ _ _ (by kernel_rfl)]; simp only [Result.andThen_ok]; rw [run_eql_struct, eq_fields]; rfl) hk
theorem VRead.neR {S : World → Prop} {x y : Operand} {r : Rp} {K : Value → Prop} (hk : K (.bool false)) :
    VRead Tryd.prog S (do eqGuard .neq 34 x y (.agg (rpC r)) (.agg (rpC r)); binOp .neq 34 (.agg (rpC r)) (.agg (rpC r))) K :=
  .ofW (fun W => by rw [Sem.run_bind, run_eqGuard_agg _ _ _ _ _ _ _ (by kernel_rfl)]; simp only [Result.andThen_ok]; rw [run_neq_struct, eq_fields]; rfl) hk
/-! ### parts of structs in memory -/
theorem run_load_list {P : Program} {W : World} {t k : Nat} {p : Addr} {cs : List Value} (a : TAgg P t k) (hc : ∀ j v, cs[j]? = some v → W.cell? (p.add j) = some v) (hs : cs.length = k) : (Instr.loadAt t (.pointer (some p))).run P W = .ok (.agg cs.toArray) W := by
  have hl : (loadCells p k).run P W = .ok cs.toArray W := by
    have := run_loadCells_list (P := P) W p cs hc
    rw [hs] at this
    exact this
  unfold Instr.loadAt Instr.sureAddr loadVar
  simp [run_isAgg_agg a, run_size a.s, hl]
theorem add_plain (g i j : Nat) : (⟨g, i, none⟩ : Addr).add j = ⟨g, i + j, none⟩ := by unfold Addr.add; split <;> simp_all
theorem VRead.loadABi {P : Program} {S : World → Prop} {t T g k : Nat} {p : Addr} {cs vs : Array Value} {K : Value → Prop} (i : Nat) [a : TAgg P t k] (hb : ∀ W, S W → Blk W g T cs) (hp : p = ⟨g, i, none⟩) (hs : Nat.beq vs.size k = true) (hv : ∀ j, j < vs.size → cs[i + j]? = vs[j]?) (hk : K (.agg vs)) :
    VRead P S (Instr.loadAt t (.pointer (some p))) K := by
  subst hp
  refine .of (v := .agg vs) (fun W hW => ?_) hk
  have := run_load_list (W := W) (p := ⟨g, i, none⟩) (cs := vs.toList) a (fun j v hj => ?_) (by rw [Array.length_toList]; exact Nat.eq_of_beq_eq_true hs)
  · simpa using this
  · have hj' : vs[j]? = some v := by simpa using hj
    have hlt : j < vs.size := (Array.getElem?_eq_some_iff.1 hj').1
    rw [add_plain, (hb W hW).cell (i + j), hv j hlt, hj']
theorem VUnit.storeABi {P : Program} {w : World} {t T g k : Nat} {p : Addr} {cs vs : Array Value} {K : World → Prop} (i : Nat) [a : TAgg P t k] (hb : Blk w g T cs) (hp : p = ⟨g, i, none⟩) (hs : Nat.beq vs.size k = true) (hk : Nat.ble (i + k) cs.size = true) (h1 : ∀ v ∈ vs.toList, v.oneCell' = true)
    (h : ∀ w', Blk w' g T (setFrom cs i vs.toList) → w.grownBy w' (some g) → K w') : VUnit P (Instr.storeAt t (.pointer (some p)) (.agg vs)) w K := by
  subst hp
  have e := Nat.eq_of_beq_eq_true hs
  have l := Nat.le_of_ble_eq_true hk
  have shift : ∀ (vs : List Value) (j : Nat), storeCells ⟨g, i, none⟩ vs j = storeCells ⟨g, 0, none⟩ vs (i + j) := by
    intro vs
    induction vs with
    | nil => intro j; rfl
    | cons v r ih =>
      intro j
      unfold storeCells
      rw [add_plain, add_plain, ih (j + 1), Nat.zero_add, Nat.add_assoc]
  obtain ⟨w', h2, h3, h4⟩ := run_storeCells_blk (P := P) vs.toList i w cs hb h1 (by rw [Array.length_toList]; omega)
  refine .of (w' := w') ?_ (h w' h3 h4)
  unfold Instr.storeAt Instr.sureAddr storeVar
  simp [run_size a.s, Value.cells, e]
  rw [shift]
  exact h2
theorem VRes.tmpCellTmp {P : Program} {w : World} {a b u t T g k : Nat} {σ : Env} {cs : Array Value} {R : Ending → World → Prop} [i : TAgg P t k] (ha : σ a = .pointer (some ⟨g, 0, none⟩)) (hb : Blk w g T cs) (hs : Nat.beq cs.size k = true) (h : R (.returned (.tuple #[σ b, .agg cs, σ u])) w) :
    VRes P [.tmp b, .cell a t, .tmp u] σ w R := by
  have h2 := run_load_agg (P := P) i hb (Nat.eq_of_beq_eq_true hs)
  unfold Instr.loadAt Instr.sureAddr at h2
  simp only [Sem.run_bind, Sem.run_pure, Result.andThen_ok] at h2
  exact ⟨⟨_, by simp [resE, ha, asAddr, h2], h⟩⟩
theorem VRead.loadBS {P : Program} {S : World → Prop} {t T g i : Nat} {p : Addr} {cs : Array Value} {v : Value} {K : Value → Prop} [c : TCell P t] (hb : ∀ W, S W → Blk W g T cs) (hp : p = ⟨g, i, none⟩) (hv : cs.toList[i]? = some v) (hk : K v) : VRead P S (Instr.loadAt t (.pointer (some p))) K := by
  subst hp
  exact .load (fun W hW => by rw [(hb W hW).cell i, ← hv]; simp) hk
def SS.last (S : SS) (i : Int) : Int × Rp × Bool := match tfind S.t i with
  | some x => (x.seq, x.rp, true)
  | none => (0, Rp.zero, false)
set_option maxHeartbeats 2000000 in
theorem sLast_any (W : World) (U : Foot) (d c : Nat) (S : SS) (id : Int) (h : Tbl W U d c S) (hi : -9223372036854775808 ≤ id ∧ id ≤ 9223372036854775807) :
    Calls Tryd.prog 18 #[.pointer (some ⟨d, 0, none⟩), .int .i64 id] W fun e W' => e = .returned (.tuple #[.int .i64 (S.last id).1, .agg (rpC (S.last id).2.1), .bool (S.last id).2.2]) ∧ Below W.heap.size W W' := by
  obtain ⟨hwf, m, h⟩ := h
  have hb := h.blk
  have hM : MapS W m c S.t := h.map
  obtain ⟨x, hx, hx1, hx2⟩ := sLookV_cells S.t id
  have hl : S.last id = (x.seq, x.rp, (tfind S.t id).isSome) := by
    unfold SS.last
    cases hf : tfind S.t id with
    | none => rw [hx2 hf]; rfl
    | some y => rw [hx1 y hf]; rfl
  rw [hl]
  refine calls_vc Tryd.func18 rfl (by kernel_rfl) ?_
  ((conv => whnf); (repeat ((first | (refine VL.cons ?_) | (refine VC.seqS rfl ?_) | (refine VC.region ?_)); (conv => whnf))))
  ((repeat ((fail); (conv => whnf))))
  refine VSem.allocZ (z := .agg #[.int .i64 0, .int .i64 0, .int .i64 0, .int .i64 0, .string ByteArray.empty]) (by kernel_rfl) ?_
  intro W0 g0 hb0 hgb0 hlb0 hB0
  have hb0' := hb.below hB0 hb.lt
  have hM0 := hM.below hB0 (Nat.le_refl _)
  ((conv => whnf); (repeat ((first | (refine VL.cons ?_) | (refine VL.nil ?_) | (refine VC.seqS rfl ?_) | (refine VC.region ?_)); (conv => whnf))))
  (repeat (first | ((first | (refine VL.cons ?_) | (refine VRead.fld ?_)); (conv => whnf)) | (refine VRead.loadB hb0' rfl rfl ?_; (conv => whnf))))
  refine sLook hM0 hi ?_
  rw [hx]
  ((conv => whnf); (repeat ((first | (refine VL.cons ?_)); (conv => whnf))))
  ((repeat ((fail); (conv => whnf))))
  refine VSem.allocZ (z := seZ) (by kernel_rfl) ?_
  intro W1 g hb1 hgb hlb hB1
  ((conv => whnf); (repeat ((first | (refine VL.cons ?_)); (conv => whnf))))
  ((repeat ((fail); (conv => whnf))))
  refine VUnit.storeAB hb1 rfl rfl rfl (by simp [seC, Value.oneCell']) ?_
  intro W2 hb2 hg2
  replace hb2 : Blk W2 g 68 #[.int .i64 x.used, .int .i64 x.seq, .int .i64 x.rp.err, .int .i64 x.rp.n, .int .i64 x.rp.kind, .int .i64 x.rp.vn, .string (txt x.rp.s)] := hb2
  have hB02 : Below W0.heap.size W0 W2 := only_new hB1 hg2 (by omega) (by omega)
  have hbr := hb0.below hB02 hb0.lt
  have hB2 : Below W.heap.size W W2 := hB0.trans (hB02.mono hB0.size)
  ((conv => whnf); (repeat ((first | (refine VL.cons ?_) | (refine VL.nil ?_)); (conv => whnf))))
  ((repeat ((first | (refine VC.draw ?_) | (refine VC.seq ?_)); (conv => whnf))))
  have hS : Blk (W2.drewN 1) g 68 #[.int .i64 x.used, .int .i64 x.seq, .int .i64 x.rp.err, .int .i64 x.rp.n, .int .i64 x.rp.kind, .int .i64 x.rp.vn, .string (txt x.rp.s)] := hb2
  have hbr' : Blk (W2.drewN 1) g0 34 #[.int .i64 0, .int .i64 0, .int .i64 0, .int .i64 0, .string ByteArray.empty] := hbr
  refine VDraw.seg (fun X => Blk X g 68 #[.int .i64 x.used, .int .i64 x.seq, .int .i64 x.rp.err, .int .i64 x.rp.n, .int .i64 x.rp.kind, .int .i64 x.rp.vn, .string (txt x.rp.s)]) [([0, 1, 2, 3, 4, 5], 6)] [7] (by kernel_rfl) (by kernel_rfl) hS ?_
  (conv => whnf)
  (repeat ((first | (refine VRead.loadBS (fun _ h => h) rfl rfl ?_) | (refine VRead.loadABi (vs := rpC x.rp) 2 (fun _ h => h) rfl rfl (by intro j hj; match j, hj with | 0, _ => rfl | 1, _ => rfl | 2, _ => rfl | 3, _ => rfl | 4, _ => rfl) ?_) | (refine VQ.cons ?_) | (refine VQ.nil ?_) | (refine VG.cons ?_) | (refine VRead.fld ?_)); (conv => whnf)))
  refine VUnit.storeAB hbr' rfl rfl rfl (by simp [rpC, Value.oneCell']) ?_
  intro W3 hb3 hg3
  replace hb3 : Blk W3 g0 34 (rpC x.rp) := hb3
  (conv => whnf)
  refine Keep.mk (hS.grown hg3 (fun e => by injection e with e; omega)) ?_
  (conv => whnf)
  ((repeat ((first | (refine VC.ret ?_) | (refine VQ.cons ?_) | (refine VQ.nil ?_) | (refine VG.nil ?_)); (conv => whnf))))
  refine VRes.tmpCellTmp rfl hb3 rfl ?_
  exact ⟨rfl, (below_drewN hB2 1).grown hg3 (by show W.heap.size ≤ W2.heap.size; exact hB2.size) (fun j hj => by injection hj with hj; omega)⟩
def SS.keep (S : SS) (i seq : Int) (r : Rp) (ck : Bool) : Bool × SS := match tfind S.t i with
  | some x => if seq ≤ x.seq ∨ 1099511627776 < seq ∨ ck = false then (false, S) else (true, ⟨S.most, tset S.t i { x with seq := seq, rp := r }⟩)
  | none => (false, S)
theorem SWf.keep {S : SS} (h : SWf S) (i seq : Int) (r : Rp) (ck : Bool) : SWf (S.keep i seq r ck).2 := by
  unfold SS.keep
  cases hf : tfind S.t i with
  | none => exact h
  | some x =>
    simp only
    split
    · exact h
    · exact h.same hf
set_option maxHeartbeats 2000000 in
theorem sKeepB_any (W : World) (U : Foot) (d c : Nat) (S : SS) (id seq : Int) (r : Rp) (ck : Bool) (h : Tbl W U d c S) (hc : c ≤ 1000000000) (hi : -9223372036854775808 ≤ id ∧ id ≤ 9223372036854775807)
    (hck : ∀ X : World, Below W.heap.size W X → Calls Tryd.prog 31 #[.agg (rpC r)] X fun e X' => e = .returned (.bool ck) ∧ Below X.heap.size X X') :
    Calls Tryd.prog 16 #[.pointer (some ⟨d, 0, none⟩), .int .i64 id, .int .i64 seq, .agg (rpC r)] W fun e W' => e = .returned (.bool (S.keep id seq r ck).1) ∧ Tbl W' U d (c + 1) (S.keep id seq r ck).2 ∧ Out U W W' := by
  have hwf' := h.1.keep id seq r ck
  have hT := h
  obtain ⟨hwf, m, h⟩ := h
  have hb := h.blk
  have hM : MapS W m c S.t := h.map
  obtain ⟨x, hx, hx1, hx2⟩ := sLookV_cells S.t id
  refine calls_vc Tryd.func16 rfl (by kernel_rfl) ?_
  ((conv => whnf); (repeat ((first | (refine VL.cons ?_) | (refine VC.seqS rfl ?_) | (refine VC.region ?_)); (conv => whnf))))
  ((repeat ((fail); (conv => whnf))))
  refine VSem.boxB ?_
  intro W0 g0 hb0 hgb0 hlb0 hB0
  replace hb0 : Blk W0 g0 34 (rpC r) := hb0
  have hb0' := hb.below hB0 hb.lt
  have hM0 := hM.below hB0 (Nat.le_refl _)
  ((conv => whnf); (repeat ((first | (refine VL.cons ?_) | (refine VL.nil ?_) | (refine VC.seqS rfl ?_) | (refine VC.region ?_)); (conv => whnf))))
  (repeat (first | ((first | (refine VL.cons ?_) | (refine VRead.fld ?_)); (conv => whnf)) | (refine VRead.loadB hb0' rfl rfl ?_; (conv => whnf))))
  refine sLook hM0 hi ?_
  rw [hx]
  ((conv => whnf); (repeat ((first | (refine VL.cons ?_)); (conv => whnf))))
  ((repeat ((fail); (conv => whnf))))
  refine VSem.allocZ (z := seZ) (by kernel_rfl) ?_
  intro W1 g hb1 hgb hlb hB1
  ((conv => whnf); (repeat ((first | (refine VL.cons ?_)); (conv => whnf))))
  ((repeat ((fail); (conv => whnf))))
  refine VUnit.storeAB hb1 rfl rfl rfl (by simp [seC, Value.oneCell']) ?_
  intro W2 hb2 hg2
  replace hb2 : Blk W2 g 68 #[.int .i64 x.used, .int .i64 x.seq, .int .i64 x.rp.err, .int .i64 x.rp.n, .int .i64 x.rp.kind, .int .i64 x.rp.vn, .string (txt x.rp.s)] := hb2
  have hB02 : Below W0.heap.size W0 W2 := only_new hB1 hg2 (by omega) (by omega)
  have hbr := hb0.below hB02 hb0.lt
  have hB2 : Below W.heap.size W W2 := hB0.trans (hB02.mono hB0.size)
  have hT2 := hT.below hB2 (Nat.le_refl _)
  cases hf : tfind S.t id with
  | none =>
    have e : S.keep id seq r ck = (false, S) := by unfold SS.keep; rw [hf]
    rw [e]
    ((conv => whnf); (repeat ((first | (refine VL.cons ?_) | (refine VL.nil ?_)); (conv => whnf))))
    ((repeat ((first | (refine VL.cons ?_) | (refine VL.nil ?_) | (refine VC.seqS rfl ?_) | (refine VC.region ?_) | (refine VC.cond ?_) | (refine VC.ret ?_) | (refine VBool.t ?_) | (refine VC.seq ?_)); (conv => whnf))))
    exact ⟨rfl, hT2.grow (Nat.le_succ _), Out.new hB2⟩
  | some y =>
    obtain rfl := hx1 y hf
    have no : (seq ≤ x.seq ∨ 1099511627776 < seq ∨ ck = false) → S.keep id seq r ck = (false, S) := fun hh => by unfold SS.keep; rw [hf]; exact if_pos hh
    by_cases h1 : seq ≤ x.seq
    · rw [no (.inl h1)]
      ((conv => whnf); (repeat ((first | (refine VL.cons ?_) | (refine VL.nil ?_)); (conv => whnf))))
      (repeat (first | ((first | (refine VL.cons ?_) | (refine VL.nil ?_) | (refine VC.seqS rfl ?_) | (refine VC.region ?_) | (refine VC.cond ?_) | (refine VC.ret ?_) | (refine VBool.t ?_) | (refine VBool.f ?_) | (refine VBool.dT (by omega) ?_) | (refine VRead.fld ?_) | (refine VC.seq ?_)); (conv => whnf)) | (refine VRead.loadB hb2 rfl rfl ?_; (conv => whnf))))
      exact ⟨rfl, hT2.grow (Nat.le_succ _), Out.new hB2⟩
    by_cases h2 : 1099511627776 < seq
    · rw [no (.inr (.inl h2))]
      ((conv => whnf); (repeat ((first | (refine VL.cons ?_) | (refine VL.nil ?_)); (conv => whnf))))
      (repeat (first | ((first | (refine VL.cons ?_) | (refine VL.nil ?_) | (refine VC.seqS rfl ?_) | (refine VC.region ?_) | (refine VC.cond ?_) | (refine VC.ret ?_) | (refine VBool.t ?_) | (refine VBool.f ?_) | (refine VBool.dT (by omega) ?_) | (refine VBool.dF (by omega) ?_) | (refine VRead.fld ?_) | (refine VC.seq ?_)); (conv => whnf)) | (refine VRead.loadB hb2 rfl rfl ?_; (conv => whnf))))
      exact ⟨rfl, hT2.grow (Nat.le_succ _), Out.new hB2⟩
    ((conv => whnf); (repeat ((first | (refine VL.cons ?_) | (refine VL.nil ?_)); (conv => whnf))))
    (repeat (first | ((first | (refine VL.cons ?_) | (refine VC.seqS rfl ?_) | (refine VC.region ?_) | (refine VBool.f ?_) | (refine VBool.dF (by omega) ?_) | (refine VRead.fld ?_) | (refine VC.seq ?_)); (conv => whnf)) | (refine VRead.loadB hb2 rfl rfl ?_; (conv => whnf)) | (refine VRead.loadAB1 hbr rfl rfl ?_; (conv => whnf))))
    refine VCall.of (hck W2 hB2) ?_
    rintro e W3 ⟨rfl, hB3⟩
    refine ⟨_, rfl, ?_⟩
    have hB03 := hB2.trans (hB3.mono hB2.size)
    cases ck with
    | false =>
      rw [no (.inr (.inr rfl))]
      ((conv => whnf); (repeat ((first | (refine VL.cons ?_)); (conv => whnf))))
      ((repeat ((first | (refine VL.cons ?_) | (refine VL.nil ?_) | (refine VC.seqS rfl ?_) | (refine VC.region ?_) | (refine VC.cond ?_) | (refine VC.ret ?_) | (refine VBool.t ?_) | (refine VBool.f ?_)); (conv => whnf))))
      exact ⟨rfl, (hT.below hB03 (Nat.le_refl _)).grow (Nat.le_succ _), Out.new hB03⟩
    | true =>
      have e : S.keep id seq r true = (true, ⟨S.most, tset S.t id { x with seq := seq, rp := r }⟩) := by unfold SS.keep; rw [hf]; exact if_neg (by simp; omega)
      rw [e] at hwf' ⊢
      have hbr3 := hbr.below hB3 hbr.lt
      have hb3 := hb2.below hB3 hb2.lt
      ((conv => whnf); (repeat ((first | (refine VL.cons ?_)); (conv => whnf))))
      ((repeat ((first | (refine VL.cons ?_) | (refine VL.nil ?_) | (refine VC.draw ?_) | (refine VC.cond ?_) | (refine VC.skip ?_) | (refine VBool.f ?_) | (refine VC.seq ?_)); (conv => whnf))))
      have hS : Blk (W3.drewN 1) g0 34 (rpC r) := hbr3
      have hb3' : Blk (W3.drewN 1) g 68 #[.int .i64 x.used, .int .i64 x.seq, .int .i64 x.rp.err, .int .i64 x.rp.n, .int .i64 x.rp.kind, .int .i64 x.rp.vn, .string (txt x.rp.s)] := hb3
      refine VDraw.seg (fun X => Blk X g0 34 (rpC r)) [([0, 1, 2], 3), ([4], 5)] [] (by kernel_rfl) (by kernel_rfl) hS ?_
      (conv => whnf)
      (repeat ((first | (refine VRead.loadAB (fun _ h => h) rfl rfl ?_) | (refine VQ.cons ?_) | (refine VQ.nil ?_) | (refine VG.cons ?_) | (refine VRead.fld ?_)); (conv => whnf)))
      refine VUnit.storeB hb3' rfl rfl rfl ?_
      intro W4 hb4 hg4
      replace hb4 : Blk W4 g 68 #[.int .i64 x.used, .int .i64 seq, .int .i64 x.rp.err, .int .i64 x.rp.n, .int .i64 x.rp.kind, .int .i64 x.rp.vn, .string (txt x.rp.s)] := hb4
      have hne : g0 ≠ g := by omega
      have hS4 : Blk W4 g0 34 (rpC r) := hS.grown hg4 (fun e => hne (by injection e))
      (conv => whnf)
      refine Keep.mk hS4 ?_
      (conv => whnf)
      ((repeat ((first | (refine VQ.cons ?_) | (refine VQ.nil ?_) | (refine VG.cons ?_) | (refine VRead.fld ?_)); (conv => whnf))))
      refine VUnit.storeABi 2 hb4 rfl rfl rfl (by simp [rpC, Value.oneCell']) ?_
      intro W5 hb5 hg5
      replace hb5 : Blk W5 g 68 (seC { x with seq := seq, rp := r }) := hb5
      (conv => whnf)
      refine Keep.mk (hS4.grown hg5 (fun e => hne (by injection e))) ?_
      (conv => whnf)
      have hg35 : W3.grownBy W5 (some g) := only_trans ⟨hg4.os, hg4.tape, hg4.output, hg4.size, hg4.block⟩ hg5
      have hB5 : Below W.heap.size W W5 := hB03.grown hg35 hB03.size (fun j hj => by injection hj with hj; omega)
      have h5 : TabAt W5 U d m c S := h.stay (fun j hj _ => hB5.block j hj)
      have hbt5 := h5.blk
      have hM5 : MapS (W5.drewN 1) m c S.t := h5.map
      ((conv => whnf); (repeat ((first | (refine VQ.nil ?_) | (refine VG.nil ?_)); (conv => whnf))))
      ((repeat ((first | (refine VC.draw ?_) | (refine VC.seq ?_)); (conv => whnf))))
      refine VDraw.last [0, 1, 2, 3, 4, 5] 6 (by kernel_rfl) (by kernel_rfl) ?_
      (conv => whnf)
      (repeat ((first | (refine VRead.loadB hbt5 rfl rfl ?_) | (refine VRead.loadAB1 hb5 rfl rfl ?_) | (refine VQ.cons ?_) | (refine VQ.nil ?_) | (refine VRead.fld ?_)); (conv => whnf)))
      refine VUnit.sSet (x := { x with seq := seq, rp := r }) hM5 hwf.ris hc hi ?_
      intro W6 hM6 hg6
      (conv => whnf)
      refine Keep.mk trivial ?_
      (conv => whnf)
      have hg6' : W5.grownBy W6 (some m) := ⟨hg6.os, hg6.tape, hg6.output, hg6.size, hg6.block⟩
      ((conv => whnf); (repeat ((first | (refine VL.cons ?_) | (refine VL.nil ?_) | (refine VC.seqS rfl ?_) | (refine VC.region ?_) | (refine VC.ret ?_)); (conv => whnf))))
      ((repeat ((fail); (conv => whnf))))
      exact ⟨rfl, ⟨hwf', m, h5.turn hg6' hM6⟩, (Out.new hB5).trans (Out.grown hg6' h.hm)⟩
end Go.Proofs.YtnjhdbgejhnpfaaDoor
end

section
set_option maxRecDepth 10000
namespace Go.Proofs.YtnjhdbgejhnpfaaDoor
set_option linter.unusedVariables false
open Go.RowKit

/-- one went on to another world and footprint: what lay outside stays, and stays outside -/
structure Step (W : World) (U : Foot) (W' : World) (U' : Foot) : Prop where
  out : Out U W W'
  sub : ∀ j, U' j → U j ∨ W.heap.size ≤ j
section
variable {W W' W'' : World} {U U' U'' : Foot}
theorem Step.refl (W : World) (U : Foot) : Step W U W U := ⟨Out.refl _ _, fun j h => .inl h⟩
theorem Step.trans (h : Step W U W' U') (k : Step W' U' W'' U'') : Step W U W'' U'' := by
  have hs := h.out.size
  refine ⟨⟨k.out.os.trans h.out.os, k.out.tape.trans h.out.tape, k.out.output.trans h.out.output, Nat.le_trans hs k.out.size, fun j hj hu => ?_⟩, fun j hj => ?_⟩
  · rw [k.out.block j (by omega) (fun h' => ?_), h.out.block j hj hu]
    rcases h.sub j h' with h' | h'
    · exact hu h'
    · omega
  · rcases k.sub j hj with h' | h'
    · exact h.sub j h'
    · right; omega
theorem Step.new (h : Below W.heap.size W W') : Step W U W' U := ⟨Out.new h, fun j hj => .inl hj⟩
theorem Step.size (h : Step W U W' U') : W.heap.size ≤ W'.heap.size := h.out.size
theorem Step.below {B : Nat} (h : Step W U W' U') (hU : ∀ j, U j → B ≤ j) (hB : B ≤ W.heap.size) : Below B W W' := h.out.below hU hB
theorem Step.min {B : Nat} (h : Step W U W' U') (hU : ∀ j, U j → B ≤ j) (hB : B ≤ W.heap.size) : ∀ j, U' j → B ≤ j := fun j hj => by
  rcases h.sub j hj with h' | h'
  · exact hU j h'
  · omega
/-- a value whose block is not of the footprint -/
def Free (U : Foot) (v : Value) : Prop := ∀ g, v.ownBlock = some g → ¬ U g
theorem Free.new {B e s n : Nat} {v : Value} {xs : List Value} (h : W'.ownsRow B e s v n xs) (hU : ∀ j, U j → j < B) : Free U v := fun g hg hu => by
  have := (World.ownsRow.lt h g hg).1
  have := hU g hu
  omega
theorem ownsRow_stayS {B e s m : Nat} {v : Value} {ys : List Value} (h : W.ownsRow B e s v m ys) (hk : ∀ g, v.ownBlock = some g → W'.heap[g]? = W.heap[g]?) : W'.ownsRow B e s v m ys := by
  refine ⟨h.1, ?_⟩
  rcases h.2 with h0 | ⟨k, cap, cur, hv, hbg, hh, q⟩
  · exact .inl h0
  · exact .inr ⟨k, cap, cur, hv, hbg, by rw [hk k (by rw [hv]; rfl)]; exact hh, q⟩
theorem Step.rows {B e s n : Nat} {v : Value} {xs : List Value} (h : Step W U W' U') (ho : W.ownsRow B e s v n xs) (hf : Free U v) : W'.ownsRow B e s v n xs ∧ Free U' v := by
  refine ⟨ownsRow_stayS ho (fun g hg => h.out.block g (World.ownsRow.lt ho g hg).2 (hf g hg)), fun g hg hu => ?_⟩
  rcases h.sub g hu with h' | h'
  · exact hf g hg h'
  · have := (World.ownsRow.lt ho g hg).2; omega
theorem Step.own {B n : Nat} {v : Value} {l : List UInt8} (h : Step W U W' U') (ho : Own W B v n l) (hf : Free U v) : Own W' B v n l ∧ Free U' v := h.rows ho hf
theorem Step.blk {g T : Nat} {cs : Array Value} (h : Step W U W' U') (hb : Blk W g T cs) (hf : ¬ U g) : Blk W' g T cs ∧ ¬ U' g := by
  refine ⟨(h.out.block g hb.lt hf).trans hb, fun hu => ?_⟩
  rcases h.sub g hu with h' | h'
  · exact hf h'
  · have := hb.lt; omega
end
end Go.Proofs.YtnjhdbgejhnpfaaDoor
end

section
set_option maxRecDepth 10000
namespace Go.Proofs.YtnjhdbgejhnpfaaDoor
set_option linter.unusedVariables false
open Go.RowKit

/-! ### rules -/
def cutK (A : Option Addr) (c z k : Nat) : Option Addr := if c = z then A else A.map (·.add (z * k))
theorem VRead.cutKL {P : Program} {S : World → Prop} {t e k : Nat} {A : Option Addr} {n c : Nat} {Z : Int} {kk : IntKind} {K : Value → Prop} [i : TSlice P t e k] (z : Nat) (hz : Z = (z : Int)) (h : z ≤ n) (hk : K (.slice (cutK A c z k) (n - z) (c - z))) :
    VRead P S (Instr.sliceAt t (.slice A n c) (some (.int kk Z)) none none) K := by
  subst hz
  exact .ofW (fun W => by
    rw [run_sliceAt_slice W t _ _ _ _ (elem_of i.u), run_slice_l W t A n c (elem_of i.u) kk _ (by omega) (by omega), show P.elem t = e from by unfold Program.elem; rw [i.u], run_size i.s]
    simp [sliced, cutK]) hk
theorem VRead.cutKH {P : Program} {S : World → Prop} {t e k : Nat} {A : Option Addr} {n c : Nat} {Z : Int} {kk : IntKind} {K : Value → Prop} [i : TSlice P t e k] (z : Nat) (hz : Z = (z : Int)) (h : z ≤ c) (hk : K (.slice A z c)) :
    VRead P S (Instr.sliceAt t (.slice A n c) none (some (.int kk Z)) none) K := by
  subst hz
  exact .ofW (fun W => by
    rw [run_sliceAt_slice W t _ _ _ _ (elem_of i.u), run_slice_h W t A n c (elem_of i.u) kk _ (by omega) (by omega), show P.elem t = e from by unfold Program.elem; rw [i.u], run_size i.s]
    have h0 : A.map (fun x : Addr => x.add 0) = A := by cases A <;> simp [Addr.add]
    simp [sliced, h0]) hk
theorem Reads.takeK {w : World} {B k n z : Nat} {A : Option Addr} {xs : List Value} (h : Reads w B k A n xs) (hz : z ≤ n) : Reads w B k A z (xs.take (z * k)) := by
  refine ⟨by rw [List.length_take, h.1]; exact Nat.min_eq_left (Nat.mul_le_mul_right _ hz), fun h0 => ?_⟩
  obtain ⟨ad, e, hb, hc⟩ := h.2 (by omega)
  refine ⟨ad, e, hb, fun j u hu => hc j u ?_⟩
  rw [List.getElem?_take] at hu
  split at hu
  · exact hu
  · cases hu
/-- a cell of a row is stored -/
theorem VUnit.storeRw {P : Program} {w : World} {t : TypeId} {p : Addr} {g j B e k n c : Nat} {xs : List Value} {v : Value} {Q : World → Prop} [i : TCell P t] (hO : w.ownsRow B e k (.slice (some ⟨g, 0, none⟩) n c) n xs) (hp : p = ⟨g, j, none⟩) (hj : j < n * k) (hv : v.oneCell' = true)
    (h : ∀ w', w'.ownsRow B e k (.slice (some ⟨g, 0, none⟩) n c) n (xs.set j v) → w.grownBy w' (some g) → Q w') : VUnit P (Instr.storeAt t (.pointer (some p)) v) w Q := by
  subst hp
  have hl := hO.1
  have h1 := hO.cellAt j hj
  rw [List.getElem?_eq_getElem (by omega)] at h1
  obtain ⟨h2, h3⟩ := hO.stored j v
  exact VUnit.store h1 (hO.frozenAt j) hv (h _ h2 h3)
end Go.Proofs.YtnjhdbgejhnpfaaDoor
end

section
set_option maxRecDepth 10000
namespace Go.Proofs.YtnjhdbgejhnpfaaDoor
set_option linter.unusedVariables false
open Go.RowKit

def oneC (p : Int × Se) : Array Value := #[.int .i64 p.1, .int .i64 p.2.used, .int .i64 p.2.seq, .int .i64 p.2.rp.err, .int .i64 p.2.rp.n, .int .i64 p.2.rp.kind, .int .i64 p.2.rp.vn, .string (txt p.2.rp.s)]
def rowO : STb → List Value
  | [] => []
  | p :: T => (oneC p).toList ++ rowO T
theorem oneC_len (p : Int × Se) : (oneC p).toList.length = 8 := rfl
theorem rowO_cons (p : Int × Se) (T : STb) : rowO (p :: T) = (oneC p).toList ++ rowO T := rfl
theorem rowO_len : ∀ (T : STb), (rowO T).length = T.length * 8
  | [] => rfl
  | p :: T => by rw [rowO_cons, List.length_append, rowO_len T, oneC_len, List.length_cons]; omega
theorem rowO_app : ∀ (A B : STb), rowO (A ++ B) = rowO A ++ rowO B
  | [], B => rfl
  | p :: A, B => by rw [List.cons_append, rowO_cons, rowO_app A B, rowO_cons, List.append_assoc]
theorem rowO_take (T : STb) (i : Nat) (h : i ≤ T.length) : (rowO T).take (i * 8) = rowO (T.take i) := by
  have e : rowO T = rowO (T.take i) ++ rowO (T.drop i) := by rw [← rowO_app, List.take_append_drop]
  have hl : (rowO (T.take i)).length = i * 8 := by rw [rowO_len, List.length_take, Nat.min_eq_left h]
  rw [e, ← hl, List.take_left]
theorem rowO_drop (T : STb) (i : Nat) (h : i ≤ T.length) : (rowO T).drop (i * 8) = rowO (T.drop i) := by
  have e : rowO T = rowO (T.take i) ++ rowO (T.drop i) := by rw [← rowO_app, List.take_append_drop]
  have hl : (rowO (T.take i)).length = i * 8 := by rw [rowO_len, List.length_take, Nat.min_eq_left h]
  rw [e, ← hl, List.drop_left]
theorem rowO_at {T : STb} {i k : Nat} {p : Int × Se} {v : Value} (h : T[i]? = some p) (hv : (oneC p).toList[k]? = some v) : (rowO T)[i * 8 + k]? = some v := by
  obtain ⟨hi, he⟩ := List.getElem?_eq_some_iff.1 h
  have hk : k < 8 := (List.getElem?_eq_some_iff.1 hv).1
  rw [← List.getElem?_drop, rowO_drop T i (by omega), List.drop_eq_getElem_cons hi, he, rowO_cons, List.getElem?_append_left hk, hv]
theorem rowO_one : ∀ (T : STb), ∀ u ∈ rowO T, u.oneCell' = true
  | [], u, h => by simp [rowO] at h
  | p :: T, u, h => by
    rw [rowO_cons] at h
    rcases List.mem_append.1 h with h | h
    · simp only [oneC, List.mem_cons, List.not_mem_nil, or_false] at h
      rcases h with rfl | rfl | rfl | rfl | rfl | rfl | rfl | rfl <;> rfl
    · exact rowO_one T u h
theorem rowO_set {A B : STb} {p q : Int × Se} {k : Nat} {v : Value} (hk : k < 8) (h : (oneC p).toList.set k v = (oneC q).toList) : (rowO (A ++ p :: B)).set (A.length * 8 + k) v = rowO (A ++ q :: B) := by
  rw [rowO_app, rowO_app, rowO_cons, rowO_cons, List.set_append_right _ _ (by rw [rowO_len]; omega), rowO_len, show A.length * 8 + k - A.length * 8 = k by omega, List.set_append_left _ _ (by rw [oneC_len]; exact hk), h]
/-! ### a table in memory -/
structure RtAt (W : World) (U : Foot) (r : Nat) (A : Option Addr) (c : Nat) (S : SS) : Prop where
  hr : U r
  blk : Blk W r 29 #[.slice A S.t.length c, .int .i64 S.most]
  row : W.ownsRow 0 56 8 (.slice A S.t.length c) S.t.length (rowO S.t)
  foot : ∀ g, (Value.slice A S.t.length c).ownBlock = some g → U g
structure Rt (W : World) (U : Foot) (r : Nat) (S : SS) : Prop where
  wf : SWf S
  lt : ∀ j, U j → j < W.heap.size
  at_ : ∃ A c, RtAt W U r A c S
section
variable {W W' : World} {U V : Foot} {r c : Nat} {A : Option Addr} {S : SS}
theorem RtAt.stay (h : RtAt W U r A c S) (hk : ∀ j, j < W.heap.size → U j → W'.heap[j]? = W.heap[j]?) : RtAt W' U r A c S :=
  ⟨h.hr, (hk r h.blk.lt h.hr).trans h.blk, ownsRow_stayS h.row (fun g hg => hk g (World.ownsRow.lt h.row g hg).2 (h.foot g hg)), h.foot⟩
theorem Rt.stay (h : Rt W U r S) (hs : W.heap.size ≤ W'.heap.size) (hk : ∀ j, j < W.heap.size → U j → W'.heap[j]? = W.heap[j]?) : Rt W' U r S := by
  obtain ⟨A, c, h1⟩ := h.at_
  exact ⟨h.wf, fun j hj => Nat.lt_of_lt_of_le (h.lt j hj) hs, A, c, h1.stay hk⟩
theorem Rt.below (h : Rt W U r S) (hb : Below W.heap.size W W') : Rt W' U r S := h.stay hb.size (fun j hj _ => hb.block j hj)
theorem Rt.apart {V' : Foot} (h : Rt W U r S) (hs : Step W V W' V') (hn : ∀ j, U j → ¬ V j) : Rt W' U r S ∧ ∀ j, U j → ¬ V' j :=
  ⟨h.stay hs.size (fun j hj hu => hs.out.block j hj (hn j hu)), fun j hj hv => by
    rcases hs.sub j hv with h' | h'
    · exact hn j hj h'
    · have := h.lt j hj; omega⟩
theorem RtAt.cell (h : RtAt W U r A c S) {i k : Nat} {p : Int × Se} {v : Value} (hp : S.t[i]? = some p) (hv : (oneC p).toList[k]? = some v) : ∃ g, A = some ⟨g, 0, none⟩ ∧ g < W.heap.size ∧ U g ∧ W.cell? (((⟨g, 0, none⟩ : Addr).add (i * 8)).add k) = some v := by
  have hi := (List.getElem?_eq_some_iff.1 hp).1
  obtain ⟨g, rfl⟩ := row_addr' h.row (by omega)
  refine ⟨g, rfl, (World.ownsRow.lt h.row g rfl).2, h.foot g rfl, ?_⟩
  have := h.row.cells rfl (i * 8 + k) v (rowO_at hp hv)
  by_cases h3 : i * 8 = 0 <;> by_cases h4 : k = 0 <;> simpa [Addr.add, h3, h4] using this
end
/-- the footprint of a table -/
def ftO (r : Nat) (v : Value) : Foot := fun j => j = r ∨ v.ownBlock = some j
theorem Rt.mk' {W : World} {r n c : Nat} {A : Option Addr} {S : SS} (hw : SWf S) (hn : S.t.length = n) (hb : Blk W r 29 #[.slice A n c, .int .i64 S.most]) (ho : W.ownsRow 0 56 8 (.slice A n c) n (rowO S.t)) : Rt W (ftO r (.slice A n c)) r S := by
  subst hn
  refine ⟨hw, fun j hj => ?_, A, c, .inl rfl, hb, ho, fun g hg => .inr hg⟩
  rcases hj with rfl | hj
  · exact hb.lt
  · exact (World.ownsRow.lt ho j hj).2
theorem i_lt {a b : Int} (h : a < b) : ¬ b < a ∧ ¬ a = b := by omega
/-- an entry is laid in -/
theorem tset_midS {A B : STb} {s : Int} {f : Se} (hA : ∀ p ∈ A, p.1 < s) (hB : ∀ p ∈ B, s < p.1) : tset (A ++ B) s f = A ++ (s, f) :: B := by
  induction A with
  | nil =>
    cases B with
    | nil => rfl
    | cons q B =>
      obtain ⟨j, y⟩ := q
      simp only [List.nil_append, tset]
      rw [if_pos (hB (j, y) (by simp))]
  | cons q A ih =>
    obtain ⟨j, y⟩ := q
    have h1 : j < s := hA (j, y) (by simp)
    simp only [List.cons_append, tset]
    rw [if_neg (i_lt h1).1, if_neg (i_lt h1).2, ih (fun p hp => hA p (by simp [hp]))]
end Go.Proofs.YtnjhdbgejhnpfaaDoor
end

section
namespace Go.Proofs.YtnjhdbgejhnpfaaDoor.Rn
set_option linter.unusedVariables false
open Go.Lib (decodeL encodeRune encodeRuneZ decodeN decodeL_N encode_decode decodeL_le decodeL_width decodeL_rune)

abbrev Pc := Nat × List UInt8
def psN : Nat → List UInt8 → List Pc
  | 0, _ => []
  | n + 1, l => if l = [] then [] else ((decodeL l).1, l.take (decodeL l).2) :: psN n (l.drop (decodeL l).2)
def ps (l : List UInt8) : List Pc := psN l.length l
def flat (p : List Pc) : List UInt8 := p.flatMap (·.2)
def bad (p : Pc) : Bool := p.1 == 65533 && p.2.length == 1

theorem psN_fuel : ∀ (n m : Nat) (l : List UInt8), l.length ≤ n → l.length ≤ m → psN n l = psN m l
  | 0, m, l, h, _ => by
    have : l = [] := List.eq_nil_of_length_eq_zero (by omega)
    subst this
    cases m <;> simp [psN]
  | n + 1, 0, l, _, h => by
    have : l = [] := List.eq_nil_of_length_eq_zero (by omega)
    subst this
    simp [psN]
  | n + 1, m + 1, l, h, k => by
    have hw := decodeL_width l
    unfold psN
    split
    · rfl
    · rw [psN_fuel n m _ (by rw [List.length_drop]; omega) (by rw [List.length_drop]; omega)]
theorem ps_nil : ps [] = [] := rfl
theorem ps_step {l : List UInt8} (h : l ≠ []) : ps l = ((decodeL l).1, l.take (decodeL l).2) :: ps (l.drop (decodeL l).2) := by
  have hl : 0 < l.length := List.length_pos_iff.2 h
  have hw := decodeL_width l
  have e : l.length = (l.length - 1) + 1 := by omega
  unfold ps
  rw [e, psN, if_neg h]
  congr 1
  exact psN_fuel _ _ _ (by rw [List.length_drop]; omega) (Nat.le_refl _)
/-- by the pieces -/
theorem ps_ind {M : List UInt8 → Prop} (h0 : M []) (h1 : ∀ l, l ≠ [] → M (l.drop (decodeL l).2) → M l) : ∀ l, M l := by
  intro l
  induction hn : l.length using Nat.strongRecOn generalizing l with
  | _ n ih =>
    by_cases h : l = []
    · subst h; exact h0
    · have hl : 0 < l.length := List.length_pos_iff.2 h
      have hw := decodeL_width l
      exact h1 l h (ih _ (by rw [List.length_drop]; omega) _ rfl)
theorem flat_ps : ∀ l, flat (ps l) = l := by
  apply ps_ind
  · rfl
  · intro l h ih
    rw [ps_step h]
    show l.take _ ++ flat (ps _) = l
    rw [ih, List.take_append_drop]
theorem flat_append (a b : List Pc) : flat (a ++ b) = flat a ++ flat b := by simp [flat]
/-- what a piece is -/
theorem ps_piece : ∀ (l : List UInt8) (p : Pc), p ∈ ps l → 1 ≤ p.2.length ∧ p.1 ≤ 1114111 ∧ (bad p = true ∨ p.2 = encodeRune (p.1 : Int)) := by
  apply ps_ind (M := fun l => ∀ p : Pc, p ∈ ps l → 1 ≤ p.2.length ∧ p.1 ≤ 1114111 ∧ (bad p = true ∨ p.2 = encodeRune (p.1 : Int)))
  · intro p h; cases h
  · intro l h ih p hp
    rw [ps_step h, List.mem_cons] at hp
    rcases hp with rfl | hp
    · have hle := decodeL_le l h
      have hw := decodeL_width l
      refine ⟨by simp only [List.length_take]; omega, decodeL_rune l, ?_⟩
      by_cases hb : (decodeL l).1 = 65533 ∧ (decodeL l).2 = 1
      · left
        simp only [bad, List.length_take, Bool.and_eq_true, beq_iff_eq]
        exact ⟨hb.1, by omega⟩
      · right
        exact (encode_decode l h hb).symm
    · exact ih p hp
/-- where the k-th piece begins -/
def off (l : List UInt8) (k : Nat) : Nat := (flat ((ps l).take k)).length
theorem off_zero (l : List UInt8) : off l 0 = 0 := by simp [off, flat]
theorem off_succ {l : List UInt8} {k : Nat} {p : Pc} (h : (ps l)[k]? = some p) : off l (k + 1) = off l k + p.2.length := by
  unfold off
  rw [List.take_add_one, h, flat_append, List.length_append]
  simp [flat]
theorem off_end {l : List UInt8} {k : Nat} (h : (ps l).length ≤ k) : off l k = l.length := by
  unfold off
  rw [List.take_of_length_le h, flat_ps]
theorem off_le (l : List UInt8) (k : Nat) : off l k ≤ l.length := by
  have h := congrArg List.length (flat_ps l)
  rw [← List.take_append_drop k (ps l), flat_append, List.length_append] at h
  unfold off; omega
theorem ps_drop (l : List UInt8) : ∀ k, ps (l.drop (off l k)) = (ps l).drop k
  | 0 => by rw [off_zero]; rfl
  | k + 1 => by
    have ih := ps_drop l k
    by_cases hk : k < (ps l).length
    · have h1 : (ps l)[k]? = some (ps l)[k] := List.getElem?_eq_getElem hk
      have hne : l.drop (off l k) ≠ [] := by
        intro e
        rw [e, ps_nil] at ih
        have := congrArg List.length ih
        rw [List.length_drop] at this
        simp at this; omega
      have h2 := ps_step hne
      rw [ih, List.drop_eq_getElem_cons hk] at h2
      injection h2 with h3 h4
      rw [off_succ h1, ← List.drop_drop, h3]
      simp only [List.length_take]
      have hle := decodeL_le _ hne
      rw [Nat.min_eq_left hle]
      exact h4.symm
    · rw [off_end (by omega), List.drop_length, List.drop_eq_nil_of_le (by omega)]; rfl
theorem off_lt {l : List UInt8} {k : Nat} (h : k < (ps l).length) : off l k < l.length := by
  have h1 : (ps l)[k]? = some (ps l)[k] := List.getElem?_eq_getElem h
  have h2 := (ps_piece l _ (List.getElem_mem h)).1
  have h3 := off_succ h1
  have h4 := off_le l (k + 1)
  omega
theorem ps_get {l : List UInt8} {k : Nat} (h : k < (ps l).length) : (ps l)[k]? = some ((decodeL (l.drop (off l k))).1, (l.drop (off l k)).take (decodeL (l.drop (off l k))).2) := by
  have hlt := off_lt h
  have hne : l.drop (off l k) ≠ [] := fun e => by have := congrArg List.length e; simp at this; omega
  have e := ps_drop l k
  rw [ps_step hne, List.drop_eq_getElem_cons h] at e
  injection e with e1 e2
  rw [List.getElem?_eq_getElem h, e1]
theorem off_next {l : List UInt8} {k : Nat} (h : k < (ps l).length) : off l (k + 1) = off l k + (decodeL (l.drop (off l k))).2 := by
  have hlt := off_lt h
  have hne : l.drop (off l k) ≠ [] := fun e => by have := congrArg List.length e; simp at this; omega
  rw [off_succ (ps_get h), List.length_take, Nat.min_eq_left (decodeL_le _ hne)]
theorem off_len {l : List UInt8} {k : Nat} (h : k ≤ (ps l).length) : k ≤ off l k := by
  induction k with
  | zero => omega
  | succ k ih =>
    have h1 : (ps l)[k]? = some (ps l)[k] := List.getElem?_eq_getElem (by omega)
    have h2 := (ps_piece l _ (List.getElem_mem (by omega : k < (ps l).length))).1
    rw [off_succ h1]
    have := ih (by omega)
    omega
theorem ps_len (l : List UInt8) : (ps l).length ≤ l.length := by
  have := off_len (l := l) (Nat.le_refl _)
  rwa [off_end (Nat.le_refl _)] at this
/-! ### what is valid -/
theorem valid_ps : ∀ l, Go.Lib.validD l = (ps l).all (fun p => !bad p) := by
  apply ps_ind (M := fun l => Go.Lib.validD l = (ps l).all (fun p => !bad p))
  · rfl
  · intro l h ih
    rw [Go.Lib.validD_step l h, ps_step h, List.all_cons]
    have hle := decodeL_le l h
    have hw := decodeL_width l
    by_cases hb : (decodeL l).1 = 65533 ∧ (decodeL l).2 = 1
    · rw [if_pos hb]
      have : bad ((decodeL l).1, l.take (decodeL l).2) = true := by
        simp only [bad, List.length_take, Bool.and_eq_true, beq_iff_eq]
        exact ⟨hb.1, by omega⟩
      rw [this]; rfl
    · rw [if_neg hb, ih]
      have : bad ((decodeL l).1, l.take (decodeL l).2) = false := by
        simp only [bad, List.length_take, Bool.and_eq_false_iff, beq_eq_false_iff_ne]
        by_cases h1 : (decodeL l).1 = 65533
        · right; intro h2; exact hb ⟨h1, by omega⟩
        · left; exact h1
      rw [this]; rfl
theorem count_ps (s : ByteArray) : Go.Lib.runeCount s = (ps s.data.toList).length := by
  have key : ∀ (f k : Nat), k ≤ (ps s.data.toList).length → (ps s.data.toList).length ≤ k + f → Go.Lib.runeCountFrom s f (off s.data.toList k) = (ps s.data.toList).length - k := by
    intro f
    induction f with
    | zero => intro k h1 h2; simp [Go.Lib.runeCountFrom]; omega
    | succ f ih =>
      intro k h1 h2
      unfold Go.Lib.runeCountFrom
      have hs : s.data.toList.length = s.size := by rw [Array.length_toList]; rfl
      by_cases hk : k < (ps s.data.toList).length
      · rw [if_pos (by have := off_lt hk; omega), ← Go.Lib.decodeL_drop, ← off_next hk, ih (k + 1) (by omega) (by omega)]
        omega
      · rw [if_neg (by rw [off_end (by omega)]; omega)]
        omega
  have := key s.size 0 (by omega) (by have := ps_len s.data.toList; have e : s.data.toList.length = s.size := (by rw [Array.length_toList]; rfl); omega)
  rw [off_zero] at this
  exact this

/-! ### a rune's bytes -/
def Valid (l : List UInt8) : Prop := ∀ p ∈ ps l, bad p = false
theorem valid_iff (l : List UInt8) : Go.Lib.validD l = true ↔ Valid l := by
  rw [valid_ps, List.all_eq_true]
  exact ⟨fun h p hp => by have := h p hp; simpa using this, fun h p hp => by have := h p hp; simpa using this⟩
/-! ### classes, capitals -/
/-! ### what goes on a sequence -/
/-- the first pieces -/
def cut (l : List UInt8) (n : Int) : List UInt8 := if n < 1 then [] else l.take (off l n.toNat)
end Go.Proofs.YtnjhdbgejhnpfaaDoor.Rn
end

section
namespace Go.Proofs.YtnjhdbgejhnpfaaDoor
set_option linter.unusedVariables false
open Go.RowKit

abbrev bl (s : ByteArray) : List UInt8 := s.data.toList
theorem bl_len (s : ByteArray) : (bl s).length = s.size := by rw [Array.length_toList]; rfl
theorem VWrap.i32' {z : Int} {K : Int → Prop} (h1 : -2147483648 ≤ z) (h2 : z ≤ 2147483647) (hk : K z) : VWrap .i32 z K := by
  simp only [VWrap_eq]; rwa [IntWalk.i32_in z ⟨h1, h2⟩]
/-- the k-th byte goes on a sequence -/
def ct (l : List UInt8) (k : Nat) : Prop := k < l.length ∧ 128 ≤ (l.getD k 0).toNat ∧ (l.getD k 0).toNat ≤ 191
instance (l : List UInt8) (k : Nat) : Decidable (ct l k) := inferInstanceAs (Decidable (k < l.length ∧ 128 ≤ (l.getD k 0).toNat ∧ (l.getD k 0).toNat ≤ 191))
def vv (l : List UInt8) (k : Nat) : Nat := (l.getD k 0).toNat - 128
theorem vv_lt {l : List UInt8} {k : Nat} (h : ct l k) : vv l k < 64 := by unfold vv; have := h.2; omega
set_option maxRecDepth 100000 in
set_option maxHeartbeats 4000000 in
theorem dec_num (n c b1 b2 b3 : Nat) (hc2 : c < 256) (k1 : b1 < 256) (k2 : b2 < 256) (k3 : b3 < 256) : Lib.decodeN n c b1 b2 b3 =
    if c < 128 then (c, 1)
    else if 194 ≤ c ∧ c ≤ 223 then (if (1 < n ∧ 128 ≤ b1 ∧ b1 ≤ 191) then ((c - 192) * 64 + (b1 - 128), 2) else (65533, 1))
    else if 224 ≤ c ∧ c ≤ 239 then (if (1 < n ∧ 128 ≤ b1 ∧ b1 ≤ 191) ∧ (2 < n ∧ 128 ≤ b2 ∧ b2 ≤ 191) then (if ((c - 224) * 64 + (b1 - 128)) * 64 + (b2 - 128) < 2048 ∨ (55296 ≤ ((c - 224) * 64 + (b1 - 128)) * 64 + (b2 - 128) ∧ ((c - 224) * 64 + (b1 - 128)) * 64 + (b2 - 128) ≤ 57343) then (65533, 1) else (((c - 224) * 64 + (b1 - 128)) * 64 + (b2 - 128), 3)) else (65533, 1))
    else if 240 ≤ c ∧ c ≤ 244 then (if (1 < n ∧ 128 ≤ b1 ∧ b1 ≤ 191) ∧ (2 < n ∧ 128 ≤ b2 ∧ b2 ≤ 191) ∧ (3 < n ∧ 128 ≤ b3 ∧ b3 ≤ 191) then (if (((c - 240) * 64 + (b1 - 128)) * 64 + (b2 - 128)) * 64 + (b3 - 128) < 65536 ∨ 1114111 < (((c - 240) * 64 + (b1 - 128)) * 64 + (b2 - 128)) * 64 + (b3 - 128) then (65533, 1) else ((((c - 240) * 64 + (b1 - 128)) * 64 + (b2 - 128)) * 64 + (b3 - 128), 4)) else (65533, 1))
    else (65533, 1) := by
  unfold Lib.decodeN
  repeat' split
  all_goals first
    | rfl
    | (exfalso; omega)
    | exact Prod.ext (by dsimp only; omega) rfl
theorem dec_by (l : List UInt8) (hl : 0 < l.length) (c : Nat) (hc : (l.getD 0 0).toNat = c) : Lib.decodeL l =
    if c < 128 then (c, 1)
    else if 194 ≤ c ∧ c ≤ 223 then (if ct l 1 then ((c - 192) * 64 + vv l 1, 2) else (65533, 1))
    else if 224 ≤ c ∧ c ≤ 239 then (if ct l 1 ∧ ct l 2 then (if ((c - 224) * 64 + vv l 1) * 64 + vv l 2 < 2048 ∨ (55296 ≤ ((c - 224) * 64 + vv l 1) * 64 + vv l 2 ∧ ((c - 224) * 64 + vv l 1) * 64 + vv l 2 ≤ 57343) then (65533, 1) else (((c - 224) * 64 + vv l 1) * 64 + vv l 2, 3)) else (65533, 1))
    else if 240 ≤ c ∧ c ≤ 244 then (if ct l 1 ∧ ct l 2 ∧ ct l 3 then (if (((c - 240) * 64 + vv l 1) * 64 + vv l 2) * 64 + vv l 3 < 65536 ∨ 1114111 < (((c - 240) * 64 + vv l 1) * 64 + vv l 2) * 64 + vv l 3 then (65533, 1) else ((((c - 240) * 64 + vv l 1) * 64 + vv l 2) * 64 + vv l 3, 4)) else (65533, 1))
    else (65533, 1) := by
  rw [Lib.decodeL_N, hc]
  exact dec_num _ c _ _ _ (by rw [← hc]; exact UInt8.toNat_lt _) (UInt8.toNat_lt _) (UInt8.toNat_lt _) (UInt8.toNat_lt _)
set_option maxRecDepth 10000 in
theorem more_yes (s : ByteArray) (i k : Nat) (w : World) (hs : s.size ≤ 1000000) (h : ct ((bl s).drop i) k) (j : Int) (hj : j = ((i + k : Nat) : Int)) :
    Calls Tryd.prog 86 #[.string s, .int .i64 j] w fun e w' => e = .returned (.tuple #[.int .i32 (vv ((bl s).drop i) k : Int), .bool true]) ∧ w = w' := by
  subst hj
  have hlen := bl_len s
  obtain ⟨h1, h2, h3⟩ := h
  rw [List.length_drop] at h1
  obtain ⟨b, hb⟩ : ∃ b, (bl s)[i + k]? = some b := ⟨_, List.getElem?_eq_getElem (by omega)⟩
  have hbv : ((bl s).drop i).getD k 0 = b := by rw [List.getD_eq_getElem?_getD, List.getElem?_drop, hb]; rfl
  unfold vv
  rw [hbv] at h2 h3 ⊢
  refine calls_vc Tryd.func86 rfl (by kernel_rfl) ?_
  ((conv => whnf); (repeat ((first | (refine VL.cons ?_) | (refine VL.nil ?_) | (refine VC.seqS rfl ?_) | (refine VC.region ?_)); (conv => whnf))))
  (repeat (first | ((first | (refine VL.cons ?_) | (refine VL.nil ?_) | (refine VC.seqS rfl ?_) | (refine VC.region ?_) | (refine VC.cond ?_) | (refine VC.ret ?_) | (refine VC.skip ?_) | (refine VBool.f ?_) | (refine VBool.dF (by omega) ?_) | (refine VRead.lenT ?_) | (refine VSem.convI ?_) | (refine VC.seq ?_)); (conv => whnf)) | (refine VRead.idxT hb ?_; (conv => whnf)) | (refine VWrap.u8 (by omega) (by omega) ?_; (conv => whnf)) | (refine VWrap.i32' (by omega) (by omega) ?_; (conv => whnf))))
  refine ⟨?_, rfl⟩
  rw [show ((b.toNat - 128 : Nat) : Int) = (b.toNat : Int) - 128 by omega]
  rfl
set_option maxRecDepth 10000 in
theorem more_no (s : ByteArray) (i k : Nat) (w : World) (hs : s.size ≤ 1000000) (h : ¬ ct ((bl s).drop i) k) (j : Int) (hj : j = ((i + k : Nat) : Int)) (hi : i + k ≤ 1000004) :
    Calls Tryd.prog 86 #[.string s, .int .i64 j] w fun e w' => e = .returned (.tuple #[.int .i32 0, .bool false]) ∧ w = w' := by
  subst hj
  have hlen := bl_len s
  refine calls_vc Tryd.func86 rfl (by kernel_rfl) ?_
  by_cases h1 : i + k < s.size
  · obtain ⟨b, hb⟩ : ∃ b, (bl s)[i + k]? = some b := ⟨_, List.getElem?_eq_getElem (by omega)⟩
    have hbv : ((bl s).drop i).getD k 0 = b := by rw [List.getD_eq_getElem?_getD, List.getElem?_drop, hb]; rfl
    unfold ct at h
    rw [hbv, List.length_drop] at h
    by_cases h2 : b.toNat < 128
    · ((conv => whnf); (repeat ((first | (refine VL.cons ?_) | (refine VL.nil ?_) | (refine VC.seqS rfl ?_) | (refine VC.region ?_)); (conv => whnf))))
      (repeat (first | ((first | (refine VL.cons ?_) | (refine VL.nil ?_) | (refine VC.seqS rfl ?_) | (refine VC.region ?_) | (refine VC.cond ?_) | (refine VC.ret ?_) | (refine VBool.t ?_) | (refine VBool.f ?_) | (refine VBool.dT (by omega) ?_) | (refine VBool.dF (by omega) ?_) | (refine VRead.lenT ?_) | (refine VC.seq ?_)); (conv => whnf)) | (refine VRead.idxT hb ?_; (conv => whnf))))
      exact ⟨rfl, rfl⟩
    · have h3 : 191 < b.toNat := by omega
      ((conv => whnf); (repeat ((first | (refine VL.cons ?_) | (refine VL.nil ?_) | (refine VC.seqS rfl ?_) | (refine VC.region ?_)); (conv => whnf))))
      (repeat (first | ((first | (refine VL.cons ?_) | (refine VL.nil ?_) | (refine VC.seqS rfl ?_) | (refine VC.region ?_) | (refine VC.cond ?_) | (refine VC.ret ?_) | (refine VBool.f ?_) | (refine VBool.dT (by omega) ?_) | (refine VBool.dF (by omega) ?_) | (refine VRead.lenT ?_) | (refine VC.seq ?_)); (conv => whnf)) | (refine VRead.idxT hb ?_; (conv => whnf))))
      exact ⟨rfl, rfl⟩
  · ((conv => whnf); (repeat ((first | (refine VL.cons ?_) | (refine VL.nil ?_) | (refine VC.seqS rfl ?_) | (refine VC.region ?_)); (conv => whnf))))
    ((repeat ((first | (refine VL.cons ?_) | (refine VL.nil ?_) | (refine VC.seqS rfl ?_) | (refine VC.region ?_) | (refine VC.cond ?_) | (refine VC.ret ?_) | (refine VBool.t ?_) | (refine VBool.dT (by omega) ?_) | (refine VRead.lenT ?_) | (refine VC.seq ?_)); (conv => whnf))))
    exact ⟨rfl, rfl⟩
theorem VRes.cellOne' {P : Program} {w : World} {a t T g k : Nat} {σ : Env} {cs : Array Value} {R : Ending → World → Prop} [i : TAgg P t k] (ha : σ a = .pointer (some ⟨g, 0, none⟩)) (hb : Blk w g T cs) (hs : Nat.beq cs.size k = true) (h : R (.returned (.agg cs)) w) :
    VRes P [.cell a t] σ w R := by
  have h2 := run_load_agg (P := P) i hb (Nat.eq_of_beq_eq_true hs)
  unfold Instr.loadAt Instr.sureAddr at h2
  simp only [Sem.run_bind, Sem.run_pure, Result.andThen_ok] at h2
  exact ⟨⟨_, by simp [resE, ha, asAddr, h2], h⟩⟩
/-- a piece as the reference keeps it -/
def pcA (i : Nat) (d : Nat × Nat) : Array Value := #[.int .i64 (i : Int), .int .i64 (d.2 : Int), .int .i32 (d.1 : Int), .bool (d.1 == 65533 && d.2 == 1)]
def acc (l : List UInt8) (r0 : Nat) : Nat → Nat
  | 0 => r0
  | k + 1 => acc l r0 k * 64 + vv l (k + 1)
theorem acc_le {l : List UInt8} {r0 k n : Nat} (h0 : r0 ≤ 31) (hk : k < n) (hn : n ≤ 4) (hc : ∀ j, 1 ≤ j → j ≤ k → ct l j) : acc l r0 k ≤ 33554431 := by
  have h1 : 1 ≤ k → vv l 1 < 64 := fun h => vv_lt (hc 1 (by omega) h)
  have h2 : 2 ≤ k → vv l 2 < 64 := fun h => vv_lt (hc 2 (by omega) h)
  have h3 : 3 ≤ k → vv l 3 < 64 := fun h => vv_lt (hc 3 (by omega) h)
  have : k = 0 ∨ k = 1 ∨ k = 2 ∨ k = 3 := by omega
  rcases this with rfl | rfl | rfl | rfl
  · simp only [acc, Nat.zero_add, Nat.reduceAdd]; omega
  · have := h1 (by omega); simp only [acc, Nat.zero_add, Nat.reduceAdd]; omega
  · have := h1 (by omega); have := h2 (by omega); simp only [acc, Nat.zero_add, Nat.reduceAdd]; omega
  · have := h1 (by omega); have := h2 (by omega); have := h3 (by omega); simp only [acc, Nat.zero_add, Nat.reduceAdd]; omega
set_option maxRecDepth 10000 in
set_option maxHeartbeats 4000000 in
theorem one_any (s : ByteArray) (i : Nat) (w : World) (hs : s.size ≤ 1000000) (hi : i < s.size) :
    Calls Tryd.prog 84 #[.string s, .int .i64 (i : Int)] w fun e w' => e = .returned (.agg (pcA i (Lib.decodeL ((bl s).drop i)))) ∧ Below w.heap.size w w' := by
  have hlen := bl_len s
  obtain ⟨b, hb⟩ : ∃ b, (bl s)[i]? = some b := ⟨_, List.getElem?_eq_getElem (by omega)⟩
  have hbv : ((bl s).drop i).getD 0 0 = b := by rw [List.getD_eq_getElem?_getD, List.getElem?_drop, Nat.add_zero, hb]; rfl
  have hdec := dec_by ((bl s).drop i) (by rw [List.length_drop]; omega) b.toNat (by rw [hbv])
  have hb2 := b.toNat_lt
  refine calls_vc Tryd.func84 rfl (by kernel_rfl) ?_
  ((conv => whnf); (repeat ((first | (refine VL.cons ?_) | (refine VC.seqS rfl ?_) | (refine VC.region ?_)); (conv => whnf))))
  ((repeat ((fail); (conv => whnf))))
  refine VSem.allocZ (z := .agg #[.int .i64 0, .int .i64 0, .int .i32 0, .bool false]) (by kernel_rfl) ?_
  intro w1 g hbk hg hgl hB1
  by_cases h0 : b.toNat < 128
  · rw [if_pos h0] at hdec
    rw [hdec]
    ((conv => whnf); (repeat ((first | (refine VL.cons ?_) | (refine VL.nil ?_) | (refine VC.seqS rfl ?_) | (refine VC.region ?_)); (conv => whnf))))
    (repeat (first | ((first | (refine VL.cons ?_) | (refine VL.nil ?_) | (refine VC.seqS rfl ?_) | (refine VC.region ?_) | (refine VC.cond ?_) | (refine VBool.dT (by omega) ?_) | (refine VSem.convI ?_) | (refine VC.seq ?_)); (conv => whnf)) | (refine VRead.idxT hb ?_; (conv => whnf)) | (refine VWrap.i32' (by omega) (by omega) ?_; (conv => whnf))))
    refine VRead.ofW (v := .agg #[.int .i64 (i : Int), .int .i64 1, .int .i32 (b.toNat : Int), .bool false]) (fun _ => by kernel_rfl) ?_
    ((conv => whnf); (repeat ((first | (refine VL.cons ?_)); (conv => whnf))))
    ((repeat ((fail); (conv => whnf))))
    refine VUnit.storeAB hbk rfl rfl rfl (by simp [Value.oneCell']) ?_
    intro w2 hbk2 hg2
    ((conv => whnf); (repeat ((first | (refine VL.nil ?_) | (refine VC.ret ?_)); (conv => whnf))))
    ((repeat ((fail); (conv => whnf))))
    refine VRes.cellOne' rfl hbk2 rfl ?_
    refine ⟨?_, hB1.grown hg2 (by omega) (fun k h => by have := Option.some.inj h; omega)⟩
    have : (b.toNat == 65533) = false := by rw [beq_eq_false_iff_ne]; omega
    unfold pcA
    rw [this]
    rfl
  rw [if_neg h0] at hdec
  ((conv => whnf); (repeat ((first | (refine VL.cons ?_) | (refine VL.nil ?_) | (refine VC.seqS rfl ?_) | (refine VC.region ?_)); (conv => whnf))))
  ((repeat ((fail); (conv => whnf))))
  refine VRead.idxT hb ?_
  ((conv => whnf); (repeat ((first | (refine VL.cons ?_) | (refine VL.nil ?_)); (conv => whnf))))
  ((repeat ((fail); (conv => whnf))))
  refine VC.seq ?_
  ((repeat ((first | (refine VL.cons ?_) | (refine VL.nil ?_) | (refine VC.seqS rfl ?_) | (refine VC.region ?_) | (refine VC.cond ?_) | (refine VC.skip ?_) | (refine VBool.dF (by omega) ?_)); (conv => whnf))))
  refine VC.cut [6, 7] [(6, 7), (20, 49)] (fun vs W => ∃ n0 r0 : Nat, vs = [.int .i64 (n0 : Int), .int .i32 (r0 : Int)] ∧ W = w1 ∧ ((194 ≤ b.toNat ∧ b.toNat ≤ 223 ∧ n0 = 2 ∧ r0 = b.toNat - 192) ∨ (224 ≤ b.toNat ∧ b.toNat ≤ 239 ∧ n0 = 3 ∧ r0 = b.toNat - 224) ∨ (240 ≤ b.toNat ∧ b.toNat ≤ 244 ∧ n0 = 4 ∧ r0 = b.toNat - 240) ∨ ((b.toNat < 194 ∨ 244 < b.toNat) ∧ n0 = 0 ∧ r0 = 0))) (by kernel_rfl) ?_ ?_
  · refine VC.block ?_
    by_cases q1 : 194 ≤ b.toNat
    · by_cases q2 : b.toNat ≤ 223
      · ((conv => whnf); (repeat ((first | (refine VL.cons ?_) | (refine VC.seqS rfl ?_) | (refine VC.region ?_)); (conv => whnf))))
        (repeat (first | ((first | (refine VL.cons ?_) | (refine VL.nil ?_) | (refine VC.seqS rfl ?_) | (refine VC.region ?_) | (refine VC.cond ?_) | (refine VBool.t ?_) | (refine VBool.dT (by omega) ?_) | (refine VSem.convI ?_)); (conv => whnf)) | (refine VWrap.u8 (by omega) (by omega) ?_; (conv => whnf)) | (refine VWrap.i32' (by omega) (by omega) ?_; (conv => whnf))))
        exact ⟨2, b.toNat - 192, by rw [show ((b.toNat - 192 : Nat) : Int) = (b.toNat : Int) - 192 by omega]; rfl, rfl, .inl ⟨q1, q2, rfl, rfl⟩⟩
      · by_cases q3 : b.toNat ≤ 239
        · ((conv => whnf); (repeat ((first | (refine VL.cons ?_) | (refine VC.seqS rfl ?_) | (refine VC.region ?_)); (conv => whnf))))
          (repeat (first | ((first | (refine VL.cons ?_) | (refine VL.nil ?_) | (refine VC.seqS rfl ?_) | (refine VC.region ?_) | (refine VC.cond ?_) | (refine VBool.t ?_) | (refine VBool.dT (by omega) ?_) | (refine VBool.dF (by omega) ?_) | (refine VSem.convI ?_)); (conv => whnf)) | (refine VWrap.u8 (by omega) (by omega) ?_; (conv => whnf)) | (refine VWrap.i32' (by omega) (by omega) ?_; (conv => whnf))))
          exact ⟨3, b.toNat - 224, by rw [show ((b.toNat - 224 : Nat) : Int) = (b.toNat : Int) - 224 by omega]; rfl, rfl, .inr (.inl ⟨by omega, q3, rfl, rfl⟩)⟩
        · by_cases q4 : b.toNat ≤ 244
          · ((conv => whnf); (repeat ((first | (refine VL.cons ?_) | (refine VC.seqS rfl ?_) | (refine VC.region ?_)); (conv => whnf))))
            (repeat (first | ((first | (refine VL.cons ?_) | (refine VL.nil ?_) | (refine VC.seqS rfl ?_) | (refine VC.region ?_) | (refine VC.cond ?_) | (refine VBool.t ?_) | (refine VBool.dT (by omega) ?_) | (refine VBool.dF (by omega) ?_) | (refine VSem.convI ?_)); (conv => whnf)) | (refine VWrap.u8 (by omega) (by omega) ?_; (conv => whnf)) | (refine VWrap.i32' (by omega) (by omega) ?_; (conv => whnf))))
            exact ⟨4, b.toNat - 240, by rw [show ((b.toNat - 240 : Nat) : Int) = (b.toNat : Int) - 240 by omega]; rfl, rfl, .inr (.inr (.inl ⟨by omega, q4, rfl, rfl⟩))⟩
          · ((conv => whnf); (repeat ((first | (refine VL.cons ?_) | (refine VC.seqS rfl ?_) | (refine VC.region ?_)); (conv => whnf))))
            ((repeat ((first | (refine VL.cons ?_) | (refine VL.nil ?_) | (refine VC.seqS rfl ?_) | (refine VC.region ?_) | (refine VC.cond ?_) | (refine VC.skip ?_) | (refine VBool.t ?_) | (refine VBool.dT (by omega) ?_) | (refine VBool.dF (by omega) ?_)); (conv => whnf))))
            exact ⟨0, 0, rfl, rfl, .inr (.inr (.inr ⟨by omega, rfl, rfl⟩))⟩
    · ((conv => whnf); (repeat ((first | (refine VL.cons ?_) | (refine VC.seqS rfl ?_) | (refine VC.region ?_)); (conv => whnf))))
      ((repeat ((first | (refine VL.cons ?_) | (refine VL.nil ?_) | (refine VC.seqS rfl ?_) | (refine VC.region ?_) | (refine VC.cond ?_) | (refine VC.skip ?_) | (refine VBool.f ?_) | (refine VBool.dF (by omega) ?_)); (conv => whnf))))
      exact ⟨0, 0, rfl, rfl, .inr (.inr (.inr ⟨by omega, rfl, rfl⟩))⟩
  rintro τ0 vs W ⟨n0, r0, rfl, rfl, hcl⟩
  have hn4 : n0 ≤ 4 ∧ r0 ≤ 31 := by omega
  ((conv => whnf); (repeat ((fail); (conv => whnf))))
  ((repeat ((fail); (conv => whnf))))
  refine VC.cut [6, 7] [(6, 10), (50, 68)] (fun vs W' => ∃ (n r : Int), vs = [.int .i64 n, .int .i32 r] ∧ W' = W ∧ -2147483648 ≤ r ∧ r ≤ 2147483647 ∧ ((n = n0 ∧ r = (acc ((bl s).drop i) r0 (n0 - 1) : Nat) ∧ ∀ j, 1 ≤ j → j < n0 → ct ((bl s).drop i) j) ∨ (n = 0 ∧ ∃ j, 1 ≤ j ∧ j < n0 ∧ ¬ ct ((bl s).drop i) j))) (by kernel_rfl) ?_ ?_
  · ((conv => whnf); (repeat ((first | (refine VL.cons ?_) | (refine VL.nil ?_) | (refine VC.seqS rfl ?_) | (refine VC.region ?_) | (refine VC.block ?_)); (conv => whnf))))
    refine VC.loop [6, 7, 8] [(6, 10), (50, 68)] (fun q vs W' => ∃ k : Nat, vs = [.int .i64 (n0 : Int), .int .i32 (acc ((bl s).drop i) r0 k : Nat), .int .i64 ((k + 1 : Nat) : Int)] ∧ q = 4 - k ∧ (k = 0 ∨ k < n0) ∧ (∀ j, 1 ≤ j → j ≤ k → ct ((bl s).drop i) j) ∧ W' = W) (by kernel_rfl)
      ⟨_, 0, rfl, rfl, .inl rfl, (by intro j h1 h2; omega), rfl⟩ ?_
    rintro q τ vs W' ⟨k, rfl, rfl, hk, hct, rfl⟩
    have hac : acc ((bl s).drop i) r0 k ≤ 33554431 := acc_le (n := 4) hn4.2 (by omega) (by omega) hct
    by_cases hlt : k + 1 < n0
    · by_cases hc : ct ((bl s).drop i) (k + 1)
      · have hct2 : ∀ j, 1 ≤ j → j ≤ k + 1 → ct ((bl s).drop i) j := fun j h1 h2 => by
          by_cases e : j = k + 1
          · rw [e]; exact hc
          · exact hct j h1 (by omega)
        have hac2 : acc ((bl s).drop i) r0 k * 64 + vv ((bl s).drop i) (k + 1) ≤ 33554431 := acc_le (k := k + 1) (n := 4) hn4.2 (by omega) (by omega) hct2
        ((conv => whnf); (repeat ((fail); (conv => whnf))))
        ((repeat ((first | (refine VL.cons ?_) | (refine VL.nil ?_) | (refine VC.seqS rfl ?_) | (refine VC.region ?_) | (refine VC.cond ?_) | (refine VC.block ?_) | (refine VC.skip ?_) | (refine VBool.dT (by omega) ?_) | (refine VWrap.i64 (by omega) (by omega) ?_) | (refine VC.seq ?_)); (conv => whnf))))
        refine VCall.of (more_yes s i (k + 1) W' hs hc _ (by omega)) ?_
        rintro e W2 ⟨rfl, rfl⟩
        refine ⟨_, rfl, ?_⟩
        ((conv => whnf); (repeat ((first | (refine VL.cons ?_) | (refine VL.nil ?_)); (conv => whnf))))
        (repeat (first | ((first | (refine VL.cons ?_) | (refine VL.nil ?_) | (refine VC.seqS rfl ?_) | (refine VC.region ?_) | (refine VC.cond ?_) | (refine VC.skip ?_) | (refine VBool.f ?_) | (refine VWrap.i64 (by omega) (by omega) ?_) | (refine VC.seq ?_)); (conv => whnf)) | (refine VWrap.i32' (by omega) (by omega) ?_; (conv => whnf))))
        exact ⟨_, by omega, k + 1, by rw [show ((acc ((bl s).drop i) r0 (k + 1) : Nat) : Int) = (acc ((bl s).drop i) r0 k : Int) * 64 + (vv ((bl s).drop i) (k + 1) : Int) by simp only [acc]; omega]; rfl, rfl, .inr hlt, hct2, rfl⟩
      · ((conv => whnf); (repeat ((fail); (conv => whnf))))
        ((repeat ((first | (refine VL.cons ?_) | (refine VL.nil ?_) | (refine VC.seqS rfl ?_) | (refine VC.region ?_) | (refine VC.cond ?_) | (refine VC.block ?_) | (refine VC.skip ?_) | (refine VBool.dT (by omega) ?_) | (refine VWrap.i64 (by omega) (by omega) ?_) | (refine VC.seq ?_)); (conv => whnf))))
        refine VCall.of (more_no s i (k + 1) W' hs hc _ (by omega) (by omega)) ?_
        rintro e W2 ⟨rfl, rfl⟩
        refine ⟨_, rfl, ?_⟩
        ((conv => whnf); (repeat ((first | (refine VL.cons ?_) | (refine VL.nil ?_)); (conv => whnf))))
        ((repeat ((first | (refine VL.cons ?_) | (refine VL.nil ?_) | (refine VC.seqS rfl ?_) | (refine VC.region ?_) | (refine VC.cond ?_) | (refine VC.exit ?_) | (refine VBool.t ?_) | (refine VC.seq ?_)); (conv => whnf))))
        exact ⟨0, _, rfl, rfl, by omega, by omega, .inr ⟨rfl, k + 1, by omega, hlt, hc⟩⟩
    · ((conv => whnf); (repeat ((fail); (conv => whnf))))
      ((repeat ((first | (refine VL.cons ?_) | (refine VL.nil ?_) | (refine VC.seqS rfl ?_) | (refine VC.region ?_) | (refine VC.cond ?_) | (refine VC.exit ?_) | (refine VBool.dF (by omega) ?_) | (refine VC.seq ?_)); (conv => whnf))))
      refine ⟨_, _, rfl, rfl, by omega, by omega, .inl ⟨rfl, ?_, fun j h1 h2 => hct j h1 (by omega)⟩⟩
      rw [show n0 - 1 = k by omega]
  rintro τ1 vs W' ⟨n, r, rfl, rfl, hr1, hr2, hcase⟩
  rcases hcase with ⟨rfl, rfl, hall⟩ | ⟨rfl, j, hj1, hj2, hj3⟩
  · rcases hcl with ⟨q1, q2, rfl, rfl⟩ | ⟨q1, q2, rfl, rfl⟩ | ⟨q1, q2, rfl, rfl⟩ | ⟨q1, rfl, rfl⟩
    · rw [if_pos ⟨q1, q2⟩, if_pos (hall 1 (by omega) (by omega))] at hdec
      have hV : acc ((bl s).drop i) (b.toNat - 192) (2 - 1) = (b.toNat - 192) * 64 + vv ((bl s).drop i) 1 := rfl
      rw [hdec]
      rw [hV] at hr1 hr2 ⊢
      clear hdec hV hall
      generalize (b.toNat - 192) * 64 + vv ((bl s).drop i) 1 = V at hr1 hr2 ⊢
      ((conv => whnf); (repeat ((fail); (conv => whnf))))
      ((repeat ((first | (refine VL.cons ?_) | (refine VL.nil ?_) | (refine VC.seqS rfl ?_) | (refine VC.region ?_) | (refine VC.cond ?_) | (refine VC.skip ?_) | (refine VBool.f ?_) | (refine VC.seq ?_)); (conv => whnf))))
      refine VRead.ofW (v := .agg #[.int .i64 (i : Int), .int .i64 (2 : Nat), .int .i32 (V : Int), .bool false]) (fun _ => by kernel_rfl) ?_
      ((conv => whnf); (repeat ((first | (refine VL.cons ?_)); (conv => whnf))))
      ((repeat ((fail); (conv => whnf))))
      refine VUnit.storeAB hbk rfl rfl rfl (by simp [Value.oneCell']) ?_
      intro w2 hbk2 hg2
      ((conv => whnf); (repeat ((first | (refine VL.nil ?_) | (refine VC.ret ?_)); (conv => whnf))))
      ((repeat ((fail); (conv => whnf))))
      refine VRes.cellOne' rfl hbk2 rfl ?_
      refine ⟨?_, hB1.grown hg2 (by omega) (fun k h => by have := Option.some.inj h; omega)⟩
      unfold pcA
      rw [show (V == 65533 && 2 == 1) = false by simp]
      rfl
    · rw [if_neg (by omega), if_pos ⟨q1, q2⟩, if_pos ⟨hall 1 (by omega) (by omega), hall 2 (by omega) (by omega)⟩] at hdec
      have hV : acc ((bl s).drop i) (b.toNat - 224) (3 - 1) = ((b.toNat - 224) * 64 + vv ((bl s).drop i) 1) * 64 + vv ((bl s).drop i) 2 := rfl
      rw [hdec]
      rw [hV] at hr1 hr2 ⊢
      clear hdec hV hall
      generalize ((b.toNat - 224) * 64 + vv ((bl s).drop i) 1) * 64 + vv ((bl s).drop i) 2 = V at hr1 hr2 ⊢
      by_cases hb1 : V < 2048
      · rw [if_pos (.inl hb1)]
        ((conv => whnf); (repeat ((fail); (conv => whnf))))
        ((repeat ((first | (refine VL.cons ?_) | (refine VL.nil ?_) | (refine VC.seqS rfl ?_) | (refine VC.region ?_) | (refine VC.cond ?_) | (refine VBool.t ?_) | (refine VBool.dT (by omega) ?_) | (refine VC.seq ?_)); (conv => whnf))))
        refine VRead.ofW (v := .agg #[.int .i64 (i : Int), .int .i64 1, .int .i32 65533, .bool true]) (fun _ => by kernel_rfl) ?_
        ((conv => whnf); (repeat ((first | (refine VL.cons ?_)); (conv => whnf))))
        ((repeat ((fail); (conv => whnf))))
        refine VUnit.storeAB hbk rfl rfl rfl (by simp [Value.oneCell']) ?_
        intro w2 hbk2 hg2
        ((conv => whnf); (repeat ((first | (refine VL.nil ?_) | (refine VC.ret ?_)); (conv => whnf))))
        ((repeat ((fail); (conv => whnf))))
        refine VRes.cellOne' rfl hbk2 rfl ?_
        exact ⟨rfl, hB1.grown hg2 (by omega) (fun k h => by have := Option.some.inj h; omega)⟩
      by_cases hb2 : 55296 ≤ V
      · by_cases hb3 : V ≤ 57343
        · rw [if_pos (.inr ⟨hb2, hb3⟩)]
          ((conv => whnf); (repeat ((fail); (conv => whnf))))
          ((repeat ((first | (refine VL.cons ?_) | (refine VL.nil ?_) | (refine VC.seqS rfl ?_) | (refine VC.region ?_) | (refine VC.cond ?_) | (refine VBool.t ?_) | (refine VBool.f ?_) | (refine VBool.dT (by omega) ?_) | (refine VBool.dF (by omega) ?_) | (refine VC.seq ?_)); (conv => whnf))))
          refine VRead.ofW (v := .agg #[.int .i64 (i : Int), .int .i64 1, .int .i32 65533, .bool true]) (fun _ => by kernel_rfl) ?_
          ((conv => whnf); (repeat ((first | (refine VL.cons ?_)); (conv => whnf))))
          ((repeat ((fail); (conv => whnf))))
          refine VUnit.storeAB hbk rfl rfl rfl (by simp [Value.oneCell']) ?_
          intro w2 hbk2 hg2
          ((conv => whnf); (repeat ((first | (refine VL.nil ?_) | (refine VC.ret ?_)); (conv => whnf))))
          ((repeat ((fail); (conv => whnf))))
          refine VRes.cellOne' rfl hbk2 rfl ?_
          exact ⟨rfl, hB1.grown hg2 (by omega) (fun k h => by have := Option.some.inj h; omega)⟩
        · rw [if_neg (by omega)]
          ((conv => whnf); (repeat ((fail); (conv => whnf))))
          ((repeat ((first | (refine VL.cons ?_) | (refine VL.nil ?_) | (refine VC.seqS rfl ?_) | (refine VC.region ?_) | (refine VC.cond ?_) | (refine VC.skip ?_) | (refine VBool.t ?_) | (refine VBool.f ?_) | (refine VBool.dT (by omega) ?_) | (refine VBool.dF (by omega) ?_) | (refine VC.seq ?_)); (conv => whnf))))
          refine VRead.ofW (v := .agg #[.int .i64 (i : Int), .int .i64 (3 : Nat), .int .i32 (V : Int), .bool false]) (fun _ => by kernel_rfl) ?_
          ((conv => whnf); (repeat ((first | (refine VL.cons ?_)); (conv => whnf))))
          ((repeat ((fail); (conv => whnf))))
          refine VUnit.storeAB hbk rfl rfl rfl (by simp [Value.oneCell']) ?_
          intro w2 hbk2 hg2
          ((conv => whnf); (repeat ((first | (refine VL.nil ?_) | (refine VC.ret ?_)); (conv => whnf))))
          ((repeat ((fail); (conv => whnf))))
          refine VRes.cellOne' rfl hbk2 rfl ?_
          refine ⟨?_, hB1.grown hg2 (by omega) (fun k h => by have := Option.some.inj h; omega)⟩
          unfold pcA
          rw [show (V == 65533 && 3 == 1) = false by simp]
          rfl
      · rw [if_neg (by omega)]
        ((conv => whnf); (repeat ((fail); (conv => whnf))))
        ((repeat ((first | (refine VL.cons ?_) | (refine VL.nil ?_) | (refine VC.seqS rfl ?_) | (refine VC.region ?_) | (refine VC.cond ?_) | (refine VC.skip ?_) | (refine VBool.t ?_) | (refine VBool.f ?_) | (refine VBool.dF (by omega) ?_) | (refine VC.seq ?_)); (conv => whnf))))
        refine VRead.ofW (v := .agg #[.int .i64 (i : Int), .int .i64 (3 : Nat), .int .i32 (V : Int), .bool false]) (fun _ => by kernel_rfl) ?_
        ((conv => whnf); (repeat ((first | (refine VL.cons ?_)); (conv => whnf))))
        ((repeat ((fail); (conv => whnf))))
        refine VUnit.storeAB hbk rfl rfl rfl (by simp [Value.oneCell']) ?_
        intro w2 hbk2 hg2
        ((conv => whnf); (repeat ((first | (refine VL.nil ?_) | (refine VC.ret ?_)); (conv => whnf))))
        ((repeat ((fail); (conv => whnf))))
        refine VRes.cellOne' rfl hbk2 rfl ?_
        refine ⟨?_, hB1.grown hg2 (by omega) (fun k h => by have := Option.some.inj h; omega)⟩
        unfold pcA
        rw [show (V == 65533 && 3 == 1) = false by simp]
        rfl
    · rw [if_neg (by omega), if_neg (by omega), if_pos ⟨q1, q2⟩, if_pos ⟨hall 1 (by omega) (by omega), hall 2 (by omega) (by omega), hall 3 (by omega) (by omega)⟩] at hdec
      have hV : acc ((bl s).drop i) (b.toNat - 240) (4 - 1) = (((b.toNat - 240) * 64 + vv ((bl s).drop i) 1) * 64 + vv ((bl s).drop i) 2) * 64 + vv ((bl s).drop i) 3 := rfl
      rw [hdec]
      rw [hV] at hr1 hr2 ⊢
      clear hdec hV hall
      generalize (((b.toNat - 240) * 64 + vv ((bl s).drop i) 1) * 64 + vv ((bl s).drop i) 2) * 64 + vv ((bl s).drop i) 3 = V at hr1 hr2 ⊢
      by_cases hb1 : V < 65536
      · rw [if_pos (.inl hb1)]
        have hi1 : (V : Int) < 65536 := by omega
        clear hb1
        ((conv => whnf); (repeat ((fail); (conv => whnf))))
        refine VC.seq ?_
        ((conv => whnf); (repeat ((first | (refine VL.cons ?_) | (refine VC.seqS rfl ?_) | (refine VC.region ?_)); (conv => whnf))))
        (iterate 28 ((first | (refine VL.cons ?_) | (refine VBool.t ?_) | (refine VBool.f ?_)); (conv => whnf)))
        refine VBool.yes (decide_eq_true hi1) ?_
        clear hi1
        (conv => whnf)
        ((repeat ((first | (refine VL.cons ?_) | (refine VL.nil ?_) | (refine VC.seqS rfl ?_) | (refine VC.region ?_) | (refine VC.cond ?_) | (refine VBool.t ?_) | (refine VBool.f ?_) | (refine VC.seq ?_)); (conv => whnf))))
        refine VRead.ofW (v := .agg #[.int .i64 (i : Int), .int .i64 1, .int .i32 65533, .bool true]) (fun _ => by kernel_rfl) ?_
        ((conv => whnf); (repeat ((first | (refine VL.cons ?_)); (conv => whnf))))
        ((repeat ((fail); (conv => whnf))))
        refine VUnit.storeAB hbk rfl rfl rfl (by simp [Value.oneCell']) ?_
        intro w2 hbk2 hg2
        ((conv => whnf); (repeat ((first | (refine VL.nil ?_) | (refine VC.ret ?_)); (conv => whnf))))
        ((repeat ((fail); (conv => whnf))))
        refine VRes.cellOne' rfl hbk2 rfl ?_
        exact ⟨rfl, hB1.grown hg2 (by omega) (fun k h => by have := Option.some.inj h; omega)⟩
      by_cases hb2 : 1114111 < V
      · rw [if_pos (.inr hb2)]
        have hi1 : (65536 : Int) ≤ (V : Int) := by omega
        have hi2 : (1114111 : Int) < (V : Int) := by omega
        clear hb1 hb2
        ((conv => whnf); (repeat ((fail); (conv => whnf))))
        (repeat ((first | (refine VBool.dT (by omega) ?_) | (refine VBool.dF (by omega) ?_) | (refine VL.cons ?_) | (refine VL.nil ?_) | (refine VC.seqS rfl ?_) | (refine VC.region ?_) | (refine VC.cond ?_) | (refine VBool.t ?_) | (refine VBool.f ?_) | (refine VC.seq ?_)); (conv => whnf)))
        refine VRead.ofW (v := .agg #[.int .i64 (i : Int), .int .i64 1, .int .i32 65533, .bool true]) (fun _ => by kernel_rfl) ?_
        ((conv => whnf); (repeat ((first | (refine VL.cons ?_)); (conv => whnf))))
        ((repeat ((fail); (conv => whnf))))
        refine VUnit.storeAB hbk rfl rfl rfl (by simp [Value.oneCell']) ?_
        intro w2 hbk2 hg2
        ((conv => whnf); (repeat ((first | (refine VL.nil ?_) | (refine VC.ret ?_)); (conv => whnf))))
        ((repeat ((fail); (conv => whnf))))
        refine VRes.cellOne' rfl hbk2 rfl ?_
        exact ⟨rfl, hB1.grown hg2 (by omega) (fun k h => by have := Option.some.inj h; omega)⟩
      · rw [if_neg (by omega)]
        have hi1 : (65536 : Int) ≤ (V : Int) := by omega
        have hi2 : (V : Int) ≤ 1114111 := by omega
        clear hb1 hb2
        ((conv => whnf); (repeat ((fail); (conv => whnf))))
        (repeat ((first | (refine VBool.dT (by omega) ?_) | (refine VBool.dF (by omega) ?_) | (refine VL.cons ?_) | (refine VL.nil ?_) | (refine VC.seqS rfl ?_) | (refine VC.region ?_) | (refine VC.cond ?_) | (refine VC.skip ?_) | (refine VBool.t ?_) | (refine VBool.f ?_) | (refine VC.seq ?_)); (conv => whnf)))
        refine VRead.ofW (v := .agg #[.int .i64 (i : Int), .int .i64 (4 : Nat), .int .i32 (V : Int), .bool false]) (fun _ => by kernel_rfl) ?_
        ((conv => whnf); (repeat ((first | (refine VL.cons ?_)); (conv => whnf))))
        ((repeat ((fail); (conv => whnf))))
        refine VUnit.storeAB hbk rfl rfl rfl (by simp [Value.oneCell']) ?_
        intro w2 hbk2 hg2
        ((conv => whnf); (repeat ((first | (refine VL.nil ?_) | (refine VC.ret ?_)); (conv => whnf))))
        ((repeat ((fail); (conv => whnf))))
        refine VRes.cellOne' rfl hbk2 rfl ?_
        refine ⟨?_, hB1.grown hg2 (by omega) (fun k h => by have := Option.some.inj h; omega)⟩
        unfold pcA
        rw [show (V == 65533 && 4 == 1) = false by simp]
        rfl
    · rw [if_neg (by omega), if_neg (by omega), if_neg (by omega)] at hdec
      rw [hdec]
      ((conv => whnf); (repeat ((fail); (conv => whnf))))
      ((repeat ((first | (refine VL.cons ?_) | (refine VL.nil ?_) | (refine VC.seqS rfl ?_) | (refine VC.region ?_) | (refine VC.cond ?_) | (refine VC.skip ?_) | (refine VBool.t ?_) | (refine VBool.f ?_) | (refine VC.seq ?_)); (conv => whnf))))
      refine VRead.ofW (v := .agg #[.int .i64 (i : Int), .int .i64 1, .int .i32 65533, .bool true]) (fun _ => by kernel_rfl) ?_
      ((conv => whnf); (repeat ((first | (refine VL.cons ?_)); (conv => whnf))))
      ((repeat ((fail); (conv => whnf))))
      refine VUnit.storeAB hbk rfl rfl rfl (by simp [Value.oneCell']) ?_
      intro w2 hbk2 hg2
      ((conv => whnf); (repeat ((first | (refine VL.nil ?_) | (refine VC.ret ?_)); (conv => whnf))))
      ((repeat ((fail); (conv => whnf))))
      refine VRes.cellOne' rfl hbk2 rfl ?_
      exact ⟨rfl, hB1.grown hg2 (by omega) (fun k h => by have := Option.some.inj h; omega)⟩
  · have hbad : Lib.decodeL ((bl s).drop i) = (65533, 1) := by
      rw [hdec]
      rcases hcl with ⟨q1, q2, rfl, rfl⟩ | ⟨q1, q2, rfl, rfl⟩ | ⟨q1, q2, rfl, rfl⟩ | ⟨q1, rfl, rfl⟩
      · rw [if_pos ⟨q1, q2⟩, if_neg (fun h => hj3 (by rw [show j = 1 by omega]; exact h))]
      · rw [if_neg (by omega), if_pos ⟨q1, q2⟩, if_neg]
        rintro ⟨h1, h2⟩
        rcases (by omega : j = 1 ∨ j = 2) with rfl | rfl
        · exact hj3 h1
        · exact hj3 h2
      · rw [if_neg (by omega), if_neg (by omega), if_pos ⟨q1, q2⟩, if_neg]
        rintro ⟨h1, h2, h3⟩
        rcases (by omega : j = 1 ∨ j = 2 ∨ j = 3) with rfl | rfl | rfl
        · exact hj3 h1
        · exact hj3 h2
        · exact hj3 h3
      · omega
    rw [hbad]
    ((conv => whnf); (repeat ((fail); (conv => whnf))))
    ((repeat ((first | (refine VL.cons ?_) | (refine VL.nil ?_) | (refine VC.seqS rfl ?_) | (refine VC.region ?_) | (refine VC.cond ?_) | (refine VC.skip ?_) | (refine VBool.t ?_) | (refine VBool.f ?_) | (refine VC.seq ?_)); (conv => whnf))))
    refine VRead.ofW (v := .agg #[.int .i64 (i : Int), .int .i64 1, .int .i32 65533, .bool true]) (fun _ => by kernel_rfl) ?_
    ((conv => whnf); (repeat ((first | (refine VL.cons ?_)); (conv => whnf))))
    ((repeat ((fail); (conv => whnf))))
    refine VUnit.storeAB hbk rfl rfl rfl (by simp [Value.oneCell']) ?_
    intro w2 hbk2 hg2
    ((conv => whnf); (repeat ((first | (refine VL.nil ?_) | (refine VC.ret ?_)); (conv => whnf))))
    ((repeat ((fail); (conv => whnf))))
    refine VRes.cellOne' rfl hbk2 rfl ?_
    exact ⟨rfl, hB1.grown hg2 (by omega) (fun k h => by have := Option.some.inj h; omega)⟩
end Go.Proofs.YtnjhdbgejhnpfaaDoor
end

section
namespace Go.Proofs.YtnjhdbgejhnpfaaDoor
set_option linter.unusedVariables false
open Go.RowKit

theorem p_info : (Tryd.prog.info? 113).map (fun i => (i.zero, i.size, i.bytes)) = some (some (.agg #[.int .i64 0, .int .i64 0, .int .i32 0, .bool false]), 4, 24) := by kernel_rfl
/-- the cells of a text's piece -/
def pcL (l : List UInt8) (k : Nat) : Array Value := pcA (Rn.off l k) (Lib.decodeL (l.drop (Rn.off l k)))
/-- the pieces that have come -/
def PRow (l : List UInt8) (B : Nat) (v : Value) (k : Nat) (W : World) : Prop := ∃ xs : List Value, W.ownsRow B 113 4 v k xs ∧ ∀ i, i < k → ∀ j u, (pcL l i).toList[j]? = some u → xs[4 * i + j]? = some u
theorem PRow.below {l : List UInt8} {B C : Nat} {v : Value} {k : Nat} {W W' : World} (h : PRow l B v k W) (hb : Below C W W') (hC : W.heap.size ≤ C) : PRow l B v k W' := by
  obtain ⟨xs, h1, h2⟩ := h
  exact ⟨xs, rows_below h1 hb hC, h2⟩
theorem PRow.more {l : List UInt8} {B B' : Nat} {v : Value} {k : Nat} {W : World} (h : PRow l B v k W) (hB : B' ≤ B) : PRow l B' v k W := by
  obtain ⟨xs, h1, h2⟩ := h
  exact ⟨xs, rows_more h1 hB, h2⟩
/-- the piece of a number -/
theorem PRow.at_ {l : List UInt8} {B n i c : Nat} {A : Option Addr} {W : World} (h : PRow l B (.slice A n c) n W) (hi : i < n) : ∃ g, A = some ⟨g, 0, none⟩ ∧
    W.cell? (((⟨g, 0, none⟩ : Addr).add (i * 4)).add 0) = some (.int .i64 (Rn.off l i : Int)) ∧
    W.cell? (((⟨g, 0, none⟩ : Addr).add (i * 4)).add 1) = some (.int .i64 ((Lib.decodeL (l.drop (Rn.off l i))).2 : Int)) ∧
    W.cell? (((⟨g, 0, none⟩ : Addr).add (i * 4)).add 2) = some (.int .i32 ((Lib.decodeL (l.drop (Rn.off l i))).1 : Int)) ∧
    W.cell? (((⟨g, 0, none⟩ : Addr).add (i * 4)).add 3) = some (.bool ((Lib.decodeL (l.drop (Rn.off l i))).1 == 65533 && (Lib.decodeL (l.drop (Rn.off l i))).2 == 1)) := by
  obtain ⟨xs, h1, h2⟩ := h
  obtain ⟨g, rfl⟩ := row_addr' h1 (by omega)
  have key : ∀ j u, (pcL l i).toList[j]? = some u → W.cell? (((⟨g, 0, none⟩ : Addr).add (i * 4)).add j) = some u := fun j u hj => by
    have := h1.cells rfl (4 * i + j) _ (h2 i hi j u hj)
    rw [Nat.mul_comm 4 i] at this
    by_cases h3 : i * 4 = 0 <;> by_cases h4 : j = 0 <;> simpa [Addr.add, h3, h4] using this
  exact ⟨g, rfl, key 0 _ rfl, key 1 _ rfl, key 2 _ rfl, key 3 _ rfl⟩
set_option maxRecDepth 10000 in
set_option maxHeartbeats 2000000 in
theorem pieces_any (s : ByteArray) (w : World) (hs : s.size ≤ 1000000) :
    Calls Tryd.prog 80 #[.string s] w fun e w' => ∃ A c, e = .returned (.slice A (Rn.ps (bl s)).length c) ∧ PRow (bl s) w.heap.size (.slice A (Rn.ps (bl s)).length c) (Rn.ps (bl s)).length w' ∧ Below w.heap.size w w' := by
  have hlen := bl_len s
  have hps := Rn.ps_len (bl s)
  refine calls_vc Tryd.func80 rfl (by kernel_rfl) ?_
  ((conv => whnf); (repeat ((first | (refine VL.cons ?_) | (refine VL.nil ?_) | (refine VC.seqS rfl ?_) | (refine VC.region ?_)); (conv => whnf))))
  ((repeat ((first | (refine VL.cons ?_) | (refine VL.nil ?_) | (refine VC.seqS rfl ?_) | (refine VC.region ?_) | (refine VC.block ?_) | (refine VC.seq ?_)); (conv => whnf))))
  refine VC.loop [3, 4] [(3, 20)] (fun q vs W => ∃ (k c : Nat) (A : Option Addr), vs = [.slice A k c, .int .i64 (Rn.off (bl s) k : Int)] ∧ q = (Rn.ps (bl s)).length - k ∧ k ≤ (Rn.ps (bl s)).length ∧ PRow (bl s) w.heap.size (.slice A k c) k W ∧ Below w.heap.size w W) (by kernel_rfl)
    ⟨_, 0, 0, none, by rw [Rn.off_zero]; rfl, rfl, by omega, ⟨[], World.ownsRow_nil w _ _ _, fun i hi => absurd hi (Nat.not_lt_zero i)⟩, Below.refl _ _⟩ ?_
  rintro q τ vs W ⟨k, c, A, rfl, rfl, hk, hP, hB⟩
  by_cases hlt : k < (Rn.ps (bl s)).length
  · have hoff := Rn.off_lt hlt
    have hnext := Rn.off_next hlt
    have hoL := Rn.off_le (bl s) (k + 1)
    ((conv => whnf); (repeat ((fail); (conv => whnf))))
    ((repeat ((first | (refine VL.cons ?_) | (refine VL.nil ?_) | (refine VC.seqS rfl ?_) | (refine VC.region ?_) | (refine VC.cond ?_) | (refine VC.block ?_) | (refine VC.skip ?_) | (refine VBool.dT (by omega) ?_) | (refine VRead.lenT ?_) | (refine VC.seq ?_)); (conv => whnf))))
    refine VCall.of (one_any s (Rn.off (bl s) k) W hs (by omega)) ?_
    rintro e W1 ⟨rfl, hB2⟩
    refine ⟨_, rfl, ?_⟩
    ((conv => whnf); (repeat ((first | (refine VL.cons ?_)); (conv => whnf))))
    ((repeat ((fail); (conv => whnf))))
    refine VSem.allocZ (z := .agg #[.int .i64 0, .int .i64 0, .int .i32 0, .bool false]) (by kernel_rfl) ?_
    intro W2 g hb hg hl hB3
    ((conv => whnf); (repeat ((first | (refine VL.cons ?_)); (conv => whnf))))
    ((repeat ((fail); (conv => whnf))))
    refine VUnit.storeAB hb rfl rfl rfl (by simp [Value.oneCell', pcA]) ?_
    intro W3 hb3 hg3
    have hB13 : Below W1.heap.size W1 W3 := only_new hB3 hg3 (by omega) (by omega)
    have hB03 := hB2.trans (hB13.mono hB2.size)
    ((conv => whnf); (repeat ((first | (refine VL.cons ?_) | (refine VL.nil ?_) | (refine VC.seqS rfl ?_) | (refine VC.region ?_)); (conv => whnf))))
    ((repeat ((fail); (conv => whnf))))
    refine VRead.loadAB1 hb3 rfl rfl ?_
    ((conv => whnf); (repeat ((first | (refine VL.cons ?_)); (conv => whnf))))
    ((repeat ((fail); (conv => whnf))))
    have hpc : pcA (Rn.off (bl s) k) (Lib.decodeL ((bl s).drop (Rn.off (bl s) k))) = pcL (bl s) k := rfl
    have hp1 : pcL (bl s) k = #[.int .i64 (Rn.off (bl s) k : Int), .int .i64 ((Lib.decodeL ((bl s).drop (Rn.off (bl s) k))).2 : Int), .int .i32 ((Lib.decodeL ((bl s).drop (Rn.off (bl s) k))).1 : Int), .bool ((Lib.decodeL ((bl s).drop (Rn.off (bl s) k))).1 == 65533 && (Lib.decodeL ((bl s).drop (Rn.off (bl s) k))).2 == 1)] := rfl
    refine VSem.of (v := .slice (some ⟨W3.heap.size, 0, none⟩) 1 1) (w' := W3.alloc (.cells (pcA (Rn.off (bl s) k) (Lib.decodeL ((bl s).drop (Rn.off (bl s) k)))) 113)) (by kernel_rfl) ?_
    have hnew := Blk.new W3 113 (pcA (Rn.off (bl s) k) (Lib.decodeL ((bl s).drop (Rn.off (bl s) k))))
    have hsz : (W3.alloc (.cells (pcA (Rn.off (bl s) k) (Lib.decodeL ((bl s).drop (Rn.off (bl s) k)))) 113)).heap.size = W3.heap.size + 1 := by simp
    have hB4 : Below W.heap.size W (W3.alloc (.cells (pcA (Rn.off (bl s) k) (Lib.decodeL ((bl s).drop (Rn.off (bl s) k)))) 113)) := hB03.alloc hB03.size _
    have hb4 := hb3.alloc (.cells (pcA (Rn.off (bl s) k) (Lib.decodeL ((bl s).drop (Rn.off (bl s) k)))) 113)
    generalize W3.alloc (.cells (pcA (Rn.off (bl s) k) (Lib.decodeL ((bl s).drop (Rn.off (bl s) k)))) 113) = W4 at *
    ((conv => whnf); (repeat ((first | (refine VL.cons ?_)); (conv => whnf))))
    ((repeat ((fail); (conv => whnf))))
    obtain ⟨xs, hrow0, hels0⟩ := hP
    have hrow4 := rows_below hrow0 hB4 (Nat.le_refl _)
    have hwB : w.heap.size ≤ W.heap.size := hB.size
    have hReads : Reads W4 W4.heap.size 4 (some ⟨W3.heap.size, 0, none⟩) 1 (pcA (Rn.off (bl s) k) (Lib.decodeL ((bl s).drop (Rn.off (bl s) k)))).toList := by
      refine ⟨rfl, fun _ => ⟨_, rfl, by show W3.heap.size < _; omega, fun j u hu => ?_⟩⟩
      rw [show (⟨W3.heap.size, 0, none⟩ : Addr).add j = ⟨W3.heap.size, j, none⟩ from by unfold Addr.add; split <;> simp_all, hnew.cell j]
      simpa using hu
    obtain ⟨i0, hi0, hz0, hz1, hz2⟩ := info_parts p_info
    refine VSem.appR (base := w.heap.size) Tryd.underlying110 hi0 hz0 hz1 hz2 rfl (by decide) hrow4 hReads (by simp [Value.oneCell', pcA]) (by simp only [maxLen]; omega) (by omega) (by have := hB4.size; omega) ?_
    intro A6 c6 W6 hrow6 hg6 _
    have hlt6 := World.ownsRow.lt hrow0
    have hb6 := hb4.grown hg6 (fun e => by have := (hlt6 g e.symm).2; have := hB2.size; omega)
    have hB6 : Below w.heap.size w W6 := (hB.trans (hB4.mono hB.size)).grown hg6 (by have := hB4.size; omega) (fun j hj => (hlt6 j hj).1)
    have hxl := hrow0.1
    have hP6 : PRow (bl s) w.heap.size (.slice A6 (k + 1) c6) (k + 1) W6 := by
      refine ⟨_, hrow6, fun i hi j u hj => ?_⟩
      have hj4 : j < 4 := by have := (List.getElem?_eq_some_iff.1 hj).1; simpa [pcL, pcA] using this
      rcases Nat.lt_or_ge i k with h | h
      · rw [List.getElem?_append_left (by omega)]; exact hels0 i h j u hj
      · obtain rfl : i = k := by omega
        rw [List.getElem?_append_right (by omega), show 4 * i + j - xs.length = j by omega]; exact hj
    ((conv => whnf); (repeat ((first | (refine VL.cons ?_) | (refine VL.nil ?_) | (refine VC.region ?_)); (conv => whnf))))
    ((repeat ((first | (refine VL.cons ?_) | (refine VRead.fld ?_)); (conv => whnf))))
    refine VRead.loadB hb6 rfl rfl ?_
    ((conv => whnf); (repeat ((first | (refine VL.cons ?_)); (conv => whnf))))
    ((repeat ((first | (refine VL.cons ?_) | (refine VL.nil ?_) | (refine VWrap.i64 (by omega) (by omega) ?_)); (conv => whnf))))
    exact ⟨_, by omega, k + 1, c6, A6, by rw [hnext]; rfl, rfl, by omega, hP6, hB6⟩
  · obtain rfl : k = (Rn.ps (bl s)).length := by omega
    rw [Rn.off_end (Nat.le_refl _)]
    ((conv => whnf); (repeat ((fail); (conv => whnf))))
    ((repeat ((first | (refine VL.cons ?_) | (refine VL.nil ?_) | (refine VC.seqS rfl ?_) | (refine VC.region ?_) | (refine VC.cond ?_) | (refine VC.exit ?_) | (refine VC.ret ?_) | (refine VBool.dF (by omega) ?_) | (refine VRead.lenT ?_) | (refine VC.seq ?_)); (conv => whnf))))
    exact ⟨A, c, rfl, hP, hB⟩
theorem refCount_any (s : ByteArray) (w : World) (hs : s.size ≤ 1000000) :
    Calls Tryd.prog 71 #[.string s] w fun e w' => e = .returned (.int .i64 (Rn.ps (bl s)).length) ∧ Below w.heap.size w w' := by
  refine calls_vc Tryd.func71 rfl (by kernel_rfl) ?_
  ((conv => whnf); (repeat ((first | (refine VL.cons ?_) | (refine VL.nil ?_) | (refine VC.seqS rfl ?_) | (refine VC.region ?_)); (conv => whnf))))
  ((repeat ((fail); (conv => whnf))))
  refine VCall.of (pieces_any s w hs) ?_
  rintro e w1 ⟨A, c, rfl, hP, hB⟩
  refine ⟨_, rfl, ?_⟩
  ((conv => whnf); (repeat ((first | (refine VL.cons ?_)); (conv => whnf))))
  ((repeat ((first | (refine VL.cons ?_) | (refine VL.nil ?_) | (refine VC.ret ?_) | (refine VRead.lenS ?_)); (conv => whnf))))
  exact ⟨rfl, hB⟩
theorem valid_yes {l : List UInt8} (h : ∀ k, k < (Rn.ps l).length → ((Lib.decodeL (l.drop (Rn.off l k))).1 == 65533 && (Lib.decodeL (l.drop (Rn.off l k))).2 == 1) = false) : Lib.validD l = true := by
  rw [Rn.valid_iff]
  intro p hp
  obtain ⟨k, hk, rfl⟩ := List.getElem_of_mem hp
  have hg := Rn.ps_get hk
  rw [List.getElem?_eq_getElem hk] at hg
  injection hg with hg
  have ho := Rn.off_lt hk
  have hwle := Lib.decodeL_le (l.drop (Rn.off l k)) (fun e => by have := congrArg List.length e; simp at this; omega)
  rw [hg]
  unfold Rn.bad
  simp only [List.length_take, Nat.min_eq_left hwle]
  exact h k hk
theorem valid_no {l : List UInt8} {k : Nat} (hk : k < (Rn.ps l).length) (h : ((Lib.decodeL (l.drop (Rn.off l k))).1 == 65533 && (Lib.decodeL (l.drop (Rn.off l k))).2 == 1) = true) : Lib.validD l = false := by
  cases hv : Lib.validD l
  · rfl
  · rw [Rn.valid_iff] at hv
    have hg := Rn.ps_get hk
    have ho := Rn.off_lt hk
    have hwle := Lib.decodeL_le (l.drop (Rn.off l k)) (fun e => by have := congrArg List.length e; simp at this; omega)
    have := hv _ (List.mem_of_getElem? hg)
    unfold Rn.bad at this
    simp only [List.length_take, Nat.min_eq_left hwle] at this
    rw [h] at this
    cases this
set_option maxRecDepth 10000 in
theorem refValid_any (s : ByteArray) (w : World) (hs : s.size ≤ 1000000) :
    Calls Tryd.prog 70 #[.string s] w fun e w' => e = .returned (.bool (Lib.validD (bl s))) ∧ Below w.heap.size w w' := by
  have hlen := bl_len s
  have hps := Rn.ps_len (bl s)
  refine calls_vc Tryd.func70 rfl (by kernel_rfl) ?_
  ((conv => whnf); (repeat ((first | (refine VL.cons ?_) | (refine VL.nil ?_) | (refine VC.seqS rfl ?_) | (refine VC.region ?_)); (conv => whnf))))
  ((repeat ((fail); (conv => whnf))))
  refine VCall.of (pieces_any s w hs) ?_
  rintro e w1 ⟨A0, c0, rfl, hP, hB1⟩
  refine ⟨_, rfl, ?_⟩
  ((conv => whnf); (repeat ((first | (refine VL.cons ?_) | (refine VL.nil ?_)); (conv => whnf))))
  ((repeat ((first | (refine VL.cons ?_) | (refine VL.nil ?_) | (refine VC.seqS rfl ?_) | (refine VC.region ?_) | (refine VC.block ?_) | (refine VC.seq ?_)); (conv => whnf))))
  refine VC.loop [4] [(2, 2), (4, 4), (7, 17)] (fun q vs W => ∃ (k : Nat), vs = [.int .i64 (k : Int)] ∧ q = (Rn.ps (bl s)).length - k ∧ k ≤ (Rn.ps (bl s)).length ∧ (∀ i, i < k → ((Lib.decodeL ((bl s).drop (Rn.off (bl s) i))).1 == 65533 && (Lib.decodeL ((bl s).drop (Rn.off (bl s) i))).2 == 1) = false) ∧ W = w1) (by kernel_rfl)
    ⟨_, 0, rfl, rfl, by omega, fun i hi => absurd hi (Nat.not_lt_zero i), rfl⟩ ?_
  rintro q τ vs W ⟨k, rfl, rfl, hk, hno, rfl⟩
  by_cases hlt : k < (Rn.ps (bl s)).length
  · obtain ⟨g, rfl, f0, f1, f2, f3⟩ := hP.at_ hlt
    cases hbad : ((Lib.decodeL ((bl s).drop (Rn.off (bl s) k))).1 == 65533 && (Lib.decodeL ((bl s).drop (Rn.off (bl s) k))).2 == 1)
    · rw [hbad] at f3
      ((conv => whnf); (repeat ((fail); (conv => whnf))))
      (repeat (first | ((first | (refine VL.cons ?_) | (refine VL.nil ?_) | (refine VC.seqS rfl ?_) | (refine VC.region ?_) | (refine VC.cond ?_) | (refine VC.block ?_) | (refine VC.skip ?_) | (refine VBool.f ?_) | (refine VBool.dT (by omega) ?_) | (refine VRead.lenS ?_) | (refine VRead.fld ?_) | (refine VRead.load1 (by assumption) ?_) | (refine VWrap.i64 (by omega) (by omega) ?_) | (refine VC.seq ?_)); (conv => whnf)) | (refine VRead.atK hlt ?_; (conv => whnf)) | (refine VRead.load1 f3 ?_; (conv => whnf))))
      refine ⟨_, by omega, k + 1, rfl, rfl, by omega, fun i hi => ?_, rfl⟩
      rcases Nat.lt_or_ge i k with h | h
      · exact hno i h
      · obtain rfl : i = k := by omega
        exact hbad
    · rw [hbad] at f3
      ((conv => whnf); (repeat ((fail); (conv => whnf))))
      (repeat (first | ((first | (refine VL.cons ?_) | (refine VL.nil ?_) | (refine VC.seqS rfl ?_) | (refine VC.region ?_) | (refine VC.cond ?_) | (refine VC.block ?_) | (refine VC.ret ?_) | (refine VC.skip ?_) | (refine VBool.t ?_) | (refine VBool.dT (by omega) ?_) | (refine VRead.lenS ?_) | (refine VRead.fld ?_) | (refine VRead.load1 (by assumption) ?_) | (refine VC.seq ?_)); (conv => whnf)) | (refine VRead.atK hlt ?_; (conv => whnf)) | (refine VRead.load1 f3 ?_; (conv => whnf))))
      exact ⟨by rw [valid_no hlt hbad]; rfl, hB1⟩
  · ((conv => whnf); (repeat ((fail); (conv => whnf))))
    ((repeat ((first | (refine VL.cons ?_) | (refine VL.nil ?_) | (refine VC.seqS rfl ?_) | (refine VC.region ?_) | (refine VC.cond ?_) | (refine VC.exit ?_) | (refine VC.ret ?_) | (refine VBool.dF (by omega) ?_) | (refine VRead.lenS ?_) | (refine VC.seq ?_)); (conv => whnf))))
    exact ⟨by rw [valid_yes (fun i hi => hno i (by omega))]; rfl, hB1⟩
end Go.Proofs.YtnjhdbgejhnpfaaDoor
end

section
namespace Go.Proofs.YtnjhdbgejhnpfaaDoor
open Go.Shelf
def Tryd.lays195_ren : Go.Shelf.Ren := ⟨fun | 195 => 83 | n => n, fun | 0 => 0 | 3 => 3 | 4 => 4 | 9 => 9 | n => n, fun n => n⟩
theorem Tryd.lays195 : Go.Proofs.Lays.n195 Tryd.prog Tryd.lays195_ren := {
  mixed := by kernel_rfl
  f195 := Tryd.func83.trans (congrArg some (by kernel_rfl))
  t0 := Tryd.underlying0
  a0 := Tryd.isAgg0
  z0 := Tryd.sizeOf0
  v0 := Tryd.zeroValue0
  t3 := Tryd.underlying3
  a3 := Tryd.isAgg3
  z3 := Tryd.sizeOf3
  v3 := Tryd.zeroValue3
  t4 := Tryd.underlying4
  a4 := Tryd.isAgg4
  z4 := Tryd.sizeOf4
  v4 := Tryd.zeroValue4
  t9 := Tryd.underlying9
  a9 := Tryd.isAgg9
  z9 := Tryd.sizeOf9
  v9 := Tryd.zeroValue9 }
def Tryd.lays196_ren : Go.Shelf.Ren := ⟨fun | 196 => 82 | 259 => 85 | n => n, fun | 0 => 0 | 3 => 3 | 4 => 4 | 5 => 5 | 9 => 9 | 12 => 12 | 46 => 84 | 53 => 86 | 119 => 119 | 138 => 121 | 139 => 122 | n => n, fun | 3 => 0 | 4 => 1 | n => n⟩
theorem Tryd.lays196 : Go.Proofs.Lays.n196 Tryd.prog Tryd.lays196_ren := {
  mixed := by kernel_rfl
  f196 := Tryd.func82.trans (congrArg some (by kernel_rfl))
  f259 := Tryd.func85.trans (congrArg some (by kernel_rfl))
  t0 := Tryd.underlying0
  a0 := Tryd.isAgg0
  z0 := Tryd.sizeOf0
  v0 := Tryd.zeroValue0
  t3 := Tryd.underlying3
  a3 := Tryd.isAgg3
  z3 := Tryd.sizeOf3
  v3 := Tryd.zeroValue3
  t4 := Tryd.underlying4
  a4 := Tryd.isAgg4
  z4 := Tryd.sizeOf4
  v4 := Tryd.zeroValue4
  t5 := Tryd.underlying5
  a5 := Tryd.isAgg5
  z5 := Tryd.sizeOf5
  v5 := Tryd.zeroValue5
  t9 := Tryd.underlying9
  a9 := Tryd.isAgg9
  z9 := Tryd.sizeOf9
  v9 := Tryd.zeroValue9
  t12 := Tryd.underlying12
  a12 := Tryd.isAgg12
  z12 := Tryd.sizeOf12
  v12 := Tryd.zeroValue12
  t46 := Tryd.underlying84
  a46 := Tryd.isAgg84
  z46 := Tryd.sizeOf84
  v46 := Tryd.zeroValue84
  t53 := Tryd.underlying86
  a53 := Tryd.isAgg86
  z53 := Tryd.sizeOf86
  v53 := Tryd.zeroValue86
  t119 := Tryd.underlying119
  a119 := Tryd.isAgg119
  z119 := Tryd.sizeOf119
  t138 := Tryd.underlying121
  a138 := Tryd.isAgg121
  z138 := Tryd.sizeOf121
  v138 := Tryd.zeroValue121
  t139 := Tryd.underlying122
  a139 := Tryd.isAgg122
  z139 := Tryd.sizeOf122
  v139 := Tryd.zeroValue122
  g3 := by kernel_rfl
  g4 := by kernel_rfl }
end Go.Proofs.YtnjhdbgejhnpfaaDoor
end
