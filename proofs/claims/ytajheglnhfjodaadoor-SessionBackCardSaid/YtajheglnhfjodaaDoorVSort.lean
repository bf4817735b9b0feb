/- slices.Sort of ints and strings, on a row of the call's own. No condition. -/
import Derived.Test.YtajheglnhfjodaaDoorVM
import Derived.Shelf.Sort.Plain
import Derived.Shelf.Slices.In.SortNone
import Derived.Sort.OwnSortedInts
import Derived.Sort.OwnSorted
set_option maxRecDepth 10000
namespace Go.Proofs.YtajheglnhfjodaaDoor
set_option linter.unusedVariables false
open Go.RowKit Go.Shelf Go.Sort

theorem grown_below {W W' : World} {B : Nat} {v : Value} (hg : W.grownBy W' v.ownBlock) (hB : B ≤ W.heap.size) (h : ∀ q, v.ownBlock = some q → B ≤ q) : Below B W W' := (Below.refl B W).grown hg hB h
theorem sortInts_row {P : Program} {ρ : Ren} (Ly : Lays.n189 P ρ) {W : World} {B e n c : Nat} {A : Option Addr} {l : List Int} (h : W.ownsRow B e 1 (.slice A n c) n (l.map (Value.int .i64))) (hn : n ≤ 1000000) :
    Calls P (ρ.f 189) #[.slice A n c] W fun r W' => r = .returned (.tuple #[]) ∧ W'.ownsRow B e 1 (.slice A n c) n ((l.mergeSort fun x y => decide (x ≤ y)).map (Value.int .i64)) ∧ W.grownBy W' (Value.slice A n c).ownBlock := by
  have hl : l.length = n := by have := h.1; simpa using this
  rcases h.2 with ⟨hv, h0⟩ | ⟨g, cap, cur, hv, hbg, hb, h1, h2, h3, h4⟩
  · injection hv with e1 e2 e3
    subst e1 e3 h0
    obtain rfl : l = [] := List.eq_nil_of_length_eq_zero hl
    refine (Any.slices_Sort_int_none Ly none 0 W).mono ?_
    rintro r W' ⟨rfl, rfl⟩
    exact ⟨rfl, by simpa using h, ⟨rfl, rfl, rfl, Nat.le_refl _, fun _ _ _ => rfl⟩⟩
  · injection hv with e1 e2 e3
    subst e1 e3
    subst hl
    refine (Any.slices_Sort_int Ly g 0 c l W (holds_of_blockI hb (by simpa using h4)) (Array.getElem?_eq_some_iff.1 hb).1 (by omega)).mono ?_
    rintro r W' ⟨rfl, N, os, rfl⟩
    exact ⟨rfl, ownsRow_sortedI (by simp) hbg hb h1 h2 h3, grownBy_sortedI _⟩
theorem sortStrs_row {P : Program} {ρ : Ren} (Ly : Lays.n190 P ρ) {W : World} {B e n c : Nat} {A : Option Addr} {l : List (List UInt8)} (h : W.ownsRow B e 1 (.slice A n c) n (l.map encStr)) (hn : n ≤ 1000000) :
    Calls P (ρ.f 190) #[.slice A n c] W fun r W' => r = .returned (.tuple #[]) ∧ W'.ownsRow B e 1 (.slice A n c) n ((l.mergeSort fun x y => decide (x ≤ y)).map encStr) ∧ W.grownBy W' (Value.slice A n c).ownBlock := by
  have hl : l.length = n := by have := h.1; simpa using this
  rcases h.2 with ⟨hv, h0⟩ | ⟨g, cap, cur, hv, hbg, hb, h1, h2, h3, h4⟩
  · injection hv with e1 e2 e3
    subst e1 e3 h0
    obtain rfl : l = [] := List.eq_nil_of_length_eq_zero hl
    refine (Any.slices_Sort_string_none Ly none 0 W).mono ?_
    rintro r W' ⟨rfl, rfl⟩
    exact ⟨rfl, by simpa using h, ⟨rfl, rfl, rfl, Nat.le_refl _, fun _ _ _ => rfl⟩⟩
  · injection hv with e1 e2 e3
    subst e1 e3
    subst hl
    refine (Any.slices_Sort_string Ly g 0 c l W (holds_of_block hb (by simpa using h4)) (Array.getElem?_eq_some_iff.1 hb).1 (by omega)).mono ?_
    rintro r W' ⟨rfl, N, os, rfl⟩
    exact ⟨rfl, ownsRow_sorted (by simp) hbg hb h1 h2 h3, grownBy_sorted _⟩
/-! ### the keys of a map, collected in whatever order, and sorted -/
theorem sorted_ints {l : List Int} (hn : l.Nodup) : (l.mergeSort fun x y => decide (x ≤ y)).Pairwise (· < ·) := by
  have h1 : (l.mergeSort fun x y => decide (x ≤ y)).Pairwise (fun a b => decide (a ≤ b) = true) := List.pairwise_mergeSort (fun a b c h1 h2 => by simp at *; omega) (fun a b => by simp; omega) l
  have h2 : (l.mergeSort fun x y => decide (x ≤ y)).Nodup := (List.mergeSort_perm l _).nodup_iff.2 hn
  have h3 := h1.and h2
  exact h3.imp (fun {a b} h => by have h4 := h.1; simp at h4; have := h.2; omega)
/-- two rising lists of the same members are one -/
theorem rising_eq : ∀ {l m : List Int}, l.Pairwise (· < ·) → m.Pairwise (· < ·) → (∀ x, x ∈ l ↔ x ∈ m) → l = m
  | [], [], _, _, _ => rfl
  | [], y :: m, _, _, h => by have := (h y).2 (List.mem_cons_self ..); cases this
  | x :: l, [], _, _, h => by have := (h x).1 (List.mem_cons_self ..); cases this
  | x :: l, y :: m, h1, h2, h => by
    obtain ⟨a1, a2⟩ := List.pairwise_cons.1 h1
    obtain ⟨b1, b2⟩ := List.pairwise_cons.1 h2
    have e : x = y := by
      have c1 := (h x).1 (List.mem_cons_self ..)
      have c2 := (h y).2 (List.mem_cons_self ..)
      rcases List.mem_cons.1 c1 with e | c1
      · exact e
      · rcases List.mem_cons.1 c2 with e | c2
        · exact e.symm
        · have := b1 x c1; have := a1 y c2; omega
    subst e
    rw [rising_eq a2 b2 (fun z => by
      constructor
      · intro hz
        have := a1 z hz
        rcases List.mem_cons.1 ((h z).1 (List.mem_cons_of_mem _ hz)) with e | c
        · omega
        · exact c
      · intro hz
        have := b1 z hz
        rcases List.mem_cons.1 ((h z).2 (List.mem_cons_of_mem _ hz)) with e | c
        · omega
        · exact c)]
end Go.Proofs.YtajheglnhfjodaaDoor
