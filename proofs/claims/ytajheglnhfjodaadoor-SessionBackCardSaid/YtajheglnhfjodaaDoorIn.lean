/- Arguments that came in: strings, and slices of ints, bools, strings. No condition. -/
import Derived.Test.YtajheglnhfjodaaDoorMem
import Derived.Test.YtajheglnhfjodaaDoorWords
import Derived.SliceStrings
import Derived.Deep.Grids
namespace Go.Proofs.YtajheglnhfjodaaDoor
set_option linter.unusedVariables false
open Go.ChangeShapes Go.WideShapes Go.ChangeAt Go.RowKit
open Go.Deep (open_bools boolRow)

def strsSize : List ByteArray → Nat
  | [] => 0
  | s :: r => s.size + strsSize r
def InInts (w : World) (A : Option Addr) (n c : Nat) (l : List Int) : Prop :=
  Reads w w.heap.size 1 A n (iv .i64 l) ∧ n ≤ c ∧ c ≤ 17592186043904 ∧ ∀ x ∈ l, -9223372036854775808 ≤ x ∧ x ≤ 9223372036854775807
def InBools (w : World) (A : Option Addr) (n c : Nat) (l : List Bool) : Prop :=
  Reads w w.heap.size 1 A n (tv l) ∧ n ≤ c ∧ c ≤ 140737488351232
def InStrs (w : World) (A : Option Addr) (n c : Nat) (l : List ByteArray) : Prop :=
  Reads w w.heap.size 1 A n (sv l) ∧ n ≤ c ∧ c ≤ 8796093021952 ∧ ∀ s ∈ l, s.size ≤ maxLen

/-- cells in a row, read -/
theorem Reads.of_cells {W : World} {x : Addr} {n : Nat} {xs : List Value} (hl : xs.length = n) (hb : x.block < W.heap.size) (h : ∀ j u, xs[j]? = some u → W.cell? (x.add j) = some u) : Reads W W.heap.size 1 (some x) n xs :=
  ⟨by omega, fun _ => ⟨x, rfl, hb, h⟩⟩
theorem row_block {x : Addr} {n : Nat} {W : World} (hn : 0 < n) {q : List MemPlace} (h : ∀ y ∈ MemPlace.row x n ++ q, y.block < W.heap.size) : x.block < W.heap.size :=
  h (.cell x.block x.off) (by
    rw [List.mem_append]; left
    unfold MemPlace.row
    rw [List.mem_map]
    exact ⟨0, by simp; omega, by simp⟩)
theorem Reads.of_cells0 {W : World} {x : Addr} {n m : Nat} {xs : List Value} {q : List MemPlace} (hl : xs.length = n) (hnm : n ≤ m) (hb : ∀ y ∈ MemPlace.row x m ++ q, y.block < W.heap.size) (h : ∀ j u, xs[j]? = some u → W.cell? (x.add j) = some u) : Reads W W.heap.size 1 (some x) n xs :=
  ⟨by omega, fun hn => ⟨x, rfl, row_block (by omega) hb, h⟩⟩

section
variable {H : Type} {enc : TypeId × Value → H} {P : Program}
theorem in_string {ts : List TypeId} {ds : List (DataW H)} (hsz : (DataW.weightsEach P ts ds).all (· ≤ reachBytes) = true) {j : Nat} {t : TypeId} {s : ByteArray} (hj : ts[j]? = some t) (hd : ds[j]? = some (.lit (.string s.data.toList))) : s.size ≤ 140737488351232 := by
  have := sized_string hsz hj hd
  simp [reachBytes] at this
  exact this

theorem in_ints {t e : TypeId} (ht : P.underlying t = some (.slice e)) (he : P.underlying e = some (.int .i64)) (hc : P.cellsOf e = 1) (hby : P.bytesOf e = 8)
    {W : World} {A : Option Addr} {n c : Nat} {d : DataW H} {p : List MemPlace} (h : DataW.Trod enc P W 0 (fun _ => true) true t (.slice A n c) d p)
    {ts : List TypeId} {ds : List (DataW H)} (hsz : (DataW.weightsEach P ts ds).all (· ≤ reachBytes) = true) {j : Nat} (hj : ts[j]? = some t) (hd : ds[j]? = some d) :
    ∃ l, InInts W A n c l ∧ n + 1 ≤ Rows.uptoBulk d := by
  have hlt : ∀ x ∈ p, x.block < W.heap.size := by obtain ⟨m, hm⟩ := h; exact DataW.trod_lt m _ _ _ hm
  obtain ⟨fuel, hf⟩ := h
  rcases open_ints ht he hc hf with ⟨hcs, hx⟩ | ⟨x, l, c', zs, hcs, _, hl, hm, hz, hx, hcell, hwz⟩
  · simp [Value.cells] at hcs
    obtain ⟨rfl, rfl, rfl⟩ := hcs
    simp only [Prod.mk.injEq] at hx
    obtain ⟨rfl, rfl⟩ := hx
    exact ⟨[], ⟨Reads.none_, Nat.le_refl _, by omega, fun x hx => by cases hx⟩, by simp [Rows.uptoBulk]⟩
  · simp [Value.cells] at hcs
    obtain ⟨rfl, rfl, rfl⟩ := hcs
    simp only [if_true] at hz
    simp only [Prod.mk.injEq] at hx
    obtain ⟨rfl, rfl⟩ := hx
    have hreach := sized_slice hsz hj hd ht
    simp [lits, hby, reachBytes] at hreach
    refine ⟨zs.take n, ⟨Reads.of_cells0 (q := []) (by simp [iv]; omega) (by omega : n ≤ zs.length) (by simpa using hlt) ?_, hl, by omega, fun y hy => ?_⟩, ?_⟩
    · intro i u hu
      unfold iv at hu
      rw [List.getElem?_map, Option.map_eq_some_iff] at hu
      obtain ⟨y, hy, rfl⟩ := hu
      have hi : i < n := by have := (List.getElem?_eq_some_iff.1 hy).1; simp at this; omega
      rw [List.getElem?_take_of_lt hi] at hy
      rw [hcell i (by omega)]
      simp [List.getD, hy]
    · exact int_bounds (hwz y (List.mem_of_mem_take hy))
    · have e1 := bulk_slice (H := H) (lits .i64 (zs.take n)) (lits .i64 (zs.drop n))
      simp [lits] at e1
      simp [lits]
      omega

theorem in_bools {t e : TypeId} (ht : P.underlying t = some (.slice e)) (he : P.underlying e = some .bool) (hc : P.cellsOf e = 1) (hby : P.bytesOf e = 1)
    {W : World} {A : Option Addr} {n c : Nat} {d : DataW H} {p : List MemPlace} (h : DataW.Trod enc P W 0 (fun _ => true) true t (.slice A n c) d p)
    {ts : List TypeId} {ds : List (DataW H)} (hsz : (DataW.weightsEach P ts ds).all (· ≤ reachBytes) = true) {j : Nat} (hj : ts[j]? = some t) (hd : ds[j]? = some d) :
    ∃ l, InBools W A n c l ∧ n + 1 ≤ Rows.uptoBulk d := by
  have hlt : ∀ x ∈ p, x.block < W.heap.size := by obtain ⟨m, hm⟩ := h; exact DataW.trod_lt m _ _ _ hm
  obtain ⟨fuel, hf⟩ := h
  rcases open_bools ht he hc hf with ⟨hcs, hx⟩ | ⟨x, l, c', B, hcs, _, hl, hm, hx, hcell⟩
  · simp [Value.cells] at hcs
    obtain ⟨rfl, rfl, rfl⟩ := hcs
    simp only [Prod.mk.injEq] at hx
    obtain ⟨rfl, rfl⟩ := hx
    exact ⟨[], ⟨Reads.none_, Nat.le_refl _, by omega⟩, by simp [Rows.uptoBulk]⟩
  · simp [Value.cells] at hcs
    obtain ⟨rfl, rfl, rfl⟩ := hcs
    simp only [Prod.mk.injEq] at hx
    obtain ⟨rfl, rfl⟩ := hx
    have hreach := sized_slice hsz hj (hd.trans (by rfl)) ht
    simp [hby, reachBytes] at hreach
    refine ⟨(List.range n).map B, ⟨Reads.of_cells0 (q := []) (by simp [tv]) hl (by simpa using hlt) ?_, hl, by omega⟩, ?_⟩
    · intro i u hu
      unfold tv at hu
      simp only [List.getElem?_map, Option.map_eq_some_iff] at hu
      obtain ⟨y, ⟨z, hz, rfl⟩, rfl⟩ := hu
      have hi : i < n := by have := (List.getElem?_eq_some_iff.1 hz).1; simpa using this
      rw [List.getElem?_range hi] at hz
      injection hz with hz
      subst hz
      rw [hcell i (by omega)]
    · unfold boolRow
      have e1 := bulk_slice (H := H) ((List.range n).map fun i => .lit (.bool (B i))) ((List.range (c - n)).map fun j => .lit (.bool (B (n + j))))
      simp at e1
      simp
      omega

theorem bulk_strs : ∀ (ss : List ByteArray), strsSize ss + ss.length ≤ Rows.uptoBulkAll (H := H) (strs ss)
  | [] => by simp [strsSize, strs]
  | s :: r => by
    have := bulk_strs r
    simp only [strs, List.map_cons, Rows.uptoBulkAll, Rows.uptoBulk, strsSize, List.length_cons, Array.length_toList] at this ⊢
    have : s.data.size = s.size := rfl
    omega
theorem in_strings {t e : TypeId} (ht : P.underlying t = some (.slice e)) (he : P.underlying e = some .string) (hc : P.cellsOf e = 1) (hby : P.bytesOf e = 16)
    {W : World} {A : Option Addr} {n c : Nat} {d : DataW H} {p : List MemPlace} (h : DataW.Trod enc P W 0 (fun _ => true) true t (.slice A n c) d p)
    {ts : List TypeId} {ds : List (DataW H)} (hsz : (DataW.weightsEach P ts ds).all (· ≤ reachBytes) = true) {j : Nat} (hj : ts[j]? = some t) (hd : ds[j]? = some d) :
    ∃ l, InStrs W A n c l ∧ n + strsSize l + 1 ≤ Rows.uptoBulk d := by
  have hlt : ∀ x ∈ p, x.block < W.heap.size := by obtain ⟨m, hm⟩ := h; exact DataW.trod_lt m _ _ _ hm
  obtain ⟨fuel, hf⟩ := h
  rcases open_strings ht he hc hf with ⟨hcs, hx⟩ | ⟨x, l, c', zs, hcs, _, hl, hm, hz, hx, hcell, hwz⟩
  · simp [Value.cells] at hcs
    obtain ⟨rfl, rfl, rfl⟩ := hcs
    simp only [Prod.mk.injEq] at hx
    obtain ⟨rfl, rfl⟩ := hx
    exact ⟨[], ⟨Reads.none_, Nat.le_refl _, by omega, fun x hx => by cases hx⟩, by simp [Rows.uptoBulk, strsSize]⟩
  · simp [Value.cells] at hcs
    obtain ⟨rfl, rfl, rfl⟩ := hcs
    simp only [if_true] at hz
    simp only [Prod.mk.injEq] at hx
    obtain ⟨rfl, rfl⟩ := hx
    have hreach := sized_slice hsz hj hd ht
    simp [strs, hby, reachBytes] at hreach
    refine ⟨zs.take n, ⟨Reads.of_cells0 (q := []) (by simp [sv]; omega) (by omega : n ≤ zs.length) (by simpa using hlt) ?_, hl, by omega, fun y hy => ?_⟩, ?_⟩
    · intro i u hu
      unfold sv at hu
      rw [List.getElem?_map, Option.map_eq_some_iff] at hu
      obtain ⟨y, hy, rfl⟩ := hu
      have hi : i < n := by have := (List.getElem?_eq_some_iff.1 hy).1; simp at this; omega
      rw [List.getElem?_take_of_lt hi] at hy
      rw [hcell i (by omega)]
      simp [List.getD, hy]
    · exact hwz y (List.mem_of_mem_take hy)
    · have e1 := bulk_strs (H := H) (zs.take n)
      have e2 := bulk_length (H := H) (strs (zs.drop n))
      simp only [Rows.uptoBulk]
      simp at e1
      omega
end
end Go.Proofs.YtajheglnhfjodaaDoor
