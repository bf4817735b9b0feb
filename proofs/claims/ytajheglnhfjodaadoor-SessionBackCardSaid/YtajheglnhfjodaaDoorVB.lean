/- The rules of the calculus for rows of bytes: what is built, appended, converted. No condition. -/
import Derived.Test.YtajheglnhfjodaaDoorVI
import Derived.Test.YtajheglnhfjodaaDoorMore
set_option maxRecDepth 10000
namespace Go.Proofs.YtajheglnhfjodaaDoor
set_option linter.unusedVariables false
open Go.RowKit

section
variable {S : World → Prop} {w W : World}
theorem Own.appB {w : World} {B : Nat} {v : Value} {n : Nat} {l : List UInt8} (h : Own w B v n l) : AppB w B v n l := .inl h
theorem AppB.of {w : World} {B n : Nat} {A : Option Addr} {l : List UInt8} (h : Reads w B 1 A n (bv l)) : AppB w B (.slice A n n) n l := .inr ⟨A, rfl, h, h.none_zero⟩
theorem growBy_le {need : Nat} : ∀ (r c : Nat), Builtin.growBy need r c ≤ max c (need + (need + 768) / 4)
  | 0, c => by unfold Builtin.growBy; omega
  | r + 1, c => by
    unfold Builtin.growBy
    split
    · omega
    · have := growBy_le (need := need) r (c + (c + 768) / 4)
      omega
theorem fits_big {need old : Nat} (h : old < need) (hb : need ≤ 211106232532992) : Builtin.nextslicecap need old * 1 ≤ 281474976710656 := by
  unfold Builtin.nextslicecap
  split
  · omega
  · split
    · omega
    · have := growBy_le (need := need) 4 old
      omega
/-- where there is no room: a new row -/
theorem grow_big {ty : TypeId} {n cap : Nat} {b : Option Addr} {olds : List UInt8} {C m c : Nat} {A : Option Addr} {news : List UInt8} (hro : Reads w C 1 b n (bv olds)) (hnil : b = none → cap = 0) (hr : Reads w C 1 A m (bv news)) (hg : cap < n + m) (hn : n ≤ cap)
    (hb : n + m ≤ 211106232532992) :
    ∃ v' w', (Builtin.append_ #[42, 42] ty #[.slice b n cap, .slice A m c]).run Tryd.prog w = .ok v' w' ∧ Own w' w.heap.size v' (n + m) (olds ++ news) ∧ w.grownBy w' none := by
  obtain ⟨i0, hi0, hz0, hz1, hz2⟩ := info_parts u8_info
  have ht : (Tryd.prog).underlying 42 = some (.slice 5) := Tryd.underlying42
  have hlo : olds.length = n := by have := hro.1; rw [bv_length] at this; omega
  have hln : news.length = m := by have := hr.1; rw [bv_length] at this; omega
  have hfit := fits_big hg hb
  have hge := grownCap_ge w (n + m) cap 5
  have hcm : grownCap w (n + m) cap 5 ≤ maxLen := grownCap_le_maxLen w (n + m) cap 5 (by simp only [maxLen]; omega)
  have made : Own (w.drew.alloc (.cells ((bv olds).toArray ++ (bv news).toArray ++ Builtin.zeroCells (Value.int .u8 0).cells (grownCap w (n + m) cap 5 - (n + m))) 5)) w.heap.size
      (.slice (some ⟨w.heap.size, 0, none⟩) (n + m) (grownCap w (n + m) cap 5)) (n + m) (olds ++ news) := by
    refine ⟨by rw [bv_length]; simp [hlo, hln], .inr ⟨w.heap.size, _, _, rfl, Nat.le_refl _, heap_alloc_new w.drew _, hge, hcm, ?_, ?_⟩⟩
    · simp only [Array.size_append, List.size_toArray, size_zeroCells, bv_length, hlo, hln, Value.cells]
      simp
      omega
    · rw [bv_append]
      simp only [Array.toList_append, List.append_assoc]
      rw [← List.append_assoc]
      have e : (n + m) * 1 = (bv olds ++ bv news).length := by simp [bv_length, hlo, hln]
      rw [e]
      exact List.take_left
  obtain ⟨hnews, a, hA⟩ : (0 < m → ∃ a, A = some a ∧ ∀ j u, (bv news)[j]? = some u → w.cell? (a.add j) = some u) ∧ ∃ a : Addr, True := ⟨fun hm => by obtain ⟨a, e, _, h⟩ := hr.2 hm; exact ⟨a, e, h⟩, default, trivial⟩
  obtain ⟨a, rfl, hc⟩ := hnews (by omega)
  cases b with
  | none =>
    have hc0 := hnil rfl
    subst hc0
    have hn0 : n = 0 := by omega
    subst hn0
    have ho : olds = [] := List.eq_nil_of_length_eq_zero hlo
    subst ho
    have hr := run_append_nil (P := Tryd.prog) w 42 ty 5 i0 _ ht hi0 hz0 a m c (bv news) (by rw [hz1, bv_length]; omega) hc (by omega) (by omega) (by rw [hz2]; omega)
    simp only [bv, List.map_nil, Array.empty_append, Nat.zero_add, List.nil_append] at made hr ⊢
    exact ⟨_, _, hr, made, ⟨rfl, rfl, rfl, by simp, fun k hk _ => heap_alloc_old w.drew _ hk⟩⟩
  | some b =>
    have holds : ∀ j u, (bv olds)[j]? = some u → w.cell? (b.add j) = some u := fun j u hu => by
      have h0 : 0 < n := by have h1 := (List.getElem?_eq_some_iff.1 hu).1; rw [bv_length] at h1; omega
      obtain ⟨b', e, _, h⟩ := hro.2 h0
      injection e with e
      subst e
      exact h j u hu
    have hr := run_append_grow (P := Tryd.prog) w 42 ty 5 i0 _ ht hi0 hz0 b n cap (bv olds) (by rw [hz1, bv_length]; omega) holds a m c (bv news) (by rw [hz1, bv_length]; omega) hc hg (by omega) (by rw [hz2]; exact hfit)
    exact ⟨_, _, hr, made, ⟨rfl, rfl, rfl, by simp, fun k hk _ => heap_alloc_old w.drew _ hk⟩⟩
theorem keep_nil {ty : TypeId} {b : Option Addr} {n cap c : Nat} {A : Option Addr} (hn : n ≤ cap) :
    (Builtin.append_ #[42, 42] ty #[.slice b n cap, .slice A 0 c]).run Tryd.prog w = .ok (.slice b (n + 0) cap) w := by
  obtain ⟨i0, hi0, hz0, hz1, hz2⟩ := info_parts u8_info
  have ht : (Tryd.prog).underlying 42 = some (.slice 5) := Tryd.underlying42
  cases A with
  | none => cases b <;> simp [Builtin.append_, run_underlying ht, sizeOf, typeInfo, hi0, Builtin.lenOf, Builtin.firstCells, storeCells, hn]
  | some ad => cases b <;> simp [Builtin.append_, run_underlying ht, sizeOf, typeInfo, hi0, hz1, Builtin.lenOf, Builtin.firstCells, storeCells, loadCells, loadCellsFrom, hn]
/-- append(b, x...), b the call's own -/
theorem VSem.appO {ty : TypeId} {B : Nat} {v : Value} {n : Nat} {l : List UInt8} {C : Nat} {A : Option Addr} {m c : Nat} {news : List UInt8} {K : Value → World → Prop} (hown : Own w B v n l) (hr : Reads w C 1 A m (bv news))
    (hbytes : n + m ≤ 211106232532992) (hbase : B ≤ w.heap.size)
    (h : ∀ A' c' w', Own w' B (.slice A' (n + m) c') (n + m) (l ++ news) → w.grownBy w' v.ownBlock → Below B w w' → K (.slice A' (n + m) c') w') :
    VSem Tryd.prog (Builtin.append_ #[42, 42] ty [v, .slice A m c].toArray) w K := by
  have hlt : ∀ k, v.ownBlock = some k → B ≤ k := fun k hk => (World.ownsRow.lt hown k hk).1
  have fin : ∀ v' w', (Builtin.append_ #[42, 42] ty #[v, .slice A m c]).run Tryd.prog w = .ok v' w' → Own w' B v' (n + m) (l ++ news) → w.grownBy w' v.ownBlock →
      VSem Tryd.prog (Builtin.append_ #[42, 42] ty [v, .slice A m c].toArray) w K := fun v' w' h1 hO hg => by
    obtain ⟨A', c', rfl⟩ := hO.form
    exact .of h1 (h A' c' w' hO hg ((Below.refl _ _).grown hg hbase hlt))
  by_cases hm : m = 0
  · subst hm
    have hn0 : news = [] := List.eq_nil_of_length_eq_zero (by have := hr.1; rw [bv_length] at this; omega)
    subst hn0
    rcases hown.2 with ⟨rfl, rfl⟩ | ⟨g, cap, cur, rfl, _, _, hnc, _⟩
    · exact fin _ _ (keep_nil (Nat.le_refl _)) (by simpa using hown) (World.grownBy.refl w _)
    · exact fin _ _ (keep_nil hnc) (by simpa using hown) (World.grownBy.refl w _)
  · have hrd := hown
    rcases hown.2 with ⟨rfl, rfl⟩ | ⟨g, cap, cur, rfl, hbg, hg, hnc, hcm, hcs, htake⟩
    · have hl0 : l = [] := List.eq_nil_of_length_eq_zero (by have := hown.1; rw [bv_length] at this; omega)
      subst hl0
      obtain ⟨v', w', h1, h2, h3⟩ := grow_big (ty := ty) (n := 0) (cap := 0) (b := none) (olds := []) (C := C) Reads.none_ (fun _ => rfl) hr (by omega) (Nat.le_refl _) hbytes
      exact fin v' w' h1 (h2.more hbase) ⟨h3.os, h3.tape, h3.output, h3.size, fun i hi _ => h3.block i hi (by simp)⟩
    · by_cases hroom : n + m ≤ cap
      · obtain ⟨i0, hi0, hz0, hz1, hz2⟩ := info_parts u8_info
        obtain ⟨a, rfl, _, hc⟩ := hr.2 (by omega)
        have hln : (bv news).length = m := by have := hr.1; omega
        have hfit : n * i0.size + (bv news).length ≤ cur.size := by rw [hln, hcs, hz1]; omega
        have h1 := run_append_room (P := Tryd.prog) w 42 ty 5 i0 Tryd.underlying42 hi0 g n cap cur hg a m c (bv news) (by rw [hln, hz1]; omega) hc (bv_one _) hroom hfit
        have hlo : (bv l).length = n := by have := hown.1; omega
        refine fin _ _ h1 ⟨by rw [bv_length, List.length_append]; rw [bv_length] at hlo hln; omega, .inr ⟨g, cap, _, rfl, hbg, setRow_heap w g cur _ 5 _ hg, hroom, hcm, ?_, ?_⟩⟩ ⟨rfl, rfl, rfl, by simp, fun k _ hk => setRow_other w g k _ (fun e => hk (by simp [Value.ownBlock, e]))⟩
        · simp only [List.size_toArray, List.length_append, List.length_take, List.length_drop, Array.length_toList]
          omega
        · rw [hz1, htake, bv_append]
          have e : (n + m) * 1 = (bv l ++ bv news).length := by rw [List.length_append, hlo, hln]; omega
          rw [e]
          exact List.take_left
      · obtain ⟨v', w', h1, h2, h3⟩ := grow_big (ty := ty) (n := n) (cap := cap) (b := some ⟨g, 0, none⟩) (olds := l) (C := max w.heap.size C) ((Reads.of_own hown).more (by omega)) (fun e => by cases e) (hr.more (by omega)) (by omega) hnc hbytes
        exact fin v' w' h1 (h2.more hbase) ⟨h3.os, h3.tape, h3.output, h3.size, fun i hi _ => h3.block i hi (by simp)⟩
/-- append(b, x...), b the call's own, or without room -/
theorem VSem.app {ty : TypeId} {B : Nat} {v : Value} {n : Nat} {l : List UInt8} {C : Nat} {A : Option Addr} {m c : Nat} {news : List UInt8} {K : Value → World → Prop} (hd : AppB w B v n l) (hr : Reads w C 1 A m (bv news))
    (hbytes : n + m ≤ 211106232532992) (hbase : B ≤ w.heap.size)
    (h : ∀ A' c' w', AppB w' B (.slice A' (n + m) c') (n + m) (l ++ news) → (1 ≤ m → Own w' B (.slice A' (n + m) c') (n + m) (l ++ news)) → Below B w w' → K (.slice A' (n + m) c') w') :
    VSem Tryd.prog (Builtin.append_ #[42, 42] ty [v, .slice A m c].toArray) w K := by
  rcases hd with hown | ⟨A0, rfl, hra, hnil⟩
  · exact VSem.appO hown hr hbytes hbase fun A' c' w' hO _ hb => h A' c' w' (.inl hO) (fun _ => hO) hb
  · by_cases hm : m = 0
    · subst hm
      have hn0 : news = [] := List.eq_nil_of_length_eq_zero (by have := hr.1; rw [bv_length] at this; omega)
      subst hn0
      refine .of (keep_nil (Nat.le_refl _)) (h A0 n w ?_ (fun h1 => absurd h1 (by omega)) (Below.refl _ _))
      rw [Nat.add_zero, List.append_nil]
      exact .inr ⟨A0, rfl, hra, hnil⟩
    · obtain ⟨v', w', h1, h2, h3⟩ := grow_big (ty := ty) (n := n) (cap := n) (b := A0) (olds := l) (C := max B C) (hra.more (by omega)) hnil (hr.more (by omega)) (by omega) (Nat.le_refl _) hbytes
      obtain ⟨A', c', rfl⟩ := h2.form
      exact .of h1 (h A' c' w' (.inl (h2.more hbase)) (fun _ => h2.more hbase) ((Below.refl _ _).grown h3 hbase (by simp)))
/-- append(b, s...), b the call's own, s a text -/
theorem VSem.appT {ty : TypeId} {B : Nat} {v : Value} {n : Nat} {l : List UInt8} {t : ByteArray} {K : Value → World → Prop} (hown : Own w B v n l) (hbytes : n + t.size ≤ 140737488355328) (hbase : B ≤ w.heap.size)
    (h : ∀ A' c' w', Own w' B (.slice A' (n + t.size) c') (n + t.size) (l ++ t.data.toList) → w.grownBy w' v.ownBlock → Below B w w' → K (.slice A' (n + t.size) c') w') :
    VSem Tryd.prog (Builtin.append_ #[42, 9] ty [v, .string t].toArray) w K := by
  obtain ⟨i0, hi0, hz0, hz1, hz2⟩ := info_parts u8_info
  obtain ⟨v', w', h1, h2, h3, h4⟩ := Lib.run_append_own_string (P := Tryd.prog) (w := w) B 42 9 ty 5 i0 Tryd.underlying42 Tryd.underlying9 hi0 hz0 hz1 hz2 v n (bv l) hown t
    (by simp only [maxLen]; omega) hbytes hbase
  have hO : Own w' B v' (n + t.size) (l ++ t.data.toList) := by unfold Own; rw [bv_append]; exact h2
  obtain ⟨A', c', rfl⟩ := hO.form
  exact .of h1 (h A' c' w' hO h3 ((Below.refl _ _).grown h3 hbase fun k hk => (World.ownsRow.lt hown k hk).1))
end
end Go.Proofs.YtajheglnhfjodaaDoor
