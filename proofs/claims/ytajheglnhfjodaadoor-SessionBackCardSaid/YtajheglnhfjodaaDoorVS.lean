/- Ranges over strings, copies: rules. No condition. -/
import Derived.Test.YtajheglnhfjodaaDoorVA
import Derived.Lib.OthersKept
import Derived.Lib.BufferWrite
import Derived.Lib.TrimUEq
set_option maxRecDepth 10000
namespace Go.Proofs.YtajheglnhfjodaaDoor
set_option linter.unusedVariables false
open Go.RowKit

/-- an iterator over a string -/
def It (w : World) (g : Nat) (s : ByteArray) (pos : Nat) : Prop := w.heap[g]? = some (.stringIter s pos)
theorem It.below {w w' : World} {g pos B : Nat} {s : ByteArray} (h : It w g s pos) (hb : Below B w w') (hB : g < B) : It w' g s pos := by
  unfold It at *
  rw [hb.block g hB]; exact h
theorem It.lt {w : World} {g pos : Nat} {s : ByteArray} (h : It w g s pos) : g < w.heap.size := (Array.getElem?_eq_some_iff.1 h).1
/-- only block g has turned -/
structure Only (g : Nat) (w w' : World) : Prop where
  os : w'.os = w.os
  tape : w'.tape = w.tape
  output : w'.output = w.output
  size : w'.heap.size = w.heap.size
  block : ∀ j, j ≠ g → w'.heap[j]? = w.heap[j]?
theorem Only.iterAt (w : World) (g : Nat) (s : ByteArray) (pos : Nat) : Only g w (w.iterAt g s pos) := ⟨rfl, rfl, rfl, Lib.iterAt_size w g s pos, fun j hj => Lib.iterAt_other w g j s pos hj⟩
theorem Only.below {g B : Nat} {w w' : World} (h : Only g w w') (hB : B ≤ g) : Below B w w' := ⟨h.os, h.tape, h.output, Nat.le_of_eq h.size.symm, fun j hj => h.block j (by omega)⟩
theorem Only.grown {g : Nat} {w w' : World} (h : Only g w w') : w.grownBy w' (some g) := ⟨h.os, h.tape, h.output, Nat.le_of_eq h.size.symm, fun j _ hj => h.block j (fun e => hj (by rw [e]))⟩
section
variable {P : Program} {w : World}
theorem VSem.rangeT {t : TypeId} {s : ByteArray} {K : Value → World → Prop} [i : TStr P t] (h : ∀ w', It w' w.heap.size s 0 → w'.heap.size = w.heap.size + 1 → Below w.heap.size w w' → K (.pointer (some ⟨w.heap.size, 0, none⟩)) w') : VSem P (Instr.range t (.string s)) w K :=
  VSem.of (run_range_string w t s i.u) (h _ (World.iter_heap w s 0) (by simp [World.iter]) ((Below.refl _ w).alloc (Nat.le_refl _) _))
theorem VSem.nextT {ty : TypeId} {s : ByteArray} {g pos : Nat} {K : Value → World → Prop} (hi : It w g s pos) (hp : pos < s.size)
    (h : ∀ w', It w' g s (pos + (Lib.decodeL (s.data.toList.drop pos)).2) → Only g w w' → K (.tuple #[.bool true, .int .i64 (pos : Int), .int .i32 ((Lib.decodeL (s.data.toList.drop pos)).1 : Int)]) w') : VSem P (Instr.next (.pointer (some ⟨g, 0, none⟩)) true ty) w K := by
  rw [Lib.decodeL_drop] at h
  exact VSem.of (Lib.run_next_any_at w g s pos ty hi hp) (h _ (Lib.iterAt_heap w g s pos _ hi) (Only.iterAt w g s _))
theorem VSem.nextE {ty : TypeId} {s : ByteArray} {g pos : Nat} {K : Value → World → Prop} (hi : It w g s pos) (hp : s.size ≤ pos)
    (h : K (.tuple #[.bool false]) w) : VSem P (Instr.next (.pointer (some ⟨g, 0, none⟩)) true ty) w K :=
  VSem.of (Lib.run_next_end_at w g s pos ty hi (by omega)) h
theorem VSem.copyT {dT sT ty e : TypeId} {g n c B o dL dC : Nat} {l : List UInt8} {s : ByteArray} {K : Value → World → Prop} [i : TSlice P dT e 1]
    (hO : Own w B (.slice (some ⟨g, 0, none⟩) n c) n l) (hle : s.size ≤ dL) (hfit : o + s.size ≤ n)
    (h : ∀ w', Own w' B (.slice (some ⟨g, 0, none⟩) n c) n (l.take o ++ s.data.toList ++ l.drop (o + s.size)) → Only g w w' → K (.int .i64 (s.size : Int)) w') :
    VSem P (Builtin.copy_ #[dT, sT] ty [.slice (some ⟨g, o, none⟩) dL dC, .string s].toArray) w K := by
  have hl := hO.len
  obtain ⟨hx, hrow⟩ := hO
  rcases hrow with ⟨h0, _⟩ | ⟨g', cap, cur, hv, hB, hg, hnc, hm, hs, hc⟩
  · cases h0
  injection hv with e1 e2 e3
  injection e1 with e1
  injection e1 with e1
  subst e1 e3
  rw [Nat.mul_one] at hs hc
  have hsz : s.data.toList.length = s.size := by rw [Array.length_toList]; rfl
  have hcl : cur.toList.length = c := by rw [Array.length_toList]; exact hs
  refine VSem.of (Lib.run_copy_row_string w dT sT ty e g o dL dC s cur _ i.u i.s hg hle (by omega)) (h _ ?_ ?_)
  · refine ⟨by rw [bv_length]; simp only [List.length_append, List.length_take, List.length_drop]; omega, .inr ⟨g, c, _, rfl, hB, setRow_heap w g cur _ _ _ hg, hnc, hm, ?_, ?_⟩⟩
    · simp only [List.size_toArray, List.length_append, List.length_take, List.length_drop, Lib.byteCells_length]
      omega
    · have hb : Lib.byteCells s.data.toList = bv s.data.toList := rfl
      rw [hb, Nat.mul_one]
      have h1 : cur.toList.take o = bv (l.take o) := by
        have := congrArg (List.take o) hc
        rw [List.take_take, Nat.min_eq_left (by omega)] at this
        rw [this]; unfold bv; rw [List.map_take]
      have h2 : (cur.toList.drop (o + s.size)).take (n - (o + s.size)) = bv (l.drop (o + s.size)) := by
        have := congrArg (List.drop (o + s.size)) hc
        rw [List.drop_take] at this
        rw [this]; unfold bv; rw [List.map_drop]
      have h3 : (bv (l.take o) ++ bv s.data.toList).length = o + s.size := by rw [List.length_append, bv_length, bv_length, List.length_take]; omega
      show (cur.toList.take o ++ bv s.data.toList ++ cur.toList.drop (o + s.size)).take n = _
      rw [h1, List.take_append, List.take_of_length_le (by omega), h3, h2]
      unfold bv
      simp only [List.map_append]
  · exact ⟨rfl, rfl, rfl, by simp [World.setRow], fun j hj => setRow_other w g j _ hj⟩
end
end Go.Proofs.YtajheglnhfjodaaDoor
