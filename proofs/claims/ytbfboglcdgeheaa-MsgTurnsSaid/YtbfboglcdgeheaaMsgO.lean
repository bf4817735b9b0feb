/- Messages that came in as arguments. No condition. -/
import Derived.Test.YtbfboglcdgeheaaMsgA
import Derived.Test.YtbfboglcdgeheaaIn
import Derived.Deep.Slices
import Derived.OpenShut
namespace Go.Proofs.Ytbfboglcdgeheaa
set_option linter.unusedVariables false
open Go.ChangeShapes Go.WideShapes Go.ChangeAt Go.RowKit

section
variable {H : Type} {enc : TypeId × Value → H}
theorem cell_block {W : World} {x : Addr} {u : Value} (h : W.cell? x = some u) : x.block < W.heap.size := by
  unfold World.cell? at h
  cases hb : W.heap[x.block]? with
  | none => rw [hb] at h; cases h
  | some o => exact (Array.getElem?_eq_some_iff.1 hb).1
theorem bytes_open {W : World} {n : Nat} {c : Value} {y : DataW H × List MemPlace} (h : DataW.trod enc Try.prog W 0 (fun _ => true) true n 23 [c] = some y) :
    ∃ A m k l, c = .slice A m k ∧ m ≤ k ∧ Reads W W.heap.size 1 A m (bv l) := by
  rcases open_ints Try.underlying23 Try.underlying5 (by kernel_rfl) h with ⟨hcs, hx⟩ | ⟨x, l, c', zs, hcs, _, hl, hm, hz, hx, hcell, hwz⟩
  · simp at hcs
    obtain rfl := hcs
    exact ⟨none, 0, 0, [], rfl, Nat.le_refl _, Reads.none_⟩
  · simp at hcs
    obtain rfl := hcs
    simp only [if_true] at hz
    have hb : ∀ i, i < l → ∃ b : UInt8, W.cell? (x.add i) = some (.int .u8 (b.toNat : Int)) := fun i hi => by
      have h1 := hcell i (by omega)
      have h2 := hwz (zs.getD i 0) (by
        rw [List.getD_eq_getElem?_getD, List.getElem?_eq_getElem (by omega)]
        exact List.getElem_mem _)
      obtain ⟨b, hb⟩ := u8_nat h2
      exact ⟨b, by rw [h1, hb]⟩
    obtain ⟨f, hf⟩ := Deep.choose_lt hb
    refine ⟨some x, l, c', (List.range l).map f, rfl, hl, by simp [bv], fun hn => ⟨x, rfl, ?_, fun j u hu => ?_⟩⟩
    · have := cell_block (hf 0 hn)
      rwa [show x.add 0 = x from by simp [Addr.add]] at this
    · simp only [bv, List.map_map, List.getElem?_map, Option.map_eq_some_iff] at hu
      obtain ⟨i, hi, rfl⟩ := hu
      have hj : j < l := by have := (List.getElem?_eq_some_iff.1 hi).1; simpa using this
      rw [List.getElem?_range hj] at hi
      obtain rfl := Option.some.inj hi
      exact hf j hj
theorem list3 {α : Type} {l : List α} (h : l.length = 3) : ∃ a b c, l = [a, b, c] := by
  match l, h with
  | [a, b, c], _ => exact ⟨a, b, c, rfl⟩
theorem list10 {α : Type} {l : List α} (h : l.length = 10) : ∃ a b c d e f g i j k, l = [a, b, c, d, e, f, g, i, j, k] := by
  match l, h with
  | [a, b, c, d, e, f, g, i, j, k], _ => exact ⟨a, b, c, d, e, f, g, i, j, k, rfl⟩
theorem cells_3 : Try.prog.cellsOf 3 = 1 := by kernel_rfl
theorem cells_4 : Try.prog.cellsOf 4 = 1 := by kernel_rfl
theorem cells_23 : Try.prog.cellsOf 23 = 1 := by kernel_rfl
theorem cells_22 : Try.prog.cellsOf 22 = 1 := by kernel_rfl
theorem cells_41 : Try.prog.cellsOf 41 = 3 := by kernel_rfl
theorem cells_25 : Try.prog.cellsOf 25 = 10 := by kernel_rfl
theorem entry_open {W : World} {n : Nat} {cs : List Value} {y : DataW H × List MemPlace} (h : DataW.trod enc Try.prog W 0 (fun _ => true) true n 41 cs = some y) :
    ∃ (e : Msg.En) (A : Option Addr) (m k : Nat), cs = [.int .i64 e.term, .bool e.cmd, .slice A m k] ∧ m ≤ k ∧ Reads W W.heap.size 1 A m (bv e.data) := by
  obtain ⟨xs, q, _, _, hl, hlen, hf⟩ := DataW.trod_struct Try.underlying41 h
  rw [cells_41] at hl
  obtain ⟨c0, c1, c2, rfl⟩ := list3 hl
  have hlen' : xs.length = 3 := hlen
  obtain ⟨y0, y1, y2, rfl⟩ := list3 hlen'
  have g0 : DataW.trod enc Try.prog W 0 (fun _ => true) true q 3 ((([c0, c1, c2] : List Value).drop 0).take (Try.prog.cellsOf 3)) = ([y0, y1, y2] : List (DataW H × List MemPlace))[0]? := hf 0 _ rfl
  rw [cells_3] at g0
  have g1 : DataW.trod enc Try.prog W 0 (fun _ => true) true q 4 ((([c0, c1, c2] : List Value).drop 1).take (Try.prog.cellsOf 4)) = ([y0, y1, y2] : List (DataW H × List MemPlace))[1]? := hf 1 _ rfl
  rw [cells_4] at g1
  have g2 : DataW.trod enc Try.prog W 0 (fun _ => true) true q 23 ((([c0, c1, c2] : List Value).drop 2).take (Try.prog.cellsOf 23)) = ([y0, y1, y2] : List (DataW H × List MemPlace))[2]? := hf 2 _ rfl
  rw [cells_23] at g2
  obtain ⟨z0, e0, _, _⟩ := DataW.trod_int Try.underlying3 (show DataW.trod enc Try.prog W 0 (fun _ => true) true q 3 [c0] = some y0 from g0)
  obtain ⟨z1, e1, _⟩ := DataW.trod_bool Try.underlying4 (show DataW.trod enc Try.prog W 0 (fun _ => true) true q 4 [c1] = some y1 from g1)
  obtain ⟨A, m, k, l, e2, hmk, hr⟩ := bytes_open (show DataW.trod enc Try.prog W 0 (fun _ => true) true q 23 [c2] = some y2 from g2)
  injection e0 with e0
  injection e1 with e1
  exact ⟨⟨z0, z1, l⟩, A, m, k, by rw [e0, e1, e2], hmk, hr⟩
instance : Inhabited Msg.En := ⟨⟨0, false, []⟩⟩
theorem ents_open {W : World} {n : Nat} {c : Value} {y : DataW H × List MemPlace} (h : DataW.trod enc Try.prog W 0 (fun _ => true) true n 22 [c] = some y) :
    ∃ A m k es, c = .slice A m k ∧ m ≤ k ∧ EntsAt W W.heap.size A m es := by
  rcases Deep.open_slice Try.underlying22 h with ⟨hcs, hx⟩ | ⟨a, len, cap, m, q, D, Pl, hcs, _, hl, _, hm, _, hel⟩
  · injection hcs with hcs
    exact ⟨none, 0, 0, [], hcs, Nat.le_refl _, rfl, fun h => absurd h (Nat.lt_irrefl 0)⟩
  · injection hcs with hcs
    simp only [if_true] at hm
    have hb : ∀ i, i < len → ∃ e : Msg.En, ∃ A' m' k', W.cell? (a.add (3 * i)) = some (.int .i64 e.term) ∧ W.cell? (a.add (3 * i + 1)) = some (.bool e.cmd) ∧ W.cell? (a.add (3 * i + 2)) = some (.slice A' m' k') ∧ m' ≤ k' ∧ Reads W W.heap.size 1 A' m' (bv e.data) := fun i hi => by
      obtain ⟨cs', h1, h2⟩ := hel i (by omega)
      rw [cells_41] at h1
      obtain ⟨e, A', m', k', rfl, hmk, hr⟩ := entry_open h2
      obtain ⟨_, hlen, hc⟩ := World.cells?_some h1
      refine ⟨e, A', m', k', ?_, ?_, ?_, hmk, hr⟩
      · have := hc 0 (by decide)
        simpa [Deep.add_add, Nat.mul_comm] using this
      · have := hc 1 (by decide)
        simpa [Deep.add_add, Nat.mul_comm] using this
      · have := hc 2 (by decide)
        simpa [Deep.add_add, Nat.mul_comm] using this
    obtain ⟨f, hf⟩ := Deep.choose_lt hb
    refine ⟨some a, len, cap, (List.range len).map f, hcs, hl, by simp, fun hn => ⟨a, rfl, ?_, fun i e he => ?_⟩⟩
    · obtain ⟨A', m', k', h1, _⟩ := hf 0 hn
      have := cell_block h1
      rwa [show a.add (3 * 0) = a from by simp [Addr.add]] at this
    · have hj : i < len := by have := (List.getElem?_eq_some_iff.1 he).1; simpa using this
      rw [List.getElem?_map, List.getElem?_range hj] at he
      obtain rfl := Option.some.inj he
      exact hf i hj
theorem open_msg {W : World} {base : Nat} {v : Value} {d : DataW H} {p : List MemPlace} (hval : Value.okWide Try.prog W .any base 25 v) (h : DataW.Trod enc Try.prog W 0 (fun _ => true) true 25 v d p) :
    ∃ m Ae ne ce Ad nd cd, v = .agg (msgC m Ae ne ce Ad nd cd) ∧ MsgAt W W.heap.size m Ae ne ce Ad nd cd := by
  obtain ⟨cs, rfl, hsz⟩ := okWide_struct Try.underlying25 hval
  obtain ⟨fuel, hf⟩ := h
  obtain ⟨xs, q, _, _, hl, hlen, hf⟩ := DataW.trod_struct Try.underlying25 hf
  rw [cells_25] at hl
  obtain ⟨l⟩ := cs
  obtain ⟨c0, c1, c2, c3, c4, c5, c6, c7, c8, c9, rfl⟩ := list10 (show l.length = 10 from hl)
  have hlen' : xs.length = 10 := hlen
  obtain ⟨y0, y1, y2, y3, y4, y5, y6, y7, y8, y9, rfl⟩ := list10 hlen'
  have g0 : DataW.trod enc Try.prog W 0 (fun _ => true) true q 3 ((([c0, c1, c2, c3, c4, c5, c6, c7, c8, c9] : List Value).drop 0).take (Try.prog.cellsOf 3)) = ([y0, y1, y2, y3, y4, y5, y6, y7, y8, y9] : List (DataW H × List MemPlace))[0]? := hf 0 _ rfl
  rw [cells_3] at g0
  have g1 : DataW.trod enc Try.prog W 0 (fun _ => true) true q 3 ((([c0, c1, c2, c3, c4, c5, c6, c7, c8, c9] : List Value).drop 1).take (Try.prog.cellsOf 3)) = ([y0, y1, y2, y3, y4, y5, y6, y7, y8, y9] : List (DataW H × List MemPlace))[1]? := hf 1 _ rfl
  rw [cells_3] at g1
  have g2 : DataW.trod enc Try.prog W 0 (fun _ => true) true q 3 ((([c0, c1, c2, c3, c4, c5, c6, c7, c8, c9] : List Value).drop 2).take (Try.prog.cellsOf 3)) = ([y0, y1, y2, y3, y4, y5, y6, y7, y8, y9] : List (DataW H × List MemPlace))[2]? := hf 2 _ rfl
  rw [cells_3] at g2
  have g3 : DataW.trod enc Try.prog W 0 (fun _ => true) true q 3 ((([c0, c1, c2, c3, c4, c5, c6, c7, c8, c9] : List Value).drop 3).take (Try.prog.cellsOf 3)) = ([y0, y1, y2, y3, y4, y5, y6, y7, y8, y9] : List (DataW H × List MemPlace))[3]? := hf 3 _ rfl
  rw [cells_3] at g3
  have g4 : DataW.trod enc Try.prog W 0 (fun _ => true) true q 3 ((([c0, c1, c2, c3, c4, c5, c6, c7, c8, c9] : List Value).drop 4).take (Try.prog.cellsOf 3)) = ([y0, y1, y2, y3, y4, y5, y6, y7, y8, y9] : List (DataW H × List MemPlace))[4]? := hf 4 _ rfl
  rw [cells_3] at g4
  have g5 : DataW.trod enc Try.prog W 0 (fun _ => true) true q 3 ((([c0, c1, c2, c3, c4, c5, c6, c7, c8, c9] : List Value).drop 5).take (Try.prog.cellsOf 3)) = ([y0, y1, y2, y3, y4, y5, y6, y7, y8, y9] : List (DataW H × List MemPlace))[5]? := hf 5 _ rfl
  rw [cells_3] at g5
  have g6 : DataW.trod enc Try.prog W 0 (fun _ => true) true q 3 ((([c0, c1, c2, c3, c4, c5, c6, c7, c8, c9] : List Value).drop 6).take (Try.prog.cellsOf 3)) = ([y0, y1, y2, y3, y4, y5, y6, y7, y8, y9] : List (DataW H × List MemPlace))[6]? := hf 6 _ rfl
  rw [cells_3] at g6
  have g7 : DataW.trod enc Try.prog W 0 (fun _ => true) true q 4 ((([c0, c1, c2, c3, c4, c5, c6, c7, c8, c9] : List Value).drop 7).take (Try.prog.cellsOf 4)) = ([y0, y1, y2, y3, y4, y5, y6, y7, y8, y9] : List (DataW H × List MemPlace))[7]? := hf 7 _ rfl
  rw [cells_4] at g7
  have g8 : DataW.trod enc Try.prog W 0 (fun _ => true) true q 22 ((([c0, c1, c2, c3, c4, c5, c6, c7, c8, c9] : List Value).drop 8).take (Try.prog.cellsOf 22)) = ([y0, y1, y2, y3, y4, y5, y6, y7, y8, y9] : List (DataW H × List MemPlace))[8]? := hf 8 _ rfl
  rw [cells_22] at g8
  have g9 : DataW.trod enc Try.prog W 0 (fun _ => true) true q 23 ((([c0, c1, c2, c3, c4, c5, c6, c7, c8, c9] : List Value).drop 9).take (Try.prog.cellsOf 23)) = ([y0, y1, y2, y3, y4, y5, y6, y7, y8, y9] : List (DataW H × List MemPlace))[9]? := hf 9 _ rfl
  rw [cells_23] at g9
  obtain ⟨z0, e0, _, _⟩ := DataW.trod_int Try.underlying3 (show DataW.trod enc Try.prog W 0 (fun _ => true) true q 3 [c0] = some y0 from g0)
  obtain ⟨z1, e1, _, _⟩ := DataW.trod_int Try.underlying3 (show DataW.trod enc Try.prog W 0 (fun _ => true) true q 3 [c1] = some y1 from g1)
  obtain ⟨z2, e2, _, _⟩ := DataW.trod_int Try.underlying3 (show DataW.trod enc Try.prog W 0 (fun _ => true) true q 3 [c2] = some y2 from g2)
  obtain ⟨z3, e3, _, _⟩ := DataW.trod_int Try.underlying3 (show DataW.trod enc Try.prog W 0 (fun _ => true) true q 3 [c3] = some y3 from g3)
  obtain ⟨z4, e4, _, _⟩ := DataW.trod_int Try.underlying3 (show DataW.trod enc Try.prog W 0 (fun _ => true) true q 3 [c4] = some y4 from g4)
  obtain ⟨z5, e5, _, _⟩ := DataW.trod_int Try.underlying3 (show DataW.trod enc Try.prog W 0 (fun _ => true) true q 3 [c5] = some y5 from g5)
  obtain ⟨z6, e6, _, _⟩ := DataW.trod_int Try.underlying3 (show DataW.trod enc Try.prog W 0 (fun _ => true) true q 3 [c6] = some y6 from g6)
  obtain ⟨z7, e7, _⟩ := DataW.trod_bool Try.underlying4 (show DataW.trod enc Try.prog W 0 (fun _ => true) true q 4 [c7] = some y7 from g7)
  obtain ⟨Ae, ne, ce, es, e8, hec, hes⟩ := ents_open (show DataW.trod enc Try.prog W 0 (fun _ => true) true q 22 [c8] = some y8 from g8)
  obtain ⟨Ad, nd, cd, dl, e9, hdc, hrd⟩ := bytes_open (show DataW.trod enc Try.prog W 0 (fun _ => true) true q 23 [c9] = some y9 from g9)
  injection e0 with e0
  injection e1 with e1
  injection e2 with e2
  injection e3 with e3
  injection e4 with e4
  injection e5 with e5
  injection e6 with e6
  injection e7 with e7
  exact ⟨⟨z0, z1, z2, z3, z4, z5, z6, z7, es, dl⟩, Ae, ne, ce, Ad, nd, cd, by rw [e0, e1, e2, e3, e4, e5, e6, e7, e8, e9]; rfl, hec, hes, hdc, hrd⟩
end
end Go.Proofs.Ytbfboglcdgeheaa
