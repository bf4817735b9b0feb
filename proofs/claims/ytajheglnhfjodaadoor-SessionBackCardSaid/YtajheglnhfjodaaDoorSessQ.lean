/- Scripts for sessions that came in as arguments. No condition. -/
import Derived.Test.YtajheglnhfjodaaDoorSessP
import Derived.Test.YtajheglnhfjodaaDoorIn
import Derived.Deep.Slices
import Derived.OpenShut
set_option maxRecDepth 10000
namespace Go.Proofs.YtajheglnhfjodaaDoor
set_option linter.unusedVariables false
open Go.ChangeShapes Go.WideShapes Go.ChangeAt Go.RowKit

structure Op15 where
  kind : Int
  id : Int
  at_ : Int
  r : Rp
  b : List UInt8
instance : Inhabited Op15 := ⟨⟨0, 0, 0, Rp.zero, []⟩⟩
structure Rp.In (r : Rp) : Prop where
  err : i64' r.err
  n : i64' r.n
  kind : i64' r.kind
  vn : i64' r.vn
  s : r.s.length ≤ 9223372036854775807
structure Op15.Ok (W : World) (B : Nat) (o : Op15) (Ad : Option Addr) (m k : Nat) : Prop where
  kind : i64' o.kind
  id : i64' o.id
  at_ : i64' o.at_
  r : o.r.In
  le : m ≤ k
  k : k ≤ 140737488351232
  data : Reads W B 1 Ad m (bv o.b)
def op15C (o : Op15) (Ad : Option Addr) (m k : Nat) : Array Value := #[.int .i64 o.kind, .int .i64 o.id, .int .i64 o.at_, .int .i64 o.r.err, .int .i64 o.r.n, .int .i64 o.r.kind, .int .i64 o.r.vn, .string (txt o.r.s), .slice Ad m k]
def OpsAt15 (W : World) (B : Nat) (A : Option Addr) (n : Nat) (ops : List Op15) : Prop :=
  ops.length = n ∧ (0 < n → ∃ x, A = some x ∧ x.block < B ∧ ∀ i o, ops[i]? = some o → ∃ Ad m k, (∀ j u, (op15C o Ad m k).toList[j]? = some u → W.cell? (x.add (9 * i + j)) = some u) ∧ o.Ok W B Ad m k)
section
variable {H : Type} {enc : TypeId × Value → H}
theorem cell_block {W : World} {x : Addr} {u : Value} (h : W.cell? x = some u) : x.block < W.heap.size := by
  unfold World.cell? at h
  cases hb : W.heap[x.block]? with
  | none => rw [hb] at h; cases h
  | some o => exact (Array.getElem?_eq_some_iff.1 hb).1
theorem bytes_open {W : World} {n : Nat} {c : Value} {y : DataW H × List MemPlace} (h : DataW.trod enc Tryd.prog W 0 (fun _ => true) true n 42 [c] = some y) (hw : ∀ x ∈ y.1.weights Tryd.prog 42, x ≤ reachBytes) :
    ∃ A m k l, c = .slice A m k ∧ m ≤ k ∧ k ≤ 140737488351232 ∧ Reads W W.heap.size 1 A m (bv l) := by
  rcases open_ints Tryd.underlying42 Tryd.underlying5 (by kernel_rfl) h with ⟨hcs, hx⟩ | ⟨x, l, c', zs, hcs, _, hl, hm, hz, hx, hcell, hwz⟩
  · simp at hcs
    obtain rfl := hcs
    exact ⟨none, 0, 0, [], rfl, Nat.le_refl _, by omega, Reads.none_⟩
  · simp at hcs
    obtain rfl := hcs
    simp only [if_true] at hz
    subst hx
    have h1 := hw _ (by simp only [DataW.weights]; rw [Tryd.underlying42]; exact List.mem_cons_self ..)
    simp [lits, reachBytes] at h1
    rw [show Tryd.prog.bytesOf 5 = 1 from by kernel_rfl] at h1
    have hb : ∀ i, i < l → ∃ b : UInt8, W.cell? (x.add i) = some (.int .u8 (b.toNat : Int)) := fun i hi => by
      have h1 := hcell i (by omega)
      have h2 := hwz (zs.getD i 0) (by
        rw [List.getD_eq_getElem?_getD, List.getElem?_eq_getElem (by omega)]
        exact List.getElem_mem _)
      obtain ⟨b, hb⟩ := u8_nat h2
      exact ⟨b, by rw [h1, hb]⟩
    obtain ⟨f, hf⟩ := Deep.choose_lt hb
    refine ⟨some x, l, c', (List.range l).map f, rfl, hl, by omega, by simp [bv], fun hn => ⟨x, rfl, ?_, fun j u hu => ?_⟩⟩
    · have := cell_block (hf 0 hn)
      rwa [show x.add 0 = x from by simp [Addr.add]] at this
    · simp only [bv, List.map_map, List.getElem?_map, Option.map_eq_some_iff] at hu
      obtain ⟨i, hi, rfl⟩ := hu
      have hj : j < l := by have := (List.getElem?_eq_some_iff.1 hi).1; simpa using this
      rw [List.getElem?_range hj] at hi
      obtain rfl := Option.some.inj hi
      exact hf j hj
theorem list3 {α : Type} {l : List α} (h : l.length = 3) : ∃ a b c, l = [a, b, c] := by
  match l, h with
  | [a, b, c], _ => exact ⟨a, b, c, rfl⟩
theorem list5 {α : Type} {l : List α} (h : l.length = 5) : ∃ a b c d e, l = [a, b, c, d, e] := by
  match l, h with
  | [a, b, c, d, e], _ => exact ⟨a, b, c, d, e, rfl⟩
theorem list9 {α : Type} {l : List α} (h : l.length = 9) : ∃ a b c d e f g i j, l = [a, b, c, d, e, f, g, i, j] := by
  match l, h with
  | [a, b, c, d, e, f, g, i, j], _ => exact ⟨a, b, c, d, e, f, g, i, j, rfl⟩
theorem cells_i : Tryd.prog.cellsOf 3 = 1 := by kernel_rfl
theorem cells_l : Tryd.prog.cellsOf 2 = 1 := by kernel_rfl
theorem cells_s : Tryd.prog.cellsOf 9 = 1 := by kernel_rfl
theorem cells_e : Tryd.prog.cellsOf 27 = 1 := by kernel_rfl
theorem cells_b : Tryd.prog.cellsOf 42 = 1 := by kernel_rfl
theorem cells_v : Tryd.prog.cellsOf 29 = 3 := by kernel_rfl
theorem cells_r : Tryd.prog.cellsOf 31 = 5 := by kernel_rfl
theorem cells_op : Tryd.prog.cellsOf 44 = 9 := by kernel_rfl
theorem val_open {W : World} {n : Nat} {cs : List Value} {y : DataW H × List MemPlace} (h : DataW.trod enc Tryd.prog W 0 (fun _ => true) true n 29 cs = some y) :
    ∃ (k v : Int) (s : List UInt8), cs = [.int .i64 k, .int .i64 v, .string (txt s)] ∧ i64' k ∧ i64' v ∧ s.length ≤ 9223372036854775807 := by
  obtain ⟨xs, q, _, hy, hl, hlen, hf⟩ := DataW.trod_struct Tryd.underlying29 h
  rw [cells_v] at hl
  obtain ⟨c0, c1, c2, rfl⟩ := list3 hl
  have hlen' : xs.length = 3 := hlen
  obtain ⟨y0, y1, y2, rfl⟩ := list3 hlen'
  have g0 : DataW.trod enc Tryd.prog W 0 (fun _ => true) true q 3 ((([c0, c1, c2] : List Value).drop 0).take (Tryd.prog.cellsOf 3)) = ([y0, y1, y2] : List (DataW H × List MemPlace))[0]? := hf 0 _ rfl
  have g1 : DataW.trod enc Tryd.prog W 0 (fun _ => true) true q 2 ((([c0, c1, c2] : List Value).drop 1).take (Tryd.prog.cellsOf 2)) = ([y0, y1, y2] : List (DataW H × List MemPlace))[1]? := hf 1 _ rfl
  have g2 : DataW.trod enc Tryd.prog W 0 (fun _ => true) true q 9 ((([c0, c1, c2] : List Value).drop 2).take (Tryd.prog.cellsOf 9)) = ([y0, y1, y2] : List (DataW H × List MemPlace))[2]? := hf 2 _ rfl
  rw [cells_i] at g0
  rw [cells_l] at g1
  rw [cells_s] at g2
  obtain ⟨z0, e0, _, v0⟩ := DataW.trod_int Tryd.underlying3 (show DataW.trod enc Tryd.prog W 0 (fun _ => true) true q 3 [c0] = some y0 from g0)
  obtain ⟨z1, e1, _, v1⟩ := DataW.trod_int Tryd.underlying2 (show DataW.trod enc Tryd.prog W 0 (fun _ => true) true q 2 [c1] = some y1 from g1)
  obtain ⟨s, e2, _, v2⟩ := DataW.trod_string Tryd.underlying9 (show DataW.trod enc Tryd.prog W 0 (fun _ => true) true q 9 [c2] = some y2 from g2)
  injection e0 with e0
  injection e1 with e1
  injection e2 with e2
  refine ⟨z0, z1, s.data.toList, by rw [e0, e1, e2]; rfl, int_bounds v0, int_bounds v1, ?_⟩
  unfold maxLen at v2
  rw [Array.length_toList]
  exact v2
theorem rep_open {W : World} {n : Nat} {cs : List Value} {y : DataW H × List MemPlace} (h : DataW.trod enc Tryd.prog W 0 (fun _ => true) true n 31 cs = some y) :
    ∃ r : Rp, cs = (rpC r).toList ∧ r.In := by
  obtain ⟨xs, q, _, hy, hl, hlen, hf⟩ := DataW.trod_struct Tryd.underlying31 h
  rw [cells_r] at hl
  obtain ⟨c0, c1, c2, c3, c4, rfl⟩ := list5 hl
  have hlen' : xs.length = 3 := hlen
  obtain ⟨y0, y1, y2, rfl⟩ := list3 hlen'
  have g0 : DataW.trod enc Tryd.prog W 0 (fun _ => true) true q 27 ((([c0, c1, c2, c3, c4] : List Value).drop 0).take (Tryd.prog.cellsOf 27)) = ([y0, y1, y2] : List (DataW H × List MemPlace))[0]? := hf 0 _ rfl
  have g1 : DataW.trod enc Tryd.prog W 0 (fun _ => true) true q 3 ((([c0, c1, c2, c3, c4] : List Value).drop 1).take (Tryd.prog.cellsOf 3)) = ([y0, y1, y2] : List (DataW H × List MemPlace))[1]? := hf 1 _ rfl
  have g2 : DataW.trod enc Tryd.prog W 0 (fun _ => true) true q 29 ((([c0, c1, c2, c3, c4] : List Value).drop 2).take (Tryd.prog.cellsOf 29)) = ([y0, y1, y2] : List (DataW H × List MemPlace))[2]? := hf 2 _ rfl
  rw [cells_e] at g0
  rw [cells_i] at g1
  rw [cells_v] at g2
  obtain ⟨z0, e0, _, v0⟩ := DataW.trod_int Tryd.underlying27 (show DataW.trod enc Tryd.prog W 0 (fun _ => true) true q 27 [c0] = some y0 from g0)
  obtain ⟨z1, e1, _, v1⟩ := DataW.trod_int Tryd.underlying3 (show DataW.trod enc Tryd.prog W 0 (fun _ => true) true q 3 [c1] = some y1 from g1)
  obtain ⟨k, v, s, e2, hk, hv, hs⟩ := val_open (show DataW.trod enc Tryd.prog W 0 (fun _ => true) true q 29 [c2, c3, c4] = some y2 from g2)
  injection e0 with e0
  injection e1 with e1
  injection e2 with e2 e3
  injection e3 with e3 e4
  injection e4 with e4
  exact ⟨⟨z0, z1, k, v, s⟩, by rw [e0, e1, e2, e3, e4]; rfl, ⟨int_bounds v0, int_bounds v1, hk, hv, hs⟩⟩
theorem op_open {W : World} {n : Nat} {cs : List Value} {y : DataW H × List MemPlace} (h : DataW.trod enc Tryd.prog W 0 (fun _ => true) true n 44 cs = some y) (hw : ∀ x ∈ y.1.weights Tryd.prog 44, x ≤ reachBytes) :
    ∃ (o : Op15) (Ad : Option Addr) (m k : Nat), cs = (op15C o Ad m k).toList ∧ o.Ok W W.heap.size Ad m k := by
  obtain ⟨xs, q, _, hy, hl, hlen, hf⟩ := DataW.trod_struct Tryd.underlying44 h
  rw [cells_op] at hl
  obtain ⟨c0, c1, c2, c3, c4, c5, c6, c7, c8, rfl⟩ := list9 hl
  have hlen' : xs.length = 5 := hlen
  obtain ⟨y0, y1, y2, y3, y4, rfl⟩ := list5 hlen'
  subst hy
  have hw' : ∀ (j : Nat) (t : TypeId) (d : DataW H), ([3, 3, 3, 31, 42] : List TypeId)[j]? = some t → ([y0.1, y1.1, y2.1, y3.1, y4.1] : List (DataW H))[j]? = some d → ∀ x ∈ d.weights Tryd.prog t, x ≤ reachBytes := fun j t d ht hd x hx => by
    refine hw x ?_
    simp only [DataW.weights]
    rw [Tryd.underlying44]
    exact DataW.weights_mem_each (j := j) ht hd x hx
  have g0 : DataW.trod enc Tryd.prog W 0 (fun _ => true) true q 3 ((([c0, c1, c2, c3, c4, c5, c6, c7, c8] : List Value).drop 0).take (Tryd.prog.cellsOf 3)) = ([y0, y1, y2, y3, y4] : List (DataW H × List MemPlace))[0]? := hf 0 _ rfl
  have g1 : DataW.trod enc Tryd.prog W 0 (fun _ => true) true q 3 ((([c0, c1, c2, c3, c4, c5, c6, c7, c8] : List Value).drop 1).take (Tryd.prog.cellsOf 3)) = ([y0, y1, y2, y3, y4] : List (DataW H × List MemPlace))[1]? := hf 1 _ rfl
  have g2 : DataW.trod enc Tryd.prog W 0 (fun _ => true) true q 3 ((([c0, c1, c2, c3, c4, c5, c6, c7, c8] : List Value).drop 2).take (Tryd.prog.cellsOf 3)) = ([y0, y1, y2, y3, y4] : List (DataW H × List MemPlace))[2]? := hf 2 _ rfl
  have g3 : DataW.trod enc Tryd.prog W 0 (fun _ => true) true q 31 ((([c0, c1, c2, c3, c4, c5, c6, c7, c8] : List Value).drop 3).take (Tryd.prog.cellsOf 31)) = ([y0, y1, y2, y3, y4] : List (DataW H × List MemPlace))[3]? := hf 3 _ rfl
  have g4 : DataW.trod enc Tryd.prog W 0 (fun _ => true) true q 42 ((([c0, c1, c2, c3, c4, c5, c6, c7, c8] : List Value).drop 8).take (Tryd.prog.cellsOf 42)) = ([y0, y1, y2, y3, y4] : List (DataW H × List MemPlace))[4]? := hf 4 _ rfl
  rw [cells_i] at g0 g1 g2
  rw [cells_r] at g3
  rw [cells_b] at g4
  obtain ⟨z0, e0, _, v0⟩ := DataW.trod_int Tryd.underlying3 (show DataW.trod enc Tryd.prog W 0 (fun _ => true) true q 3 [c0] = some y0 from g0)
  obtain ⟨z1, e1, _, v1⟩ := DataW.trod_int Tryd.underlying3 (show DataW.trod enc Tryd.prog W 0 (fun _ => true) true q 3 [c1] = some y1 from g1)
  obtain ⟨z2, e2, _, v2⟩ := DataW.trod_int Tryd.underlying3 (show DataW.trod enc Tryd.prog W 0 (fun _ => true) true q 3 [c2] = some y2 from g2)
  obtain ⟨r, e3, hr⟩ := rep_open (show DataW.trod enc Tryd.prog W 0 (fun _ => true) true q 31 [c3, c4, c5, c6, c7] = some y3 from g3)
  obtain ⟨Ad, m, k, l, e4, hmk, hk, hrd⟩ := bytes_open (show DataW.trod enc Tryd.prog W 0 (fun _ => true) true q 42 [c8] = some y4 from g4) (hw' 4 _ _ rfl rfl)
  injection e0 with e0
  injection e1 with e1
  injection e2 with e2
  have e3' : [c3, c4, c5, c6, c7] = [.int .i64 r.err, .int .i64 r.n, .int .i64 r.kind, .int .i64 r.vn, .string (txt r.s)] := e3
  simp only [List.cons.injEq, and_true] at e3'
  obtain ⟨a3, a4, a5, a6, a7⟩ := e3'
  exact ⟨⟨z0, z1, z2, r, l⟩, Ad, m, k, by rw [e0, e1, e2, a3, a4, a5, a6, a7, e4]; rfl, ⟨int_bounds v0, int_bounds v1, int_bounds v2, hr, hmk, hk, hrd⟩⟩
theorem weights_mem_all {P : Program} {e : TypeId} : ∀ {ds : List (DataW H)} {d : DataW H}, d ∈ ds → ∀ n ∈ d.weights P e, n ∈ DataW.weightsAll P e ds
  | d0 :: ds, d, h, n, hn => by
    simp only [DataW.weightsAll, List.mem_append]
    rcases List.mem_cons.1 h with rfl | h
    · exact .inl hn
    · exact .inr (weights_mem_all h n hn)
theorem open_ops {W : World} {A : Option Addr} {n c : Nat} {d : DataW H} {p : List MemPlace} (h : DataW.Trod enc Tryd.prog W 0 (fun _ => true) true 41 (.slice A n c) d p)
    {ts : List TypeId} {ds : List (DataW H)} (hsz : (DataW.weightsEach Tryd.prog ts ds).all (· ≤ reachBytes) = true) {j : Nat} (hj : ts[j]? = some 41) (hd : ds[j]? = some d) :
    ∃ ops, OpsAt15 W W.heap.size A n ops ∧ n ≤ c := by
  obtain ⟨fuel, hf⟩ := h
  have hwd : ∀ x ∈ d.weights Tryd.prog 41, x ≤ reachBytes := fun x hx => by
    have := List.all_eq_true.1 hsz x (DataW.weights_mem_each hj hd x hx)
    simpa using this
  rcases Deep.open_slice Tryd.underlying41 hf with ⟨hcs, hx⟩ | ⟨a, len, cap, m, q, D, Pl, hcs, _, hl, _, hm, hx, hel⟩
  · simp [Value.cells] at hcs
    obtain ⟨rfl, rfl, rfl⟩ := hcs
    exact ⟨[], ⟨rfl, fun h => absurd h (Nat.lt_irrefl 0)⟩, Nat.le_refl _⟩
  · simp [Value.cells] at hcs
    obtain ⟨rfl, rfl, rfl⟩ := hcs
    simp only [if_true] at hm
    simp only [Prod.mk.injEq] at hx
    obtain ⟨hx, _⟩ := hx
    have hb : ∀ i, i < n → ∃ o : Op15, ∃ Ad m k, (∀ j u, (op15C o Ad m k).toList[j]? = some u → W.cell? (a.add (9 * i + j)) = some u) ∧ o.Ok W W.heap.size Ad m k := fun i hi => by
      obtain ⟨cs', h1, h2⟩ := hel i (by omega)
      rw [cells_op] at h1
      have hwi : ∀ x ∈ (D i).weights Tryd.prog 44, x ≤ reachBytes := fun x hx' => by
        refine hwd x ?_
        rw [hx]
        simp only [DataW.weights]
        rw [Tryd.underlying41]
        refine List.mem_cons_of_mem _ (List.mem_append_left _ (weights_mem_all (d := D i) ?_ x hx'))
        exact List.mem_map_of_mem (List.mem_range.2 hi)
      obtain ⟨o, Ad, m', k, rfl, hok⟩ := op_open h2 hwi
      obtain ⟨_, hlen, hc⟩ := World.cells?_some h1
      refine ⟨o, Ad, m', k, fun j u hu => ?_, hok⟩
      have hj6 : j < 9 := (List.getElem?_eq_some_iff.1 hu).1
      have := hc j hj6
      rw [Deep.add_add, Nat.mul_comm] at this
      rw [this]
      exact hu
    obtain ⟨f, hf⟩ := Deep.choose_lt hb
    refine ⟨(List.range n).map f, ⟨by simp, fun hn => ⟨a, rfl, ?_, fun i o ho => ?_⟩⟩, hl⟩
    · obtain ⟨Ad, m', k', h1, _⟩ := hf 0 hn
      have := cell_block (h1 0 _ rfl)
      rwa [show a.add (9 * 0 + 0) = a from by simp [Addr.add]] at this
    · have hj : i < n := by have := (List.getElem?_eq_some_iff.1 ho).1; simpa using this
      rw [List.getElem?_map, List.getElem?_range hj] at ho
      obtain rfl := Option.some.inj ho
      exact hf i hj
end
theorem add_blk (x : Addr) (j : Nat) : (x.add j).block = x.block := by unfold Addr.add; split <;> rfl
theorem OpsAt15.len {W : World} {B n : Nat} {A : Option Addr} {ops : List Op15} (h : OpsAt15 W B A n ops) : ops.length = n := h.1
theorem Op15.Ok.below {W W' : World} {B : Nat} {o : Op15} {Ad : Option Addr} {m k : Nat} (h : o.Ok W B Ad m k) (hb : Below B W W') : o.Ok W' B Ad m k :=
  ⟨h.kind, h.id, h.at_, h.r, h.le, h.k, h.data.below hb⟩
/-- an operation of a number, in all later worlds -/
theorem OpsAt15.later {W : World} {B i n : Nat} {A : Option Addr} {ops : List Op15} {o : Op15} (h : OpsAt15 W B A n ops) (ho : ops[i]? = some o) :
    ∃ x Ad m k, A = some x ∧ ∀ W', Below B W W' → (∀ j u, (op15C o Ad m k).toList[j]? = some u → W'.cell? ((x.add (i * 9)).add j) = some u) ∧ o.Ok W' B Ad m k := by
  have hi := (List.getElem?_eq_some_iff.1 ho).1
  have h1 := h.1
  obtain ⟨x, hA, hx, h3⟩ := h.2 (by omega)
  obtain ⟨Ad, m, k, e1, e2⟩ := h3 i o ho
  refine ⟨x, Ad, m, k, hA, fun W' hb => ⟨fun j u hu => ?_, e2.below hb⟩⟩
  rw [hb.cell (by rw [add_blk, add_blk]; exact hx), Deep.add_add, Nat.mul_comm i 9]
  exact e1 j u hu
theorem OpsAt15.stay {W W' : World} {B n : Nat} {A : Option Addr} {ops : List Op15} (h : OpsAt15 W B A n ops) (hb : Below B W W') : OpsAt15 W' B A n ops := by
  refine ⟨h.1, fun hn => ?_⟩
  obtain ⟨x, hA, hx, h3⟩ := h.2 hn
  refine ⟨x, hA, hx, fun i o ho => ?_⟩
  obtain ⟨Ad, m, k, e1, e2⟩ := h3 i o ho
  exact ⟨Ad, m, k, fun j u hu => by rw [hb.cell (by rw [add_blk]; exact hx)]; exact e1 j u hu, e2.below hb⟩
theorem VRead.loadL {P : Program} {w : World} {t k : Nat} {p : Addr} {cs : Array Value} {K : Value → Prop} [a : TAgg P t k] (hc : ∀ j v, cs.toList[j]? = some v → w.cell? (p.add j) = some v) (hs : Nat.beq cs.size k = true) (hk : K (.agg cs)) : VRead P (Eq w) (Instr.loadAt t (.pointer (some p))) K :=
  .of1 (by have := run_load_list a hc (by rw [Array.length_toList]; exact Nat.eq_of_beq_eq_true hs); simpa using this) hk
theorem VRead.loadLS {P : Program} {S : World → Prop} {t k : Nat} {p : Addr} {cs : Array Value} {K : Value → Prop} [a : TAgg P t k] (hc : ∀ W, S W → ∀ j v, cs.toList[j]? = some v → W.cell? (p.add j) = some v) (hs : Nat.beq cs.size k = true) (hk : K (.agg cs)) : VRead P S (Instr.loadAt t (.pointer (some p))) K :=
  .of (fun W hW => by have := run_load_list a (hc W hW) (by rw [Array.length_toList]; exact Nat.eq_of_beq_eq_true hs); simpa using this) hk
end Go.Proofs.YtajheglnhfjodaaDoor
