/- Scripts for the disk that came in as arguments. No condition. -/
import Derived.Test.YtajheglnhfjodaaDiskI
import Derived.Test.YtajheglnhfjodaaIn
import Derived.Deep.Slices
import Derived.OpenShut
set_option maxRecDepth 10000
namespace Go.Proofs.Ytajheglnhfjodaa
set_option linter.unusedVariables false
open Go.ChangeShapes Go.WideShapes Go.ChangeAt Go.RowKit

structure Op17 where
  kind : Int
  a : Int
  b : Int
  n : Int
  data : List UInt8
  picks : List Int
instance : Inhabited Op17 := ⟨⟨0, 0, 0, 0, [], []⟩⟩
def i64 (z : Int) : Prop := -9223372036854775808 ≤ z ∧ z ≤ 9223372036854775807
structure Op17.Ok (W : World) (B : Nat) (o : Op17) (Ad : Option Addr) (m k : Nat) (Ap : Option Addr) (mp kp : Nat) : Prop where
  kind : i64 o.kind
  a : i64 o.a
  b : i64 o.b
  n : i64 o.n
  le : m ≤ k
  k : k ≤ 140737488351232
  data : Reads W B 1 Ad m (bv o.data)
  lep : mp ≤ kp
  kp : kp ≤ 17592186043904
  picks : Reads W B 1 Ap mp (iv .i64 o.picks)
  each : ∀ x ∈ o.picks, i64 x
def opC (o : Op17) (Ad : Option Addr) (m k : Nat) (Ap : Option Addr) (mp kp : Nat) : Array Value := #[.int .i64 o.kind, .int .i64 o.a, .int .i64 o.b, .int .i64 o.n, .slice Ad m k, .slice Ap mp kp]
def OpsAt (W : World) (B : Nat) (A : Option Addr) (n : Nat) (ops : List Op17) : Prop :=
  ops.length = n ∧ (0 < n → ∃ x, A = some x ∧ x.block < B ∧ ∀ i o, ops[i]? = some o → ∃ Ad m k Ap mp kp, (∀ j u, (opC o Ad m k Ap mp kp).toList[j]? = some u → W.cell? (x.add (6 * i + j)) = some u) ∧ o.Ok W B Ad m k Ap mp kp)
section
variable {H : Type} {enc : TypeId × Value → H}
theorem cell_block {W : World} {x : Addr} {u : Value} (h : W.cell? x = some u) : x.block < W.heap.size := by
  unfold World.cell? at h
  cases hb : W.heap[x.block]? with
  | none => rw [hb] at h; cases h
  | some o => exact (Array.getElem?_eq_some_iff.1 hb).1
theorem bytes_open {W : World} {n : Nat} {c : Value} {y : DataW H × List MemPlace} (h : DataW.trod enc Try.prog W 0 (fun _ => true) true n 32 [c] = some y) (hw : ∀ x ∈ y.1.weights Try.prog 32, x ≤ reachBytes) :
    ∃ A m k l, c = .slice A m k ∧ m ≤ k ∧ k ≤ 140737488351232 ∧ Reads W W.heap.size 1 A m (bv l) := by
  rcases open_ints Try.underlying32 Try.underlying5 (by kernel_rfl) h with ⟨hcs, hx⟩ | ⟨x, l, c', zs, hcs, _, hl, hm, hz, hx, hcell, hwz⟩
  · simp at hcs
    obtain rfl := hcs
    exact ⟨none, 0, 0, [], rfl, Nat.le_refl _, by omega, Reads.none_⟩
  · simp at hcs
    obtain rfl := hcs
    simp only [if_true] at hz
    subst hx
    have h1 := hw _ (by simp only [DataW.weights]; rw [Try.underlying32]; exact List.mem_cons_self ..)
    simp [lits, reachBytes] at h1
    rw [show Try.prog.bytesOf 5 = 1 from by kernel_rfl] at h1
    have hb : ∀ i, i < l → ∃ b : UInt8, W.cell? (x.add i) = some (.int .u8 (b.toNat : Int)) := fun i hi => by
      have h1 := hcell i (by omega)
      have h2 := hwz (zs.getD i 0) (by
        rw [List.getD_eq_getElem?_getD, List.getElem?_eq_getElem (by omega)]
        exact List.getElem_mem _)
      obtain ⟨b, hb⟩ := u8_nat h2
      exact ⟨b, by rw [h1, hb]⟩
    obtain ⟨f, hf⟩ := Deep.choose_lt hb
    refine ⟨some x, l, c', (List.range l).map f, rfl, hl, by omega, by simp [bv], fun hn => ⟨x, rfl, ?_, fun j u hu => ?_⟩⟩
    · have := cell_block (hf 0 hn)
      rwa [show x.add 0 = x from by simp [Addr.add]] at this
    · simp only [bv, List.map_map, List.getElem?_map, Option.map_eq_some_iff] at hu
      obtain ⟨i, hi, rfl⟩ := hu
      have hj : j < l := by have := (List.getElem?_eq_some_iff.1 hi).1; simpa using this
      rw [List.getElem?_range hj] at hi
      obtain rfl := Option.some.inj hi
      exact hf j hj
theorem ints_open {W : World} {n : Nat} {c : Value} {y : DataW H × List MemPlace} (h : DataW.trod enc Try.prog W 0 (fun _ => true) true n 22 [c] = some y) (hw : ∀ x ∈ y.1.weights Try.prog 22, x ≤ reachBytes) :
    ∃ A m k l, c = .slice A m k ∧ m ≤ k ∧ k ≤ 17592186043904 ∧ Reads W W.heap.size 1 A m (iv .i64 l) ∧ ∀ x ∈ l, i64 x := by
  rcases open_ints Try.underlying22 Try.underlying3 (by kernel_rfl) h with ⟨hcs, hx⟩ | ⟨x, l, c', zs, hcs, _, hl, hm, hz, hx, hcell, hwz⟩
  · simp at hcs
    obtain rfl := hcs
    exact ⟨none, 0, 0, [], rfl, Nat.le_refl _, by omega, Reads.none_, by simp⟩
  · simp at hcs
    obtain rfl := hcs
    simp only [if_true] at hz
    subst hx
    have h1 := hw _ (by simp only [DataW.weights]; rw [Try.underlying22]; exact List.mem_cons_self ..)
    simp [lits, reachBytes] at h1
    rw [show Try.prog.bytesOf 3 = 8 from by kernel_rfl] at h1
    refine ⟨some x, l, c', zs.take l, rfl, hl, by omega, ⟨by simp [iv]; omega, fun hn => ⟨x, rfl, ?_, fun j u hu => ?_⟩⟩, fun y hy => int_bounds (hwz y (List.mem_of_mem_take hy))⟩
    · have := cell_block (hcell 0 (by omega))
      rwa [show x.add 0 = x from by simp [Addr.add]] at this
    · unfold iv at hu
      rw [List.getElem?_map, Option.map_eq_some_iff] at hu
      obtain ⟨y, hy, rfl⟩ := hu
      have hi : j < l := by have := (List.getElem?_eq_some_iff.1 hy).1; simp at this; omega
      rw [List.getElem?_take_of_lt hi] at hy
      rw [hcell j (by omega)]
      simp [List.getD, hy]
theorem list6 {α : Type} {l : List α} (h : l.length = 6) : ∃ a b c d e f, l = [a, b, c, d, e, f] := by
  match l, h with
  | [a, b, c, d, e, f], _ => exact ⟨a, b, c, d, e, f, rfl⟩
theorem cells_i : Try.prog.cellsOf 3 = 1 := by kernel_rfl
theorem cells_b : Try.prog.cellsOf 32 = 1 := by kernel_rfl
theorem cells_is : Try.prog.cellsOf 22 = 1 := by kernel_rfl
theorem cells_op : Try.prog.cellsOf 54 = 6 := by kernel_rfl
theorem op_open {W : World} {n : Nat} {cs : List Value} {y : DataW H × List MemPlace} (h : DataW.trod enc Try.prog W 0 (fun _ => true) true n 54 cs = some y) (hw : ∀ x ∈ y.1.weights Try.prog 54, x ≤ reachBytes) :
    ∃ (o : Op17) (Ad : Option Addr) (m k : Nat) (Ap : Option Addr) (mp kp : Nat), cs = (opC o Ad m k Ap mp kp).toList ∧ o.Ok W W.heap.size Ad m k Ap mp kp := by
  obtain ⟨xs, q, _, hy, hl, hlen, hf⟩ := DataW.trod_struct Try.underlying54 h
  rw [cells_op] at hl
  obtain ⟨c0, c1, c2, c3, c4, c5, rfl⟩ := list6 hl
  have hlen' : xs.length = 6 := hlen
  obtain ⟨y0, y1, y2, y3, y4, y5, rfl⟩ := list6 hlen'
  subst hy
  have hw' : ∀ (j : Nat) (t : TypeId) (d : DataW H), ([3, 3, 3, 3, 32, 22] : List TypeId)[j]? = some t → ([y0.1, y1.1, y2.1, y3.1, y4.1, y5.1] : List (DataW H))[j]? = some d → ∀ x ∈ d.weights Try.prog t, x ≤ reachBytes := fun j t d ht hd x hx => by
    refine hw x ?_
    simp only [DataW.weights]
    rw [Try.underlying54]
    exact DataW.weights_mem_each (j := j) ht hd x hx
  have g0 : DataW.trod enc Try.prog W 0 (fun _ => true) true q 3 ((([c0, c1, c2, c3, c4, c5] : List Value).drop 0).take (Try.prog.cellsOf 3)) = ([y0, y1, y2, y3, y4, y5] : List (DataW H × List MemPlace))[0]? := hf 0 _ rfl
  have g1 : DataW.trod enc Try.prog W 0 (fun _ => true) true q 3 ((([c0, c1, c2, c3, c4, c5] : List Value).drop 1).take (Try.prog.cellsOf 3)) = ([y0, y1, y2, y3, y4, y5] : List (DataW H × List MemPlace))[1]? := hf 1 _ rfl
  have g2 : DataW.trod enc Try.prog W 0 (fun _ => true) true q 3 ((([c0, c1, c2, c3, c4, c5] : List Value).drop 2).take (Try.prog.cellsOf 3)) = ([y0, y1, y2, y3, y4, y5] : List (DataW H × List MemPlace))[2]? := hf 2 _ rfl
  have g3 : DataW.trod enc Try.prog W 0 (fun _ => true) true q 3 ((([c0, c1, c2, c3, c4, c5] : List Value).drop 3).take (Try.prog.cellsOf 3)) = ([y0, y1, y2, y3, y4, y5] : List (DataW H × List MemPlace))[3]? := hf 3 _ rfl
  have g4 : DataW.trod enc Try.prog W 0 (fun _ => true) true q 32 ((([c0, c1, c2, c3, c4, c5] : List Value).drop 4).take (Try.prog.cellsOf 32)) = ([y0, y1, y2, y3, y4, y5] : List (DataW H × List MemPlace))[4]? := hf 4 _ rfl
  have g5 : DataW.trod enc Try.prog W 0 (fun _ => true) true q 22 ((([c0, c1, c2, c3, c4, c5] : List Value).drop 5).take (Try.prog.cellsOf 22)) = ([y0, y1, y2, y3, y4, y5] : List (DataW H × List MemPlace))[5]? := hf 5 _ rfl
  rw [cells_i] at g0 g1 g2 g3
  rw [cells_b] at g4
  rw [cells_is] at g5
  obtain ⟨z0, e0, _, v0⟩ := DataW.trod_int Try.underlying3 (show DataW.trod enc Try.prog W 0 (fun _ => true) true q 3 [c0] = some y0 from g0)
  obtain ⟨z1, e1, _, v1⟩ := DataW.trod_int Try.underlying3 (show DataW.trod enc Try.prog W 0 (fun _ => true) true q 3 [c1] = some y1 from g1)
  obtain ⟨z2, e2, _, v2⟩ := DataW.trod_int Try.underlying3 (show DataW.trod enc Try.prog W 0 (fun _ => true) true q 3 [c2] = some y2 from g2)
  obtain ⟨z3, e3, _, v3⟩ := DataW.trod_int Try.underlying3 (show DataW.trod enc Try.prog W 0 (fun _ => true) true q 3 [c3] = some y3 from g3)
  obtain ⟨Ad, m, k, l, e4, hmk, hk, hr⟩ := bytes_open (show DataW.trod enc Try.prog W 0 (fun _ => true) true q 32 [c4] = some y4 from g4) (hw' 4 _ _ rfl rfl)
  obtain ⟨Ap, mp, kp, lp, e5, hmkp, hkp, hrp, hip⟩ := ints_open (show DataW.trod enc Try.prog W 0 (fun _ => true) true q 22 [c5] = some y5 from g5) (hw' 5 _ _ rfl rfl)
  injection e0 with e0
  injection e1 with e1
  injection e2 with e2
  injection e3 with e3
  exact ⟨⟨z0, z1, z2, z3, l, lp⟩, Ad, m, k, Ap, mp, kp, by rw [e0, e1, e2, e3, e4, e5]; rfl, ⟨int_bounds v0, int_bounds v1, int_bounds v2, int_bounds v3, hmk, hk, hr, hmkp, hkp, hrp, hip⟩⟩
theorem weights_mem_all {P : Program} {e : TypeId} : ∀ {ds : List (DataW H)} {d : DataW H}, d ∈ ds → ∀ n ∈ d.weights P e, n ∈ DataW.weightsAll P e ds
  | d0 :: ds, d, h, n, hn => by
    simp only [DataW.weightsAll, List.mem_append]
    rcases List.mem_cons.1 h with rfl | h
    · exact .inl hn
    · exact .inr (weights_mem_all h n hn)
theorem open_ops {W : World} {A : Option Addr} {n c : Nat} {d : DataW H} {p : List MemPlace} (h : DataW.Trod enc Try.prog W 0 (fun _ => true) true 52 (.slice A n c) d p)
    {ts : List TypeId} {ds : List (DataW H)} (hsz : (DataW.weightsEach Try.prog ts ds).all (· ≤ reachBytes) = true) {j : Nat} (hj : ts[j]? = some 52) (hd : ds[j]? = some d) :
    ∃ ops, OpsAt W W.heap.size A n ops ∧ n ≤ c := by
  obtain ⟨fuel, hf⟩ := h
  have hwd : ∀ x ∈ d.weights Try.prog 52, x ≤ reachBytes := fun x hx => by
    have := List.all_eq_true.1 hsz x (DataW.weights_mem_each hj hd x hx)
    simpa using this
  rcases Deep.open_slice Try.underlying52 hf with ⟨hcs, hx⟩ | ⟨a, len, cap, m, q, D, Pl, hcs, _, hl, _, hm, hx, hel⟩
  · simp [Value.cells] at hcs
    obtain ⟨rfl, rfl, rfl⟩ := hcs
    exact ⟨[], ⟨rfl, fun h => absurd h (Nat.lt_irrefl 0)⟩, Nat.le_refl _⟩
  · simp [Value.cells] at hcs
    obtain ⟨rfl, rfl, rfl⟩ := hcs
    simp only [if_true] at hm
    simp only [Prod.mk.injEq] at hx
    obtain ⟨hx, _⟩ := hx
    have hb : ∀ i, i < n → ∃ o : Op17, ∃ Ad m k Ap mp kp, (∀ j u, (opC o Ad m k Ap mp kp).toList[j]? = some u → W.cell? (a.add (6 * i + j)) = some u) ∧ o.Ok W W.heap.size Ad m k Ap mp kp := fun i hi => by
      obtain ⟨cs', h1, h2⟩ := hel i (by omega)
      rw [cells_op] at h1
      have hwi : ∀ x ∈ (D i).weights Try.prog 54, x ≤ reachBytes := fun x hx' => by
        refine hwd x ?_
        rw [hx]
        simp only [DataW.weights]
        rw [Try.underlying52]
        refine List.mem_cons_of_mem _ (List.mem_append_left _ (weights_mem_all (d := D i) ?_ x hx'))
        exact List.mem_map_of_mem (List.mem_range.2 hi)
      obtain ⟨o, Ad, m', k, Ap, mp, kp, rfl, hok⟩ := op_open h2 hwi
      obtain ⟨_, hlen, hc⟩ := World.cells?_some h1
      refine ⟨o, Ad, m', k, Ap, mp, kp, fun j u hu => ?_, hok⟩
      have hj6 : j < 6 := (List.getElem?_eq_some_iff.1 hu).1
      have := hc j hj6
      rw [Deep.add_add, Nat.mul_comm] at this
      rw [this]
      exact hu
    obtain ⟨f, hf⟩ := Deep.choose_lt hb
    refine ⟨(List.range n).map f, ⟨by simp, fun hn => ⟨a, rfl, ?_, fun i o ho => ?_⟩⟩, hl⟩
    · obtain ⟨Ad, m', k', Ap, mp, kp, h1, _⟩ := hf 0 hn
      have := cell_block (h1 0 _ rfl)
      rwa [show a.add (6 * 0 + 0) = a from by simp [Addr.add]] at this
    · have hj : i < n := by have := (List.getElem?_eq_some_iff.1 ho).1; simpa using this
      rw [List.getElem?_map, List.getElem?_range hj] at ho
      obtain rfl := Option.some.inj ho
      exact hf i hj
end
theorem add_blk (x : Addr) (j : Nat) : (x.add j).block = x.block := by unfold Addr.add; split <;> rfl
theorem OpsAt.len {W : World} {B n : Nat} {A : Option Addr} {ops : List Op17} (h : OpsAt W B A n ops) : ops.length = n := h.1
theorem Op17.Ok.below {W W' : World} {B C : Nat} {o : Op17} {Ad Ap : Option Addr} {m k mp kp : Nat} (h : o.Ok W B Ad m k Ap mp kp) (hb : Below B W W') : o.Ok W' B Ad m k Ap mp kp :=
  ⟨h.kind, h.a, h.b, h.n, h.le, h.k, h.data.below hb, h.lep, h.kp, h.picks.below hb, h.each⟩
/-- an operation of a number, in all later worlds -/
theorem OpsAt.later {W : World} {B i n : Nat} {A : Option Addr} {ops : List Op17} {o : Op17} (h : OpsAt W B A n ops) (ho : ops[i]? = some o) :
    ∃ x Ad m k Ap mp kp, A = some x ∧ ∀ W', Below B W W' → (∀ j u, (opC o Ad m k Ap mp kp).toList[j]? = some u → W'.cell? ((x.add (i * 6)).add j) = some u) ∧ o.Ok W' B Ad m k Ap mp kp := by
  have hi := (List.getElem?_eq_some_iff.1 ho).1
  have h1 := h.1
  obtain ⟨x, hA, hx, h3⟩ := h.2 (by omega)
  obtain ⟨Ad, m, k, Ap, mp, kp, e1, e2⟩ := h3 i o ho
  refine ⟨x, Ad, m, k, Ap, mp, kp, hA, fun W' hb => ⟨fun j u hu => ?_, e2.below (C := 0) hb⟩⟩
  rw [hb.cell (by rw [add_blk, add_blk]; exact hx), Deep.add_add, Nat.mul_comm i 6]
  exact e1 j u hu
/-- a struct's value, read where it lies -/
theorem run_load_list {P : Program} {W : World} {t k : Nat} {p : Addr} {cs : List Value} (a : TAgg P t k) (hc : ∀ j v, cs[j]? = some v → W.cell? (p.add j) = some v) (hs : cs.length = k) : (Instr.loadAt t (.pointer (some p))).run P W = .ok (.agg cs.toArray) W := by
  have hl : (loadCells p k).run P W = .ok cs.toArray W := by
    have := run_loadCells_list (P := P) W p cs hc
    rw [hs] at this
    exact this
  unfold Instr.loadAt Instr.sureAddr loadVar
  simp [run_isAgg_agg a, run_size a.s, hl]
theorem VRead.loadL {P : Program} {w : World} {t k : Nat} {p : Addr} {cs : Array Value} {K : Value → Prop} [a : TAgg P t k] (hc : ∀ j v, cs.toList[j]? = some v → w.cell? (p.add j) = some v) (hs : Nat.beq cs.size k = true) (hk : K (.agg cs)) : VRead P (Eq w) (Instr.loadAt t (.pointer (some p))) K :=
  .of1 (by have := run_load_list a hc (by rw [Array.length_toList]; exact Nat.eq_of_beq_eq_true hs); simpa using this) hk
end Go.Proofs.Ytajheglnhfjodaa
