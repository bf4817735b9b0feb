/- Texts joined: WalM, WalO, WalQ, SnapJ, WalN, RwE, RwF, RwG, RwH, WalR, WalS, RdL, RwI, Open, RwJ. No condition. -/
import Derived.Test.YtebeidnmplnlpaaGreatPkw5
import Derived.Test.YtebeidnmplnlpaaGreatPkw2
import Derived.Test.YtebeidnmplnlpaaGreatPkw3
import Derived.Deep.Slices
import Derived.OpenShut
section
set_option maxRecDepth 10000
namespace Go.Proofs.YtebeidnmplnlpaaGreat
set_option linter.unusedVariables false
open Go.RowKit

def e18 : En := ⟨3, true, [120]⟩
def k18 : Kp := ⟨3, 2, 0, 0, [e18]⟩
def f18 : List UInt8 := Frame.laid (waBs Kp.zero ++ saveBs true 3 2 1 [e18])
theorem f18_eq : waB Kp.zero ++ wsB true 3 2 1 [e18] = f18 := by rw [waB_laid, wsB_laid, ← Frame.laid_append]; rfl
theorem e18_ok : ∀ e ∈ [e18], mayE e := by decide
theorem says18 : Says (waBs Kp.zero ++ saveBs true 3 2 1 [e18]) k18 := (says_new (k := Kp.zero) (by decide) (by decide)).save (set := true) (term := 3) (vote := 2) (fr := 1) (es := [e18]) (fun _ => by decide) (fun _ => by decide) e18_ok (by decide)
theorem open18 : DS.wopen (DS.new 10000) = ((0, ⟨k0 10000 4, [(wName 1, fullF (waB Kp.zero))]⟩), some (⟨1, 0, 0⟩, Kp.zero)) := wopen_new (by decide) (by decide) (by have := zero_len; omega)
theorem entBs_pos {fr : Int} {e : En} {es : List En} {set : Bool} {term vote : Int} (h : 0 < fr) : wsB set term vote fr (e :: es) ≠ [] := by
  unfold wsB
  rw [if_pos h, written_cons]
  intro e1
  have := Frame.put_pos (entB fr e)
  have h2 := congrArg List.length e1
  simp only [List.length_append, List.length_nil] at h2
  omega
theorem save18 : DS.wsave ⟨k0 10000 4, [(wName 1, fullF (waB Kp.zero))]⟩ ⟨1, 0, 0⟩ true 3 2 1 [e18] = ((0, ⟨k0 10000 6, [(wName 1, fullF f18)]⟩), ⟨1, 0, 1⟩) := by
  have h := wsave_one (r := 10000) (c := 4) (n := 1) (by decide) (by decide) (b := waB Kp.zero) (base := 0) (last := 0) (set := true) (term := 3) (vote := 2) (fr := 1) (es := [e18]) (by decide) e18_ok (entBs_pos (by decide)) (by
    have h1 := zero_len
    have h2 := wsB_few (m := 1) (set := true) (term := 3) (vote := 2) (fr := 1) (es := [e18]) (by decide)
    have h3 : [e18].length = 1 := rfl
    omega)
  rw [f18_eq] at h
  exact h
theorem reopen18 : DS.wopen ⟨k0 10000 6, [(wName 1, fullF f18)]⟩ = ((0, ⟨k0 10000 7, [(wName 1, fullF f18)]⟩), some (⟨1, 0, 1⟩, k18)) := by
  obtain ⟨h1, h2⟩ := says18.read
  exact wopen_one (r := 10000) (c := 6) (n := 1) (by decide) (by decide) (f := fullF f18) h1 h2
set_option maxHeartbeats 2000000 in
theorem awake18_any (W : World) : Calls Tryz.prog 6 #[] W fun e W' => e = .returned (.bool true) ∧ Below W.heap.size W W' := by
  refine calls_vc Tryz.func6 rfl (by kernel_rfl) ?_
  ((conv => whnf); (repeat ((first | (refine VL.cons ?_) | (refine VL.nil ?_) | (refine VC.seqS rfl ?_) | (refine VC.region ?_)); (conv => whnf))))
  ((repeat ((fail); (conv => whnf))))
  refine VCall.of (oNew W 10000) ?_
  rintro e W1 ⟨d, U, rfl, hd1, hUB, hB1⟩
  refine ⟨_, rfl, ?_⟩
  ((conv => whnf); (repeat ((first | (refine VL.cons ?_) | (refine VL.nil ?_) | (refine VC.seqS rfl ?_) | (refine VC.region ?_)); (conv => whnf))))
  ((repeat ((fail); (conv => whnf))))
  refine VCall.of (walOpen_any W1 U d (DS.new 10000) hd1 (by decide)) ?_
  rw [open18]
  rintro e W2 ⟨U2, hd2, st2, g, A, n, c, rfl, hw2, hg2, hgl2, hE2⟩
  refine ⟨_, rfl, ?_⟩
  simp only at hd2 hw2 hE2 ⊢
  have hUB2 := st2.min hUB hB1.size
  have hB2 : Below W.heap.size W W2 := hB1.trans (st2.below hUB hB1.size)
  ((conv => whnf); (repeat ((first | (refine VL.cons ?_)); (conv => whnf))))
  ((repeat ((fail); (conv => whnf))))
  refine VSem.allocZ (z := .agg (kC Kp.zero none 0 0)) (by kernel_rfl) ?_
  intro W3 q hq hqe hql hB3
  ((conv => whnf); (repeat ((first | (refine VL.cons ?_)); (conv => whnf))))
  ((repeat ((fail); (conv => whnf))))
  refine VUnit.storeAB hq rfl rfl rfl (by simp [kC, Kp.zero, Value.oneCell']) ?_
  intro W4 hq4 hg4
  rw [setFrom_allW (vs := kC Kp.zero A n c) (by rfl)] at hq4
  have hB24 : Below W2.heap.size W2 W4 := only_new hB3 hg4 (by omega) (by omega)
  have hd4 := hd2.below hB24
  have hw4 := hw2.later hB24
  have hB4 := hB2.trans (hB24.mono hB2.size)
  have nq : ¬ U2 q := fun hu => by have := hd2.lt q hu; omega
  ((conv => whnf); (repeat ((first | (refine VL.cons ?_) | (refine VL.nil ?_)); (conv => whnf))))
  (repeat (first | ((first | (refine VL.cons ?_) | (refine VC.seqS rfl ?_) | (refine VC.region ?_) | (refine VBool.f ?_) | (refine VRead.fld ?_) | (refine VRead.eqPN ?_) | (refine VC.seq ?_)); (conv => whnf)) | (refine VRead.loadB hq4 rfl rfl ?_; (conv => whnf))))
  refine VCall.of (oCalls W4 U2 d _ hd4) ?_
  rintro e W5 ⟨rfl, eW5⟩
  obtain rfl := eW5.symm
  refine ⟨_, rfl, ?_⟩
  (conv => whnf)
  (repeat ((first | (refine VBool.nT rfl ?_) | (refine VL.cons ?_) | (refine VBool.f ?_)); (conv => whnf)))
  refine VSem.buildS rfl rfl (by simp [zipP, Value.oneCell']) (by omega) ?_
  ((conv => whnf); (repeat ((first | (refine VL.cons ?_)); (conv => whnf))))
  ((repeat ((first | (refine VBool.f ?_)); (conv => whnf))))
  refine VSem.of (w' := W4.alloc (.cells (bv [120]).toArray 5 (1, 2))) (Lib.run_convert_bytes_const (P := Tryz.prog) W4 33 5 _ 1 1 Tryz.underlying33 Tryz.underlying5) ?_
  have hr6 : Reads (W4.alloc (.cells (bv [120]).toArray 5 (1, 2))) (W4.alloc (.cells (bv [120]).toArray 5 (1, 2))).heap.size 1 (some ⟨W4.heap.size, 0, none⟩) 1 (bv [120]) := (reads_new W4 [120] 5 (1, 2) _ rfl 1 rfl).more (by simp)
  have hL6 : Lies (W4.alloc (.cells (bv [120]).toArray 5 (1, 2))) (fun j => W4.heap.size ≤ j) (some ⟨W4.heap.size, 0, none⟩) 1 [120] := ⟨hr6, fun _ => ⟨_, _, _, rfl, Nat.le_refl _, World.alloc_heap_new W4 _⟩⟩
  have hB6 := (Below.refl W4.heap.size W4).alloc (Nat.le_refl _) (.cells (bv [120]).toArray 5 (1, 2))
  generalize W4.alloc (.cells (bv [120]).toArray 5 (1, 2)) = W6 at *
  ((conv => whnf); (repeat ((first | (refine VL.cons ?_)); (conv => whnf))))
  ((repeat ((first | (refine VBool.f ?_)); (conv => whnf))))
  refine VRead.ofW (v := .agg #[.int .i64 3, .bool true, .slice (some ⟨W4.heap.size, 0, none⟩) 1 1]) (fun _ => by kernel_rfl) ?_
  ((conv => whnf); (repeat ((first | (refine VL.cons ?_)); (conv => whnf))))
  ((repeat ((first | (refine VBool.f ?_)); (conv => whnf))))
  refine VSem.of (v := .slice (some ⟨W6.heap.size, 0, none⟩) 1 1) (w' := W6.alloc (.cells #[.int .i64 3, .bool true, .slice (some ⟨W4.heap.size, 0, none⟩) 1 1] 56)) (by kernel_rfl) ?_
  have hnew := Blk.new W6 56 #[.int .i64 3, .bool true, .slice (some ⟨W4.heap.size, 0, none⟩) 1 1]
  have hB7 : Below W6.heap.size W6 (W6.alloc (.cells #[.int .i64 3, .bool true, .slice (some ⟨W4.heap.size, 0, none⟩) 1 1] 56)) := (Below.refl _ W6).alloc (Nat.le_refl _) _
  generalize W6.alloc (.cells #[.int .i64 3, .bool true, .slice (some ⟨W4.heap.size, 0, none⟩) 1 1] 56) = W7 at *
  have hB47 := hB6.trans (hB7.mono hB6.size)
  have z7 := hB47.size
  have hen : EnAt W7 (fun _ => True) (some ⟨W6.heap.size, 0, none⟩) 1 [e18] := EnAt.one (e := e18) hnew trivial (Nat.le_refl _) ((hL6.below hB7 (Nat.le_refl _)).more (fun _ _ _ => trivial))
  have hen2 : EnAt W7 (fun j => j < W7.heap.size) (some ⟨W6.heap.size, 0, none⟩) 1 [e18] := hen.more (fun j h _ => h)
  ((conv => whnf); (repeat ((first | (refine VL.cons ?_)); (conv => whnf))))
  ((repeat ((first | (refine VBool.f ?_)); (conv => whnf))))
  refine VCall.of (walSave_any W7 U2 g d _ ⟨1, 0, 0⟩ true 3 2 1 _ 1 1 [e18] (hd4.below hB47) (hw4.later hB47) hg2 ⟨by decide, by decide, by decide, by decide, by decide, by decide⟩ hen2 (by decide) (by decide) (by decide) (by decide)) ?_
  rw [save18]
  rintro e W8 ⟨rfl, U8, hd8, hw8, hg8, st8⟩
  refine ⟨_, rfl, ?_⟩
  simp only at hd8 hw8 ⊢
  have hUa : ∀ j, addF U2 g j → W.heap.size ≤ j := fun j hj => by
    rcases hj with hj | hj
    · exact hUB2 j hj
    · have := hB1.size; omega
  have hB47' := hB4.trans (hB47.mono hB4.size)
  have hB8 := hB47'.trans (st8.below hUa hB47'.size)
  have hUB8 := st8.min hUa hB47'.size
  have nqa : ¬ addF U2 g q := fun h => by
    rcases h with h | h
    · exact nq h
    · have := hw2.lt; omega
  obtain ⟨hq8, nq8⟩ := st8.blk (hq4.later hB47) nqa
  ((conv => whnf); (repeat ((first | (refine VL.cons ?_)); (conv => whnf))))
  ((repeat ((first | (refine VL.cons ?_) | (refine VL.nil ?_) | (refine VC.seqS rfl ?_) | (refine VC.region ?_) | (refine VC.cond ?_) | (refine VC.skip ?_) | (refine VBool.f ?_)); (conv => whnf))))
  refine VCall.of (walOpen_any W8 U8 d _ hd8 (by decide)) ?_
  rw [reopen18]
  rintro e W9 ⟨U9, hd9, st9, g9, A9, n9, c9, rfl, hw9, hg9, hgl9, hE9⟩
  refine ⟨_, rfl, ?_⟩
  simp only at hd9 hw9 hE9 ⊢
  obtain ⟨hq9, nq9⟩ := st9.blk hq8 (fun h => nq8 (.inl h))
  have hB9 := hB8.trans (st9.below (fun j hj => hUB8 j (.inl hj)) hB8.size)
  have hn9 : n9 = 1 := hE9.at_.2.2.symm
  subst hn9
  ((conv => whnf); (repeat ((first | (refine VL.cons ?_)); (conv => whnf))))
  ((repeat ((fail); (conv => whnf))))
  refine VUnit.storeAB hq9 rfl rfl rfl (by simp [kC, Value.oneCell']) ?_
  intro W10 hq10 hg10
  rw [setFrom_allW (vs := kC k18 A9 1 c9) (by rfl)] at hq10
  have hqW : W.heap.size ≤ q := by have := hB2.size; omega
  have hB10 : Below W.heap.size W W10 := only_new hB9 hg10 hqW hB9.size
  ((conv => whnf); (repeat ((first | (refine VL.cons ?_) | (refine VL.nil ?_) | (refine VC.seqS rfl ?_) | (refine VC.region ?_)); (conv => whnf))))
  (repeat (first | ((first | (refine VL.cons ?_) | (refine VBool.t ?_) | (refine VRead.lenS ?_) | (refine VRead.fld ?_)); (conv => whnf)) | (refine VRead.loadB hq10 rfl rfl ?_; (conv => whnf))))
  refine VCall.of (walName_any 7 W10 (by decide)) ?_
  rintro e W11 ⟨rfl, hB11⟩
  refine ⟨_, rfl, ?_⟩
  ((conv => whnf); (repeat ((first | (refine VL.cons ?_)); (conv => whnf))))
  ((repeat ((first | (refine VL.cons ?_) | (refine VL.nil ?_) | (refine VC.ret ?_) | (refine VBool.t ?_)); (conv => whnf))))
  refine ⟨?_, hB10.trans (hB11.mono hB10.size)⟩
  congr 2
end Go.Proofs.YtebeidnmplnlpaaGreat
end

section
set_option maxRecDepth 10000
namespace Go.Proofs.YtebeidnmplnlpaaGreat
set_option linter.unusedVariables false
open Go.RowKit

end Go.Proofs.YtebeidnmplnlpaaGreat
end

section
set_option maxRecDepth 10000
namespace Go.Proofs.YtebeidnmplnlpaaGreat
set_option linter.unusedVariables false
open Go.RowKit

theorem VRead.load3WS {P : Program} {S : World → Prop} {t : Nat} {p : Addr} {u v z : Value} {K : Value → Prop} [a : TAgg P t 3] (h : ∀ X, S X → X.cell? (p.add 0) = some u ∧ X.cell? (p.add 1) = some v ∧ X.cell? (p.add 2) = some z) (hk : K (.agg #[u, v, z])) : VRead P S (Instr.loadAt t (.pointer (some p))) K :=
  .of (fun X hX => run_load_listW (cs := [u, v, z]) a (fun j x hj => by
    obtain ⟨h0, h1, h2⟩ := h X hX
    match j, hj with
    | 0, hj => rw [h0]; simpa using hj
    | 1, hj => rw [h1]; simpa using hj
    | 2, hj => rw [h2]; simpa using hj) rfl) hk
theorem EnAt.later {w : World} {A : Option Addr} {n i : Nat} {es : List En} {e : En} (h : EnAt w (fun j => j < w.heap.size) A n es) (he : es[i]? = some e) :
    ∃ x D m k, A = some x ∧ e.data.length = m ∧ ∀ X, Below w.heap.size w X → X.cell? ((x.add (i * 3)).add 0) = some (.int .i64 e.term) ∧ X.cell? ((x.add (i * 3)).add 1) = some (.bool e.cmd) ∧ X.cell? ((x.add (i * 3)).add 2) = some (.slice D m k) ∧ Reads X w.heap.size 1 D m (bv e.data) := by
  have hi := (List.getElem?_eq_some_iff.1 he).1
  have h1 := h.1
  obtain ⟨x, hA, hx, hv, h3⟩ := h.2 (by omega)
  obtain ⟨D, m, k, e1, e2, e3, e4, e5⟩ := h3 i e he
  refine ⟨x, D, m, k, hA, e5.len, fun X hX => ?_⟩
  have key : ∀ j u, w.cell? (x.add j) = some u → X.cell? (x.add j) = some u := fun j u hu => (World.cell?_of_block (by rw [adb]; exact hX.block _ hx)).trans hu
  refine ⟨?_, ?_, ?_, e5.1.below hX⟩
  all_goals rw [Deep.add_add, Nat.mul_comm i 3]
  · exact key _ _ e1
  · exact key _ _ e2
  · exact key _ _ e3
theorem En.eq_iff {a b : En} : a = b ↔ a.term = b.term ∧ a.cmd = b.cmd ∧ a.data = b.data := by
  cases a; cases b; simp
set_option maxHeartbeats 1000000 in
theorem sameEntryW_any (a b : En) (A1 A2 : Option Addr) (n1 c1 n2 c2 : Nat) (w : World) (h1 : Reads w w.heap.size 1 A1 n1 (bv a.data)) (h2 : Reads w w.heap.size 1 A2 n2 (bv b.data)) :
    Calls Tryz.prog 83 #[.agg #[.int .i64 a.term, .bool a.cmd, .slice A1 n1 c1], .agg #[.int .i64 b.term, .bool b.cmd, .slice A2 n2 c2]] w fun e w' => e = .returned (.bool (decide (a = b))) ∧ Below w.heap.size w w' := by
  refine calls_vc Tryz.func83 rfl (by kernel_rfl) ?_
  ((conv => whnf); (repeat ((first | (refine VL.cons ?_) | (refine VC.seqS rfl ?_) | (refine VC.region ?_)); (conv => whnf))))
  ((repeat ((fail); (conv => whnf))))
  refine VSem.boxB ?_
  intro w1 g1 hb1 hg1 hl1 hB1
  replace hb1 : Blk w1 g1 56 #[.int .i64 a.term, .bool a.cmd, .slice A1 n1 c1] := hb1
  ((conv => whnf); (repeat ((first | (refine VL.cons ?_)); (conv => whnf))))
  ((repeat ((fail); (conv => whnf))))
  refine VSem.boxB ?_
  intro w2 g2 hb2 hg2 hl2 hB2
  replace hb2 : Blk w2 g2 56 #[.int .i64 b.term, .bool b.cmd, .slice A2 n2 c2] := hb2
  have hb1' := hb1.below hB2 hl1
  have hB12 := hB1.trans (hB2.mono hB1.size)
  by_cases ht : a.term = b.term
  case neg =>
    rw [decide_eq_false (fun e => ht (En.eq_iff.1 e).1)]
    ((conv => whnf); (repeat ((first | (refine VL.cons ?_) | (refine VL.nil ?_) | (refine VC.seqS rfl ?_) | (refine VC.region ?_)); (conv => whnf))))
    (repeat (first | ((first | (refine VL.cons ?_) | (refine VL.nil ?_) | (refine VC.ret ?_) | (refine VBool.f ?_) | (refine VBool.dF (by omega) ?_) | (refine VRead.fld ?_)); (conv => whnf)) | (refine VRead.loadB hb1' rfl rfl ?_; (conv => whnf)) | (refine VRead.loadB hb2 rfl rfl ?_; (conv => whnf))))
    exact ⟨rfl, hB12⟩
  by_cases hk : a.cmd = b.cmd
  case neg =>
    rw [decide_eq_false (fun e => hk (En.eq_iff.1 e).2.1)]
    ((conv => whnf); (repeat ((first | (refine VL.cons ?_) | (refine VL.nil ?_) | (refine VC.seqS rfl ?_) | (refine VC.region ?_)); (conv => whnf))))
    (repeat (first | ((first | (refine VL.cons ?_) | (refine VL.nil ?_) | (refine VC.ret ?_) | (refine VBool.t ?_) | (refine VBool.f ?_) | (refine VBool.dT (by omega) ?_) | (refine VBool.dF (by omega) ?_) | (refine VRead.fld ?_) | (refine VRead.eqB ?_)); (conv => whnf)) | (refine VRead.loadB hb1' rfl rfl ?_; (conv => whnf)) | (refine VRead.loadB hb2 rfl rfl ?_; (conv => whnf)) | (refine VBool.dF hk ?_; (conv => whnf))))
    exact ⟨rfl, hB12⟩
  ((conv => whnf); (repeat ((first | (refine VL.cons ?_) | (refine VL.nil ?_) | (refine VC.seqS rfl ?_) | (refine VC.region ?_)); (conv => whnf))))
  (repeat (first | ((first | (refine VL.cons ?_) | (refine VBool.t ?_) | (refine VBool.dT (by omega) ?_) | (refine VRead.fld ?_) | (refine VRead.eqB ?_)); (conv => whnf)) | (refine VRead.loadB hb1' rfl rfl ?_; (conv => whnf)) | (refine VRead.loadB hb2 rfl rfl ?_; (conv => whnf)) | (refine VBool.dT hk ?_; (conv => whnf))))
  refine VSem.convT ((h1.below hB12).more hB12.size) ?_
  ((conv => whnf); (repeat ((first | (refine VL.cons ?_)); (conv => whnf))))
  (repeat (first | ((first | (refine VL.cons ?_) | (refine VBool.t ?_) | (refine VRead.fld ?_)); (conv => whnf)) | (refine VRead.loadB hb1' rfl rfl ?_; (conv => whnf)) | (refine VRead.loadB hb2 rfl rfl ?_; (conv => whnf))))
  refine VSem.convT ((h2.below hB12).more hB12.size) ?_
  ((conv => whnf); (repeat ((first | (refine VL.cons ?_)); (conv => whnf))))
  ((repeat ((first | (refine VL.cons ?_) | (refine VL.nil ?_) | (refine VC.ret ?_) | (refine VBool.t ?_)); (conv => whnf))))
  refine ⟨?_, hB12⟩
  rw [show decide (a = b) = decide (txt a.data = txt b.data) from decide_eq_decide.2 ⟨fun e => by rw [e], fun e => En.eq_iff.2 ⟨ht, hk, txt_inj.1 e⟩⟩]
  rfl
set_option maxHeartbeats 1000000 in
theorem sameEntriesW_any (es fs : List En) (A1 A2 : Option Addr) (n1 c1 n2 c2 : Nat) (V1 V2 : Foot) (w : World) (h1 : EnAt w V1 A1 n1 es) (h2 : EnAt w V2 A2 n2 fs) (hn : n1 ≤ 100000000) :
    Calls Tryz.prog 57 #[.slice A1 n1 c1, .slice A2 n2 c2] w fun e w' => e = .returned (.bool (decide (es = fs))) ∧ Below w.heap.size w w' := by
  replace h1 : EnAt w (fun j => j < w.heap.size) A1 n1 es := h1.more (fun j hj _ => hj)
  replace h2 : EnAt w (fun j => j < w.heap.size) A2 n2 fs := h2.more (fun j hj _ => hj)
  have l1 := h1.1
  have l2 := h2.1
  refine calls_vc Tryz.func57 rfl (by kernel_rfl) ?_
  by_cases hl : n1 = n2
  case neg =>
    rw [decide_eq_false (fun e => hl (by rw [← l1, ← l2, e]))]
    ((conv => whnf); (repeat ((first | (refine VL.cons ?_) | (refine VL.nil ?_) | (refine VC.seqS rfl ?_) | (refine VC.region ?_)); (conv => whnf))))
    ((repeat ((first | (refine VL.cons ?_) | (refine VL.nil ?_) | (refine VC.seqS rfl ?_) | (refine VC.region ?_) | (refine VC.cond ?_) | (refine VC.ret ?_) | (refine VBool.nF (by omega) ?_) | (refine VRead.lenS ?_) | (refine VC.seq ?_)); (conv => whnf))))
    exact ⟨rfl, Below.refl _ _⟩
  ((conv => whnf); (repeat ((first | (refine VL.cons ?_) | (refine VL.nil ?_) | (refine VC.seqS rfl ?_) | (refine VC.region ?_)); (conv => whnf))))
  ((repeat ((first | (refine VL.cons ?_) | (refine VL.nil ?_) | (refine VC.seqS rfl ?_) | (refine VC.region ?_) | (refine VC.cond ?_) | (refine VC.block ?_) | (refine VC.skip ?_) | (refine VBool.nT (by omega) ?_) | (refine VRead.lenS ?_) | (refine VC.seq ?_)); (conv => whnf))))
  refine VC.loop [5] [(4, 5), (11, 26)] (fun q vs W => ∃ k : Nat, vs = [.int .i64 (k : Int)] ∧ q = n1 - k ∧ k ≤ n1 ∧ es.take k = fs.take k ∧ Below w.heap.size w W) (by kernel_rfl)
    ⟨_, 0, rfl, rfl, by omega, rfl, Below.refl _ _⟩ ?_
  rintro q τ vs W ⟨k, rfl, rfl, hk, hsame, hB⟩
  by_cases hlt : k < n1
  case neg =>
    have e1 : es = fs := by rwa [List.take_of_length_le (by omega), List.take_of_length_le (by omega)] at hsame
    rw [decide_eq_true e1]
    ((conv => whnf); (repeat ((fail); (conv => whnf))))
    ((repeat ((first | (refine VL.cons ?_) | (refine VL.nil ?_) | (refine VC.seqS rfl ?_) | (refine VC.region ?_) | (refine VC.cond ?_) | (refine VC.exit ?_) | (refine VC.ret ?_) | (refine VBool.dF (by omega) ?_) | (refine VRead.lenS ?_) | (refine VC.seq ?_)); (conv => whnf))))
    exact ⟨rfl, hB⟩
  have hlt2 : k < n2 := by omega
  obtain ⟨a, ha⟩ : ∃ e, es[k]? = some e := ⟨_, List.getElem?_eq_getElem (by omega)⟩
  obtain ⟨b, hb⟩ : ∃ e, fs[k]? = some e := ⟨_, List.getElem?_eq_getElem (by omega)⟩
  obtain ⟨x, D, m, j, rfl, hml, H1⟩ := h1.later ha
  obtain ⟨y, E, p, r, rfl, hpl, H2⟩ := h2.later hb
  have hS : Below w.heap.size w (W.drewN 1) := below_drewN hB 1
  ((conv => whnf); (repeat ((fail); (conv => whnf))))
  ((repeat ((first | (refine VL.cons ?_) | (refine VL.nil ?_) | (refine VC.seqS rfl ?_) | (refine VC.region ?_) | (refine VC.draw ?_) | (refine VC.cond ?_) | (refine VC.block ?_) | (refine VC.skip ?_) | (refine VBool.dT (by omega) ?_) | (refine VRead.lenS ?_) | (refine VC.seq ?_)); (conv => whnf))))
  refine VDraw.seg (fun X => Below w.heap.size w X) [([0, 1, 2, 3, 4, 5, 6, 7], 8)] [9] (by kernel_rfl) (by kernel_rfl) hS ?_
  generalize W.drewN 1 = W1 at *
  (conv => whnf)
  (repeat ((first | (refine VRead.atK hlt ?_) | (refine VRead.atK hlt2 ?_) | (refine VRead.load3WS (fun X hX => ⟨(H1 X hX).1, (H1 X hX).2.1, (H1 X hX).2.2.1⟩) ?_) | (refine VRead.load3WS (fun X hX => ⟨(H2 X hX).1, (H2 X hX).2.1, (H2 X hX).2.2.1⟩) ?_) | (refine VQ.cons ?_) | (refine VQ.nil ?_) | (refine VG.cons ?_)); (conv => whnf)))
  refine VCall.of (sameEntryW_any a b D E m j p r W1 ((H1 W1 hS).2.2.2.more hS.size) ((H2 W1 hS).2.2.2.more hS.size)) ?_
  rintro e W2 ⟨rfl, hB2⟩
  refine ⟨_, rfl, ?_⟩
  have hS2 := hS.trans (hB2.mono hS.size)
  (conv => whnf)
  refine Keep.mk hS2 ?_
  by_cases hab : a = b
  · rw [decide_eq_true hab]
    ((conv => whnf); (repeat ((first | (refine VC.cond ?_) | (refine VQ.cons ?_) | (refine VQ.nil ?_) | (refine VG.nil ?_)); (conv => whnf))))
    ((repeat ((first | (refine VL.cons ?_) | (refine VL.nil ?_) | (refine VC.region ?_) | (refine VC.skip ?_) | (refine VBool.f ?_) | (refine VWrap.i64 (by omega) (by omega) ?_)); (conv => whnf))))
    exact ⟨_, by omega, k + 1, rfl, rfl, by omega, by rw [take_snoc ha, take_snoc hb, hsame, hab], hS2⟩
  · rw [decide_eq_false hab, decide_eq_false (fun e => hab (by rw [e] at ha; rw [ha] at hb; exact Option.some.inj hb))]
    ((conv => whnf); (repeat ((first | (refine VC.cond ?_) | (refine VQ.cons ?_) | (refine VQ.nil ?_) | (refine VG.nil ?_)); (conv => whnf))))
    ((repeat ((first | (refine VL.cons ?_) | (refine VL.nil ?_) | (refine VC.seqS rfl ?_) | (refine VC.region ?_) | (refine VC.ret ?_) | (refine VBool.t ?_)); (conv => whnf))))
    exact ⟨rfl, hS2⟩
end Go.Proofs.YtebeidnmplnlpaaGreat
end

section
set_option maxRecDepth 10000
namespace Go.Proofs.YtebeidnmplnlpaaGreat
set_option linter.unusedVariables false
open Go.RowKit

theorem ten_cut {d : Nat} (h : d < 10) : ByteArray.extract ⟨#[48, 49, 50, 51, 52, 53, 54, 55, 56, 57]⟩ d (d + 1) = txt [UInt8.ofNat (48 + d)] := by
  match d, h with
  | 0, _ => rfl
  | 1, _ => rfl
  | 2, _ => rfl
  | 3, _ => rfl
  | 4, _ => rfl
  | 5, _ => rfl
  | 6, _ => rfl
  | 7, _ => rfl
  | 8, _ => rfl
  | 9, _ => rfl
set_option maxHeartbeats 1000000 in
theorem refNumbered_any (pre : List UInt8) (n k : Nat) (w : World) (hp : pre.length ≤ 1000) (hn : n ≤ 9223372036854775807) (hk : k ≤ 100) :
    Calls Tryz.prog 22 #[.string (txt pre), .int .i64 (n : Int), .int .i64 (k : Int)] w fun e w' => e = .returned (.string (txt (nameN pre k n))) ∧ w' = w := by
  refine calls_vc Tryz.func22 rfl (by kernel_rfl) ?_
  ((conv => whnf); (repeat ((first | (refine VL.cons ?_) | (refine VL.nil ?_) | (refine VC.seqS rfl ?_) | (refine VC.region ?_)); (conv => whnf))))
  ((repeat ((first | (refine VL.cons ?_) | (refine VL.nil ?_) | (refine VC.seqS rfl ?_) | (refine VC.region ?_) | (refine VC.block ?_) | (refine VC.seq ?_)); (conv => whnf))))
  refine VC.loop [1, 7, 8] [(1, 1), (7, 23)] (fun q vs W => ∃ j : Nat, vs = [.int .i64 ((n / 10 ^ j : Nat) : Int), .string (txt (dgs j n)), .int .i64 (j : Int)] ∧ q = k - j ∧ j ≤ k ∧ W = w) (by kernel_rfl)
    ⟨_, 0, (by show [Value.int .i64 (n : Int), Value.string ⟨#[]⟩, Value.int .i64 0] = _; simp [dgs, txt]), rfl, by omega, rfl⟩ ?_
  rintro q τ vs W ⟨j, rfl, rfl, hj, rfl⟩
  have hlj := dgs_len j n
  by_cases hlt : j < k
  · have hm0 : (0 : Int) ≤ ((n / 10 ^ j : Nat) : Int) := Int.natCast_nonneg _
    have hm1 : n / 10 ^ j ≤ 9223372036854775807 := Nat.le_trans (Nat.div_le_self _ _) hn
    have e2 : dgs (j + 1) n = dig (n / 10 ^ j) :: dgs j n := by rw [show j + 1 = 1 + j from by omega, dgs_split 1 j n]; rfl
    have e3 : n / 10 ^ (j + 1) = (n / 10 ^ j) / 10 := by rw [Nat.div_div_eq_div_mul, Nat.pow_succ]
    generalize hm : n / 10 ^ j = m at *
    have hmod : m % 10 < 10 := Nat.mod_lt _ (by decide)
    have ec : ByteArray.extract ⟨#[48, 49, 50, 51, 52, 53, 54, 55, 56, 57]⟩ (((m : Int) % 10).toNat) (((m : Int) % 10 + 1).toNat) = txt [dig m] := by
      rw [show ((m : Int) % 10).toNat = m % 10 from by omega, show ((m : Int) % 10 + 1).toNat = m % 10 + 1 from by omega]
      exact ten_cut hmod
    ((conv => whnf); (repeat ((fail); (conv => whnf))))
    ((repeat ((first | (refine VL.cons ?_) | (refine VL.nil ?_) | (refine VC.seqS rfl ?_) | (refine VC.region ?_) | (refine VC.cond ?_) | (refine VC.block ?_) | (refine VC.skip ?_) | (refine VBool.dT (by omega) ?_) | (refine VWrap.i64 (by omega) (by omega) ?_) | (refine VRead.rem (by omega) (by decide) ?_) | (refine VC.seq ?_)); (conv => whnf))))
    refine VRead.textLH (by omega) (by omega) (by show (m : Int) % 10 + 1 ≤ (10 : Nat); omega) ?_
    rw [ec]
    ((conv => whnf); (repeat ((first | (refine VL.cons ?_)); (conv => whnf))))
    ((repeat ((fail); (conv => whnf))))
    refine VRead.catT (by simp; omega) ?_
    ((conv => whnf); (repeat ((first | (refine VL.cons ?_) | (refine VL.nil ?_) | (refine VC.region ?_)); (conv => whnf))))
    (repeat (first | ((first | (refine VL.cons ?_) | (refine VL.nil ?_) | (refine VC.region ?_) | (refine VWrap.i64 (by omega) (by omega) ?_)); (conv => whnf)) | (refine VRead.quo64 (by omega) (by omega) (by omega) ?_; (conv => whnf))))
    refine ⟨_, ?_, j + 1, ?_, rfl, by omega, rfl⟩
    · omega
    · rw [e3, e2, Int.natCast_ediv]
      rfl
  · obtain rfl : j = k := by omega
    ((conv => whnf); (repeat ((fail); (conv => whnf))))
    ((repeat ((first | (refine VL.cons ?_) | (refine VL.nil ?_) | (refine VC.seqS rfl ?_) | (refine VC.region ?_) | (refine VC.cond ?_) | (refine VC.exit ?_) | (refine VBool.dF (by omega) ?_) | (refine VC.seq ?_)); (conv => whnf))))
    refine VRead.catT (by omega) ?_
    ((conv => whnf); (repeat ((first | (refine VL.cons ?_) | (refine VL.nil ?_) | (refine VC.ret ?_)); (conv => whnf))))
    ((repeat ((fail); (conv => whnf))))
    exact ⟨rfl, rfl⟩
def num1 (o : Option Nat) : Option Nat := match o with | some n => if 1 ≤ n then some n else none | none => none
set_option maxHeartbeats 1000000 in
theorem refNumber_any (pre s : List UInt8) (k : Nat) (w : World) (hp : pre.length ≤ 1000) (hs : s.length ≤ 9223372036854775807) (hk : k ≤ 17) :
    Calls Tryz.prog 53 #[.string (txt pre), .string (txt s), .int .i64 (k : Int)] w fun e w' => e = .returned (numV (num1 (numN pre k s))) ∧ w' = w := by
  have z1 : ByteArray.size (txt pre) = pre.length := txt_size _
  have z2 : ByteArray.size (txt s) = s.length := txt_size _
  refine calls_vc Tryz.func53 rfl (by kernel_rfl) ?_
  by_cases hl : s.length = pre.length + k
  case neg =>
    rw [numN_no (fun h => hl h.1)]
    ((conv => whnf); (repeat ((first | (refine VL.cons ?_) | (refine VL.nil ?_) | (refine VC.seqS rfl ?_) | (refine VC.region ?_)); (conv => whnf))))
    ((repeat ((first | (refine VL.cons ?_) | (refine VL.nil ?_) | (refine VC.seqS rfl ?_) | (refine VC.region ?_) | (refine VC.cond ?_) | (refine VC.ret ?_) | (refine VBool.t ?_) | (refine VBool.nF (by omega) ?_) | (refine VRead.lenT ?_) | (refine VWrap.i64 (by omega) (by omega) ?_) | (refine VC.seq ?_)); (conv => whnf))))
    exact ⟨rfl, rfl⟩
  by_cases ht : s.take pre.length = pre
  case neg =>
    rw [numN_no (fun h => ht h.2)]
    have ht' : ¬ txt (s.take pre.length) = txt pre := fun e => ht (txt_inj.1 e)
    ((conv => whnf); (repeat ((first | (refine VL.cons ?_) | (refine VL.nil ?_) | (refine VC.seqS rfl ?_) | (refine VC.region ?_)); (conv => whnf))))
    ((repeat ((first | (refine VL.cons ?_) | (refine VC.seqS rfl ?_) | (refine VC.region ?_) | (refine VBool.f ?_) | (refine VBool.nT (by omega) ?_) | (refine VRead.lenT ?_) | (refine VWrap.i64 (by omega) (by omega) ?_) | (refine VC.seq ?_)); (conv => whnf))))
    refine VRead.txtH pre.length (by omega) (by omega) ?_
    ((conv => whnf); (repeat ((first | (refine VL.cons ?_)); (conv => whnf))))
    (repeat (first | ((first | (refine VL.cons ?_) | (refine VL.nil ?_) | (refine VC.seqS rfl ?_) | (refine VC.region ?_) | (refine VC.cond ?_) | (refine VC.ret ?_) | (refine VBool.f ?_) | (refine VBool.nF (by omega) ?_)); (conv => whnf)) | (refine VBool.nF ht' ?_; (conv => whnf)) | (refine VBool.yes (by simp [ht']) ?_; (conv => whnf))))
    exact ⟨rfl, rfl⟩
  have ht' : txt (s.take pre.length) = txt pre := by rw [ht]
  have hN : numN pre k s = numD (s.drop pre.length) := by unfold numN; rw [if_pos ⟨hl, ht⟩]
  rw [hN]
  have hdl : (s.drop pre.length).length = k := by rw [List.length_drop]; omega
  have hd : s.drop pre.length = s.drop pre.length := rfl
  generalize hd : s.drop pre.length = d at hdl hN ⊢
  ((conv => whnf); (repeat ((first | (refine VL.cons ?_) | (refine VL.nil ?_) | (refine VC.seqS rfl ?_) | (refine VC.region ?_)); (conv => whnf))))
  ((repeat ((first | (refine VL.cons ?_) | (refine VC.seqS rfl ?_) | (refine VC.region ?_) | (refine VBool.f ?_) | (refine VBool.nT (by omega) ?_) | (refine VRead.lenT ?_) | (refine VWrap.i64 (by omega) (by omega) ?_) | (refine VC.seq ?_)); (conv => whnf))))
  refine VRead.txtH pre.length (by omega) (by omega) ?_
  ((conv => whnf); (repeat ((first | (refine VL.cons ?_)); (conv => whnf))))
  (repeat (first | ((first | (refine VL.cons ?_) | (refine VL.nil ?_) | (refine VC.seqS rfl ?_) | (refine VC.region ?_) | (refine VC.cond ?_) | (refine VC.block ?_) | (refine VC.skip ?_) | (refine VBool.f ?_) | (refine VBool.nT (by omega) ?_) | (refine VRead.lenT ?_) | (refine VC.seq ?_)); (conv => whnf)) | (refine VBool.nT ht' ?_; (conv => whnf))))
  refine VC.loop [8, 9] [(6, 9), (27, 50)] (fun q vs W => ∃ j : Nat, vs = [.int .i64 ((numF 0 (d.take j) : Nat) : Int), .int .i64 ((pre.length + j : Nat) : Int)] ∧ q = k - j ∧ j ≤ k ∧ (d.take j).all isDig = true ∧ W = w) (by kernel_rfl)
    ⟨_, 0, (by show [Value.int .i64 0, Value.int .i64 ((txt pre).size : Int)] = _; rw [z1]; rfl), rfl, by omega, rfl, rfl⟩ ?_
  rintro q τ vs W ⟨j, rfl, rfl, hj, hall, rfl⟩
  have hlt := numF_bound hall (by omega)
  by_cases hjk : j < k
  · obtain ⟨x, hx⟩ : ∃ x, d[j]? = some x := ⟨_, List.getElem?_eq_getElem (by omega)⟩
    have hxs : (txt s).data.toList[pre.length + j]? = some x := by
      rw [← hd, List.getElem?_drop] at hx
      exact hx
    have hxl : x.toNat < 256 := x.toNat_lt
    have htk := take_snoc hx
    by_cases h1 : 48 ≤ x.toNat
    · by_cases h2 : x.toNat ≤ 57
      · have hall' : (d.take (j + 1)).all isDig = true := by
          rw [htk, List.all_append, hall]
          simp [isDig, h1, h2]
        have hnum : numF 0 (d.take (j + 1)) = 10 * numF 0 (d.take j) + (x.toNat - 48) := by rw [htk, numF_snoc]
        generalize hN2 : numF 0 (d.take j) = a at *
        ((conv => whnf); (repeat ((fail); (conv => whnf))))
        (repeat (first | ((first | (refine VL.cons ?_) | (refine VL.nil ?_) | (refine VC.seqS rfl ?_) | (refine VC.region ?_) | (refine VC.cond ?_) | (refine VC.block ?_) | (refine VC.skip ?_) | (refine VBool.f ?_) | (refine VBool.dT (by omega) ?_) | (refine VBool.dF (by omega) ?_) | (refine VRead.lenT ?_) | (refine VWrap.i64 (by omega) (by omega) ?_) | (refine VSem.convI ?_) | (refine VC.seq ?_)); (conv => whnf)) | (refine VRead.idxT hxs ?_; (conv => whnf)) | (refine VWrap.u8 (by omega) (by omega) ?_; (conv => whnf))))
        refine ⟨_, by omega, j + 1, ?_, rfl, by omega, hall', rfl⟩
        rw [hnum]
        have e1 : ((10 * a + (x.toNat - 48) : Nat) : Int) = 10 * (a : Int) + ((x.toNat : Int) - 48) := by omega
        rw [e1]
        rfl
      · have hno : numD d = none := by
          unfold numD
          rw [if_neg]
          intro ha
          have := List.all_eq_true.1 ha x (List.mem_of_getElem? hx)
          simp [isDig] at this
          omega
        rw [hno]
        ((conv => whnf); (repeat ((fail); (conv => whnf))))
        (repeat (first | ((first | (refine VL.cons ?_) | (refine VL.nil ?_) | (refine VC.seqS rfl ?_) | (refine VC.region ?_) | (refine VC.cond ?_) | (refine VC.block ?_) | (refine VC.ret ?_) | (refine VC.skip ?_) | (refine VBool.f ?_) | (refine VBool.dT (by omega) ?_) | (refine VBool.dF (by omega) ?_) | (refine VRead.lenT ?_) | (refine VC.seq ?_)); (conv => whnf)) | (refine VRead.idxT hxs ?_; (conv => whnf))))
        exact ⟨rfl, rfl⟩
    · have hno : numD d = none := by
        unfold numD
        rw [if_neg]
        intro ha
        have := List.all_eq_true.1 ha x (List.mem_of_getElem? hx)
        simp [isDig] at this
        omega
      rw [hno]
      ((conv => whnf); (repeat ((fail); (conv => whnf))))
      (repeat (first | ((first | (refine VL.cons ?_) | (refine VL.nil ?_) | (refine VC.seqS rfl ?_) | (refine VC.region ?_) | (refine VC.cond ?_) | (refine VC.block ?_) | (refine VC.ret ?_) | (refine VC.skip ?_) | (refine VBool.t ?_) | (refine VBool.dT (by omega) ?_) | (refine VRead.lenT ?_) | (refine VC.seq ?_)); (conv => whnf)) | (refine VRead.idxT hxs ?_; (conv => whnf))))
      exact ⟨rfl, rfl⟩
  · obtain rfl : j = k := by omega
    have htk : d.take j = d := List.take_of_length_le (by omega)
    rw [htk] at hall ⊢
    have hyes : numD d = some (numF 0 d) := by unfold numD; rw [if_pos hall]
    rw [hyes]
    generalize numF 0 d = a at *
    ((conv => whnf); (repeat ((fail); (conv => whnf))))
    ((repeat ((first | (refine VL.cons ?_) | (refine VL.nil ?_) | (refine VC.seqS rfl ?_) | (refine VC.region ?_) | (refine VC.cond ?_) | (refine VC.exit ?_) | (refine VC.ret ?_) | (refine VBool.dF (by omega) ?_) | (refine VRead.lenT ?_) | (refine VC.seq ?_)); (conv => whnf))))
    refine ⟨?_, rfl⟩
    by_cases ha : 1 ≤ a
    · show Ending.returned (.tuple #[.int .i64 (a : Int), .bool (decide ((1 : Int) ≤ (a : Int)))]) = _
      rw [decide_eq_true (by omega)]
      unfold num1
      simp only
      rw [if_pos ha]
      rfl
    · obtain rfl : a = 0 := by omega
      rfl
end Go.Proofs.YtebeidnmplnlpaaGreat
end

section
set_option maxRecDepth 10000
namespace Go.Proofs.YtebeidnmplnlpaaGreat
set_option linter.unusedVariables false
open Go.RowKit

theorem refWName_any (i : Int) (w : World) (hi : -9223372036854775808 ≤ i ∧ i ≤ 9223372036854775807) :
    Calls Tryz.prog 7 #[.int .i64 i] w fun e w' => e = .returned (.string (txt (wName i))) ∧ w' = w := by
  refine calls_vc Tryz.func7 rfl (by kernel_rfl) ?_
  by_cases h1 : i < 1
  · have e : wName i = [] := by unfold wName; rw [if_pos (.inl h1)]
    rw [e]
    ((conv => whnf); (repeat ((first | (refine VL.cons ?_) | (refine VL.nil ?_) | (refine VC.seqS rfl ?_) | (refine VC.region ?_)); (conv => whnf))))
    ((repeat ((first | (refine VL.cons ?_) | (refine VL.nil ?_) | (refine VC.seqS rfl ?_) | (refine VC.region ?_) | (refine VC.cond ?_) | (refine VC.ret ?_) | (refine VBool.t ?_) | (refine VBool.dT (by omega) ?_) | (refine VC.seq ?_)); (conv => whnf))))
    exact ⟨rfl, rfl⟩
  by_cases h2 : 99999999 < i
  · have e : wName i = [] := by unfold wName; rw [if_pos (.inr h2)]
    rw [e]
    ((conv => whnf); (repeat ((first | (refine VL.cons ?_) | (refine VL.nil ?_) | (refine VC.seqS rfl ?_) | (refine VC.region ?_)); (conv => whnf))))
    ((repeat ((first | (refine VL.cons ?_) | (refine VL.nil ?_) | (refine VC.seqS rfl ?_) | (refine VC.region ?_) | (refine VC.cond ?_) | (refine VC.ret ?_) | (refine VBool.f ?_) | (refine VBool.dT (by omega) ?_) | (refine VBool.dF (by omega) ?_) | (refine VC.seq ?_)); (conv => whnf))))
    exact ⟨rfl, rfl⟩
  obtain ⟨n, rfl⟩ : ∃ n : Nat, i = (n : Int) := ⟨i.toNat, by omega⟩
  rw [wName_of (by omega) (by omega)]
  ((conv => whnf); (repeat ((first | (refine VL.cons ?_) | (refine VL.nil ?_) | (refine VC.seqS rfl ?_) | (refine VC.region ?_)); (conv => whnf))))
  ((repeat ((first | (refine VL.cons ?_) | (refine VL.nil ?_) | (refine VC.seqS rfl ?_) | (refine VC.region ?_) | (refine VC.cond ?_) | (refine VC.skip ?_) | (refine VBool.f ?_) | (refine VBool.dF (by omega) ?_) | (refine VC.seq ?_)); (conv => whnf))))
  refine VCall.of (refNumbered_any wPre n 8 w (by decide) (by omega) (by decide)) ?_
  rintro e w1 ⟨rfl, rfl⟩
  refine ⟨_, rfl, ?_⟩
  ((conv => whnf); (repeat ((first | (refine VL.cons ?_) | (refine VL.nil ?_) | (refine VC.ret ?_)); (conv => whnf))))
  ((repeat ((fail); (conv => whnf))))
  exact ⟨rfl, rfl⟩
end Go.Proofs.YtebeidnmplnlpaaGreat
end

section
set_option maxRecDepth 10000
namespace Go.Proofs.YtebeidnmplnlpaaGreat
set_option linter.unusedVariables false
open Go.RowKit

theorem andT_idW (A : Int × DS) : andT A (fun s => (0, s)) = A := by
  by_cases h : A.1 = 0
  · rw [andT_ok h]; exact Prod.ext h.symm rfl
  · rw [andT_no h]
theorem andT_assocW (A : Int × DS) (f g : DS → Int × DS) : andT (andT A f) g = andT A (fun s => andT (f s) g) := by
  by_cases h : A.1 = 0
  · rw [andT_ok h, andT_ok h]
  · rw [andT_no h, andT_no h, andT_no h]
theorem EnAt.laterL {w : World} {V : Foot} {A : Option Addr} {n i : Nat} {es : List En} {e : En} (h : EnAt w V A n es) (he : es[i]? = some e) :
    ∃ x D m k, A = some x ∧ m ≤ k ∧ ∀ X, Below w.heap.size w X → (X.cell? ((x.add (i * 3)).add 0) = some (.int .i64 e.term) ∧ X.cell? ((x.add (i * 3)).add 1) = some (.bool e.cmd) ∧ X.cell? ((x.add (i * 3)).add 2) = some (.slice D m k)) ∧ Lies X V D m e.data := by
  have hi := (List.getElem?_eq_some_iff.1 he).1
  have h1 := h.1
  obtain ⟨x, hA, hx, hv, h3⟩ := h.2 (by omega)
  obtain ⟨D, m, k, e1, e2, e3, e4, e5⟩ := h3 i e he
  refine ⟨x, D, m, k, hA, e4, fun X hX => ?_⟩
  have key : ∀ j u, w.cell? (x.add j) = some u → X.cell? (x.add j) = some u := fun j u hu => (World.cell?_of_block (by rw [adb]; exact hX.block _ hx)).trans hu
  refine ⟨⟨?_, ?_, ?_⟩, e5.below hX (Nat.le_refl _)⟩
  all_goals rw [Deep.add_add, Nat.mul_comm i 3]
  · exact key _ _ e1
  · exact key _ _ e2
  · exact key _ _ e3
theorem pt_next {k : Kp} {e : En} (he : mayE e) : pt k (k.base + k.es.length + 1) e = some { k with es := k.es ++ [e] } := by
  unfold pt
  rw [if_pos ⟨he, by omega, by omega⟩, show (k.base + (k.es.length : Int) + 1 - k.base - 1).toNat = k.es.length by omega, List.take_length]
set_option maxHeartbeats 2000000 in
theorem r18May_any (k : Kp) (A : Option Addr) (n c : Nat) (V : Foot) (w : World) (hk : mayK k) (hE : EnAt w V A n k.es) (hn : n ≤ 16777216) :
    Calls Tryz.prog 78 #[.agg (kC k A n c)] w fun e w' => e = .returned (.bool true) ∧ Below w.heap.size w w' := by
  have hnl := hE.1
  obtain ⟨hme, hkb, hkbt, hkt, hkv⟩ := hk
  obtain ⟨b1, b2⟩ := id hkb
  refine calls_vc Tryz.func78 rfl (by kernel_rfl) ?_
  ((conv => whnf); (repeat ((first | (refine VL.cons ?_) | (refine VC.seqS rfl ?_) | (refine VC.region ?_)); (conv => whnf))))
  ((repeat ((fail); (conv => whnf))))
  refine VSem.boxB ?_
  intro w1 g1 hb1 hg1 hl1 hB1
  replace hb1 : Blk w1 g1 72 (kC k A n c) := hb1
  have s1 := hB1.size
  have hE1 : EnAt w1 (fun _ => True) A n k.es := (hE.below hB1).more (fun _ _ _ => trivial)
  ((conv => whnf); (repeat ((first | (refine VL.cons ?_) | (refine VL.nil ?_) | (refine VC.seqS rfl ?_) | (refine VC.region ?_)); (conv => whnf))))
  (repeat ((first | (refine VRead.loadB hb1 rfl rfl ?_) | (refine VL.cons ?_) | (refine VRead.fld ?_)); (conv => whnf)))
  refine VRead.ofW (v := .agg (kC ⟨0, 0, k.base, 0, []⟩ none 0 0)) (fun _ => by kernel_rfl) ?_
  ((conv => whnf); (repeat ((first | (refine VL.cons ?_)); (conv => whnf))))
  ((repeat ((fail); (conv => whnf))))
  refine VSem.allocZ (z := .agg (kC Kp.zero none 0 0)) (by kernel_rfl) ?_
  intro w2 g3 hb3 hg3 hl3 hB2
  ((conv => whnf); (repeat ((first | (refine VL.cons ?_)); (conv => whnf))))
  ((repeat ((fail); (conv => whnf))))
  refine VUnit.storeAB hb3 rfl rfl rfl (by simp [kC, Kp.zero, Value.oneCell']) ?_
  intro w3 hb3' hg3'
  rw [setFrom_allW (vs := kC ⟨0, 0, k.base, 0, []⟩ none 0 0) (by rfl)] at hb3'
  replace hb3' : Blk w3 g3 72 (kC ⟨0, 0, k.base, 0, []⟩ none 0 0) := hb3'
  have hB13 : Below w1.heap.size w1 w3 := only_new hB2 hg3' (by omega) (by omega)
  have hg3l : w1.heap.size ≤ g3 := by omega
  clear hb3 hg3 hl3 hB2 hg3'
  ((conv => whnf); (repeat ((first | (refine VL.nil ?_)); (conv => whnf))))
  ((repeat ((fail); (conv => whnf))))
  refine VC.cut [] [(2, 2), (4, 4), (8, 23)] (fun vs X => vs = [] ∧ Below w1.heap.size w1 X) (by kernel_rfl) ?_ ?_
  · ((conv => whnf); (repeat ((first | (refine VL.cons ?_) | (refine VL.nil ?_) | (refine VC.seqS rfl ?_) | (refine VC.region ?_) | (refine VC.block ?_)); (conv => whnf))))
    ((repeat ((fail); (conv => whnf))))
    refine VC.loop [4] [(2, 2), (4, 4), (8, 23)] (fun q vs X => ∃ (j : Nat) (A' : Option Addr) (c' : Nat), vs = [.int .i64 (j : Int)] ∧ q = n - j ∧ j ≤ n ∧ Blk X g3 72 (kC ⟨0, 0, k.base, 0, k.es.take j⟩ A' j c') ∧ ERow X (fun _ => True) w1.heap.size (.slice A' j c') (k.es.take j) ∧ Below w1.heap.size w1 X) (by kernel_rfl)
      ⟨_, 0, none, 0, rfl, rfl, by omega, hb3', ERow.nil _ _ _, hB13⟩ ?_
    clear hb3' hB13
    rintro q τ vs X ⟨j, A', c', rfl, rfl, hj, hb3, hEx, hX⟩
    have kB : ∀ Y, Below w1.heap.size w1 Y → Blk Y g1 72 (kC k A n c) := fun Y hY => hb1.later hY
    have hb1X := kB X hX
    by_cases hlt : j < n
    case neg =>
      ((conv => whnf); (repeat ((fail); (conv => whnf))))
      (repeat ((first | (refine VRead.loadB hb1X rfl rfl ?_) | (refine VL.cons ?_) | (refine VL.nil ?_) | (refine VC.seqS rfl ?_) | (refine VC.region ?_) | (refine VC.cond ?_) | (refine VC.exit ?_) | (refine VBool.dF (by omega) ?_) | (refine VRead.lenS ?_) | (refine VRead.fld ?_) | (refine VC.seq ?_)); (conv => whnf)))
      exact ⟨rfl, hX⟩
    obtain ⟨e, he⟩ : ∃ e, k.es[j]? = some e := ⟨_, List.getElem?_eq_getElem (by omega)⟩
    obtain ⟨x, D, m, kk, rfl, hmk, H⟩ := hE1.laterL he
    have hS : Below w1.heap.size w1 (X.drewN 1) := below_drewN hX 1
    have hd1 : Below X.heap.size X (X.drewN 1) := below_drewN (Below.refl _ _) 1
    replace hb3 := hb3.later hd1
    replace hEx := hEx.below hd1
    ((conv => whnf); (repeat ((fail); (conv => whnf))))
    (repeat ((first | (refine VRead.loadB hb1X rfl rfl ?_) | (refine VL.cons ?_) | (refine VL.nil ?_) | (refine VC.seqS rfl ?_) | (refine VC.region ?_) | (refine VC.draw ?_) | (refine VC.cond ?_) | (refine VC.block ?_) | (refine VC.skip ?_) | (refine VBool.dT (by omega) ?_) | (refine VRead.lenS ?_) | (refine VRead.fld ?_) | (refine VC.seq ?_)); (conv => whnf)))
    refine VDraw.seg (fun Y => Below w1.heap.size w1 Y) [([2, 3, 4, 5, 6], 0), ([1], 7)] [8] (by kernel_rfl) (by kernel_rfl) hS ?_
    generalize X.drewN 1 = X1 at *
    (conv => whnf)
    (repeat ((first | (refine VRead.loadBS kB rfl rfl ?_) | (refine VRead.atK hlt ?_) | (refine VRead.load3WS (fun Y hY => (H Y hY).1) ?_) | (refine VQ.cons ?_) | (refine VQ.nil ?_) | (refine VG.cons ?_) | (refine VRead.fld ?_)); (conv => whnf)))
    refine VCall.of (r18Last_any X1 g3 _ A' j c' hb3 hkb (by omega)) ?_
    rintro E _ ⟨rfl, N, rfl⟩
    refine ⟨_, rfl, ?_⟩
    have hdN : Below X1.heap.size X1 (X1.drewN N) := below_drewN (Below.refl _ _) N
    have hSN := hS.trans (hdN.mono hS.size)
    replace hb3 := hb3.later hdN
    replace hEx := hEx.below hdN
    generalize X1.drewN N = X2 at *
    simp only
    (conv => whnf)
    refine Keep.mk hSN ?_
    (conv => whnf)
    ((repeat ((first | (refine VQ.cons ?_) | (refine VQ.nil ?_) | (refine VG.cons ?_) | (refine VWrap.i64 (by omega) (by omega) ?_)); (conv => whnf))))
    have htl : (k.es.take j).length = j := by rw [List.length_take]; omega
    have hpt : pt ⟨0, 0, k.base, 0, k.es.take j⟩ (k.base + (j : Int) + 1) e = some ⟨0, 0, k.base, 0, k.es.take (j + 1)⟩ := by
      have := pt_next (k := ⟨0, 0, k.base, 0, k.es.take j⟩) (e := e) (hme e (List.mem_of_getElem? he))
      simp only at this
      rw [htl] at this
      rw [this, take_snoc he]
    refine VCall.of (r18Put_any (fun _ => True) w1.heap.size g3 ⟨0, 0, k.base, 0, k.es.take j⟩ A' j c' (k.base + (j : Int) + 1) e D m kk X2 hb3 hEx (H X2 hSN).2 hmk hSN.size (fun _ _ => trivial) (by omega) hkb (by omega)) ?_
    rw [hpt]
    rintro E X3 ⟨hO, rfl, A3, n3, c3, hb33, hE3⟩
    refine ⟨_, rfl, ?_⟩
    simp only at hE3
    have hn3 : n3 = j + 1 := by
      have := hE3.at_.2.2
      rw [List.length_take] at this
      omega
    subst hn3
    have hS3 := hSN.trans (hO.below (fun j hj => by omega) hSN.size)
    (conv => whnf)
    refine Keep.mk hS3 ?_
    (conv => whnf)
    ((repeat ((first | (refine VL.cons ?_) | (refine VL.nil ?_) | (refine VC.region ?_) | (refine VC.cond ?_) | (refine VC.skip ?_) | (refine VQ.cons ?_) | (refine VQ.nil ?_) | (refine VG.nil ?_) | (refine VBool.f ?_) | (refine VWrap.i64 (by omega) (by omega) ?_)); (conv => whnf))))
    exact ⟨_, by omega, j + 1, A3, c3, rfl, rfl, by omega, hb33, hE3, hS3⟩
  rintro τ vs X ⟨rfl, hX⟩
  have hb1X := hb1.later hX
  ((conv => whnf); (repeat ((first | (refine VL.cons ?_) | (refine VC.seqS rfl ?_) | (refine VC.region ?_)); (conv => whnf))))
  (repeat ((first | (refine VRead.loadB hb1X rfl rfl ?_) | (refine VL.cons ?_) | (refine VRead.fld ?_)); (conv => whnf)))
  refine VCall.of (r18In_any k.base 0 1099511627776 X) ?_
  rintro e _ ⟨rfl, rfl⟩
  refine ⟨_, rfl, ?_⟩
  rw [decide_eq_true (p := 0 ≤ k.base ∧ k.base ≤ 1099511627776) hkb]
  ((conv => whnf); (repeat ((first | (refine VL.cons ?_)); (conv => whnf))))
  (repeat ((first | (refine VRead.loadB hb1X rfl rfl ?_) | (refine VL.cons ?_) | (refine VBool.t ?_) | (refine VRead.fld ?_)); (conv => whnf)))
  refine VCall.of (r18In_any k.bterm 0 1099511627776 _) ?_
  rintro e _ ⟨rfl, rfl⟩
  refine ⟨_, rfl, ?_⟩
  rw [decide_eq_true (p := 0 ≤ k.bterm ∧ k.bterm ≤ 1099511627776) hkbt]
  ((conv => whnf); (repeat ((first | (refine VL.cons ?_)); (conv => whnf))))
  (repeat ((first | (refine VRead.loadB hb1X rfl rfl ?_) | (refine VL.cons ?_) | (refine VBool.t ?_) | (refine VRead.fld ?_)); (conv => whnf)))
  refine VCall.of (r18In_any k.term 0 1099511627776 _) ?_
  rintro e _ ⟨rfl, rfl⟩
  refine ⟨_, rfl, ?_⟩
  rw [decide_eq_true (p := 0 ≤ k.term ∧ k.term ≤ 1099511627776) hkt]
  ((conv => whnf); (repeat ((first | (refine VL.cons ?_)); (conv => whnf))))
  (repeat ((first | (refine VRead.loadB hb1X rfl rfl ?_) | (refine VL.cons ?_) | (refine VBool.t ?_) | (refine VRead.fld ?_)); (conv => whnf)))
  refine VCall.of (r18In_any k.vote 0 7 _) ?_
  rintro e _ ⟨rfl, rfl⟩
  refine ⟨_, rfl, ?_⟩
  rw [decide_eq_true (p := 0 ≤ k.vote ∧ k.vote ≤ 7) hkv]
  ((conv => whnf); (repeat ((first | (refine VL.cons ?_) | (refine VL.nil ?_) | (refine VC.ret ?_)); (conv => whnf))))
  ((repeat ((fail); (conv => whnf))))
  exact ⟨rfl, hB1.trans (hX.mono s1)⟩
def wrC (r : Nat) (N : Int) (k : Kp) (A : Option Addr) (n c : Nat) : Array Value := #[.pointer (some ⟨r, 0, none⟩), .int .i64 N, .int .i64 k.term, .int .i64 k.vote, .int .i64 k.base, .int .i64 k.bterm, .slice A n c]
end Go.Proofs.YtebeidnmplnlpaaGreat
end

section
set_option maxRecDepth 10000
namespace Go.Proofs.YtebeidnmplnlpaaGreat
set_option linter.unusedVariables false
open Go.RowKit

theorem add_plainW (g i j : Nat) : (⟨g, i, none⟩ : Addr).add j = ⟨g, i + j, none⟩ := by unfold Addr.add; split <;> simp_all
theorem VUnit.storeABw {P : Program} {w : World} {t T g k : Nat} {p : Addr} {cs vs : Array Value} {K : World → Prop} (i : Nat) [a : TAgg P t k] (hb : Blk w g T cs) (hp : p = ⟨g, i, none⟩) (hs : Nat.beq vs.size k = true) (hk : Nat.ble (i + k) cs.size = true) (h1 : ∀ v ∈ vs.toList, v.oneCell' = true)
    (h : ∀ w', Blk w' g T (setFrom cs i vs.toList) → w.grownBy w' (some g) → K w') : VUnit P (Instr.storeAt t (.pointer (some p)) (.agg vs)) w K := by
  subst hp
  have e := Nat.eq_of_beq_eq_true hs
  have l := Nat.le_of_ble_eq_true hk
  have shift : ∀ (vs : List Value) (j : Nat), storeCells ⟨g, i, none⟩ vs j = storeCells ⟨g, 0, none⟩ vs (i + j) := by
    intro vs
    induction vs with
    | nil => intro j; rfl
    | cons v r ih =>
      intro j
      unfold storeCells
      rw [add_plainW, add_plainW, ih (j + 1), Nat.zero_add, Nat.add_assoc]
  obtain ⟨w', h2, h3, h4⟩ := run_storeCells_blk (P := P) vs.toList i w cs hb h1 (by rw [Array.length_toList]; omega)
  refine .of (w' := w') ?_ (h w' h3 h4)
  unfold Instr.storeAt Instr.sureAddr storeVar
  simp [run_size a.s, Value.cells, e]
  rw [shift]
  exact h2
theorem Rsk.cell {W W' : World} {U : Foot} {r g : Nat} {S : DS} (h : Rsk W U r S) (hg : W.grownBy W' (some g)) (hU : ¬ U g) : Rsk W' U r S :=
  ⟨h.ref.stay hg.size (fun j hj hu => hg.block j hj (fun e => by injection e with e; exact hU (e ▸ hu))), fun j hj => Nat.lt_of_lt_of_le (h.lt j hj) hg.size⟩
theorem wName_nil {n : Int} (h : 0 ≤ n) (h2 : n ≤ 99999999) : wName n = [] ↔ ¬ 0 < n := by
  constructor
  · intro e hn
    have hl := wName_len (n := n.toNat) (by omega) (by omega)
    rw [Int.toNat_of_nonneg h, e] at hl
    simp at hl
  · intro hn
    unfold wName
    rw [if_pos (.inl (by omega))]
theorem wrun_four (nm b : List UInt8) (S : DS) : wrun nm b 4 0 S = andT (andT (andT (S.create wTmp) fun s => s.append wTmp b) fun s => s.sync wTmp) fun s => s.rename wTmp nm := by
  have e : wrun nm b 4 0 S = andT (S.create wTmp) fun S1 => andT (S1.append wTmp b) fun S2 => andT (S2.sync wTmp) fun S3 => andT (S3.rename wTmp nm) fun S4 => (0, S4) := rfl
  rw [e]
  simp only [andT_assocW, andT_idW]
/-- the end of it -/
def rmW (R : Int × DS) (N : Int) : Int × DS := if R.1 = 0 ∧ 0 < N then (if (R.2.remove (wName N)).1 = 3 then 0 else (R.2.remove (wName N)).1, (R.2.remove (wName N)).2) else R
theorem wanew_rm {S : DS} {wl : WlS} {k : Kp} (hk : mayK k) (hnm : ¬ wName (wl.n + 1) = []) (h0 : 0 ≤ wl.n) (h9 : wl.n ≤ 99999999) : (S.wanew wl k).1 = rmW (wrun (wName (wl.n + 1)) (waB k) 4 0 S) wl.n := by
  unfold DS.wanew rmW
  rw [if_neg (fun h => h hk), if_neg hnm]
  simp only
  generalize wrun (wName (wl.n + 1)) (waB k) 4 0 S = R
  by_cases h1 : R.1 = 0
  · rw [if_neg (fun h => h h1)]
    by_cases h2 : 0 < wl.n
    · rw [if_neg (show ¬ wName wl.n = [] from fun e => (wName_nil h0 h9).1 e h2), if_pos (show R.1 = 0 ∧ 0 < wl.n from ⟨h1, h2⟩)]
    · rw [if_pos ((wName_nil h0 h9).2 h2), if_neg (fun h => h2 h.2)]
      exact Prod.ext h1.symm rfl
  · rw [if_pos h1, if_neg (fun h => h1 h.1)]
set_option maxHeartbeats 4000000 in
theorem r18Anew_any (W : World) (U : Foot) (g r : Nat) (S : DS) (N : Int) (wl : WlS) (K0 k : Kp) (A0 A : Option Addr) (n0 c0 n c : Nat) (h : Rsk W U r S) (hw : Blk W g 95 (wrC r N K0 A0 n0 c0)) (hg : ¬ U g) (hwl : wl.n = N) (hN : 0 ≤ N ∧ N ≤ 99999999) (hk : mayK k)
    (hE : EnAt W (fun j => j < W.heap.size) A n k.es) (hn : n ≤ 16777216) (hc : S.k.calls + 20 < 1000000) :
    Calls Tryz.prog 55 #[.pointer (some ⟨g, 0, none⟩), .agg (kC k A n c)] W fun e W' => e = .returned (.int .i64 (S.wanew wl k).1.1) ∧
      ∃ U', Rsk W' U' r (S.wanew wl k).1.2 ∧ Step W (addF U g) W' (addF U' g) ∧ ¬ U' g ∧ ((S.wanew wl k).1.1 = 0 → Blk W' g 95 (wrC r (N + 1) k A n c)) := by
  have hel := hE.1
  have hwn := wName_le N
  have hwn1 := wName_le (N + 1)
  have hgl := hw.lt
  obtain ⟨hme, hm1, hm2, hm3, hm4⟩ := id hk
  obtain ⟨m1, m2⟩ := id hm1
  obtain ⟨m3, m4⟩ := id hm2
  obtain ⟨m5, m6⟩ := id hm3
  obtain ⟨m7, m8⟩ := id hm4
  refine calls_vc Tryz.func55 rfl (by kernel_rfl) ?_
  ((conv => whnf); (repeat ((first | (refine VL.cons ?_) | (refine VC.seqS rfl ?_) | (refine VC.region ?_)); (conv => whnf))))
  ((repeat ((fail); (conv => whnf))))
  refine VSem.boxB ?_
  intro W1 g3 hb hge hgl3 hB1
  replace hb : Blk W1 g3 72 (kC k A n c) := hb
  have s1 := hB1.size
  ((conv => whnf); (repeat ((first | (refine VL.cons ?_) | (refine VL.nil ?_)); (conv => whnf))))
  ((repeat ((first | (refine VL.cons ?_) | (refine VC.seqS rfl ?_) | (refine VC.region ?_) | (refine VC.seq ?_)); (conv => whnf))))
  refine VRead.loadAB1 hb rfl rfl ?_
  ((conv => whnf); (repeat ((first | (refine VL.cons ?_)); (conv => whnf))))
  ((repeat ((fail); (conv => whnf))))
  refine VCall.of (r18May_any k A n c _ W1 hk (hE.belowB hB1) hn) ?_
  rintro e W2 ⟨rfl, hB2⟩
  refine ⟨_, rfl, ?_⟩
  replace hb := hb.later hB2
  have hB02 := hB1.trans (hB2.mono s1)
  have s2 := hB02.size
  have hw2 := hw.later hB02
  ((conv => whnf); (repeat ((first | (refine VL.cons ?_) | (refine VL.nil ?_) | (refine VC.cond ?_)); (conv => whnf))))
  (repeat (first | ((first | (refine VL.cons ?_) | (refine VC.seqS rfl ?_) | (refine VC.region ?_) | (refine VC.skip ?_) | (refine VBool.f ?_) | (refine VRead.fld ?_) | (refine VWrap.i64 (by omega) (by omega) ?_)); (conv => whnf)) | (refine VRead.loadB hw2 rfl rfl ?_; (conv => whnf))))
  refine VCall.of (refWName_any (N + 1) W2 (by omega)) ?_
  rintro e W2' ⟨rfl, eW⟩
  obtain rfl := eW.symm
  refine ⟨_, rfl, ?_⟩
  by_cases hnm : wName (N + 1) = []
  · have e1 : S.wanew wl k = ((2, S), wl) := by unfold DS.wanew; rw [if_neg (fun h => h hk), hwl, if_pos hnm]
    have hnm' : txt (wName (N + 1)) = txt [] := by rw [hnm]
    rw [e1]
    ((conv => whnf); (repeat ((first | (refine VL.cons ?_) | (refine VL.nil ?_)); (conv => whnf))))
    (repeat (first | ((first | (refine VL.cons ?_) | (refine VL.nil ?_) | (refine VC.seqS rfl ?_) | (refine VC.region ?_) | (refine VC.cond ?_) | (refine VC.ret ?_) | (refine VC.seq ?_)); (conv => whnf)) | (refine VBool.dT hnm' ?_; (conv => whnf))))
    exact ⟨rfl, U, h.below hB02, (Step.new hB02).add g, hg, fun h2 => absurd h2 (show ¬ (2 : Int) = 0 by decide)⟩
  have hnm' : ¬ txt (wName (N + 1)) = txt [] := fun e => hnm (txt_inj.1 e)
  have hN9 : N + 1 ≤ 99999999 := Int.not_lt.1 (fun hlt => hnm (by unfold wName; rw [if_pos (.inr hlt)]))
  have e0 := wanew_rm (S := S) (wl := wl) hk (by rw [hwl]; exact hnm) (by omega) (by omega)
  rw [hwl] at e0
  rw [e0]
  clear e0
  have hS : Below W2.heap.size W2 (W2.drewN 1) := below_drewN (Below.refl _ _) 1
  have kB : ∀ X, Below W2.heap.size W2 X → Blk X g3 72 (kC k A n c) := fun X hX => hb.later hX
  ((conv => whnf); (repeat ((first | (refine VL.cons ?_) | (refine VL.nil ?_)); (conv => whnf))))
  (repeat (first | ((first | (refine VL.cons ?_) | (refine VL.nil ?_) | (refine VC.seqS rfl ?_) | (refine VC.region ?_) | (refine VC.draw ?_) | (refine VC.cond ?_) | (refine VC.skip ?_) | (refine VC.seq ?_)); (conv => whnf)) | (refine VBool.dF hnm' ?_; (conv => whnf))))
  refine VDraw.seg (fun Y => Below W2.heap.size W2 Y) [([0, 2, 3, 4, 5], 1), ([], 6), ([], 7)] [8] (by kernel_rfl) (by kernel_rfl) hS ?_
  generalize W2.drewN 1 = W3 at *
  (conv => whnf)
  (repeat ((first | (refine VRead.loadAB kB rfl rfl ?_) | (refine VRead.loadBS kB rfl rfl ?_) | (refine VQ.cons ?_) | (refine VQ.nil ?_) | (refine VG.cons ?_) | (refine VRead.fld ?_)); (conv => whnf)))
  refine VCall.of (r18Base_any k A n c W3 (by omega) (by omega)) ?_
  rintro e W4 ⟨A4, m4', c4, rfl, hO4, hB4⟩
  refine ⟨_, rfl, ?_⟩
  have hS4 := hS.trans (hB4.mono hS.size)
  (conv => whnf)
  refine Keep.mk hS4 ?_
  (conv => whnf)
  (repeat ((first | (refine VQ.nil ?_) | (refine VG.cons ?_)); (conv => whnf)))
  refine VCall.of (r18Hard_any k.term k.vote W4 (by omega) (by omega)) ?_
  rintro e W5 ⟨A5, m5', c5, rfl, hO5, hB5⟩
  refine ⟨_, rfl, ?_⟩
  have hS5 := hS4.trans (hB5.mono hS4.size)
  have hl4 := Own.len hO4
  have hl5 := Own.len hO5
  have hq1 := put_le (recB 0 [k.base, k.bterm])
  have hq2 := put_le (recB 1 [k.term, k.vote])
  have hq3 := recB_len 0 [k.base, k.bterm]
  have hq4 := recB_len 1 [k.term, k.vote]
  simp only [List.length_cons, List.length_nil] at hq3 hq4
  have hO45 : Own W5 W2.heap.size (.slice A4 m4' c4) m4' _ := rows_more (hO4.below hB5 (Nat.le_refl _)) hS.size
  (conv => whnf)
  refine Keep.mk hS5 ?_
  (conv => whnf)
  ((repeat ((first | (refine VQ.nil ?_) | (refine VG.cons ?_)); (conv => whnf))))
  refine VSem.appO hO45 (Own.reads hO5) (by omega) hS5.size ?_
  intro A6 c6 W6 hO6 _ hB6
  have hS6 := hS5.trans hB6
  (conv => whnf)
  refine Keep.mk hS6 ?_
  obtain ⟨hb0, hhb0⟩ : ∃ b, Frame.put (recB 0 [k.base, k.bterm]) ++ Frame.put (recB 1 [k.term, k.vote]) = b := ⟨_, rfl⟩
  have hbl : hb0.length ≤ 200 := by rw [← hhb0, List.length_append]; omega
  rw [hhb0] at hO6
  have hlow : W.heap.size ≤ W2.heap.size := s2
  clear hO4 hO5 hB4 hB5 hB6 hO45 hS4 hS5 hl4 hl5 hq1 hq2 hq3 hq4
  have hE2 := hE.belowB hB02
  (conv => whnf)
  ((repeat ((first | (refine VQ.cons ?_) | (refine VQ.nil ?_) | (refine VG.nil ?_)); (conv => whnf))))
  refine VC.cut [6] [(6, 7), (28, 47)] (fun vs X => ∃ Ab mb cb, vs = [.slice Ab mb cb] ∧ Own X W2.heap.size (.slice Ab mb cb) mb (waB k) ∧ Below W2.heap.size W2 X) (by kernel_rfl) ?_ ?_
  · ((conv => whnf); (repeat ((first | (refine VL.cons ?_) | (refine VL.nil ?_) | (refine VC.seqS rfl ?_) | (refine VC.region ?_) | (refine VC.block ?_)); (conv => whnf))))
    ((repeat ((fail); (conv => whnf))))
    refine VC.loop [6, 7] [(6, 7), (28, 47)] (fun q vs X => ∃ (j : Nat) (Ab : Option Addr) (mb cb : Nat), vs = [.slice Ab mb cb, .int .i64 (j : Int)] ∧ q = n - j ∧ j ≤ n ∧ Own X W2.heap.size (.slice Ab mb cb) mb (hb0 ++ written (k.base + 1) (k.es.take j)) ∧ Below W2.heap.size W2 X) (by kernel_rfl)
      ⟨_, 0, A6, _, c6, rfl, rfl, by omega, by rw [List.take_zero]; simpa [written] using hO6, hS6⟩ ?_
    clear hO6 hS6 hS
    rintro q τ vs X ⟨j, Ab, mb, cb, rfl, rfl, hj, hO, hX⟩
    have hbX := kB X hX
    by_cases hlt : j < n
    case neg =>
      rw [List.take_of_length_le (by omega), ← hhb0] at hO
      ((conv => whnf); (repeat ((fail); (conv => whnf))))
      (repeat ((first | (refine VRead.loadB hbX rfl rfl ?_) | (refine VL.cons ?_) | (refine VL.nil ?_) | (refine VC.seqS rfl ?_) | (refine VC.region ?_) | (refine VC.cond ?_) | (refine VC.exit ?_) | (refine VBool.dF (by omega) ?_) | (refine VRead.lenS ?_) | (refine VRead.fld ?_) | (refine VC.seq ?_)); (conv => whnf)))
      exact ⟨Ab, mb, cb, rfl, hO, hX⟩
    obtain ⟨e, he⟩ : ∃ e, k.es[j]? = some e := ⟨_, List.getElem?_eq_getElem (by omega)⟩
    obtain ⟨x, D, m, kk, rfl, hmk, H⟩ := hE2.laterL he
    have hmeE := hme e (List.mem_of_getElem? he)
    obtain ⟨hme1, hme2, hme3⟩ := id hmeE
    have hS : Below W2.heap.size W2 (X.drewN 1) := below_drewN hX 1
    have hd1 : Below X.heap.size X (X.drewN 1) := below_drewN (Below.refl _ _) 1
    have hwl1 := written_len (i := k.base + 1) (es := k.es.take j) (fun e he => hme e (List.mem_of_mem_take he))
    rw [List.length_take] at hwl1
    have hOl := Own.len hO
    rw [List.length_append] at hOl
    replace hO := hO.below hd1 (Nat.le_refl _)
    ((conv => whnf); (repeat ((fail); (conv => whnf))))
    (repeat ((first | (refine VRead.loadB hbX rfl rfl ?_) | (refine VL.cons ?_) | (refine VL.nil ?_) | (refine VC.seqS rfl ?_) | (refine VC.region ?_) | (refine VC.draw ?_) | (refine VC.cond ?_) | (refine VC.block ?_) | (refine VC.skip ?_) | (refine VBool.dT (by omega) ?_) | (refine VRead.lenS ?_) | (refine VRead.fld ?_) | (refine VC.seq ?_)); (conv => whnf)))
    refine VDraw.seg (fun Y => Below W2.heap.size W2 Y) [([0, 1, 2, 3, 4, 5, 6, 7, 8, 9, 10], 11), ([], 12)] [13] (by kernel_rfl) (by kernel_rfl) hS ?_
    generalize X.drewN 1 = X1 at *
    (conv => whnf)
    (repeat ((first | (refine VRead.loadBS kB rfl rfl ?_) | (refine VRead.atK hlt ?_) | (refine VRead.load3WS (fun Y hY => (H Y hY).1) ?_) | (refine VQ.cons ?_) | (refine VQ.nil ?_) | (refine VG.cons ?_) | (refine VRead.fld ?_) | (refine VWrap.i64 (by omega) (by omega) ?_)); (conv => whnf)))
    refine VCall.of (r18Entry_any (k.base + 1 + (j : Int)) e D m kk X1 (by omega) ⟨by omega, by omega⟩ (H X1 hS).2.1 hme3) ?_
    rintro E X2 ⟨A2, m2, c2, rfl, hO2, hB2'⟩
    refine ⟨_, rfl, ?_⟩
    have hS2 := hS.trans (hB2'.mono hS.size)
    have hO2l := Own.len hO2
    have hO02 := hO.below hB2' (Nat.le_refl _)
    have hel2 : (Frame.put (entB (k.base + 1 + (j : Int)) e)).length ≤ 1100000 := by
      have := written_len (i := k.base + 1 + (j : Int)) (es := [e]) (fun e' he' => by rw [List.mem_singleton.1 he']; exact hmeE)
      simpa [written] using this
    (conv => whnf)
    refine Keep.mk hS2 ?_
    (conv => whnf)
    ((repeat ((first | (refine VQ.nil ?_) | (refine VG.cons ?_)); (conv => whnf))))
    refine VSem.appO hO02 (Own.reads hO2) (by omega) hS2.size ?_
    intro A3 c3 X3 hO3 _ hB3
    have hS3 := hS2.trans hB3
    have htl : (k.es.take j).length = j := by rw [List.length_take]; omega
    rw [List.append_assoc] at hO3
    have e2 : written (k.base + 1) (k.es.take j) ++ Frame.put (entB (k.base + 1 + (j : Int)) e) = written (k.base + 1) (k.es.take (j + 1)) := by
      rw [take_snoc he, written_append, htl]
      simp [written]
    rw [e2] at hO3
    (conv => whnf)
    refine Keep.mk hS3 ?_
    (conv => whnf)
    ((repeat ((first | (refine VL.cons ?_) | (refine VL.nil ?_) | (refine VC.region ?_) | (refine VQ.cons ?_) | (refine VQ.nil ?_) | (refine VG.nil ?_) | (refine VWrap.i64 (by omega) (by omega) ?_)); (conv => whnf))))
    exact ⟨_, by omega, j + 1, A3, mb + m2, c3, rfl, rfl, by omega, hO3, hS3⟩
  clear hO6 hS6 hS kB
  rintro τ vs X ⟨Ab, mb, cb, rfl, hO, hX⟩
  obtain ⟨bs, hbs⟩ : ∃ b, waB k = b := ⟨_, rfl⟩
  have hmb : mb ≤ 140737488351232 := by
    have := Own.len hO
    rw [← this]
    unfold waB
    rw [hhb0, List.length_append]
    have := written_len (i := k.base + 1) hme
    omega
  rw [hbs] at hO
  rw [hbs, wrun_four]
  have hcap := hO.cap
  have hB0X := hB02.trans (hX.mono s2)
  have hbx := hb.later hX
  have hwx := hw2.later hX
  have hx := h.below hB0X
  have ng := hg
  have ng3 : ¬ U g3 := fun hu => by have := h.lt g3 hu; omega
  have st := (Step.new (U := U) hB0X).add g
  have hF : Free U (.slice Ab mb cb) := Free.new hO (fun j hj => Nat.lt_of_lt_of_le (h.lt j hj) s2)
  obtain ⟨nm, hnme⟩ : ∃ nm, wName (N + 1) = nm := ⟨_, rfl⟩
  rw [hnme]
  rw [hnme] at hwn1
  obtain ⟨RF, hRF⟩ : ∃ RF, rmW (andT (andT (andT (S.create wTmp) fun s => s.append wTmp bs) fun s => s.sync wTmp) fun s => s.rename wTmp nm) N = RF := ⟨_, rfl⟩
  rw [hRF]
  obtain ⟨R1, hR1⟩ : ∃ R1, S.create wTmp = R1 := ⟨_, rfl⟩
  rw [hR1] at hRF
  have hcr : R1.2.k.calls = S.k.calls + 1 := by rw [← hR1]; exact DS.create_calls _ _
  clear hb hw2 hE2 hB02 hX hB1 hB2
  ((conv => whnf); (repeat ((first | (refine VL.cons ?_) | (refine VC.seqS rfl ?_) | (refine VC.region ?_)); (conv => whnf))))
  (repeat (first | ((first | (refine VL.cons ?_) | (refine VRead.fld ?_)); (conv => whnf)) | (refine VRead.loadB hwx rfl rfl ?_; (conv => whnf))))
  refine VCall.of (pCreate X U r S wTmp hx (by omega) (by decide)) ?_
  rintro e X1 ⟨rfl, U1, hx1, st1⟩
  refine ⟨_, rfl, ?_⟩
  rw [hR1] at *
  obtain ⟨hw1, ng1⟩ := st1.blk hwx ng
  obtain ⟨hb1, ng31⟩ := st1.blk hbx ng3
  obtain ⟨hO1, hF1⟩ := st1.own hO hF
  replace st := st.trans (st1.add g)
  clear hx ng hwx hO hF hbx ng3 st1
  rename Rsk X1 U1 r R1.2 => hx
  rename Blk X1 g _ _ => hwx
  rename ¬ U1 g => ng
  rename Blk X1 g3 _ _ => hbx
  rename ¬ U1 g3 => ng3
  rename Own X1 _ _ _ _ => hO
  rename Free U1 _ => hF
  (conv => whnf)
  ((repeat ((first | (refine VL.cons ?_) | (refine VL.nil ?_)); (conv => whnf))))
  obtain ⟨R2, hR2⟩ : ∃ R2, andT R1 (fun s => s.append wTmp bs) = R2 := ⟨_, rfl⟩
  rw [hR2] at hRF
  refine VC.cut [8] [(8, 8), (53, 60)] (fun vs X => vs = [.int .i64 R2.1] ∧ R2.2.k.calls ≤ S.k.calls + 2 ∧ ∃ U', Rsk X U' r R2.2 ∧ Step W (addF U g) X (addF U' g) ∧ ¬ U' g ∧ Blk X g 95 (wrC r N K0 A0 n0 c0) ∧ Own X W2.heap.size (.slice Ab mb cb) mb bs ∧ Free U' (.slice Ab mb cb) ∧ Blk X g3 72 (kC k A n c) ∧ ¬ U' g3) (by kernel_rfl) ?_ ?_
  · by_cases h0 : R1.1 = 0
    case neg =>
      rw [andT_no h0] at hR2
      subst hR2
      ((conv => whnf); (repeat ((first | (refine VL.cons ?_) | (refine VL.nil ?_) | (refine VC.seqS rfl ?_) | (refine VC.region ?_) | (refine VC.cond ?_)); (conv => whnf))))
      (repeat (first | ((first | (refine VC.skip ?_) | (refine VBool.dF (by omega) ?_)); (conv => whnf)) | (refine VBool.dF h0 ?_; (conv => whnf))))
      exact ⟨rfl, by omega, U1, hx, st, ng, hwx, hO, hF, hbx, ng3⟩
    rw [andT_ok h0] at hR2
    subst hR2
    have hac : (R1.2.append wTmp bs).2.k.calls = R1.2.k.calls + 1 := DS.append_calls
    ((conv => whnf); (repeat ((first | (refine VL.cons ?_) | (refine VL.nil ?_) | (refine VC.seqS rfl ?_) | (refine VC.region ?_) | (refine VC.cond ?_)); (conv => whnf))))
    (repeat (first | ((first | (refine VL.cons ?_) | (refine VC.region ?_) | (refine VBool.dT (by omega) ?_) | (refine VRead.fld ?_)); (conv => whnf)) | (refine VBool.dT h0 ?_; (conv => whnf)) | (refine VRead.loadB hwx rfl rfl ?_; (conv => whnf))))
    refine VCall.of (pAppend X1 U1 r R1.2 wTmp mb cb Ab bs hx (by omega) (by decide) (Src.of_own hO) hmb hcap) ?_
    rintro e X1 ⟨rfl, U', hx1, st1⟩
    refine ⟨_, rfl, ?_⟩
    obtain ⟨hw1, ng1⟩ := st1.blk hwx ng
    obtain ⟨hb1, ng31⟩ := st1.blk hbx ng3
    obtain ⟨hO1, hF1⟩ := st1.own hO hF
    ((conv => whnf); (repeat ((first | (refine VL.cons ?_) | (refine VL.nil ?_)); (conv => whnf))))
    ((repeat ((fail); (conv => whnf))))
    exact ⟨rfl, by omega, U', hx1, st.trans (st1.add g), ng1, hw1, hO1, hF1, hb1, ng31⟩
  clear hx st ng hwx hO hF hbx ng3
  rintro τ2 vs X2 ⟨rfl, hcl2, U2, hx, st, ng, hwx, hO, hF, hbx, ng3⟩
  obtain ⟨R3, hR3⟩ : ∃ R3, andT R2 (fun s => s.sync wTmp) = R3 := ⟨_, rfl⟩
  rw [hR3] at hRF
  refine VC.cut [8] [(8, 8), (61, 67)] (fun vs X => vs = [.int .i64 R3.1] ∧ R3.2.k.calls ≤ S.k.calls + 3 ∧ ∃ U', Rsk X U' r R3.2 ∧ Step W (addF U g) X (addF U' g) ∧ ¬ U' g ∧ Blk X g 95 (wrC r N K0 A0 n0 c0) ∧ Own X W2.heap.size (.slice Ab mb cb) mb bs ∧ Free U' (.slice Ab mb cb) ∧ Blk X g3 72 (kC k A n c) ∧ ¬ U' g3) (by kernel_rfl) ?_ ?_
  · by_cases h0 : R2.1 = 0
    case neg =>
      rw [andT_no h0] at hR3
      subst hR3
      ((conv => whnf); (repeat ((first | (refine VL.cons ?_) | (refine VL.nil ?_) | (refine VC.seqS rfl ?_) | (refine VC.region ?_) | (refine VC.cond ?_)); (conv => whnf))))
      (repeat (first | ((first | (refine VC.skip ?_) | (refine VBool.dF (by omega) ?_)); (conv => whnf)) | (refine VBool.dF h0 ?_; (conv => whnf))))
      exact ⟨rfl, by omega, U2, hx, st, ng, hwx, hO, hF, hbx, ng3⟩
    rw [andT_ok h0] at hR3
    subst hR3
    have hac : (R2.2.sync wTmp).2.k.calls = R2.2.k.calls + 1 := DS.sync_calls
    ((conv => whnf); (repeat ((first | (refine VL.cons ?_) | (refine VL.nil ?_) | (refine VC.seqS rfl ?_) | (refine VC.region ?_) | (refine VC.cond ?_)); (conv => whnf))))
    (repeat (first | ((first | (refine VL.cons ?_) | (refine VC.region ?_) | (refine VBool.dT (by omega) ?_) | (refine VRead.fld ?_)); (conv => whnf)) | (refine VBool.dT h0 ?_; (conv => whnf)) | (refine VRead.loadB hwx rfl rfl ?_; (conv => whnf))))
    refine VCall.of (pSync X2 U2 r R2.2 wTmp hx (by omega) (by decide)) ?_
    rintro e X1 ⟨rfl, U', hx1, st1⟩
    refine ⟨_, rfl, ?_⟩
    obtain ⟨hw1, ng1⟩ := st1.blk hwx ng
    obtain ⟨hb1, ng31⟩ := st1.blk hbx ng3
    obtain ⟨hO1, hF1⟩ := st1.own hO hF
    ((conv => whnf); (repeat ((first | (refine VL.cons ?_) | (refine VL.nil ?_)); (conv => whnf))))
    ((repeat ((fail); (conv => whnf))))
    exact ⟨rfl, by omega, U', hx1, st.trans (st1.add g), ng1, hw1, hO1, hF1, hb1, ng31⟩
  clear hx st ng hwx hO hF hbx ng3
  rintro τ3 vs X3 ⟨rfl, hcl3, U3, hx, st, ng, hwx, hO, hF, hbx, ng3⟩
  obtain ⟨R4, hR4⟩ : ∃ R4, andT R3 (fun s => s.rename wTmp nm) = R4 := ⟨_, rfl⟩
  rw [hR4] at hRF
  refine VC.cut [8] [(8, 8), (68, 75)] (fun vs X => vs = [.int .i64 R4.1] ∧ R4.2.k.calls ≤ S.k.calls + 4 ∧ ∃ U', Rsk X U' r R4.2 ∧ Step W (addF U g) X (addF U' g) ∧ ¬ U' g ∧ Blk X g 95 (wrC r N K0 A0 n0 c0) ∧ Own X W2.heap.size (.slice Ab mb cb) mb bs ∧ Free U' (.slice Ab mb cb) ∧ Blk X g3 72 (kC k A n c) ∧ ¬ U' g3) (by kernel_rfl) ?_ ?_
  · by_cases h0 : R3.1 = 0
    case neg =>
      rw [andT_no h0] at hR4
      subst hR4
      ((conv => whnf); (repeat ((first | (refine VL.cons ?_) | (refine VL.nil ?_) | (refine VC.seqS rfl ?_) | (refine VC.region ?_) | (refine VC.cond ?_)); (conv => whnf))))
      (repeat (first | ((first | (refine VC.skip ?_) | (refine VBool.dF (by omega) ?_)); (conv => whnf)) | (refine VBool.dF h0 ?_; (conv => whnf))))
      exact ⟨rfl, by omega, U3, hx, st, ng, hwx, hO, hF, hbx, ng3⟩
    rw [andT_ok h0] at hR4
    subst hR4
    have hac : (R3.2.rename wTmp nm).2.k.calls = R3.2.k.calls + 1 := DS.rename_calls
    ((conv => whnf); (repeat ((first | (refine VL.cons ?_) | (refine VL.nil ?_) | (refine VC.seqS rfl ?_) | (refine VC.region ?_) | (refine VC.cond ?_)); (conv => whnf))))
    (repeat (first | ((first | (refine VL.cons ?_) | (refine VC.region ?_) | (refine VBool.dT (by omega) ?_) | (refine VRead.fld ?_)); (conv => whnf)) | (refine VBool.dT h0 ?_; (conv => whnf)) | (refine VRead.loadB hwx rfl rfl ?_; (conv => whnf))))
    refine VCall.of (pRename X3 U3 r R3.2 wTmp nm hx (by omega) (by decide) (by omega)) ?_
    rintro e X1 ⟨rfl, U', hx1, st1⟩
    refine ⟨_, rfl, ?_⟩
    obtain ⟨hw1, ng1⟩ := st1.blk hwx ng
    obtain ⟨hb1, ng31⟩ := st1.blk hbx ng3
    obtain ⟨hO1, hF1⟩ := st1.own hO hF
    ((conv => whnf); (repeat ((first | (refine VL.cons ?_) | (refine VL.nil ?_)); (conv => whnf))))
    ((repeat ((fail); (conv => whnf))))
    exact ⟨rfl, by omega, U', hx1, st.trans (st1.add g), ng1, hw1, hO1, hF1, hb1, ng31⟩
  clear hx st ng hwx hO hF hbx ng3
  rintro τ4 vs X4 ⟨rfl, hcl4, U4, hx, st, ng, hwx, hO, hF, hbx, ng3⟩
  refine VC.cut [8] [(8, 8), (76, 96)] (fun vs X => vs = [.int .i64 RF.1] ∧ ∃ U', Rsk X U' r RF.2 ∧ Step W (addF U g) X (addF U' g) ∧ ¬ U' g ∧ Blk X g 95 (wrC r N K0 A0 n0 c0) ∧ Blk X g3 72 (kC k A n c) ∧ ¬ U' g3) (by kernel_rfl) ?_ ?_
  · unfold rmW at hRF
    by_cases h0 : R4.1 = 0
    case neg =>
      rw [if_neg (fun h => h0 h.1)] at hRF
      subst hRF
      ((conv => whnf); (repeat ((first | (refine VL.cons ?_) | (refine VC.seqS rfl ?_) | (refine VC.region ?_)); (conv => whnf))))
      (repeat (first | ((first | (refine VL.cons ?_) | (refine VL.nil ?_) | (refine VC.cond ?_) | (refine VC.skip ?_) | (refine VBool.f ?_) | (refine VBool.dF (by omega) ?_)); (conv => whnf)) | (refine VBool.dF h0 ?_; (conv => whnf))))
      exact ⟨rfl, U4, hx, st, ng, hwx, hbx, ng3⟩
    by_cases hNp : 0 < N
    case neg =>
      rw [if_neg (fun h => hNp h.2)] at hRF
      subst hRF
      ((conv => whnf); (repeat ((first | (refine VL.cons ?_) | (refine VC.seqS rfl ?_) | (refine VC.region ?_)); (conv => whnf))))
      (repeat (first | ((first | (refine VL.cons ?_) | (refine VL.nil ?_) | (refine VC.cond ?_) | (refine VC.skip ?_) | (refine VBool.t ?_) | (refine VBool.dT (by omega) ?_) | (refine VBool.dF (by omega) ?_) | (refine VRead.fld ?_)); (conv => whnf)) | (refine VBool.dT h0 ?_; (conv => whnf)) | (refine VRead.loadB hwx rfl rfl ?_; (conv => whnf)) | (refine VBool.dF hNp ?_; (conv => whnf))))
      exact ⟨rfl, U4, hx, st, ng, hwx, hbx, ng3⟩
    rw [if_pos ⟨h0, hNp⟩] at hRF
    subst hRF
    have hE1 : Below X4.heap.size X4 (X4.drewN 1) := below_drewN (Below.refl _ _) 1
    have hwy := hwx.later hE1
    have hby := hbx.later hE1
    have hy := hx.below hE1
    ((conv => whnf); (repeat ((first | (refine VL.cons ?_) | (refine VC.seqS rfl ?_) | (refine VC.region ?_)); (conv => whnf))))
    (repeat (first | ((first | (refine VL.cons ?_) | (refine VL.nil ?_) | (refine VC.draw ?_) | (refine VC.cond ?_) | (refine VBool.t ?_) | (refine VBool.dT (by omega) ?_) | (refine VRead.fld ?_) | (refine VC.seq ?_)); (conv => whnf)) | (refine VBool.dT h0 ?_; (conv => whnf)) | (refine VRead.loadB hwx rfl rfl ?_; (conv => whnf)) | (refine VBool.dT hNp ?_; (conv => whnf))))
    refine VDraw.seg (fun Y => Blk Y g 95 (wrC r N K0 A0 n0 c0)) [([0, 1, 2, 3, 4, 5, 6, 7], 8), ([], 9)] [10] (by kernel_rfl) (by kernel_rfl) hwy ?_
    replace st := st.trans ((Step.new (U := U4) hE1).add g)
    generalize X4.drewN 1 = Y at *
    (conv => whnf)
    (repeat ((first | (refine VRead.loadBS (fun Y hY => hY) rfl rfl ?_) | (refine VQ.cons ?_) | (refine VQ.nil ?_) | (refine VG.cons ?_) | (refine VRead.fld ?_)); (conv => whnf)))
    refine VCall.of (refWName_any N Y (by omega)) ?_
    rintro e Y' ⟨rfl, eW⟩
    obtain rfl := eW.symm
    refine ⟨_, rfl, ?_⟩
    (conv => whnf)
    refine Keep.mk hwy ?_
    (conv => whnf)
    ((repeat ((first | (refine VQ.nil ?_) | (refine VG.cons ?_)); (conv => whnf))))
    refine VCall.of (pRemove Y U4 r R4.2 (wName N) hy (by omega) (by omega)) ?_
    rintro e Y2 ⟨rfl, U5, hy2, st5⟩
    refine ⟨_, rfl, ?_⟩
    obtain ⟨hw5, ng5⟩ := st5.blk hwy ng
    obtain ⟨hb5, ng35⟩ := st5.blk hby ng3
    have st05 := st.trans (st5.add g)
    (conv => whnf)
    refine Keep.mk hw5 ?_
    by_cases h3 : (R4.2.remove (wName N)).1 = 3
    · simp only [if_pos h3]
      (conv => whnf)
      (repeat (first | ((first | (refine VL.cons ?_) | (refine VL.nil ?_) | (refine VC.seqS rfl ?_) | (refine VC.region ?_) | (refine VC.cond ?_) | (refine VQ.cons ?_) | (refine VQ.nil ?_) | (refine VG.nil ?_) | (refine VBool.dT (by omega) ?_)); (conv => whnf)) | (refine VBool.dT h3 ?_; (conv => whnf))))
      exact ⟨rfl, U5, hy2, st05, ng5, hw5, hb5, ng35⟩
    · simp only [if_neg h3]
      (conv => whnf)
      (repeat (first | ((first | (refine VL.cons ?_) | (refine VL.nil ?_) | (refine VC.seqS rfl ?_) | (refine VC.region ?_) | (refine VC.cond ?_) | (refine VC.skip ?_) | (refine VQ.cons ?_) | (refine VQ.nil ?_) | (refine VG.nil ?_) | (refine VBool.dF (by omega) ?_)); (conv => whnf)) | (refine VBool.dF h3 ?_; (conv => whnf))))
      exact ⟨rfl, U5, hy2, st05, ng5, hw5, hb5, ng35⟩
  clear hx st ng hwx hO hF hbx ng3
  rintro τ5 vs X5 ⟨rfl, U5, hx, st, ng, hwx, hbx, ng3⟩
  by_cases h0 : RF.1 = 0
  case neg =>
    ((conv => whnf); (repeat ((fail); (conv => whnf))))
    (repeat (first | ((first | (refine VL.cons ?_) | (refine VL.nil ?_) | (refine VC.seqS rfl ?_) | (refine VC.region ?_) | (refine VC.cond ?_) | (refine VC.ret ?_) | (refine VC.skip ?_) | (refine VBool.dF (by omega) ?_) | (refine VC.seq ?_)); (conv => whnf)) | (refine VBool.dF h0 ?_; (conv => whnf))))
    exact ⟨rfl, U5, hx, st, ng, fun h => absurd h h0⟩
  have g3n : g3 ≠ g := by omega
  ((conv => whnf); (repeat ((fail); (conv => whnf))))
  (repeat (first | ((first | (refine VL.cons ?_) | (refine VL.nil ?_) | (refine VC.seqS rfl ?_) | (refine VC.region ?_) | (refine VC.cond ?_) | (refine VBool.dT (by omega) ?_) | (refine VRead.fld ?_) | (refine VWrap.i64 (by omega) (by omega) ?_) | (refine VC.seq ?_)); (conv => whnf)) | (refine VBool.dT h0 ?_; (conv => whnf)) | (refine VRead.loadB hwx rfl rfl ?_; (conv => whnf))))
  refine VUnit.storeB hwx rfl rfl rfl ?_
  intro X6 hw6 hg6
  replace hw6 : Blk X6 g 95 (wrC r (N + 1) K0 A0 n0 c0) := hw6
  replace hbx := hbx.only hg6 g3n
  replace hx := hx.cell hg6 ng
  replace st := st.trans (Step.cell hg6)
  ((conv => whnf); (repeat ((first | (refine VL.cons ?_) | (refine VL.nil ?_) | (refine VC.region ?_)); (conv => whnf))))
  ((repeat ((fail); (conv => whnf))))
  refine VRead.loadAB1 hbx rfl rfl ?_
  ((conv => whnf); (repeat ((first | (refine VL.cons ?_)); (conv => whnf))))
  ((repeat ((first | (refine VL.cons ?_) | (refine VRead.fld ?_)); (conv => whnf))))
  refine VUnit.storeABw 2 hw6 rfl rfl rfl (by simp [kC, Value.oneCell']) ?_
  intro X7 hw7 hg7
  replace hw7 : Blk X7 g 95 (wrC r (N + 1) k A n c) := hw7
  replace hx := hx.cell hg7 ng
  replace st := st.trans (Step.cell hg7)
  ((conv => whnf); (repeat ((first | (refine VL.cons ?_) | (refine VL.nil ?_) | (refine VC.seqS rfl ?_) | (refine VC.region ?_) | (refine VC.ret ?_)); (conv => whnf))))
  ((repeat ((fail); (conv => whnf))))
  exact ⟨rfl, U5, hx, st, ng, fun _ => hw7⟩
end Go.Proofs.YtebeidnmplnlpaaGreat
end

section
set_option maxRecDepth 10000
namespace Go.Proofs.YtebeidnmplnlpaaGreat
set_option linter.unusedVariables false
open Go.RowKit

theorem andT_hereW (A : Int × DS) (f : DS → DS → Int × DS) : andT A (fun s => f s A.2) = andT A (fun s => f s s) := by
  by_cases h : A.1 = 0
  · rw [andT_ok h, andT_ok h]
  · rw [andT_no h, andT_no h]
theorem VRead.loadABw {P : Program} {S : World → Prop} {r : Nat} {N : Int} {k : Kp} {A : Option Addr} {n c : Nat} {t T g : Nat} {p : Addr} {K : Value → Prop} [a : TAgg P t 5] (hb : ∀ W, S W → Blk W g T (wrC r N k A n c)) (hp : p = ⟨g, 2, none⟩) (hk : K (.agg (kC k A n c))) :
    VRead P S (Instr.loadAt t (.pointer (some p))) K := by
  subst hp
  refine .of (v := .agg (kC k A n c)) (fun W hW => ?_) hk
  have := run_load_listW (W := W) (p := ⟨g, 2, none⟩) (cs := (kC k A n c).toList) a (fun j v hj => ?_) rfl
  · simpa using this
  · have hj' : (kC k A n c)[j]? = some v := by simpa using hj
    have hlt : j < 5 := (Array.getElem?_eq_some_iff.1 hj').1
    rw [add_plainW, (hb W hW).cell (2 + j)]
    have hj5 : j = 0 ∨ j = 1 ∨ j = 2 ∨ j = 3 ∨ j = 4 := by omega
    rcases hj5 with rfl | rfl | rfl | rfl | rfl <;> exact hj'
theorem takes_may {k k' : Kp} {b : List UInt8} {st : Bool} (h : takes k b st = some k') (hk : mayK k) : mayK k' := by
  obtain ⟨h1, h2, h3, h4, h5⟩ := hk
  unfold takes at h
  split at h
  · cases h
  · rename_i x r
    split at h
    · split at h
      · unfold tk0 at h
        split at h
        · rename_i hc; injection h with h; subst h; exact ⟨h1, hc.2.1, hc.2.2, h4, h5⟩
        · cases h
      · split at h
        · unfold tk1 at h
          split at h
          · rename_i hc; injection h with h; subst h; exact ⟨h1, h2, h3, hc.2.1, hc.2.2⟩
          · cases h
        · split at h
          · unfold tk2 at h
            split at h
            · rename_i hc
              injection h with h
              subst h
              refine ⟨fun e he => ?_, h2, h3, h4, h5⟩
              rcases List.mem_append.1 he with he | he
              · exact h1 e (List.mem_of_mem_take he)
              · rw [List.mem_singleton.1 he]; exact hc.2.1
            · cases h
          · cases h
    · cases h
theorem takesA_may : ∀ {cs : List (List UInt8)} {st : Bool} {k k' : Kp}, takesA st k cs = some k' → mayK k → mayK k'
  | [], st, k, k', h, hk => by injection h with h; subst h; exact hk
  | c :: cs, st, k, k', h, hk => by
    unfold takesA at h
    cases ht : takes k c st with
    | none => rw [ht] at h; cases h
    | some k1 => rw [ht] at h; exact takesA_may h (takes_may ht hk)
theorem mayK_zero : mayK Kp.zero := ⟨fun e he => by simp [Kp.zero] at he, ⟨by decide, by decide⟩, ⟨by decide, by decide⟩, ⟨by decide, by decide⟩, ⟨by decide, by decide⟩⟩
theorem readW_may {l : List UInt8} {k : Kp} (h : readW l = some k) : mayK k := by
  unfold readW at h
  split at h
  · cases h
  · exact takesA_may h mayK_zero
theorem wanew_n {S : DS} {w : WlS} {k : Kp} (h : (S.wanew w k).1.1 = 0) : (S.wanew w k).2.n = w.n + 1 := by
  unfold DS.wanew at h ⊢
  split
  · rename_i h1; rw [if_pos h1] at h; exact absurd h (by decide : ¬ (1 : Int) = 0)
  · rename_i h1
    rw [if_neg h1] at h
    split
    · rename_i h2; rw [if_pos h2] at h; exact absurd h (by decide : ¬ (2 : Int) = 0)
    · rename_i h2
      rw [if_neg h2] at h
      simp only at h ⊢
      split
      · rename_i h3; rw [if_pos h3] at h; exact absurd h h3
      · split
        · rfl
        · rfl
theorem w_rise {T : PT} {i j : Nat} {p q : List UInt8 × Fl} {n m : Nat} (hR : Rising T) (hij : i < j) (hp : T[i]? = some p) (hq : T[j]? = some q) (hn : wNum p.1 = some n) (hm : wNum q.1 = some m) : n < m := by
  obtain ⟨e1, n1, n2⟩ := wNum_some hn
  obtain ⟨e2, m1, m2⟩ := wNum_some hm
  have hlt : p.1 < q.1 := by
    obtain ⟨hi, ei⟩ := List.getElem?_eq_some_iff.1 hp
    obtain ⟨hj, ej⟩ := List.getElem?_eq_some_iff.1 hq
    have := List.pairwise_iff_getElem.1 hR i j (by rw [List.length_map]; exact hi) (by rw [List.length_map]; exact hj) hij
    rw [List.getElem_map, List.getElem_map, ei, ej] at this
    exact this
  rw [e1, e2] at hlt
  rcases Nat.lt_trichotomy n m with h | h | h
  · exact h
  · subst h; exact absurd hlt (List.lt_irrefl _)
  · exact absurd (List.lt_trans hlt (w_lt m1 h n2)) (List.lt_irrefl _)
/-- what the reference's Open gives -/
def OpR (W W' : World) (U' : Foot) (r : Nat) (e1 : Int) (o : Option (WlS × Kp)) (e : Ending) : Prop := match o with
  | none => e = .returned (.tuple #[.pointer none, .agg (kC Kp.zero none 0 0), .int .i64 e1])
  | some y => ∃ g A n c, e = .returned (.tuple #[.pointer (some ⟨g, 0, none⟩), .agg (kC y.2 A n c), .int .i64 0]) ∧ ¬ U' g ∧ W.heap.size ≤ g ∧ ERow W' (NotU U') W.heap.size (.slice A n c) y.2.es ∧ mayK y.2 ∧ y.2.es.length ≤ 16777216
structure ScnR (T : PT) (j : Nat) (acc : Scn) (wh : Bool) (fl : Nat) : Prop where
  f : fl ≤ j
  s : acc.some_ = true ↔ 0 < fl
  w : (0 < acc.n ∧ wh = acc.whole) ∨ (acc.n = 0 ∧ acc.whole = false)
  p : acc.n = 0 ∨ ∃ i p, i < j ∧ T[i]? = some p ∧ wNum p.1 = some acc.n
  k : mayK acc.k
set_option maxHeartbeats 4000000 in
theorem r18Open_any (W : World) (U : Foot) (r : Nat) (S : DS) (h : Rsk W U r S) (hc : S.k.calls + 200 < 1000000) :
    Calls Tryz.prog 32 #[.pointer (some ⟨r, 0, none⟩)] W fun e W' => ∃ U', Rsk W' U' r (S.wopen).1.2 ∧ Step W U W' U' ∧ OpR W W' U' r (S.wopen).1.1 (S.wopen).2 e := by
  have hfew := h.wf.t.few
  have hris := h.wf.t.ris
  have hroom := h.wf.k.room
  have hfit := h.wf.t.fit
  refine calls_vc Tryz.func32 rfl (by kernel_rfl) ?_
  ((conv => whnf); (repeat ((first | (refine VL.cons ?_) | (refine VC.seqS rfl ?_) | (refine VC.region ?_)); (conv => whnf))))
  ((repeat ((fail); (conv => whnf))))
  refine VSem.allocZ (z := .agg (kC Kp.zero none 0 0)) (by kernel_rfl) ?_
  intro w1 g3 hb3 hg3 hl3 hB1
  replace hb3 : Blk w1 g3 72 (kC Kp.zero none 0 0) := hb3
  ((conv => whnf); (repeat ((first | (refine VL.cons ?_) | (refine VL.nil ?_) | (refine VC.seqS rfl ?_) | (refine VC.region ?_)); (conv => whnf))))
  ((repeat ((fail); (conv => whnf))))
  refine VRead.ofW (v := .agg (wrC r 0 Kp.zero none 0 0)) (fun _ => by kernel_rfl) ?_
  ((conv => whnf); (repeat ((first | (refine VL.cons ?_)); (conv => whnf))))
  ((repeat ((fail); (conv => whnf))))
  refine VSem.boxB ?_
  intro w2 g5 hb5 hg5 hl5 hB2
  replace hb5 : Blk w2 g5 95 (wrC r 0 Kp.zero none 0 0) := hb5
  have s1 := hB1.size
  have s2 := hB2.size
  replace hb3 := hb3.later hB2
  have hB02 := hB1.trans (hB2.mono s1)
  ((conv => whnf); (repeat ((first | (refine VL.cons ?_) | (refine VL.nil ?_) | (refine VC.seqS rfl ?_) | (refine VC.region ?_)); (conv => whnf))))
  ((repeat ((fail); (conv => whnf))))
  refine VCall.of (pList w2 U r S (h.below hB02)) ?_
  rintro e w5 ⟨Al, kl, rfl, hOl, hB5⟩
  refine ⟨_, rfl, ?_⟩
  replace hb3 := hb3.later hB5
  replace hb5 := hb5.later hB5
  have hB05 := hB02.trans (hB5.mono hB02.size)
  have s5 := hB5.size
  obtain ⟨o1, o2, o3⟩ : W.heap.size ≤ g3 ∧ g3 < g5 ∧ g5 < w2.heap.size := by omega
  (conv => whnf)
  ((repeat ((first | (refine VL.cons ?_) | (refine VL.nil ?_)); (conv => whnf))))
  refine VC.cut [6, 7] [(6, 7), (9, 16), (24, 74)] (fun vs X => ∃ (wh : Bool) (fl : Nat) (A : Option Addr) (n c : Nat), vs = [.bool wh, .int .i64 (fl : Int)] ∧ ScnOk (wScan S.t) ∧ ScnR S.t S.t.length (wScan S.t) wh fl ∧
      Blk X g3 72 (kC Kp.zero none 0 0) ∧ Blk X g5 95 (wrC r (wScan S.t).n (wScan S.t).k A n c) ∧ ERow X (fun j => W.heap.size ≤ j) W.heap.size (.slice A n c) (wScan S.t).k.es ∧ Below W.heap.size W X) (by kernel_rfl) ?_ ?_
  · ((conv => whnf); (repeat ((first | (refine VL.cons ?_) | (refine VL.nil ?_) | (refine VC.seqS rfl ?_) | (refine VC.region ?_) | (refine VC.block ?_)); (conv => whnf))))
    ((repeat ((fail); (conv => whnf))))
    refine VC.loop [6, 7, 9] [(6, 7), (9, 16), (24, 74)] (fun q vs X => ∃ (j : Nat) (acc : Scn) (wh : Bool) (fl : Nat) (A : Option Addr) (n c : Nat), vs = [.bool wh, .int .i64 (fl : Int), .int .i64 (j : Int)] ∧ q = S.t.length - j ∧ j ≤ S.t.length ∧ (S.t.take j).foldl woStep ⟨false, 0, Kp.zero, false⟩ = acc ∧ ScnOk acc ∧ ScnR S.t j acc wh fl ∧
        Blk X g3 72 (kC Kp.zero none 0 0) ∧ Blk X g5 95 (wrC r acc.n acc.k A n c) ∧ ERow X (fun j => W.heap.size ≤ j) W.heap.size (.slice A n c) acc.k.es ∧
        X.ownsRow w2.heap.size 9 1 (.slice Al S.t.length kl) S.t.length ((S.t.map (·.1)).map encStr) ∧ Below W.heap.size W X) (by kernel_rfl)
      ⟨_, 0, ⟨false, 0, Kp.zero, false⟩, true, 0, none, 0, 0, rfl, rfl, by omega, rfl, ⟨by decide, ⟨by decide, by decide⟩, by decide⟩, ⟨by omega, by decide, .inr ⟨rfl, rfl⟩, .inl rfl, mayK_zero⟩, hb3, hb5, ERow.nil _ _ _, hOl, hB05⟩ ?_
    clear hb3 hb5 hOl hB05 hB5 hB02
    rintro q τ vs X ⟨j, acc, wh, fl, A, n, c, rfl, rfl, hj, hacc, hok, hrr, hb3, hb5, hE, hO, hB⟩
    obtain ⟨rf, rs, rw_, rp, rk⟩ := id hrr
    by_cases hjn : j < S.t.length
    case neg =>
      obtain rfl : j = S.t.length := by omega
      rw [List.take_length] at hacc
      have hscan : wScan S.t = acc := hacc
      ((conv => whnf); (repeat ((fail); (conv => whnf))))
      ((repeat ((first | (refine VL.cons ?_) | (refine VL.nil ?_) | (refine VC.seqS rfl ?_) | (refine VC.region ?_) | (refine VC.cond ?_) | (refine VC.exit ?_) | (refine VBool.dF (by omega) ?_) | (refine VRead.lenS ?_) | (refine VC.seq ?_)); (conv => whnf))))
      rw [hscan]
      exact ⟨wh, fl, A, n, c, rfl, hok, hrr, hb3, hb5, hE, hB⟩
    obtain ⟨p, hp⟩ : ∃ p, S.t[j]? = some p := ⟨_, List.getElem?_eq_getElem hjn⟩
    have hpm := List.mem_of_getElem? hp
    have hpn := (h.wf.t.names p hpm).2
    have htk : (S.t.take (j + 1)).foldl woStep ⟨false, 0, Kp.zero, false⟩ = woStep acc p := by rw [take_snoc hp, List.foldl_append, hacc]; rfl
    have hpu := len_used hpm
    obtain ⟨ad, u, rfl, _, hu, hcell⟩ := (Reads.row hO).at_ hjn
    obtain ⟨x', hx', rfl⟩ := map_at hu
    rw [List.getElem?_map, hp] at hx'
    obtain rfl := Option.some.inj hx'
    have hcell' : X.cell? (ad.add j) = some (.string (txt p.1)) := hcell
    ((conv => whnf); (repeat ((fail); (conv => whnf))))
    (repeat (first | ((first | (refine VL.cons ?_) | (refine VL.nil ?_) | (refine VC.seqS rfl ?_) | (refine VC.region ?_) | (refine VC.cond ?_) | (refine VC.block ?_) | (refine VC.skip ?_) | (refine VBool.dT (by omega) ?_) | (refine VRead.lenS ?_) | (refine VRead.load1 (by assumption) ?_) | (refine VRead.at1 (by omega) ?_) | (refine VC.seq ?_)); (conv => whnf)) | (refine VRead.at1 hjn ?_; (conv => whnf))))
    refine VCall.of (refNumber_any wPre p.1 8 X (by decide) (by omega) (by decide)) ?_
    rintro e X' ⟨rfl, eW⟩
    obtain rfl := eW.symm
    refine ⟨_, rfl, ?_⟩
    have eN : num1 (numN wPre 8 p.1) = wNum p.1 := rfl
    rw [eN]
    cases hN : wNum p.1 with
    | none =>
      have e1 : woStep acc p = acc := by unfold woStep; rw [hN]
      ((conv => whnf); (repeat ((first | (refine VL.cons ?_) | (refine VL.nil ?_)); (conv => whnf))))
      ((repeat ((first | (refine VL.cons ?_) | (refine VL.nil ?_) | (refine VC.seqS rfl ?_) | (refine VC.region ?_) | (refine VC.cond ?_) | (refine VC.exit ?_) | (refine VBool.t ?_) | (refine VWrap.i64 (by omega) (by omega) ?_) | (refine VC.seq ?_)); (conv => whnf))))
      exact ⟨_, by omega, j + 1, acc, wh, fl, A, n, c, rfl, rfl, by omega, by rw [htk, e1], hok, ⟨by omega, rs, rw_, rp.imp id (fun ⟨i, p, h1, h2⟩ => ⟨i, p, by omega, h2⟩), rk⟩, hb3, hb5, hE, hO, hB⟩
    | some nn =>
      obtain ⟨_, hk1, hk2⟩ := wNum_some hN
      have hd := h.below hB
      have hlt : acc.n < nn := by
        rcases rp with h0 | ⟨i, p', hi, hp', hn'⟩
        · omega
        · exact w_rise hris hi hp' hp hn' hN
      ((conv => whnf); (repeat ((first | (refine VL.cons ?_) | (refine VL.nil ?_)); (conv => whnf))))
      (repeat (first | ((first | (refine VL.cons ?_) | (refine VL.nil ?_) | (refine VC.seqS rfl ?_) | (refine VC.region ?_) | (refine VC.cond ?_) | (refine VC.skip ?_) | (refine VBool.f ?_) | (refine VRead.load1 (by assumption) ?_) | (refine VWrap.i64 (by omega) (by omega) ?_) | (refine VRead.at1 (by omega) ?_) | (refine VC.seq ?_)); (conv => whnf)) | (refine VRead.at1 hjn ?_; (conv => whnf))))
      refine VCall.of (pRead X U r S p.1 hd) ?_
      rintro e X3 ⟨u3, rfl, hrd, hB3⟩
      refine ⟨_, rfl, ?_⟩
      unfold readR at hrd
      rw [tfind_of hris.nd (show (p.1, p.2) ∈ S.t from hpm)] at hrd
      obtain ⟨A3, k3, rfl, hO3⟩ := hrd
      ((conv => whnf); (repeat ((first | (refine VL.cons ?_) | (refine VL.nil ?_) | (refine VC.seqS rfl ?_) | (refine VC.region ?_)); (conv => whnf))))
      ((repeat ((fail); (conv => whnf))))
      refine VCall.of (r18Says_any A3 p.2.b.length k3 p.2.b X3 (by omega) hO3.cap hO3.reads) ?_
      rintro e X4 ⟨⟨K, A5, n5, c5, rt, wh5, rfl, hV4⟩, hB4⟩
      refine ⟨_, rfl, ?_⟩
      have hB24 : Below X.heap.size X X4 := hB3.trans (hB4.mono hB3.size)
      have hB04 := hB.trans (hB24.mono hB.size)
      have u24 := hB24.size
      have u02 := hB.size
      have hX3 : W.heap.size ≤ X3.heap.size := Nat.le_trans hB.size hB3.size
      have u23 := hB3.size
      have u34 := hB4.size
      have g5l := hb5.lt
      replace hb3 := hb3.later hB24
      replace hb5 := hb5.later hB24
      replace hE := hE.below hB24
      replace hO := rows_below hO hB24 (Nat.le_refl _)
      ((conv => whnf); (repeat ((first | (refine VL.cons ?_)); (conv => whnf))))
      ((repeat ((fail); (conv => whnf))))
      refine VSem.allocZ (z := .agg (kC Kp.zero none 0 0)) (by kernel_rfl) ?_
      intro X5 q hq hqe hql hB5
      ((conv => whnf); (repeat ((first | (refine VL.cons ?_)); (conv => whnf))))
      ((repeat ((fail); (conv => whnf))))
      refine VUnit.storeAB hq rfl rfl rfl (by simp [kC, Kp.zero, Value.oneCell']) ?_
      intro X6 hq6 hg6
      rw [setFrom_allW (vs := kC K A5 n5 c5) (by rfl)] at hq6
      replace hq6 : Blk X6 q 72 (kC K A5 n5 c5) := hq6
      have hB46 : Below X4.heap.size X4 X6 := only_new hB5 hg6 (by omega) (by omega)
      have hB06 := hB04.trans (hB46.mono hB04.size)
      replace hb3 := hb3.later hB46
      replace hb5 := hb5.later hB46
      replace hE := hE.below hB46
      replace hO := rows_below hO hB46 (Nat.le_refl _)
      cases hs : readW p.2.b with
      | none =>
        have e1 : woStep acc p = { acc with some_ := true } := by unfold woStep; rw [hN]; simp only; rw [hs]
        rw [hs] at hV4
        simp only at hV4
        subst hV4
        ((conv => whnf); (repeat ((first | (refine VL.cons ?_) | (refine VL.nil ?_) | (refine VC.seqS rfl ?_) | (refine VC.region ?_)); (conv => whnf))))
        ((repeat ((first | (refine VL.cons ?_) | (refine VL.nil ?_) | (refine VC.region ?_) | (refine VC.cond ?_) | (refine VC.skip ?_) | (refine VBool.f ?_) | (refine VWrap.i64 (by omega) (by omega) ?_)); (conv => whnf))))
        exact ⟨_, by omega, j + 1, { acc with some_ := true }, wh, fl + 1, A, n, c, rfl, rfl, by omega, by rw [htk, e1], ⟨hok.n, hok.b, hok.l⟩, ⟨by omega, ⟨fun _ => by omega, fun _ => rfl⟩, rw_, rp.imp id (fun ⟨i, p, h1, h2⟩ => ⟨i, p, by omega, h2⟩), rk⟩, hb3, hb5, hE, hO, hB06⟩
      | some kp =>
        rw [hs] at hV4
        simp only at hV4
        obtain ⟨rfl, rfl, rfl, hE5⟩ := hV4
        obtain ⟨hbk, hlk⟩ := readW_ok hs
        have e1 : woStep acc p = ⟨true, nn, K, isWhole p.2.b⟩ := by unfold woStep; rw [hN]; simp only; rw [hs]
        replace hE5 := hE5.below hB46
        have hlt' : (acc.n : Int) < (nn : Int) := by omega
        ((conv => whnf); (repeat ((first | (refine VL.cons ?_) | (refine VL.nil ?_) | (refine VC.seqS rfl ?_) | (refine VC.region ?_)); (conv => whnf))))
        (repeat ((first | (refine VRead.loadB hb5 rfl rfl ?_) | (refine VL.cons ?_) | (refine VL.nil ?_) | (refine VC.seqS rfl ?_) | (refine VC.region ?_) | (refine VC.cond ?_) | (refine VBool.t ?_) | (refine VBool.dT (by omega) ?_) | (refine VRead.fld ?_)); (conv => whnf)))
        refine VUnit.storeB hb5 rfl rfl rfl ?_
        intro X8 hb58 hg8
        replace hb58 : Blk X8 g5 95 (wrC r nn acc.k A n c) := hb58
        replace hO := rows_apart hO hg8 (fun q' e hq' => by have h1 := (World.ownsRow.lt hO q' hq').1; have h2 : g5 = q' := by { injection e }; omega)
        replace hE5 := hE5.keepG hb5 hg8 (by decide) (fun e => by have := (hE5.lt e).2; omega)
        replace hb3 := hb3.only hg8 (by omega)
        replace hq6 := hq6.only hg8 (by omega)
        have hB08 : Below W.heap.size W X8 := only_new hB06 hg8 (by omega) hB06.size
        ((conv => whnf); (repeat ((first | (refine VL.cons ?_) | (refine VL.nil ?_) | (refine VC.seqS rfl ?_) | (refine VC.region ?_)); (conv => whnf))))
        ((repeat ((fail); (conv => whnf))))
        refine VRead.loadAB1 hq6 rfl rfl ?_
        ((conv => whnf); (repeat ((first | (refine VL.cons ?_)); (conv => whnf))))
        ((repeat ((first | (refine VL.cons ?_) | (refine VRead.fld ?_)); (conv => whnf))))
        refine VUnit.storeABw 2 hb58 rfl rfl rfl (by simp [kC, Value.oneCell']) ?_
        intro X9 hb59 hg9
        replace hb59 : Blk X9 g5 95 (wrC r nn K A5 n5 c5) := hb59
        replace hO := rows_apart hO hg9 (fun q' e hq' => by have h1 := (World.ownsRow.lt hO q' hq').1; have h2 : g5 = q' := by { injection e }; omega)
        replace hE5 := hE5.keepG hb58 hg9 (by decide) (fun e => by have := (hE5.lt e).2; omega)
        replace hb3 := hb3.only hg9 (by omega)
        have hB09 : Below W.heap.size W X9 := only_new hB08 hg9 (by omega) hB08.size
        ((conv => whnf); (repeat ((first | (refine VL.cons ?_) | (refine VL.nil ?_) | (refine VC.region ?_)); (conv => whnf))))
        ((repeat ((first | (refine VL.cons ?_) | (refine VL.nil ?_) | (refine VWrap.i64 (by omega) (by omega) ?_)); (conv => whnf))))
        exact ⟨_, by omega, j + 1, ⟨true, nn, K, isWhole p.2.b⟩, isWhole p.2.b, fl + 1, A5, n5, c5, rfl, rfl, by omega, by rw [htk, e1], ⟨by show nn ≤ 99999999; omega, hbk, by simp only; omega⟩, ⟨by omega, ⟨fun _ => by omega, fun _ => rfl⟩, .inl ⟨by show 0 < nn; omega, rfl⟩, .inr ⟨j, p, by omega, hp, hN⟩, readW_may hs⟩, hb3, hb59, hE5.more (by omega) (fun j _ hj => by have : X3.heap.size ≤ j := hj; show W.heap.size ≤ j; omega), hO, hB09⟩
  clear hb3 hb5 hOl hB05 hB5 hB02
  rintro τ vs Y ⟨wh, fl, A, n, c, rfl, hok, hrr, hb3, hb5, hE, hB⟩
  unfold DS.wopen
  generalize wScan S.t = acc at *
  obtain ⟨rf, rs, rw_, rp, rk⟩ := hrr
  have hd := h.below hB
  obtain ⟨hn9, hbase, hlen⟩ := id hok
  have hkl := hE.at_.2.2
  have g5l := hb5.lt
  by_cases hcor : acc.some_ = true ∧ acc.n = 0
  · rw [if_pos hcor]
    obtain ⟨h1, h2⟩ := hcor
    have h2' : (acc.n : Int) = 0 := by omega
    have h1' := rs.1 h1
    ((conv => whnf); (repeat ((fail); (conv => whnf))))
    (repeat (first | ((first | (refine VL.cons ?_) | (refine VL.nil ?_) | (refine VC.seqS rfl ?_) | (refine VC.region ?_) | (refine VC.cond ?_) | (refine VBool.t ?_) | (refine VBool.dT (by omega) ?_) | (refine VRead.fld ?_) | (refine VC.seq ?_)); (conv => whnf)) | (refine VBool.dT (by omega) ?_; (conv => whnf)) | (refine VRead.loadB hb5 rfl rfl ?_; (conv => whnf)) | (refine VBool.dT h2' ?_; (conv => whnf))))
    refine VRead.ofW (v := .agg (kC Kp.zero none 0 0)) (fun _ => by kernel_rfl) ?_
    ((conv => whnf); (repeat ((first | (refine VL.cons ?_)); (conv => whnf))))
    ((repeat ((fail); (conv => whnf))))
    refine VUnit.storeAB hb3 rfl rfl rfl (by simp [kC, Kp.zero, Value.oneCell']) ?_
    intro X2 hb32 hg2
    rw [setFrom_allW rfl] at hb32
    ((conv => whnf); (repeat ((first | (refine VL.cons ?_) | (refine VL.nil ?_) | (refine VC.ret ?_)); (conv => whnf))))
    ((repeat ((fail); (conv => whnf))))
    refine VRes.op3 rfl hb32 rfl ?_
    have hB2 : Below W.heap.size W X2 := only_new hB hg2 (by omega) hB.size
    exact ⟨U, h.below hB2, Step.new hB2, rfl⟩
  rw [if_neg hcor]
  refine VC.cut [2, 4] [(2, 2), (4, 4), (75, 84)] (fun vs X => vs = [.pointer none, .int .i64 0] ∧ X = Y) (by kernel_rfl) ?_ ?_
  · by_cases hf : 0 < fl
    case neg =>
      ((conv => whnf); (repeat ((first | (refine VL.cons ?_) | (refine VC.seqS rfl ?_) | (refine VC.region ?_)); (conv => whnf))))
      (repeat (first | ((first | (refine VL.cons ?_) | (refine VL.nil ?_) | (refine VC.cond ?_) | (refine VC.skip ?_) | (refine VBool.f ?_) | (refine VBool.dF (by omega) ?_)); (conv => whnf)) | (refine VBool.dF (by omega) ?_; (conv => whnf))))
      exact ⟨rfl, rfl⟩
    have h2' : ¬ (acc.n : Int) = 0 := fun e => hcor ⟨rs.2 hf, by omega⟩
    ((conv => whnf); (repeat ((first | (refine VL.cons ?_) | (refine VC.seqS rfl ?_) | (refine VC.region ?_)); (conv => whnf))))
    (repeat (first | ((first | (refine VL.cons ?_) | (refine VL.nil ?_) | (refine VC.cond ?_) | (refine VC.skip ?_) | (refine VBool.t ?_) | (refine VBool.dT (by omega) ?_) | (refine VBool.dF (by omega) ?_) | (refine VRead.fld ?_)); (conv => whnf)) | (refine VBool.dT (by omega) ?_; (conv => whnf)) | (refine VRead.loadB hb5 rfl rfl ?_; (conv => whnf)) | (refine VBool.dF h2' ?_; (conv => whnf))))
    exact ⟨rfl, rfl⟩
  rintro τ2 vs Y' ⟨rfl, hYY⟩
  obtain rfl := hYY.symm
  have hU := h.lt
  have n3 : ¬ U g3 := fun hu => by have := hU g3 hu; omega
  have n5 : ¬ U g5 := fun hu => by have := hU g5 hu; omega
  replace hE : ERow Y (NotU U) W.heap.size (.slice A n c) acc.k.es := hE.more (Nat.le_refl _) (fun j _ hj hu => by have : W.heap.size ≤ j := hj; have := hU j hu; omega)
  obtain ⟨R, hR⟩ : ∃ R, S.wnext acc = R := ⟨_, rfl⟩
  rw [hR]
  have hRc := wnext_calls S acc
  rw [hR] at hRc
  (conv => whnf)
  ((repeat ((first | (refine VL.cons ?_) | (refine VL.nil ?_) | (refine VC.seqS rfl ?_) | (refine VC.region ?_)); (conv => whnf))))
  refine VC.cut [17] [(17, 17), (85, 105)] (fun vs X => vs = [.int .i64 R.1.1] ∧ ∃ U', Rsk X U' r R.1.2 ∧ ¬ U' g5 ∧ Step Y (addF U g5) X (addF U' g5) ∧ (R.1.1 = 0 → Blk X g5 95 (wrC r R.2.n acc.k A n c))) (by kernel_rfl) ?_ ?_
  · by_cases hwh : acc.whole = true
    · have e1 : S.wnext acc = (S.sync (wName acc.n), acc.wl) := by unfold DS.wnext; rw [if_pos hwh]
      rw [e1] at hR
      subst hR
      have hn0 : 0 < acc.n ∧ wh = true := by
        rcases rw_ with ⟨a, b⟩ | ⟨a, b⟩
        · exact ⟨a, by rw [b]; exact hwh⟩
        · rw [b] at hwh; cases hwh
      obtain ⟨hn0, rfl⟩ := hn0
      ((conv => whnf); (repeat ((first | (refine VL.cons ?_) | (refine VC.seqS rfl ?_) | (refine VC.region ?_)); (conv => whnf))))
      (repeat (first | ((first | (refine VL.cons ?_) | (refine VL.nil ?_) | (refine VC.region ?_) | (refine VC.cond ?_) | (refine VBool.t ?_) | (refine VBool.dT (by omega) ?_) | (refine VRead.fld ?_)); (conv => whnf)) | (refine VRead.loadB hb5 rfl rfl ?_; (conv => whnf)) | (refine VBool.dT (by omega) ?_; (conv => whnf))))
      refine VCall.of (refWName_any (acc.n : Int) Y (by omega)) ?_
      rintro e Z1 ⟨rfl, eW⟩
      obtain rfl := eW.symm
      refine ⟨_, rfl, ?_⟩
      ((conv => whnf); (repeat ((first | (refine VL.cons ?_)); (conv => whnf))))
      ((repeat ((fail); (conv => whnf))))
      refine VCall.of (pSync Y U r S (wName acc.n) hd (by omega) (by have := wName_le (acc.n : Int); omega)) ?_
      rintro e Z2 ⟨rfl, U2, hd2, st2⟩
      refine ⟨_, rfl, ?_⟩
      obtain ⟨hw4, n52⟩ := st2.blk hb5 n5
      ((conv => whnf); (repeat ((first | (refine VL.cons ?_) | (refine VL.nil ?_)); (conv => whnf))))
      ((repeat ((fail); (conv => whnf))))
      exact ⟨rfl, U2, hd2, n52, st2.add g5, fun _ => hw4⟩
    · have e1 : S.wnext acc = S.wanew acc.wl acc.k := by unfold DS.wnext; rw [if_neg hwh]
      rw [e1] at hR
      have hwn : (S.wanew acc.wl acc.k).1.1 = 0 → R.2.n = (acc.n : Int) + 1 := fun h0 => by rw [← hR]; exact wanew_n h0
      subst hR
      have hcal := r18Anew_any Y U g5 r S (acc.n : Int) acc.wl acc.k acc.k A A n c n c hd hb5 n5 rfl (by omega) rk (hE.at_.1.more (fun j hj _ => hj)) (by omega) (by omega)
      by_cases hn0 : 0 < acc.n
      · have hwf : wh = false := by
          rcases rw_ with ⟨a, b⟩ | ⟨a, b⟩
          · rw [b]; cases hx : acc.whole with
            | true => exact absurd hx hwh
            | false => rfl
          · omega
        subst hwf
        ((conv => whnf); (repeat ((first | (refine VL.cons ?_) | (refine VC.seqS rfl ?_) | (refine VC.region ?_)); (conv => whnf))))
        (repeat (first | ((first | (refine VL.cons ?_) | (refine VL.nil ?_) | (refine VC.region ?_) | (refine VC.cond ?_) | (refine VBool.f ?_) | (refine VBool.dT (by omega) ?_) | (refine VRead.fld ?_)); (conv => whnf)) | (refine VRead.loadB hb5 rfl rfl ?_; (conv => whnf)) | (refine VBool.dT (by omega) ?_; (conv => whnf)) | (refine VRead.loadABw (fun W hW => by subst hW; exact hb5) rfl ?_; (conv => whnf))))
        refine VCall.of hcal ?_
        rintro e Z2 ⟨rfl, U2, hd2, st2, n52, hw4⟩
        refine ⟨_, rfl, ?_⟩
        ((conv => whnf); (repeat ((first | (refine VL.cons ?_) | (refine VL.nil ?_)); (conv => whnf))))
        ((repeat ((fail); (conv => whnf))))
        exact ⟨rfl, U2, hd2, n52, st2, fun h0 => by rw [hwn h0]; exact hw4 h0⟩
      · ((conv => whnf); (repeat ((first | (refine VL.cons ?_) | (refine VC.seqS rfl ?_) | (refine VC.region ?_)); (conv => whnf))))
        (repeat (first | ((first | (refine VL.cons ?_) | (refine VL.nil ?_) | (refine VC.region ?_) | (refine VC.cond ?_) | (refine VBool.f ?_) | (refine VBool.dF (by omega) ?_) | (refine VRead.fld ?_)); (conv => whnf)) | (refine VRead.loadB hb5 rfl rfl ?_; (conv => whnf)) | (refine VBool.dF (by omega) ?_; (conv => whnf)) | (refine VRead.loadABw (fun W hW => by subst hW; exact hb5) rfl ?_; (conv => whnf))))
        refine VCall.of hcal ?_
        rintro e Z2 ⟨rfl, U2, hd2, st2, n52, hw4⟩
        refine ⟨_, rfl, ?_⟩
        ((conv => whnf); (repeat ((first | (refine VL.cons ?_) | (refine VL.nil ?_)); (conv => whnf))))
        ((repeat ((fail); (conv => whnf))))
        exact ⟨rfl, U2, hd2, n52, st2, fun h0 => by rw [hwn h0]; exact hw4 h0⟩
  rintro τ3 vs X2 ⟨rfl, U2, hd2, n52, st2, hw4⟩
  obtain ⟨hRc1, hRn⟩ := hRc
  have hwf := hd2.wf.t
  ((conv => whnf); (repeat ((first | (refine VL.cons ?_) | (refine VC.seqS rfl ?_) | (refine VC.region ?_)); (conv => whnf))))
  ((repeat ((fail); (conv => whnf))))
  refine VCall.of (pList X2 U2 r R.1.2 hd2) ?_
  rintro e Y2 ⟨Al2, kl2, rfl, hO2, hBY⟩
  refine ⟨_, rfl, ?_⟩
  have hfO : Free U2 (.slice Al2 R.1.2.t.length kl2) := Free.new hO2 hd2.lt
  have hY4 := hd2.below hBY
  have stY := st2.trans ((Step.new (U := U2) hBY).add g5)
  obtain ⟨RF, hRF⟩ : ∃ RF, DS.wend R = RF := ⟨_, rfl⟩
  have hRF' : andT R.1 (fun S4 => S4.clear wPre (wName R.2.n) (R.1.2.keys.drop 0)) = RF := by
    rw [← hRF]
    exact (andT_hereW R.1 (fun s q => s.clear wPre (wName R.2.n) q.keys))
  have hw5 : R.1.1 = 0 → Blk Y2 g5 95 (wrC r R.2.n acc.k A n c) := fun h0 => (hw4 h0).later hBY
  rw [hRF]
  have hkn : ∀ (j : Nat) (x : List UInt8), R.1.2.keys[j]? = some x → x.length ≤ 32 := fun j x hx => by
    unfold DS.keys at hx
    rw [List.getElem?_map] at hx
    obtain ⟨p, hp, rfl⟩ := Option.map_eq_some_iff.1 hx
    exact (hwf.names p (List.mem_of_getElem? hp)).2
  have hOk : Y2.ownsRow X2.heap.size 9 1 (.slice Al2 R.1.2.t.length kl2) R.1.2.t.length (R.1.2.keys.map encStr) := hO2
  have hkl2 : R.1.2.keys.length = R.1.2.t.length := by unfold DS.keys; simp
  have hfew2 := hwf.few
  have hRnn : -9223372036854775808 ≤ R.2.n ∧ R.2.n ≤ 9223372036854775807 := by
    have e9 : acc.wl.n = (acc.n : Int) := rfl
    rcases hRn with hh | hh <;> omega
  clear hd2 st2 hRF hO2 hw4 hBY
  generalize R.1.2.keys = ks at *
  generalize R.1.2.t.length = M at *
  (conv => whnf)
  ((repeat ((first | (refine VL.cons ?_) | (refine VL.nil ?_)); (conv => whnf))))
  refine VC.cut [17] [(17, 18), (108, 149)] (fun vs X => vs = [.int .i64 RF.1] ∧ ∃ U', Rsk X U' r RF.2 ∧ ¬ U' g5 ∧ Step Y (addF U g5) X (addF U' g5) ∧ (RF.1 = 0 → Blk X g5 95 (wrC r R.2.n acc.k A n c))) (by kernel_rfl) ?_ ?_
  · ((conv => whnf); (repeat ((first | (refine VL.cons ?_) | (refine VL.nil ?_) | (refine VC.seqS rfl ?_) | (refine VC.region ?_) | (refine VC.block ?_)); (conv => whnf))))
    ((repeat ((fail); (conv => whnf))))
    refine VC.loop [17, 18] [(17, 18), (108, 149)] (fun q vs Z => ∃ (j : Nat) (E : Int × DS) (U' : Foot), vs = [.int .i64 E.1, .int .i64 (j : Int)] ∧ q = M - j ∧ j ≤ M ∧ andT E (fun S4 => S4.clear wPre (wName R.2.n) (ks.drop j)) = RF ∧ E.2.k.calls ≤ S.k.calls + 5 + j ∧
        Rsk Z U' r E.2 ∧ Z.ownsRow X2.heap.size 9 1 (.slice Al2 M kl2) M (ks.map encStr) ∧ Free U' (.slice Al2 M kl2) ∧ ¬ U' g5 ∧ Step Y (addF U g5) Z (addF U' g5) ∧ (R.1.1 = 0 → Blk Z g5 95 (wrC r R.2.n acc.k A n c)) ∧ (E.1 = 0 → R.1.1 = 0)) (by kernel_rfl)
      ⟨_, 0, R.1, U2, rfl, rfl, by omega, hRF', by omega, hY4, hOk, hfO, n52, stY, hw5, id⟩ ?_
    clear hRF' hY4 hOk hfO stY hw5 n52
    rintro q τ vs Z ⟨j, E, U', rfl, rfl, hj, hE', hcl, hZ, hOZ, hfZ, n5Z, st, hwZ, hE0⟩
    by_cases hlt : j < M
    case neg =>
      rw [List.drop_eq_nil_of_le (by omega)] at hE'
      have hE2 : andT E (fun S1 => (0, S1)) = RF := hE'
      rw [andT_idW] at hE2
      subst hE2
      ((conv => whnf); (repeat ((fail); (conv => whnf))))
      ((repeat ((first | (refine VL.cons ?_) | (refine VL.nil ?_) | (refine VC.seqS rfl ?_) | (refine VC.region ?_) | (refine VC.cond ?_) | (refine VC.exit ?_) | (refine VBool.f ?_) | (refine VBool.dF (by omega) ?_) | (refine VRead.lenS ?_) | (refine VC.seq ?_)); (conv => whnf))))
      exact ⟨rfl, U', hZ, n5Z, st, fun h0 => hwZ (hE0 h0)⟩
    by_cases h0 : E.1 = 0
    case neg =>
      rw [andT_no h0] at hE'
      subst hE'
      ((conv => whnf); (repeat ((fail); (conv => whnf))))
      (repeat (first | ((first | (refine VL.cons ?_) | (refine VL.nil ?_) | (refine VC.seqS rfl ?_) | (refine VC.region ?_) | (refine VC.cond ?_) | (refine VC.exit ?_) | (refine VBool.t ?_) | (refine VBool.dT (by omega) ?_) | (refine VBool.dF (by omega) ?_) | (refine VRead.lenS ?_) | (refine VC.seq ?_)); (conv => whnf)) | (refine VBool.dF h0 ?_; (conv => whnf))))
      exact ⟨rfl, U', hZ, n5Z, st, fun h1 => absurd h1 h0⟩
    have hbw := hwZ (hE0 h0)
    obtain ⟨x, hx⟩ : ∃ x, ks[j]? = some x := ⟨_, List.getElem?_eq_getElem (by omega)⟩
    have hxl := hkn j x hx
    have hxz : ByteArray.size (txt x) = x.length := txt_size x
    have hdr : ks.drop j = x :: ks.drop (j + 1) := by
      rw [List.drop_eq_getElem_cons (by omega)]
      congr 1
      exact (List.getElem?_eq_some_iff.1 hx).2
    rw [andT_ok h0, hdr, clear_cons] at hE'
    obtain ⟨ad, u, rfl, had, hu, hcell⟩ := (Reads.row hOZ).at_ hlt
    obtain ⟨x', hx', rfl⟩ := map_at hu
    rw [hx] at hx'
    obtain rfl := Option.some.inj hx'
    have hB1 : Below Z.heap.size Z (Z.drewN 1) := below_drewN (Below.refl _ _) 1
    have hc1 : ∀ V, Below Z.heap.size Z V → V.cell? (ad.add j) = some (.string (txt x)) := fun V hV => (World.cell?_of_block (by rw [adb]; exact hV.block _ had)).trans hcell
    have kW : ∀ V, Below Z.heap.size Z V → Blk V g5 95 (wrC r R.2.n acc.k A n c) := fun V hV => hbw.later hV
    have skip : ¬ (isPre wPre x = true ∧ x ≠ wName R.2.n) → andT E (fun S4 => S4.clear wPre (wName R.2.n) (ks.drop (j + 1))) = RF := fun hh => by
      rw [if_neg hh] at hE'
      rw [andT_ok h0]
      exact hE'
    by_cases hp : isPre wPre x = true
    case neg =>
      have hsk := skip (fun hh => hp hh.1)
      ((conv => whnf); (repeat ((fail); (conv => whnf))))
      (repeat (first | ((first | (refine VL.cons ?_) | (refine VL.nil ?_) | (refine VC.seqS rfl ?_) | (refine VC.region ?_) | (refine VC.draw ?_) | (refine VC.cond ?_) | (refine VC.block ?_) | (refine VC.skip ?_) | (refine VBool.t ?_) | (refine VBool.dT (by omega) ?_) | (refine VRead.lenS ?_) | (refine VC.seq ?_)); (conv => whnf)) | (refine VBool.dT h0 ?_; (conv => whnf))))
      refine VDraw.seg (fun V => Below Z.heap.size Z V) [([0, 1, 2, 3, 4, 5, 6, 7, 8, 9, 10, 11, 12, 13, 14, 15, 16, 17, 18, 19, 20, 21, 22], 23)] [24, 25] (by kernel_rfl) (by kernel_rfl) hB1 ?_
      generalize Z.drewN 1 = Z1 at *
      by_cases h5 : 4 ≤ x.length
      · have ht5 : ¬ txt (x.take 4) = txt wPre := fun e => hp (by unfold isPre; exact decide_eq_true (txt_inj.1 e))
        (conv => whnf)
        (repeat ((first | (refine VRead.at1 hlt ?_) | (refine VRead.load (fun V hV => hc1 V hV) ?_) | (refine VQ.cons ?_) | (refine VG.cons ?_) | (refine VBool.t ?_) | (refine VBool.dT (by omega) ?_) | (refine VRead.lenT ?_)); (conv => whnf)))
        refine VRead.txtH 4 (by omega) h5 ?_
        (conv => whnf)
        (repeat (first | ((first | (refine VL.cons ?_) | (refine VL.nil ?_) | (refine VC.region ?_) | (refine VC.cond ?_) | (refine VC.skip ?_) | (refine VQ.cons ?_) | (refine VQ.nil ?_) | (refine VG.nil ?_) | (refine VBool.t ?_) | (refine VBool.f ?_) | (refine VWrap.i64 (by omega) (by omega) ?_)); (conv => whnf)) | (refine VBool.dF ht5 ?_; (conv => whnf))))
        exact ⟨_, by omega, j + 1, E, U', rfl, rfl, by omega, hsk, by omega, hZ.below hB1, rows_below hOZ hB1 (Nat.le_refl _), hfZ, n5Z, st.trans ((Step.new hB1).add g5), fun h0 => (hwZ h0).later hB1, hE0⟩
      · (conv => whnf)
        (repeat ((first | (refine VRead.at1 hlt ?_) | (refine VRead.load (fun V hV => hc1 V hV) ?_) | (refine VL.cons ?_) | (refine VL.nil ?_) | (refine VC.region ?_) | (refine VC.cond ?_) | (refine VC.skip ?_) | (refine VQ.cons ?_) | (refine VQ.nil ?_) | (refine VG.nil ?_) | (refine VG.cons ?_) | (refine VBool.f ?_) | (refine VBool.dF (by omega) ?_) | (refine VRead.lenT ?_) | (refine VWrap.i64 (by omega) (by omega) ?_)); (conv => whnf)))
        exact ⟨_, by omega, j + 1, E, U', rfl, rfl, by omega, hsk, by omega, hZ.below hB1, rows_below hOZ hB1 (Nat.le_refl _), hfZ, n5Z, st.trans ((Step.new hB1).add g5), fun h0 => (hwZ h0).later hB1, hE0⟩
    have h5 : 4 ≤ x.length := by
      have e : x.take wPre.length = wPre := of_decide_eq_true hp
      have := congrArg List.length e
      rw [List.length_take] at this
      have e2 : wPre.length = 4 := rfl
      omega
    have ht5 : txt (x.take 4) = txt wPre := by
      have e : x.take wPre.length = wPre := of_decide_eq_true hp
      exact congrArg txt e
    ((conv => whnf); (repeat ((fail); (conv => whnf))))
    (repeat (first | ((first | (refine VL.cons ?_) | (refine VL.nil ?_) | (refine VC.seqS rfl ?_) | (refine VC.region ?_) | (refine VC.draw ?_) | (refine VC.cond ?_) | (refine VC.block ?_) | (refine VC.skip ?_) | (refine VBool.t ?_) | (refine VBool.dT (by omega) ?_) | (refine VRead.lenS ?_) | (refine VC.seq ?_)); (conv => whnf)) | (refine VBool.dT h0 ?_; (conv => whnf))))
    refine VDraw.seg (fun V => Below Z.heap.size Z V) [([0, 1, 2, 3, 4, 5, 6, 7, 8, 9, 10, 11, 12, 13, 14, 15, 16, 17, 18, 19, 20, 21, 22], 23)] [24, 25] (by kernel_rfl) (by kernel_rfl) hB1 ?_
    generalize Z.drewN 1 = Z1 at *
    (conv => whnf)
    (repeat ((first | (refine VRead.at1 hlt ?_) | (refine VRead.load (fun V hV => hc1 V hV) ?_) | (refine VQ.cons ?_) | (refine VG.cons ?_) | (refine VBool.t ?_) | (refine VBool.dT (by omega) ?_) | (refine VRead.lenT ?_)); (conv => whnf)))
    refine VRead.txtH 4 (by omega) h5 ?_
    (conv => whnf)
    (repeat ((first | (refine VBool.dT ht5 ?_) | (refine VRead.at1 hlt ?_) | (refine VRead.load (fun V hV => hc1 V hV) ?_) | (refine VRead.loadBS kW rfl rfl ?_) | (refine VQ.cons ?_) | (refine VQ.nil ?_) | (refine VBool.t ?_) | (refine VRead.fld ?_)); (conv => whnf)))
    refine VCall.of (refWName_any R.2.n Z1 hRnn) ?_
    rintro e Z1' ⟨rfl, eW⟩
    obtain rfl := eW.symm
    refine ⟨_, rfl, ?_⟩
    (conv => whnf)
    refine Keep.mk hB1 ?_
    by_cases hx2 : x = wName R.2.n
    · have hx2' : txt x = txt (wName R.2.n) := by rw [hx2]
      have hsk := skip (fun hh => hh.2 hx2)
      (conv => whnf)
      (repeat (first | ((first | (refine VL.cons ?_) | (refine VL.nil ?_) | (refine VC.region ?_) | (refine VC.cond ?_) | (refine VC.skip ?_) | (refine VQ.cons ?_) | (refine VQ.nil ?_) | (refine VG.nil ?_) | (refine VBool.t ?_) | (refine VBool.nT (by omega) ?_) | (refine VWrap.i64 (by omega) (by omega) ?_)); (conv => whnf)) | (refine VBool.nF (not_not_intro hx2') ?_; (conv => whnf)) | (refine VBool.nT hx2' ?_; (conv => whnf))))
      exact ⟨_, by omega, j + 1, E, U', rfl, rfl, by omega, hsk, by omega, hZ.below hB1, rows_below hOZ hB1 (Nat.le_refl _), hfZ, n5Z, st.trans ((Step.new hB1).add g5), fun h0 => (hwZ h0).later hB1, hE0⟩
    · have hx2' : ¬ txt x = txt (wName R.2.n) := fun e => hx2 (txt_inj.1 e)
      rw [if_pos ⟨hp, hx2⟩] at hE'
      have hac : (E.2.remove x).2.k.calls = E.2.k.calls + 1 := DS.remove_calls
      have hcZ := hc1 Z1 hB1
      (conv => whnf)
      (repeat (first | ((first | (refine VL.cons ?_) | (refine VC.region ?_) | (refine VC.cond ?_) | (refine VQ.cons ?_) | (refine VQ.nil ?_) | (refine VG.nil ?_) | (refine VBool.t ?_) | (refine VBool.nF (by omega) ?_) | (refine VRead.load1 (by assumption) ?_) | (refine VRead.at1 (by omega) ?_)); (conv => whnf)) | (refine VBool.nF hx2' ?_; (conv => whnf)) | (refine VRead.at1 hlt ?_; (conv => whnf))))
      refine VCall.of (pRemove Z1 U' r E.2 x (hZ.below hB1) (by omega) (by omega)) ?_
      rintro e Z2 ⟨rfl, U5, hZ2, st5⟩
      refine ⟨_, rfl, ?_⟩
      obtain ⟨hO5, hf5⟩ := st5.rows (rows_below hOZ hB1 (Nat.le_refl _)) hfZ
      obtain ⟨hw5, n55⟩ := st5.blk (kW Z1 hB1) n5Z
      ((conv => whnf); (repeat ((first | (refine VL.cons ?_) | (refine VL.nil ?_) | (refine VC.region ?_)); (conv => whnf))))
      ((repeat ((first | (refine VL.cons ?_) | (refine VL.nil ?_) | (refine VWrap.i64 (by omega) (by omega) ?_)); (conv => whnf))))
      exact ⟨_, by omega, j + 1, E.2.remove x, U5, rfl, rfl, by omega, hE', by omega, hZ2, hO5, hf5, n55, (st.trans ((Step.new hB1).add g5)).trans (st5.add g5), fun _ => hw5, fun _ => hE0 h0⟩
  clear hRF' hY4 hOk hfO stY hw5 n52
  rintro τ4 vs X3 ⟨rfl, U3, hd3, n53, st3, hw3⟩
  obtain ⟨hb33, n33⟩ := st3.blk hb3 (fun h => by
    rcases h with h | h
    · exact n3 h
    · omega)
  have hE3 := ((hE.addU hb5 (by decide) (by decide)).step st3).unU
  have stW := Step.past hB st3 (by omega)
  have hg3n : ¬ U3 g3 := fun hu => n33 (.inl hu)
  clear hb3 hE st3 hd
  by_cases cE : RF.1 = 0
  case neg =>
    rw [if_neg cE]
    ((conv => whnf); (repeat ((fail); (conv => whnf))))
    (repeat (first | ((first | (refine VL.cons ?_) | (refine VL.nil ?_) | (refine VC.seqS rfl ?_) | (refine VC.region ?_) | (refine VC.cond ?_) | (refine VBool.nF (by omega) ?_) | (refine VC.seq ?_)); (conv => whnf)) | (refine VBool.nF cE ?_; (conv => whnf))))
    refine VRead.ofW (v := .agg (kC Kp.zero none 0 0)) (fun _ => by kernel_rfl) ?_
    ((conv => whnf); (repeat ((first | (refine VL.cons ?_)); (conv => whnf))))
    ((repeat ((fail); (conv => whnf))))
    refine VUnit.storeAB hb33 rfl rfl rfl (by simp [kC, Kp.zero, Value.oneCell']) ?_
    intro X4 hb34 hg4
    rw [setFrom_allW rfl] at hb34
    ((conv => whnf); (repeat ((first | (refine VL.cons ?_) | (refine VL.nil ?_) | (refine VC.ret ?_)); (conv => whnf))))
    ((repeat ((fail); (conv => whnf))))
    refine VRes.op3 rfl hb34 rfl ?_
    exact ⟨U3, hd3.cell hg4 hg3n, stW.pastG hg4 (by omega), rfl⟩
  rw [if_pos cE]
  have hw6 := hw3 cE
  ((conv => whnf); (repeat ((fail); (conv => whnf))))
  (repeat (first | ((first | (refine VL.cons ?_) | (refine VL.nil ?_) | (refine VC.seqS rfl ?_) | (refine VC.region ?_) | (refine VC.draw ?_) | (refine VC.cond ?_) | (refine VC.skip ?_) | (refine VBool.nT (by omega) ?_) | (refine VC.seq ?_)); (conv => whnf)) | (refine VBool.nT cE ?_; (conv => whnf))))
  have hE4 : Below X3.heap.size X3 (X3.drewN 1) := below_drewN (Below.refl _ _) 1
  replace hb33 := hb33.later hE4
  replace hw6 := hw6.later hE4
  replace hE3 := hE3.below hE4
  replace hd3 := hd3.below hE4
  replace stW := stW.trans (Step.new (U := U3) hE4)
  refine VDraw.seg (fun Z => Blk Z g5 95 (wrC r R.2.n acc.k A n c)) [([0, 1, 2, 3, 4, 5], 6)] [7] (by kernel_rfl) (by kernel_rfl) hw6 ?_
  generalize X3.drewN 1 = X5 at *
  (conv => whnf)
  (repeat ((first | (refine VRead.loadABw (fun Z hZ => hZ) rfl ?_) | (refine VQ.cons ?_) | (refine VQ.nil ?_) | (refine VG.cons ?_) | (refine VRead.fld ?_)); (conv => whnf)))
  refine VUnit.storeAB hb33 rfl rfl rfl (by simp [kC, Value.oneCell']) ?_
  intro X6 hb36 hg6'
  rw [setFrom_allW (vs := kC acc.k A n c) (by rfl)] at hb36
  replace hE3 := hE3.keepG hb33 hg6' (by decide) (hE3.notBlk hb33 (by decide))
  replace hw6 := hw6.only hg6' (by omega)
  (conv => whnf)
  refine Keep.mk hw6 ?_
  ((conv => whnf); (repeat ((first | (refine VC.ret ?_) | (refine VQ.cons ?_) | (refine VQ.nil ?_) | (refine VG.nil ?_)); (conv => whnf))))
  ((repeat ((fail); (conv => whnf))))
  refine VRes.op3 rfl hb36 rfl ?_
  exact ⟨U3, hd3.cell hg6' hg3n, stW.pastG hg6' (by omega), g5, A, n, c, rfl, n53, by omega, hE3, rk, hlen⟩
end Go.Proofs.YtebeidnmplnlpaaGreat
end

section
set_option maxRecDepth 10000
namespace Go.Proofs.YtebeidnmplnlpaaGreat
set_option linter.unusedVariables false
open Go.RowKit

theorem ERow.stepQ {Q : Nat → Prop} {W W' : World} {U U' : Foot} {B : Nat} {v : Value} {es : List En} (h : ERow W (fun j => Q j ∧ ¬ U j) B v es) (hs : Step W U W' U') : ERow W' (fun j => Q j ∧ ¬ U' j) B v es := by
  refine ((h.more (Nat.le_refl _) (V' := fun j => (Q j ∧ ¬ U j) ∧ j < W.heap.size) (fun j h1 h2 => ⟨h2, h1⟩)).stay hs.size (fun j h1 h2 => hs.out.block j h1 h2.1.2)).more (Nat.le_refl _) (fun j h1 h2 => ⟨h2.1.1, fun hu => ?_⟩)
  rcases hs.sub j hu with h' | h'
  · exact h2.1.2 h'
  · have := h2.2; omega
theorem ERow.addUQ {Q : Nat → Prop} {W : World} {U : Foot} {B g T : Nat} {v : Value} {es : List En} {cs : Array Value} (h : ERow W (fun j => Q j ∧ ¬ U j) B v es) (hb : Blk W g T cs) (hT : 5 ≠ T) (hT2 : 56 ≠ T) : ERow W (fun j => Q j ∧ ¬ (addF U g) j) B v es :=
  (h.ne hb hT hT2).more (Nat.le_refl _) (fun j _ hj => ⟨hj.1.1, fun hu => by
    rcases hu with hu | hu
    · exact hj.1.2 hu
    · exact hj.2 hu⟩)
theorem ERow.unUQ {Q : Nat → Prop} {W : World} {U : Foot} {B g : Nat} {v : Value} {es : List En} (h : ERow W (fun j => Q j ∧ ¬ (addF U g) j) B v es) : ERow W (fun j => Q j ∧ ¬ U j) B v es := h.more (Nat.le_refl _) (fun j _ hj => ⟨hj.1, fun hu => hj.2 (.inl hu)⟩)
/-- what Open gives -/
def OpN (W W' : World) (U' : Foot) (d : Nat) (r : Int) (o : Option (WlS × Kp)) (e : Ending) : Prop := match o with
  | none => e = .returned (.tuple #[.pointer none, .agg (kC Kp.zero none 0 0), .int .i64 r])
  | some y => ∃ g A n c, e = .returned (.tuple #[.pointer (some ⟨g, 0, none⟩), .agg (kC y.2 A n c), .int .i64 0]) ∧ Blk W' g 82 (wlC d y.1) ∧ ¬ U' g ∧ W.heap.size ≤ g ∧ ERow W' (fun j => W.heap.size ≤ j ∧ ¬ U' j) W.heap.size (.slice A n c) y.2.es
set_option maxHeartbeats 4000000 in
theorem walOpenN_any (W : World) (U : Foot) (d : Nat) (S : DS) (h : Dsk W U d S) (hc : S.k.calls + 200 < 1000000) :
    Calls Tryz.prog 18 #[.pointer (some ⟨d, 0, none⟩)] W fun e W' => ∃ U', Dsk W' U' d (S.wopen).1.2 ∧ Step W U W' U' ∧ OpN W W' U' d (S.wopen).1.1 (S.wopen).2 e := by
  have hfew := h.wf.t.few
  have hris := h.wf.t.ris
  have hroom := h.wf.k.room
  have hfit := h.wf.t.fit
  refine calls_vc Tryz.func18 rfl (by kernel_rfl) ?_
  ((conv => whnf); (repeat ((first | (refine VL.cons ?_) | (refine VC.seqS rfl ?_) | (refine VC.region ?_)); (conv => whnf))))
  ((repeat ((fail); (conv => whnf))))
  refine VSem.allocZ (z := .agg (kC Kp.zero none 0 0)) (by kernel_rfl) ?_
  intro w1 g3 hb3 hg3 hl3 hB1
  replace hb3 : Blk w1 g3 50 (kC Kp.zero none 0 0) := hb3
  ((conv => whnf); (repeat ((first | (refine VL.cons ?_) | (refine VL.nil ?_) | (refine VC.seqS rfl ?_) | (refine VC.region ?_)); (conv => whnf))))
  ((repeat ((fail); (conv => whnf))))
  refine VRead.ofW (v := .agg (wlC d ⟨0, 0, 0⟩)) (fun _ => by kernel_rfl) ?_
  ((conv => whnf); (repeat ((first | (refine VL.cons ?_)); (conv => whnf))))
  ((repeat ((fail); (conv => whnf))))
  refine VSem.boxB ?_
  intro w2 g5 hb5 hg5 hl5 hB2
  replace hb5 : Blk w2 g5 82 (wlC d ⟨0, 0, 0⟩) := hb5
  ((conv => whnf); (repeat ((first | (refine VL.cons ?_) | (refine VL.nil ?_) | (refine VC.seqS rfl ?_) | (refine VC.region ?_)); (conv => whnf))))
  ((repeat ((fail); (conv => whnf))))
  refine VRead.ofW (v := .agg (kC Kp.zero none 0 0)) (fun _ => by kernel_rfl) ?_
  ((conv => whnf); (repeat ((first | (refine VL.cons ?_)); (conv => whnf))))
  ((repeat ((fail); (conv => whnf))))
  refine VSem.allocZ (z := .agg (kC Kp.zero none 0 0)) (by kernel_rfl) ?_
  intro w3 g6 hb6 hg6 hl6 hB3
  replace hb6 : Blk w3 g6 50 (kC Kp.zero none 0 0) := hb6
  ((conv => whnf); (repeat ((first | (refine VL.cons ?_)); (conv => whnf))))
  ((repeat ((fail); (conv => whnf))))
  refine VUnit.storeAB hb6 rfl rfl rfl (by simp [kC, Kp.zero, Value.oneCell']) ?_
  intro w4 hb6' hg6'
  rw [setFrom_allW rfl] at hb6'
  have s1 := hB1.size
  have s2 := hB2.size
  have s3 := hB3.size
  have s4 := hg6'.size
  replace hb3 := ((hb3.later hB2).later hB3).only hg6' (by omega)
  replace hb5 := (hb5.later hB3).only hg6' (by omega)
  have hB04 : Below W.heap.size W w4 := only_new ((hB1.trans (hB2.mono s1)).trans (hB3.mono (Nat.le_trans s1 s2))) hg6' (by omega) (by omega)
  clear hb6 hB1 hB2 hB3 hg6'
  ((conv => whnf); (repeat ((first | (refine VL.cons ?_) | (refine VL.nil ?_)); (conv => whnf))))
  ((repeat ((first | (refine VL.cons ?_) | (refine VC.seqS rfl ?_) | (refine VC.region ?_) | (refine VC.seq ?_)); (conv => whnf))))
  refine VCall.of (oList w4 U d S (h.below hB04)) ?_
  rintro e w5 ⟨Al, kl, rfl, hOl, hB5⟩
  refine ⟨_, rfl, ?_⟩
  replace hb3 := hb3.later hB5
  replace hb5 := hb5.later hB5
  replace hb6' := hb6'.later hB5
  have hB05 := hB04.trans (hB5.mono hB04.size)
  have s5 := hB5.size
  obtain ⟨o1, o2, o3, o4⟩ : W.heap.size ≤ g3 ∧ g3 < g5 ∧ g5 < g6 ∧ g6 < w4.heap.size := by omega
  ((conv => whnf); (repeat ((first | (refine VL.cons ?_)); (conv => whnf))))
  ((repeat ((first | (refine VL.cons ?_) | (refine VL.nil ?_) | (refine VC.block ?_) | (refine VRead.lenS ?_)); (conv => whnf))))
  refine VC.loop [7, 8, 26] [(7, 8), (10, 17), (26, 56)] (fun q vs X => ∃ (j : Nat) (acc : Scn) (A : Option Addr) (n c : Nat), vs = [.bool acc.whole, .bool acc.some_, .int .i64 (j : Int)] ∧ q = S.t.length - j ∧ j ≤ S.t.length ∧ (S.t.take j).foldl woStep ⟨false, 0, Kp.zero, false⟩ = acc ∧ ScnOk acc ∧
      Blk X g3 50 (kC Kp.zero none 0 0) ∧ Blk X g5 82 (wlC d ⟨acc.n, 0, 0⟩) ∧ Blk X g6 50 (kC acc.k A n c) ∧ ERow X (fun j => W.heap.size ≤ j) W.heap.size (.slice A n c) acc.k.es ∧
      X.ownsRow w4.heap.size 9 1 (.slice Al S.t.length kl) S.t.length ((S.t.map (·.1)).map encStr) ∧ Below W.heap.size W X) (by kernel_rfl)
    ⟨_, 0, ⟨false, 0, Kp.zero, false⟩, none, 0, 0, rfl, rfl, by omega, rfl, ⟨by decide, ⟨by decide, by decide⟩, by decide⟩, hb3, hb5, hb6', ERow.nil _ _ _, hOl, hB05⟩ ?_
  clear hb3 hb5 hb6' hOl hB05 hB5 hB04
  rintro q τ vs X ⟨j, acc, A, n, c, rfl, rfl, hj, hacc, hok, hb3, hb5, hb6, hE, hO, hB⟩
  by_cases hjn : j < S.t.length
  case neg =>
    obtain rfl : j = S.t.length := by omega
    rw [List.take_length] at hacc
    have hscan : wScan S.t = acc := hacc
    unfold DS.wopen
    rw [hscan]
    have hd := h.below hB
    obtain ⟨hn9, hbase, hlen⟩ := id hok
    obtain ⟨hbase1, hbase2⟩ := hbase
    have hkl := hE.at_.2.2
    by_cases hcor : acc.some_ = true ∧ acc.n = 0
    · rw [if_pos hcor]
      obtain ⟨h1, h2⟩ := hcor
      have h2' : (acc.n : Int) = 0 := by omega
      ((conv => whnf); (repeat ((first | (refine VL.cons ?_) | (refine VL.nil ?_) | (refine VC.seqS rfl ?_) | (refine VC.region ?_)); (conv => whnf))))
      (repeat (first | ((first | (refine VL.cons ?_) | (refine VL.nil ?_) | (refine VC.seqS rfl ?_) | (refine VC.region ?_) | (refine VC.cond ?_) | (refine VC.exit ?_) | (refine VBool.t ?_) | (refine VBool.dT (by omega) ?_) | (refine VBool.dF (by omega) ?_) | (refine VRead.fld ?_) | (refine VC.seq ?_)); (conv => whnf)) | (refine VBool.yes h1 ?_; (conv => whnf)) | (refine VRead.loadB hb5 rfl rfl ?_; (conv => whnf))))
      refine VRead.ofW (v := .agg (kC Kp.zero none 0 0)) (fun _ => by kernel_rfl) ?_
      ((conv => whnf); (repeat ((first | (refine VL.cons ?_)); (conv => whnf))))
      ((repeat ((fail); (conv => whnf))))
      refine VUnit.storeAB hb3 rfl rfl rfl (by simp [kC, Kp.zero, Value.oneCell']) ?_
      intro X2 hb32 hg2
      rw [setFrom_allW rfl] at hb32
      ((conv => whnf); (repeat ((first | (refine VL.cons ?_) | (refine VL.nil ?_) | (refine VC.ret ?_)); (conv => whnf))))
      ((repeat ((fail); (conv => whnf))))
      refine VRes.op3 rfl hb32 rfl ?_
      have hB2 : Below W.heap.size W X2 := only_new hB hg2 (by omega) hB.size
      exact ⟨U, h.below hB2, Step.new hB2, rfl⟩
    rw [if_neg hcor]
    (conv => whnf)
    (iterate 8 ((first | (refine VL.cons ?_) | (refine VL.nil ?_) | (refine VC.seqS rfl ?_) | (refine VC.region ?_) | (refine VC.cond ?_) | (refine VC.exit ?_) | (refine VBool.dF (by omega) ?_) | (refine VC.seq ?_)); (conv => whnf)))
    refine VC.cut [2, 4] [(2, 2), (4, 4), (57, 65)] (fun vs Y => vs = [.pointer none, .int .i64 0] ∧ Y = X) (by kernel_rfl) ?_ ?_
    · cases hsm : acc.some_ with
      | false =>
        ((conv => whnf); (repeat ((first | (refine VL.cons ?_) | (refine VC.seqS rfl ?_) | (refine VC.region ?_)); (conv => whnf))))
        (repeat (first | ((first | (refine VL.cons ?_) | (refine VL.nil ?_) | (refine VC.cond ?_) | (refine VC.skip ?_) | (refine VBool.f ?_)); (conv => whnf)) | (refine VBool.no hsm ?_; (conv => whnf))))
        exact ⟨rfl, rfl⟩
      | true =>
        have h2' : ¬ (acc.n : Int) = 0 := fun e => hcor ⟨hsm, by omega⟩
        ((conv => whnf); (repeat ((first | (refine VL.cons ?_) | (refine VC.seqS rfl ?_) | (refine VC.region ?_)); (conv => whnf))))
        (repeat (first | ((first | (refine VL.cons ?_) | (refine VL.nil ?_) | (refine VC.cond ?_) | (refine VC.skip ?_) | (refine VBool.t ?_) | (refine VBool.dF (by omega) ?_) | (refine VRead.fld ?_)); (conv => whnf)) | (refine VBool.yes hsm ?_; (conv => whnf)) | (refine VRead.loadB hb5 rfl rfl ?_; (conv => whnf))))
        exact ⟨rfl, rfl⟩
    rintro τ2 vs Y ⟨rfl, hYX⟩
    have hB' : Below W.heap.size W Y := by rw [hYX]; exact hB
    rw [← hYX] at hb3 hb5 hb6 hE hd
    clear hYX hB hO
    have g5l := hb5.lt
    have g6l := hb6.lt
    have hE7 : Below Y.heap.size Y (Y.drewN 1) := below_drewN (Below.refl _ _) 1
    replace hb3 := hb3.later hE7
    replace hb5 := hb5.later hE7
    replace hb6 := hb6.later hE7
    replace hE := hE.below hE7
    have hB7 := hB'.trans (hE7.mono hB'.size)
    ((conv => whnf); (repeat ((fail); (conv => whnf))))
    ((repeat ((first | (refine VC.draw ?_) | (refine VC.seq ?_)); (conv => whnf))))
    refine VDraw.seg (fun Z => Blk Z g6 50 (kC acc.k A n c)) [([0, 1, 2, 3, 4, 5, 6, 7, 8, 9, 10, 11], 12), ([13, 14], 15)] [] (by kernel_rfl) (by kernel_rfl) hb6 ?_
    generalize Y.drewN 1 = Y1 at *
    (conv => whnf)
    (repeat ((first | (refine VRead.loadBS (fun Z hZ => hZ) rfl rfl ?_) | (refine VQ.cons ?_) | (refine VQ.nil ?_) | (refine VG.cons ?_) | (refine VRead.lenS ?_) | (refine VRead.fld ?_) | (refine VWrap.i64 (by omega) (by omega) ?_)); (conv => whnf)))
    refine VUnit.storeB hb5 rfl rfl rfl ?_
    intro Y2 hb52 hg2
    replace hE := hE.keepG hb5 hg2 (by decide) (hE.notBlk hb5 (by decide))
    replace hb3 := hb3.only hg2 (by omega)
    replace hb6 := hb6.only hg2 (by omega)
    have hB8 : Below W.heap.size W Y2 := only_new hB7 hg2 (by omega) hB7.size
    (conv => whnf)
    refine Keep.mk hb6 ?_
    (conv => whnf)
    ((repeat ((first | (refine VQ.cons ?_) | (refine VQ.nil ?_) | (refine VG.cons ?_) | (refine VRead.fld ?_)); (conv => whnf))))
    refine VUnit.storeB hb52 rfl rfl rfl ?_
    intro Y3 hb53 hg3'
    replace hE := hE.keepG hb52 hg3' (by decide) (hE.notBlk hb52 (by decide))
    replace hb3 := hb3.only hg3' (by omega)
    replace hb6 := hb6.only hg3' (by omega)
    have hB9 : Below W.heap.size W Y3 := only_new hB8 hg3' (by omega) hB8.size
    have hw3 : Blk Y3 g5 82 (wlC d acc.wl) := by
      have e1 : acc.wl = ⟨acc.n, acc.k.base, acc.k.base + n⟩ := by unfold Scn.wl; rw [hkl]
      rw [e1]; exact hb53
    clear hb5 hb52 hb53 hg2 hg3' hB7 hB8 hE7 hB' hd
    (conv => whnf)
    refine Keep.mk hb6 ?_
    have hd := h.below hB9
    have hU := h.lt
    have n3 : ¬ U g3 := fun hu => by have := hU g3 hu; omega
    have n5 : ¬ U g5 := fun hu => by have := hU g5 hu; omega
    have n6 : ¬ U g6 := fun hu => by have := hU g6 hu; omega
    replace hE : ERow Y3 (fun j => W.heap.size ≤ j ∧ ¬ U j) W.heap.size (.slice A n c) acc.k.es := hE.more (Nat.le_refl _) (fun j _ hj => ⟨hj, fun hu => by have : W.heap.size ≤ j := hj; have := hU j hu; omega⟩)
    have st := Step.new (U := U) hB9
    have hwlok := hok.wl
    have hwn : acc.wl.n = (acc.n : Int) := rfl
    obtain ⟨R, hR⟩ : ∃ R, S.wnext acc = R := ⟨_, rfl⟩
    rw [hR]
    (conv => whnf)
    (iterate 6 ((first | (refine VL.cons ?_) | (refine VL.nil ?_) | (refine VC.seqS rfl ?_) | (refine VC.region ?_) | (refine VQ.nil ?_) | (refine VG.nil ?_)); (conv => whnf)))
    have hRc := wnext_calls S acc
    rw [hR] at hRc
    refine VC.cut [18] [(18, 18), (80, 90)] (fun vs X => vs = [.int .i64 R.1.1] ∧ ∃ U', Dsk X U' d R.1.2 ∧ Blk X g5 82 (wlC d R.2) ∧ ¬ U' g5 ∧ Step Y3 (addF U g5) X (addF U' g5)) (by kernel_rfl) ?_ ?_
    · cases hwh : acc.whole with
      | true =>
        have e1 : S.wnext acc = (S.sync (wName acc.n), acc.wl) := by unfold DS.wnext; rw [if_pos hwh]
        rw [e1] at hR
        subst hR
        ((conv => whnf); (repeat ((first | (refine VL.cons ?_) | (refine VL.nil ?_) | (refine VC.seqS rfl ?_) | (refine VC.region ?_) | (refine VC.cond ?_)); (conv => whnf))))
        (repeat (first | ((first | (refine VL.cons ?_) | (refine VC.region ?_) | (refine VBool.t ?_) | (refine VRead.fld ?_)); (conv => whnf)) | (refine VBool.yes hwh ?_; (conv => whnf)) | (refine VRead.loadB hw3 rfl rfl ?_; (conv => whnf))))
        refine VCall.of (walName_any (acc.n : Int) Y3 (by omega)) ?_
        rintro e Z1 ⟨rfl, hZ1⟩
        refine ⟨_, rfl, ?_⟩
        ((conv => whnf); (repeat ((first | (refine VL.cons ?_)); (conv => whnf))))
        ((repeat ((fail); (conv => whnf))))
        refine VCall.of (oSync Z1 U d S (wName acc.n) (hd.below hZ1) (by omega) (by have := wName_le (acc.n : Int); omega)) ?_
        rintro e Z2 ⟨rfl, U2, hd2, st2⟩
        refine ⟨_, rfl, ?_⟩
        obtain ⟨hw4, n52⟩ := ((Step.new (U := U) hZ1).trans st2).blk hw3 n5
        ((conv => whnf); (repeat ((first | (refine VL.cons ?_) | (refine VL.nil ?_)); (conv => whnf))))
        ((repeat ((fail); (conv => whnf))))
        exact ⟨rfl, U2, hd2, hw4, n52, ((Step.new (U := U) hZ1).trans st2).add g5⟩
      | false =>
        have e1 : S.wnext acc = S.wanew acc.wl acc.k := by unfold DS.wnext; rw [if_neg (by rw [hwh]; simp)]
        rw [e1] at hR
        subst hR
        ((conv => whnf); (repeat ((first | (refine VL.cons ?_) | (refine VL.nil ?_) | (refine VC.seqS rfl ?_) | (refine VC.region ?_) | (refine VC.cond ?_)); (conv => whnf))))
        (repeat (first | ((first | (refine VL.cons ?_) | (refine VC.region ?_) | (refine VBool.f ?_)); (conv => whnf)) | (refine VBool.no hwh ?_; (conv => whnf)) | (refine VRead.loadAB1 hb6 rfl rfl ?_; (conv => whnf))))
        refine VCall.of (walAnew_any Y3 U g5 d S acc.wl acc.k A n c hd hw3 n5 hwlok (hE.at_.1.more (fun j hj _ => hj)) (by omega) (by omega) (by omega)) ?_
        rintro e Z2 ⟨rfl, U2, hd2, hw4, n52, st2⟩
        refine ⟨_, rfl, ?_⟩
        ((conv => whnf); (repeat ((first | (refine VL.cons ?_) | (refine VL.nil ?_)); (conv => whnf))))
        ((repeat ((fail); (conv => whnf))))
        exact ⟨rfl, U2, hd2, hw4, n52, st2⟩
    rintro τ3 vs X2 ⟨rfl, U2, hd2, hw4, n52, st2⟩
    obtain ⟨hRc1, hRn⟩ := hRc
    refine VC.cut [18] [(18, 18), (91, 94)] (fun vs X => vs = [.int .i64 (DS.wend R).1] ∧ ∃ U', Dsk X U' d (DS.wend R).2 ∧ Blk X g5 82 (wlC d R.2) ∧ ¬ U' g5 ∧ Step Y3 (addF U g5) X (addF U' g5)) (by kernel_rfl) ?_ ?_
    · by_cases cr : R.1.1 = 0
      case neg =>
        have e1 : DS.wend R = R.1 := by unfold DS.wend; rw [andT_no cr]
        rw [e1]
        ((conv => whnf); (repeat ((first | (refine VL.cons ?_) | (refine VL.nil ?_) | (refine VC.seqS rfl ?_) | (refine VC.region ?_) | (refine VC.cond ?_)); (conv => whnf))))
        (repeat (first | ((first | (refine VC.skip ?_) | (refine VBool.dF (by omega) ?_)); (conv => whnf)) | (refine VBool.dF cr ?_; (conv => whnf))))
        exact ⟨rfl, U2, hd2, hw4, n52, st2⟩
      have e1 : DS.wend R = R.1.2.clear wPre (wName R.2.n) R.1.2.keys := by unfold DS.wend; rw [andT_ok cr]
      rw [e1]
      ((conv => whnf); (repeat ((first | (refine VL.cons ?_) | (refine VL.nil ?_) | (refine VC.seqS rfl ?_) | (refine VC.region ?_) | (refine VC.cond ?_)); (conv => whnf))))
      (repeat (first | ((first | (refine VL.cons ?_) | (refine VC.region ?_) | (refine VBool.dT (by omega) ?_)); (conv => whnf)) | (refine VBool.dT cr ?_; (conv => whnf))))
      refine VCall.of (walClears_any X2 U2 g5 d R.1.2 R.2 hd2 hw4 n52 (by omega) (by omega)) ?_
      rintro e X3 ⟨rfl, U3, hd3, st3⟩
      refine ⟨_, rfl, ?_⟩
      obtain ⟨hw5, n53⟩ := st3.blk hw4 n52
      ((conv => whnf); (repeat ((first | (refine VL.cons ?_) | (refine VL.nil ?_)); (conv => whnf))))
      ((repeat ((fail); (conv => whnf))))
      exact ⟨rfl, U3, hd3, hw5, n53, st2.trans (st3.add g5)⟩
    clear hd2 hw4 n52 st2
    rintro τ4 vs X3 ⟨rfl, U3, hd3, hw5, n53, st3⟩
    obtain ⟨E, hEe⟩ : ∃ E, DS.wend R = E := ⟨_, rfl⟩
    rw [hEe] at hd3 ⊢
    obtain ⟨hb33, n33⟩ := st3.blk hb3 (fun h => by
      rcases h with h | h
      · exact n3 h
      · omega)
    obtain ⟨hb63, n63⟩ := st3.blk hb6 (fun h => by
      rcases h with h | h
      · exact n6 h
      · omega)
    have hE3 := ((hE.addUQ hw3 (by decide) (by decide)).stepQ st3).unUQ
    have stW := Step.past hB9 st3 (by omega)
    have hg3n : ¬ U3 g3 := fun hu => n33 (.inl hu)
    have hg6n : ¬ U3 g6 := fun hu => n63 (.inl hu)
    clear hb3 hb6 hE hw3 st3 st hd
    by_cases cE : E.1 = 0
    case neg =>
      rw [if_neg cE]
      ((conv => whnf); (repeat ((fail); (conv => whnf))))
      (repeat (first | ((first | (refine VL.cons ?_) | (refine VL.nil ?_) | (refine VC.seqS rfl ?_) | (refine VC.region ?_) | (refine VC.cond ?_) | (refine VBool.nF (by omega) ?_) | (refine VC.seq ?_)); (conv => whnf)) | (refine VBool.nF cE ?_; (conv => whnf))))
      refine VRead.ofW (v := .agg (kC Kp.zero none 0 0)) (fun _ => by kernel_rfl) ?_
      ((conv => whnf); (repeat ((first | (refine VL.cons ?_)); (conv => whnf))))
      ((repeat ((fail); (conv => whnf))))
      refine VUnit.storeAB hb33 rfl rfl rfl (by simp [kC, Kp.zero, Value.oneCell']) ?_
      intro X4 hb34 hg4
      rw [setFrom_allW rfl] at hb34
      ((conv => whnf); (repeat ((first | (refine VL.cons ?_) | (refine VL.nil ?_) | (refine VC.ret ?_)); (conv => whnf))))
      ((repeat ((fail); (conv => whnf))))
      refine VRes.op3 rfl hb34 rfl ?_
      exact ⟨U3, hd3.cell hg4 hg3n, stW.pastG hg4 (by omega), rfl⟩
    rw [if_pos cE]
    ((conv => whnf); (repeat ((fail); (conv => whnf))))
    (repeat (first | ((first | (refine VL.cons ?_) | (refine VL.nil ?_) | (refine VC.seqS rfl ?_) | (refine VC.region ?_) | (refine VC.draw ?_) | (refine VC.cond ?_) | (refine VC.skip ?_) | (refine VBool.nT (by omega) ?_) | (refine VC.seq ?_)); (conv => whnf)) | (refine VBool.nT cE ?_; (conv => whnf))))
    have hE4 : Below X3.heap.size X3 (X3.drewN 1) := below_drewN (Below.refl _ _) 1
    replace hb33 := hb33.later hE4
    replace hb63 := hb63.later hE4
    replace hw5 := hw5.later hE4
    replace hE3 := hE3.below hE4
    replace hd3 := hd3.below hE4
    replace stW := stW.trans (Step.new (U := U3) hE4)
    refine VDraw.seg (fun Z => Blk Z g6 50 (kC acc.k A n c)) [([0, 1, 2], 3)] [4] (by kernel_rfl) (by kernel_rfl) hb63 ?_
    generalize X3.drewN 1 = X5 at *
    (conv => whnf)
    (repeat ((first | (refine VRead.loadAB (fun Z hZ => hZ) rfl rfl ?_) | (refine VQ.cons ?_) | (refine VQ.nil ?_) | (refine VG.cons ?_)); (conv => whnf)))
    refine VUnit.storeAB hb33 rfl rfl rfl (by simp [kC, Value.oneCell']) ?_
    intro X6 hb36 hg6'
    rw [setFrom_allW (vs := kC acc.k A n c) (by rfl)] at hb36
    replace hE3 := hE3.keepG hb33 hg6' (by decide) (hE3.notBlk hb33 (by decide))
    replace hb63 := hb63.only hg6' (by omega)
    replace hw5 := hw5.only hg6' (by omega)
    (conv => whnf)
    refine Keep.mk hb63 ?_
    ((conv => whnf); (repeat ((first | (refine VC.ret ?_) | (refine VQ.cons ?_) | (refine VQ.nil ?_) | (refine VG.nil ?_)); (conv => whnf))))
    ((repeat ((fail); (conv => whnf))))
    refine VRes.op3 rfl hb36 rfl ?_
    exact ⟨U3, hd3.cell hg6' hg3n, stW.pastG hg6' (by omega), g5, A, n, c, rfl, hw5, n53, by omega, hE3⟩
  obtain ⟨p, hp⟩ : ∃ p, S.t[j]? = some p := ⟨_, List.getElem?_eq_getElem hjn⟩
  have hpm := List.mem_of_getElem? hp
  have hpn := (h.wf.t.names p hpm).2
  have htk : (S.t.take (j + 1)).foldl woStep ⟨false, 0, Kp.zero, false⟩ = woStep acc p := by rw [take_snoc hp, List.foldl_append, hacc]; rfl
  have hpu := len_used hpm
  obtain ⟨ad, u, rfl, _, hu, hcell⟩ := (Reads.row hO).at_ hjn
  obtain ⟨x', hx', rfl⟩ := map_at hu
  rw [List.getElem?_map, hp] at hx'
  obtain rfl := Option.some.inj hx'
  have hcell' : X.cell? (ad.add j) = some (.string (txt p.1)) := hcell
  ((conv => whnf); (repeat ((first | (refine VL.cons ?_) | (refine VL.nil ?_) | (refine VC.seqS rfl ?_) | (refine VC.region ?_)); (conv => whnf))))
  (repeat (first | ((first | (refine VL.cons ?_) | (refine VL.nil ?_) | (refine VC.seqS rfl ?_) | (refine VC.region ?_) | (refine VC.cond ?_) | (refine VC.block ?_) | (refine VC.skip ?_) | (refine VBool.dT (by omega) ?_) | (refine VRead.load1 (by assumption) ?_) | (refine VRead.at1 (by omega) ?_) | (refine VC.seq ?_)); (conv => whnf)) | (refine VRead.at1 hjn ?_; (conv => whnf))))
  refine VCall.of (walNumber_any p.1 X (by omega)) ?_
  rintro e X2 ⟨rfl, hB2⟩
  refine ⟨_, rfl, ?_⟩
  have hB02 := hB.trans (hB2.mono hB.size)
  replace hb3 := hb3.later hB2
  replace hb5 := hb5.later hB2
  replace hb6 := hb6.later hB2
  replace hE := hE.below hB2
  replace hO := rows_below hO hB2 (Nat.le_refl _)
  cases hN : wNum p.1 with
  | none =>
    have e1 : woStep acc p = acc := by unfold woStep; rw [hN]
    ((conv => whnf); (repeat ((first | (refine VL.cons ?_) | (refine VL.nil ?_)); (conv => whnf))))
    ((repeat ((first | (refine VL.cons ?_) | (refine VL.nil ?_) | (refine VC.seqS rfl ?_) | (refine VC.region ?_) | (refine VC.cond ?_) | (refine VC.exit ?_) | (refine VBool.t ?_) | (refine VWrap.i64 (by omega) (by omega) ?_) | (refine VC.seq ?_)); (conv => whnf))))
    exact ⟨_, by omega, j + 1, acc, A, n, c, rfl, rfl, by omega, by rw [htk, e1], hok, hb3, hb5, hb6, hE, hO, hB02⟩
  | some nn =>
    obtain ⟨_, hk1, hk2⟩ := wNum_some hN
    have hd2 := h.below hB02
    ((conv => whnf); (repeat ((first | (refine VL.cons ?_) | (refine VL.nil ?_)); (conv => whnf))))
    ((repeat ((first | (refine VL.cons ?_) | (refine VL.nil ?_) | (refine VC.seqS rfl ?_) | (refine VC.region ?_) | (refine VC.cond ?_) | (refine VC.skip ?_) | (refine VBool.f ?_) | (refine VC.seq ?_)); (conv => whnf))))
    refine VCall.of (oRead X2 U d S p.1 hd2 (by omega)) ?_
    rintro e X3 ⟨u3, rfl, hrd, hB3⟩
    refine ⟨_, rfl, ?_⟩
    unfold readR at hrd
    rw [tfind_of hris.nd (show (p.1, p.2) ∈ S.t from hpm)] at hrd
    obtain ⟨A3, k3, rfl, hO3⟩ := hrd
    ((conv => whnf); (repeat ((first | (refine VL.cons ?_) | (refine VL.nil ?_) | (refine VC.seqS rfl ?_) | (refine VC.region ?_)); (conv => whnf))))
    ((repeat ((fail); (conv => whnf))))
    refine VCall.of (walRead_any A3 p.2.b.length k3 p.2.b X3 (by omega) hO3.cap hO3.reads) ?_
    rintro e X4 ⟨⟨v4, rfl, hV4⟩, hB4⟩
    refine ⟨_, rfl, ?_⟩
    have hB24 : Below X2.heap.size X2 X4 := hB3.trans (hB4.mono hB3.size)
    have hB04 := hB02.trans (hB24.mono hB02.size)
    have u24 := hB24.size
    have u02 := hB02.size
    have hX3 : W.heap.size ≤ X3.heap.size := Nat.le_trans hB02.size hB3.size
    have u23 := hB3.size
    have g5l := hb5.lt
    have g6l := hb6.lt
    replace hb3 := hb3.later hB24
    replace hb5 := hb5.later hB24
    replace hb6 := hb6.later hB24
    replace hE := hE.below hB24
    replace hO := rows_below hO hB24 (Nat.le_refl _)
    cases hs : readW p.2.b with
    | none =>
      have e1 : woStep acc p = { acc with some_ := true } := by unfold woStep; rw [hN]; simp only; rw [hs]
      rw [hs] at hV4
      have hv4 : v4 = .tuple #[.agg (kC Kp.zero none 0 0), .bool false, .bool false] := hV4
      subst hv4
      ((conv => whnf); (repeat ((first | (refine VL.cons ?_)); (conv => whnf))))
      ((repeat ((fail); (conv => whnf))))
      refine VSem.allocZ (z := .agg (kC Kp.zero none 0 0)) (by kernel_rfl) ?_
      intro X5 q hq hqe hql hB5
      ((conv => whnf); (repeat ((first | (refine VL.cons ?_)); (conv => whnf))))
      ((repeat ((fail); (conv => whnf))))
      refine VUnit.storeAB hq rfl rfl rfl (by simp [kC, Kp.zero, Value.oneCell']) ?_
      intro X6 hq6 hg6
      have hB46 : Below X4.heap.size X4 X6 := only_new hB5 hg6 (by omega) (by omega)
      have hB06 := hB04.trans (hB46.mono hB04.size)
      ((conv => whnf); (repeat ((first | (refine VL.cons ?_) | (refine VL.nil ?_) | (refine VC.seqS rfl ?_) | (refine VC.region ?_) | (refine VC.cond ?_)); (conv => whnf))))
      ((repeat ((first | (refine VL.cons ?_) | (refine VL.nil ?_) | (refine VC.region ?_) | (refine VC.skip ?_) | (refine VBool.f ?_) | (refine VWrap.i64 (by omega) (by omega) ?_)); (conv => whnf))))
      exact ⟨_, by omega, j + 1, { acc with some_ := true }, A, n, c, rfl, rfl, by omega, by rw [htk, e1], ⟨hok.n, hok.b, hok.l⟩, hb3.later hB46, hb5.later hB46, hb6.later hB46, hE.below hB46, rows_below hO hB46 (Nat.le_refl _), hB06⟩
    | some kp =>
      rw [hs] at hV4
      obtain ⟨A5, n5, c5, rfl, hE5⟩ := hV4
      obtain ⟨hbk, hlk⟩ := readW_ok hs
      have e1 : woStep acc p = ⟨true, nn, kp, isWhole p.2.b⟩ := by unfold woStep; rw [hN]; simp only; rw [hs]
      ((conv => whnf); (repeat ((first | (refine VL.cons ?_)); (conv => whnf))))
      ((repeat ((fail); (conv => whnf))))
      refine VSem.allocZ (z := .agg (kC Kp.zero none 0 0)) (by kernel_rfl) ?_
      intro X5 q hq hqe hql hB5
      ((conv => whnf); (repeat ((first | (refine VL.cons ?_)); (conv => whnf))))
      ((repeat ((fail); (conv => whnf))))
      refine VUnit.storeAB hq rfl rfl rfl (by simp [kC, Value.oneCell']) ?_
      intro X6 hq6 hg6
      rw [setFrom_allW (vs := kC kp A5 n5 c5) (by rfl)] at hq6
      replace hq6 : Blk X6 q 50 (kC kp A5 n5 c5) := hq6
      have hB46 : Below X4.heap.size X4 X6 := only_new hB5 hg6 (by omega) (by omega)
      have hB06 := hB04.trans (hB46.mono hB04.size)
      have hb5l := hb5.lt
      have hb6l := hb6.lt
      have hb3l := hb3.lt
      replace hb3 := hb3.later hB46
      replace hb5 := hb5.later hB46
      replace hb6 := hb6.later hB46
      replace hO := rows_below hO hB46 (Nat.le_refl _)
      replace hE5 := hE5.below hB46
      have hE7 : Below X6.heap.size X6 (X6.drewN 1) := below_drewN (Below.refl _ _) 1
      replace hb3 := hb3.later hE7
      replace hb5 := hb5.later hE7
      replace hb6 := hb6.later hE7
      replace hq6 := hq6.later hE7
      replace hO := rows_below hO hE7 (Nat.le_refl _)
      replace hE5 := hE5.below hE7
      have hB07 := hB06.trans (hE7.mono hB06.size)
      ((conv => whnf); (repeat ((first | (refine VL.cons ?_) | (refine VL.nil ?_) | (refine VC.seqS rfl ?_) | (refine VC.region ?_) | (refine VC.cond ?_)); (conv => whnf))))
      ((repeat ((first | (refine VC.draw ?_) | (refine VBool.t ?_)); (conv => whnf))))
      refine VDraw.seg (fun Y => Blk Y q 50 (kC kp A5 n5 c5)) [([0, 1, 2, 3, 4, 5], 6), ([], 7)] [8] (by kernel_rfl) (by kernel_rfl) hq6 ?_
      generalize X6.drewN 1 = X7 at *
      (conv => whnf)
      (repeat ((first | (refine VRead.loadAB (fun Y hY => hY) rfl rfl ?_) | (refine VQ.cons ?_) | (refine VQ.nil ?_) | (refine VG.cons ?_) | (refine VRead.fld ?_)); (conv => whnf)))
      refine VUnit.storeB hb5 rfl rfl rfl ?_
      intro X8 hb58 hg8
      replace hb58 : Blk X8 g5 82 (wlC d ⟨nn, 0, 0⟩) := hb58
      replace hO := rows_apart hO hg8 (fun q' e hq' => by have h1 := (World.ownsRow.lt hO q' hq').1; have h2 : g5 = q' := by { injection e }; omega)
      replace hE5 := hE5.keepG hb5 hg8 (by decide) (fun e => by have := (hE5.lt e).2; omega)
      replace hb3 := hb3.only hg8 (by omega)
      replace hb6 := hb6.only hg8 (by omega)
      replace hq6 := hq6.only hg8 (by omega)
      have hB08 : Below W.heap.size W X8 := only_new hB07 hg8 (by omega) hB07.size
      (conv => whnf)
      refine Keep.mk hq6 ?_
      (conv => whnf)
      ((repeat ((first | (refine VQ.nil ?_) | (refine VG.cons ?_)); (conv => whnf))))
      refine VUnit.storeAB hb6 rfl rfl rfl (by simp [kC, Value.oneCell']) ?_
      intro X9 hb69 hg9
      rw [setFrom_allW (vs := kC kp A5 n5 c5) (by rfl)] at hb69
      replace hO := rows_apart hO hg9 (fun q' e hq' => by have h1 := (World.ownsRow.lt hO q' hq').1; have h2 : g6 = q' := by { injection e }; omega)
      replace hE5 := hE5.keepG hb6 hg9 (by decide) (fun e => by have := (hE5.lt e).2; omega)
      replace hb3 := hb3.only hg9 (by omega)
      replace hb58 := hb58.only hg9 (by omega)
      replace hq6 := hq6.only hg9 (by omega)
      have hB09 : Below W.heap.size W X9 := only_new hB08 hg9 (by omega) hB08.size
      (conv => whnf)
      refine Keep.mk hq6 ?_
      (conv => whnf)
      ((repeat ((first | (refine VL.cons ?_) | (refine VL.nil ?_) | (refine VC.region ?_) | (refine VQ.cons ?_) | (refine VQ.nil ?_) | (refine VG.nil ?_) | (refine VWrap.i64 (by omega) (by omega) ?_)); (conv => whnf))))
      exact ⟨_, by omega, j + 1, ⟨true, nn, kp, isWhole p.2.b⟩, A5, n5, c5, rfl, rfl, by omega, by rw [htk, e1], ⟨by omega, hbk, by simp only; omega⟩, hb3, hb58, hb69, hE5.more (by omega) (fun j _ hj => by have : X3.heap.size ≤ j := hj; show W.heap.size ≤ j; omega), hO, hB09⟩
end Go.Proofs.YtebeidnmplnlpaaGreat
end

section
set_option maxRecDepth 10000
namespace Go.Proofs.YtebeidnmplnlpaaGreat
set_option linter.unusedVariables false
open Go.RowKit

end Go.Proofs.YtebeidnmplnlpaaGreat
end

section
set_option maxRecDepth 10000
namespace Go.Proofs.YtebeidnmplnlpaaGreat
set_option linter.unusedVariables false
open Go.RowKit

theorem walLast_any (W : World) (g d : Nat) (wl : WlS) (hw : Blk W g 82 (wlC d wl)) : Calls Tryz.prog 34 #[.pointer (some ⟨g, 0, none⟩)] W fun e W' => e = .returned (.int .i64 wl.last) ∧ W' = W := by
  refine calls_vc Tryz.func34 rfl (by kernel_rfl) ?_
  ((conv => whnf); (repeat ((first | (refine VL.cons ?_) | (refine VL.nil ?_) | (refine VC.seqS rfl ?_) | (refine VC.region ?_)); (conv => whnf))))
  (repeat (first | ((first | (refine VL.cons ?_) | (refine VL.nil ?_) | (refine VC.ret ?_) | (refine VRead.fld ?_)); (conv => whnf)) | (refine VRead.loadB hw rfl rfl ?_; (conv => whnf))))
  exact ⟨rfl, rfl⟩
end Go.Proofs.YtebeidnmplnlpaaGreat
end

section
set_option maxRecDepth 10000
namespace Go.Proofs.YtebeidnmplnlpaaGreat
set_option linter.unusedVariables false
open Go.RowKit

theorem sameTexts_any (A B : Option Addr) (n c m k : Nat) (l l2 : List (List UInt8)) (w : World) (h1 : Reads w w.heap.size 1 A n (l.map encStr)) (h2 : Reads w w.heap.size 1 B m (l2.map encStr)) (hn : n ≤ 1000000000) :
    Calls Tryz.prog 37 #[.slice A n c, .slice B m k] w fun e w' => e = .returned (.bool (decide (l = l2))) ∧ Below w.heap.size w w' := by
  have hl : l.length = n := by have := h1.1; simp at this; omega
  have hl2 : l2.length = m := by have := h2.1; simp at this; omega
  refine calls_vc Tryz.func37 rfl (by kernel_rfl) ?_
  by_cases hnm : n = m
  case neg =>
    rw [decide_eq_false (p := l = l2) (fun e => hnm (by rw [← hl, ← hl2, e]))]
    ((conv => whnf); (repeat ((first | (refine VL.cons ?_) | (refine VL.nil ?_) | (refine VC.seqS rfl ?_) | (refine VC.region ?_)); (conv => whnf))))
    ((repeat ((first | (refine VL.cons ?_) | (refine VL.nil ?_) | (refine VC.seqS rfl ?_) | (refine VC.region ?_) | (refine VC.cond ?_) | (refine VC.ret ?_) | (refine VBool.nF (by omega) ?_) | (refine VRead.lenS ?_) | (refine VC.seq ?_)); (conv => whnf))))
    exact ⟨rfl, Below.refl _ _⟩
  subst hnm
  ((conv => whnf); (repeat ((first | (refine VL.cons ?_) | (refine VL.nil ?_) | (refine VC.seqS rfl ?_) | (refine VC.region ?_)); (conv => whnf))))
  ((repeat ((first | (refine VL.cons ?_) | (refine VL.nil ?_) | (refine VC.seqS rfl ?_) | (refine VC.region ?_) | (refine VC.cond ?_) | (refine VC.block ?_) | (refine VC.skip ?_) | (refine VBool.nT (by omega) ?_) | (refine VRead.lenS ?_) | (refine VC.seq ?_)); (conv => whnf))))
  refine VC.loop [5] [(4, 5), (11, 25)] (fun q vs W => ∃ i : Nat, vs = [.int .i64 (i : Int)] ∧ q = n - i ∧ i ≤ n ∧ l.take i = l2.take i ∧ ∃ N, W = w.drewN N) (by kernel_rfl) ⟨_, 0, rfl, rfl, by omega, by simp, 0, rfl⟩ ?_
  rintro q τ vs W ⟨i, rfl, rfl, hi, heq, N, rfl⟩
  have hB : Below w.heap.size w (w.drewN N) := below_drewN (Below.refl _ _) N
  by_cases hlt : i < n
  · obtain ⟨a1, u1, rfl, _, hu1, hc1⟩ := h1.at_ hlt
    obtain ⟨a2, u2, rfl, _, hu2, hc2⟩ := h2.at_ hlt
    obtain ⟨x, hx, rfl⟩ := map_at hu1
    obtain ⟨y, hy, rfl⟩ := map_at hu2
    have hc1' : ((w.drewN N).drewN 1).cell? (a1.add i) = some (encStr x) := hc1
    have hc2' : ((w.drewN N).drewN 1).cell? (a2.add i) = some (encStr y) := hc2
    by_cases hxy : x = y
    · subst hxy
      ((conv => whnf); (repeat ((fail); (conv => whnf))))
      ((repeat ((first | (refine VL.cons ?_) | (refine VL.nil ?_) | (refine VC.seqS rfl ?_) | (refine VC.region ?_) | (refine VC.draw ?_) | (refine VC.cond ?_) | (refine VC.block ?_) | (refine VC.skip ?_) | (refine VBool.dT (by omega) ?_) | (refine VRead.lenS ?_) | (refine VC.seq ?_)); (conv => whnf))))
      (refine VDraw.seg (Eq (World.drewN _ 1)) [] [0, 1, 2, 3, 4, 5, 6, 7, 8] (by kernel_rfl) (by kernel_rfl) rfl ?_; (conv => whnf))
      ((repeat ((first | (refine VL.cons ?_) | (refine VL.nil ?_) | (refine VC.region ?_) | (refine VC.cond ?_) | (refine VC.skip ?_) | (refine VQ.cons ?_) | (refine VQ.nil ?_) | (refine VG.nil ?_) | (refine VRead.load1 (by assumption) ?_) | (refine VBool.nT rfl ?_) | (refine VWrap.i64 (by omega) (by omega) ?_) | (refine VRead.at1 (by omega) ?_)); (conv => whnf))))
      exact ⟨_, by omega, i + 1, rfl, rfl, by omega, by rw [take_snoc hx, take_snoc hy, heq], N + 1, rfl⟩
    · rw [decide_eq_false (p := l = l2) (fun e => hxy (by rw [e, hy] at hx; exact (Option.some.inj hx).symm))]
      have hne : ¬ (⟨x.toArray⟩ : ByteArray) = ⟨y.toArray⟩ := fun h => hxy (txt_inj.1 h)
      ((conv => whnf); (repeat ((fail); (conv => whnf))))
      ((repeat ((first | (refine VL.cons ?_) | (refine VL.nil ?_) | (refine VC.seqS rfl ?_) | (refine VC.region ?_) | (refine VC.draw ?_) | (refine VC.cond ?_) | (refine VC.block ?_) | (refine VC.skip ?_) | (refine VBool.dT (by omega) ?_) | (refine VRead.lenS ?_) | (refine VC.seq ?_)); (conv => whnf))))
      (refine VDraw.seg (Eq (World.drewN _ 1)) [] [0, 1, 2, 3, 4, 5, 6, 7, 8] (by kernel_rfl) (by kernel_rfl) rfl ?_; (conv => whnf))
      (repeat (first | ((first | (refine VL.cons ?_) | (refine VL.nil ?_) | (refine VC.seqS rfl ?_) | (refine VC.region ?_) | (refine VC.cond ?_) | (refine VC.ret ?_) | (refine VQ.cons ?_) | (refine VQ.nil ?_) | (refine VG.nil ?_) | (refine VBool.nF (by omega) ?_) | (refine VRead.load1 (by assumption) ?_) | (refine VRead.at1 (by omega) ?_)); (conv => whnf)) | (refine VBool.nF hne ?_; (conv => whnf))))
      exact ⟨rfl, below_drewN hB 1⟩
  · obtain rfl : i = n := by omega
    rw [List.take_of_length_le (by omega), List.take_of_length_le (by omega)] at heq
    rw [decide_eq_true (p := l = l2) heq]
    ((conv => whnf); (repeat ((fail); (conv => whnf))))
    ((repeat ((first | (refine VL.cons ?_) | (refine VL.nil ?_) | (refine VC.seqS rfl ?_) | (refine VC.region ?_) | (refine VC.cond ?_) | (refine VC.exit ?_) | (refine VC.ret ?_) | (refine VBool.dF (by omega) ?_) | (refine VRead.lenS ?_) | (refine VC.seq ?_)); (conv => whnf))))
    exact ⟨rfl, hB⟩
end Go.Proofs.YtebeidnmplnlpaaGreat
end

section
set_option maxRecDepth 10000
namespace Go.Proofs.YtebeidnmplnlpaaGreat
set_option linter.unusedVariables false
open Go.RowKit

theorem wopen_last {S : DS} {y : WlS × Kp} (h : (S.wopen).2 = some y) : y.1.last = y.2.base + y.2.es.length := by
  unfold DS.wopen at h
  split at h
  · cases h
  · simp only at h
    split at h
    · rename_i h1 h2
      injection h with h
      subst h
      simp only
      unfold DS.wend at h2
      generalize wScan S.t = c at *
      by_cases hw : c.whole = true
      · have e : S.wnext c = (S.sync (wName c.n), c.wl) := by unfold DS.wnext; rw [if_pos hw]
        rw [e]
        rfl
      · have e : S.wnext c = S.wanew c.wl c.k := by unfold DS.wnext; rw [if_neg hw]
        rw [e] at h2 ⊢
        by_cases h0 : (S.wanew c.wl c.k).1.1 = 0
        case neg => rw [andT_no h0] at h2; exact absurd h2 h0
        unfold DS.wanew at h0 ⊢
        split
        · rename_i h1; rw [if_pos h1] at h0; exact absurd h0 (by decide : ¬ (1 : Int) = 0)
        · rename_i h1
          rw [if_neg h1] at h0
          split
          · rename_i h2; rw [if_pos h2] at h0; exact absurd h0 (by decide : ¬ (2 : Int) = 0)
          · rename_i h2
            rw [if_neg h2] at h0
            simp only at h0 ⊢
            split
            · rename_i h3; rw [if_pos h3] at h0; exact absurd h0 h3
            · split
              · rfl
              · rfl
    · cases h
set_option maxHeartbeats 2000000 in
theorem told_any (k : Kp) (A1 A2 : Option Addr) (n1 c1 n2 c2 : Nat) (V1 V2 : Foot) (w : World) (h1 : EnAt w V1 A1 n1 k.es) (h2 : EnAt w V2 A2 n2 k.es) (hn : n1 ≤ 16777216) :
    Calls Tryz.prog 33 #[.agg (kC k A1 n1 c1), .agg (kC k A2 n2 c2)] w fun e w' => e = .returned (.bool true) ∧ Below w.heap.size w w' := by
  refine calls_vc Tryz.func33 rfl (by kernel_rfl) ?_
  ((conv => whnf); (repeat ((first | (refine VL.cons ?_) | (refine VC.seqS rfl ?_) | (refine VC.region ?_)); (conv => whnf))))
  ((repeat ((fail); (conv => whnf))))
  refine VSem.boxB ?_
  intro w1 g2 hb2 hg2 hl2 hB1
  replace hb2 : Blk w1 g2 50 (kC k A1 n1 c1) := hb2
  ((conv => whnf); (repeat ((first | (refine VL.cons ?_)); (conv => whnf))))
  ((repeat ((fail); (conv => whnf))))
  refine VSem.boxB ?_
  intro w2 g3 hb3 hg3 hl3 hB2
  replace hb3 : Blk w2 g3 72 (kC k A2 n2 c2) := hb3
  replace hb2 := hb2.later hB2
  have hB02 := hB1.trans (hB2.mono hB1.size)
  ((conv => whnf); (repeat ((first | (refine VL.cons ?_) | (refine VL.nil ?_) | (refine VC.seqS rfl ?_) | (refine VC.region ?_)); (conv => whnf))))
  (repeat ((first | (refine VRead.loadB hb2 rfl rfl ?_) | (refine VRead.loadB hb3 rfl rfl ?_) | (refine VL.cons ?_) | (refine VBool.t ?_) | (refine VBool.dT (by omega) ?_) | (refine VRead.fld ?_)); (conv => whnf)))
  refine VCall.of (sameEntriesW_any k.es k.es A1 A2 n1 c1 n2 c2 V1 V2 w2 (h1.below hB02) (h2.below hB02) (by omega)) ?_
  rintro e w3 ⟨rfl, hB3⟩
  refine ⟨_, rfl, ?_⟩
  rw [decide_eq_true (p := k.es = k.es) rfl]
  ((conv => whnf); (repeat ((first | (refine VL.cons ?_) | (refine VL.nil ?_) | (refine VC.ret ?_)); (conv => whnf))))
  ((repeat ((fail); (conv => whnf))))
  exact ⟨rfl, hB02.trans (hB3.mono hB02.size)⟩
def onC (d r : Nat) (p q : Option Addr) : Array Value := #[.pointer (some ⟨d, 0, none⟩), .pointer p, .pointer (some ⟨r, 0, none⟩), .pointer q]
/-- both disks and the struct that holds them -/
structure OnS (W : World) (d r o : Nat) (p q : Option Addr) (U V : Foot) (S1 S2 : DS) (X : World) : Prop where
  D : Dsk X U d S1
  R : Rsk X V r S2
  bU : ∀ j, U j → W.heap.size ≤ j
  bV : ∀ j, V j → W.heap.size ≤ j
  ap : ∀ j, U j → ¬ V j
  blk : Blk X o 32 (onC d r p q)
  oU : ¬ U o
  oV : ¬ V o
  bo : W.heap.size ≤ o
  be : Below W.heap.size W X
section
variable {W X X1 : World} {d r o : Nat} {p q p' q' : Option Addr} {U V U1 V1 : Foot} {S1 S2 S' : DS}
theorem OnS.e (h : OnS W d r o p q U V S1 S2 X) (hd : Dsk X1 U1 d S') (st : Step X U X1 U1) : OnS W d r o p q U1 V S' S2 X1 := by
  obtain ⟨h1, h2, h3, h4, h5, h6, h7, h8, h9, h10⟩ := h
  obtain ⟨r1, r2⟩ := h2.apart st (fun j hj hu => h5 j hu hj)
  obtain ⟨b1, b2⟩ := st.blk h6 h7
  exact ⟨hd, r1, st.min h3 h10.size, h4, fun j hj hv => r2 j hv hj, b1, b2, h8, h9, h10.trans (st.below h3 h10.size)⟩
theorem OnS.rr (h : OnS W d r o p q U V S1 S2 X) (hr : Rsk X1 V1 r S') (st : Step X V X1 V1) : OnS W d r o p q U V1 S1 S' X1 := by
  obtain ⟨h1, h2, h3, h4, h5, h6, h7, h8, h9, h10⟩ := h
  obtain ⟨r1, r2⟩ := h1.apart st h5
  obtain ⟨b1, b2⟩ := st.blk h6 h8
  exact ⟨r1, hr, h3, st.min h4 h10.size, r2, b1, h7, b2, h9, h10.trans (st.below h4 h10.size)⟩
theorem OnS.later (h : OnS W d r o p q U V S1 S2 X) (hb : Below X.heap.size X X1) : OnS W d r o p q U V S1 S2 X1 := by
  obtain ⟨h1, h2, h3, h4, h5, h6, h7, h8, h9, h10⟩ := h
  exact ⟨h1.below hb, h2.below hb, h3, h4, h5, h6.later hb, h7, h8, h9, h10.trans (hb.mono h10.size)⟩
theorem OnS.set (h : OnS W d r o p q U V S1 S2 X) (hg : X.grownBy X1 (some o)) (hb : Blk X1 o 32 (onC d r p' q')) : OnS W d r o p' q' U V S1 S2 X1 := by
  obtain ⟨h1, h2, h3, h4, h5, h6, h7, h8, h9, h10⟩ := h
  exact ⟨h1.cell hg h7, h2.cell hg h8, h3, h4, h5, hb, h7, h8, h9, only_new h10 hg h9 h10.size⟩
end
set_option maxHeartbeats 4000000 in
theorem on_same_any (W X : World) (d r o : Nat) (p q : Option Addr) (U V : Foot) (S : DS) (h : OnS W d r o p q U V S S X) :
    Calls Tryz.prog 17 #[.pointer (some ⟨o, 0, none⟩)] X fun e X' => e = .returned (.bool true) ∧ Below X.heap.size X X' := by
  obtain ⟨hD, hR, _, _, _, hO, _, _, _, _⟩ := h
  have hfew := hD.wf.t.few
  have hris := hD.wf.t.ris
  obtain ⟨_, A, c, xs, hRA⟩ := id hR.ref
  have hb : Blk X r 47 #[.slice A S.t.length c, .int .i64 S.k.room, .int .i64 S.k.calls, .bool S.k.armed, .int .i64 S.k.kind, .int .i64 S.k.after, .bool S.k.off] := hRA.blk
  refine calls_vc Tryz.func17 rfl (by kernel_rfl) ?_
  ((conv => whnf); (repeat ((first | (refine VL.cons ?_) | (refine VL.nil ?_) | (refine VC.seqS rfl ?_) | (refine VC.region ?_)); (conv => whnf))))
  (repeat (first | ((first | (refine VL.cons ?_) | (refine VRead.fld ?_)); (conv => whnf)) | (refine VRead.loadB hO rfl rfl ?_; (conv => whnf))))
  refine VCall.of (oList X U d S hD) ?_
  rintro e X1 ⟨A1, k1, rfl, hO1, hB1⟩
  refine ⟨_, rfl, ?_⟩
  have hS0 : Below X.heap.size X (X1.drewN 1) := below_drewN hB1 1
  have kB : ∀ Y, Below X.heap.size X Y → Blk Y r 47 #[.slice A S.t.length c, .int .i64 S.k.room, .int .i64 S.k.calls, .bool S.k.armed, .int .i64 S.k.kind, .int .i64 S.k.after, .bool S.k.off] := fun Y hY => hb.below hY hb.lt
  have kO : ∀ Y, Below X.heap.size X Y → Blk Y o 32 (onC d r p q) := fun Y hY => hO.later hY
  have hd1 : Below X1.heap.size X1 (X1.drewN 1) := below_drewN (Below.refl _ _) 1
  replace hO1 := rows_below hO1 hd1 (Nat.le_refl _)
  ((conv => whnf); (repeat ((first | (refine VL.cons ?_) | (refine VL.nil ?_)); (conv => whnf))))
  ((repeat ((first | (refine VC.draw ?_) | (refine VC.seq ?_)); (conv => whnf))))
  refine VDraw.seg (fun Y => Below X.heap.size X Y) [([0, 1, 2, 3, 4], 5), ([], 6), ([7, 8, 9, 10, 11, 12, 14, 15, 16, 17, 18, 19, 20], 13)] [21, 22] (by kernel_rfl) (by kernel_rfl) hS0 ?_
  generalize X1.drewN 1 = Y1 at *
  (conv => whnf)
  (repeat ((first | (refine VRead.loadBS kO rfl rfl ?_) | (refine VQ.cons ?_) | (refine VQ.nil ?_) | (refine VG.cons ?_) | (refine VRead.fld ?_)); (conv => whnf)))
  refine VCall.of (pList Y1 V r S (hR.below hS0)) ?_
  rintro e X2 ⟨A2, k2, rfl, hO2, hB2⟩
  refine ⟨_, rfl, ?_⟩
  have hS2 := hS0.trans (hB2.mono hS0.size)
  have hO12 := rows_below hO1 hB2 (Nat.le_refl _)
  (conv => whnf)
  refine Keep.mk hS2 ?_
  (conv => whnf)
  ((repeat ((first | (refine VQ.nil ?_) | (refine VG.cons ?_)); (conv => whnf))))
  refine VCall.of (sameTexts_any A1 A2 _ k1 _ k2 (S.t.map (·.1)) (S.t.map (·.1)) X2 (Reads.row hO12) (Reads.row hO2) (by omega)) ?_
  rintro e X3 ⟨rfl, hB3⟩
  refine ⟨_, rfl, ?_⟩
  rw [decide_eq_true rfl]
  have hS3 := hS2.trans (hB3.mono hS2.size)
  have hO13 := rows_below hO12 hB3 (Nat.le_refl _)
  (conv => whnf)
  refine Keep.mk hS3 ?_
  (conv => whnf)
  (repeat ((first | (refine VRead.loadBS kO rfl rfl ?_) | (refine VRead.loadBS kB rfl rfl ?_) | (refine VQ.cons ?_) | (refine VQ.nil ?_) | (refine VG.cons ?_) | (refine VBool.f ?_) | (refine VRead.fld ?_)); (conv => whnf)))
  refine VCall.of (oCalls X3 U d S (hD.below hS3)) ?_
  rintro e X3' ⟨rfl, eW⟩
  obtain rfl := eW.symm
  refine ⟨_, rfl, ?_⟩
  (conv => whnf)
  refine Keep.mk hS3 ?_
  (conv => whnf)
  ((repeat ((first | (refine VL.cons ?_) | (refine VL.nil ?_) | (refine VC.seqS rfl ?_) | (refine VC.region ?_) | (refine VC.cond ?_) | (refine VC.block ?_) | (refine VC.skip ?_) | (refine VQ.cons ?_) | (refine VQ.nil ?_) | (refine VG.nil ?_) | (refine VBool.f ?_) | (refine VBool.nT (by omega) ?_) | (refine VC.seq ?_)); (conv => whnf))))
  refine VC.loop [4] [(2, 2), (4, 8), (37, 71)] (fun q vs w => ∃ i : Nat, vs = [.int .i64 (i : Int)] ∧ q = S.t.length - i ∧ i ≤ S.t.length ∧ Below X.heap.size X w ∧ w.ownsRow X.heap.size 9 1 (.slice A1 S.t.length k1) S.t.length ((S.t.map (·.1)).map encStr)) (by kernel_rfl) ⟨_, 0, rfl, rfl, by omega, hS3, hO13⟩ ?_
  clear hO1 hO12 hO13 hO2 hS2 hS3 hB2 hB3 hS0 hB1 hd1
  rintro m τ vs w ⟨i, rfl, rfl, hi, hBw, hOw⟩
  by_cases hlt : i < S.t.length
  case neg =>
    ((conv => whnf); (repeat ((fail); (conv => whnf))))
    ((repeat ((first | (refine VL.cons ?_) | (refine VL.nil ?_) | (refine VC.seqS rfl ?_) | (refine VC.region ?_) | (refine VC.cond ?_) | (refine VC.exit ?_) | (refine VC.ret ?_) | (refine VBool.dF (by omega) ?_) | (refine VRead.lenS ?_) | (refine VC.seq ?_)); (conv => whnf))))
    exact ⟨rfl, hBw⟩
  obtain ⟨z, hz⟩ : ∃ z, S.t[i]? = some z := ⟨_, List.getElem?_eq_getElem hlt⟩
  have hpm := List.mem_of_getElem? hz
  have hpn := (hD.wf.t.names z hpm).2
  obtain ⟨ad, u, rfl, had, hu, hcell⟩ := (Reads.row hOw).at_ hlt
  obtain ⟨x', hx', rfl⟩ := map_at hu
  rw [List.getElem?_map, hz] at hx'
  obtain rfl := Option.some.inj hx'
  have hcell' : w.cell? (ad.add i) = some (.string (txt z.1)) := hcell
  have hc1 : ∀ Y, Below w.heap.size w Y → Y.cell? (ad.add i) = some (.string (txt z.1)) := fun Y hY => (World.cell?_of_block (by rw [adb]; exact hY.block _ had)).trans hcell'
  have kw : ∀ Y, Below w.heap.size w Y → Blk Y o 32 (onC d r p q) := fun Y hY => kO Y (hBw.trans (hY.mono hBw.size))
  have hw1 : Below w.heap.size w (w.drewN 1) := below_drewN (Below.refl _ _) 1
  ((conv => whnf); (repeat ((fail); (conv => whnf))))
  ((repeat ((first | (refine VL.cons ?_) | (refine VL.nil ?_) | (refine VC.seqS rfl ?_) | (refine VC.region ?_) | (refine VC.draw ?_) | (refine VC.cond ?_) | (refine VC.block ?_) | (refine VC.skip ?_) | (refine VBool.dT (by omega) ?_) | (refine VRead.lenS ?_) | (refine VC.seq ?_)); (conv => whnf))))
  refine VDraw.seg (fun Y => Below w.heap.size w Y) [([0, 1, 2, 3, 4, 5, 6, 7], 8)] [9, 10, 11, 12, 13] (by kernel_rfl) (by kernel_rfl) hw1 ?_
  generalize w.drewN 1 = w1 at *
  (conv => whnf)
  (repeat ((first | (refine VRead.loadBS kw rfl rfl ?_) | (refine VRead.at1 hlt ?_) | (refine VRead.load hc1 ?_) | (refine VQ.cons ?_) | (refine VQ.nil ?_) | (refine VG.cons ?_) | (refine VRead.fld ?_)); (conv => whnf)))
  have hBw1 := hBw.trans (hw1.mono hBw.size)
  refine VCall.of (oRead w1 U d S z.1 (hD.below hBw1) (by omega)) ?_
  rintro e w2 ⟨v, rfl, hv, hb2⟩
  have hw2 := hw1.trans (hb2.mono hw1.size)
  have hBw2 := hBw.trans (hw2.mono hBw.size)
  unfold readR at hv
  rw [tfind_of hris.nd (show (z.1, z.2) ∈ S.t from hpm)] at hv
  obtain ⟨A5, k5, rfl, hO5⟩ := hv
  refine ⟨_, rfl, ?_⟩
  (conv => whnf)
  refine Keep.mk hw2 ?_
  have hw3 : Below w.heap.size w (w2.drewN 1) := below_drewN hw2 1
  have hd3 : Below w2.heap.size w2 (w2.drewN 1) := below_drewN (Below.refl _ _) 1
  replace hO5 := rows_below hO5 hd3 (Nat.le_refl _)
  ((conv => whnf); (repeat ((first | (refine VQ.cons ?_) | (refine VQ.nil ?_) | (refine VG.nil ?_)); (conv => whnf))))
  ((repeat ((first | (refine VC.draw ?_) | (refine VC.seq ?_)); (conv => whnf))))
  refine VDraw.seg (fun Y => Below w.heap.size w Y) [([0, 1, 2, 3, 4, 5, 6, 7], 8)] [9, 10, 11, 12, 13] (by kernel_rfl) (by kernel_rfl) hw3 ?_
  generalize w2.drewN 1 = w3 at *
  (conv => whnf)
  (repeat ((first | (refine VRead.loadBS kw rfl rfl ?_) | (refine VRead.at1 hlt ?_) | (refine VRead.load hc1 ?_) | (refine VQ.cons ?_) | (refine VQ.nil ?_) | (refine VG.cons ?_) | (refine VRead.fld ?_)); (conv => whnf)))
  have hBw3 := hBw.trans (hw3.mono hBw.size)
  refine VCall.of (pRead w3 V r S z.1 (hR.below hBw3)) ?_
  rintro e w4 ⟨v2, rfl, hv2, hb4⟩
  have hw4 := hw3.trans (hb4.mono hw3.size)
  unfold readR at hv2
  rw [tfind_of hris.nd (show (z.1, z.2) ∈ S.t from hpm)] at hv2
  obtain ⟨A6, k6, rfl, hO6⟩ := hv2
  refine ⟨_, rfl, ?_⟩
  have hO53 := rows_below hO5 hb4 (Nat.le_refl _)
  have hO4' := rows_below hOw hw4 (Nat.le_refl _)
  (conv => whnf)
  refine Keep.mk hw4 ?_
  ((conv => whnf); (repeat ((first | (refine VL.cons ?_) | (refine VC.seqS rfl ?_) | (refine VC.region ?_) | (refine VQ.cons ?_) | (refine VQ.nil ?_) | (refine VG.nil ?_)); (conv => whnf))))
  ((repeat ((fail); (conv => whnf))))
  refine VSem.convT (Own.reads hO53) ?_
  ((conv => whnf); (repeat ((first | (refine VL.cons ?_)); (conv => whnf))))
  ((repeat ((fail); (conv => whnf))))
  refine VSem.convT (Own.reads hO6) ?_
  ((conv => whnf); (repeat ((first | (refine VL.cons ?_) | (refine VL.nil ?_) | (refine VC.cond ?_)); (conv => whnf))))
  ((repeat ((first | (refine VL.cons ?_) | (refine VL.nil ?_) | (refine VC.region ?_) | (refine VC.skip ?_) | (refine VBool.nT rfl ?_) | (refine VWrap.i64 (by omega) (by omega) ?_)); (conv => whnf))))
  exact ⟨_, by omega, i + 1, rfl, rfl, by omega, hBw.trans (hw4.mono hBw.size), hO4'⟩
set_option maxHeartbeats 4000000 in
theorem on_open_any (W X : World) (d r o : Nat) (p q : Option Addr) (U V : Foot) (S : DS) (h : OnS W d r o p q U V S S X) (hc : S.k.calls + 200 < 1000000) :
    Calls Tryz.prog 16 #[.pointer (some ⟨o, 0, none⟩)] X fun e X' => e = .returned (.bool true) ∧ ∃ p' q' U' V', OnS W d r o p' q' U' V' (S.wopen).1.2 (S.wopen).1.2 X' := by
  have hO := h.blk
  have hxs := h.be.size
  refine calls_vc Tryz.func16 rfl (by kernel_rfl) ?_
  ((conv => whnf); (repeat ((first | (refine VL.cons ?_) | (refine VL.nil ?_) | (refine VC.seqS rfl ?_) | (refine VC.region ?_)); (conv => whnf))))
  (repeat (first | ((first | (refine VL.cons ?_) | (refine VRead.fld ?_)); (conv => whnf)) | (refine VRead.loadB hO rfl rfl ?_; (conv => whnf))))
  refine VCall.of (walOpenN_any X U d S h.D hc) ?_
  rintro e X1 ⟨U1, hd1, st1, hN⟩
  have h1 := h.e hd1 st1
  have hsz1 := st1.size
  cases hy : (S.wopen).2 with
  | none =>
    rw [hy] at hN
    obtain rfl : e = _ := hN
    refine ⟨_, rfl, ?_⟩
    ((conv => whnf); (repeat ((first | (refine VL.cons ?_)); (conv => whnf))))
    ((repeat ((fail); (conv => whnf))))
    refine VSem.allocZ (z := .agg (kC Kp.zero none 0 0)) (by kernel_rfl) ?_
    intro X2 g4 hb4 hg4 hl4 hB2
    ((conv => whnf); (repeat ((first | (refine VL.cons ?_)); (conv => whnf))))
    ((repeat ((fail); (conv => whnf))))
    refine VUnit.storeAB hb4 rfl rfl rfl (by simp [kC, Kp.zero, Value.oneCell']) ?_
    intro X3 hb4' hg3
    rw [setFrom_allW (vs := kC Kp.zero none 0 0) (by rfl)] at hb4'
    replace hb4' : Blk X3 g4 50 (kC Kp.zero none 0 0) := hb4'
    have hB13 : Below X1.heap.size X1 X3 := only_new hB2 hg3 (by omega) (by omega)
    have h3 := h1.later hB13
    have hO3 := h3.blk
    have hV4 : ¬ V g4 := fun hv => by have := h1.R.lt g4 hv; omega
    clear hb4 hg3 hB2
    ((conv => whnf); (repeat ((first | (refine VL.cons ?_) | (refine VL.nil ?_) | (refine VC.seqS rfl ?_) | (refine VC.region ?_)); (conv => whnf))))
    (repeat (first | ((first | (refine VL.cons ?_) | (refine VRead.fld ?_)); (conv => whnf)) | (refine VRead.loadB hO3 rfl rfl ?_; (conv => whnf))))
    refine VCall.of (r18Open_any X3 V r S h3.R hc) ?_
    rintro e X4 ⟨V4, hr4, st4, hM⟩
    have h4 := h3.rr hr4 st4
    obtain ⟨hb44, _⟩ := st4.blk hb4' hV4
    have hsz4 := st4.size
    rw [hy] at hM
    obtain rfl : e = _ := hM
    refine ⟨_, rfl, ?_⟩
    generalize (S.wopen).1.1 = er at *
    ((conv => whnf); (repeat ((first | (refine VL.cons ?_)); (conv => whnf))))
    ((repeat ((fail); (conv => whnf))))
    refine VSem.allocZ (z := .agg (kC Kp.zero none 0 0)) (by kernel_rfl) ?_
    intro X5 g7 hb7 hg7 hl7 hB5
    ((conv => whnf); (repeat ((first | (refine VL.cons ?_)); (conv => whnf))))
    ((repeat ((fail); (conv => whnf))))
    refine VUnit.storeAB hb7 rfl rfl rfl (by simp [kC, Kp.zero, Value.oneCell']) ?_
    intro X6 hb7' hg6
    rw [setFrom_allW (vs := kC Kp.zero none 0 0) (by rfl)] at hb7'
    replace hb7' : Blk X6 g7 72 (kC Kp.zero none 0 0) := hb7'
    have hB46 : Below X4.heap.size X4 X6 := only_new hB5 hg6 (by omega) (by omega)
    have h6 := h4.later hB46
    have hO6 := h6.blk
    have hol := h4.blk.lt
    have hol3 := h3.blk.lt
    have hol1 := h1.blk.lt
    have hb64 := hb44.later hB46
    clear hb7 hg6 hB5
    ((conv => whnf); (repeat ((first | (refine VL.cons ?_) | (refine VL.nil ?_) | (refine VC.seqS rfl ?_) | (refine VC.region ?_)); (conv => whnf))))
    ((repeat ((first | (refine VL.cons ?_) | (refine VRead.fld ?_)); (conv => whnf))))
    refine VUnit.storeB hO6 rfl rfl rfl ?_
    intro X7 hO7 hg7'
    have h7 := h6.set hg7' (p' := none) (q' := q) hO7
    have hO7' := h7.blk
    ((conv => whnf); (repeat ((first | (refine VL.cons ?_) | (refine VL.nil ?_) | (refine VC.seqS rfl ?_) | (refine VC.region ?_)); (conv => whnf))))
    ((repeat ((first | (refine VL.cons ?_) | (refine VRead.fld ?_)); (conv => whnf))))
    refine VUnit.storeB hO7' rfl rfl rfl ?_
    intro X8 hO8 hg8
    have h8 := h7.set hg8 (p' := none) (q' := none) hO8
    have hb48 := (hb64.only hg7' (by omega)).only hg8 (by omega)
    have hb78 := (hb7'.only hg7' (by omega)).only hg8 (by omega)
    ((conv => whnf); (repeat ((first | (refine VL.cons ?_) | (refine VL.nil ?_) | (refine VC.seqS rfl ?_) | (refine VC.region ?_)); (conv => whnf))))
    (repeat (first | ((first | (refine VL.cons ?_) | (refine VBool.t ?_) | (refine VBool.dT (by omega) ?_)); (conv => whnf)) | (refine VRead.loadAB1 hb48 rfl rfl ?_; (conv => whnf)) | (refine VRead.loadAB1 hb78 rfl rfl ?_; (conv => whnf))))
    refine VCall.of (told_any Kp.zero none none 0 0 0 0 _ _ X8 (ERow.nil X8 (fun _ => True) 0).at_.1 (ERow.nil X8 (fun _ => True) 0).at_.1 (by omega)) ?_
    rintro e X9 ⟨rfl, hB9⟩
    refine ⟨_, rfl, ?_⟩
    ((conv => whnf); (repeat ((first | (refine VL.cons ?_)); (conv => whnf))))
    ((repeat ((first | (refine VL.cons ?_) | (refine VL.nil ?_) | (refine VC.ret ?_) | (refine VBool.t ?_) | (refine VRead.eqB ?_) | (refine VRead.eqNN ?_)); (conv => whnf))))
    exact ⟨rfl, none, none, U1, V4, h8.later hB9⟩
  | some y =>
    have hlast := wopen_last hy
    rw [hy] at hN
    obtain ⟨g, A1, n1, c1, rfl, hwb, gU, gX, hE1⟩ := hN
    refine ⟨_, rfl, ?_⟩
    have gV : ¬ V g := fun hv => by have := h.R.lt g hv; omega
    ((conv => whnf); (repeat ((first | (refine VL.cons ?_)); (conv => whnf))))
    ((repeat ((fail); (conv => whnf))))
    refine VSem.allocZ (z := .agg (kC Kp.zero none 0 0)) (by kernel_rfl) ?_
    intro X2 g4 hb4 hg4 hl4 hB2
    ((conv => whnf); (repeat ((first | (refine VL.cons ?_)); (conv => whnf))))
    ((repeat ((fail); (conv => whnf))))
    refine VUnit.storeAB hb4 rfl rfl rfl (by simp [kC, Value.oneCell']) ?_
    intro X3 hb4' hg3
    rw [setFrom_allW (vs := kC y.2 A1 n1 c1) (by rfl)] at hb4'
    replace hb4' : Blk X3 g4 50 (kC y.2 A1 n1 c1) := hb4'
    have hB13 : Below X1.heap.size X1 X3 := only_new hB2 hg3 (by omega) (by omega)
    have h3 := h1.later hB13
    have hO3 := h3.blk
    have hV4 : ¬ V g4 := fun hv => by have := h1.R.lt g4 hv; omega
    replace hwb := hwb.later hB13
    replace hE1 := hE1.below hB13
    have hE1V : ERow X3 (fun j => X.heap.size ≤ j ∧ ¬ V j) X.heap.size (.slice A1 n1 c1) y.2.es := hE1.more (Nat.le_refl _) (fun j _ hj => ⟨hj.1, fun hv => by have := h.R.lt j hv; have := hj.1; omega⟩)
    clear hb4 hg3 hB2
    ((conv => whnf); (repeat ((first | (refine VL.cons ?_) | (refine VL.nil ?_) | (refine VC.seqS rfl ?_) | (refine VC.region ?_)); (conv => whnf))))
    (repeat (first | ((first | (refine VL.cons ?_) | (refine VRead.fld ?_)); (conv => whnf)) | (refine VRead.loadB hO3 rfl rfl ?_; (conv => whnf))))
    refine VCall.of (r18Open_any X3 V r S h3.R hc) ?_
    rintro e X4 ⟨V4, hr4, st4, hM⟩
    have h4 := h3.rr hr4 st4
    obtain ⟨hb44, _⟩ := st4.blk hb4' hV4
    obtain ⟨hwb4, _⟩ := st4.blk hwb gV
    have hE14 := hE1V.stepQ st4
    have hsz4 := st4.size
    rw [hy] at hM
    obtain ⟨g2, A2, n2, c2, rfl, g2V, g2X, hE2, hmk, hlen⟩ := hM
    refine ⟨_, rfl, ?_⟩
    ((conv => whnf); (repeat ((first | (refine VL.cons ?_)); (conv => whnf))))
    ((repeat ((fail); (conv => whnf))))
    refine VSem.allocZ (z := .agg (kC Kp.zero none 0 0)) (by kernel_rfl) ?_
    intro X5 g7 hb7 hg7 hl7 hB5
    ((conv => whnf); (repeat ((first | (refine VL.cons ?_)); (conv => whnf))))
    ((repeat ((fail); (conv => whnf))))
    refine VUnit.storeAB hb7 rfl rfl rfl (by simp [kC, Value.oneCell']) ?_
    intro X6 hb7' hg6
    rw [setFrom_allW (vs := kC y.2 A2 n2 c2) (by rfl)] at hb7'
    replace hb7' : Blk X6 g7 72 (kC y.2 A2 n2 c2) := hb7'
    have hB46 : Below X4.heap.size X4 X6 := only_new hB5 hg6 (by omega) (by omega)
    have h6 := h4.later hB46
    have hO6 := h6.blk
    have hol := h4.blk.lt
    have hol3 := h3.blk.lt
    have hol1 := h1.blk.lt
    have hox := hO.lt
    have hb64 := hb44.later hB46
    have hwb6 := hwb4.later hB46
    have hE16 := hE14.below hB46
    have hE26 := hE2.below hB46
    clear hb7 hg6 hB5
    ((conv => whnf); (repeat ((first | (refine VL.cons ?_) | (refine VL.nil ?_) | (refine VC.seqS rfl ?_) | (refine VC.region ?_)); (conv => whnf))))
    ((repeat ((first | (refine VL.cons ?_) | (refine VRead.fld ?_)); (conv => whnf))))
    refine VUnit.storeB hO6 rfl rfl rfl ?_
    intro X7 hO7 hg7'
    have h7 := h6.set hg7' (p' := some ⟨g, 0, none⟩) (q' := q) hO7
    have hO7' := h7.blk
    ((conv => whnf); (repeat ((first | (refine VL.cons ?_) | (refine VL.nil ?_) | (refine VC.seqS rfl ?_) | (refine VC.region ?_)); (conv => whnf))))
    ((repeat ((first | (refine VL.cons ?_) | (refine VRead.fld ?_)); (conv => whnf))))
    refine VUnit.storeB hO7' rfl rfl rfl ?_
    intro X8 hO8 hg8
    have h8 := h7.set hg8 (p' := some ⟨g, 0, none⟩) (q' := some ⟨g2, 0, none⟩) hO8
    have hb48 := (hb64.only hg7' (by omega)).only hg8 (by omega)
    have hb78 := (hb7'.only hg7' (by omega)).only hg8 (by omega)
    have hwb8 := (hwb6.only hg7' (by omega)).only hg8 (by omega)
    have hE18 := (hE16.blk hO6 hg7' (by decide) (by decide)).blk hO7' hg8 (by decide) (by decide)
    have hE28 := (hE26.blk hO6 hg7' (by decide) (by decide)).blk hO7' hg8 (by decide) (by decide)
    have hn1 := hE18.at_.2.2
    have hn2 := hE28.at_.2.2
    ((conv => whnf); (repeat ((first | (refine VL.cons ?_) | (refine VL.nil ?_) | (refine VC.seqS rfl ?_) | (refine VC.region ?_)); (conv => whnf))))
    (repeat (first | ((first | (refine VL.cons ?_) | (refine VBool.t ?_)); (conv => whnf)) | (refine VRead.loadAB1 hb48 rfl rfl ?_; (conv => whnf)) | (refine VRead.loadAB1 hb78 rfl rfl ?_; (conv => whnf))))
    refine VCall.of (told_any y.2 A1 A2 n1 c1 n2 c2 _ _ X8 hE18.at_.1 hE28.at_.1 (by omega)) ?_
    rintro e X9 ⟨rfl, hB9⟩
    refine ⟨_, rfl, ?_⟩
    have h9 := h8.later hB9
    replace hwb8 := hwb8.later hB9
    replace hb78 := hb78.later hB9
    ((conv => whnf); (repeat ((first | (refine VL.cons ?_)); (conv => whnf))))
    ((repeat ((first | (refine VL.cons ?_) | (refine VBool.t ?_) | (refine VBool.f ?_) | (refine VRead.eqPN ?_) | (refine VRead.eqB ?_)); (conv => whnf))))
    refine VCall.of (walLast_any X9 g d y.1 hwb8) ?_
    rintro e X9' ⟨rfl, eW⟩
    obtain rfl := eW.symm
    refine ⟨_, rfl, ?_⟩
    ((conv => whnf); (repeat ((first | (refine VL.cons ?_)); (conv => whnf))))
    ((repeat ((first | (refine VBool.f ?_)); (conv => whnf))))
    refine VCall.of (r18Last_any X9 g7 y.2 A2 n2 c2 hb78 hmk.2.1 (by omega)) ?_
    rintro e X10 ⟨rfl, Nd, rfl⟩
    refine ⟨_, rfl, ?_⟩
    rw [hlast, hn2]
    ((conv => whnf); (repeat ((first | (refine VL.cons ?_)); (conv => whnf))))
    ((repeat ((first | (refine VL.cons ?_) | (refine VL.nil ?_) | (refine VC.ret ?_) | (refine VBool.t ?_) | (refine VBool.f ?_)); (conv => whnf))))
    exact ⟨(show Ending.returned (.bool (decide (y.2.base + (n2 : Int) = y.2.base + (n2 : Int)))) = _ by rw [decide_eq_true rfl]), _, _, U1, V4, h9.later (below_drewN (Below.refl _ _) Nd)⟩
end Go.Proofs.YtebeidnmplnlpaaGreat
end

section
set_option maxRecDepth 10000
namespace Go.Proofs.YtebeidnmplnlpaaGreat
set_option linter.unusedVariables false
open Go.ChangeShapes Go.WideShapes Go.ChangeAt Go.RowKit

/-- elements of k cells each lie where a slice says -/
def ListAt {α : Type} (W : World) (B k : Nat) (E : α → List Value → Prop) (A : Option Addr) (n : Nat) (l : List α) : Prop :=
  l.length = n ∧ (0 < n → ∃ x, A = some x ∧ x.block < B ∧ ∀ i a, l[i]? = some a → ∃ cs, E a cs ∧ ∀ j u, cs[j]? = some u → W.cell? (x.add (k * i + j)) = some u)
theorem add_blkO (x : Addr) (j : Nat) : (x.add j).block = x.block := by unfold Addr.add; split <;> rfl
section
variable {H : Type} {enc : TypeId × Value → H}
theorem cell_in {W : World} {x : Addr} {u : Value} (h : W.cell? x = some u) : x.block < W.heap.size := by
  unfold World.cell? at h
  cases hb : W.heap[x.block]? with
  | none => rw [hb] at h; cases h
  | some o => exact (Array.getElem?_eq_some_iff.1 hb).1
theorem weights_in {P : Program} {e : TypeId} : ∀ {ds : List (DataW H)} {d : DataW H}, d ∈ ds → ∀ n ∈ d.weights P e, n ∈ DataW.weightsAll P e ds
  | d0 :: ds, d, h, n, hn => by
    simp only [DataW.weightsAll, List.mem_append]
    rcases List.mem_cons.1 h with rfl | h
    · exact .inl hn
    · exact .inr (weights_in h n hn)
theorem open_list {α : Type} [Inhabited α] {t e k : Nat} {W : World} {E : α → List Value → Prop} (ht : Tryz.prog.underlying t = some (.slice e)) (hk : Tryz.prog.cellsOf e = k) (hk0 : 0 < k)
    (hE : ∀ n cs y, DataW.trod enc Tryz.prog W 0 (fun _ => true) true n e cs = some y → (∀ x ∈ y.1.weights Tryz.prog e, x ≤ reachBytes) → cs.length = k → ∃ a, E a cs)
    {A : Option Addr} {n c : Nat} {d : DataW H} {p : List MemPlace} (h : DataW.Trod enc Tryz.prog W 0 (fun _ => true) true t (.slice A n c) d p)
    {ts : List TypeId} {ds : List (DataW H)} (hsz : (DataW.weightsEach Tryz.prog ts ds).all (· ≤ reachBytes) = true) {j : Nat} (hj : ts[j]? = some t) (hd : ds[j]? = some d) :
    ∃ l : List α, ListAt W W.heap.size k E A n l ∧ n ≤ c := by
  obtain ⟨fuel, hf⟩ := h
  have hwd : ∀ x ∈ d.weights Tryz.prog t, x ≤ reachBytes := fun x hx => by
    have := List.all_eq_true.1 hsz x (DataW.weights_mem_each hj hd x hx)
    simpa using this
  rcases Deep.open_slice ht hf with ⟨hcs, hx⟩ | ⟨a, len, cap, m, q, D, Pl, hcs, _, hl, _, hm, hx, hel⟩
  · simp [Value.cells] at hcs
    obtain ⟨rfl, rfl, rfl⟩ := hcs
    exact ⟨[], ⟨rfl, fun h => absurd h (Nat.lt_irrefl 0)⟩, Nat.le_refl _⟩
  · simp [Value.cells] at hcs
    obtain ⟨rfl, rfl, rfl⟩ := hcs
    simp only [if_true] at hm
    simp only [Prod.mk.injEq] at hx
    obtain ⟨hx, _⟩ := hx
    have hb : ∀ i, i < n → ∃ o : α, ∃ cs, E o cs ∧ cs.length = k ∧ ∀ j u, cs[j]? = some u → W.cell? (a.add (k * i + j)) = some u := fun i hi => by
      obtain ⟨cs', h1, h2⟩ := hel i (by omega)
      rw [hk] at h1
      have hwi : ∀ x ∈ (D i).weights Tryz.prog e, x ≤ reachBytes := fun x hx' => by
        refine hwd x ?_
        rw [hx]
        simp only [DataW.weights]
        rw [ht]
        refine List.mem_cons_of_mem _ (List.mem_append_left _ (weights_in (d := D i) ?_ x hx'))
        exact List.mem_map_of_mem (List.mem_range.2 hi)
      obtain ⟨_, hlen, hc⟩ := World.cells?_some h1
      obtain ⟨o, hok⟩ := hE _ _ _ h2 hwi hlen
      refine ⟨o, cs', hok, hlen, fun j u hu => ?_⟩
      have hj6 : j < k := by have := (List.getElem?_eq_some_iff.1 hu).1; rw [hlen] at this; exact this
      have := hc j hj6
      rw [Deep.add_add, Nat.mul_comm] at this
      rw [this]
      exact hu
    obtain ⟨f, hf⟩ := Deep.choose_lt hb
    refine ⟨(List.range n).map f, ⟨by simp, fun hn => ⟨a, rfl, ?_, fun i o ho => ?_⟩⟩, hl⟩
    · obtain ⟨cs, _, h2, h1⟩ := hf 0 hn
      obtain ⟨u, hu⟩ : ∃ u, cs[0]? = some u := ⟨_, List.getElem?_eq_getElem (by omega)⟩
      have := cell_in (h1 0 u hu)
      rwa [show a.add (k * 0 + 0) = a from by simp [Addr.add]] at this
    · have hj : i < n := by have := (List.getElem?_eq_some_iff.1 ho).1; simpa using this
      rw [List.getElem?_map, List.getElem?_range hj] at ho
      obtain rfl := Option.some.inj ho
      obtain ⟨cs, h1, _, h2⟩ := hf i hj
      exact ⟨cs, h1, h2⟩
/-- bytes -/
def EBy (W : World) (l : List UInt8) (cs : List Value) : Prop := ∃ A m c, cs = [.slice A m c] ∧ m ≤ c ∧ c ≤ 140737488351232 ∧ Reads W W.heap.size 1 A m (bv l)
theorem EBy.open {W : World} {n : Nat} {cs : List Value} {y : DataW H × List MemPlace} (h : DataW.trod enc Tryz.prog W 0 (fun _ => true) true n 33 cs = some y) (hw : ∀ x ∈ y.1.weights Tryz.prog 33, x ≤ reachBytes) (hl1 : cs.length = 1) : ∃ l, EBy W l cs := by
  obtain ⟨c, rfl⟩ : ∃ c, cs = [c] := by
    match cs, hl1 with
    | [c], _ => exact ⟨c, rfl⟩
  rcases open_ints Tryz.underlying33 Tryz.underlying5 (by kernel_rfl) h with ⟨hcs, hx⟩ | ⟨x, l, c', zs, hcs, _, hl, hm, hz, hx, hcell, hwz⟩
  · simp at hcs
    obtain rfl := hcs
    exact ⟨[], none, 0, 0, rfl, Nat.le_refl _, by omega, Reads.none_⟩
  · simp at hcs
    obtain rfl := hcs
    simp only [if_true] at hz
    subst hx
    have h1 := hw _ (by simp only [DataW.weights]; rw [Tryz.underlying33]; exact List.mem_cons_self ..)
    simp [lits, reachBytes] at h1
    rw [show Tryz.prog.bytesOf 5 = 1 from by kernel_rfl] at h1
    have hb : ∀ i, i < l → ∃ b : UInt8, W.cell? (x.add i) = some (.int .u8 (b.toNat : Int)) := fun i hi => by
      have h1 := hcell i (by omega)
      have h2 := hwz (zs.getD i 0) (by
        rw [List.getD_eq_getElem?_getD, List.getElem?_eq_getElem (by omega)]
        exact List.getElem_mem _)
      obtain ⟨b, hb⟩ := u8_nat h2
      exact ⟨b, by rw [h1, hb]⟩
    obtain ⟨f, hf⟩ := Deep.choose_lt hb
    refine ⟨(List.range l).map f, some x, l, c', rfl, hl, by omega, by simp [bv], fun hn => ⟨x, rfl, ?_, fun j u hu => ?_⟩⟩
    · have := cell_in (hf 0 hn)
      rwa [show x.add 0 = x from by simp [Addr.add]] at this
    · simp only [bv, List.map_map, List.getElem?_map, Option.map_eq_some_iff] at hu
      obtain ⟨i, hi, rfl⟩ := hu
      have hj : j < l := by have := (List.getElem?_eq_some_iff.1 hi).1; simpa using this
      rw [List.getElem?_range hj] at hi
      obtain rfl := Option.some.inj hi
      exact hf j hj
end
/-- a list of bytes -/
abbrev InYss (W : World) (A : Option Addr) (n : Nat) (l : List (List UInt8)) : Prop := ListAt W W.heap.size 1 (EBy W) A n l
/-- one of them, in all later worlds -/
theorem InYss.later {W : World} {A : Option Addr} {n i : Nat} {l : List (List UInt8)} {b : List UInt8} (h : InYss W A n l) (hb : l[i]? = some b) :
    ∃ x Ab m c, A = some x ∧ m = b.length ∧ m ≤ c ∧ c ≤ 140737488351232 ∧ ∀ W', Below W.heap.size W W' → W'.cell? (x.add i) = some (.slice Ab m c) ∧ Reads W' W.heap.size 1 Ab m (bv b) := by
  have hi := (List.getElem?_eq_some_iff.1 hb).1
  have h1 := h.1
  obtain ⟨x, hA, hx, h3⟩ := h.2 (by omega)
  obtain ⟨cs, ⟨Ab, m, c, rfl, h4, h5, h6⟩, h7⟩ := h3 i b hb
  have h8 := h7 0 _ rfl
  rw [Nat.one_mul, Nat.add_zero] at h8
  refine ⟨x, Ab, m, c, hA, by have := h6.1; rw [bv_length] at this; omega, h4, h5, fun W' hB => ⟨?_, h6.below hB⟩⟩
  rw [hB.cell (by rw [add_blkO]; exact hx)]
  exact h8
end Go.Proofs.YtebeidnmplnlpaaGreat
end

section
set_option maxRecDepth 10000
namespace Go.Proofs.YtebeidnmplnlpaaGreat
set_option linter.unusedVariables false
open Go.RowKit

set_option maxHeartbeats 8000000 in
theorem walOpens_walk (A1 : Option Addr) (n1 c1 : Nat) (ns : List Int) (A2 : Option Addr) (n2 c2 : Nat) (l : List (List UInt8)) (W : World) (hi1 : InInts W A1 n1 c1 ns) (hi2 : InYss W A2 n2 l) :
    Calls Tryz.prog 3 #[.slice A1 n1 c1, .slice A2 n2 c2] W fun e W' => e = .returned (.bool true) ∧ Below W.heap.size W W' := by
  obtain ⟨hr2, hnc2, hcc2, hzs2⟩ := hi1
  have hl2 : ns.length = n1 := by have := hr2.1; unfold iv at this; simp at this; omega
  have hln := hi2.1
  refine calls_vc Tryz.func3 rfl (by kernel_rfl) ?_
  ((conv => whnf); (repeat ((first | (refine VL.cons ?_) | (refine VL.nil ?_) | (refine VC.seqS rfl ?_) | (refine VC.region ?_)); (conv => whnf))))
  ((repeat ((fail); (conv => whnf))))
  refine VCall.of (oNew W 16777216) ?_
  rintro e W1 ⟨d, U, rfl, hd1, hUB, hB1⟩
  refine ⟨_, rfl, ?_⟩
  ((conv => whnf); (repeat ((first | (refine VL.cons ?_)); (conv => whnf))))
  ((repeat ((fail); (conv => whnf))))
  refine VCall.of (pNew W1 16777216) ?_
  rintro e W2 ⟨r, V, rfl, hr1, hVB, hB2⟩
  refine ⟨_, rfl, ?_⟩
  have s1 := hB1.size
  have hB02 := hB1.trans (hB2.mono s1)
  have s2 := hB02.size
  ((conv => whnf); (repeat ((first | (refine VL.cons ?_)); (conv => whnf))))
  ((repeat ((fail); (conv => whnf))))
  refine VRead.ofW (v := .agg (onC d r none none)) (fun _ => by kernel_rfl) ?_
  ((conv => whnf); (repeat ((first | (refine VL.cons ?_)); (conv => whnf))))
  ((repeat ((fail); (conv => whnf))))
  refine VSem.boxB ?_
  intro W3 o hO hoe hol hB3
  replace hO : Blk W3 o 32 (onC d r none none) := hO
  have h3 : OnS W d r o none none U V (DS.new 16777216) (DS.new 16777216) W3 :=
    ⟨(hd1.below hB2).below hB3, hr1.below hB3, hUB, fun j hj => by have := hVB j hj; omega, fun j hj hv => by have := hVB j hv; have := hd1.lt j hj; omega, hO,
      fun hu => by have := (hd1.below hB2).lt o hu; omega, fun hv => by have := hr1.lt o hv; omega, by omega, hB02.trans (hB3.mono s2)⟩
  clear hd1 hr1 hUB hVB hB1 hB2 hB3 hB02
  ((conv => whnf); (repeat ((first | (refine VL.cons ?_) | (refine VL.nil ?_)); (conv => whnf))))
  (repeat ((first | (refine VRead.loadB hO rfl rfl ?_) | (refine VL.cons ?_) | (refine VL.nil ?_) | (refine VC.seqS rfl ?_) | (refine VC.region ?_) | (refine VC.cond ?_) | (refine VC.block ?_) | (refine VC.skip ?_) | (refine VBool.f ?_) | (refine VRead.fld ?_) | (refine VRead.eqPN ?_) | (refine VC.seq ?_)); (conv => whnf)))
  refine VC.loop [6] [(4, 4), (6, 7), (17, 99)] (fun q vs X => ∃ (i : Nat) (S : DS) (U V : Foot), vs = [.int .i64 (i : Int)] ∧ q = n1 - i ∧ i ≤ n1 ∧ i ≤ 4 ∧ OnS W d r o none none U V S S X ∧ S.k.calls ≤ 3 * i) (by kernel_rfl)
    ⟨_, 0, DS.new 16777216, U, V, rfl, rfl, by omega, by omega, h3, by simp [DS.new, Dk.new]⟩ ?_
  clear h3 hO
  rintro q τ vs X ⟨i, S, U, V, rfl, rfl, hi, hi4, hS, hcc⟩
  have hB := hS.be
  by_cases hlt : i < n1 ∧ i < n2 ∧ i < 4
  case neg =>
    have hcase : ¬ i < n1 ∨ (i < n1 ∧ ¬ i < n2) ∨ (i < n1 ∧ i < n2 ∧ ¬ i < 4) := by omega
    rcases hcase with hh | ⟨ha, hh⟩ | ⟨ha, hb, hh⟩
    all_goals
      ((conv => whnf); (repeat ((fail); (conv => whnf))))
      ((repeat ((first | (refine VL.cons ?_) | (refine VL.nil ?_) | (refine VC.seqS rfl ?_) | (refine VC.region ?_) | (refine VC.cond ?_) | (refine VC.exit ?_) | (refine VBool.t ?_) | (refine VBool.f ?_) | (refine VBool.dT (by omega) ?_) | (refine VBool.dF (by omega) ?_) | (refine VRead.lenS ?_) | (refine VC.seq ?_)); (conv => whnf))))
      refine VCall.of (on_open_any W X d r o none none U V S hS (by omega)) ?_
      rintro e X1 ⟨rfl, p', q', U1, V1, h1⟩
      refine ⟨_, rfl, ?_⟩
      ((conv => whnf); (repeat ((first | (refine VL.cons ?_)); (conv => whnf))))
      ((repeat ((first | (refine VL.cons ?_) | (refine VBool.t ?_)); (conv => whnf))))
      refine VCall.of (on_same_any W X1 d r o p' q' U1 V1 _ h1) ?_
      rintro e X2 ⟨rfl, hb2⟩
      refine ⟨_, rfl, ?_⟩
      have h2 := h1.later hb2
      ((conv => whnf); (repeat ((first | (refine VL.cons ?_)); (conv => whnf))))
      ((repeat ((first | (refine VBool.t ?_)); (conv => whnf))))
      refine VCall.of (awake18_any X2) ?_
      rintro e X3 ⟨rfl, hb3⟩
      refine ⟨_, rfl, ?_⟩
      ((conv => whnf); (repeat ((first | (refine VL.cons ?_) | (refine VL.nil ?_) | (refine VC.ret ?_)); (conv => whnf))))
      ((repeat ((fail); (conv => whnf))))
      exact ⟨rfl, (h2.later hb3).be⟩
  obtain ⟨hin1, hin, hi3⟩ := hlt
  obtain ⟨b, hb⟩ : ∃ b, l[i]? = some b := ⟨_, List.getElem?_eq_getElem (by omega)⟩
  obtain ⟨x, Ab, m, cb, rfl, hmb, hmc, hcb, H⟩ := hi2.later hb
  obtain ⟨hcell, hrb⟩ := H X hB
  by_cases h4 : 20000 < m
  · ((conv => whnf); (repeat ((fail); (conv => whnf))))
    (repeat (first | ((first | (refine VL.cons ?_) | (refine VL.nil ?_) | (refine VC.seqS rfl ?_) | (refine VC.region ?_) | (refine VC.cond ?_) | (refine VC.block ?_) | (refine VC.skip ?_) | (refine VBool.t ?_) | (refine VBool.dT (by omega) ?_) | (refine VRead.lenS ?_) | (refine VRead.load1 (by assumption) ?_) | (refine VRead.at1 (by omega) ?_) | (refine VC.seq ?_)); (conv => whnf)) | (refine VRead.at1 hin ?_; (conv => whnf))))
    refine VCall.of (awake18_any X) ?_
    rintro e w2 ⟨rfl, hb2⟩
    refine ⟨_, rfl, ?_⟩
    ((conv => whnf); (repeat ((first | (refine VL.cons ?_) | (refine VL.nil ?_) | (refine VC.ret ?_)); (conv => whnf))))
    ((repeat ((fail); (conv => whnf))))
    exact ⟨rfl, (hS.later hb2).be⟩
  obtain ⟨z, hz⟩ : ∃ z, ns[i]? = some z := ⟨_, List.getElem?_eq_getElem (by omega)⟩
  have hzr := hzs2 z (List.mem_of_getElem? hz)
  obtain ⟨az, uz, rfl, _, huz, hcz⟩ := (hr2.below hB).at_ hin1
  obtain ⟨z', hz', rfl⟩ := map_at (show (ns.map (Value.int .i64))[i]? = some uz from huz)
  rw [hz] at hz'
  obtain rfl := Option.some.inj hz'
  ((conv => whnf); (repeat ((fail); (conv => whnf))))
  (repeat (first | ((first | (refine VL.cons ?_) | (refine VL.nil ?_) | (refine VC.seqS rfl ?_) | (refine VC.region ?_) | (refine VC.cond ?_) | (refine VC.block ?_) | (refine VC.skip ?_) | (refine VBool.t ?_) | (refine VBool.dT (by omega) ?_) | (refine VBool.dF (by omega) ?_) | (refine VRead.lenS ?_) | (refine VRead.load1 (by assumption) ?_) | (refine VRead.at1 (by omega) ?_) | (refine VC.seq ?_)); (conv => whnf)) | (refine VRead.at1 hin ?_; (conv => whnf)) | (refine VRead.at1 hin1 ?_; (conv => whnf))))
  refine VCall.of (place_any z 5 X hzr (by decide) (by decide)) ?_
  rintro e X' ⟨rfl, eW⟩
  obtain rfl := eW.symm
  refine ⟨_, rfl, ?_⟩
  have hz0 := Int.emod_nonneg z (show (5 : Int) ≠ 0 by decide)
  have hz1 := Int.emod_lt_of_pos z (show (0 : Int) < 5 by decide)
  generalize z % 5 = zz at *
  ((conv => whnf); (repeat ((first | (refine VL.cons ?_)); (conv => whnf))))
  ((repeat ((fail); (conv => whnf))))
  refine VCall.of (refWName_any zz X (by omega)) ?_
  rintro e X' ⟨rfl, eW⟩
  obtain rfl := eW.symm
  refine ⟨_, rfl, ?_⟩
  have hwl := wName_le zz
  (conv => whnf)
  ((repeat ((first | (refine VL.cons ?_) | (refine VL.nil ?_)); (conv => whnf))))
  refine VC.cut [7] [(7, 7), (46, 47)] (fun vs Y => ∃ nm : List UInt8, vs = [.string (txt nm)] ∧ nm.length ≤ 1000 ∧ Y = X) (by kernel_rfl) ?_ ?_
  · by_cases hnm : wName zz = []
    · have hnm' : txt (wName zz) = txt [] := by rw [hnm]
      ((conv => whnf); (repeat ((first | (refine VL.cons ?_) | (refine VL.nil ?_) | (refine VC.seqS rfl ?_) | (refine VC.region ?_) | (refine VC.cond ?_)); (conv => whnf))))
      (repeat (first | ((first | (refine VL.cons ?_) | (refine VL.nil ?_) | (refine VC.region ?_)); (conv => whnf)) | (refine VBool.dT hnm' ?_; (conv => whnf))))
      exact ⟨wTmp, rfl, by decide, rfl⟩
    · have hnm' : ¬ txt (wName zz) = txt [] := fun e => hnm (txt_inj.1 e)
      ((conv => whnf); (repeat ((first | (refine VL.cons ?_) | (refine VL.nil ?_) | (refine VC.seqS rfl ?_) | (refine VC.region ?_) | (refine VC.cond ?_)); (conv => whnf))))
      (repeat (first | ((first | (refine VC.skip ?_)); (conv => whnf)) | (refine VBool.dF hnm' ?_; (conv => whnf))))
      exact ⟨wName zz, rfl, by omega, rfl⟩
  rintro τ2 vs Y ⟨nm, rfl, hnl, hYX⟩
  obtain rfl := hYX.symm
  clear hwl hz hz0 hz1 hcz huz hzr
  have hE : Below X.heap.size X (X.drewN 1) := below_drewN (Below.refl _ _) 1
  have h1 := hS.later hE
  ((conv => whnf); (repeat ((fail); (conv => whnf))))
  ((repeat ((first | (refine VC.draw ?_) | (refine VC.seq ?_)); (conv => whnf))))
  refine VDraw.seg (fun Y => Blk Y o 32 (onC d r none none) ∧ Below W.heap.size W Y) [([0, 1, 2, 3, 4, 6, 7, 8, 9, 10], 5), ([], 11), ([12, 13, 14, 15, 16, 17, 18, 19, 20, 21, 22, 25, 26, 27, 28, 29, 30, 31, 32, 33], 23), ([], 24), ([], 34), ([35, 36, 37, 38, 39, 40, 41, 42, 44, 45, 46, 47, 48], 43), ([], 49)] [50, 51] (by kernel_rfl) (by kernel_rfl) ⟨h1.blk, h1.be⟩ ?_
  generalize X.drewN 1 = X1 at *
  clear hE hS hcell hrb
  (conv => whnf)
  (repeat ((first | (refine VRead.loadBS (fun Y hY => hY.1) rfl rfl ?_) | (refine VQ.cons ?_) | (refine VQ.nil ?_) | (refine VG.cons ?_) | (refine VRead.fld ?_)); (conv => whnf)))
  have k1 : (S.create nm).2.k.calls = S.k.calls + 1 := DS.create_calls _ _
  refine VCall.of (oCreate X1 U d S nm h1.D (by omega) hnl) ?_
  rintro e X2 ⟨rfl, U2, hd2, st2⟩
  refine ⟨_, rfl, ?_⟩
  have h2 := h1.e hd2 st2
  (conv => whnf)
  refine Keep.mk ⟨h2.blk, h2.be⟩ ?_
  (conv => whnf)
  ((repeat ((first | (refine VQ.nil ?_) | (refine VG.cons ?_)); (conv => whnf))))
  refine VCall.of (pCreate X2 V r S nm h2.R (by omega) hnl) ?_
  rintro e X3 ⟨rfl, V3, hr3, st3⟩
  refine ⟨_, rfl, ?_⟩
  have h3 := h2.rr hr3 st3
  generalize S.create nm = R1 at *
  (conv => whnf)
  refine Keep.mk ⟨h3.blk, h3.be⟩ ?_
  (conv => whnf)
  (repeat ((first | (refine VBool.nT (rfl : R1.1 = R1.1) ?_) | (refine VRead.loadBS (fun Y hY => hY.1) rfl rfl ?_) | (refine VRead.at1 hin ?_) | (refine VRead.load (fun Y hY => (H Y hY.2).1) ?_) | (refine VQ.cons ?_) | (refine VQ.nil ?_) | (refine VG.cons ?_) | (refine VBool.f ?_) | (refine VRead.fld ?_)); (conv => whnf)))
  obtain ⟨_, hrb3⟩ := H X3 h3.be
  refine VCall.of (bytes_any Ab m cb _ b X3 (by omega) hrb3) ?_
  rintro e X4 ⟨A3, c3, rfl, hO3, hB4⟩
  refine ⟨_, rfl, ?_⟩
  have h4' := h3.later hB4
  (conv => whnf)
  refine Keep.mk ⟨h4'.blk, h4'.be⟩ ?_
  (conv => whnf)
  ((repeat ((first | (refine VQ.nil ?_) | (refine VG.cons ?_) | (refine VBool.f ?_)); (conv => whnf))))
  have k2 : (R1.2.append nm b).2.k.calls = R1.2.k.calls + 1 := DS.append_calls
  refine VCall.of (oAppend X4 U2 d R1.2 nm m c3 A3 b h4'.D (by omega) hnl (Src.of_own hO3) (by omega) hO3.cap) ?_
  rintro e X5 ⟨rfl, U5, hd5, st5⟩
  refine ⟨_, rfl, ?_⟩
  have h5 := h4'.e hd5 st5
  obtain ⟨_, hrb5⟩ := H X5 h5.be
  (conv => whnf)
  refine Keep.mk ⟨h5.blk, h5.be⟩ ?_
  (conv => whnf)
  ((repeat ((first | (refine VQ.nil ?_) | (refine VG.cons ?_) | (refine VBool.f ?_)); (conv => whnf))))
  refine VCall.of (pAppend X5 V3 r R1.2 nm m cb Ab b h5.R (by omega) hnl (Src.of_old hrb5 h5.be.size (fun j hj => by
    rcases hj with h' | h'
    · exact h5.bV j h'
    · have := h5.be.size; omega)) (by omega) hmc) ?_
  rintro e X6 ⟨rfl, V6, hr6, st6⟩
  refine ⟨_, rfl, ?_⟩
  have h6 := h5.rr hr6 st6
  generalize R1.2.append nm b = R2 at *
  (conv => whnf)
  refine Keep.mk ⟨h6.blk, h6.be⟩ ?_
  (conv => whnf)
  (repeat ((first | (refine VBool.nT (rfl : R2.1 = R2.1) ?_) | (refine VRead.loadBS (fun Y hY => hY.1) rfl rfl ?_) | (refine VQ.cons ?_) | (refine VQ.nil ?_) | (refine VG.cons ?_) | (refine VBool.f ?_) | (refine VRead.fld ?_)); (conv => whnf)))
  have k3 : (R2.2.sync nm).2.k.calls = R2.2.k.calls + 1 := DS.sync_calls
  refine VCall.of (oSync X6 U5 d R2.2 nm h6.D (by omega) hnl) ?_
  rintro e X7 ⟨rfl, U7, hd7, st7⟩
  refine ⟨_, rfl, ?_⟩
  have h7 := h6.e hd7 st7
  (conv => whnf)
  refine Keep.mk ⟨h7.blk, h7.be⟩ ?_
  (conv => whnf)
  ((repeat ((first | (refine VQ.nil ?_) | (refine VG.cons ?_) | (refine VBool.f ?_)); (conv => whnf))))
  refine VCall.of (pSync X7 V6 r R2.2 nm h7.R (by omega) hnl) ?_
  rintro e X8 ⟨rfl, V8, hr8, st8⟩
  refine ⟨_, rfl, ?_⟩
  have h8 := h7.rr hr8 st8
  generalize R2.2.sync nm = R3 at *
  (conv => whnf)
  refine Keep.mk ⟨h8.blk, h8.be⟩ ?_
  (conv => whnf)
  (repeat (first | ((first | (refine VL.cons ?_) | (refine VL.nil ?_) | (refine VC.region ?_) | (refine VC.cond ?_) | (refine VC.skip ?_) | (refine VQ.cons ?_) | (refine VQ.nil ?_) | (refine VG.nil ?_) | (refine VBool.f ?_) | (refine VBool.nT (by omega) ?_) | (refine VWrap.i64 (by omega) (by omega) ?_)); (conv => whnf)) | (refine VBool.nT (rfl : R3.1 = R3.1) ?_; (conv => whnf))))
  exact ⟨_, by omega, i + 1, R3.2, U7, V8, rfl, rfl, by omega, by omega, h8, by omega⟩
end Go.Proofs.YtebeidnmplnlpaaGreat
end
