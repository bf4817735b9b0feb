/- Messages in memory; rules. No condition. -/
import Derived.Test.YtbfboglcdgeheaaMsgL
import Derived.Test.YtbfboglcdgeheaaVRow
import Derived.Test.YtbfboglcdgeheaaFrameG
import Derived.Deep.Slices
namespace Go.Proofs.Ytbfboglcdgeheaa
set_option linter.unusedVariables false
open Go.RowKit

/-- entries in memory -/
def EntsAt (W : World) (B : Nat) (A : Option Addr) (n : Nat) (es : List Msg.En) : Prop :=
  es.length = n ∧ (0 < n → ∃ x, A = some x ∧ x.block < B ∧ ∀ i e, es[i]? = some e → ∃ A' m k, W.cell? (x.add (3 * i)) = some (.int .i64 e.term) ∧ W.cell? (x.add (3 * i + 1)) = some (.bool e.cmd) ∧ W.cell? (x.add (3 * i + 2)) = some (.slice A' m k) ∧ m ≤ k ∧ Reads W B 1 A' m (bv e.data))
theorem EntsAt.of {W : World} {B : Nat} {A : Option Addr} {n : Nat} {es : List Msg.En} {xs : List Value} (h1 : es.length = n) (h2 : Reads W B 3 A n xs)
    (h3 : ∀ i e, es[i]? = some e → ∃ A' m k, xs[3 * i]? = some (.int .i64 e.term) ∧ xs[3 * i + 1]? = some (.bool e.cmd) ∧ xs[3 * i + 2]? = some (.slice A' m k) ∧ m ≤ k ∧ Reads W B 1 A' m (bv e.data)) : EntsAt W B A n es :=
  ⟨h1, fun hn => by
    obtain ⟨x, hA, hx, hc⟩ := h2.2 hn
    exact ⟨x, hA, hx, fun i e he => by obtain ⟨A', m, k, e1, e2, e3, e4, e5⟩ := h3 i e he; exact ⟨A', m, k, hc _ _ e1, hc _ _ e2, hc _ _ e3, e4, e5⟩⟩⟩
/-- a message in memory -/
structure MsgAt (W : World) (B : Nat) (m : Msg.Mg) (Ae : Option Addr) (ne ce : Nat) (Ad : Option Addr) (nd cd : Nat) : Prop where
  ec : ne ≤ ce
  es : EntsAt W B Ae ne m.es
  dc : nd ≤ cd
  data : Reads W B 1 Ad nd (bv m.data)
/-- its cells -/
def msgC (m : Msg.Mg) (Ae : Option Addr) (ne ce : Nat) (Ad : Option Addr) (nd cd : Nat) : Array Value :=
  #[.int .i64 m.kind, .int .i64 m.fr, .int .i64 m.too, .int .i64 m.term, .int .i64 m.a, .int .i64 m.b, .int .i64 m.c, .bool m.ok, .slice Ae ne ce, .slice Ad nd cd]
theorem EntsAt.below {W W' : World} {B C : Nat} {A : Option Addr} {n : Nat} {es : List Msg.En} (h : EntsAt W B A n es) (hb : Below C W W') (hC : B ≤ C) : EntsAt W' B A n es :=
  ⟨h.1, fun hn => by
    obtain ⟨x, hA, hx, h3⟩ := h.2 hn
    have key : ∀ j u, W.cell? (x.add j) = some u → W'.cell? (x.add j) = some u := fun j u hu => (hb.cell (by rw [show (x.add j).block = x.block from by unfold Addr.add; split <;> rfl]; omega)).trans hu
    exact ⟨x, hA, hx, fun i e he => by
      obtain ⟨A', m, k, e1, e2, e3, e4, e5⟩ := h3 i e he
      exact ⟨A', m, k, key _ _ e1, key _ _ e2, key _ _ e3, e4, e5.keep fun p hp => hb.cell (Nat.lt_of_lt_of_le hp hC)⟩⟩⟩
theorem EntsAt.more {W : World} {B C : Nat} {A : Option Addr} {n : Nat} {es : List Msg.En} (h : EntsAt W B A n es) (hC : B ≤ C) : EntsAt W C A n es :=
  ⟨h.1, fun hn => by
    obtain ⟨x, hA, hx, h3⟩ := h.2 hn
    exact ⟨x, hA, Nat.lt_of_lt_of_le hx hC, fun i e he => by
      obtain ⟨A', m, k, e1, e2, e3, e4, e5⟩ := h3 i e he
      exact ⟨A', m, k, e1, e2, e3, e4, e5.more hC⟩⟩⟩
theorem MsgAt.below {W W' : World} {B C : Nat} {m : Msg.Mg} {Ae Ad : Option Addr} {ne ce nd cd : Nat} (h : MsgAt W B m Ae ne ce Ad nd cd) (hb : Below C W W') (hC : B ≤ C) : MsgAt W' B m Ae ne ce Ad nd cd :=
  ⟨h.ec, h.es.below hb hC, h.dc, h.data.keep fun p hp => hb.cell (Nat.lt_of_lt_of_le hp hC)⟩
theorem MsgAt.more {W : World} {B C : Nat} {m : Msg.Mg} {Ae Ad : Option Addr} {ne ce nd cd : Nat} (h : MsgAt W B m Ae ne ce Ad nd cd) (hC : B ≤ C) : MsgAt W C m Ae ne ce Ad nd cd :=
  ⟨h.ec, h.es.more hC, h.dc, h.data.more hC⟩
theorem MsgAt.nd {W : World} {B : Nat} {m : Msg.Mg} {Ae Ad : Option Addr} {ne ce nd cd : Nat} (h : MsgAt W B m Ae ne ce Ad nd cd) : m.data.length = nd := by
  have := h.data.1; rw [bv_length] at this; omega
theorem MsgAt.ne {W : World} {B : Nat} {m : Msg.Mg} {Ae Ad : Option Addr} {ne ce nd cd : Nat} (h : MsgAt W B m Ae ne ce Ad nd cd) : m.es.length = ne := h.es.1
/-- an entry of a number -/
theorem EntsAt.at_ {W : World} {B i : Nat} {A : Option Addr} {n : Nat} {es : List Msg.En} {e : Msg.En} (h : EntsAt W B A n es) (he : es[i]? = some e) :
    ∃ x A' m k, A = some x ∧ x.block < B ∧ W.cell? ((x.add (i * 3)).add 0) = some (.int .i64 e.term) ∧ W.cell? ((x.add (i * 3)).add 1) = some (.bool e.cmd) ∧ W.cell? ((x.add (i * 3)).add 2) = some (.slice A' m k) ∧ m ≤ k ∧ e.data.length = m ∧ Reads W B 1 A' m (bv e.data) := by
  have hi := (List.getElem?_eq_some_iff.1 he).1
  have h1 := h.1
  obtain ⟨x, hA, hx, h3⟩ := h.2 (by omega)
  obtain ⟨A', m, k, e1, e2, e3, e4, e5⟩ := h3 i e he
  have hm : e.data.length = m := by have := e5.1; rw [bv_length] at this; omega
  refine ⟨x, A', m, k, hA, hx, ?_, ?_, ?_, e4, hm, e5⟩
  all_goals
    rw [Deep.add_add, Nat.mul_comm i 3]
  · exact e1
  · exact e2
  · exact e3
theorem add_blk (x : Addr) (j : Nat) : (x.add j).block = x.block := by unfold Addr.add; split <;> rfl
/-- an entry of a number, in all later worlds -/
theorem EntsAt.later {W : World} {B i : Nat} {A : Option Addr} {n : Nat} {es : List Msg.En} {e : Msg.En} (h : EntsAt W B A n es) (he : es[i]? = some e) :
    ∃ x A' m k, A = some x ∧ m ≤ k ∧ e.data.length = m ∧ ∀ W', Below B W W' → W'.cell? ((x.add (i * 3)).add 0) = some (.int .i64 e.term) ∧ W'.cell? ((x.add (i * 3)).add 1) = some (.bool e.cmd) ∧ W'.cell? ((x.add (i * 3)).add 2) = some (.slice A' m k) ∧ Reads W' B 1 A' m (bv e.data) := by
  obtain ⟨x, A', m, k, e1, e2, f0, f1, f2, e3, e4, e5⟩ := h.at_ he
  refine ⟨x, A', m, k, e1, e3, e4, fun W' hb => ⟨?_, ?_, ?_, e5.below hb⟩⟩
  · rw [hb.cell (by rw [add_blk, add_blk]; exact e2)]; exact f0
  · rw [hb.cell (by rw [add_blk, add_blk]; exact e2)]; exact f1
  · rw [hb.cell (by rw [add_blk, add_blk]; exact e2)]; exact f2
/-- a struct's value, read where it lies -/
theorem run_load_list {P : Program} {W : World} {t k : Nat} {p : Addr} {cs : List Value} (a : TAgg P t k) (hc : ∀ j v, cs[j]? = some v → W.cell? (p.add j) = some v) (hs : cs.length = k) : (Instr.loadAt t (.pointer (some p))).run P W = .ok (.agg cs.toArray) W := by
  have hl : (loadCells p k).run P W = .ok cs.toArray W := by
    have := run_loadCells_list (P := P) W p cs hc
    rw [hs] at this
    exact this
  unfold Instr.loadAt Instr.sureAddr loadVar
  simp [run_isAgg_agg a, run_size a.s, hl]
theorem VRead.load3 {P : Program} {w : World} {t : Nat} {p : Addr} {u v z : Value} {K : Value → Prop} [a : TAgg P t 3] (h0 : w.cell? (p.add 0) = some u) (h1 : w.cell? (p.add 1) = some v) (h2 : w.cell? (p.add 2) = some z) (hk : K (.agg #[u, v, z])) : VRead P (Eq w) (Instr.loadAt t (.pointer (some p))) K :=
  .of1 (run_load_list (cs := [u, v, z]) a (fun j x hj => by
    match j, hj with
    | 0, hj => rw [h0]; simpa using hj
    | 1, hj => rw [h1]; simpa using hj
    | 2, hj => rw [h2]; simpa using hj) rfl) hk
theorem VRead.idxA {P : Program} {S : World → Prop} {t n e j : Nat} {cs : Array Value} {v : Value} {kk : IntKind} {K : Value → Prop} [i : TArr P t n e 1] [c : TCell P e] (h : j < n) (hv : cs.toList[j]? = some v) (hk : K v) : VRead P S (Instr.index t (.agg cs) (.int kk (j : Int))) K := by
  refine .ofW (v := v) (fun W => ?_) hk
  have hv' : cs[j]? = some v := by rw [← hv]; simp
  unfold Instr.index Go.part
  simp [asIntOf, run_underlying i.u, run_isAgg_cell c.c, run_size i.s, hv', h]

noncomputable def Msg.chk (m : Msg.Mg) : Bool := @decide (Msg.Ok m) (Classical.propDecidable _)
theorem Msg.chk_yes {m : Msg.Mg} (h : Msg.Ok m) : Msg.chk m = true := @decide_eq_true _ (Classical.propDecidable _) h
theorem Msg.chk_no {m : Msg.Mg} (h : ¬ Msg.Ok m) : Msg.chk m = false := @decide_eq_false _ (Classical.propDecidable _) h
theorem Msg.Ok.iff {m : Msg.Mg} {ne nd : Nat} (h1 : m.es.length = ne) (h2 : m.data.length = nd) : Msg.Ok m ↔ ((1 ≤ m.kind ∧ m.kind ≤ 7 ∧ 1 ≤ m.fr ∧ m.fr ≤ 999 ∧ 1 ≤ m.too ∧ m.too ≤ 999 ∧ 0 ≤ m.term ∧ m.term ≤ 1099511627776 ∧ 0 ≤ m.a ∧ m.a ≤ 1099511627776 ∧ 0 ≤ m.b ∧ m.b ≤ 1099511627776 ∧ 0 ≤ m.c ∧ m.c ≤ 1099511627776 ∧ ne ≤ 8) ∧
    (∀ e ∈ m.es, 1 ≤ e.term ∧ e.term ≤ 1099511627776) ∧ Msg.tot m.es + nd ≤ 1047576 ∧ (ne = 0 ∨ m.kind = 3) ∧ (nd = 0 ∨ 5 ≤ m.kind)) := by
  subst h1 h2
  constructor
  · intro h
    have a1 := h.kind; have a2 := h.fr; have a3 := h.too; have a4 := h.term; have a5 := h.a; have a6 := h.b; have a7 := h.c; have a8 := h.es8
    refine ⟨by omega, h.ents, h.size, h.one.imp (fun e => by rw [e]; rfl) id, h.two.imp (fun e => by rw [e]; rfl) id⟩
  · rintro ⟨⟨a1, a2, a3, a4, a5, a6, a7, a8, a9, a10, a11, a12, a13, a14, a15⟩, h1, h2, h3, h4⟩
    exact ⟨⟨a1, a2⟩, ⟨a3, a4⟩, ⟨a5, a6⟩, ⟨a7, a8⟩, ⟨a9, a10⟩, ⟨a11, a12⟩, ⟨a13, a14⟩, a15, h1, h2, h3.imp (fun e => List.eq_nil_of_length_eq_zero e) id, h4.imp (fun e => List.eq_nil_of_length_eq_zero e) id⟩
theorem Msg.tot_take : ∀ (es : List Msg.En) {i : Nat} {e : Msg.En}, es[i]? = some e → Msg.tot (es.take (i + 1)) = Msg.tot (es.take i) + e.data.length
  | x :: es, 0, e, h => by simp at h; subst h; simp [Msg.tot]
  | x :: es, i + 1, e, h => by
    have := Msg.tot_take es (i := i) (e := e) (by simpa using h)
    simp only [List.take_succ_cons, Msg.tot] at this ⊢
    omega
theorem Msg.tot_le : ∀ (es : List Msg.En) (i : Nat), Msg.tot (es.take i) ≤ Msg.tot es
  | [], i => by simp
  | x :: es, 0 => by simp [Msg.tot]
  | x :: es, i + 1 => by
    have := Msg.tot_le es i
    simp only [List.take_succ_cons, Msg.tot]
    omega
/-- is it not too much? -/
def Msg.small (m : Msg.Mg) : Prop := m.data.length ≤ 5000 ∧ m.es.length ≤ 40 ∧ ∀ e ∈ m.es, e.data.length ≤ 5000
set_option maxRecDepth 10000 in
theorem small_any (m : Msg.Mg) (Ae Ad : Option Addr) (ne ce nd cd : Nat) (w : World) (h : MsgAt w w.heap.size m Ae ne ce Ad nd cd) :
    Calls Try.prog 8 #[.agg (msgC m Ae ne ce Ad nd cd)] w fun e w' => ((Msg.small m ∧ e = .returned (.bool true)) ∨ e = .returned (.bool false)) ∧ Below w.heap.size w w' := by
  have hnd := h.nd
  have hne := h.ne
  refine calls_vc Try.func8 rfl (by kernel_rfl) ?_
  ((conv => whnf); (repeat ((first | (refine VL.cons ?_) | (refine VL.nil ?_) | (refine VC.seqS rfl ?_) | (refine VC.region ?_) | (refine VC.draw ?_) | (refine VC.cond ?_) | (refine VC.block ?_) | (refine VC.exit ?_) | (refine VC.ret ?_) | (refine VC.skip ?_) | (refine VC.label ?_) | (refine VC.scope ?_) | (refine VQ.cons ?_) | (refine VQ.nil ?_) | (refine VG.nil ?_) | (refine VG.cons ?_)); (conv => whnf))))
  ((repeat ((first | (refine VL.cons ?_) | (refine VL.nil ?_) | (refine VC.seqS rfl ?_) | (refine VC.region ?_) | (refine VC.draw ?_) | (refine VC.cond ?_) | (refine VC.block ?_) | (refine VC.exit ?_) | (refine VC.ret ?_) | (refine VC.skip ?_) | (refine VC.label ?_) | (refine VC.scope ?_) | (refine VQ.cons ?_) | (refine VQ.nil ?_) | (refine VG.nil ?_) | (refine VG.cons ?_) | (refine VBool.t ?_) | (refine VBool.f ?_) | (refine VBool.dT (by omega) ?_) | (refine VBool.dF (by omega) ?_) | (refine VBool.nT (by omega) ?_) | (refine VBool.nF (by omega) ?_) | (refine VRead.lenS ?_) | (refine VRead.lenT ?_) | (refine VRead.fld ?_) | (refine VRead.load1 (by assumption) ?_) | (refine VRead.load (by assumption) ?_) | (refine VRead.neB ?_) | (refine VRead.eqPN ?_) | (refine VRead.nePN ?_) | (refine VRead.eqB ?_) | (refine VBool.nT rfl ?_) | (refine VBool.dT rfl ?_) | (refine VWrap.i64 (by omega) (by omega) ?_) | (refine VWrap.u64 (by omega) (by omega) ?_) | (refine VRead.at1 (by omega) ?_) | (refine VSem.convI ?_) | (refine VRead.convI ?_) | (refine VRead.rem (by omega) (by decide) ?_) | (refine VRead.neg ?_) | (refine VC.seq ?_)); (conv => whnf))))
  refine VSem.boxB ?_
  intro w1 g hb hg hl hB1
  replace hb : Blk w1 g 25 (msgC m Ae ne ce Ad nd cd) := hb
  have h1 := h.below hB1 (Nat.le_refl _)
  by_cases h5 : 5000 < nd
  · ((conv => whnf); (repeat ((first | (refine VL.cons ?_) | (refine VL.nil ?_) | (refine VC.seqS rfl ?_) | (refine VC.region ?_) | (refine VC.draw ?_) | (refine VC.cond ?_) | (refine VC.block ?_) | (refine VC.exit ?_) | (refine VC.ret ?_) | (refine VC.skip ?_) | (refine VC.label ?_) | (refine VC.scope ?_) | (refine VQ.cons ?_) | (refine VQ.nil ?_) | (refine VG.nil ?_) | (refine VG.cons ?_)); (conv => whnf))))
    (repeat (first | ((first | (refine VL.cons ?_) | (refine VL.nil ?_) | (refine VC.seqS rfl ?_) | (refine VC.region ?_) | (refine VC.draw ?_) | (refine VC.cond ?_) | (refine VC.block ?_) | (refine VC.exit ?_) | (refine VC.ret ?_) | (refine VC.skip ?_) | (refine VC.label ?_) | (refine VC.scope ?_) | (refine VQ.cons ?_) | (refine VQ.nil ?_) | (refine VG.nil ?_) | (refine VG.cons ?_) | (refine VBool.t ?_) | (refine VBool.f ?_) | (refine VBool.dT (by omega) ?_) | (refine VBool.dF (by omega) ?_) | (refine VBool.nT (by omega) ?_) | (refine VBool.nF (by omega) ?_) | (refine VRead.lenS ?_) | (refine VRead.lenT ?_) | (refine VRead.fld ?_) | (refine VRead.load1 (by assumption) ?_) | (refine VRead.load (by assumption) ?_) | (refine VRead.neB ?_) | (refine VRead.eqPN ?_) | (refine VRead.nePN ?_) | (refine VRead.eqB ?_) | (refine VBool.nT rfl ?_) | (refine VBool.dT rfl ?_) | (refine VWrap.i64 (by omega) (by omega) ?_) | (refine VWrap.u64 (by omega) (by omega) ?_) | (refine VRead.at1 (by omega) ?_) | (refine VSem.convI ?_) | (refine VRead.convI ?_) | (refine VRead.rem (by omega) (by decide) ?_) | (refine VRead.neg ?_) | (refine VC.seq ?_)); (conv => whnf)) | (refine VRead.loadB hb rfl rfl ?_; (conv => whnf))))
    exact ⟨.inr rfl, hB1⟩
  by_cases h4 : 40 < ne
  · ((conv => whnf); (repeat ((first | (refine VL.cons ?_) | (refine VL.nil ?_) | (refine VC.seqS rfl ?_) | (refine VC.region ?_) | (refine VC.draw ?_) | (refine VC.cond ?_) | (refine VC.block ?_) | (refine VC.exit ?_) | (refine VC.ret ?_) | (refine VC.skip ?_) | (refine VC.label ?_) | (refine VC.scope ?_) | (refine VQ.cons ?_) | (refine VQ.nil ?_) | (refine VG.nil ?_) | (refine VG.cons ?_)); (conv => whnf))))
    (repeat (first | ((first | (refine VL.cons ?_) | (refine VL.nil ?_) | (refine VC.seqS rfl ?_) | (refine VC.region ?_) | (refine VC.draw ?_) | (refine VC.cond ?_) | (refine VC.block ?_) | (refine VC.exit ?_) | (refine VC.ret ?_) | (refine VC.skip ?_) | (refine VC.label ?_) | (refine VC.scope ?_) | (refine VQ.cons ?_) | (refine VQ.nil ?_) | (refine VG.nil ?_) | (refine VG.cons ?_) | (refine VBool.t ?_) | (refine VBool.f ?_) | (refine VBool.dT (by omega) ?_) | (refine VBool.dF (by omega) ?_) | (refine VBool.nT (by omega) ?_) | (refine VBool.nF (by omega) ?_) | (refine VRead.lenS ?_) | (refine VRead.lenT ?_) | (refine VRead.fld ?_) | (refine VRead.load1 (by assumption) ?_) | (refine VRead.load (by assumption) ?_) | (refine VRead.neB ?_) | (refine VRead.eqPN ?_) | (refine VRead.nePN ?_) | (refine VRead.eqB ?_) | (refine VBool.nT rfl ?_) | (refine VBool.dT rfl ?_) | (refine VWrap.i64 (by omega) (by omega) ?_) | (refine VWrap.u64 (by omega) (by omega) ?_) | (refine VRead.at1 (by omega) ?_) | (refine VSem.convI ?_) | (refine VRead.convI ?_) | (refine VRead.rem (by omega) (by decide) ?_) | (refine VRead.neg ?_) | (refine VC.seq ?_)); (conv => whnf)) | (refine VRead.loadB hb rfl rfl ?_; (conv => whnf))))
    exact ⟨.inr rfl, hB1⟩
  ((conv => whnf); (repeat ((first | (refine VL.cons ?_) | (refine VL.nil ?_) | (refine VC.seqS rfl ?_) | (refine VC.region ?_) | (refine VC.draw ?_) | (refine VC.cond ?_) | (refine VC.block ?_) | (refine VC.exit ?_) | (refine VC.ret ?_) | (refine VC.skip ?_) | (refine VC.label ?_) | (refine VC.scope ?_) | (refine VQ.cons ?_) | (refine VQ.nil ?_) | (refine VG.nil ?_) | (refine VG.cons ?_)); (conv => whnf))))
  (repeat (first | ((first | (refine VL.cons ?_) | (refine VL.nil ?_) | (refine VC.seqS rfl ?_) | (refine VC.region ?_) | (refine VC.draw ?_) | (refine VC.cond ?_) | (refine VC.block ?_) | (refine VC.exit ?_) | (refine VC.ret ?_) | (refine VC.skip ?_) | (refine VC.label ?_) | (refine VC.scope ?_) | (refine VQ.cons ?_) | (refine VQ.nil ?_) | (refine VG.nil ?_) | (refine VG.cons ?_) | (refine VBool.t ?_) | (refine VBool.f ?_) | (refine VBool.dT (by omega) ?_) | (refine VBool.dF (by omega) ?_) | (refine VBool.nT (by omega) ?_) | (refine VBool.nF (by omega) ?_) | (refine VRead.lenS ?_) | (refine VRead.lenT ?_) | (refine VRead.fld ?_) | (refine VRead.load1 (by assumption) ?_) | (refine VRead.load (by assumption) ?_) | (refine VRead.neB ?_) | (refine VRead.eqPN ?_) | (refine VRead.nePN ?_) | (refine VRead.eqB ?_) | (refine VBool.nT rfl ?_) | (refine VBool.dT rfl ?_) | (refine VWrap.i64 (by omega) (by omega) ?_) | (refine VWrap.u64 (by omega) (by omega) ?_) | (refine VRead.at1 (by omega) ?_) | (refine VSem.convI ?_) | (refine VRead.convI ?_) | (refine VRead.rem (by omega) (by decide) ?_) | (refine VRead.neg ?_) | (refine VC.seq ?_)); (conv => whnf)) | (refine VRead.loadB hb rfl rfl ?_; (conv => whnf))))
  refine VC.loop [4] [(2, 2), (4, 4), (16, 30)] (fun q vs W => ∃ k : Nat, vs = [.int .i64 (k : Int)] ∧ q = ne - k ∧ k ≤ ne ∧ (∀ e ∈ m.es.take k, e.data.length ≤ 5000) ∧ W = w1) (by kernel_rfl)
    ⟨_, 0, rfl, rfl, by omega, fun e he => by simp at he, rfl⟩ ?_
  rintro q τ vs W ⟨k, rfl, rfl, hk, hall, rfl⟩
  by_cases hlt : k < ne
  · obtain ⟨e, he⟩ : ∃ e, m.es[k]? = some e := ⟨_, List.getElem?_eq_getElem (by omega)⟩
    obtain ⟨x, A', d, c', rfl, hx, f0, f1, f2, hdc, hdl, hrd⟩ := h1.es.at_ he
    by_cases hbig : 5000 < d
    · ((conv => whnf); (repeat ((first | (refine VL.cons ?_) | (refine VL.nil ?_) | (refine VC.seqS rfl ?_) | (refine VC.region ?_) | (refine VC.draw ?_) | (refine VC.cond ?_) | (refine VC.block ?_) | (refine VC.exit ?_) | (refine VC.ret ?_) | (refine VC.skip ?_) | (refine VC.label ?_) | (refine VC.scope ?_) | (refine VQ.cons ?_) | (refine VQ.nil ?_) | (refine VG.nil ?_) | (refine VG.cons ?_)); (conv => whnf))))
      (repeat (first | ((first | (refine VL.cons ?_) | (refine VL.nil ?_) | (refine VC.seqS rfl ?_) | (refine VC.region ?_) | (refine VC.draw ?_) | (refine VC.cond ?_) | (refine VC.block ?_) | (refine VC.exit ?_) | (refine VC.ret ?_) | (refine VC.skip ?_) | (refine VC.label ?_) | (refine VC.scope ?_) | (refine VQ.cons ?_) | (refine VQ.nil ?_) | (refine VG.nil ?_) | (refine VG.cons ?_) | (refine VBool.t ?_) | (refine VBool.f ?_) | (refine VBool.dT (by omega) ?_) | (refine VBool.dF (by omega) ?_) | (refine VBool.nT (by omega) ?_) | (refine VBool.nF (by omega) ?_) | (refine VRead.lenS ?_) | (refine VRead.lenT ?_) | (refine VRead.fld ?_) | (refine VRead.load1 (by assumption) ?_) | (refine VRead.load (by assumption) ?_) | (refine VRead.neB ?_) | (refine VRead.eqPN ?_) | (refine VRead.nePN ?_) | (refine VRead.eqB ?_) | (refine VBool.nT rfl ?_) | (refine VBool.dT rfl ?_) | (refine VWrap.i64 (by omega) (by omega) ?_) | (refine VWrap.u64 (by omega) (by omega) ?_) | (refine VRead.at1 (by omega) ?_) | (refine VSem.convI ?_) | (refine VRead.convI ?_) | (refine VRead.rem (by omega) (by decide) ?_) | (refine VRead.neg ?_) | (refine VC.seq ?_)); (conv => whnf)) | (refine VRead.loadB hb rfl rfl ?_; (conv => whnf)) | (refine VRead.atK hlt ?_; (conv => whnf)) | (refine VRead.load1 f2 ?_; (conv => whnf))))
      exact ⟨.inr rfl, hB1⟩
    · ((conv => whnf); (repeat ((first | (refine VL.cons ?_) | (refine VL.nil ?_) | (refine VC.seqS rfl ?_) | (refine VC.region ?_) | (refine VC.draw ?_) | (refine VC.cond ?_) | (refine VC.block ?_) | (refine VC.exit ?_) | (refine VC.ret ?_) | (refine VC.skip ?_) | (refine VC.label ?_) | (refine VC.scope ?_) | (refine VQ.cons ?_) | (refine VQ.nil ?_) | (refine VG.nil ?_) | (refine VG.cons ?_)); (conv => whnf))))
      (repeat (first | ((first | (refine VL.cons ?_) | (refine VL.nil ?_) | (refine VC.seqS rfl ?_) | (refine VC.region ?_) | (refine VC.draw ?_) | (refine VC.cond ?_) | (refine VC.block ?_) | (refine VC.exit ?_) | (refine VC.ret ?_) | (refine VC.skip ?_) | (refine VC.label ?_) | (refine VC.scope ?_) | (refine VQ.cons ?_) | (refine VQ.nil ?_) | (refine VG.nil ?_) | (refine VG.cons ?_) | (refine VBool.t ?_) | (refine VBool.f ?_) | (refine VBool.dT (by omega) ?_) | (refine VBool.dF (by omega) ?_) | (refine VBool.nT (by omega) ?_) | (refine VBool.nF (by omega) ?_) | (refine VRead.lenS ?_) | (refine VRead.lenT ?_) | (refine VRead.fld ?_) | (refine VRead.load1 (by assumption) ?_) | (refine VRead.load (by assumption) ?_) | (refine VRead.neB ?_) | (refine VRead.eqPN ?_) | (refine VRead.nePN ?_) | (refine VRead.eqB ?_) | (refine VBool.nT rfl ?_) | (refine VBool.dT rfl ?_) | (refine VWrap.i64 (by omega) (by omega) ?_) | (refine VWrap.u64 (by omega) (by omega) ?_) | (refine VRead.at1 (by omega) ?_) | (refine VSem.convI ?_) | (refine VRead.convI ?_) | (refine VRead.rem (by omega) (by decide) ?_) | (refine VRead.neg ?_) | (refine VC.seq ?_)); (conv => whnf)) | (refine VRead.loadB hb rfl rfl ?_; (conv => whnf)) | (refine VRead.atK hlt ?_; (conv => whnf)) | (refine VRead.load1 f2 ?_; (conv => whnf))))
      refine ⟨_, by omega, k + 1, rfl, rfl, by omega, fun e' he' => ?_, rfl⟩
      rw [List.take_add_one, he] at he'
      rcases List.mem_append.1 he' with h' | h'
      · exact hall e' h'
      · have : e' = e := by simpa using h'
        subst this; omega
  · ((conv => whnf); (repeat ((first | (refine VL.cons ?_) | (refine VL.nil ?_) | (refine VC.seqS rfl ?_) | (refine VC.region ?_) | (refine VC.draw ?_) | (refine VC.cond ?_) | (refine VC.block ?_) | (refine VC.exit ?_) | (refine VC.ret ?_) | (refine VC.skip ?_) | (refine VC.label ?_) | (refine VC.scope ?_) | (refine VQ.cons ?_) | (refine VQ.nil ?_) | (refine VG.nil ?_) | (refine VG.cons ?_)); (conv => whnf))))
    (repeat (first | ((first | (refine VL.cons ?_) | (refine VL.nil ?_) | (refine VC.seqS rfl ?_) | (refine VC.region ?_) | (refine VC.draw ?_) | (refine VC.cond ?_) | (refine VC.block ?_) | (refine VC.exit ?_) | (refine VC.ret ?_) | (refine VC.skip ?_) | (refine VC.label ?_) | (refine VC.scope ?_) | (refine VQ.cons ?_) | (refine VQ.nil ?_) | (refine VG.nil ?_) | (refine VG.cons ?_) | (refine VBool.t ?_) | (refine VBool.f ?_) | (refine VBool.dT (by omega) ?_) | (refine VBool.dF (by omega) ?_) | (refine VBool.nT (by omega) ?_) | (refine VBool.nF (by omega) ?_) | (refine VRead.lenS ?_) | (refine VRead.lenT ?_) | (refine VRead.fld ?_) | (refine VRead.load1 (by assumption) ?_) | (refine VRead.load (by assumption) ?_) | (refine VRead.neB ?_) | (refine VRead.eqPN ?_) | (refine VRead.nePN ?_) | (refine VRead.eqB ?_) | (refine VBool.nT rfl ?_) | (refine VBool.dT rfl ?_) | (refine VWrap.i64 (by omega) (by omega) ?_) | (refine VWrap.u64 (by omega) (by omega) ?_) | (refine VRead.at1 (by omega) ?_) | (refine VSem.convI ?_) | (refine VRead.convI ?_) | (refine VRead.rem (by omega) (by decide) ?_) | (refine VRead.neg ?_) | (refine VC.seq ?_)); (conv => whnf)) | (refine VRead.loadB hb rfl rfl ?_; (conv => whnf))))
    refine ⟨.inl ⟨⟨by omega, by omega, fun e he => hall e ?_⟩, rfl⟩, hB1⟩
    rw [List.take_of_length_le (by omega)]
    exact he
end Go.Proofs.Ytbfboglcdgeheaa
