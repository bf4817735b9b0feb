/- msg.Put. No condition. -/
import Derived.Test.YtbfboglcdgeheaaMsgE
namespace Go.Proofs.Ytbfboglcdgeheaa
set_option linter.unusedVariables false
open Go.RowKit

theorem Blk.fld {W X : World} {g i : Nat} {T : TypeId} {cs : Array Value} {v : Value} (hb : Blk W g T cs) (hv : cs.toList[i]? = some v) (hX : Below W.heap.size W X) : X.cell? ((⟨g, 0, none⟩ : Addr).add i) = some v := by
  have h := (hb.below hX hb.lt).cell i
  rw [show (⟨g, 0, none⟩ : Addr).add i = ⟨g, i, none⟩ from by unfold Addr.add; split <;> simp_all, h, ← hv]
  simp
def Msg.seven (m : Msg.Mg) : List Int := [m.kind, m.fr, m.too, m.term, m.a, m.b, m.c]
def Msg.ints (m : Msg.Mg) (k : Nat) : List UInt8 := ((Msg.seven m).take k).flatMap Wire.int
theorem Msg.ints_len (m : Msg.Mg) (k : Nat) (hk : k ≤ 7) : (Msg.ints m k).length ≤ 10 * k := by
  unfold Msg.ints
  rw [List.length_flatMap]
  have h : ∀ l : List Int, (l.map fun a => (Wire.int a).length).sum ≤ 10 * l.length := fun l => by
    induction l with
    | nil => simp
    | cons a l ih => have := Wire.int_len a; simp only [List.map_cons, List.sum_cons, List.length_cons]; omega
  have := h ((Msg.seven m).take k)
  rw [List.length_take] at this
  omega
theorem Msg.ints_succ {m : Msg.Mg} {k : Nat} {v : Int} (h : (Msg.seven m)[k]? = some v) : Msg.ints m (k + 1) = Msg.ints m k ++ Wire.int v := by
  unfold Msg.ints
  rw [List.take_add_one, h, List.flatMap_append]
  simp
def Msg.head (m : Msg.Mg) : List UInt8 := Msg.ints m 7 ++ Wire.bool m.ok ++ Wire.int (m.es.length : Int)
theorem Msg.head_len (m : Msg.Mg) : (Msg.head m).length ≤ 81 := by
  have h1 := Msg.ints_len m 7 (Nat.le_refl _)
  have h2 := Wire.int_len (m.es.length : Int)
  simp only [Msg.head, List.length_append, Wire.bool, List.length_cons, List.length_nil]
  omega
theorem Msg.body_head (m : Msg.Mg) : Msg.body m = Msg.head m ++ Msg.ents m.es ++ Wire.text m.data := by
  simp [Msg.body, Msg.head, Msg.ints, Msg.seven, List.append_assoc]
theorem Msg.ents_succ : ∀ (es : List Msg.En) {j : Nat} {e : Msg.En}, es[j]? = some e → Msg.ents (es.take (j + 1)) = Msg.ents (es.take j) ++ Msg.ent e
  | x :: es, 0, e, h => by simp at h; subst h; simp [Msg.ents]
  | x :: es, j + 1, e, h => by
    have := Msg.ents_succ es (j := j) (e := e) (by simpa using h)
    simp only [List.take_succ_cons, Msg.ents, List.append_assoc] at this ⊢
    rw [this]
theorem Msg.seven_ok {m : Msg.Mg} (h : Msg.Ok m) {k : Nat} {v : Int} (hv : (Msg.seven m)[k]? = some v) : 0 ≤ v ∧ v ≤ 1099511627776 := by
  have hm := List.mem_of_getElem? hv
  have a1 := h.kind; have a2 := h.fr; have a3 := h.too; have a4 := h.term; have a5 := h.a; have a6 := h.b; have a7 := h.c
  simp only [Msg.seven, List.mem_cons, List.not_mem_nil, or_false] at hm
  rcases hm with rfl | rfl | rfl | rfl | rfl | rfl | rfl <;> omega
set_option maxRecDepth 10000 in
set_option maxHeartbeats 2000000 in
theorem put_no (m : Msg.Mg) (Ae Ad : Option Addr) (ne ce nd cd : Nat) (w : World) (h : MsgAt w w.heap.size m Ae ne ce Ad nd cd) (hok : ¬ Msg.Ok m) :
    Calls Try.prog 11 #[.agg (msgC m Ae ne ce Ad nd cd)] w fun e w' => e = .returned (.tuple #[.slice none 0 0, .int .i64 1]) ∧ Below w.heap.size w w' := by
  refine calls_vc Try.func11 rfl (by kernel_rfl) ?_
  ((conv => whnf); (repeat ((first | (refine VL.cons ?_) | (refine VL.nil ?_) | (refine VC.seqS rfl ?_) | (refine VC.region ?_) | (refine VC.draw ?_) | (refine VC.cond ?_) | (refine VC.block ?_) | (refine VC.exit ?_) | (refine VC.ret ?_) | (refine VC.skip ?_) | (refine VC.label ?_) | (refine VC.scope ?_) | (refine VQ.cons ?_) | (refine VQ.nil ?_) | (refine VG.nil ?_) | (refine VG.cons ?_)); (conv => whnf))))
  ((repeat ((first | (refine VL.cons ?_) | (refine VL.nil ?_) | (refine VC.seqS rfl ?_) | (refine VC.region ?_) | (refine VC.draw ?_) | (refine VC.cond ?_) | (refine VC.block ?_) | (refine VC.exit ?_) | (refine VC.ret ?_) | (refine VC.skip ?_) | (refine VC.label ?_) | (refine VC.scope ?_) | (refine VQ.cons ?_) | (refine VQ.nil ?_) | (refine VG.nil ?_) | (refine VG.cons ?_) | (refine VBool.t ?_) | (refine VBool.f ?_) | (refine VBool.dT (by omega) ?_) | (refine VBool.dF (by omega) ?_) | (refine VBool.nT (by omega) ?_) | (refine VBool.nF (by omega) ?_) | (refine VRead.lenS ?_) | (refine VRead.lenT ?_) | (refine VRead.fld ?_) | (refine VRead.load1 (by assumption) ?_) | (refine VRead.load (by assumption) ?_) | (refine VRead.neB ?_) | (refine VRead.eqPN ?_) | (refine VRead.nePN ?_) | (refine VRead.eqB ?_) | (refine VBool.nT rfl ?_) | (refine VBool.dT rfl ?_) | (refine VWrap.i64 (by omega) (by omega) ?_) | (refine VWrap.u64 (by omega) (by omega) ?_) | (refine VRead.at1 (by omega) ?_) | (refine VSem.convI ?_) | (refine VRead.convI ?_) | (refine VRead.rem (by omega) (by decide) ?_) | (refine VRead.neg ?_) | (refine VC.seq ?_)); (conv => whnf))))
  refine VSem.boxB ?_
  intro w1 g hb hg hl hB1
  replace hb : Blk w1 g 25 (msgC m Ae ne ce Ad nd cd) := hb
  have h1 := (h.below hB1 (Nat.le_refl _)).more hB1.size
  ((conv => whnf); (repeat ((first | (refine VL.cons ?_) | (refine VL.nil ?_) | (refine VC.seqS rfl ?_) | (refine VC.region ?_) | (refine VC.draw ?_) | (refine VC.cond ?_) | (refine VC.block ?_) | (refine VC.exit ?_) | (refine VC.ret ?_) | (refine VC.skip ?_) | (refine VC.label ?_) | (refine VC.scope ?_) | (refine VQ.cons ?_) | (refine VQ.nil ?_) | (refine VG.nil ?_) | (refine VG.cons ?_)); (conv => whnf))))
  ((repeat ((first | (refine VL.cons ?_) | (refine VL.nil ?_) | (refine VC.seqS rfl ?_) | (refine VC.region ?_) | (refine VC.draw ?_) | (refine VC.cond ?_) | (refine VC.block ?_) | (refine VC.exit ?_) | (refine VC.ret ?_) | (refine VC.skip ?_) | (refine VC.label ?_) | (refine VC.scope ?_) | (refine VQ.cons ?_) | (refine VQ.nil ?_) | (refine VG.nil ?_) | (refine VG.cons ?_) | (refine VBool.t ?_) | (refine VBool.f ?_) | (refine VBool.dT (by omega) ?_) | (refine VBool.dF (by omega) ?_) | (refine VBool.nT (by omega) ?_) | (refine VBool.nF (by omega) ?_) | (refine VRead.lenS ?_) | (refine VRead.lenT ?_) | (refine VRead.fld ?_) | (refine VRead.load1 (by assumption) ?_) | (refine VRead.load (by assumption) ?_) | (refine VRead.neB ?_) | (refine VRead.eqPN ?_) | (refine VRead.nePN ?_) | (refine VRead.eqB ?_) | (refine VBool.nT rfl ?_) | (refine VBool.dT rfl ?_) | (refine VWrap.i64 (by omega) (by omega) ?_) | (refine VWrap.u64 (by omega) (by omega) ?_) | (refine VRead.at1 (by omega) ?_) | (refine VSem.convI ?_) | (refine VRead.convI ?_) | (refine VRead.rem (by omega) (by decide) ?_) | (refine VRead.neg ?_) | (refine VC.seq ?_)); (conv => whnf))))
  refine VRead.loadAB1 hb rfl rfl ?_
  ((conv => whnf); (repeat ((first | (refine VL.cons ?_) | (refine VL.nil ?_) | (refine VC.seqS rfl ?_) | (refine VC.region ?_) | (refine VC.draw ?_) | (refine VC.cond ?_) | (refine VC.block ?_) | (refine VC.exit ?_) | (refine VC.ret ?_) | (refine VC.skip ?_) | (refine VC.label ?_) | (refine VC.scope ?_) | (refine VQ.cons ?_) | (refine VQ.nil ?_) | (refine VG.nil ?_) | (refine VG.cons ?_)); (conv => whnf))))
  ((repeat ((first | (refine VL.cons ?_) | (refine VL.nil ?_) | (refine VC.seqS rfl ?_) | (refine VC.region ?_) | (refine VC.draw ?_) | (refine VC.cond ?_) | (refine VC.block ?_) | (refine VC.exit ?_) | (refine VC.ret ?_) | (refine VC.skip ?_) | (refine VC.label ?_) | (refine VC.scope ?_) | (refine VQ.cons ?_) | (refine VQ.nil ?_) | (refine VG.nil ?_) | (refine VG.cons ?_) | (refine VBool.t ?_) | (refine VBool.f ?_) | (refine VBool.dT (by omega) ?_) | (refine VBool.dF (by omega) ?_) | (refine VBool.nT (by omega) ?_) | (refine VBool.nF (by omega) ?_) | (refine VRead.lenS ?_) | (refine VRead.lenT ?_) | (refine VRead.fld ?_) | (refine VRead.load1 (by assumption) ?_) | (refine VRead.load (by assumption) ?_) | (refine VRead.neB ?_) | (refine VRead.eqPN ?_) | (refine VRead.nePN ?_) | (refine VRead.eqB ?_) | (refine VBool.nT rfl ?_) | (refine VBool.dT rfl ?_) | (refine VWrap.i64 (by omega) (by omega) ?_) | (refine VWrap.u64 (by omega) (by omega) ?_) | (refine VRead.at1 (by omega) ?_) | (refine VSem.convI ?_) | (refine VRead.convI ?_) | (refine VRead.rem (by omega) (by decide) ?_) | (refine VRead.neg ?_) | (refine VC.seq ?_)); (conv => whnf))))
  refine VCall.of (check_any m Ae Ad ne ce nd cd w1 h1) ?_
  rintro e w2 ⟨rfl, hB2⟩
  refine ⟨_, rfl, ?_⟩
  rw [Msg.chk_no hok]
  ((conv => whnf); (repeat ((first | (refine VL.cons ?_) | (refine VL.nil ?_) | (refine VC.seqS rfl ?_) | (refine VC.region ?_) | (refine VC.draw ?_) | (refine VC.cond ?_) | (refine VC.block ?_) | (refine VC.exit ?_) | (refine VC.ret ?_) | (refine VC.skip ?_) | (refine VC.label ?_) | (refine VC.scope ?_) | (refine VQ.cons ?_) | (refine VQ.nil ?_) | (refine VG.nil ?_) | (refine VG.cons ?_)); (conv => whnf))))
  ((repeat ((first | (refine VL.cons ?_) | (refine VL.nil ?_) | (refine VC.seqS rfl ?_) | (refine VC.region ?_) | (refine VC.draw ?_) | (refine VC.cond ?_) | (refine VC.block ?_) | (refine VC.exit ?_) | (refine VC.ret ?_) | (refine VC.skip ?_) | (refine VC.label ?_) | (refine VC.scope ?_) | (refine VQ.cons ?_) | (refine VQ.nil ?_) | (refine VG.nil ?_) | (refine VG.cons ?_) | (refine VBool.t ?_) | (refine VBool.f ?_) | (refine VBool.dT (by omega) ?_) | (refine VBool.dF (by omega) ?_) | (refine VBool.nT (by omega) ?_) | (refine VBool.nF (by omega) ?_) | (refine VRead.lenS ?_) | (refine VRead.lenT ?_) | (refine VRead.fld ?_) | (refine VRead.load1 (by assumption) ?_) | (refine VRead.load (by assumption) ?_) | (refine VRead.neB ?_) | (refine VRead.eqPN ?_) | (refine VRead.nePN ?_) | (refine VRead.eqB ?_) | (refine VBool.nT rfl ?_) | (refine VBool.dT rfl ?_) | (refine VWrap.i64 (by omega) (by omega) ?_) | (refine VWrap.u64 (by omega) (by omega) ?_) | (refine VRead.at1 (by omega) ?_) | (refine VSem.convI ?_) | (refine VRead.convI ?_) | (refine VRead.rem (by omega) (by decide) ?_) | (refine VRead.neg ?_) | (refine VC.seq ?_)); (conv => whnf))))
  exact ⟨rfl, hB1.trans (hB2.mono hB1.size)⟩
set_option maxRecDepth 10000 in
set_option maxHeartbeats 2000000 in
theorem put_yes (m : Msg.Mg) (Ae Ad : Option Addr) (ne ce nd cd : Nat) (w : World) (h : MsgAt w w.heap.size m Ae ne ce Ad nd cd) (hok : Msg.Ok m) :
    Calls Try.prog 11 #[.agg (msgC m Ae ne ce Ad nd cd)] w fun e w' => ∃ A' k c', e = .returned (.tuple #[.slice A' k c', .int .i64 0]) ∧ Own w' w.heap.size (.slice A' k c') k (Msg.put m) ∧ Below w.heap.size w w' := by
  have hne := h.ne
  have hnd := h.nd
  have h8 := hok.es8
  have hsz := hok.size
  have hel := Msg.ents_len m.es
  have hbl := Msg.body_len hok
  refine calls_vc Try.func11 rfl (by kernel_rfl) ?_
  ((conv => whnf); (repeat ((first | (refine VL.cons ?_) | (refine VL.nil ?_) | (refine VC.seqS rfl ?_) | (refine VC.region ?_) | (refine VC.draw ?_) | (refine VC.cond ?_) | (refine VC.block ?_) | (refine VC.exit ?_) | (refine VC.ret ?_) | (refine VC.skip ?_) | (refine VC.label ?_) | (refine VC.scope ?_) | (refine VQ.cons ?_) | (refine VQ.nil ?_) | (refine VG.nil ?_) | (refine VG.cons ?_)); (conv => whnf))))
  ((repeat ((first | (refine VL.cons ?_) | (refine VL.nil ?_) | (refine VC.seqS rfl ?_) | (refine VC.region ?_) | (refine VC.draw ?_) | (refine VC.cond ?_) | (refine VC.block ?_) | (refine VC.exit ?_) | (refine VC.ret ?_) | (refine VC.skip ?_) | (refine VC.label ?_) | (refine VC.scope ?_) | (refine VQ.cons ?_) | (refine VQ.nil ?_) | (refine VG.nil ?_) | (refine VG.cons ?_) | (refine VBool.t ?_) | (refine VBool.f ?_) | (refine VBool.dT (by omega) ?_) | (refine VBool.dF (by omega) ?_) | (refine VBool.nT (by omega) ?_) | (refine VBool.nF (by omega) ?_) | (refine VRead.lenS ?_) | (refine VRead.lenT ?_) | (refine VRead.fld ?_) | (refine VRead.load1 (by assumption) ?_) | (refine VRead.load (by assumption) ?_) | (refine VRead.neB ?_) | (refine VRead.eqPN ?_) | (refine VRead.nePN ?_) | (refine VRead.eqB ?_) | (refine VBool.nT rfl ?_) | (refine VBool.dT rfl ?_) | (refine VWrap.i64 (by omega) (by omega) ?_) | (refine VWrap.u64 (by omega) (by omega) ?_) | (refine VRead.at1 (by omega) ?_) | (refine VSem.convI ?_) | (refine VRead.convI ?_) | (refine VRead.rem (by omega) (by decide) ?_) | (refine VRead.neg ?_) | (refine VC.seq ?_)); (conv => whnf))))
  refine VSem.boxB ?_
  intro w1 g hb hg hl hB1
  replace hb : Blk w1 g 25 (msgC m Ae ne ce Ad nd cd) := hb
  have h1 := (h.below hB1 (Nat.le_refl _)).more hB1.size
  ((conv => whnf); (repeat ((first | (refine VL.cons ?_) | (refine VL.nil ?_) | (refine VC.seqS rfl ?_) | (refine VC.region ?_) | (refine VC.draw ?_) | (refine VC.cond ?_) | (refine VC.block ?_) | (refine VC.exit ?_) | (refine VC.ret ?_) | (refine VC.skip ?_) | (refine VC.label ?_) | (refine VC.scope ?_) | (refine VQ.cons ?_) | (refine VQ.nil ?_) | (refine VG.nil ?_) | (refine VG.cons ?_)); (conv => whnf))))
  ((repeat ((first | (refine VL.cons ?_) | (refine VL.nil ?_) | (refine VC.seqS rfl ?_) | (refine VC.region ?_) | (refine VC.draw ?_) | (refine VC.cond ?_) | (refine VC.block ?_) | (refine VC.exit ?_) | (refine VC.ret ?_) | (refine VC.skip ?_) | (refine VC.label ?_) | (refine VC.scope ?_) | (refine VQ.cons ?_) | (refine VQ.nil ?_) | (refine VG.nil ?_) | (refine VG.cons ?_) | (refine VBool.t ?_) | (refine VBool.f ?_) | (refine VBool.dT (by omega) ?_) | (refine VBool.dF (by omega) ?_) | (refine VBool.nT (by omega) ?_) | (refine VBool.nF (by omega) ?_) | (refine VRead.lenS ?_) | (refine VRead.lenT ?_) | (refine VRead.fld ?_) | (refine VRead.load1 (by assumption) ?_) | (refine VRead.load (by assumption) ?_) | (refine VRead.neB ?_) | (refine VRead.eqPN ?_) | (refine VRead.nePN ?_) | (refine VRead.eqB ?_) | (refine VBool.nT rfl ?_) | (refine VBool.dT rfl ?_) | (refine VWrap.i64 (by omega) (by omega) ?_) | (refine VWrap.u64 (by omega) (by omega) ?_) | (refine VRead.at1 (by omega) ?_) | (refine VSem.convI ?_) | (refine VRead.convI ?_) | (refine VRead.rem (by omega) (by decide) ?_) | (refine VRead.neg ?_) | (refine VC.seq ?_)); (conv => whnf))))
  refine VRead.loadAB1 hb rfl rfl ?_
  ((conv => whnf); (repeat ((first | (refine VL.cons ?_) | (refine VL.nil ?_) | (refine VC.seqS rfl ?_) | (refine VC.region ?_) | (refine VC.draw ?_) | (refine VC.cond ?_) | (refine VC.block ?_) | (refine VC.exit ?_) | (refine VC.ret ?_) | (refine VC.skip ?_) | (refine VC.label ?_) | (refine VC.scope ?_) | (refine VQ.cons ?_) | (refine VQ.nil ?_) | (refine VG.nil ?_) | (refine VG.cons ?_)); (conv => whnf))))
  ((repeat ((first | (refine VL.cons ?_) | (refine VL.nil ?_) | (refine VC.seqS rfl ?_) | (refine VC.region ?_) | (refine VC.draw ?_) | (refine VC.cond ?_) | (refine VC.block ?_) | (refine VC.exit ?_) | (refine VC.ret ?_) | (refine VC.skip ?_) | (refine VC.label ?_) | (refine VC.scope ?_) | (refine VQ.cons ?_) | (refine VQ.nil ?_) | (refine VG.nil ?_) | (refine VG.cons ?_) | (refine VBool.t ?_) | (refine VBool.f ?_) | (refine VBool.dT (by omega) ?_) | (refine VBool.dF (by omega) ?_) | (refine VBool.nT (by omega) ?_) | (refine VBool.nF (by omega) ?_) | (refine VRead.lenS ?_) | (refine VRead.lenT ?_) | (refine VRead.fld ?_) | (refine VRead.load1 (by assumption) ?_) | (refine VRead.load (by assumption) ?_) | (refine VRead.neB ?_) | (refine VRead.eqPN ?_) | (refine VRead.nePN ?_) | (refine VRead.eqB ?_) | (refine VBool.nT rfl ?_) | (refine VBool.dT rfl ?_) | (refine VWrap.i64 (by omega) (by omega) ?_) | (refine VWrap.u64 (by omega) (by omega) ?_) | (refine VRead.at1 (by omega) ?_) | (refine VSem.convI ?_) | (refine VRead.convI ?_) | (refine VRead.rem (by omega) (by decide) ?_) | (refine VRead.neg ?_) | (refine VC.seq ?_)); (conv => whnf))))
  refine VCall.of (check_any m Ae Ad ne ce nd cd w1 h1) ?_
  rintro e w2 ⟨rfl, hB2⟩
  refine ⟨_, rfl, ?_⟩
  rw [Msg.chk_yes hok]
  have h12 := hB1.trans (hB2.mono hB1.size)
  have hb2 := hb.below hB2 hl
  ((conv => whnf); (repeat ((first | (refine VL.cons ?_) | (refine VL.nil ?_) | (refine VC.seqS rfl ?_) | (refine VC.region ?_) | (refine VC.draw ?_) | (refine VC.cond ?_) | (refine VC.block ?_) | (refine VC.exit ?_) | (refine VC.ret ?_) | (refine VC.skip ?_) | (refine VC.label ?_) | (refine VC.scope ?_) | (refine VQ.cons ?_) | (refine VQ.nil ?_) | (refine VG.nil ?_) | (refine VG.cons ?_)); (conv => whnf))))
  (repeat (first | ((first | (refine VL.cons ?_) | (refine VL.nil ?_) | (refine VC.seqS rfl ?_) | (refine VC.region ?_) | (refine VC.draw ?_) | (refine VC.cond ?_) | (refine VC.block ?_) | (refine VC.exit ?_) | (refine VC.ret ?_) | (refine VC.skip ?_) | (refine VC.label ?_) | (refine VC.scope ?_) | (refine VQ.cons ?_) | (refine VQ.nil ?_) | (refine VG.nil ?_) | (refine VG.cons ?_) | (refine VBool.t ?_) | (refine VBool.f ?_) | (refine VBool.dT (by omega) ?_) | (refine VBool.dF (by omega) ?_) | (refine VBool.nT (by omega) ?_) | (refine VBool.nF (by omega) ?_) | (refine VRead.lenS ?_) | (refine VRead.lenT ?_) | (refine VRead.fld ?_) | (refine VRead.load1 (by assumption) ?_) | (refine VRead.load (by assumption) ?_) | (refine VRead.neB ?_) | (refine VRead.eqPN ?_) | (refine VRead.nePN ?_) | (refine VRead.eqB ?_) | (refine VBool.nT rfl ?_) | (refine VBool.dT rfl ?_) | (refine VWrap.i64 (by omega) (by omega) ?_) | (refine VWrap.u64 (by omega) (by omega) ?_) | (refine VRead.at1 (by omega) ?_) | (refine VSem.convI ?_) | (refine VRead.convI ?_) | (refine VRead.rem (by omega) (by decide) ?_) | (refine VRead.neg ?_) | (refine VC.seq ?_)); (conv => whnf)) | (refine VRead.loadB hb2 rfl rfl ?_; (conv => whnf))))
  refine VRead.ofW (v := .agg #[.int .i64 m.kind, .int .i64 m.fr, .int .i64 m.too, .int .i64 m.term, .int .i64 m.a, .int .i64 m.b, .int .i64 m.c]) (fun _ => by kernel_rfl) ?_
  (conv => whnf)
  ((repeat ((first | (refine VL.cons ?_) | (refine VL.nil ?_) | (refine VC.seqS rfl ?_) | (refine VC.region ?_) | (refine VC.draw ?_) | (refine VC.cond ?_) | (refine VC.block ?_) | (refine VC.exit ?_) | (refine VC.ret ?_) | (refine VC.skip ?_) | (refine VC.label ?_) | (refine VC.scope ?_) | (refine VQ.cons ?_) | (refine VQ.nil ?_) | (refine VG.nil ?_) | (refine VG.cons ?_) | (refine VBool.t ?_) | (refine VBool.f ?_) | (refine VBool.dT (by omega) ?_) | (refine VBool.dF (by omega) ?_) | (refine VBool.nT (by omega) ?_) | (refine VBool.nF (by omega) ?_) | (refine VRead.lenS ?_) | (refine VRead.lenT ?_) | (refine VRead.fld ?_) | (refine VRead.load1 (by assumption) ?_) | (refine VRead.load (by assumption) ?_) | (refine VRead.neB ?_) | (refine VRead.eqPN ?_) | (refine VRead.nePN ?_) | (refine VRead.eqB ?_) | (refine VBool.nT rfl ?_) | (refine VBool.dT rfl ?_) | (refine VWrap.i64 (by omega) (by omega) ?_) | (refine VWrap.u64 (by omega) (by omega) ?_) | (refine VRead.at1 (by omega) ?_) | (refine VSem.convI ?_) | (refine VRead.convI ?_) | (refine VRead.rem (by omega) (by decide) ?_) | (refine VRead.neg ?_)); (conv => whnf))))
  refine VC.loop [4, 27] [(4, 4), (6, 6), (27, 33)] (fun q vs W => ∃ (k n c : Nat) (A : Option Addr), vs = [.slice A n c, .int .i64 (k : Int)] ∧ q = 7 - k ∧ k ≤ 7 ∧ Own W w2.heap.size (.slice A n c) n (Msg.ints m k) ∧ Below w2.heap.size w2 W) (by kernel_rfl)
    ⟨_, 0, 0, 0, none, rfl, rfl, by omega, Own.nil _ _, Below.refl _ _⟩ ?_
  rintro q τ vs W ⟨k, n, c, A, rfl, rfl, hk, hO, hB⟩
  have hnl := hO.len
  have hil := Msg.ints_len m k hk
  by_cases hlt : k < 7
  · obtain ⟨v, hv⟩ : ∃ v, (Msg.seven m)[k]? = some v := ⟨_, List.getElem?_eq_getElem hlt⟩
    have hv2 : (#[Value.int .i64 m.kind, .int .i64 m.fr, .int .i64 m.too, .int .i64 m.term, .int .i64 m.a, .int .i64 m.b, .int .i64 m.c] : Array Value).toList[k]? = some (.int .i64 v) := by
      rw [show (#[Value.int .i64 m.kind, .int .i64 m.fr, .int .i64 m.too, .int .i64 m.term, .int .i64 m.a, .int .i64 m.b, .int .i64 m.c] : Array Value).toList = (Msg.seven m).map (Value.int .i64) from rfl, List.getElem?_map, hv]; rfl
    have hvr := Msg.seven_ok hok hv
    ((conv => whnf); (repeat ((first | (refine VL.cons ?_) | (refine VL.nil ?_) | (refine VC.seqS rfl ?_) | (refine VC.region ?_) | (refine VC.draw ?_) | (refine VC.cond ?_) | (refine VC.block ?_) | (refine VC.exit ?_) | (refine VC.ret ?_) | (refine VC.skip ?_) | (refine VC.label ?_) | (refine VC.scope ?_) | (refine VQ.cons ?_) | (refine VQ.nil ?_) | (refine VG.nil ?_) | (refine VG.cons ?_)); (conv => whnf))))
    (repeat ((first | (refine VRead.idxA hlt hv2 ?_) | (refine VL.cons ?_) | (refine VL.nil ?_) | (refine VC.seqS rfl ?_) | (refine VC.region ?_) | (refine VC.draw ?_) | (refine VC.cond ?_) | (refine VC.block ?_) | (refine VC.exit ?_) | (refine VC.ret ?_) | (refine VC.skip ?_) | (refine VC.label ?_) | (refine VC.scope ?_) | (refine VQ.cons ?_) | (refine VQ.nil ?_) | (refine VG.nil ?_) | (refine VG.cons ?_) | (refine VBool.t ?_) | (refine VBool.f ?_) | (refine VBool.dT (by omega) ?_) | (refine VBool.dF (by omega) ?_) | (refine VBool.nT (by omega) ?_) | (refine VBool.nF (by omega) ?_) | (refine VRead.lenS ?_) | (refine VRead.lenT ?_) | (refine VRead.fld ?_) | (refine VRead.load1 (by assumption) ?_) | (refine VRead.load (by assumption) ?_) | (refine VRead.neB ?_) | (refine VRead.eqPN ?_) | (refine VRead.nePN ?_) | (refine VRead.eqB ?_) | (refine VBool.nT rfl ?_) | (refine VBool.dT rfl ?_) | (refine VWrap.i64 (by omega) (by omega) ?_) | (refine VWrap.u64 (by omega) (by omega) ?_) | (refine VRead.at1 (by omega) ?_) | (refine VSem.convI ?_) | (refine VRead.convI ?_) | (refine VRead.rem (by omega) (by decide) ?_) | (refine VRead.neg ?_) | (refine VC.seq ?_)); (conv => whnf)))
    refine VCall.of (putInt_any A n c (Msg.ints m k) v W (by omega) hO.cap (by omega) hO.reads) ?_
    rintro e W2 ⟨A2, n2, c2, rfl, hO2, hB3⟩
    refine ⟨_, rfl, ?_⟩
    ((conv => whnf); (repeat ((first | (refine VL.cons ?_) | (refine VL.nil ?_) | (refine VC.seqS rfl ?_) | (refine VC.region ?_) | (refine VC.draw ?_) | (refine VC.cond ?_) | (refine VC.block ?_) | (refine VC.exit ?_) | (refine VC.ret ?_) | (refine VC.skip ?_) | (refine VC.label ?_) | (refine VC.scope ?_) | (refine VQ.cons ?_) | (refine VQ.nil ?_) | (refine VG.nil ?_) | (refine VG.cons ?_)); (conv => whnf))))
    ((repeat ((first | (refine VL.cons ?_) | (refine VL.nil ?_) | (refine VC.seqS rfl ?_) | (refine VC.region ?_) | (refine VC.draw ?_) | (refine VC.cond ?_) | (refine VC.block ?_) | (refine VC.exit ?_) | (refine VC.ret ?_) | (refine VC.skip ?_) | (refine VC.label ?_) | (refine VC.scope ?_) | (refine VQ.cons ?_) | (refine VQ.nil ?_) | (refine VG.nil ?_) | (refine VG.cons ?_) | (refine VBool.t ?_) | (refine VBool.f ?_) | (refine VBool.dT (by omega) ?_) | (refine VBool.dF (by omega) ?_) | (refine VBool.nT (by omega) ?_) | (refine VBool.nF (by omega) ?_) | (refine VRead.lenS ?_) | (refine VRead.lenT ?_) | (refine VRead.fld ?_) | (refine VRead.load1 (by assumption) ?_) | (refine VRead.load (by assumption) ?_) | (refine VRead.neB ?_) | (refine VRead.eqPN ?_) | (refine VRead.nePN ?_) | (refine VRead.eqB ?_) | (refine VBool.nT rfl ?_) | (refine VBool.dT rfl ?_) | (refine VWrap.i64 (by omega) (by omega) ?_) | (refine VWrap.u64 (by omega) (by omega) ?_) | (refine VRead.at1 (by omega) ?_) | (refine VSem.convI ?_) | (refine VRead.convI ?_) | (refine VRead.rem (by omega) (by decide) ?_) | (refine VRead.neg ?_) | (refine VC.seq ?_)); (conv => whnf))))
    refine ⟨_, by omega, k + 1, n2, c2, A2, rfl, rfl, by omega, ?_, hB.trans (hB3.mono hB.size)⟩
    rw [Msg.ints_succ hv]
    exact hO2.more hB.size
  obtain rfl : k = 7 := by omega
  have hbW := hb2.below hB hb2.lt
  have hz := hB.size
  ((conv => whnf); (repeat ((first | (refine VL.cons ?_) | (refine VL.nil ?_) | (refine VC.seqS rfl ?_) | (refine VC.region ?_) | (refine VC.draw ?_) | (refine VC.cond ?_) | (refine VC.block ?_) | (refine VC.exit ?_) | (refine VC.ret ?_) | (refine VC.skip ?_) | (refine VC.label ?_) | (refine VC.scope ?_) | (refine VQ.cons ?_) | (refine VQ.nil ?_) | (refine VG.nil ?_) | (refine VG.cons ?_)); (conv => whnf))))
  ((repeat ((first | (refine VL.cons ?_) | (refine VL.nil ?_) | (refine VC.seqS rfl ?_) | (refine VC.region ?_) | (refine VC.draw ?_) | (refine VC.cond ?_) | (refine VC.block ?_) | (refine VC.exit ?_) | (refine VC.ret ?_) | (refine VC.skip ?_) | (refine VC.label ?_) | (refine VC.scope ?_) | (refine VQ.cons ?_) | (refine VQ.nil ?_) | (refine VG.nil ?_) | (refine VG.cons ?_) | (refine VBool.t ?_) | (refine VBool.f ?_) | (refine VBool.dT (by omega) ?_) | (refine VBool.dF (by omega) ?_) | (refine VBool.nT (by omega) ?_) | (refine VBool.nF (by omega) ?_) | (refine VRead.lenS ?_) | (refine VRead.lenT ?_) | (refine VRead.fld ?_) | (refine VRead.load1 (by assumption) ?_) | (refine VRead.load (by assumption) ?_) | (refine VRead.neB ?_) | (refine VRead.eqPN ?_) | (refine VRead.nePN ?_) | (refine VRead.eqB ?_) | (refine VBool.nT rfl ?_) | (refine VBool.dT rfl ?_) | (refine VWrap.i64 (by omega) (by omega) ?_) | (refine VWrap.u64 (by omega) (by omega) ?_) | (refine VRead.at1 (by omega) ?_) | (refine VSem.convI ?_) | (refine VRead.convI ?_) | (refine VRead.rem (by omega) (by decide) ?_) | (refine VRead.neg ?_) | (refine VC.seq ?_)); (conv => whnf))))
  have hS : Below W.heap.size W (W.drewN 1) := below_drewN (Below.refl _ _) 1
  have k7 : ∀ X, Below W.heap.size W X → X.cell? ((⟨g, 0, none⟩ : Addr).add 7) = some (.bool m.ok) := fun X hX => hbW.fld rfl hX
  have k8 : ∀ X, Below W.heap.size W X → X.cell? ((⟨g, 0, none⟩ : Addr).add 8) = some (.slice Ae ne ce) := fun X hX => hbW.fld rfl hX
  refine VDraw.seg (fun X => Below W.heap.size W X) [([0, 1, 2, 4, 5, 6], 3), ([], 7)] [8] (by kernel_rfl) (by kernel_rfl) hS ?_
  (conv => whnf)
  (repeat ((first | (refine VRead.load k7 ?_) | (refine VRead.load k8 ?_) | (refine VL.cons ?_) | (refine VL.nil ?_) | (refine VC.seqS rfl ?_) | (refine VC.region ?_) | (refine VC.draw ?_) | (refine VC.cond ?_) | (refine VC.block ?_) | (refine VC.exit ?_) | (refine VC.ret ?_) | (refine VC.skip ?_) | (refine VC.label ?_) | (refine VC.scope ?_) | (refine VQ.cons ?_) | (refine VQ.nil ?_) | (refine VG.nil ?_) | (refine VG.cons ?_) | (refine VBool.t ?_) | (refine VBool.f ?_) | (refine VBool.dT (by omega) ?_) | (refine VBool.dF (by omega) ?_) | (refine VBool.nT (by omega) ?_) | (refine VBool.nF (by omega) ?_) | (refine VRead.lenS ?_) | (refine VRead.lenT ?_) | (refine VRead.fld ?_) | (refine VRead.load1 (by assumption) ?_) | (refine VRead.load (by assumption) ?_) | (refine VRead.neB ?_) | (refine VRead.eqPN ?_) | (refine VRead.nePN ?_) | (refine VRead.eqB ?_) | (refine VBool.nT rfl ?_) | (refine VBool.dT rfl ?_) | (refine VWrap.i64 (by omega) (by omega) ?_) | (refine VWrap.u64 (by omega) (by omega) ?_) | (refine VRead.at1 (by omega) ?_) | (refine VSem.convI ?_) | (refine VRead.convI ?_) | (refine VRead.rem (by omega) (by decide) ?_) | (refine VRead.neg ?_) | (refine VC.seq ?_)); (conv => whnf)))
  refine VCall.of (putBool_any A n c (Msg.ints m 7) m.ok _ (by omega) hO.cap ((hO.below hS (Nat.le_refl _)).reads)) ?_
  rintro e W2 ⟨A2, c2, rfl, hO2, hB3⟩
  refine ⟨_, rfl, ?_⟩
  have hS2 := hS.trans (hB3.mono hS.size)
  (conv => whnf)
  refine Keep.mk hS2 ?_
  (conv => whnf)
  (repeat ((first | (refine VRead.load k7 ?_) | (refine VRead.load k8 ?_) | (refine VL.cons ?_) | (refine VL.nil ?_) | (refine VC.seqS rfl ?_) | (refine VC.region ?_) | (refine VC.draw ?_) | (refine VC.cond ?_) | (refine VC.block ?_) | (refine VC.exit ?_) | (refine VC.ret ?_) | (refine VC.skip ?_) | (refine VC.label ?_) | (refine VC.scope ?_) | (refine VQ.cons ?_) | (refine VQ.nil ?_) | (refine VG.nil ?_) | (refine VG.cons ?_) | (refine VBool.t ?_) | (refine VBool.f ?_) | (refine VBool.dT (by omega) ?_) | (refine VBool.dF (by omega) ?_) | (refine VBool.nT (by omega) ?_) | (refine VBool.nF (by omega) ?_) | (refine VRead.lenS ?_) | (refine VRead.lenT ?_) | (refine VRead.fld ?_) | (refine VRead.load1 (by assumption) ?_) | (refine VRead.load (by assumption) ?_) | (refine VRead.neB ?_) | (refine VRead.eqPN ?_) | (refine VRead.nePN ?_) | (refine VRead.eqB ?_) | (refine VBool.nT rfl ?_) | (refine VBool.dT rfl ?_) | (refine VWrap.i64 (by omega) (by omega) ?_) | (refine VWrap.u64 (by omega) (by omega) ?_) | (refine VRead.at1 (by omega) ?_) | (refine VSem.convI ?_) | (refine VRead.convI ?_) | (refine VRead.rem (by omega) (by decide) ?_) | (refine VRead.neg ?_) | (refine VC.seq ?_)); (conv => whnf)))
  refine VCall.of (putInt_any A2 (n + 1) c2 _ (ne : Int) W2 (by omega) hO2.cap (by omega) hO2.reads) ?_
  rw [← hne]
  rintro e W3 ⟨A3, n3, c3, rfl, hO3, hB4⟩
  refine ⟨_, rfl, ?_⟩
  have hS3 := hS2.trans (hB4.mono hS2.size)
  (conv => whnf)
  refine Keep.mk hS3 ?_
  have hO3' : Own W3 w2.heap.size (.slice A3 n3 c3) n3 (Msg.head m) := hO3.more (by have := hB3.size; have := hS.size; omega)
  clear hO3
  have h0W := h12.trans (hB.mono h12.size)
  have h03 := h0W.trans (hS3.mono h0W.size)
  have hb3 := hbW.below hS3 hbW.lt
  have hz3 := hS3.size
  have hhl := Msg.head_len m
  have hes := h.es
  have hw2 := h12.size
  ((conv => whnf); (repeat ((first | (refine VL.cons ?_) | (refine VL.nil ?_) | (refine VC.seqS rfl ?_) | (refine VC.region ?_) | (refine VC.draw ?_) | (refine VC.cond ?_) | (refine VC.block ?_) | (refine VC.exit ?_) | (refine VC.ret ?_) | (refine VC.skip ?_) | (refine VC.label ?_) | (refine VC.scope ?_) | (refine VQ.cons ?_) | (refine VQ.nil ?_) | (refine VG.nil ?_) | (refine VG.cons ?_)); (conv => whnf))))
  (repeat (first | ((first | (refine VL.cons ?_) | (refine VL.nil ?_) | (refine VC.seqS rfl ?_) | (refine VC.region ?_) | (refine VC.draw ?_) | (refine VC.cond ?_) | (refine VC.block ?_) | (refine VC.exit ?_) | (refine VC.ret ?_) | (refine VC.skip ?_) | (refine VC.label ?_) | (refine VC.scope ?_) | (refine VQ.cons ?_) | (refine VQ.nil ?_) | (refine VG.nil ?_) | (refine VG.cons ?_) | (refine VBool.t ?_) | (refine VBool.f ?_) | (refine VBool.dT (by omega) ?_) | (refine VBool.dF (by omega) ?_) | (refine VBool.nT (by omega) ?_) | (refine VBool.nF (by omega) ?_) | (refine VRead.lenS ?_) | (refine VRead.lenT ?_) | (refine VRead.fld ?_) | (refine VRead.load1 (by assumption) ?_) | (refine VRead.load (by assumption) ?_) | (refine VRead.neB ?_) | (refine VRead.eqPN ?_) | (refine VRead.nePN ?_) | (refine VRead.eqB ?_) | (refine VBool.nT rfl ?_) | (refine VBool.dT rfl ?_) | (refine VWrap.i64 (by omega) (by omega) ?_) | (refine VWrap.u64 (by omega) (by omega) ?_) | (refine VRead.at1 (by omega) ?_) | (refine VSem.convI ?_) | (refine VRead.convI ?_) | (refine VRead.rem (by omega) (by decide) ?_) | (refine VRead.neg ?_) | (refine VC.seq ?_)); (conv => whnf)) | (refine VRead.loadB hb3 rfl rfl ?_; (conv => whnf))))
  refine VC.loop [4, 45] [(4, 4), (8, 8), (45, 60)] (fun q vs X => ∃ (k n c : Nat) (A : Option Addr), vs = [.slice A n c, .int .i64 (k : Int)] ∧ q = ne - k ∧ k ≤ ne ∧ Own X w2.heap.size (.slice A n c) n (Msg.head m ++ Msg.ents (m.es.take k)) ∧ Below W3.heap.size W3 X) (by kernel_rfl)
    ⟨_, 0, n3, c3, A3, rfl, rfl, by omega, by simpa [Msg.ents] using hO3', Below.refl _ _⟩ ?_
  rintro q τ vs X ⟨k, n4, c4, A4, rfl, rfl, hk, hO, hX⟩
  have h0X := h03.trans (hX.mono h03.size)
  have hnl4 := hO.len
  have hzX := hX.size
  rw [List.length_append] at hnl4
  by_cases hlt : k < ne
  · obtain ⟨e, he⟩ := hes.pair hlt
    obtain ⟨x, D, dn, dc, rfl, hdc, hdl, H⟩ := hes.later he
    have hem := hok.ents e (List.mem_of_getElem? he)
    have htt := Msg.tot_take m.es he
    have htl := Msg.tot_le m.es (k + 1)
    have hle := (Msg.ents_len (m.es.take k)).2
    have hlk : (m.es.take k).length ≤ 8 := by rw [List.length_take]; omega
    obtain ⟨f0, f1, f2, hr⟩ := H X h0X
    ((conv => whnf); (repeat ((first | (refine VL.cons ?_) | (refine VL.nil ?_) | (refine VC.seqS rfl ?_) | (refine VC.region ?_) | (refine VC.draw ?_) | (refine VC.cond ?_) | (refine VC.block ?_) | (refine VC.exit ?_) | (refine VC.ret ?_) | (refine VC.skip ?_) | (refine VC.label ?_) | (refine VC.scope ?_) | (refine VQ.cons ?_) | (refine VQ.nil ?_) | (refine VG.nil ?_) | (refine VG.cons ?_)); (conv => whnf))))
    (repeat ((first | (refine VRead.atK hlt ?_) | (refine VRead.load3 f0 f1 f2 ?_) | (refine VL.cons ?_) | (refine VL.nil ?_) | (refine VC.seqS rfl ?_) | (refine VC.region ?_) | (refine VC.draw ?_) | (refine VC.cond ?_) | (refine VC.block ?_) | (refine VC.exit ?_) | (refine VC.ret ?_) | (refine VC.skip ?_) | (refine VC.label ?_) | (refine VC.scope ?_) | (refine VQ.cons ?_) | (refine VQ.nil ?_) | (refine VG.nil ?_) | (refine VG.cons ?_) | (refine VBool.t ?_) | (refine VBool.f ?_) | (refine VBool.dT (by omega) ?_) | (refine VBool.dF (by omega) ?_) | (refine VBool.nT (by omega) ?_) | (refine VBool.nF (by omega) ?_) | (refine VRead.lenS ?_) | (refine VRead.lenT ?_) | (refine VRead.fld ?_) | (refine VRead.load1 (by assumption) ?_) | (refine VRead.load (by assumption) ?_) | (refine VRead.neB ?_) | (refine VRead.eqPN ?_) | (refine VRead.nePN ?_) | (refine VRead.eqB ?_) | (refine VBool.nT rfl ?_) | (refine VBool.dT rfl ?_) | (refine VWrap.i64 (by omega) (by omega) ?_) | (refine VWrap.u64 (by omega) (by omega) ?_) | (refine VRead.at1 (by omega) ?_) | (refine VSem.convI ?_) | (refine VRead.convI ?_) | (refine VRead.rem (by omega) (by decide) ?_) | (refine VRead.neg ?_) | (refine VC.seq ?_)); (conv => whnf)))
    refine VSem.allocZ (z := .agg #[.int .i64 0, .bool false, .slice none 0 0]) (by kernel_rfl) ?_
    intro X2 b hbb hgb hlb hB5
    ((conv => whnf); (repeat ((first | (refine VL.cons ?_) | (refine VL.nil ?_) | (refine VC.seqS rfl ?_) | (refine VC.region ?_) | (refine VC.draw ?_) | (refine VC.cond ?_) | (refine VC.block ?_) | (refine VC.exit ?_) | (refine VC.ret ?_) | (refine VC.skip ?_) | (refine VC.label ?_) | (refine VC.scope ?_) | (refine VQ.cons ?_) | (refine VQ.nil ?_) | (refine VG.nil ?_) | (refine VG.cons ?_)); (conv => whnf))))
    ((repeat ((first | (refine VL.cons ?_) | (refine VL.nil ?_) | (refine VC.seqS rfl ?_) | (refine VC.region ?_) | (refine VC.draw ?_) | (refine VC.cond ?_) | (refine VC.block ?_) | (refine VC.exit ?_) | (refine VC.ret ?_) | (refine VC.skip ?_) | (refine VC.label ?_) | (refine VC.scope ?_) | (refine VQ.cons ?_) | (refine VQ.nil ?_) | (refine VG.nil ?_) | (refine VG.cons ?_) | (refine VBool.t ?_) | (refine VBool.f ?_) | (refine VBool.dT (by omega) ?_) | (refine VBool.dF (by omega) ?_) | (refine VBool.nT (by omega) ?_) | (refine VBool.nF (by omega) ?_) | (refine VRead.lenS ?_) | (refine VRead.lenT ?_) | (refine VRead.fld ?_) | (refine VRead.load1 (by assumption) ?_) | (refine VRead.load (by assumption) ?_) | (refine VRead.neB ?_) | (refine VRead.eqPN ?_) | (refine VRead.nePN ?_) | (refine VRead.eqB ?_) | (refine VBool.nT rfl ?_) | (refine VBool.dT rfl ?_) | (refine VWrap.i64 (by omega) (by omega) ?_) | (refine VWrap.u64 (by omega) (by omega) ?_) | (refine VRead.at1 (by omega) ?_) | (refine VSem.convI ?_) | (refine VRead.convI ?_) | (refine VRead.rem (by omega) (by decide) ?_) | (refine VRead.neg ?_) | (refine VC.seq ?_)); (conv => whnf))))
    refine VUnit.storeAB hbb rfl rfl rfl (by simp [Value.oneCell']) ?_
    intro X3 hb6 hg6
    replace hb6 : Blk X3 b 41 #[.int .i64 e.term, .bool e.cmd, .slice D dn dc] := hb6
    have hB13 : Below X.heap.size X X3 := only_new hB5 hg6 (by omega) (by omega)
    have h0X3 := h0X.trans (hB13.mono h0X.size)
    have hO6 := hO.below hB13 (Nat.le_refl _)
    ((conv => whnf); (repeat ((first | (refine VL.cons ?_) | (refine VL.nil ?_) | (refine VC.seqS rfl ?_) | (refine VC.region ?_) | (refine VC.draw ?_) | (refine VC.cond ?_) | (refine VC.block ?_) | (refine VC.exit ?_) | (refine VC.ret ?_) | (refine VC.skip ?_) | (refine VC.label ?_) | (refine VC.scope ?_) | (refine VQ.cons ?_) | (refine VQ.nil ?_) | (refine VG.nil ?_) | (refine VG.cons ?_)); (conv => whnf))))
    ((repeat ((first | (refine VL.cons ?_) | (refine VL.nil ?_) | (refine VC.seqS rfl ?_) | (refine VC.region ?_) | (refine VC.draw ?_) | (refine VC.cond ?_) | (refine VC.block ?_) | (refine VC.exit ?_) | (refine VC.ret ?_) | (refine VC.skip ?_) | (refine VC.label ?_) | (refine VC.scope ?_) | (refine VQ.cons ?_) | (refine VQ.nil ?_) | (refine VG.nil ?_) | (refine VG.cons ?_) | (refine VBool.t ?_) | (refine VBool.f ?_) | (refine VBool.dT (by omega) ?_) | (refine VBool.dF (by omega) ?_) | (refine VBool.nT (by omega) ?_) | (refine VBool.nF (by omega) ?_) | (refine VRead.lenS ?_) | (refine VRead.lenT ?_) | (refine VRead.fld ?_) | (refine VRead.load1 (by assumption) ?_) | (refine VRead.load (by assumption) ?_) | (refine VRead.neB ?_) | (refine VRead.eqPN ?_) | (refine VRead.nePN ?_) | (refine VRead.eqB ?_) | (refine VBool.nT rfl ?_) | (refine VBool.dT rfl ?_) | (refine VWrap.i64 (by omega) (by omega) ?_) | (refine VWrap.u64 (by omega) (by omega) ?_) | (refine VRead.at1 (by omega) ?_) | (refine VSem.convI ?_) | (refine VRead.convI ?_) | (refine VRead.rem (by omega) (by decide) ?_) | (refine VRead.neg ?_) | (refine VC.seq ?_)); (conv => whnf))))
    have hS : Below X3.heap.size X3 (X3.drewN 1) := below_drewN (Below.refl _ _) 1
    have q0 : ∀ Y, Below X3.heap.size X3 Y → Y.cell? ((⟨b, 0, none⟩ : Addr).add 0) = some (.int .i64 e.term) := fun Y hY => hb6.fld rfl hY
    have q1 : ∀ Y, Below X3.heap.size X3 Y → Y.cell? ((⟨b, 0, none⟩ : Addr).add 1) = some (.bool e.cmd) := fun Y hY => hb6.fld rfl hY
    have q2 : ∀ Y, Below X3.heap.size X3 Y → Y.cell? ((⟨b, 0, none⟩ : Addr).add 2) = some (.slice D dn dc) := fun Y hY => hb6.fld rfl hY
    have qr : ∀ Y, Below X3.heap.size X3 Y → Reads Y w.heap.size 1 D dn (bv e.data) := fun Y hY => (H Y (h0X3.trans (hY.mono h0X3.size))).2.2.2
    refine VDraw.seg (fun Y => Below X3.heap.size X3 Y) [([0, 1, 2, 4, 5, 7, 8, 9], 3), ([], 6), ([], 10)] [11] (by kernel_rfl) (by kernel_rfl) hS ?_
    (conv => whnf)
    (repeat ((first | (refine VRead.load q0 ?_) | (refine VRead.load q1 ?_) | (refine VRead.load q2 ?_) | (refine VRead.convT qr ?_) | (refine VL.cons ?_) | (refine VL.nil ?_) | (refine VC.seqS rfl ?_) | (refine VC.region ?_) | (refine VC.draw ?_) | (refine VC.cond ?_) | (refine VC.block ?_) | (refine VC.exit ?_) | (refine VC.ret ?_) | (refine VC.skip ?_) | (refine VC.label ?_) | (refine VC.scope ?_) | (refine VQ.cons ?_) | (refine VQ.nil ?_) | (refine VG.nil ?_) | (refine VG.cons ?_) | (refine VBool.t ?_) | (refine VBool.f ?_) | (refine VBool.dT (by omega) ?_) | (refine VBool.dF (by omega) ?_) | (refine VBool.nT (by omega) ?_) | (refine VBool.nF (by omega) ?_) | (refine VRead.lenS ?_) | (refine VRead.lenT ?_) | (refine VRead.fld ?_) | (refine VRead.load1 (by assumption) ?_) | (refine VRead.load (by assumption) ?_) | (refine VRead.neB ?_) | (refine VRead.eqPN ?_) | (refine VRead.nePN ?_) | (refine VRead.eqB ?_) | (refine VBool.nT rfl ?_) | (refine VBool.dT rfl ?_) | (refine VWrap.i64 (by omega) (by omega) ?_) | (refine VWrap.u64 (by omega) (by omega) ?_) | (refine VRead.at1 (by omega) ?_) | (refine VSem.convI ?_) | (refine VRead.convI ?_) | (refine VRead.rem (by omega) (by decide) ?_) | (refine VRead.neg ?_) | (refine VC.seq ?_)); (conv => whnf)))
    refine VCall.of (putInt_any A4 n4 c4 _ e.term _ (by omega) hO.cap (by omega) ((hO6.below hS (Nat.le_refl _)).reads)) ?_
    rintro y Y1 ⟨A5, n5, c5, rfl, hO7, hB7⟩
    refine ⟨_, rfl, ?_⟩
    have hS1 := hS.trans (hB7.mono hS.size)
    have hl7 := hO7.len
    have hi7 := Wire.int_len e.term
    (conv => whnf)
    refine Keep.mk hS1 ?_
    (conv => whnf)
    ((repeat ((first | (refine VL.cons ?_) | (refine VL.nil ?_) | (refine VC.seqS rfl ?_) | (refine VC.region ?_) | (refine VC.draw ?_) | (refine VC.cond ?_) | (refine VC.block ?_) | (refine VC.exit ?_) | (refine VC.ret ?_) | (refine VC.skip ?_) | (refine VC.label ?_) | (refine VC.scope ?_) | (refine VQ.cons ?_) | (refine VQ.nil ?_) | (refine VG.nil ?_) | (refine VG.cons ?_) | (refine VBool.t ?_) | (refine VBool.f ?_) | (refine VBool.dT (by omega) ?_) | (refine VBool.dF (by omega) ?_) | (refine VBool.nT (by omega) ?_) | (refine VBool.nF (by omega) ?_) | (refine VRead.lenS ?_) | (refine VRead.lenT ?_) | (refine VRead.fld ?_) | (refine VRead.load1 (by assumption) ?_) | (refine VRead.load (by assumption) ?_) | (refine VRead.neB ?_) | (refine VRead.eqPN ?_) | (refine VRead.nePN ?_) | (refine VRead.eqB ?_) | (refine VBool.nT rfl ?_) | (refine VBool.dT rfl ?_) | (refine VWrap.i64 (by omega) (by omega) ?_) | (refine VWrap.u64 (by omega) (by omega) ?_) | (refine VRead.at1 (by omega) ?_) | (refine VSem.convI ?_) | (refine VRead.convI ?_) | (refine VRead.rem (by omega) (by decide) ?_) | (refine VRead.neg ?_) | (refine VC.seq ?_)); (conv => whnf))))
    refine VCall.of (putBool_any A5 n5 c5 _ e.cmd Y1 (by rw [List.length_append, List.length_append] at hl7; omega) hO7.cap hO7.reads) ?_
    rintro y Y2 ⟨A6, c6, rfl, hO8, hB8⟩
    refine ⟨_, rfl, ?_⟩
    have hS2 := hS1.trans (hB8.mono hS1.size)
    (conv => whnf)
    refine Keep.mk hS2 ?_
    (conv => whnf)
    ((repeat ((first | (refine VL.cons ?_) | (refine VL.nil ?_) | (refine VC.seqS rfl ?_) | (refine VC.region ?_) | (refine VC.draw ?_) | (refine VC.cond ?_) | (refine VC.block ?_) | (refine VC.exit ?_) | (refine VC.ret ?_) | (refine VC.skip ?_) | (refine VC.label ?_) | (refine VC.scope ?_) | (refine VQ.cons ?_) | (refine VQ.nil ?_) | (refine VG.nil ?_) | (refine VG.cons ?_) | (refine VBool.t ?_) | (refine VBool.f ?_) | (refine VBool.dT (by omega) ?_) | (refine VBool.dF (by omega) ?_) | (refine VBool.nT (by omega) ?_) | (refine VBool.nF (by omega) ?_) | (refine VRead.lenS ?_) | (refine VRead.lenT ?_) | (refine VRead.fld ?_) | (refine VRead.load1 (by assumption) ?_) | (refine VRead.load (by assumption) ?_) | (refine VRead.neB ?_) | (refine VRead.eqPN ?_) | (refine VRead.nePN ?_) | (refine VRead.eqB ?_) | (refine VBool.nT rfl ?_) | (refine VBool.dT rfl ?_) | (refine VWrap.i64 (by omega) (by omega) ?_) | (refine VWrap.u64 (by omega) (by omega) ?_) | (refine VRead.at1 (by omega) ?_) | (refine VSem.convI ?_) | (refine VRead.convI ?_) | (refine VRead.rem (by omega) (by decide) ?_) | (refine VRead.neg ?_) | (refine VC.seq ?_)); (conv => whnf))))
    refine VCall.of (putText_any A6 (n5 + 1) c6 _ (txt e.data) Y2 (by rw [txt_size]; rw [List.length_append, List.length_append] at hl7; omega) hO8.cap hO8.reads) ?_
    rw [txt_list]
    rintro y Y3 ⟨A7, n7, c7, rfl, hO9, hB9⟩
    refine ⟨_, rfl, ?_⟩
    have hS3' := hS2.trans (hB9.mono hS2.size)
    (conv => whnf)
    refine Keep.mk hS3' ?_
    ((conv => whnf); (repeat ((first | (refine VL.cons ?_) | (refine VL.nil ?_) | (refine VC.seqS rfl ?_) | (refine VC.region ?_) | (refine VC.draw ?_) | (refine VC.cond ?_) | (refine VC.block ?_) | (refine VC.exit ?_) | (refine VC.ret ?_) | (refine VC.skip ?_) | (refine VC.label ?_) | (refine VC.scope ?_) | (refine VQ.cons ?_) | (refine VQ.nil ?_) | (refine VG.nil ?_) | (refine VG.cons ?_)); (conv => whnf))))
    ((repeat ((first | (refine VL.cons ?_) | (refine VL.nil ?_) | (refine VC.seqS rfl ?_) | (refine VC.region ?_) | (refine VC.draw ?_) | (refine VC.cond ?_) | (refine VC.block ?_) | (refine VC.exit ?_) | (refine VC.ret ?_) | (refine VC.skip ?_) | (refine VC.label ?_) | (refine VC.scope ?_) | (refine VQ.cons ?_) | (refine VQ.nil ?_) | (refine VG.nil ?_) | (refine VG.cons ?_) | (refine VBool.t ?_) | (refine VBool.f ?_) | (refine VBool.dT (by omega) ?_) | (refine VBool.dF (by omega) ?_) | (refine VBool.nT (by omega) ?_) | (refine VBool.nF (by omega) ?_) | (refine VRead.lenS ?_) | (refine VRead.lenT ?_) | (refine VRead.fld ?_) | (refine VRead.load1 (by assumption) ?_) | (refine VRead.load (by assumption) ?_) | (refine VRead.neB ?_) | (refine VRead.eqPN ?_) | (refine VRead.nePN ?_) | (refine VRead.eqB ?_) | (refine VBool.nT rfl ?_) | (refine VBool.dT rfl ?_) | (refine VWrap.i64 (by omega) (by omega) ?_) | (refine VWrap.u64 (by omega) (by omega) ?_) | (refine VRead.at1 (by omega) ?_) | (refine VSem.convI ?_) | (refine VRead.convI ?_) | (refine VRead.rem (by omega) (by decide) ?_) | (refine VRead.neg ?_) | (refine VC.seq ?_)); (conv => whnf))))
    refine ⟨_, by omega, k + 1, n7, c7, A7, rfl, rfl, by omega, ?_, hX.trans ((hB13.trans (hS3'.mono hB13.size)).mono hzX)⟩
    rw [Msg.ents_succ m.es he]
    have hO10 : Own Y3 Y2.heap.size (.slice A7 n7 c7) n7 (Msg.head m ++ (Msg.ents (m.es.take k) ++ Msg.ent e)) := by simpa [Msg.ent, List.append_assoc] using hO9
    exact hO10.more (by have := hS2.size; have := hB13.size; omega)
  · rw [List.take_of_length_le (by omega)] at hO hnl4
    have hbX := hb3.below hX hb3.lt
    have hrd : Reads X w.heap.size 1 Ad nd (bv m.data) := h.data.below h0X
    ((conv => whnf); (repeat ((first | (refine VL.cons ?_) | (refine VL.nil ?_) | (refine VC.seqS rfl ?_) | (refine VC.region ?_) | (refine VC.draw ?_) | (refine VC.cond ?_) | (refine VC.block ?_) | (refine VC.exit ?_) | (refine VC.ret ?_) | (refine VC.skip ?_) | (refine VC.label ?_) | (refine VC.scope ?_) | (refine VQ.cons ?_) | (refine VQ.nil ?_) | (refine VG.nil ?_) | (refine VG.cons ?_)); (conv => whnf))))
    (repeat ((first | (refine VRead.loadB hbX rfl rfl ?_) | (refine VSem.convT hrd ?_) | (refine VL.cons ?_) | (refine VL.nil ?_) | (refine VC.seqS rfl ?_) | (refine VC.region ?_) | (refine VC.draw ?_) | (refine VC.cond ?_) | (refine VC.block ?_) | (refine VC.exit ?_) | (refine VC.ret ?_) | (refine VC.skip ?_) | (refine VC.label ?_) | (refine VC.scope ?_) | (refine VQ.cons ?_) | (refine VQ.nil ?_) | (refine VG.nil ?_) | (refine VG.cons ?_) | (refine VBool.t ?_) | (refine VBool.f ?_) | (refine VBool.dT (by omega) ?_) | (refine VBool.dF (by omega) ?_) | (refine VBool.nT (by omega) ?_) | (refine VBool.nF (by omega) ?_) | (refine VRead.lenS ?_) | (refine VRead.lenT ?_) | (refine VRead.fld ?_) | (refine VRead.load1 (by assumption) ?_) | (refine VRead.load (by assumption) ?_) | (refine VRead.neB ?_) | (refine VRead.eqPN ?_) | (refine VRead.nePN ?_) | (refine VRead.eqB ?_) | (refine VBool.nT rfl ?_) | (refine VBool.dT rfl ?_) | (refine VWrap.i64 (by omega) (by omega) ?_) | (refine VWrap.u64 (by omega) (by omega) ?_) | (refine VRead.at1 (by omega) ?_) | (refine VSem.convI ?_) | (refine VRead.convI ?_) | (refine VRead.rem (by omega) (by decide) ?_) | (refine VRead.neg ?_) | (refine VC.seq ?_)); (conv => whnf)))
    refine VCall.of (putText_any A4 n4 c4 _ (txt m.data) X (by rw [txt_size]; omega) hO.cap hO.reads) ?_
    rw [txt_list, ← Msg.body_head]
    rintro y X2 ⟨A5, n5, c5, rfl, hO5, hB5⟩
    refine ⟨_, rfl, ?_⟩
    have h0X2 := h0X.trans (hB5.mono h0X.size)
    have hl5 := hO5.len
    ((conv => whnf); (repeat ((first | (refine VL.cons ?_) | (refine VL.nil ?_) | (refine VC.seqS rfl ?_) | (refine VC.region ?_) | (refine VC.draw ?_) | (refine VC.cond ?_) | (refine VC.block ?_) | (refine VC.exit ?_) | (refine VC.ret ?_) | (refine VC.skip ?_) | (refine VC.label ?_) | (refine VC.scope ?_) | (refine VQ.cons ?_) | (refine VQ.nil ?_) | (refine VG.nil ?_) | (refine VG.cons ?_)); (conv => whnf))))
    ((repeat ((first | (refine VL.cons ?_) | (refine VL.nil ?_) | (refine VC.seqS rfl ?_) | (refine VC.region ?_) | (refine VC.draw ?_) | (refine VC.cond ?_) | (refine VC.block ?_) | (refine VC.exit ?_) | (refine VC.ret ?_) | (refine VC.skip ?_) | (refine VC.label ?_) | (refine VC.scope ?_) | (refine VQ.cons ?_) | (refine VQ.nil ?_) | (refine VG.nil ?_) | (refine VG.cons ?_) | (refine VBool.t ?_) | (refine VBool.f ?_) | (refine VBool.dT (by omega) ?_) | (refine VBool.dF (by omega) ?_) | (refine VBool.nT (by omega) ?_) | (refine VBool.nF (by omega) ?_) | (refine VRead.lenS ?_) | (refine VRead.lenT ?_) | (refine VRead.fld ?_) | (refine VRead.load1 (by assumption) ?_) | (refine VRead.load (by assumption) ?_) | (refine VRead.neB ?_) | (refine VRead.eqPN ?_) | (refine VRead.nePN ?_) | (refine VRead.eqB ?_) | (refine VBool.nT rfl ?_) | (refine VBool.dT rfl ?_) | (refine VWrap.i64 (by omega) (by omega) ?_) | (refine VWrap.u64 (by omega) (by omega) ?_) | (refine VRead.at1 (by omega) ?_) | (refine VSem.convI ?_) | (refine VRead.convI ?_) | (refine VRead.rem (by omega) (by decide) ?_) | (refine VRead.neg ?_) | (refine VC.seq ?_)); (conv => whnf))))
    refine VCall.of (frPut_yes none 0 0 [] A5 n5 c5 (Msg.body m) X2 (by omega) (by omega) (by omega) (by omega) Reads.none_ hO5.reads) ?_
    rw [List.nil_append]
    rintro y X3 ⟨A6, n6, c6, rfl, hO6, hB6⟩
    refine ⟨_, rfl, ?_⟩
    ((conv => whnf); (repeat ((first | (refine VL.cons ?_) | (refine VL.nil ?_) | (refine VC.seqS rfl ?_) | (refine VC.region ?_) | (refine VC.draw ?_) | (refine VC.cond ?_) | (refine VC.block ?_) | (refine VC.exit ?_) | (refine VC.ret ?_) | (refine VC.skip ?_) | (refine VC.label ?_) | (refine VC.scope ?_) | (refine VQ.cons ?_) | (refine VQ.nil ?_) | (refine VG.nil ?_) | (refine VG.cons ?_)); (conv => whnf))))
    ((repeat ((first | (refine VL.cons ?_) | (refine VL.nil ?_) | (refine VC.seqS rfl ?_) | (refine VC.region ?_) | (refine VC.draw ?_) | (refine VC.cond ?_) | (refine VC.block ?_) | (refine VC.exit ?_) | (refine VC.ret ?_) | (refine VC.skip ?_) | (refine VC.label ?_) | (refine VC.scope ?_) | (refine VQ.cons ?_) | (refine VQ.nil ?_) | (refine VG.nil ?_) | (refine VG.cons ?_) | (refine VBool.t ?_) | (refine VBool.f ?_) | (refine VBool.dT (by omega) ?_) | (refine VBool.dF (by omega) ?_) | (refine VBool.nT (by omega) ?_) | (refine VBool.nF (by omega) ?_) | (refine VRead.lenS ?_) | (refine VRead.lenT ?_) | (refine VRead.fld ?_) | (refine VRead.load1 (by assumption) ?_) | (refine VRead.load (by assumption) ?_) | (refine VRead.neB ?_) | (refine VRead.eqPN ?_) | (refine VRead.nePN ?_) | (refine VRead.eqB ?_) | (refine VBool.nT rfl ?_) | (refine VBool.dT rfl ?_) | (refine VWrap.i64 (by omega) (by omega) ?_) | (refine VWrap.u64 (by omega) (by omega) ?_) | (refine VRead.at1 (by omega) ?_) | (refine VSem.convI ?_) | (refine VRead.convI ?_) | (refine VRead.rem (by omega) (by decide) ?_) | (refine VRead.neg ?_) | (refine VC.seq ?_)); (conv => whnf))))
    exact ⟨A6, n6, c6, rfl, hO6.more h0X2.size, h0X2.trans (hB6.mono h0X2.size)⟩
end Go.Proofs.Ytbfboglcdgeheaa
