/- Texts joined: WalE, WalF, WalG. No condition. -/
import Derived.Test.YtebeidnmplnlpaaPke5
section
set_option maxRecDepth 10000
namespace Go.Proofs.Ytebeidnmplnlpaa
set_option linter.unusedVariables false
open Go.RowKit

theorem ERow.put {W : World} {B q : Nat} {v : Value} {es : List En} (h : ERow W (fun j => B ≤ j) B v es) (hq : q < B) (o : Obj) : ERow (W.putObj q o) (fun j => B ≤ j) B v es :=
  h.stay (by rw [World.putObj_size]; exact Nat.le_refl _) (fun j _ hj => World.putObj_heap_other (by have : B ≤ j := hj; omega))
/-- what stays while the frames are read -/
structure WrFix (v : Value) (w : World) (D : Nat) (o : Obj) (gx : Nat) (W : World) : Prop where
  bx : Blk W gx 31 #[v]
  dd : W.heap[D]? = some (.deferred (some []))
  ll : W.heap[D + 1]? = some o
  since : Below w.heap.size w W
/-- what the frames have said so far -/
structure WrAcc (bs : List (List UInt8)) (D g2 g4 : Nat) (k : Nat) (W : World) : Prop where
  ok : Blk W g4 4 #[.bool (decide (0 < k))]
  kp : ∃ kp A n c, takesA true Kp.zero (bs.take k) = some kp ∧ inR kp.base 1099511627776 ∧ kp.es.length ≤ k ∧ Blk W g2 63 (kC kp A n c) ∧ ERow W (fun j => D + 2 ≤ j) (D + 2) (.slice A n c) kp.es
section
variable {v : Value} {w W W' : World} {D : Nat} {o o' : Obj} {g2 g4 gx g k : Nat} {bs : List (List UInt8)}
theorem WrFix.later (h : WrFix v w D o gx W) (hb : Below W.heap.size W W') : WrFix v w D o gx W' :=
  ⟨h.bx.later hb, obj_later h.dd hb, obj_later h.ll hb, h.since.trans (hb.mono h.since.size)⟩
theorem WrFix.only (h : WrFix v w D o gx W) (hg : W.grownBy W' (some g)) (hx : gx ≠ g) (hd : D ≠ g) (hl : D + 1 ≠ g) (hw : w.heap.size ≤ g) : WrFix v w D o gx W' :=
  ⟨h.bx.only hg hx, obj_only h.dd hg hd, obj_only h.ll hg hl, only_new h.since hg hw h.since.size⟩
theorem WrFix.out {F : Foot} (h : WrFix v w D o gx W) (ho : Out F W W') (hx : ¬ F gx) (hd : ¬ F D) (hl : ¬ F (D + 1)) (hw : ∀ j, F j → w.heap.size ≤ j) : WrFix v w D o gx W' :=
  ⟨(ho.block gx (blk_lt h.bx) hx).trans h.bx, (ho.block D (Array.getElem?_eq_some_iff.1 h.dd).1 hd).trans h.dd, (ho.block (D + 1) (Array.getElem?_eq_some_iff.1 h.ll).1 hl).trans h.ll, h.since.trans (ho.below hw h.since.size)⟩
theorem WrFix.loop (h : WrFix v w D o gx W) (hx : gx < D) (hw : w.heap.size ≤ D) : WrFix v w D o' gx (W.putObj (D + 1) o') :=
  ⟨h.bx.putObj (by omega) _, put_other h.dd (by omega), put_same h.ll, Below.putObj h.since (by omega) _⟩
theorem WrAcc.later (h : WrAcc bs D g2 g4 k W) (hb : Below W.heap.size W W') : WrAcc bs D g2 g4 k W' := by
  obtain ⟨h1, kp, A, n, c, e1, e2, e3, h2, h3⟩ := h
  exact ⟨h1.later hb, kp, A, n, c, e1, e2, e3, h2.later hb, h3.below hb⟩
theorem WrAcc.loop (h : WrAcc bs D g2 g4 k W) (h2' : g2 < D) (h4' : g4 < D) (o : Obj) : WrAcc bs D g2 g4 k (W.putObj (D + 1) o) := by
  obtain ⟨h1, kp, A, n, c, e1, e2, e3, h2, h3⟩ := h
  exact ⟨h1.putObj (by omega) _, kp, A, n, c, e1, e2, e3, h2.putObj (by omega) _, h3.put (by omega) _⟩
end
structure WrJ (bs : List (List UInt8)) (v : Value) (w : World) (D : Nat) (o : Obj) (g2 g4 gx : Nat) (k : Nat) (W : World) : Prop where
  fix : WrFix v w D o gx W
  acc : WrAcc bs D g2 g4 k W
/-- the round that leaves -/
structure WrX (bs : List (List UInt8)) (v : Value) (w : World) (D : Nat) (r : Loop) (g2 g4 gx : Nat) (W : World) : Prop where
  fix : WrFix v w D (.loop { r with state := .done, pending := some (.exit 0) }) gx W
  ok : Blk W g4 4 #[.bool false]
  kp : ∃ cs : Array Value, cs.size = 5 ∧ Blk W g2 63 cs
  no : takesA true Kp.zero bs = none
  some_ : bs ≠ []
def RdV (W : World) (B : Nat) (o : Option Kp) (wh : Bool) (v : Value) : Prop := match o with
  | some kp => ∃ A n c, v = .tuple #[.agg (kC kp A n c), .bool wh, .bool true] ∧ ERow W (fun j => B ≤ j) B (.slice A n c) kp.es
  | none => v = .tuple #[.agg (kC Kp.zero none 0 0), .bool false, .bool false]
theorem places_grow {l : List UInt8} : ∀ {k : Nat}, (∀ i, i < k → Frame.okAt l i) → (k : Int) ≤ Frame.place l k
  | 0, _ => by unfold Frame.place; omega
  | k + 1, h => by
    have h1 := places_grow (k := k) (fun i hi => h i (by omega))
    have h2 := Frame.place_ok (h k (by omega))
    omega
set_option maxHeartbeats 4000000 in
theorem walRead_any (A : Option Addr) (n c : Nat) (l : List UInt8) (w : World) (hn : n ≤ 16777216) (hnc : n ≤ c) (hr : Reads w w.heap.size 1 A n (bv l)) :
    Calls Try.prog 72 #[.slice A n c] w fun e w' => (∃ v, e = .returned v ∧ RdV w' w.heap.size (readW l) (isWhole l) v) ∧ Below w.heap.size w w' := by
  have hln : l.length = n := by have := hr.1; rw [bv_length] at this; omega
  refine calls_vw Try.func72 rfl (by kernel_rfl) ?_
  refine VW.seq (VW.vc (by kernel_rfl) ?_)
  ((conv => whnf); (repeat ((first|refine kLa ?_|refine kLb ?_|refine kCa rfl ?_|refine kCb ?_|refine kCc ?_|refine kCd ?_|refine kCe ?_|refine kCf ?_|refine kCg ?_|refine kCh ?_|refine kCi ?_|refine kCj ?_|refine kQa ?_|refine kQb ?_|refine kGa ?_|refine kGb ?_|refine kHa ?_|refine kHb ?_); (conv => whnf))))
  ((repeat ((first|refine kLa ?_|refine kLb ?_|refine kCa rfl ?_|refine kCb ?_|refine kCc ?_|refine kCd ?_|refine kCe ?_|refine kCf ?_|refine kCg ?_|refine kCh ?_|refine kCi ?_|refine kCj ?_|refine kQa ?_|refine kQb ?_|refine kGa ?_|refine kGb ?_|refine kHa ?_|refine kHb ?_|refine kPa ?_|refine kPb ?_|refine kPc ?_|refine kEa ?_|refine kEb ?_|refine kBa ?_|refine kBb ?_|refine kBc (by omega) ?_|refine kBd (by omega) ?_|refine kBe (by omega) ?_|refine kBf (by omega) ?_|refine kRa ?_|refine kRb ?_|refine VRead.fld ?_|refine VRead.load1 (by assumption) ?_|refine VRead.load (by assumption) ?_|refine kRf ?_|refine kRg ?_|refine kRh ?_|refine kRi ?_|refine kBe rfl ?_|refine kBc rfl ?_|refine kWa (by omega) (by omega) ?_|refine kWb (by omega) (by omega) ?_|refine kRj (by omega) ?_|refine kRk ?_|refine VSem.convI ?_|refine VRead.convI ?_|refine VRead.rem (by omega) (by decide) ?_|refine VRead.neg ?_|refine VC.seq ?_); (conv => whnf))))
  refine VSem.allocZ (z := .agg (kC Kp.zero none 0 0)) (by kernel_rfl) ?_
  intro w1 g2 hb2 hg2 hl2 hB1
  replace hb2 : Blk w1 g2 63 (kC Kp.zero none 0 0) := hb2
  ((conv => whnf); (repeat ((first|refine kLa ?_|refine kLb ?_|refine kCa rfl ?_|refine kCb ?_|refine kCc ?_|refine kCd ?_|refine kCe ?_|refine kCf ?_|refine kCg ?_|refine kCh ?_|refine kCi ?_|refine kCj ?_|refine kQa ?_|refine kQb ?_|refine kGa ?_|refine kGb ?_|refine kHa ?_|refine kHb ?_); (conv => whnf))))
  ((repeat ((first|refine kLa ?_|refine kLb ?_|refine kCa rfl ?_|refine kCb ?_|refine kCc ?_|refine kCd ?_|refine kCe ?_|refine kCf ?_|refine kCg ?_|refine kCh ?_|refine kCi ?_|refine kCj ?_|refine kQa ?_|refine kQb ?_|refine kGa ?_|refine kGb ?_|refine kHa ?_|refine kHb ?_|refine kPa ?_|refine kPb ?_|refine kPc ?_|refine kEa ?_|refine kEb ?_|refine kBa ?_|refine kBb ?_|refine kBc (by omega) ?_|refine kBd (by omega) ?_|refine kBe (by omega) ?_|refine kBf (by omega) ?_|refine kRa ?_|refine kRb ?_|refine VRead.fld ?_|refine VRead.load1 (by assumption) ?_|refine VRead.load (by assumption) ?_|refine kRf ?_|refine kRg ?_|refine kRh ?_|refine kRi ?_|refine kBe rfl ?_|refine kBc rfl ?_|refine kWa (by omega) (by omega) ?_|refine kWb (by omega) (by omega) ?_|refine kRj (by omega) ?_|refine kRk ?_|refine VSem.convI ?_|refine VRead.convI ?_|refine VRead.rem (by omega) (by decide) ?_|refine VRead.neg ?_|refine VC.seq ?_); (conv => whnf))))
  refine VSem.allocZ (z := .bool false) (by kernel_rfl) ?_
  intro w2 g4 hb4 hg4 hl4 hB2
  replace hb4 : Blk w2 g4 4 #[.bool false] := hb4
  have s1 := hB1.size
  have s2 := hB2.size
  have hB02 : Below w.heap.size w w2 := hB1.trans (hB2.mono s1)
  replace hb2 := hb2.later hB2
  ((conv => whnf); (repeat ((first|refine kLa ?_|refine kLb ?_|refine kCa rfl ?_|refine kCb ?_|refine kCc ?_|refine kCd ?_|refine kCe ?_|refine kCf ?_|refine kCg ?_|refine kCh ?_|refine kCi ?_|refine kCj ?_|refine kQa ?_|refine kQb ?_|refine kGa ?_|refine kGb ?_|refine kHa ?_|refine kHb ?_); (conv => whnf))))
  ((repeat ((first|refine kLa ?_|refine kLb ?_|refine kCa rfl ?_|refine kCb ?_|refine kCc ?_|refine kCd ?_|refine kCe ?_|refine kCf ?_|refine kCg ?_|refine kCh ?_|refine kCi ?_|refine kCj ?_|refine kQa ?_|refine kQb ?_|refine kGa ?_|refine kGb ?_|refine kHa ?_|refine kHb ?_|refine kPa ?_|refine kPb ?_|refine kPc ?_|refine kEa ?_|refine kEb ?_|refine kBa ?_|refine kBb ?_|refine kBc (by omega) ?_|refine kBd (by omega) ?_|refine kBe (by omega) ?_|refine kBf (by omega) ?_|refine kRa ?_|refine kRb ?_|refine VRead.fld ?_|refine VRead.load1 (by assumption) ?_|refine VRead.load (by assumption) ?_|refine kRf ?_|refine kRg ?_|refine kRh ?_|refine kRi ?_|refine kBe rfl ?_|refine kBc rfl ?_|refine kWa (by omega) (by omega) ?_|refine kWb (by omega) (by omega) ?_|refine kRj (by omega) ?_|refine kRk ?_|refine VSem.convI ?_|refine VRead.convI ?_|refine VRead.rem (by omega) (by decide) ?_|refine VRead.neg ?_|refine VC.seq ?_); (conv => whnf))))
  refine VW.scope ?_
  refine VW.seq (VW.vc (by kernel_rfl) ?_)
  ((conv => whnf); (repeat ((first|refine kLa ?_|refine kLb ?_|refine kCa rfl ?_|refine kCb ?_|refine kCc ?_|refine kCd ?_|refine kCe ?_|refine kCf ?_|refine kCg ?_|refine kCh ?_|refine kCi ?_|refine kCj ?_|refine kQa ?_|refine kQb ?_|refine kGa ?_|refine kGb ?_|refine kHa ?_|refine kHb ?_); (conv => whnf))))
  ((repeat ((first|refine kLa ?_|refine kLb ?_|refine kCa rfl ?_|refine kCb ?_|refine kCc ?_|refine kCd ?_|refine kCe ?_|refine kCf ?_|refine kCg ?_|refine kCh ?_|refine kCi ?_|refine kCj ?_|refine kQa ?_|refine kQb ?_|refine kGa ?_|refine kGb ?_|refine kHa ?_|refine kHb ?_|refine kPa ?_|refine kPb ?_|refine kPc ?_|refine kEa ?_|refine kEb ?_|refine kBa ?_|refine kBb ?_|refine kBc (by omega) ?_|refine kBd (by omega) ?_|refine kBe (by omega) ?_|refine kBf (by omega) ?_|refine kRa ?_|refine kRb ?_|refine VRead.fld ?_|refine VRead.load1 (by assumption) ?_|refine VRead.load (by assumption) ?_|refine kRf ?_|refine kRg ?_|refine kRh ?_|refine kRi ?_|refine kBe rfl ?_|refine kBc rfl ?_|refine kWa (by omega) (by omega) ?_|refine kWb (by omega) (by omega) ?_|refine kRj (by omega) ?_|refine kRk ?_|refine VSem.convI ?_|refine VRead.convI ?_|refine VRead.rem (by omega) (by decide) ?_|refine VRead.neg ?_|refine VC.seq ?_); (conv => whnf))))
  refine VCall.of (frEnds_any A n c l w2 (by omega) hnc ((hr.below hB02).more hB02.size)) ?_
  rintro e w3 ⟨k, hk, hno, rfl, hB3⟩
  refine ⟨_, rfl, ?_⟩
  obtain rfl := Frame.reach_eq hk hno
  have hwh : decide (Frame.place l (Frame.bodies l).length = (n : Int)) = isWhole l := by
    unfold isWhole
    rw [← hln]
    exact decide_eq_decide.2 Frame.whole_iff
  replace hb2 := hb2.later hB3
  replace hb4 := hb4.later hB3
  have hB03 := hB02.trans (hB3.mono hB02.size)
  have s3 := hB3.size
  ((conv => whnf); (repeat ((first|refine kLa ?_|refine kLb ?_|refine kCa rfl ?_|refine kCb ?_|refine kCc ?_|refine kCd ?_|refine kCe ?_|refine kCf ?_|refine kCg ?_|refine kCh ?_|refine kCi ?_|refine kCj ?_|refine kQa ?_|refine kQb ?_|refine kGa ?_|refine kGb ?_|refine kHa ?_|refine kHb ?_); (conv => whnf))))
  ((repeat ((first|refine kLa ?_|refine kLb ?_|refine kCa rfl ?_|refine kCb ?_|refine kCc ?_|refine kCd ?_|refine kCe ?_|refine kCf ?_|refine kCg ?_|refine kCh ?_|refine kCi ?_|refine kCj ?_|refine kQa ?_|refine kQb ?_|refine kGa ?_|refine kGb ?_|refine kHa ?_|refine kHb ?_|refine kPa ?_|refine kPb ?_|refine kPc ?_|refine kEa ?_|refine kEb ?_|refine kBa ?_|refine kBb ?_|refine kBc (by omega) ?_|refine kBd (by omega) ?_|refine kBe (by omega) ?_|refine kBf (by omega) ?_|refine kRa ?_|refine kRb ?_|refine VRead.fld ?_|refine VRead.load1 (by assumption) ?_|refine VRead.load (by assumption) ?_|refine kRf ?_|refine kRg ?_|refine kRh ?_|refine kRi ?_|refine kBe rfl ?_|refine kBc rfl ?_|refine kWa (by omega) (by omega) ?_|refine kWb (by omega) (by omega) ?_|refine kRj (by omega) ?_|refine kRk ?_|refine VSem.convI ?_|refine VRead.convI ?_|refine VRead.rem (by omega) (by decide) ?_|refine VRead.neg ?_|refine VC.seq ?_); (conv => whnf))))
  refine VW.seq (VW.vc (by kernel_rfl) ?_)
  ((conv => whnf); (repeat ((first|refine kLa ?_|refine kLb ?_|refine kCa rfl ?_|refine kCb ?_|refine kCc ?_|refine kCd ?_|refine kCe ?_|refine kCf ?_|refine kCg ?_|refine kCh ?_|refine kCi ?_|refine kCj ?_|refine kQa ?_|refine kQb ?_|refine kGa ?_|refine kGb ?_|refine kHa ?_|refine kHb ?_); (conv => whnf))))
  ((repeat ((first|refine kLa ?_|refine kLb ?_|refine kCa rfl ?_|refine kCb ?_|refine kCc ?_|refine kCd ?_|refine kCe ?_|refine kCf ?_|refine kCg ?_|refine kCh ?_|refine kCi ?_|refine kCj ?_|refine kQa ?_|refine kQb ?_|refine kGa ?_|refine kGb ?_|refine kHa ?_|refine kHb ?_|refine kPa ?_|refine kPb ?_|refine kPc ?_|refine kEa ?_|refine kEb ?_|refine kBa ?_|refine kBb ?_|refine kBc (by omega) ?_|refine kBd (by omega) ?_|refine kBe (by omega) ?_|refine kBf (by omega) ?_|refine kRa ?_|refine kRb ?_|refine VRead.fld ?_|refine VRead.load1 (by assumption) ?_|refine VRead.load (by assumption) ?_|refine kRf ?_|refine kRg ?_|refine kRh ?_|refine kRi ?_|refine kBe rfl ?_|refine kBc rfl ?_|refine kWa (by omega) (by omega) ?_|refine kWb (by omega) (by omega) ?_|refine kRj (by omega) ?_|refine kRk ?_|refine VSem.convI ?_|refine VRead.convI ?_|refine VRead.rem (by omega) (by decide) ?_|refine VRead.neg ?_|refine VC.seq ?_); (conv => whnf))))
  refine VW.seq (VW.seq (VW.vc (by kernel_rfl) ?_))
  ((conv => whnf); (repeat ((first|refine kLa ?_|refine kLb ?_|refine kCa rfl ?_|refine kCb ?_|refine kCc ?_|refine kCd ?_|refine kCe ?_|refine kCf ?_|refine kCg ?_|refine kCh ?_|refine kCi ?_|refine kCj ?_|refine kQa ?_|refine kQb ?_|refine kGa ?_|refine kGb ?_|refine kHa ?_|refine kHb ?_); (conv => whnf))))
  ((repeat ((first|refine kLa ?_|refine kLb ?_|refine kCa rfl ?_|refine kCb ?_|refine kCc ?_|refine kCd ?_|refine kCe ?_|refine kCf ?_|refine kCg ?_|refine kCh ?_|refine kCi ?_|refine kCj ?_|refine kQa ?_|refine kQb ?_|refine kGa ?_|refine kGb ?_|refine kHa ?_|refine kHb ?_|refine kPa ?_|refine kPb ?_|refine kPc ?_|refine kEa ?_|refine kEb ?_|refine kBa ?_|refine kBb ?_|refine kBc (by omega) ?_|refine kBd (by omega) ?_|refine kBe (by omega) ?_|refine kBf (by omega) ?_|refine kRa ?_|refine kRb ?_|refine VRead.fld ?_|refine VRead.load1 (by assumption) ?_|refine VRead.load (by assumption) ?_|refine kRf ?_|refine kRg ?_|refine kRh ?_|refine kRi ?_|refine kBe rfl ?_|refine kBc rfl ?_|refine kWa (by omega) (by omega) ?_|refine kWb (by omega) (by omega) ?_|refine kRj (by omega) ?_|refine kRk ?_|refine VSem.convI ?_|refine VRead.convI ?_|refine VRead.rem (by omega) (by decide) ?_|refine VRead.neg ?_|refine VC.seq ?_); (conv => whnf))))
  refine VCall.of (frAll_any (.slice A n c) ⟨_, _, _, rfl⟩ w3) ?_
  rintro e w4 ⟨gx, rfl, hbx, hgx, hB4⟩
  refine ⟨_, rfl, ?_⟩
  have hxl := blk_lt hbx
  replace hb2 := hb2.later hB4
  replace hb4 := hb4.later hB4
  have hB04 := hB03.trans (hB4.mono hB03.size)
  obtain ⟨o1, o2, o3, o4⟩ : w.heap.size ≤ g2 ∧ g2 < g4 ∧ g4 < gx ∧ gx < w4.heap.size := by omega
  clear hg2 hl2 hB1 hg4 hl4 hB2 s1 s2 hB02 hB3 hB03 s3 hB4 hxl hgx hk hno
  ((conv => whnf); (repeat ((first|refine kLa ?_|refine kLb ?_|refine kCa rfl ?_|refine kCb ?_|refine kCc ?_|refine kCd ?_|refine kCe ?_|refine kCf ?_|refine kCg ?_|refine kCh ?_|refine kCi ?_|refine kCj ?_|refine kQa ?_|refine kQb ?_|refine kGa ?_|refine kGb ?_|refine kHa ?_|refine kHb ?_); (conv => whnf))))
  ((repeat ((first|refine kLa ?_|refine kLb ?_|refine kCa rfl ?_|refine kCb ?_|refine kCc ?_|refine kCd ?_|refine kCe ?_|refine kCf ?_|refine kCg ?_|refine kCh ?_|refine kCi ?_|refine kCj ?_|refine kQa ?_|refine kQb ?_|refine kGa ?_|refine kGb ?_|refine kHa ?_|refine kHb ?_|refine kPa ?_|refine kPb ?_|refine kPc ?_|refine kEa ?_|refine kEb ?_|refine kBa ?_|refine kBb ?_|refine kBc (by omega) ?_|refine kBd (by omega) ?_|refine kBe (by omega) ?_|refine kBf (by omega) ?_|refine kRa ?_|refine kRb ?_|refine VRead.fld ?_|refine VRead.load1 (by assumption) ?_|refine VRead.load (by assumption) ?_|refine kRf ?_|refine kRg ?_|refine kRh ?_|refine kRi ?_|refine kBe rfl ?_|refine kBc rfl ?_|refine kWa (by omega) (by omega) ?_|refine kWb (by omega) (by omega) ?_|refine kRj (by omega) ?_|refine kRk ?_|refine VSem.convI ?_|refine VRead.convI ?_|refine VRead.rem (by omega) (by decide) ?_|refine VRead.neg ?_|refine VC.seq ?_); (conv => whnf))))
  refine VW.block (VW.range rfl (by kernel_rfl) ?_)
  intro r w5 hr1 hr2 hr3 hr4 hr5 hA5 hB5 hD5 hL5 hS5
  obtain ⟨D, hD⟩ : ∃ D, w4.heap.size = D := ⟨_, rfl⟩
  obtain ⟨bs, hbs⟩ : ∃ bs, Frame.bodies l = bs := ⟨_, rfl⟩
  have eS : readW l = if bs = [] then none else takesA true Kp.zero bs := by rw [← hbs]; rfl
  rw [hD] at o4 hD5 hL5 hS5
  have hwD : w.heap.size ≤ D := by omega
  have hB05 := hB04.trans (hB5.mono hB04.size)
  have hJ0 : WrJ bs (.slice A n c) w D (.loop r) g2 g4 gx 0 w5 :=
    ⟨⟨hbx.later hB5, hD5, hL5, hB05⟩, ⟨hb4.later hB5, Kp.zero, none, 0, 0, rfl, ⟨by decide, by decide⟩, Nat.le_refl _, hb2.later hB5, ERow.nil _ _ _⟩⟩
  clear hb2 hb4 hbx hD5 hL5 hB5 hB04 hB05
  rw [hD]
  refine VCall.of (all1 _ ⟨gx, 0, none⟩ A n c l (WrJ bs (.slice A n c) w D (.loop r) g2 g4 gx) (fun _ => WrX bs (.slice A n c) w D r g2 g4 gx) w5 (by omega) hnc hln (.inr ⟨_, rfl⟩) ?_ hJ0) ?_
  · refine ⟨fun k W hJ => ⟨?_, ?_⟩, fun k W W' hJ hb => ⟨hJ.fix.later hb, hJ.acc.later hb⟩, fun k W hk hok hJ B u m hO => ?_⟩
    · rw [hJ.fix.bx.cell 0]; rfl
    · exact (hr.below hJ.fix.since).more hJ.fix.since.size
    have hkb : k < bs.length := by
      rw [← hbs]
      exact Frame.reach_le (k := k + 1) (fun i hi => by
        by_cases e : i = k
        · rw [e]; exact hok
        · exact hk i (by omega))
    obtain ⟨b, hb⟩ : ∃ b, bs[k]? = some b := ⟨_, List.getElem?_eq_getElem hkb⟩
    have hbl : 1 ≤ b.length ∧ b.length ≤ 1048576 := Frame.body_ok (l := l) (by rw [hbs]; exact hb)
    have hbk : Frame.body l k = b := Frame.body_at (by rw [hbs]; exact hb)
    have hp0 : Frame.place l k = 0 ↔ k = 0 := Frame.place_zero (by rw [hbs]; exact hkb)
    have hkn : k ≤ 16777216 := by
      have h1 := Frame.place_le hk
      have h2 := places_grow hk
      omega
    obtain ⟨A1, c1, rfl⟩ := own_form hO
    rw [hbk] at hO
    have hml : b.length = m := hO.len
    refine VYield.of hJ.fix.ll hr1 hA5 (by rw [hr3, hr4, hr5]; kernel_rfl) ?_
    rw [hr3, hr4, hr5]
    ((conv => whnf); (repeat ((first|refine kLa ?_|refine kLb ?_|refine kCa rfl ?_|refine kCb ?_|refine kCc ?_|refine kCd ?_|refine kCe ?_|refine kCf ?_|refine kCg ?_|refine kCh ?_|refine kCi ?_|refine kCj ?_|refine kQa ?_|refine kQb ?_|refine kGa ?_|refine kGb ?_|refine kHa ?_|refine kHb ?_); (conv => whnf))))
    refine ⟨r, hJ.fix.ll, hr1, ?_⟩
    obtain ⟨W2, hW2⟩ : ∃ W2, W2 = W.putObj (D + 1) (.loop { r with state := .busy }) := ⟨_, rfl⟩
    rw [← hW2]
    have fx : WrFix (.slice A n c) w D (.loop { r with state := .busy }) gx W2 := by rw [hW2]; exact hJ.fix.loop (by omega) (by omega)
    have ac : WrAcc bs D g2 g4 k W2 := by rw [hW2]; exact hJ.acc.loop (by omega) (by omega) _
    have hO2 : Own W2 B (.slice A1 m c1) m b := by rw [hW2]; exact hO.loop hJ.fix.ll _
    have hDl : D + 1 < W2.heap.size := (Array.getElem?_eq_some_iff.1 fx.ll).1
    clear hW2 hJ hO
    obtain ⟨p4, kp, Ak, nk, ck, hkp, hbase, hlen, p2, hE⟩ := ac
    have hnk := hE.at_.2.2
    have htk : bs.take (k + 1) = bs.take k ++ [b] := take_snoc hb
    have hsn : takesA true Kp.zero (bs.take (k + 1)) = takes kp b (decide (k = 0)) := by
      rw [htk, takesA_snoc, hkp]
      simp only
      congr 1
      rw [Bool.true_and]
      cases k with
      | zero => rfl
      | succ k =>
        cases bs with
        | nil => simp at hkb
        | cons x y => rfl
    ((conv => whnf); (repeat ((first|refine kLa ?_|refine kLb ?_|refine kCa rfl ?_|refine kCb ?_|refine kCc ?_|refine kCd ?_|refine kCe ?_|refine kCf ?_|refine kCg ?_|refine kCh ?_|refine kCi ?_|refine kCj ?_|refine kQa ?_|refine kQb ?_|refine kGa ?_|refine kGb ?_|refine kHa ?_|refine kHb ?_); (conv => whnf))))
    ((repeat ((first|refine kLa ?_|refine kLb ?_|refine kCa rfl ?_|refine kCb ?_|refine kCc ?_|refine kCd ?_|refine kCe ?_|refine kCf ?_|refine kCg ?_|refine kCh ?_|refine kCi ?_|refine kCj ?_|refine kQa ?_|refine kQb ?_|refine kGa ?_|refine kGb ?_|refine kHa ?_|refine kHb ?_|refine kPa ?_|refine kPb ?_|refine kPc ?_|refine kEa ?_|refine kEb ?_|refine kBa ?_|refine kBb ?_|refine kBc (by omega) ?_|refine kBd (by omega) ?_|refine kBe (by omega) ?_|refine kBf (by omega) ?_|refine kRa ?_|refine kRb ?_|refine VRead.fld ?_|refine VRead.load1 (by assumption) ?_|refine VRead.load (by assumption) ?_|refine kRf ?_|refine kRg ?_|refine kRh ?_|refine kRi ?_|refine kBe rfl ?_|refine kBc rfl ?_|refine kWa (by omega) (by omega) ?_|refine kWb (by omega) (by omega) ?_|refine kRj (by omega) ?_|refine kRk ?_|refine VSem.convI ?_|refine VRead.convI ?_|refine VRead.rem (by omega) (by decide) ?_|refine VRead.neg ?_|refine VC.seq ?_); (conv => whnf))))
    rw [show decide (Frame.place l k = 0) = decide (k = 0) from decide_eq_decide.2 hp0]
    refine VCall.of (takes_any (fun j => D + 2 ≤ j) (D + 2) g2 kp Ak A1 nk ck m c1 b (decide (k = 0)) W2 p2 hE hO2.reads (by omega) hO2.cap (by omega) (by omega) (fun j hj => hj) (by omega) hbase) ?_
    rintro e W3 ⟨hout, hres⟩
    have hrb : ∀ j, (Value.slice Ak nk ck).ownBlock = some j → D + 2 ≤ j := fun j hj => (hE.lt hj).2
    have hF : ∀ j, j < D + 2 → j ≠ g2 → ¬ (j = g2 ∨ (Value.slice Ak nk ck).ownBlock = some j) := fun j hj hne h => by
      rcases h with h | h
      · exact hne h
      · have := hrb j h; omega
    have fx3 : WrFix (.slice A n c) w D (.loop { r with state := .busy }) gx W3 := fx.out hout (hF gx (by omega) (by omega)) (hF D (by omega) (by omega)) (hF (D + 1) (by omega) (by omega)) (fun j hj => by
      rcases hj with h | h
      · omega
      · have := hrb j h; omega)
    have p43 : Blk W3 g4 4 #[.bool (decide (0 < k))] := (hout.block g4 (blk_lt p4) (hF g4 (by omega) (by omega))).trans p4
    have hDl3 : D + 1 < W3.heap.size := (Array.getElem?_eq_some_iff.1 fx3.ll).1
    clear fx p4 hout hF
    cases hT : takes kp b (decide (k = 0)) with
    | none =>
      rw [hT] at hres hsn
      obtain ⟨rfl, cs, hcs5, hb2⟩ := hres
      refine ⟨_, rfl, ?_⟩
      ((conv => whnf); (repeat ((first|refine kLa ?_|refine kLb ?_|refine kCa rfl ?_|refine kCb ?_|refine kCc ?_|refine kCd ?_|refine kCe ?_|refine kCf ?_|refine kCg ?_|refine kCh ?_|refine kCi ?_|refine kCj ?_|refine kQa ?_|refine kQb ?_|refine kGa ?_|refine kGb ?_|refine kHa ?_|refine kHb ?_); (conv => whnf))))
      ((repeat ((first|refine kLa ?_|refine kLb ?_|refine kCa rfl ?_|refine kCb ?_|refine kCc ?_|refine kCd ?_|refine kCe ?_|refine kCf ?_|refine kCg ?_|refine kCh ?_|refine kCi ?_|refine kCj ?_|refine kQa ?_|refine kQb ?_|refine kGa ?_|refine kGb ?_|refine kHa ?_|refine kHb ?_|refine kPa ?_|refine kPb ?_|refine kPc ?_|refine kEa ?_|refine kEb ?_|refine kBa ?_|refine kBb ?_|refine kBc (by omega) ?_|refine kBd (by omega) ?_|refine kBe (by omega) ?_|refine kBf (by omega) ?_|refine kRa ?_|refine kRb ?_|refine VRead.fld ?_|refine VRead.load1 (by assumption) ?_|refine VRead.load (by assumption) ?_|refine kRf ?_|refine kRg ?_|refine kRh ?_|refine kRi ?_|refine kBe rfl ?_|refine kBc rfl ?_|refine kWa (by omega) (by omega) ?_|refine kWb (by omega) (by omega) ?_|refine kRj (by omega) ?_|refine kRk ?_|refine VSem.convI ?_|refine VRead.convI ?_|refine VRead.rem (by omega) (by decide) ?_|refine VRead.neg ?_|refine VC.seq ?_); (conv => whnf))))
      refine VUnit.storeB p43 rfl rfl rfl ?_
      intro W4 p44 hg4
      replace p44 : Blk W4 g4 4 #[.bool false] := p44
      have fx4 := fx3.only hg4 (by omega) (by omega) (by omega) (by omega)
      have hb24 := hb2.only hg4 (by omega)
      ((conv => whnf); (repeat ((first|refine kLa ?_|refine kLb ?_|refine kCa rfl ?_|refine kCb ?_|refine kCc ?_|refine kCd ?_|refine kCe ?_|refine kCf ?_|refine kCg ?_|refine kCh ?_|refine kCi ?_|refine kCj ?_|refine kQa ?_|refine kQb ?_|refine kGa ?_|refine kGb ?_|refine kHa ?_|refine kHb ?_); (conv => whnf))))
      (repeat (first | ((first|refine kLa ?_|refine kLb ?_|refine kCa rfl ?_|refine kCb ?_|refine kCc ?_|refine kCd ?_|refine kCe ?_|refine kCf ?_|refine kCg ?_|refine kCh ?_|refine kCi ?_|refine kCj ?_|refine kQa ?_|refine kQb ?_|refine kGa ?_|refine kGb ?_|refine kHa ?_|refine kHb ?_|refine kPa ?_|refine kPb ?_|refine kPc ?_|refine kEa ?_|refine kEb ?_|refine kBa ?_|refine kBb ?_|refine kBc (by omega) ?_|refine kBd (by omega) ?_|refine kBe (by omega) ?_|refine kBf (by omega) ?_|refine kRa ?_|refine kRb ?_|refine VRead.fld ?_|refine VRead.load1 (by assumption) ?_|refine VRead.load (by assumption) ?_|refine kRf ?_|refine kRg ?_|refine kRh ?_|refine kRi ?_|refine kBe rfl ?_|refine kBc rfl ?_|refine kWa (by omega) (by omega) ?_|refine kWb (by omega) (by omega) ?_|refine kRj (by omega) ?_|refine kRk ?_|refine VSem.convI ?_|refine VRead.convI ?_|refine VRead.rem (by omega) (by decide) ?_|refine VRead.neg ?_|refine VC.seq ?_); (conv => whnf)) | (refine VRead.loadB p44 rfl rfl ?_; (conv => whnf))))
      refine ⟨_, fx4.ll, .inr ⟨rfl, ⟨fx4.loop (by omega) (by omega), p44.putObj (by omega) _, ⟨cs, hcs5, hb24.putObj (by omega) _⟩, takesA_none hsn, fun e => by rw [e] at hkb; simp at hkb⟩⟩⟩
    | some kp' =>
      rw [hT] at hres hsn
      obtain ⟨rfl, A4, n4, c4, hb2, hE3⟩ := hres
      obtain ⟨hbase', hlen'⟩ := takes_in hT hbase
      refine ⟨_, rfl, ?_⟩
      ((conv => whnf); (repeat ((first|refine kLa ?_|refine kLb ?_|refine kCa rfl ?_|refine kCb ?_|refine kCc ?_|refine kCd ?_|refine kCe ?_|refine kCf ?_|refine kCg ?_|refine kCh ?_|refine kCi ?_|refine kCj ?_|refine kQa ?_|refine kQb ?_|refine kGa ?_|refine kGb ?_|refine kHa ?_|refine kHb ?_); (conv => whnf))))
      ((repeat ((first|refine kLa ?_|refine kLb ?_|refine kCa rfl ?_|refine kCb ?_|refine kCc ?_|refine kCd ?_|refine kCe ?_|refine kCf ?_|refine kCg ?_|refine kCh ?_|refine kCi ?_|refine kCj ?_|refine kQa ?_|refine kQb ?_|refine kGa ?_|refine kGb ?_|refine kHa ?_|refine kHb ?_|refine kPa ?_|refine kPb ?_|refine kPc ?_|refine kEa ?_|refine kEb ?_|refine kBa ?_|refine kBb ?_|refine kBc (by omega) ?_|refine kBd (by omega) ?_|refine kBe (by omega) ?_|refine kBf (by omega) ?_|refine kRa ?_|refine kRb ?_|refine VRead.fld ?_|refine VRead.load1 (by assumption) ?_|refine VRead.load (by assumption) ?_|refine kRf ?_|refine kRg ?_|refine kRh ?_|refine kRi ?_|refine kBe rfl ?_|refine kBc rfl ?_|refine kWa (by omega) (by omega) ?_|refine kWb (by omega) (by omega) ?_|refine kRj (by omega) ?_|refine kRk ?_|refine VSem.convI ?_|refine VRead.convI ?_|refine VRead.rem (by omega) (by decide) ?_|refine VRead.neg ?_|refine VC.seq ?_); (conv => whnf))))
      refine VUnit.storeB p43 rfl rfl rfl ?_
      intro W4 p44 hg4
      replace p44 : Blk W4 g4 4 #[.bool true] := p44
      have fx4 := fx3.only hg4 (by omega) (by omega) (by omega) (by omega)
      have hb24 := hb2.only hg4 (by omega)
      have hE4 := hE3.keepG p43 hg4 (by decide) (fun e => by have := (hE3.lt e).2; omega)
      ((conv => whnf); (repeat ((first|refine kLa ?_|refine kLb ?_|refine kCa rfl ?_|refine kCb ?_|refine kCc ?_|refine kCd ?_|refine kCe ?_|refine kCf ?_|refine kCg ?_|refine kCh ?_|refine kCi ?_|refine kCj ?_|refine kQa ?_|refine kQb ?_|refine kGa ?_|refine kGb ?_|refine kHa ?_|refine kHb ?_); (conv => whnf))))
      (repeat (first | ((first|refine kLa ?_|refine kLb ?_|refine kCa rfl ?_|refine kCb ?_|refine kCc ?_|refine kCd ?_|refine kCe ?_|refine kCf ?_|refine kCg ?_|refine kCh ?_|refine kCi ?_|refine kCj ?_|refine kQa ?_|refine kQb ?_|refine kGa ?_|refine kGb ?_|refine kHa ?_|refine kHb ?_|refine kPa ?_|refine kPb ?_|refine kPc ?_|refine kEa ?_|refine kEb ?_|refine kBa ?_|refine kBb ?_|refine kBc (by omega) ?_|refine kBd (by omega) ?_|refine kBe (by omega) ?_|refine kBf (by omega) ?_|refine kRa ?_|refine kRb ?_|refine VRead.fld ?_|refine VRead.load1 (by assumption) ?_|refine VRead.load (by assumption) ?_|refine kRf ?_|refine kRg ?_|refine kRh ?_|refine kRi ?_|refine kBe rfl ?_|refine kBc rfl ?_|refine kWa (by omega) (by omega) ?_|refine kWb (by omega) (by omega) ?_|refine kRj (by omega) ?_|refine kRk ?_|refine VSem.convI ?_|refine VRead.convI ?_|refine VRead.rem (by omega) (by decide) ?_|refine VRead.neg ?_|refine VC.seq ?_); (conv => whnf)) | (refine VRead.loadB p44 rfl rfl ?_; (conv => whnf))))
      refine ⟨_, fx4.ll, .inl ⟨rfl, ?_⟩⟩
      have er : (Loop.mk .ready none r.fn r.tmps r.params r.assign r.body r.defers) = r := by
        cases r; simp only at hr1 hr2; subst hr1 hr2; rfl
      have q1 : WrFix (.slice A n c) w D (.loop r) gx (W4.putObj (D + 1) (.loop r)) := fx4.loop (by omega) (by omega)
      show WrJ bs (.slice A n c) w D (.loop r) g2 g4 gx (k + 1) (W4.putObj (D + 1) (.loop (Loop.mk .ready none r.fn r.tmps r.params r.assign r.body r.defers)))
      rw [er]
      exact ⟨q1, p44.putObj (by omega) _, kp', A4, n4, c4, hsn, hbase', by omega, hb24.putObj (by omega) _, hE4.put (by omega) _⟩
  · rintro e W ⟨rfl, k, hk, hh⟩
    rcases hh with ⟨hno, hJ⟩ | ⟨_, hX⟩
    · have hkk : k = bs.length := by rw [← hbs]; exact Frame.reach_eq hk hno
      refine ⟨_, rfl, r, hJ.fix.ll, by rw [hr1]; decide, ?_⟩
      rw [hr2]
      (conv => whnf)
      obtain ⟨W2, hW2⟩ : ∃ W2, W2 = W.putObj (D + 1) (.loop { r with state := .exhausted, pending := none }) := ⟨_, rfl⟩
      rw [← hW2]
      have fx : WrFix (.slice A n c) w D (.loop { r with state := .exhausted, pending := none }) gx W2 := by rw [hW2]; exact hJ.fix.loop (by omega) (by omega)
      have ac : WrAcc bs D g2 g4 k W2 := by rw [hW2]; exact hJ.acc.loop (by omega) (by omega) _
      clear hW2 hJ hno
      obtain ⟨q4, kp, Ak, nk, ck, hkp, hbase, hlen, q2, hE⟩ := ac
      rw [hkk, List.take_of_length_le (Nat.le_refl _)] at hkp
      by_cases hk0 : 0 < k
      case neg =>
        have hbn : bs = [] := List.eq_nil_of_length_eq_zero (by omega)
        have hno : readW l = none := by rw [eS, if_pos hbn]
        rw [decide_eq_false hk0] at q4
        have hcs5 : (kC kp Ak nk ck).size = 5 := rfl
        refine VW.seq (VW.vc (by kernel_rfl) ?_)
        ((conv => whnf); (repeat ((first|refine kLa ?_|refine kLb ?_|refine kCa rfl ?_|refine kCb ?_|refine kCc ?_|refine kCd ?_|refine kCe ?_|refine kCf ?_|refine kCg ?_|refine kCh ?_|refine kCi ?_|refine kCj ?_|refine kQa ?_|refine kQb ?_|refine kGa ?_|refine kGb ?_|refine kHa ?_|refine kHb ?_); (conv => whnf))))
        (repeat (first | ((first|refine kLa ?_|refine kLb ?_|refine kCa rfl ?_|refine kCb ?_|refine kCc ?_|refine kCd ?_|refine kCe ?_|refine kCf ?_|refine kCg ?_|refine kCh ?_|refine kCi ?_|refine kCj ?_|refine kQa ?_|refine kQb ?_|refine kGa ?_|refine kGb ?_|refine kHa ?_|refine kHb ?_|refine kPa ?_|refine kPb ?_|refine kPc ?_|refine kEa ?_|refine kEb ?_|refine kBa ?_|refine kBb ?_|refine kBc (by omega) ?_|refine kBd (by omega) ?_|refine kBe (by omega) ?_|refine kBf (by omega) ?_|refine kRa ?_|refine kRb ?_|refine VRead.fld ?_|refine VRead.load1 (by assumption) ?_|refine VRead.load (by assumption) ?_|refine kRf ?_|refine kRg ?_|refine kRh ?_|refine kRi ?_|refine kBe rfl ?_|refine kBc rfl ?_|refine kWa (by omega) (by omega) ?_|refine kWb (by omega) (by omega) ?_|refine kRj (by omega) ?_|refine kRk ?_|refine VSem.convI ?_|refine VRead.convI ?_|refine VRead.rem (by omega) (by decide) ?_|refine VRead.neg ?_|refine VC.seq ?_); (conv => whnf)) | (refine VRead.loadB q4 rfl rfl ?_; (conv => whnf))))
        refine VRead.ofW (v := .agg (kC Kp.zero none 0 0)) (fun _ => by kernel_rfl) ?_
        ((conv => whnf); (repeat ((first|refine kLa ?_|refine kLb ?_|refine kCa rfl ?_|refine kCb ?_|refine kCc ?_|refine kCd ?_|refine kCe ?_|refine kCf ?_|refine kCg ?_|refine kCh ?_|refine kCi ?_|refine kCj ?_|refine kQa ?_|refine kQb ?_|refine kGa ?_|refine kGb ?_|refine kHa ?_|refine kHb ?_); (conv => whnf))))
        ((repeat ((first|refine kLa ?_|refine kLb ?_|refine kCa rfl ?_|refine kCb ?_|refine kCc ?_|refine kCd ?_|refine kCe ?_|refine kCf ?_|refine kCg ?_|refine kCh ?_|refine kCi ?_|refine kCj ?_|refine kQa ?_|refine kQb ?_|refine kGa ?_|refine kGb ?_|refine kHa ?_|refine kHb ?_|refine kPa ?_|refine kPb ?_|refine kPc ?_|refine kEa ?_|refine kEb ?_|refine kBa ?_|refine kBb ?_|refine kBc (by omega) ?_|refine kBd (by omega) ?_|refine kBe (by omega) ?_|refine kBf (by omega) ?_|refine kRa ?_|refine kRb ?_|refine VRead.fld ?_|refine VRead.load1 (by assumption) ?_|refine VRead.load (by assumption) ?_|refine kRf ?_|refine kRg ?_|refine kRh ?_|refine kRi ?_|refine kBe rfl ?_|refine kBc rfl ?_|refine kWa (by omega) (by omega) ?_|refine kWb (by omega) (by omega) ?_|refine kRj (by omega) ?_|refine kRk ?_|refine VSem.convI ?_|refine VRead.convI ?_|refine VRead.rem (by omega) (by decide) ?_|refine VRead.neg ?_|refine VC.seq ?_); (conv => whnf))))
        refine VUnit.storeAB q2 rfl rfl (by rw [hcs5]; rfl) (by simp [kC, Kp.zero, Value.oneCell']) ?_
        intro W3 b2 y2
        rw [setFrom_allW (by rw [hcs5]; rfl)] at b2
        ((conv => whnf); (repeat ((first|refine kLa ?_|refine kLb ?_|refine kCa rfl ?_|refine kCb ?_|refine kCc ?_|refine kCd ?_|refine kCe ?_|refine kCf ?_|refine kCg ?_|refine kCh ?_|refine kCi ?_|refine kCj ?_|refine kQa ?_|refine kQb ?_|refine kGa ?_|refine kGb ?_|refine kHa ?_|refine kHb ?_); (conv => whnf))))
        ((repeat ((first|refine kLa ?_|refine kLb ?_|refine kCa rfl ?_|refine kCb ?_|refine kCc ?_|refine kCd ?_|refine kCe ?_|refine kCf ?_|refine kCg ?_|refine kCh ?_|refine kCi ?_|refine kCj ?_|refine kQa ?_|refine kQb ?_|refine kGa ?_|refine kGb ?_|refine kHa ?_|refine kHb ?_|refine kPa ?_|refine kPb ?_|refine kPc ?_|refine kEa ?_|refine kEb ?_|refine kBa ?_|refine kBb ?_|refine kBc (by omega) ?_|refine kBd (by omega) ?_|refine kBe (by omega) ?_|refine kBf (by omega) ?_|refine kRa ?_|refine kRb ?_|refine VRead.fld ?_|refine VRead.load1 (by assumption) ?_|refine VRead.load (by assumption) ?_|refine kRf ?_|refine kRg ?_|refine kRh ?_|refine kRi ?_|refine kBe rfl ?_|refine kBc rfl ?_|refine kWa (by omega) (by omega) ?_|refine kWb (by omega) (by omega) ?_|refine kRj (by omega) ?_|refine kRk ?_|refine VSem.convI ?_|refine VRead.convI ?_|refine VRead.rem (by omega) (by decide) ?_|refine VRead.neg ?_|refine VC.seq ?_); (conv => whnf))))
        refine VUnit.storeB (q4.only y2 (by omega)) rfl rfl rfl ?_
        intro W4 b4 y4
        replace b4 : Blk W4 g4 4 #[.bool false] := b4
        ((conv => whnf); (repeat ((first|refine kLa ?_|refine kLb ?_|refine kCa rfl ?_|refine kCb ?_|refine kCc ?_|refine kCd ?_|refine kCe ?_|refine kCf ?_|refine kCg ?_|refine kCh ?_|refine kCi ?_|refine kCj ?_|refine kQa ?_|refine kQb ?_|refine kGa ?_|refine kGb ?_|refine kHa ?_|refine kHb ?_); (conv => whnf))))
        ((repeat ((first|refine kLa ?_|refine kLb ?_|refine kCa rfl ?_|refine kCb ?_|refine kCc ?_|refine kCd ?_|refine kCe ?_|refine kCf ?_|refine kCg ?_|refine kCh ?_|refine kCi ?_|refine kCj ?_|refine kQa ?_|refine kQb ?_|refine kGa ?_|refine kGb ?_|refine kHa ?_|refine kHb ?_|refine kPa ?_|refine kPb ?_|refine kPc ?_|refine kEa ?_|refine kEb ?_|refine kBa ?_|refine kBb ?_|refine kBc (by omega) ?_|refine kBd (by omega) ?_|refine kBe (by omega) ?_|refine kBf (by omega) ?_|refine kRa ?_|refine kRb ?_|refine VRead.fld ?_|refine VRead.load1 (by assumption) ?_|refine VRead.load (by assumption) ?_|refine kRf ?_|refine kRg ?_|refine kRh ?_|refine kRi ?_|refine kBe rfl ?_|refine kBc rfl ?_|refine kWa (by omega) (by omega) ?_|refine kWb (by omega) (by omega) ?_|refine kRj (by omega) ?_|refine kRk ?_|refine VSem.convI ?_|refine VRead.convI ?_|refine VRead.rem (by omega) (by decide) ?_|refine VRead.neg ?_|refine VC.seq ?_); (conv => whnf))))
        refine ⟨obj_only (obj_only fx.dd y2 (by omega)) y4 (by omega), ?_⟩
        have b2' := (b2.only y4 (by omega)).putObj (r := D) (by omega) (.deferred none)
        have b4' := b4.putObj (r := D) (by omega) (.deferred none)
        refine VRes.rd3 rfl rfl b2' rfl b4' ?_
        refine ⟨⟨_, rfl, ?_⟩, Below.putObj (only_new (only_new fx.since y2 (by omega) fx.since.size) y4 (by omega) (by have := fx.since.size; have := y2.size; omega)) (by omega) _⟩
        rw [hno]
        exact rfl
      have hyes : readW l = some kp := by rw [eS, if_neg (fun e => by rw [e] at hkk; simp at hkk; omega), hkp]
      rw [decide_eq_true hk0] at q4
      refine VW.seq (VW.vc (by kernel_rfl) ?_)
      ((conv => whnf); (repeat ((first|refine kLa ?_|refine kLb ?_|refine kCa rfl ?_|refine kCb ?_|refine kCc ?_|refine kCd ?_|refine kCe ?_|refine kCf ?_|refine kCg ?_|refine kCh ?_|refine kCi ?_|refine kCj ?_|refine kQa ?_|refine kQb ?_|refine kGa ?_|refine kGb ?_|refine kHa ?_|refine kHb ?_); (conv => whnf))))
      (repeat (first | ((first|refine kLa ?_|refine kLb ?_|refine kCa rfl ?_|refine kCb ?_|refine kCc ?_|refine kCd ?_|refine kCe ?_|refine kCf ?_|refine kCg ?_|refine kCh ?_|refine kCi ?_|refine kCj ?_|refine kQa ?_|refine kQb ?_|refine kGa ?_|refine kGb ?_|refine kHa ?_|refine kHb ?_|refine kPa ?_|refine kPb ?_|refine kPc ?_|refine kEa ?_|refine kEb ?_|refine kBa ?_|refine kBb ?_|refine kBc (by omega) ?_|refine kBd (by omega) ?_|refine kBe (by omega) ?_|refine kBf (by omega) ?_|refine kRa ?_|refine kRb ?_|refine VRead.fld ?_|refine VRead.load1 (by assumption) ?_|refine VRead.load (by assumption) ?_|refine kRf ?_|refine kRg ?_|refine kRh ?_|refine kRi ?_|refine kBe rfl ?_|refine kBc rfl ?_|refine kWa (by omega) (by omega) ?_|refine kWb (by omega) (by omega) ?_|refine kRj (by omega) ?_|refine kRk ?_|refine VSem.convI ?_|refine VRead.convI ?_|refine VRead.rem (by omega) (by decide) ?_|refine VRead.neg ?_|refine VC.seq ?_); (conv => whnf)) | (refine VRead.loadB q4 rfl rfl ?_; (conv => whnf))))
      refine VW.vc (by kernel_rfl) ?_
      ((conv => whnf); (repeat ((first|refine kLa ?_|refine kLb ?_|refine kCa rfl ?_|refine kCb ?_|refine kCc ?_|refine kCd ?_|refine kCe ?_|refine kCf ?_|refine kCg ?_|refine kCh ?_|refine kCi ?_|refine kCj ?_|refine kQa ?_|refine kQb ?_|refine kGa ?_|refine kGb ?_|refine kHa ?_|refine kHb ?_); (conv => whnf))))
      ((repeat ((first|refine kLa ?_|refine kLb ?_|refine kCa rfl ?_|refine kCb ?_|refine kCc ?_|refine kCd ?_|refine kCe ?_|refine kCf ?_|refine kCg ?_|refine kCh ?_|refine kCi ?_|refine kCj ?_|refine kQa ?_|refine kQb ?_|refine kGa ?_|refine kGb ?_|refine kHa ?_|refine kHb ?_|refine kPa ?_|refine kPb ?_|refine kPc ?_|refine kEa ?_|refine kEb ?_|refine kBa ?_|refine kBb ?_|refine kBc (by omega) ?_|refine kBd (by omega) ?_|refine kBe (by omega) ?_|refine kBf (by omega) ?_|refine kRa ?_|refine kRb ?_|refine VRead.fld ?_|refine VRead.load1 (by assumption) ?_|refine VRead.load (by assumption) ?_|refine kRf ?_|refine kRg ?_|refine kRh ?_|refine kRi ?_|refine kBe rfl ?_|refine kBc rfl ?_|refine kWa (by omega) (by omega) ?_|refine kWb (by omega) (by omega) ?_|refine kRj (by omega) ?_|refine kRk ?_|refine VSem.convI ?_|refine VRead.convI ?_|refine VRead.rem (by omega) (by decide) ?_|refine VRead.neg ?_|refine VC.seq ?_); (conv => whnf))))
      refine VRead.loadAB1 q2 rfl rfl ?_
      ((conv => whnf); (repeat ((first|refine kLa ?_|refine kLb ?_|refine kCa rfl ?_|refine kCb ?_|refine kCc ?_|refine kCd ?_|refine kCe ?_|refine kCf ?_|refine kCg ?_|refine kCh ?_|refine kCi ?_|refine kCj ?_|refine kQa ?_|refine kQb ?_|refine kGa ?_|refine kGb ?_|refine kHa ?_|refine kHb ?_); (conv => whnf))))
      ((repeat ((first|refine kLa ?_|refine kLb ?_|refine kCa rfl ?_|refine kCb ?_|refine kCc ?_|refine kCd ?_|refine kCe ?_|refine kCf ?_|refine kCg ?_|refine kCh ?_|refine kCi ?_|refine kCj ?_|refine kQa ?_|refine kQb ?_|refine kGa ?_|refine kGb ?_|refine kHa ?_|refine kHb ?_|refine kPa ?_|refine kPb ?_|refine kPc ?_|refine kEa ?_|refine kEb ?_|refine kBa ?_|refine kBb ?_|refine kBc (by omega) ?_|refine kBd (by omega) ?_|refine kBe (by omega) ?_|refine kBf (by omega) ?_|refine kRa ?_|refine kRb ?_|refine VRead.fld ?_|refine VRead.load1 (by assumption) ?_|refine VRead.load (by assumption) ?_|refine kRf ?_|refine kRg ?_|refine kRh ?_|refine kRi ?_|refine kBe rfl ?_|refine kBc rfl ?_|refine kWa (by omega) (by omega) ?_|refine kWb (by omega) (by omega) ?_|refine kRj (by omega) ?_|refine kRk ?_|refine VSem.convI ?_|refine VRead.convI ?_|refine VRead.rem (by omega) (by decide) ?_|refine VRead.neg ?_|refine VC.seq ?_); (conv => whnf))))
      refine VUnit.storeAB q2 rfl rfl rfl (by simp [kC, Value.oneCell']) ?_
      intro W3 b2 y2
      rw [setFrom_allW rfl] at b2
      have hE3 := hE.keepG q2 y2 (by decide) (fun e => by have := (hE.lt e).2; omega)
      ((conv => whnf); (repeat ((first|refine kLa ?_|refine kLb ?_|refine kCa rfl ?_|refine kCb ?_|refine kCc ?_|refine kCd ?_|refine kCe ?_|refine kCf ?_|refine kCg ?_|refine kCh ?_|refine kCi ?_|refine kCj ?_|refine kQa ?_|refine kQb ?_|refine kGa ?_|refine kGb ?_|refine kHa ?_|refine kHb ?_); (conv => whnf))))
      ((repeat ((first|refine kLa ?_|refine kLb ?_|refine kCa rfl ?_|refine kCb ?_|refine kCc ?_|refine kCd ?_|refine kCe ?_|refine kCf ?_|refine kCg ?_|refine kCh ?_|refine kCi ?_|refine kCj ?_|refine kQa ?_|refine kQb ?_|refine kGa ?_|refine kGb ?_|refine kHa ?_|refine kHb ?_|refine kPa ?_|refine kPb ?_|refine kPc ?_|refine kEa ?_|refine kEb ?_|refine kBa ?_|refine kBb ?_|refine kBc (by omega) ?_|refine kBd (by omega) ?_|refine kBe (by omega) ?_|refine kBf (by omega) ?_|refine kRa ?_|refine kRb ?_|refine VRead.fld ?_|refine VRead.load1 (by assumption) ?_|refine VRead.load (by assumption) ?_|refine kRf ?_|refine kRg ?_|refine kRh ?_|refine kRi ?_|refine kBe rfl ?_|refine kBc rfl ?_|refine kWa (by omega) (by omega) ?_|refine kWb (by omega) (by omega) ?_|refine kRj (by omega) ?_|refine kRk ?_|refine VSem.convI ?_|refine VRead.convI ?_|refine VRead.rem (by omega) (by decide) ?_|refine VRead.neg ?_|refine VC.seq ?_); (conv => whnf))))
      refine VUnit.storeB (q4.only y2 (by omega)) rfl rfl rfl ?_
      intro W4 b4 y4
      replace b4 : Blk W4 g4 4 #[.bool true] := b4
      have hE4 := hE3.keepG (q4.only y2 (by omega)) y4 (by decide) (fun e => by have := (hE3.lt e).2; omega)
      ((conv => whnf); (repeat ((first|refine kLa ?_|refine kLb ?_|refine kCa rfl ?_|refine kCb ?_|refine kCc ?_|refine kCd ?_|refine kCe ?_|refine kCf ?_|refine kCg ?_|refine kCh ?_|refine kCi ?_|refine kCj ?_|refine kQa ?_|refine kQb ?_|refine kGa ?_|refine kGb ?_|refine kHa ?_|refine kHb ?_); (conv => whnf))))
      ((repeat ((first|refine kLa ?_|refine kLb ?_|refine kCa rfl ?_|refine kCb ?_|refine kCc ?_|refine kCd ?_|refine kCe ?_|refine kCf ?_|refine kCg ?_|refine kCh ?_|refine kCi ?_|refine kCj ?_|refine kQa ?_|refine kQb ?_|refine kGa ?_|refine kGb ?_|refine kHa ?_|refine kHb ?_|refine kPa ?_|refine kPb ?_|refine kPc ?_|refine kEa ?_|refine kEb ?_|refine kBa ?_|refine kBb ?_|refine kBc (by omega) ?_|refine kBd (by omega) ?_|refine kBe (by omega) ?_|refine kBf (by omega) ?_|refine kRa ?_|refine kRb ?_|refine VRead.fld ?_|refine VRead.load1 (by assumption) ?_|refine VRead.load (by assumption) ?_|refine kRf ?_|refine kRg ?_|refine kRh ?_|refine kRi ?_|refine kBe rfl ?_|refine kBc rfl ?_|refine kWa (by omega) (by omega) ?_|refine kWb (by omega) (by omega) ?_|refine kRj (by omega) ?_|refine kRk ?_|refine VSem.convI ?_|refine VRead.convI ?_|refine VRead.rem (by omega) (by decide) ?_|refine VRead.neg ?_|refine VC.seq ?_); (conv => whnf))))
      refine ⟨obj_only (obj_only fx.dd y2 (by omega)) y4 (by omega), ?_⟩
      have b2' := (b2.only y4 (by omega)).putObj (r := D) (by omega) (.deferred none)
      have b4' := b4.putObj (r := D) (by omega) (.deferred none)
      refine VRes.rd3 rfl rfl b2' rfl b4' ?_
      refine ⟨⟨_, rfl, ?_⟩, Below.putObj (only_new (only_new fx.since y2 (by omega) fx.since.size) y4 (by omega) (by have := fx.since.size; have := y2.size; omega)) (by omega) _⟩
      rw [hyes, ← hwh]
      exact ⟨Ak, nk, ck, rfl, (hE4.put (by omega) _).more (by omega) (fun j _ hj => by have : D + 2 ≤ j := hj; show w.heap.size ≤ j; omega)⟩
    · refine ⟨_, rfl, _, hX.fix.ll, by simp, ?_⟩
      (conv => whnf)
      obtain ⟨W2, hW2⟩ : ∃ W2, W2 = W.putObj (D + 1) (.loop { r with state := .exhausted, pending := some (.exit 0) }) := ⟨_, rfl⟩
      rw [← hW2]
      have fx : WrFix (.slice A n c) w D (.loop { r with state := .exhausted, pending := some (.exit 0) }) gx W2 := by rw [hW2]; exact hX.fix.loop (by omega) (by omega)
      have q4 : Blk W2 g4 4 #[.bool false] := by rw [hW2]; exact hX.ok.putObj (by omega) _
      obtain ⟨cs, hcs5, hbx⟩ := hX.kp
      have q2 : Blk W2 g2 63 cs := by rw [hW2]; exact hbx.putObj (by omega) _
      have hno : readW l = none := by rw [eS, if_neg hX.some_, hX.no]
      clear hW2 hX hbx
      refine VW.seq (VW.vc (by kernel_rfl) ?_)
      ((conv => whnf); (repeat ((first|refine kLa ?_|refine kLb ?_|refine kCa rfl ?_|refine kCb ?_|refine kCc ?_|refine kCd ?_|refine kCe ?_|refine kCf ?_|refine kCg ?_|refine kCh ?_|refine kCi ?_|refine kCj ?_|refine kQa ?_|refine kQb ?_|refine kGa ?_|refine kGb ?_|refine kHa ?_|refine kHb ?_); (conv => whnf))))
      (repeat (first | ((first|refine kLa ?_|refine kLb ?_|refine kCa rfl ?_|refine kCb ?_|refine kCc ?_|refine kCd ?_|refine kCe ?_|refine kCf ?_|refine kCg ?_|refine kCh ?_|refine kCi ?_|refine kCj ?_|refine kQa ?_|refine kQb ?_|refine kGa ?_|refine kGb ?_|refine kHa ?_|refine kHb ?_|refine kPa ?_|refine kPb ?_|refine kPc ?_|refine kEa ?_|refine kEb ?_|refine kBa ?_|refine kBb ?_|refine kBc (by omega) ?_|refine kBd (by omega) ?_|refine kBe (by omega) ?_|refine kBf (by omega) ?_|refine kRa ?_|refine kRb ?_|refine VRead.fld ?_|refine VRead.load1 (by assumption) ?_|refine VRead.load (by assumption) ?_|refine kRf ?_|refine kRg ?_|refine kRh ?_|refine kRi ?_|refine kBe rfl ?_|refine kBc rfl ?_|refine kWa (by omega) (by omega) ?_|refine kWb (by omega) (by omega) ?_|refine kRj (by omega) ?_|refine kRk ?_|refine VSem.convI ?_|refine VRead.convI ?_|refine VRead.rem (by omega) (by decide) ?_|refine VRead.neg ?_|refine VC.seq ?_); (conv => whnf)) | (refine VRead.loadB q4 rfl rfl ?_; (conv => whnf))))
      refine VRead.ofW (v := .agg (kC Kp.zero none 0 0)) (fun _ => by kernel_rfl) ?_
      ((conv => whnf); (repeat ((first|refine kLa ?_|refine kLb ?_|refine kCa rfl ?_|refine kCb ?_|refine kCc ?_|refine kCd ?_|refine kCe ?_|refine kCf ?_|refine kCg ?_|refine kCh ?_|refine kCi ?_|refine kCj ?_|refine kQa ?_|refine kQb ?_|refine kGa ?_|refine kGb ?_|refine kHa ?_|refine kHb ?_); (conv => whnf))))
      ((repeat ((first|refine kLa ?_|refine kLb ?_|refine kCa rfl ?_|refine kCb ?_|refine kCc ?_|refine kCd ?_|refine kCe ?_|refine kCf ?_|refine kCg ?_|refine kCh ?_|refine kCi ?_|refine kCj ?_|refine kQa ?_|refine kQb ?_|refine kGa ?_|refine kGb ?_|refine kHa ?_|refine kHb ?_|refine kPa ?_|refine kPb ?_|refine kPc ?_|refine kEa ?_|refine kEb ?_|refine kBa ?_|refine kBb ?_|refine kBc (by omega) ?_|refine kBd (by omega) ?_|refine kBe (by omega) ?_|refine kBf (by omega) ?_|refine kRa ?_|refine kRb ?_|refine VRead.fld ?_|refine VRead.load1 (by assumption) ?_|refine VRead.load (by assumption) ?_|refine kRf ?_|refine kRg ?_|refine kRh ?_|refine kRi ?_|refine kBe rfl ?_|refine kBc rfl ?_|refine kWa (by omega) (by omega) ?_|refine kWb (by omega) (by omega) ?_|refine kRj (by omega) ?_|refine kRk ?_|refine VSem.convI ?_|refine VRead.convI ?_|refine VRead.rem (by omega) (by decide) ?_|refine VRead.neg ?_|refine VC.seq ?_); (conv => whnf))))
      refine VUnit.storeAB q2 rfl rfl (by rw [hcs5]; rfl) (by simp [kC, Kp.zero, Value.oneCell']) ?_
      intro W3 b2 y2
      rw [setFrom_allW (by rw [hcs5]; rfl)] at b2
      ((conv => whnf); (repeat ((first|refine kLa ?_|refine kLb ?_|refine kCa rfl ?_|refine kCb ?_|refine kCc ?_|refine kCd ?_|refine kCe ?_|refine kCf ?_|refine kCg ?_|refine kCh ?_|refine kCi ?_|refine kCj ?_|refine kQa ?_|refine kQb ?_|refine kGa ?_|refine kGb ?_|refine kHa ?_|refine kHb ?_); (conv => whnf))))
      ((repeat ((first|refine kLa ?_|refine kLb ?_|refine kCa rfl ?_|refine kCb ?_|refine kCc ?_|refine kCd ?_|refine kCe ?_|refine kCf ?_|refine kCg ?_|refine kCh ?_|refine kCi ?_|refine kCj ?_|refine kQa ?_|refine kQb ?_|refine kGa ?_|refine kGb ?_|refine kHa ?_|refine kHb ?_|refine kPa ?_|refine kPb ?_|refine kPc ?_|refine kEa ?_|refine kEb ?_|refine kBa ?_|refine kBb ?_|refine kBc (by omega) ?_|refine kBd (by omega) ?_|refine kBe (by omega) ?_|refine kBf (by omega) ?_|refine kRa ?_|refine kRb ?_|refine VRead.fld ?_|refine VRead.load1 (by assumption) ?_|refine VRead.load (by assumption) ?_|refine kRf ?_|refine kRg ?_|refine kRh ?_|refine kRi ?_|refine kBe rfl ?_|refine kBc rfl ?_|refine kWa (by omega) (by omega) ?_|refine kWb (by omega) (by omega) ?_|refine kRj (by omega) ?_|refine kRk ?_|refine VSem.convI ?_|refine VRead.convI ?_|refine VRead.rem (by omega) (by decide) ?_|refine VRead.neg ?_|refine VC.seq ?_); (conv => whnf))))
      refine VUnit.storeB (q4.only y2 (by omega)) rfl rfl rfl ?_
      intro W4 b4 y4
      replace b4 : Blk W4 g4 4 #[.bool false] := b4
      ((conv => whnf); (repeat ((first|refine kLa ?_|refine kLb ?_|refine kCa rfl ?_|refine kCb ?_|refine kCc ?_|refine kCd ?_|refine kCe ?_|refine kCf ?_|refine kCg ?_|refine kCh ?_|refine kCi ?_|refine kCj ?_|refine kQa ?_|refine kQb ?_|refine kGa ?_|refine kGb ?_|refine kHa ?_|refine kHb ?_); (conv => whnf))))
      ((repeat ((first|refine kLa ?_|refine kLb ?_|refine kCa rfl ?_|refine kCb ?_|refine kCc ?_|refine kCd ?_|refine kCe ?_|refine kCf ?_|refine kCg ?_|refine kCh ?_|refine kCi ?_|refine kCj ?_|refine kQa ?_|refine kQb ?_|refine kGa ?_|refine kGb ?_|refine kHa ?_|refine kHb ?_|refine kPa ?_|refine kPb ?_|refine kPc ?_|refine kEa ?_|refine kEb ?_|refine kBa ?_|refine kBb ?_|refine kBc (by omega) ?_|refine kBd (by omega) ?_|refine kBe (by omega) ?_|refine kBf (by omega) ?_|refine kRa ?_|refine kRb ?_|refine VRead.fld ?_|refine VRead.load1 (by assumption) ?_|refine VRead.load (by assumption) ?_|refine kRf ?_|refine kRg ?_|refine kRh ?_|refine kRi ?_|refine kBe rfl ?_|refine kBc rfl ?_|refine kWa (by omega) (by omega) ?_|refine kWb (by omega) (by omega) ?_|refine kRj (by omega) ?_|refine kRk ?_|refine VSem.convI ?_|refine VRead.convI ?_|refine VRead.rem (by omega) (by decide) ?_|refine VRead.neg ?_|refine VC.seq ?_); (conv => whnf))))
      refine ⟨obj_only (obj_only fx.dd y2 (by omega)) y4 (by omega), ?_⟩
      have b2' := (b2.only y4 (by omega)).putObj (r := D) (by omega) (.deferred none)
      have b4' := b4.putObj (r := D) (by omega) (.deferred none)
      refine VRes.rd3 rfl rfl b2' rfl b4' ?_
      refine ⟨⟨_, rfl, ?_⟩, Below.putObj (only_new (only_new fx.since y2 (by omega) fx.since.size) y4 (by omega) (by have := fx.since.size; have := y2.size; omega)) (by omega) _⟩
      rw [hno]
      exact rfl
end Go.Proofs.Ytebeidnmplnlpaa
end

section
set_option maxRecDepth 10000
namespace Go.Proofs.Ytebeidnmplnlpaa
set_option linter.unusedVariables false
open Go.RowKit

structure WlS where
  n : Int
  base : Int
  last : Int
def wlC (d : Nat) (w : WlS) : Array Value := #[.pointer (some ⟨d, 0, none⟩), .int .i64 w.n, .int .i64 w.base, .int .i64 w.last]
def addF (U : Foot) (g : Nat) : Foot := fun j => U j ∨ j = g
theorem Step.add {W W' : World} {U U' : Foot} (h : Step W U W' U') (g : Nat) : Step W (addF U g) W' (addF U' g) :=
  ⟨h.out.mono (fun j hj => .inl hj), fun j hj => by
    rcases hj with h' | h'
    · rcases h.sub j h' with h' | h'
      · exact .inl (.inl h')
      · exact .inr h'
    · exact .inl (.inr h')⟩
theorem Step.cell {W W' : World} {U : Foot} {g : Nat} (hg : W.grownBy W' (some g)) : Step W (addF U g) W' (addF U g) := ⟨Out.grown hg (.inr rfl), fun j hj => .inl hj⟩
theorem Dsk.cell {W W' : World} {U : Foot} {d g : Nat} {S : DS} (h : Dsk W U d S) (hg : W.grownBy W' (some g)) (hU : ¬ U g) : Dsk W' U d S :=
  ⟨h.disk.stay hg.size (fun j hj hu => hg.block j hj (fun e => by injection e with e; exact hU (e ▸ hu))), fun j hj => Nat.lt_of_lt_of_le (h.lt j hj) hg.size⟩
set_option maxHeartbeats 2000000 in
theorem walClears_any (W : World) (U : Foot) (g d : Nat) (S : DS) (wl : WlS) (h : Dsk W U d S) (hw : Blk W g 105 (wlC d wl)) (hg : ¬ U g) (hn : -9223372036854775808 ≤ wl.n ∧ wl.n ≤ 9223372036854775807) (hc : S.k.calls + 100 < 1000000) :
    Calls Try.prog 73 #[.pointer (some ⟨g, 0, none⟩)] W fun e W' => e = .returned (.int .i64 (S.clear wPre (wName wl.n) S.keys).1) ∧ ∃ U', Dsk W' U' d (S.clear wPre (wName wl.n) S.keys).2 ∧ Step W U W' U' := by
  have hwn := wName_le wl.n
  refine calls_vc Try.func73 rfl (by kernel_rfl) ?_
  ((conv => whnf); (repeat ((first|refine kLa ?_|refine kLb ?_|refine kCa rfl ?_|refine kCb ?_|refine kCc ?_|refine kCd ?_|refine kCe ?_|refine kCf ?_|refine kCg ?_|refine kCh ?_|refine kCi ?_|refine kCj ?_|refine kQa ?_|refine kQb ?_|refine kGa ?_|refine kGb ?_|refine kHa ?_|refine kHb ?_); (conv => whnf))))
  (repeat (first | ((first|refine kLa ?_|refine kLb ?_|refine kCa rfl ?_|refine kCb ?_|refine kCc ?_|refine kCd ?_|refine kCe ?_|refine kCf ?_|refine kCg ?_|refine kCh ?_|refine kCi ?_|refine kCj ?_|refine kQa ?_|refine kQb ?_|refine kGa ?_|refine kGb ?_|refine kHa ?_|refine kHb ?_|refine kPa ?_|refine kPb ?_|refine kPc ?_|refine kEa ?_|refine kEb ?_|refine kBa ?_|refine kBb ?_|refine kBc (by omega) ?_|refine kBd (by omega) ?_|refine kBe (by omega) ?_|refine kBf (by omega) ?_|refine kRa ?_|refine kRb ?_|refine VRead.fld ?_|refine VRead.load1 (by assumption) ?_|refine VRead.load (by assumption) ?_|refine kRf ?_|refine kRg ?_|refine kRh ?_|refine kRi ?_|refine kBe rfl ?_|refine kBc rfl ?_|refine kWa (by omega) (by omega) ?_|refine kWb (by omega) (by omega) ?_|refine kRj (by omega) ?_|refine kRk ?_|refine VSem.convI ?_|refine VRead.convI ?_|refine VRead.rem (by omega) (by decide) ?_|refine VRead.neg ?_|refine VC.seq ?_); (conv => whnf)) | (refine VRead.loadB hw rfl rfl ?_; (conv => whnf))))
  refine VCall.of (oList W U d S h) ?_
  rintro e w5 ⟨Al, kl, rfl, hOl, hB5⟩
  refine ⟨_, rfl, ?_⟩
  have hfew := h.wf.t.few
  have hnm : ∀ s ∈ S.keys, s.length ≤ 32 := fun s hs => by
    obtain ⟨p, hp, rfl⟩ := List.mem_map.1 hs
    exact (h.wf.t.names p hp).2
  have hkl : S.keys.length = S.t.length := by unfold DS.keys; simp
  have hfr : Free U (.slice Al S.t.length kl) := Free.new hOl h.lt
  obtain ⟨keys, hkeys⟩ : ∃ keys, S.keys = keys := ⟨_, rfl⟩
  replace hOl : w5.ownsRow W.heap.size 9 1 (.slice Al S.t.length kl) S.t.length (keys.map encStr) := by rw [← hkeys]; exact hOl
  rw [hkeys] at hnm hkl ⊢
  obtain ⟨R, hR⟩ : ∃ R, S.clear wPre (wName wl.n) keys = R := ⟨_, rfl⟩
  rw [hR]
  ((conv => whnf); (repeat ((first|refine kLa ?_|refine kLb ?_|refine kCa rfl ?_|refine kCb ?_|refine kCc ?_|refine kCd ?_|refine kCe ?_|refine kCf ?_|refine kCg ?_|refine kCh ?_|refine kCi ?_|refine kCj ?_|refine kQa ?_|refine kQb ?_|refine kGa ?_|refine kGb ?_|refine kHa ?_|refine kHb ?_); (conv => whnf))))
  ((repeat ((first|refine kLa ?_|refine kLb ?_|refine kCa rfl ?_|refine kCb ?_|refine kCc ?_|refine kCd ?_|refine kCe ?_|refine kCf ?_|refine kCg ?_|refine kCh ?_|refine kCi ?_|refine kCj ?_|refine kQa ?_|refine kQb ?_|refine kGa ?_|refine kGb ?_|refine kHa ?_|refine kHb ?_|refine kPa ?_|refine kPb ?_|refine kPc ?_|refine kEa ?_|refine kEb ?_|refine kBa ?_|refine kBb ?_|refine kBc (by omega) ?_|refine kBd (by omega) ?_|refine kBe (by omega) ?_|refine kBf (by omega) ?_|refine kRa ?_|refine kRb ?_|refine VRead.fld ?_|refine VRead.load1 (by assumption) ?_|refine VRead.load (by assumption) ?_|refine kRf ?_|refine kRg ?_|refine kRh ?_|refine kRi ?_|refine kBe rfl ?_|refine kBc rfl ?_|refine kWa (by omega) (by omega) ?_|refine kWb (by omega) (by omega) ?_|refine kRj (by omega) ?_|refine kRk ?_|refine VSem.convI ?_|refine VRead.convI ?_|refine VRead.rem (by omega) (by decide) ?_|refine VRead.neg ?_|refine VC.seq ?_); (conv => whnf))))
  refine VC.loop [12] [(2, 2), (4, 5), (12, 36)] (fun q vs w => ∃ (j : Nat) (U' : Foot) (S' : DS), vs = [.int .i64 (j : Int)] ∧ q = S.t.length - j ∧ j ≤ S.t.length ∧ Dsk w U' d S' ∧ Step W U w U' ∧ Blk w g 105 (wlC d wl) ∧ ¬ U' g ∧ w.ownsRow W.heap.size 9 1 (.slice Al S.t.length kl) S.t.length (keys.map encStr) ∧ Free U' (.slice Al S.t.length kl) ∧
      S'.k.calls ≤ S.k.calls + j ∧ R = S'.clear wPre (wName wl.n) (keys.drop j)) (by kernel_rfl)
    ⟨_, 0, U, S, rfl, rfl, by omega, h.below hB5, Step.new hB5, hw.later hB5, hg, hOl, hfr, by omega, by rw [List.drop_zero]; exact hR.symm⟩ ?_
  clear hR
  clear hOl hfr hB5 hg hw
  rintro q τ vs v ⟨j, U', S'', rfl, rfl, hj, hd, st, hw, hg, hO, hfr, hcl5, e1⟩
  by_cases hjn : j < S.t.length
  case neg =>
    rw [List.drop_of_length_le (by omega)] at e1
    unfold DS.clear at e1
    rw [e1]
    ((conv => whnf); (repeat ((first|refine kLa ?_|refine kLb ?_|refine kCa rfl ?_|refine kCb ?_|refine kCc ?_|refine kCd ?_|refine kCe ?_|refine kCf ?_|refine kCg ?_|refine kCh ?_|refine kCi ?_|refine kCj ?_|refine kQa ?_|refine kQb ?_|refine kGa ?_|refine kGb ?_|refine kHa ?_|refine kHb ?_); (conv => whnf))))
    ((repeat ((first|refine kLa ?_|refine kLb ?_|refine kCa rfl ?_|refine kCb ?_|refine kCc ?_|refine kCd ?_|refine kCe ?_|refine kCf ?_|refine kCg ?_|refine kCh ?_|refine kCi ?_|refine kCj ?_|refine kQa ?_|refine kQb ?_|refine kGa ?_|refine kGb ?_|refine kHa ?_|refine kHb ?_|refine kPa ?_|refine kPb ?_|refine kPc ?_|refine kEa ?_|refine kEb ?_|refine kBa ?_|refine kBb ?_|refine kBc (by omega) ?_|refine kBd (by omega) ?_|refine kBe (by omega) ?_|refine kBf (by omega) ?_|refine kRa ?_|refine kRb ?_|refine VRead.fld ?_|refine VRead.load1 (by assumption) ?_|refine VRead.load (by assumption) ?_|refine kRf ?_|refine kRg ?_|refine kRh ?_|refine kRi ?_|refine kBe rfl ?_|refine kBc rfl ?_|refine kWa (by omega) (by omega) ?_|refine kWb (by omega) (by omega) ?_|refine kRj (by omega) ?_|refine kRk ?_|refine VSem.convI ?_|refine VRead.convI ?_|refine VRead.rem (by omega) (by decide) ?_|refine VRead.neg ?_|refine VC.seq ?_); (conv => whnf))))
    exact ⟨rfl, U', hd, st⟩
  obtain ⟨x, hx⟩ : ∃ x, keys[j]? = some x := ⟨_, List.getElem?_eq_getElem (by omega)⟩
  have hxl := hnm x (List.mem_of_getElem? hx)
  obtain ⟨ad, u, rfl, _, hu, hcell⟩ := (Reads.row hO).at_ hjn
  obtain ⟨x', hx', rfl⟩ := map_at hu
  rw [hx] at hx'
  obtain rfl := Option.some.inj hx'
  have hcell' : v.cell? (ad.add j) = some (.string (txt x)) := hcell
  have hdr : keys.drop j = x :: keys.drop (j + 1) := by
    obtain ⟨hjl, hje⟩ := List.getElem?_eq_some_iff.1 hx
    rw [← hje]
    exact List.drop_eq_getElem_cons hjl
  rw [hdr] at e1
  unfold DS.clear at e1
  ((conv => whnf); (repeat ((first|refine kLa ?_|refine kLb ?_|refine kCa rfl ?_|refine kCb ?_|refine kCc ?_|refine kCd ?_|refine kCe ?_|refine kCf ?_|refine kCg ?_|refine kCh ?_|refine kCi ?_|refine kCj ?_|refine kQa ?_|refine kQb ?_|refine kGa ?_|refine kGb ?_|refine kHa ?_|refine kHb ?_); (conv => whnf))))
  (repeat (first | ((first|refine kLa ?_|refine kLb ?_|refine kCa rfl ?_|refine kCb ?_|refine kCc ?_|refine kCd ?_|refine kCe ?_|refine kCf ?_|refine kCg ?_|refine kCh ?_|refine kCi ?_|refine kCj ?_|refine kQa ?_|refine kQb ?_|refine kGa ?_|refine kGb ?_|refine kHa ?_|refine kHb ?_|refine kPa ?_|refine kPb ?_|refine kPc ?_|refine kEa ?_|refine kEb ?_|refine kBa ?_|refine kBb ?_|refine kBc (by omega) ?_|refine kBd (by omega) ?_|refine kBe (by omega) ?_|refine kBf (by omega) ?_|refine kRa ?_|refine kRb ?_|refine VRead.fld ?_|refine VRead.load1 (by assumption) ?_|refine VRead.load (by assumption) ?_|refine kRf ?_|refine kRg ?_|refine kRh ?_|refine kRi ?_|refine kBe rfl ?_|refine kBc rfl ?_|refine kWa (by omega) (by omega) ?_|refine kWb (by omega) (by omega) ?_|refine kRj (by omega) ?_|refine kRk ?_|refine VSem.convI ?_|refine VRead.convI ?_|refine VRead.rem (by omega) (by decide) ?_|refine VRead.neg ?_|refine VC.seq ?_); (conv => whnf)) | (refine kRj hjn ?_; (conv => whnf))))
  refine VCall.of (hasPrefix_any x wPre v (by omega) (by decide)) ?_
  rintro e v' ⟨rfl, eW⟩
  obtain rfl := eW.symm
  refine ⟨_, rfl, ?_⟩
  cases hp : isPre wPre x with
  | false =>
    rw [if_neg (by rw [hp]; simp)] at e1
    ((conv => whnf); (repeat ((first|refine kLa ?_|refine kLb ?_|refine kCa rfl ?_|refine kCb ?_|refine kCc ?_|refine kCd ?_|refine kCe ?_|refine kCf ?_|refine kCg ?_|refine kCh ?_|refine kCi ?_|refine kCj ?_|refine kQa ?_|refine kQb ?_|refine kGa ?_|refine kGb ?_|refine kHa ?_|refine kHb ?_); (conv => whnf))))
    ((repeat ((first|refine kLa ?_|refine kLb ?_|refine kCa rfl ?_|refine kCb ?_|refine kCc ?_|refine kCd ?_|refine kCe ?_|refine kCf ?_|refine kCg ?_|refine kCh ?_|refine kCi ?_|refine kCj ?_|refine kQa ?_|refine kQb ?_|refine kGa ?_|refine kGb ?_|refine kHa ?_|refine kHb ?_|refine kPa ?_|refine kPb ?_|refine kPc ?_|refine kEa ?_|refine kEb ?_|refine kBa ?_|refine kBb ?_|refine kBc (by omega) ?_|refine kBd (by omega) ?_|refine kBe (by omega) ?_|refine kBf (by omega) ?_|refine kRa ?_|refine kRb ?_|refine VRead.fld ?_|refine VRead.load1 (by assumption) ?_|refine VRead.load (by assumption) ?_|refine kRf ?_|refine kRg ?_|refine kRh ?_|refine kRi ?_|refine kBe rfl ?_|refine kBc rfl ?_|refine kWa (by omega) (by omega) ?_|refine kWb (by omega) (by omega) ?_|refine kRj (by omega) ?_|refine kRk ?_|refine VSem.convI ?_|refine VRead.convI ?_|refine VRead.rem (by omega) (by decide) ?_|refine VRead.neg ?_|refine VC.seq ?_); (conv => whnf))))
    exact ⟨_, by omega, j + 1, U', S'', rfl, rfl, by omega, hd, st, hw, hg, hO, hfr, by omega, e1⟩
  | true =>
    ((conv => whnf); (repeat ((first|refine kLa ?_|refine kLb ?_|refine kCa rfl ?_|refine kCb ?_|refine kCc ?_|refine kCd ?_|refine kCe ?_|refine kCf ?_|refine kCg ?_|refine kCh ?_|refine kCi ?_|refine kCj ?_|refine kQa ?_|refine kQb ?_|refine kGa ?_|refine kGb ?_|refine kHa ?_|refine kHb ?_); (conv => whnf))))
    (repeat (first | ((first|refine kLa ?_|refine kLb ?_|refine kCa rfl ?_|refine kCb ?_|refine kCc ?_|refine kCd ?_|refine kCe ?_|refine kCf ?_|refine kCg ?_|refine kCh ?_|refine kCi ?_|refine kCj ?_|refine kQa ?_|refine kQb ?_|refine kGa ?_|refine kGb ?_|refine kHa ?_|refine kHb ?_|refine kPa ?_|refine kPb ?_|refine kPc ?_|refine kEa ?_|refine kEb ?_|refine kBa ?_|refine kBb ?_|refine kBc (by omega) ?_|refine kBd (by omega) ?_|refine kBe (by omega) ?_|refine kBf (by omega) ?_|refine kRa ?_|refine kRb ?_|refine VRead.fld ?_|refine VRead.load1 (by assumption) ?_|refine VRead.load (by assumption) ?_|refine kRf ?_|refine kRg ?_|refine kRh ?_|refine kRi ?_|refine kBe rfl ?_|refine kBc rfl ?_|refine kWa (by omega) (by omega) ?_|refine kWb (by omega) (by omega) ?_|refine kRj (by omega) ?_|refine kRk ?_|refine VSem.convI ?_|refine VRead.convI ?_|refine VRead.rem (by omega) (by decide) ?_|refine VRead.neg ?_|refine VC.seq ?_); (conv => whnf)) | (refine VRead.loadB hw rfl rfl ?_; (conv => whnf))))
    refine VCall.of (walName_any wl.n v hn) ?_
    rintro e v1 ⟨rfl, hBn⟩
    refine ⟨_, rfl, ?_⟩
    have hd1 := hd.below hBn
    have hw1 := hw.later hBn
    have st1 := st.trans (Step.new hBn)
    obtain ⟨hO1, hfr1⟩ := (Step.new (U := U') hBn).rows hO hfr
    by_cases hxe : x = wName wl.n
    · rw [if_neg (by rw [hp]; simp [hxe])] at e1
      have hxe' : txt x = txt (wName wl.n) := by rw [hxe]
      ((conv => whnf); (repeat ((first|refine kLa ?_|refine kLb ?_|refine kCa rfl ?_|refine kCb ?_|refine kCc ?_|refine kCd ?_|refine kCe ?_|refine kCf ?_|refine kCg ?_|refine kCh ?_|refine kCi ?_|refine kCj ?_|refine kQa ?_|refine kQb ?_|refine kGa ?_|refine kGb ?_|refine kHa ?_|refine kHb ?_); (conv => whnf))))
      (repeat (first | ((first|refine kLa ?_|refine kLb ?_|refine kCa rfl ?_|refine kCb ?_|refine kCc ?_|refine kCd ?_|refine kCe ?_|refine kCf ?_|refine kCg ?_|refine kCh ?_|refine kCi ?_|refine kCj ?_|refine kQa ?_|refine kQb ?_|refine kGa ?_|refine kGb ?_|refine kHa ?_|refine kHb ?_|refine kPa ?_|refine kPb ?_|refine kPc ?_|refine kEa ?_|refine kEb ?_|refine kBa ?_|refine kBb ?_|refine kBc (by omega) ?_|refine kBd (by omega) ?_|refine kBe (by omega) ?_|refine kBf (by omega) ?_|refine kRa ?_|refine kRb ?_|refine VRead.fld ?_|refine VRead.load1 (by assumption) ?_|refine VRead.load (by assumption) ?_|refine kRf ?_|refine kRg ?_|refine kRh ?_|refine kRi ?_|refine kBe rfl ?_|refine kBc rfl ?_|refine kWa (by omega) (by omega) ?_|refine kWb (by omega) (by omega) ?_|refine kRj (by omega) ?_|refine kRk ?_|refine VSem.convI ?_|refine VRead.convI ?_|refine VRead.rem (by omega) (by decide) ?_|refine VRead.neg ?_|refine VC.seq ?_); (conv => whnf)) | (refine kBe hxe' ?_; (conv => whnf))))
      exact ⟨_, by omega, j + 1, U', S'', rfl, rfl, by omega, hd1, st1, hw1, hg, hO1, hfr1, by omega, e1⟩
    · rw [if_pos ⟨hp, hxe⟩] at e1
      have hxe' : ¬ txt x = txt (wName wl.n) := fun e => hxe (txt_inj.1 e)
      ((conv => whnf); (repeat ((first|refine kLa ?_|refine kLb ?_|refine kCa rfl ?_|refine kCb ?_|refine kCc ?_|refine kCd ?_|refine kCe ?_|refine kCf ?_|refine kCg ?_|refine kCh ?_|refine kCi ?_|refine kCj ?_|refine kQa ?_|refine kQb ?_|refine kGa ?_|refine kGb ?_|refine kHa ?_|refine kHb ?_); (conv => whnf))))
      (repeat (first | ((first|refine kLa ?_|refine kLb ?_|refine kCa rfl ?_|refine kCb ?_|refine kCc ?_|refine kCd ?_|refine kCe ?_|refine kCf ?_|refine kCg ?_|refine kCh ?_|refine kCi ?_|refine kCj ?_|refine kQa ?_|refine kQb ?_|refine kGa ?_|refine kGb ?_|refine kHa ?_|refine kHb ?_|refine kPa ?_|refine kPb ?_|refine kPc ?_|refine kEa ?_|refine kEb ?_|refine kBa ?_|refine kBb ?_|refine kBc (by omega) ?_|refine kBd (by omega) ?_|refine kBe (by omega) ?_|refine kBf (by omega) ?_|refine kRa ?_|refine kRb ?_|refine VRead.fld ?_|refine VRead.load1 (by assumption) ?_|refine VRead.load (by assumption) ?_|refine kRf ?_|refine kRg ?_|refine kRh ?_|refine kRi ?_|refine kBe rfl ?_|refine kBc rfl ?_|refine kWa (by omega) (by omega) ?_|refine kWb (by omega) (by omega) ?_|refine kRj (by omega) ?_|refine kRk ?_|refine VSem.convI ?_|refine VRead.convI ?_|refine VRead.rem (by omega) (by decide) ?_|refine VRead.neg ?_|refine VC.seq ?_); (conv => whnf)) | (refine kBf hxe' ?_; (conv => whnf)) | (refine VRead.loadB hw1 rfl rfl ?_; (conv => whnf))))
      refine VCall.of (oRemove v1 U' d S'' x hd1 (by omega) (by omega)) ?_
      rintro e v2 ⟨rfl, U2, hd2, st2⟩
      refine ⟨_, rfl, ?_⟩
      have st02 := st1.trans st2
      have hcl6 : (S''.remove x).2.k.calls = S''.k.calls + 1 := DS.remove_calls
      by_cases c4 : (S''.remove x).1 = 0
      case neg =>
        rw [andT_no c4] at e1
        rw [e1]
        ((conv => whnf); (repeat ((first|refine kLa ?_|refine kLb ?_|refine kCa rfl ?_|refine kCb ?_|refine kCc ?_|refine kCd ?_|refine kCe ?_|refine kCf ?_|refine kCg ?_|refine kCh ?_|refine kCi ?_|refine kCj ?_|refine kQa ?_|refine kQb ?_|refine kGa ?_|refine kGb ?_|refine kHa ?_|refine kHb ?_); (conv => whnf))))
        (repeat (first | ((first|refine kLa ?_|refine kLb ?_|refine kCa rfl ?_|refine kCb ?_|refine kCc ?_|refine kCd ?_|refine kCe ?_|refine kCf ?_|refine kCg ?_|refine kCh ?_|refine kCi ?_|refine kCj ?_|refine kQa ?_|refine kQb ?_|refine kGa ?_|refine kGb ?_|refine kHa ?_|refine kHb ?_|refine kPa ?_|refine kPb ?_|refine kPc ?_|refine kEa ?_|refine kEb ?_|refine kBa ?_|refine kBb ?_|refine kBc (by omega) ?_|refine kBd (by omega) ?_|refine kBe (by omega) ?_|refine kBf (by omega) ?_|refine kRa ?_|refine kRb ?_|refine VRead.fld ?_|refine VRead.load1 (by assumption) ?_|refine VRead.load (by assumption) ?_|refine kRf ?_|refine kRg ?_|refine kRh ?_|refine kRi ?_|refine kBe rfl ?_|refine kBc rfl ?_|refine kWa (by omega) (by omega) ?_|refine kWb (by omega) (by omega) ?_|refine kRj (by omega) ?_|refine kRk ?_|refine VSem.convI ?_|refine VRead.convI ?_|refine VRead.rem (by omega) (by decide) ?_|refine VRead.neg ?_|refine VC.seq ?_); (conv => whnf)) | (refine kBf c4 ?_; (conv => whnf))))
        exact ⟨rfl, U2, hd2, st02⟩
      rw [andT_ok c4] at e1
      obtain ⟨hO2, hfr2⟩ := st2.rows hO1 hfr1
      obtain ⟨hw2, hg2⟩ := st2.blk hw1 hg
      ((conv => whnf); (repeat ((first|refine kLa ?_|refine kLb ?_|refine kCa rfl ?_|refine kCb ?_|refine kCc ?_|refine kCd ?_|refine kCe ?_|refine kCf ?_|refine kCg ?_|refine kCh ?_|refine kCi ?_|refine kCj ?_|refine kQa ?_|refine kQb ?_|refine kGa ?_|refine kGb ?_|refine kHa ?_|refine kHb ?_); (conv => whnf))))
      (repeat (first | ((first|refine kLa ?_|refine kLb ?_|refine kCa rfl ?_|refine kCb ?_|refine kCc ?_|refine kCd ?_|refine kCe ?_|refine kCf ?_|refine kCg ?_|refine kCh ?_|refine kCi ?_|refine kCj ?_|refine kQa ?_|refine kQb ?_|refine kGa ?_|refine kGb ?_|refine kHa ?_|refine kHb ?_|refine kPa ?_|refine kPb ?_|refine kPc ?_|refine kEa ?_|refine kEb ?_|refine kBa ?_|refine kBb ?_|refine kBc (by omega) ?_|refine kBd (by omega) ?_|refine kBe (by omega) ?_|refine kBf (by omega) ?_|refine kRa ?_|refine kRb ?_|refine VRead.fld ?_|refine VRead.load1 (by assumption) ?_|refine VRead.load (by assumption) ?_|refine kRf ?_|refine kRg ?_|refine kRh ?_|refine kRi ?_|refine kBe rfl ?_|refine kBc rfl ?_|refine kWa (by omega) (by omega) ?_|refine kWb (by omega) (by omega) ?_|refine kRj (by omega) ?_|refine kRk ?_|refine VSem.convI ?_|refine VRead.convI ?_|refine VRead.rem (by omega) (by decide) ?_|refine VRead.neg ?_|refine VC.seq ?_); (conv => whnf)) | (refine kBe c4 ?_; (conv => whnf))))
      exact ⟨_, by omega, j + 1, U2, _, rfl, rfl, by omega, hd2, st02, hw2, hg2, hO2, hfr2, by omega, e1⟩
/-! ### Save -/
def wsBad (w : WlS) (set : Bool) (term vote fr : Int) : Prop := (set = true ∧ ¬ (inR term 1099511627776 ∧ inR vote 7)) ∨ (0 < fr ∧ (fr ≤ w.base ∨ w.last + 1 < fr))
instance (w : WlS) (set : Bool) (term vote fr : Int) : Decidable (wsBad w set term vote fr) := by unfold wsBad; infer_instance
def wsSet (set : Bool) (term vote : Int) : List UInt8 := if set = true then Frame.put (recB 1 [term, vote]) else []
def wsB (set : Bool) (term vote fr : Int) (es : List En) : List UInt8 := wsSet set term vote ++ (if 0 < fr then written fr es else [])
def wlast (w : WlS) (fr : Int) (es : List En) : WlS := if 0 < fr ∧ 0 < es.length then { w with last := fr + es.length - 1 } else w
def DS.wapp (S : DS) (nm b : List UInt8) : Int × DS := andT (S.append nm b) fun S1 => S1.sync nm
def DS.wsave (S : DS) (w : WlS) (set : Bool) (term vote fr : Int) (es : List En) : (Int × DS) × WlS :=
  if wsBad w set term vote fr ∨ (0 < fr ∧ ¬ ∀ e ∈ es, mayE e) then ((1, S), w) else
  if wsB set term vote fr es = [] then ((0, S), w) else
    (S.wapp (wName w.n) (wsB set term vote fr es), if (S.wapp (wName w.n) (wsB set term vote fr es)).1 = 0 then wlast w fr es else w)
end Go.Proofs.Ytebeidnmplnlpaa
end

section
set_option maxRecDepth 10000
namespace Go.Proofs.Ytebeidnmplnlpaa
set_option linter.unusedVariables false
open Go.RowKit

structure WlOk (w : WlS) : Prop where
  n1 : 0 ≤ w.n
  n2 : w.n ≤ 99999999
  b1 : 0 ≤ w.base
  b2 : w.base ≤ 1099511627776
  l1 : w.base ≤ w.last
  l2 : w.last ≤ 1100000000000000
set_option maxHeartbeats 2000000 in
theorem walSave_any (W : World) (U : Foot) (g d : Nat) (S : DS) (wl : WlS) (set : Bool) (term vote fr : Int) (A : Option Addr) (n c : Nat) (es : List En) (h : Dsk W U d S) (hw : Blk W g 105 (wlC d wl)) (hg : ¬ U g) (hok : WlOk wl)
    (hE : EnAt W (fun j => j < W.heap.size) A n es) (hn : n ≤ 1000000) (ht : -9223372036854775808 ≤ term ∧ term ≤ 9223372036854775807) (hv : -9223372036854775808 ≤ vote ∧ vote ≤ 9223372036854775807) (hc : S.k.calls + 10 < 1000000) :
    Calls Try.prog 41 #[.pointer (some ⟨g, 0, none⟩), .bool set, .int .i64 term, .int .i64 vote, .int .i64 fr, .slice A n c] W fun e W' => e = .returned (.int .i64 (S.wsave wl set term vote fr es).1.1) ∧
      ∃ U', Dsk W' U' d (S.wsave wl set term vote fr es).1.2 ∧ Blk W' g 105 (wlC d (S.wsave wl set term vote fr es).2) ∧ ¬ U' g ∧ Step W (addF U g) W' (addF U' g) := by
  obtain ⟨n1, n2, b1, b2, l1, l2⟩ := hok
  have hel := hE.1
  have hwn := wName_le wl.n
  refine calls_vc Try.func41 rfl (by kernel_rfl) ?_
  (conv => whnf)
  (iterate 4 ((first|refine kLa ?_|refine kLb ?_|refine kCa rfl ?_|refine kCb ?_|refine kCc ?_|refine kCd ?_|refine kCe ?_|refine kCf ?_|refine kCg ?_|refine kCh ?_|refine kCi ?_|refine kCj ?_|refine kQa ?_|refine kQb ?_|refine kGa ?_|refine kGb ?_|refine kHa ?_|refine kHb ?_|refine kPa ?_|refine kPb ?_|refine kPc ?_|refine kEa ?_|refine kEb ?_|refine kBa ?_|refine kBb ?_|refine kBc (by omega) ?_|refine kBd (by omega) ?_|refine kBe (by omega) ?_|refine kBf (by omega) ?_|refine kRa ?_|refine kRb ?_|refine VRead.fld ?_|refine VRead.load1 (by assumption) ?_|refine VRead.load (by assumption) ?_|refine kRf ?_|refine kRg ?_|refine kRh ?_|refine kRi ?_|refine kBe rfl ?_|refine kBc rfl ?_|refine kWa (by omega) (by omega) ?_|refine kWb (by omega) (by omega) ?_|refine kRj (by omega) ?_|refine kRk ?_|refine VSem.convI ?_|refine VRead.convI ?_|refine VRead.rem (by omega) (by decide) ?_|refine VRead.neg ?_|refine VC.seq ?_); (conv => whnf)))
  have hbad : wsBad wl set term vote fr → S.wsave wl set term vote fr es = ((1, S), wl) := fun hb => by unfold DS.wsave; rw [if_pos (.inl hb)]
  refine VC.cut [12] [(12, 12), (18, 49)] (fun vs X => vs = [.int .i64 0] ∧ X = W ∧ ¬ wsBad wl set term vote fr) (by kernel_rfl) ?_ ?_
  · by_cases hb : wsBad wl set term vote fr
    · rw [hbad hb]
      by_cases hset : set = true ∧ ¬ (inR term 1099511627776 ∧ inR vote 7)
      · obtain ⟨rfl, hr⟩ := hset
        ((conv => whnf); (repeat ((first|refine kLa ?_|refine kLb ?_|refine kCa rfl ?_|refine kCb ?_|refine kCc ?_|refine kCd ?_|refine kCe ?_|refine kCf ?_|refine kCg ?_|refine kCh ?_|refine kCi ?_|refine kCj ?_|refine kQa ?_|refine kQb ?_|refine kGa ?_|refine kGb ?_|refine kHa ?_|refine kHb ?_); (conv => whnf))))
        ((repeat ((first|refine kLa ?_|refine kLb ?_|refine kCa rfl ?_|refine kCb ?_|refine kCc ?_|refine kCd ?_|refine kCe ?_|refine kCf ?_|refine kCg ?_|refine kCh ?_|refine kCi ?_|refine kCj ?_|refine kQa ?_|refine kQb ?_|refine kGa ?_|refine kGb ?_|refine kHa ?_|refine kHb ?_|refine kPa ?_|refine kPb ?_|refine kPc ?_|refine kEa ?_|refine kEb ?_|refine kBa ?_|refine kBb ?_|refine kBc (by omega) ?_|refine kBd (by omega) ?_|refine kBe (by omega) ?_|refine kBf (by omega) ?_|refine kRa ?_|refine kRb ?_|refine VRead.fld ?_|refine VRead.load1 (by assumption) ?_|refine VRead.load (by assumption) ?_|refine kRf ?_|refine kRg ?_|refine kRh ?_|refine kRi ?_|refine kBe rfl ?_|refine kBc rfl ?_|refine kWa (by omega) (by omega) ?_|refine kWb (by omega) (by omega) ?_|refine kRj (by omega) ?_|refine kRk ?_|refine VSem.convI ?_|refine VRead.convI ?_|refine VRead.rem (by omega) (by decide) ?_|refine VRead.neg ?_|refine VC.seq ?_); (conv => whnf))))
        refine VCall.of (walIn_any term 1099511627776 W) ?_
        rintro e _ ⟨rfl, rfl⟩
        refine ⟨_, rfl, ?_⟩
        by_cases h1 : inR term 1099511627776
        · have h2 : ¬ inR vote 7 := fun h2 => hr ⟨h1, h2⟩
          rw [decide_eq_true h1]
          ((conv => whnf); (repeat ((first|refine kLa ?_|refine kLb ?_|refine kCa rfl ?_|refine kCb ?_|refine kCc ?_|refine kCd ?_|refine kCe ?_|refine kCf ?_|refine kCg ?_|refine kCh ?_|refine kCi ?_|refine kCj ?_|refine kQa ?_|refine kQb ?_|refine kGa ?_|refine kGb ?_|refine kHa ?_|refine kHb ?_); (conv => whnf))))
          ((repeat ((first|refine kLa ?_|refine kLb ?_|refine kCa rfl ?_|refine kCb ?_|refine kCc ?_|refine kCd ?_|refine kCe ?_|refine kCf ?_|refine kCg ?_|refine kCh ?_|refine kCi ?_|refine kCj ?_|refine kQa ?_|refine kQb ?_|refine kGa ?_|refine kGb ?_|refine kHa ?_|refine kHb ?_|refine kPa ?_|refine kPb ?_|refine kPc ?_|refine kEa ?_|refine kEb ?_|refine kBa ?_|refine kBb ?_|refine kBc (by omega) ?_|refine kBd (by omega) ?_|refine kBe (by omega) ?_|refine kBf (by omega) ?_|refine kRa ?_|refine kRb ?_|refine VRead.fld ?_|refine VRead.load1 (by assumption) ?_|refine VRead.load (by assumption) ?_|refine kRf ?_|refine kRg ?_|refine kRh ?_|refine kRi ?_|refine kBe rfl ?_|refine kBc rfl ?_|refine kWa (by omega) (by omega) ?_|refine kWb (by omega) (by omega) ?_|refine kRj (by omega) ?_|refine kRk ?_|refine VSem.convI ?_|refine VRead.convI ?_|refine VRead.rem (by omega) (by decide) ?_|refine VRead.neg ?_|refine VC.seq ?_); (conv => whnf))))
          refine VCall.of (walIn_any vote 7 _) ?_
          rintro e _ ⟨rfl, rfl⟩
          refine ⟨_, rfl, ?_⟩
          rw [decide_eq_false h2]
          ((conv => whnf); (repeat ((first|refine kLa ?_|refine kLb ?_|refine kCa rfl ?_|refine kCb ?_|refine kCc ?_|refine kCd ?_|refine kCe ?_|refine kCf ?_|refine kCg ?_|refine kCh ?_|refine kCi ?_|refine kCj ?_|refine kQa ?_|refine kQb ?_|refine kGa ?_|refine kGb ?_|refine kHa ?_|refine kHb ?_); (conv => whnf))))
          ((repeat ((first|refine kLa ?_|refine kLb ?_|refine kCa rfl ?_|refine kCb ?_|refine kCc ?_|refine kCd ?_|refine kCe ?_|refine kCf ?_|refine kCg ?_|refine kCh ?_|refine kCi ?_|refine kCj ?_|refine kQa ?_|refine kQb ?_|refine kGa ?_|refine kGb ?_|refine kHa ?_|refine kHb ?_|refine kPa ?_|refine kPb ?_|refine kPc ?_|refine kEa ?_|refine kEb ?_|refine kBa ?_|refine kBb ?_|refine kBc (by omega) ?_|refine kBd (by omega) ?_|refine kBe (by omega) ?_|refine kBf (by omega) ?_|refine kRa ?_|refine kRb ?_|refine VRead.fld ?_|refine VRead.load1 (by assumption) ?_|refine VRead.load (by assumption) ?_|refine kRf ?_|refine kRg ?_|refine kRh ?_|refine kRi ?_|refine kBe rfl ?_|refine kBc rfl ?_|refine kWa (by omega) (by omega) ?_|refine kWb (by omega) (by omega) ?_|refine kRj (by omega) ?_|refine kRk ?_|refine VSem.convI ?_|refine VRead.convI ?_|refine VRead.rem (by omega) (by decide) ?_|refine VRead.neg ?_|refine VC.seq ?_); (conv => whnf))))
          exact ⟨rfl, U, h, hw, hg, Step.refl _ _⟩
        · rw [decide_eq_false h1]
          ((conv => whnf); (repeat ((first|refine kLa ?_|refine kLb ?_|refine kCa rfl ?_|refine kCb ?_|refine kCc ?_|refine kCd ?_|refine kCe ?_|refine kCf ?_|refine kCg ?_|refine kCh ?_|refine kCi ?_|refine kCj ?_|refine kQa ?_|refine kQb ?_|refine kGa ?_|refine kGb ?_|refine kHa ?_|refine kHb ?_); (conv => whnf))))
          ((repeat ((first|refine kLa ?_|refine kLb ?_|refine kCa rfl ?_|refine kCb ?_|refine kCc ?_|refine kCd ?_|refine kCe ?_|refine kCf ?_|refine kCg ?_|refine kCh ?_|refine kCi ?_|refine kCj ?_|refine kQa ?_|refine kQb ?_|refine kGa ?_|refine kGb ?_|refine kHa ?_|refine kHb ?_|refine kPa ?_|refine kPb ?_|refine kPc ?_|refine kEa ?_|refine kEb ?_|refine kBa ?_|refine kBb ?_|refine kBc (by omega) ?_|refine kBd (by omega) ?_|refine kBe (by omega) ?_|refine kBf (by omega) ?_|refine kRa ?_|refine kRb ?_|refine VRead.fld ?_|refine VRead.load1 (by assumption) ?_|refine VRead.load (by assumption) ?_|refine kRf ?_|refine kRg ?_|refine kRh ?_|refine kRi ?_|refine kBe rfl ?_|refine kBc rfl ?_|refine kWa (by omega) (by omega) ?_|refine kWb (by omega) (by omega) ?_|refine kRj (by omega) ?_|refine kRk ?_|refine VSem.convI ?_|refine VRead.convI ?_|refine VRead.rem (by omega) (by decide) ?_|refine VRead.neg ?_|refine VC.seq ?_); (conv => whnf))))
          exact ⟨rfl, U, h, hw, hg, Step.refl _ _⟩
      have hb2 : 0 < fr ∧ (fr ≤ wl.base ∨ wl.last + 1 < fr) := by
        rcases hb with hb | hb
        · exact absurd hb hset
        · exact hb
      obtain ⟨hf0, hf1⟩ := hb2
      cases set with
      | false =>
        by_cases hf2 : fr ≤ wl.base
        · ((conv => whnf); (repeat ((first|refine kLa ?_|refine kLb ?_|refine kCa rfl ?_|refine kCb ?_|refine kCc ?_|refine kCd ?_|refine kCe ?_|refine kCf ?_|refine kCg ?_|refine kCh ?_|refine kCi ?_|refine kCj ?_|refine kQa ?_|refine kQb ?_|refine kGa ?_|refine kGb ?_|refine kHa ?_|refine kHb ?_); (conv => whnf))))
          (repeat (first | ((first|refine kLa ?_|refine kLb ?_|refine kCa rfl ?_|refine kCb ?_|refine kCc ?_|refine kCd ?_|refine kCe ?_|refine kCf ?_|refine kCg ?_|refine kCh ?_|refine kCi ?_|refine kCj ?_|refine kQa ?_|refine kQb ?_|refine kGa ?_|refine kGb ?_|refine kHa ?_|refine kHb ?_|refine kPa ?_|refine kPb ?_|refine kPc ?_|refine kEa ?_|refine kEb ?_|refine kBa ?_|refine kBb ?_|refine kBc (by omega) ?_|refine kBd (by omega) ?_|refine kBe (by omega) ?_|refine kBf (by omega) ?_|refine kRa ?_|refine kRb ?_|refine VRead.fld ?_|refine VRead.load1 (by assumption) ?_|refine VRead.load (by assumption) ?_|refine kRf ?_|refine kRg ?_|refine kRh ?_|refine kRi ?_|refine kBe rfl ?_|refine kBc rfl ?_|refine kWa (by omega) (by omega) ?_|refine kWb (by omega) (by omega) ?_|refine kRj (by omega) ?_|refine kRk ?_|refine VSem.convI ?_|refine VRead.convI ?_|refine VRead.rem (by omega) (by decide) ?_|refine VRead.neg ?_|refine VC.seq ?_); (conv => whnf)) | (refine VRead.loadB hw rfl rfl ?_; (conv => whnf))))
          exact ⟨rfl, U, h, hw, hg, Step.refl _ _⟩
        · have hf3 : wl.last + 1 < fr := by omega
          ((conv => whnf); (repeat ((first|refine kLa ?_|refine kLb ?_|refine kCa rfl ?_|refine kCb ?_|refine kCc ?_|refine kCd ?_|refine kCe ?_|refine kCf ?_|refine kCg ?_|refine kCh ?_|refine kCi ?_|refine kCj ?_|refine kQa ?_|refine kQb ?_|refine kGa ?_|refine kGb ?_|refine kHa ?_|refine kHb ?_); (conv => whnf))))
          (repeat (first | ((first|refine kLa ?_|refine kLb ?_|refine kCa rfl ?_|refine kCb ?_|refine kCc ?_|refine kCd ?_|refine kCe ?_|refine kCf ?_|refine kCg ?_|refine kCh ?_|refine kCi ?_|refine kCj ?_|refine kQa ?_|refine kQb ?_|refine kGa ?_|refine kGb ?_|refine kHa ?_|refine kHb ?_|refine kPa ?_|refine kPb ?_|refine kPc ?_|refine kEa ?_|refine kEb ?_|refine kBa ?_|refine kBb ?_|refine kBc (by omega) ?_|refine kBd (by omega) ?_|refine kBe (by omega) ?_|refine kBf (by omega) ?_|refine kRa ?_|refine kRb ?_|refine VRead.fld ?_|refine VRead.load1 (by assumption) ?_|refine VRead.load (by assumption) ?_|refine kRf ?_|refine kRg ?_|refine kRh ?_|refine kRi ?_|refine kBe rfl ?_|refine kBc rfl ?_|refine kWa (by omega) (by omega) ?_|refine kWb (by omega) (by omega) ?_|refine kRj (by omega) ?_|refine kRk ?_|refine VSem.convI ?_|refine VRead.convI ?_|refine VRead.rem (by omega) (by decide) ?_|refine VRead.neg ?_|refine VC.seq ?_); (conv => whnf)) | (refine VRead.loadB hw rfl rfl ?_; (conv => whnf))))
          exact ⟨rfl, U, h, hw, hg, Step.refl _ _⟩
      | true =>
        have h12 : inR term 1099511627776 ∧ inR vote 7 := by
          by_cases h : inR term 1099511627776 ∧ inR vote 7
          · exact h
          · exact absurd ⟨rfl, h⟩ hset
        ((conv => whnf); (repeat ((first|refine kLa ?_|refine kLb ?_|refine kCa rfl ?_|refine kCb ?_|refine kCc ?_|refine kCd ?_|refine kCe ?_|refine kCf ?_|refine kCg ?_|refine kCh ?_|refine kCi ?_|refine kCj ?_|refine kQa ?_|refine kQb ?_|refine kGa ?_|refine kGb ?_|refine kHa ?_|refine kHb ?_); (conv => whnf))))
        ((repeat ((first|refine kLa ?_|refine kLb ?_|refine kCa rfl ?_|refine kCb ?_|refine kCc ?_|refine kCd ?_|refine kCe ?_|refine kCf ?_|refine kCg ?_|refine kCh ?_|refine kCi ?_|refine kCj ?_|refine kQa ?_|refine kQb ?_|refine kGa ?_|refine kGb ?_|refine kHa ?_|refine kHb ?_|refine kPa ?_|refine kPb ?_|refine kPc ?_|refine kEa ?_|refine kEb ?_|refine kBa ?_|refine kBb ?_|refine kBc (by omega) ?_|refine kBd (by omega) ?_|refine kBe (by omega) ?_|refine kBf (by omega) ?_|refine kRa ?_|refine kRb ?_|refine VRead.fld ?_|refine VRead.load1 (by assumption) ?_|refine VRead.load (by assumption) ?_|refine kRf ?_|refine kRg ?_|refine kRh ?_|refine kRi ?_|refine kBe rfl ?_|refine kBc rfl ?_|refine kWa (by omega) (by omega) ?_|refine kWb (by omega) (by omega) ?_|refine kRj (by omega) ?_|refine kRk ?_|refine VSem.convI ?_|refine VRead.convI ?_|refine VRead.rem (by omega) (by decide) ?_|refine VRead.neg ?_|refine VC.seq ?_); (conv => whnf))))
        refine VCall.of (walIn_any term 1099511627776 W) ?_
        rintro e _ ⟨rfl, rfl⟩
        refine ⟨_, rfl, ?_⟩
        rw [decide_eq_true h12.1]
        ((conv => whnf); (repeat ((first|refine kLa ?_|refine kLb ?_|refine kCa rfl ?_|refine kCb ?_|refine kCc ?_|refine kCd ?_|refine kCe ?_|refine kCf ?_|refine kCg ?_|refine kCh ?_|refine kCi ?_|refine kCj ?_|refine kQa ?_|refine kQb ?_|refine kGa ?_|refine kGb ?_|refine kHa ?_|refine kHb ?_); (conv => whnf))))
        ((repeat ((first|refine kLa ?_|refine kLb ?_|refine kCa rfl ?_|refine kCb ?_|refine kCc ?_|refine kCd ?_|refine kCe ?_|refine kCf ?_|refine kCg ?_|refine kCh ?_|refine kCi ?_|refine kCj ?_|refine kQa ?_|refine kQb ?_|refine kGa ?_|refine kGb ?_|refine kHa ?_|refine kHb ?_|refine kPa ?_|refine kPb ?_|refine kPc ?_|refine kEa ?_|refine kEb ?_|refine kBa ?_|refine kBb ?_|refine kBc (by omega) ?_|refine kBd (by omega) ?_|refine kBe (by omega) ?_|refine kBf (by omega) ?_|refine kRa ?_|refine kRb ?_|refine VRead.fld ?_|refine VRead.load1 (by assumption) ?_|refine VRead.load (by assumption) ?_|refine kRf ?_|refine kRg ?_|refine kRh ?_|refine kRi ?_|refine kBe rfl ?_|refine kBc rfl ?_|refine kWa (by omega) (by omega) ?_|refine kWb (by omega) (by omega) ?_|refine kRj (by omega) ?_|refine kRk ?_|refine VSem.convI ?_|refine VRead.convI ?_|refine VRead.rem (by omega) (by decide) ?_|refine VRead.neg ?_|refine VC.seq ?_); (conv => whnf))))
        refine VCall.of (walIn_any vote 7 _) ?_
        rintro e _ ⟨rfl, rfl⟩
        refine ⟨_, rfl, ?_⟩
        rw [decide_eq_true h12.2]
        by_cases hf2 : fr ≤ wl.base
        · ((conv => whnf); (repeat ((first|refine kLa ?_|refine kLb ?_|refine kCa rfl ?_|refine kCb ?_|refine kCc ?_|refine kCd ?_|refine kCe ?_|refine kCf ?_|refine kCg ?_|refine kCh ?_|refine kCi ?_|refine kCj ?_|refine kQa ?_|refine kQb ?_|refine kGa ?_|refine kGb ?_|refine kHa ?_|refine kHb ?_); (conv => whnf))))
          (repeat (first | ((first|refine kLa ?_|refine kLb ?_|refine kCa rfl ?_|refine kCb ?_|refine kCc ?_|refine kCd ?_|refine kCe ?_|refine kCf ?_|refine kCg ?_|refine kCh ?_|refine kCi ?_|refine kCj ?_|refine kQa ?_|refine kQb ?_|refine kGa ?_|refine kGb ?_|refine kHa ?_|refine kHb ?_|refine kPa ?_|refine kPb ?_|refine kPc ?_|refine kEa ?_|refine kEb ?_|refine kBa ?_|refine kBb ?_|refine kBc (by omega) ?_|refine kBd (by omega) ?_|refine kBe (by omega) ?_|refine kBf (by omega) ?_|refine kRa ?_|refine kRb ?_|refine VRead.fld ?_|refine VRead.load1 (by assumption) ?_|refine VRead.load (by assumption) ?_|refine kRf ?_|refine kRg ?_|refine kRh ?_|refine kRi ?_|refine kBe rfl ?_|refine kBc rfl ?_|refine kWa (by omega) (by omega) ?_|refine kWb (by omega) (by omega) ?_|refine kRj (by omega) ?_|refine kRk ?_|refine VSem.convI ?_|refine VRead.convI ?_|refine VRead.rem (by omega) (by decide) ?_|refine VRead.neg ?_|refine VC.seq ?_); (conv => whnf)) | (refine VRead.loadB hw rfl rfl ?_; (conv => whnf))))
          exact ⟨rfl, U, h, hw, hg, Step.refl _ _⟩
        · have hf3 : wl.last + 1 < fr := by omega
          ((conv => whnf); (repeat ((first|refine kLa ?_|refine kLb ?_|refine kCa rfl ?_|refine kCb ?_|refine kCc ?_|refine kCd ?_|refine kCe ?_|refine kCf ?_|refine kCg ?_|refine kCh ?_|refine kCi ?_|refine kCj ?_|refine kQa ?_|refine kQb ?_|refine kGa ?_|refine kGb ?_|refine kHa ?_|refine kHb ?_); (conv => whnf))))
          (repeat (first | ((first|refine kLa ?_|refine kLb ?_|refine kCa rfl ?_|refine kCb ?_|refine kCc ?_|refine kCd ?_|refine kCe ?_|refine kCf ?_|refine kCg ?_|refine kCh ?_|refine kCi ?_|refine kCj ?_|refine kQa ?_|refine kQb ?_|refine kGa ?_|refine kGb ?_|refine kHa ?_|refine kHb ?_|refine kPa ?_|refine kPb ?_|refine kPc ?_|refine kEa ?_|refine kEb ?_|refine kBa ?_|refine kBb ?_|refine kBc (by omega) ?_|refine kBd (by omega) ?_|refine kBe (by omega) ?_|refine kBf (by omega) ?_|refine kRa ?_|refine kRb ?_|refine VRead.fld ?_|refine VRead.load1 (by assumption) ?_|refine VRead.load (by assumption) ?_|refine kRf ?_|refine kRg ?_|refine kRh ?_|refine kRi ?_|refine kBe rfl ?_|refine kBc rfl ?_|refine kWa (by omega) (by omega) ?_|refine kWb (by omega) (by omega) ?_|refine kRj (by omega) ?_|refine kRk ?_|refine VSem.convI ?_|refine VRead.convI ?_|refine VRead.rem (by omega) (by decide) ?_|refine VRead.neg ?_|refine VC.seq ?_); (conv => whnf)) | (refine VRead.loadB hw rfl rfl ?_; (conv => whnf))))
          exact ⟨rfl, U, h, hw, hg, Step.refl _ _⟩
    · by_cases hf0 : 0 < fr
      · have hf2 : ¬ fr ≤ wl.base := fun h => hb (.inr ⟨hf0, .inl h⟩)
        have hf3 : ¬ wl.last + 1 < fr := fun h => hb (.inr ⟨hf0, .inr h⟩)
        cases set with
        | false =>
          ((conv => whnf); (repeat ((first|refine kLa ?_|refine kLb ?_|refine kCa rfl ?_|refine kCb ?_|refine kCc ?_|refine kCd ?_|refine kCe ?_|refine kCf ?_|refine kCg ?_|refine kCh ?_|refine kCi ?_|refine kCj ?_|refine kQa ?_|refine kQb ?_|refine kGa ?_|refine kGb ?_|refine kHa ?_|refine kHb ?_); (conv => whnf))))
          (repeat (first | ((first|refine kLa ?_|refine kLb ?_|refine kCa rfl ?_|refine kCb ?_|refine kCc ?_|refine kCd ?_|refine kCe ?_|refine kCf ?_|refine kCg ?_|refine kCh ?_|refine kCi ?_|refine kCj ?_|refine kQa ?_|refine kQb ?_|refine kGa ?_|refine kGb ?_|refine kHa ?_|refine kHb ?_|refine kPa ?_|refine kPb ?_|refine kPc ?_|refine kEa ?_|refine kEb ?_|refine kBa ?_|refine kBb ?_|refine kBc (by omega) ?_|refine kBd (by omega) ?_|refine kBe (by omega) ?_|refine kBf (by omega) ?_|refine kRa ?_|refine kRb ?_|refine VRead.fld ?_|refine VRead.load1 (by assumption) ?_|refine VRead.load (by assumption) ?_|refine kRf ?_|refine kRg ?_|refine kRh ?_|refine kRi ?_|refine kBe rfl ?_|refine kBc rfl ?_|refine kWa (by omega) (by omega) ?_|refine kWb (by omega) (by omega) ?_|refine kRj (by omega) ?_|refine kRk ?_|refine VSem.convI ?_|refine VRead.convI ?_|refine VRead.rem (by omega) (by decide) ?_|refine VRead.neg ?_|refine VC.seq ?_); (conv => whnf)) | (refine VRead.loadB hw rfl rfl ?_; (conv => whnf))))
          exact ⟨rfl, rfl, hb⟩
        | true =>
          have h12 : inR term 1099511627776 ∧ inR vote 7 := by
            by_cases h : inR term 1099511627776 ∧ inR vote 7
            · exact h
            · exact absurd (.inl ⟨rfl, h⟩) hb
          ((conv => whnf); (repeat ((first|refine kLa ?_|refine kLb ?_|refine kCa rfl ?_|refine kCb ?_|refine kCc ?_|refine kCd ?_|refine kCe ?_|refine kCf ?_|refine kCg ?_|refine kCh ?_|refine kCi ?_|refine kCj ?_|refine kQa ?_|refine kQb ?_|refine kGa ?_|refine kGb ?_|refine kHa ?_|refine kHb ?_); (conv => whnf))))
          ((repeat ((first|refine kLa ?_|refine kLb ?_|refine kCa rfl ?_|refine kCb ?_|refine kCc ?_|refine kCd ?_|refine kCe ?_|refine kCf ?_|refine kCg ?_|refine kCh ?_|refine kCi ?_|refine kCj ?_|refine kQa ?_|refine kQb ?_|refine kGa ?_|refine kGb ?_|refine kHa ?_|refine kHb ?_|refine kPa ?_|refine kPb ?_|refine kPc ?_|refine kEa ?_|refine kEb ?_|refine kBa ?_|refine kBb ?_|refine kBc (by omega) ?_|refine kBd (by omega) ?_|refine kBe (by omega) ?_|refine kBf (by omega) ?_|refine kRa ?_|refine kRb ?_|refine VRead.fld ?_|refine VRead.load1 (by assumption) ?_|refine VRead.load (by assumption) ?_|refine kRf ?_|refine kRg ?_|refine kRh ?_|refine kRi ?_|refine kBe rfl ?_|refine kBc rfl ?_|refine kWa (by omega) (by omega) ?_|refine kWb (by omega) (by omega) ?_|refine kRj (by omega) ?_|refine kRk ?_|refine VSem.convI ?_|refine VRead.convI ?_|refine VRead.rem (by omega) (by decide) ?_|refine VRead.neg ?_|refine VC.seq ?_); (conv => whnf))))
          refine VCall.of (walIn_any term 1099511627776 W) ?_
          rintro e _ ⟨rfl, rfl⟩
          refine ⟨_, rfl, ?_⟩
          rw [decide_eq_true h12.1]
          ((conv => whnf); (repeat ((first|refine kLa ?_|refine kLb ?_|refine kCa rfl ?_|refine kCb ?_|refine kCc ?_|refine kCd ?_|refine kCe ?_|refine kCf ?_|refine kCg ?_|refine kCh ?_|refine kCi ?_|refine kCj ?_|refine kQa ?_|refine kQb ?_|refine kGa ?_|refine kGb ?_|refine kHa ?_|refine kHb ?_); (conv => whnf))))
          ((repeat ((first|refine kLa ?_|refine kLb ?_|refine kCa rfl ?_|refine kCb ?_|refine kCc ?_|refine kCd ?_|refine kCe ?_|refine kCf ?_|refine kCg ?_|refine kCh ?_|refine kCi ?_|refine kCj ?_|refine kQa ?_|refine kQb ?_|refine kGa ?_|refine kGb ?_|refine kHa ?_|refine kHb ?_|refine kPa ?_|refine kPb ?_|refine kPc ?_|refine kEa ?_|refine kEb ?_|refine kBa ?_|refine kBb ?_|refine kBc (by omega) ?_|refine kBd (by omega) ?_|refine kBe (by omega) ?_|refine kBf (by omega) ?_|refine kRa ?_|refine kRb ?_|refine VRead.fld ?_|refine VRead.load1 (by assumption) ?_|refine VRead.load (by assumption) ?_|refine kRf ?_|refine kRg ?_|refine kRh ?_|refine kRi ?_|refine kBe rfl ?_|refine kBc rfl ?_|refine kWa (by omega) (by omega) ?_|refine kWb (by omega) (by omega) ?_|refine kRj (by omega) ?_|refine kRk ?_|refine VSem.convI ?_|refine VRead.convI ?_|refine VRead.rem (by omega) (by decide) ?_|refine VRead.neg ?_|refine VC.seq ?_); (conv => whnf))))
          refine VCall.of (walIn_any vote 7 _) ?_
          rintro e _ ⟨rfl, rfl⟩
          refine ⟨_, rfl, ?_⟩
          rw [decide_eq_true h12.2]
          ((conv => whnf); (repeat ((first|refine kLa ?_|refine kLb ?_|refine kCa rfl ?_|refine kCb ?_|refine kCc ?_|refine kCd ?_|refine kCe ?_|refine kCf ?_|refine kCg ?_|refine kCh ?_|refine kCi ?_|refine kCj ?_|refine kQa ?_|refine kQb ?_|refine kGa ?_|refine kGb ?_|refine kHa ?_|refine kHb ?_); (conv => whnf))))
          (repeat (first | ((first|refine kLa ?_|refine kLb ?_|refine kCa rfl ?_|refine kCb ?_|refine kCc ?_|refine kCd ?_|refine kCe ?_|refine kCf ?_|refine kCg ?_|refine kCh ?_|refine kCi ?_|refine kCj ?_|refine kQa ?_|refine kQb ?_|refine kGa ?_|refine kGb ?_|refine kHa ?_|refine kHb ?_|refine kPa ?_|refine kPb ?_|refine kPc ?_|refine kEa ?_|refine kEb ?_|refine kBa ?_|refine kBb ?_|refine kBc (by omega) ?_|refine kBd (by omega) ?_|refine kBe (by omega) ?_|refine kBf (by omega) ?_|refine kRa ?_|refine kRb ?_|refine VRead.fld ?_|refine VRead.load1 (by assumption) ?_|refine VRead.load (by assumption) ?_|refine kRf ?_|refine kRg ?_|refine kRh ?_|refine kRi ?_|refine kBe rfl ?_|refine kBc rfl ?_|refine kWa (by omega) (by omega) ?_|refine kWb (by omega) (by omega) ?_|refine kRj (by omega) ?_|refine kRk ?_|refine VSem.convI ?_|refine VRead.convI ?_|refine VRead.rem (by omega) (by decide) ?_|refine VRead.neg ?_|refine VC.seq ?_); (conv => whnf)) | (refine VRead.loadB hw rfl rfl ?_; (conv => whnf))))
          exact ⟨rfl, rfl, hb⟩
      · cases set with
        | false =>
          ((conv => whnf); (repeat ((first|refine kLa ?_|refine kLb ?_|refine kCa rfl ?_|refine kCb ?_|refine kCc ?_|refine kCd ?_|refine kCe ?_|refine kCf ?_|refine kCg ?_|refine kCh ?_|refine kCi ?_|refine kCj ?_|refine kQa ?_|refine kQb ?_|refine kGa ?_|refine kGb ?_|refine kHa ?_|refine kHb ?_); (conv => whnf))))
          (repeat (first | ((first|refine kLa ?_|refine kLb ?_|refine kCa rfl ?_|refine kCb ?_|refine kCc ?_|refine kCd ?_|refine kCe ?_|refine kCf ?_|refine kCg ?_|refine kCh ?_|refine kCi ?_|refine kCj ?_|refine kQa ?_|refine kQb ?_|refine kGa ?_|refine kGb ?_|refine kHa ?_|refine kHb ?_|refine kPa ?_|refine kPb ?_|refine kPc ?_|refine kEa ?_|refine kEb ?_|refine kBa ?_|refine kBb ?_|refine kBc (by omega) ?_|refine kBd (by omega) ?_|refine kBe (by omega) ?_|refine kBf (by omega) ?_|refine kRa ?_|refine kRb ?_|refine VRead.fld ?_|refine VRead.load1 (by assumption) ?_|refine VRead.load (by assumption) ?_|refine kRf ?_|refine kRg ?_|refine kRh ?_|refine kRi ?_|refine kBe rfl ?_|refine kBc rfl ?_|refine kWa (by omega) (by omega) ?_|refine kWb (by omega) (by omega) ?_|refine kRj (by omega) ?_|refine kRk ?_|refine VSem.convI ?_|refine VRead.convI ?_|refine VRead.rem (by omega) (by decide) ?_|refine VRead.neg ?_|refine VC.seq ?_); (conv => whnf)) | (refine VRead.loadB hw rfl rfl ?_; (conv => whnf))))
          exact ⟨rfl, rfl, hb⟩
        | true =>
          have h12 : inR term 1099511627776 ∧ inR vote 7 := by
            by_cases h : inR term 1099511627776 ∧ inR vote 7
            · exact h
            · exact absurd (.inl ⟨rfl, h⟩) hb
          ((conv => whnf); (repeat ((first|refine kLa ?_|refine kLb ?_|refine kCa rfl ?_|refine kCb ?_|refine kCc ?_|refine kCd ?_|refine kCe ?_|refine kCf ?_|refine kCg ?_|refine kCh ?_|refine kCi ?_|refine kCj ?_|refine kQa ?_|refine kQb ?_|refine kGa ?_|refine kGb ?_|refine kHa ?_|refine kHb ?_); (conv => whnf))))
          ((repeat ((first|refine kLa ?_|refine kLb ?_|refine kCa rfl ?_|refine kCb ?_|refine kCc ?_|refine kCd ?_|refine kCe ?_|refine kCf ?_|refine kCg ?_|refine kCh ?_|refine kCi ?_|refine kCj ?_|refine kQa ?_|refine kQb ?_|refine kGa ?_|refine kGb ?_|refine kHa ?_|refine kHb ?_|refine kPa ?_|refine kPb ?_|refine kPc ?_|refine kEa ?_|refine kEb ?_|refine kBa ?_|refine kBb ?_|refine kBc (by omega) ?_|refine kBd (by omega) ?_|refine kBe (by omega) ?_|refine kBf (by omega) ?_|refine kRa ?_|refine kRb ?_|refine VRead.fld ?_|refine VRead.load1 (by assumption) ?_|refine VRead.load (by assumption) ?_|refine kRf ?_|refine kRg ?_|refine kRh ?_|refine kRi ?_|refine kBe rfl ?_|refine kBc rfl ?_|refine kWa (by omega) (by omega) ?_|refine kWb (by omega) (by omega) ?_|refine kRj (by omega) ?_|refine kRk ?_|refine VSem.convI ?_|refine VRead.convI ?_|refine VRead.rem (by omega) (by decide) ?_|refine VRead.neg ?_|refine VC.seq ?_); (conv => whnf))))
          refine VCall.of (walIn_any term 1099511627776 W) ?_
          rintro e _ ⟨rfl, rfl⟩
          refine ⟨_, rfl, ?_⟩
          rw [decide_eq_true h12.1]
          ((conv => whnf); (repeat ((first|refine kLa ?_|refine kLb ?_|refine kCa rfl ?_|refine kCb ?_|refine kCc ?_|refine kCd ?_|refine kCe ?_|refine kCf ?_|refine kCg ?_|refine kCh ?_|refine kCi ?_|refine kCj ?_|refine kQa ?_|refine kQb ?_|refine kGa ?_|refine kGb ?_|refine kHa ?_|refine kHb ?_); (conv => whnf))))
          ((repeat ((first|refine kLa ?_|refine kLb ?_|refine kCa rfl ?_|refine kCb ?_|refine kCc ?_|refine kCd ?_|refine kCe ?_|refine kCf ?_|refine kCg ?_|refine kCh ?_|refine kCi ?_|refine kCj ?_|refine kQa ?_|refine kQb ?_|refine kGa ?_|refine kGb ?_|refine kHa ?_|refine kHb ?_|refine kPa ?_|refine kPb ?_|refine kPc ?_|refine kEa ?_|refine kEb ?_|refine kBa ?_|refine kBb ?_|refine kBc (by omega) ?_|refine kBd (by omega) ?_|refine kBe (by omega) ?_|refine kBf (by omega) ?_|refine kRa ?_|refine kRb ?_|refine VRead.fld ?_|refine VRead.load1 (by assumption) ?_|refine VRead.load (by assumption) ?_|refine kRf ?_|refine kRg ?_|refine kRh ?_|refine kRi ?_|refine kBe rfl ?_|refine kBc rfl ?_|refine kWa (by omega) (by omega) ?_|refine kWb (by omega) (by omega) ?_|refine kRj (by omega) ?_|refine kRk ?_|refine VSem.convI ?_|refine VRead.convI ?_|refine VRead.rem (by omega) (by decide) ?_|refine VRead.neg ?_|refine VC.seq ?_); (conv => whnf))))
          refine VCall.of (walIn_any vote 7 _) ?_
          rintro e _ ⟨rfl, rfl⟩
          refine ⟨_, rfl, ?_⟩
          rw [decide_eq_true h12.2]
          ((conv => whnf); (repeat ((first|refine kLa ?_|refine kLb ?_|refine kCa rfl ?_|refine kCb ?_|refine kCc ?_|refine kCd ?_|refine kCe ?_|refine kCf ?_|refine kCg ?_|refine kCh ?_|refine kCi ?_|refine kCj ?_|refine kQa ?_|refine kQb ?_|refine kGa ?_|refine kGb ?_|refine kHa ?_|refine kHb ?_); (conv => whnf))))
          (repeat (first | ((first|refine kLa ?_|refine kLb ?_|refine kCa rfl ?_|refine kCb ?_|refine kCc ?_|refine kCd ?_|refine kCe ?_|refine kCf ?_|refine kCg ?_|refine kCh ?_|refine kCi ?_|refine kCj ?_|refine kQa ?_|refine kQb ?_|refine kGa ?_|refine kGb ?_|refine kHa ?_|refine kHb ?_|refine kPa ?_|refine kPb ?_|refine kPc ?_|refine kEa ?_|refine kEb ?_|refine kBa ?_|refine kBb ?_|refine kBc (by omega) ?_|refine kBd (by omega) ?_|refine kBe (by omega) ?_|refine kBf (by omega) ?_|refine kRa ?_|refine kRb ?_|refine VRead.fld ?_|refine VRead.load1 (by assumption) ?_|refine VRead.load (by assumption) ?_|refine kRf ?_|refine kRg ?_|refine kRh ?_|refine kRi ?_|refine kBe rfl ?_|refine kBc rfl ?_|refine kWa (by omega) (by omega) ?_|refine kWb (by omega) (by omega) ?_|refine kRj (by omega) ?_|refine kRk ?_|refine VSem.convI ?_|refine VRead.convI ?_|refine VRead.rem (by omega) (by decide) ?_|refine VRead.neg ?_|refine VC.seq ?_); (conv => whnf)) | (refine VRead.loadB hw rfl rfl ?_; (conv => whnf))))
          exact ⟨rfl, rfl, hb⟩
  rintro τ vs w0 ⟨rfl, rfl, hb⟩
  clear hbad
  have hin : set = true → inR term 1099511627776 ∧ inR vote 7 := fun hs => by
    by_cases h : inR term 1099511627776 ∧ inR vote 7
    · exact h
    · exact absurd (.inl ⟨hs, h⟩) hb
  have hfr : 0 < fr → wl.base < fr ∧ fr ≤ wl.last + 1 := fun hf => by
    refine ⟨?_, ?_⟩
    · by_cases h : fr ≤ wl.base
      · exact absurd (.inr ⟨hf, .inl h⟩) hb
      · omega
    · by_cases h : wl.last + 1 < fr
      · exact absurd (.inr ⟨hf, .inr h⟩) hb
      · omega
  (conv => whnf)
  (iterate 4 ((first|refine kLa ?_|refine kLb ?_|refine kCa rfl ?_|refine kCb ?_|refine kCc ?_|refine kCd ?_|refine kCe ?_|refine kCf ?_|refine kCg ?_|refine kCh ?_|refine kCi ?_|refine kCj ?_|refine kQa ?_|refine kQb ?_|refine kGa ?_|refine kGb ?_|refine kHa ?_|refine kHb ?_|refine kPa ?_|refine kPb ?_|refine kPc ?_|refine kEa ?_|refine kEb ?_|refine kBa ?_|refine kBb ?_|refine kBc (by omega) ?_|refine kBd (by omega) ?_|refine kBe (by omega) ?_|refine kBf (by omega) ?_|refine kRa ?_|refine kRb ?_|refine VRead.fld ?_|refine VRead.load1 (by assumption) ?_|refine VRead.load (by assumption) ?_|refine kRf ?_|refine kRg ?_|refine kRh ?_|refine kRi ?_|refine kBe rfl ?_|refine kBc rfl ?_|refine kWa (by omega) (by omega) ?_|refine kWb (by omega) (by omega) ?_|refine kRj (by omega) ?_|refine kRk ?_|refine VSem.convI ?_|refine VRead.convI ?_|refine VRead.rem (by omega) (by decide) ?_|refine VRead.neg ?_|refine VC.seq ?_); (conv => whnf)))
  refine VC.cut [13] [(13, 13), (50, 58)] (fun vs X => ∃ A1 n1 c1, vs = [.slice A1 n1 c1] ∧ Own X w0.heap.size (.slice A1 n1 c1) n1 (wsSet set term vote) ∧ n1 ≤ 100 ∧ Below w0.heap.size w0 X) (by kernel_rfl) ?_ ?_
  · cases set with
    | false =>
      ((conv => whnf); (repeat ((first|refine kLa ?_|refine kLb ?_|refine kCa rfl ?_|refine kCb ?_|refine kCc ?_|refine kCd ?_|refine kCe ?_|refine kCf ?_|refine kCg ?_|refine kCh ?_|refine kCi ?_|refine kCj ?_|refine kQa ?_|refine kQb ?_|refine kGa ?_|refine kGb ?_|refine kHa ?_|refine kHb ?_); (conv => whnf))))
      ((repeat ((first|refine kLa ?_|refine kLb ?_|refine kCa rfl ?_|refine kCb ?_|refine kCc ?_|refine kCd ?_|refine kCe ?_|refine kCf ?_|refine kCg ?_|refine kCh ?_|refine kCi ?_|refine kCj ?_|refine kQa ?_|refine kQb ?_|refine kGa ?_|refine kGb ?_|refine kHa ?_|refine kHb ?_|refine kPa ?_|refine kPb ?_|refine kPc ?_|refine kEa ?_|refine kEb ?_|refine kBa ?_|refine kBb ?_|refine kBc (by omega) ?_|refine kBd (by omega) ?_|refine kBe (by omega) ?_|refine kBf (by omega) ?_|refine kRa ?_|refine kRb ?_|refine VRead.fld ?_|refine VRead.load1 (by assumption) ?_|refine VRead.load (by assumption) ?_|refine kRf ?_|refine kRg ?_|refine kRh ?_|refine kRi ?_|refine kBe rfl ?_|refine kBc rfl ?_|refine kWa (by omega) (by omega) ?_|refine kWb (by omega) (by omega) ?_|refine kRj (by omega) ?_|refine kRk ?_|refine VSem.convI ?_|refine VRead.convI ?_|refine VRead.rem (by omega) (by decide) ?_|refine VRead.neg ?_|refine VC.seq ?_); (conv => whnf))))
      exact ⟨none, 0, 0, rfl, Own.nil _ _, by omega, Below.refl _ _⟩
    | true =>
      obtain ⟨h1, h2⟩ := hin rfl
      ((conv => whnf); (repeat ((first|refine kLa ?_|refine kLb ?_|refine kCa rfl ?_|refine kCb ?_|refine kCc ?_|refine kCd ?_|refine kCe ?_|refine kCf ?_|refine kCg ?_|refine kCh ?_|refine kCi ?_|refine kCj ?_|refine kQa ?_|refine kQb ?_|refine kGa ?_|refine kGb ?_|refine kHa ?_|refine kHb ?_); (conv => whnf))))
      ((repeat ((first|refine kLa ?_|refine kLb ?_|refine kCa rfl ?_|refine kCb ?_|refine kCc ?_|refine kCd ?_|refine kCe ?_|refine kCf ?_|refine kCg ?_|refine kCh ?_|refine kCi ?_|refine kCj ?_|refine kQa ?_|refine kQb ?_|refine kGa ?_|refine kGb ?_|refine kHa ?_|refine kHb ?_|refine kPa ?_|refine kPb ?_|refine kPc ?_|refine kEa ?_|refine kEb ?_|refine kBa ?_|refine kBb ?_|refine kBc (by omega) ?_|refine kBd (by omega) ?_|refine kBe (by omega) ?_|refine kBf (by omega) ?_|refine kRa ?_|refine kRb ?_|refine VRead.fld ?_|refine VRead.load1 (by assumption) ?_|refine VRead.load (by assumption) ?_|refine kRf ?_|refine kRg ?_|refine kRh ?_|refine kRi ?_|refine kBe rfl ?_|refine kBc rfl ?_|refine kWa (by omega) (by omega) ?_|refine kWb (by omega) (by omega) ?_|refine kRj (by omega) ?_|refine kRk ?_|refine VSem.convI ?_|refine VRead.convI ?_|refine VRead.rem (by omega) (by decide) ?_|refine VRead.neg ?_|refine VC.seq ?_); (conv => whnf))))
      refine VSem.buildR (ps := [(0, .int .i64 term), (1, .int .i64 vote)]) rfl rfl (by simp [Value.oneCell']) (by omega) ?_
      intro X1 hO1 hB1 hz1
      have hr1 : Reads X1 X1.heap.size 1 (some ⟨w0.heap.size, 0, none⟩) 2 (iv .i64 [term, vote]) := Reads.row hO1
      ((conv => whnf); (repeat ((first|refine kLa ?_|refine kLb ?_|refine kCa rfl ?_|refine kCb ?_|refine kCc ?_|refine kCd ?_|refine kCe ?_|refine kCf ?_|refine kCg ?_|refine kCh ?_|refine kCi ?_|refine kCj ?_|refine kQa ?_|refine kQb ?_|refine kGa ?_|refine kGb ?_|refine kHa ?_|refine kHb ?_); (conv => whnf))))
      ((repeat ((first|refine kLa ?_|refine kLb ?_|refine kCa rfl ?_|refine kCb ?_|refine kCc ?_|refine kCd ?_|refine kCe ?_|refine kCf ?_|refine kCg ?_|refine kCh ?_|refine kCi ?_|refine kCj ?_|refine kQa ?_|refine kQb ?_|refine kGa ?_|refine kGb ?_|refine kHa ?_|refine kHb ?_|refine kPa ?_|refine kPb ?_|refine kPc ?_|refine kEa ?_|refine kEb ?_|refine kBa ?_|refine kBb ?_|refine kBc (by omega) ?_|refine kBd (by omega) ?_|refine kBe (by omega) ?_|refine kBf (by omega) ?_|refine kRa ?_|refine kRb ?_|refine VRead.fld ?_|refine VRead.load1 (by assumption) ?_|refine VRead.load (by assumption) ?_|refine kRf ?_|refine kRg ?_|refine kRh ?_|refine kRi ?_|refine kBe rfl ?_|refine kBc rfl ?_|refine kWa (by omega) (by omega) ?_|refine kWb (by omega) (by omega) ?_|refine kRj (by omega) ?_|refine kRk ?_|refine VSem.convI ?_|refine VRead.convI ?_|refine VRead.rem (by omega) (by decide) ?_|refine VRead.neg ?_|refine VC.seq ?_); (conv => whnf))))
      refine VCall.of (record_any 1 [term, vote] _ 2 2 X1 (by omega) (fun v hv => ?_) hr1) ?_
      · simp only [List.mem_cons, List.not_mem_nil, or_false] at hv
        rcases hv with rfl | rfl <;> omega
      rintro e X2 ⟨A2, m2, c2, rfl, hO2, hc2, hB2⟩
      refine ⟨_, rfl, ?_⟩
      have hl2 := hO2.len
      have hrl := recB_len 1 [term, vote]
      simp only [List.length_cons, List.length_nil] at hrl
      ((conv => whnf); (repeat ((first|refine kLa ?_|refine kLb ?_|refine kCa rfl ?_|refine kCb ?_|refine kCc ?_|refine kCd ?_|refine kCe ?_|refine kCf ?_|refine kCg ?_|refine kCh ?_|refine kCi ?_|refine kCj ?_|refine kQa ?_|refine kQb ?_|refine kGa ?_|refine kGb ?_|refine kHa ?_|refine kHb ?_); (conv => whnf))))
      ((repeat ((first|refine kLa ?_|refine kLb ?_|refine kCa rfl ?_|refine kCb ?_|refine kCc ?_|refine kCd ?_|refine kCe ?_|refine kCf ?_|refine kCg ?_|refine kCh ?_|refine kCi ?_|refine kCj ?_|refine kQa ?_|refine kQb ?_|refine kGa ?_|refine kGb ?_|refine kHa ?_|refine kHb ?_|refine kPa ?_|refine kPb ?_|refine kPc ?_|refine kEa ?_|refine kEb ?_|refine kBa ?_|refine kBb ?_|refine kBc (by omega) ?_|refine kBd (by omega) ?_|refine kBe (by omega) ?_|refine kBf (by omega) ?_|refine kRa ?_|refine kRb ?_|refine VRead.fld ?_|refine VRead.load1 (by assumption) ?_|refine VRead.load (by assumption) ?_|refine kRf ?_|refine kRg ?_|refine kRh ?_|refine kRi ?_|refine kBe rfl ?_|refine kBc rfl ?_|refine kWa (by omega) (by omega) ?_|refine kWb (by omega) (by omega) ?_|refine kRj (by omega) ?_|refine kRk ?_|refine VSem.convI ?_|refine VRead.convI ?_|refine VRead.rem (by omega) (by decide) ?_|refine VRead.neg ?_|refine VC.seq ?_); (conv => whnf))))
      refine VCall.of (frPut_yes none 0 0 [] A2 m2 c2 (recB 1 [term, vote]) X2 (by omega) (by omega) (by omega) (Nat.le_refl _) (Own.nil _ 0).reads hO2.reads) ?_
      rintro e X3 ⟨A3, m3, c3, rfl, hO3, hB3⟩
      refine ⟨_, rfl, ?_⟩
      rw [List.nil_append] at hO3
      have hl3 := hO3.len
      have hpl := put_le (recB 1 [term, vote])
      have hB02 := hB1.trans (hB2.mono hB1.size)
      ((conv => whnf); (repeat ((first|refine kLa ?_|refine kLb ?_|refine kCa rfl ?_|refine kCb ?_|refine kCc ?_|refine kCd ?_|refine kCe ?_|refine kCf ?_|refine kCg ?_|refine kCh ?_|refine kCi ?_|refine kCj ?_|refine kQa ?_|refine kQb ?_|refine kGa ?_|refine kGb ?_|refine kHa ?_|refine kHb ?_); (conv => whnf))))
      ((repeat ((first|refine kLa ?_|refine kLb ?_|refine kCa rfl ?_|refine kCb ?_|refine kCc ?_|refine kCd ?_|refine kCe ?_|refine kCf ?_|refine kCg ?_|refine kCh ?_|refine kCi ?_|refine kCj ?_|refine kQa ?_|refine kQb ?_|refine kGa ?_|refine kGb ?_|refine kHa ?_|refine kHb ?_|refine kPa ?_|refine kPb ?_|refine kPc ?_|refine kEa ?_|refine kEb ?_|refine kBa ?_|refine kBb ?_|refine kBc (by omega) ?_|refine kBd (by omega) ?_|refine kBe (by omega) ?_|refine kBf (by omega) ?_|refine kRa ?_|refine kRb ?_|refine VRead.fld ?_|refine VRead.load1 (by assumption) ?_|refine VRead.load (by assumption) ?_|refine kRf ?_|refine kRg ?_|refine kRh ?_|refine kRi ?_|refine kBe rfl ?_|refine kBc rfl ?_|refine kWa (by omega) (by omega) ?_|refine kWb (by omega) (by omega) ?_|refine kRj (by omega) ?_|refine kRk ?_|refine VSem.convI ?_|refine VRead.convI ?_|refine VRead.rem (by omega) (by decide) ?_|refine VRead.neg ?_|refine VC.seq ?_); (conv => whnf))))
      exact ⟨A3, m3, c3, rfl, rows_more hO3 hB02.size, by omega, hB02.trans (hB3.mono hB02.size)⟩
  rintro τ2 vs X ⟨A1, m1, c1, rfl, hO, hm1, hB⟩
  have hE1 : EnAt X (fun j => j < w0.heap.size) A n es := hE.belowB hB
  have hd1 := h.below hB
  have hw1 := hw.later hB
  have st1 : Step w0 (addF U g) X (addF U g) := Step.new hB
  have hzX := hB.size
  (conv => whnf)
  refine VC.cut [12, 13] [(12, 13), (15, 15), (59, 74)] (fun vs X' => ∃ A2 n2 c2, vs = [.int .i64 0, .slice A2 n2 c2] ∧ Own X' w0.heap.size (.slice A2 n2 c2) n2 (wsB set term vote fr es) ∧ n2 ≤ 2000000000000 ∧ (0 < fr → ∀ e ∈ es, mayE e) ∧ Below w0.heap.size w0 X') (by kernel_rfl) ?_ ?_
  · by_cases hf0 : 0 < fr
    case neg =>
      have e1 : wsB set term vote fr es = wsSet set term vote := by unfold wsB; rw [if_neg hf0, List.append_nil]
      rw [e1]
      ((conv => whnf); (repeat ((first|refine kLa ?_|refine kLb ?_|refine kCa rfl ?_|refine kCb ?_|refine kCc ?_|refine kCd ?_|refine kCe ?_|refine kCf ?_|refine kCg ?_|refine kCh ?_|refine kCi ?_|refine kCj ?_|refine kQa ?_|refine kQb ?_|refine kGa ?_|refine kGb ?_|refine kHa ?_|refine kHb ?_); (conv => whnf))))
      ((repeat ((first|refine kLa ?_|refine kLb ?_|refine kCa rfl ?_|refine kCb ?_|refine kCc ?_|refine kCd ?_|refine kCe ?_|refine kCf ?_|refine kCg ?_|refine kCh ?_|refine kCi ?_|refine kCj ?_|refine kQa ?_|refine kQb ?_|refine kGa ?_|refine kGb ?_|refine kHa ?_|refine kHb ?_|refine kPa ?_|refine kPb ?_|refine kPc ?_|refine kEa ?_|refine kEb ?_|refine kBa ?_|refine kBb ?_|refine kBc (by omega) ?_|refine kBd (by omega) ?_|refine kBe (by omega) ?_|refine kBf (by omega) ?_|refine kRa ?_|refine kRb ?_|refine VRead.fld ?_|refine VRead.load1 (by assumption) ?_|refine VRead.load (by assumption) ?_|refine kRf ?_|refine kRg ?_|refine kRh ?_|refine kRi ?_|refine kBe rfl ?_|refine kBc rfl ?_|refine kWa (by omega) (by omega) ?_|refine kWb (by omega) (by omega) ?_|refine kRj (by omega) ?_|refine kRk ?_|refine VSem.convI ?_|refine VRead.convI ?_|refine VRead.rem (by omega) (by decide) ?_|refine VRead.neg ?_|refine VC.seq ?_); (conv => whnf))))
      exact ⟨A1, m1, c1, rfl, hO, by omega, fun h => absurd h hf0, hB⟩
    ((conv => whnf); (repeat ((first|refine kLa ?_|refine kLb ?_|refine kCa rfl ?_|refine kCb ?_|refine kCc ?_|refine kCd ?_|refine kCe ?_|refine kCf ?_|refine kCg ?_|refine kCh ?_|refine kCi ?_|refine kCj ?_|refine kQa ?_|refine kQb ?_|refine kGa ?_|refine kGb ?_|refine kHa ?_|refine kHb ?_); (conv => whnf))))
    ((repeat ((first|refine kLa ?_|refine kLb ?_|refine kCa rfl ?_|refine kCb ?_|refine kCc ?_|refine kCd ?_|refine kCe ?_|refine kCf ?_|refine kCg ?_|refine kCh ?_|refine kCi ?_|refine kCj ?_|refine kQa ?_|refine kQb ?_|refine kGa ?_|refine kGb ?_|refine kHa ?_|refine kHb ?_|refine kPa ?_|refine kPb ?_|refine kPc ?_|refine kEa ?_|refine kEb ?_|refine kBa ?_|refine kBb ?_|refine kBc (by omega) ?_|refine kBd (by omega) ?_|refine kBe (by omega) ?_|refine kBf (by omega) ?_|refine kRa ?_|refine kRb ?_|refine VRead.fld ?_|refine VRead.load1 (by assumption) ?_|refine VRead.load (by assumption) ?_|refine kRf ?_|refine kRg ?_|refine kRh ?_|refine kRi ?_|refine kBe rfl ?_|refine kBc rfl ?_|refine kWa (by omega) (by omega) ?_|refine kWb (by omega) (by omega) ?_|refine kRj (by omega) ?_|refine kRk ?_|refine VSem.convI ?_|refine VRead.convI ?_|refine VRead.rem (by omega) (by decide) ?_|refine VRead.neg ?_|refine VC.seq ?_); (conv => whnf))))
    refine VC.loop [12, 63] [(12, 12), (15, 15), (63, 70)] (fun q vs Y => ∃ j : Nat, vs = [.int .i64 0, .int .i64 (j : Int)] ∧ q = n - j ∧ j ≤ n ∧ (∀ e ∈ es.take j, mayE e) ∧ Below X.heap.size X Y) (by kernel_rfl)
      ⟨_, 0, rfl, rfl, by omega, by simp, Below.refl _ _⟩ ?_
    rintro q τ3 vs Y ⟨j, rfl, rfl, hj, hall, hY⟩
    have h0Y := hB.trans (hY.mono hzX)
    by_cases hlt : j < n
    case neg =>
      obtain rfl : j = n := by omega
      rw [List.take_of_length_le (by omega)] at hall
      have hwl := written_len (i := fr) hall
      obtain ⟨f1, f2⟩ := hfr hf0
      have e1 : wsB set term vote fr es = wsSet set term vote ++ written fr es := by unfold wsB; rw [if_pos hf0]
      ((conv => whnf); (repeat ((first|refine kLa ?_|refine kLb ?_|refine kCa rfl ?_|refine kCb ?_|refine kCc ?_|refine kCd ?_|refine kCe ?_|refine kCf ?_|refine kCg ?_|refine kCh ?_|refine kCi ?_|refine kCj ?_|refine kQa ?_|refine kQb ?_|refine kGa ?_|refine kGb ?_|refine kHa ?_|refine kHb ?_); (conv => whnf))))
      ((repeat ((first|refine kLa ?_|refine kLb ?_|refine kCa rfl ?_|refine kCb ?_|refine kCc ?_|refine kCd ?_|refine kCe ?_|refine kCf ?_|refine kCg ?_|refine kCh ?_|refine kCi ?_|refine kCj ?_|refine kQa ?_|refine kQb ?_|refine kGa ?_|refine kGb ?_|refine kHa ?_|refine kHb ?_|refine kPa ?_|refine kPb ?_|refine kPc ?_|refine kEa ?_|refine kEb ?_|refine kBa ?_|refine kBb ?_|refine kBc (by omega) ?_|refine kBd (by omega) ?_|refine kBe (by omega) ?_|refine kBf (by omega) ?_|refine kRa ?_|refine kRb ?_|refine VRead.fld ?_|refine VRead.load1 (by assumption) ?_|refine VRead.load (by assumption) ?_|refine kRf ?_|refine kRg ?_|refine kRh ?_|refine kRi ?_|refine kBe rfl ?_|refine kBc rfl ?_|refine kWa (by omega) (by omega) ?_|refine kWb (by omega) (by omega) ?_|refine kRj (by omega) ?_|refine kRk ?_|refine VSem.convI ?_|refine VRead.convI ?_|refine VRead.rem (by omega) (by decide) ?_|refine VRead.neg ?_|refine VC.seq ?_); (conv => whnf))))
      refine VCall.of (written_any A1 A m1 c1 j c w0.heap.size fr _ es Y (hO.below hY (Nat.le_refl _)) (hE1.belowB (hY.mono hzX)) (by have := hY.size; omega) (by omega) (by omega) (by omega) hall) ?_
      rintro e Y2 ⟨A2, n2, c2, rfl, hO2, hB2, _⟩
      refine ⟨_, rfl, ?_⟩
      have hl2 := hO2.len
      have hl1 := hO.len
      rw [List.length_append] at hl2
      ((conv => whnf); (repeat ((first|refine kLa ?_|refine kLb ?_|refine kCa rfl ?_|refine kCb ?_|refine kCc ?_|refine kCd ?_|refine kCe ?_|refine kCf ?_|refine kCg ?_|refine kCh ?_|refine kCi ?_|refine kCj ?_|refine kQa ?_|refine kQb ?_|refine kGa ?_|refine kGb ?_|refine kHa ?_|refine kHb ?_); (conv => whnf))))
      ((repeat ((first|refine kLa ?_|refine kLb ?_|refine kCa rfl ?_|refine kCb ?_|refine kCc ?_|refine kCd ?_|refine kCe ?_|refine kCf ?_|refine kCg ?_|refine kCh ?_|refine kCi ?_|refine kCj ?_|refine kQa ?_|refine kQb ?_|refine kGa ?_|refine kGb ?_|refine kHa ?_|refine kHb ?_|refine kPa ?_|refine kPb ?_|refine kPc ?_|refine kEa ?_|refine kEb ?_|refine kBa ?_|refine kBb ?_|refine kBc (by omega) ?_|refine kBd (by omega) ?_|refine kBe (by omega) ?_|refine kBf (by omega) ?_|refine kRa ?_|refine kRb ?_|refine VRead.fld ?_|refine VRead.load1 (by assumption) ?_|refine VRead.load (by assumption) ?_|refine kRf ?_|refine kRg ?_|refine kRh ?_|refine kRi ?_|refine kBe rfl ?_|refine kBc rfl ?_|refine kWa (by omega) (by omega) ?_|refine kWb (by omega) (by omega) ?_|refine kRj (by omega) ?_|refine kRk ?_|refine VSem.convI ?_|refine VRead.convI ?_|refine VRead.rem (by omega) (by decide) ?_|refine VRead.neg ?_|refine VC.seq ?_); (conv => whnf))))
      exact ⟨A2, n2, c2, rfl, by rw [e1]; exact hO2, by omega, fun _ => hall, h0Y.trans hB2⟩
    obtain ⟨e, he⟩ : ∃ e, es[j]? = some e := ⟨_, List.getElem?_eq_getElem (by omega)⟩
    obtain ⟨x, D, dn, dc, rfl, f0, f1, f2, hdc, hdl, hdr⟩ := (hE1.belowB (hY.mono hzX)).at_ he
    ((conv => whnf); (repeat ((first|refine kLa ?_|refine kLb ?_|refine kCa rfl ?_|refine kCb ?_|refine kCc ?_|refine kCd ?_|refine kCe ?_|refine kCf ?_|refine kCg ?_|refine kCh ?_|refine kCi ?_|refine kCj ?_|refine kQa ?_|refine kQb ?_|refine kGa ?_|refine kGb ?_|refine kHa ?_|refine kHb ?_); (conv => whnf))))
    (repeat ((first|refine VRead.atK hlt ?_|refine VRead.load3W f0 f1 f2 ?_|refine kLa ?_|refine kLb ?_|refine kCa rfl ?_|refine kCb ?_|refine kCc ?_|refine kCd ?_|refine kCe ?_|refine kCf ?_|refine kCg ?_|refine kCh ?_|refine kCi ?_|refine kCj ?_|refine kQa ?_|refine kQb ?_|refine kGa ?_|refine kGb ?_|refine kHa ?_|refine kHb ?_|refine kPa ?_|refine kPb ?_|refine kPc ?_|refine kEa ?_|refine kEb ?_|refine kBa ?_|refine kBb ?_|refine kBc (by omega) ?_|refine kBd (by omega) ?_|refine kBe (by omega) ?_|refine kBf (by omega) ?_|refine kRa ?_|refine kRb ?_|refine VRead.fld ?_|refine VRead.load1 (by assumption) ?_|refine VRead.load (by assumption) ?_|refine kRf ?_|refine kRg ?_|refine kRh ?_|refine kRi ?_|refine kBe rfl ?_|refine kBc rfl ?_|refine kWa (by omega) (by omega) ?_|refine kWb (by omega) (by omega) ?_|refine kRj (by omega) ?_|refine kRk ?_|refine VSem.convI ?_|refine VRead.convI ?_|refine VRead.rem (by omega) (by decide) ?_|refine VRead.neg ?_|refine VC.seq ?_); (conv => whnf)))
    refine VSem.allocZ (z := .agg #[.int .i64 0, .bool false, .slice none 0 0]) (by kernel_rfl) ?_
    intro X2 b hbb hgb hlb hB5
    ((conv => whnf); (repeat ((first|refine kLa ?_|refine kLb ?_|refine kCa rfl ?_|refine kCb ?_|refine kCc ?_|refine kCd ?_|refine kCe ?_|refine kCf ?_|refine kCg ?_|refine kCh ?_|refine kCi ?_|refine kCj ?_|refine kQa ?_|refine kQb ?_|refine kGa ?_|refine kGb ?_|refine kHa ?_|refine kHb ?_); (conv => whnf))))
    ((repeat ((first|refine kLa ?_|refine kLb ?_|refine kCa rfl ?_|refine kCb ?_|refine kCc ?_|refine kCd ?_|refine kCe ?_|refine kCf ?_|refine kCg ?_|refine kCh ?_|refine kCi ?_|refine kCj ?_|refine kQa ?_|refine kQb ?_|refine kGa ?_|refine kGb ?_|refine kHa ?_|refine kHb ?_|refine kPa ?_|refine kPb ?_|refine kPc ?_|refine kEa ?_|refine kEb ?_|refine kBa ?_|refine kBb ?_|refine kBc (by omega) ?_|refine kBd (by omega) ?_|refine kBe (by omega) ?_|refine kBf (by omega) ?_|refine kRa ?_|refine kRb ?_|refine VRead.fld ?_|refine VRead.load1 (by assumption) ?_|refine VRead.load (by assumption) ?_|refine kRf ?_|refine kRg ?_|refine kRh ?_|refine kRi ?_|refine kBe rfl ?_|refine kBc rfl ?_|refine kWa (by omega) (by omega) ?_|refine kWb (by omega) (by omega) ?_|refine kRj (by omega) ?_|refine kRk ?_|refine VSem.convI ?_|refine VRead.convI ?_|refine VRead.rem (by omega) (by decide) ?_|refine VRead.neg ?_|refine VC.seq ?_); (conv => whnf))))
    refine VUnit.storeAB hbb rfl rfl rfl (by simp [Value.oneCell']) ?_
    intro X3 hb6 hg6
    replace hb6 : Blk X3 b 67 #[.int .i64 e.term, .bool e.cmd, .slice D dn dc] := hb6
    have hB13 : Below Y.heap.size Y X3 := only_new hB5 hg6 (by omega) (by omega)
    have h13 := hY.trans (hB13.mono hY.size)
    ((conv => whnf); (repeat ((first|refine kLa ?_|refine kLb ?_|refine kCa rfl ?_|refine kCb ?_|refine kCc ?_|refine kCd ?_|refine kCe ?_|refine kCf ?_|refine kCg ?_|refine kCh ?_|refine kCi ?_|refine kCj ?_|refine kQa ?_|refine kQb ?_|refine kGa ?_|refine kGb ?_|refine kHa ?_|refine kHb ?_); (conv => whnf))))
    ((repeat ((first|refine kLa ?_|refine kLb ?_|refine kCa rfl ?_|refine kCb ?_|refine kCc ?_|refine kCd ?_|refine kCe ?_|refine kCf ?_|refine kCg ?_|refine kCh ?_|refine kCi ?_|refine kCj ?_|refine kQa ?_|refine kQb ?_|refine kGa ?_|refine kGb ?_|refine kHa ?_|refine kHb ?_|refine kPa ?_|refine kPb ?_|refine kPc ?_|refine kEa ?_|refine kEb ?_|refine kBa ?_|refine kBb ?_|refine kBc (by omega) ?_|refine kBd (by omega) ?_|refine kBe (by omega) ?_|refine kBf (by omega) ?_|refine kRa ?_|refine kRb ?_|refine VRead.fld ?_|refine VRead.load1 (by assumption) ?_|refine VRead.load (by assumption) ?_|refine kRf ?_|refine kRg ?_|refine kRh ?_|refine kRi ?_|refine kBe rfl ?_|refine kBc rfl ?_|refine kWa (by omega) (by omega) ?_|refine kWb (by omega) (by omega) ?_|refine kRj (by omega) ?_|refine kRk ?_|refine VSem.convI ?_|refine VRead.convI ?_|refine VRead.rem (by omega) (by decide) ?_|refine VRead.neg ?_|refine VC.seq ?_); (conv => whnf))))
    refine VRead.loadAB1 hb6 rfl rfl ?_
    ((conv => whnf); (repeat ((first|refine kLa ?_|refine kLb ?_|refine kCa rfl ?_|refine kCb ?_|refine kCc ?_|refine kCd ?_|refine kCe ?_|refine kCf ?_|refine kCg ?_|refine kCh ?_|refine kCi ?_|refine kCj ?_|refine kQa ?_|refine kQb ?_|refine kGa ?_|refine kGb ?_|refine kHa ?_|refine kHb ?_); (conv => whnf))))
    ((repeat ((first|refine kLa ?_|refine kLb ?_|refine kCa rfl ?_|refine kCb ?_|refine kCc ?_|refine kCd ?_|refine kCe ?_|refine kCf ?_|refine kCg ?_|refine kCh ?_|refine kCi ?_|refine kCj ?_|refine kQa ?_|refine kQb ?_|refine kGa ?_|refine kGb ?_|refine kHa ?_|refine kHb ?_|refine kPa ?_|refine kPb ?_|refine kPc ?_|refine kEa ?_|refine kEb ?_|refine kBa ?_|refine kBb ?_|refine kBc (by omega) ?_|refine kBd (by omega) ?_|refine kBe (by omega) ?_|refine kBf (by omega) ?_|refine kRa ?_|refine kRb ?_|refine VRead.fld ?_|refine VRead.load1 (by assumption) ?_|refine VRead.load (by assumption) ?_|refine kRf ?_|refine kRg ?_|refine kRh ?_|refine kRi ?_|refine kBe rfl ?_|refine kBc rfl ?_|refine kWa (by omega) (by omega) ?_|refine kWb (by omega) (by omega) ?_|refine kRj (by omega) ?_|refine kRk ?_|refine VSem.convI ?_|refine VRead.convI ?_|refine VRead.rem (by omega) (by decide) ?_|refine VRead.neg ?_|refine VC.seq ?_); (conv => whnf))))
    refine VCall.of (mayEntry_any e D dn dc X3 hdl) ?_
    rintro y X4 ⟨rfl, hB14⟩
    refine ⟨_, rfl, ?_⟩
    have h14 := h13.trans (hB14.mono h13.size)
    by_cases hem : mayE e
    · rw [decide_eq_true hem]
      ((conv => whnf); (repeat ((first|refine kLa ?_|refine kLb ?_|refine kCa rfl ?_|refine kCb ?_|refine kCc ?_|refine kCd ?_|refine kCe ?_|refine kCf ?_|refine kCg ?_|refine kCh ?_|refine kCi ?_|refine kCj ?_|refine kQa ?_|refine kQb ?_|refine kGa ?_|refine kGb ?_|refine kHa ?_|refine kHb ?_); (conv => whnf))))
      ((repeat ((first|refine kLa ?_|refine kLb ?_|refine kCa rfl ?_|refine kCb ?_|refine kCc ?_|refine kCd ?_|refine kCe ?_|refine kCf ?_|refine kCg ?_|refine kCh ?_|refine kCi ?_|refine kCj ?_|refine kQa ?_|refine kQb ?_|refine kGa ?_|refine kGb ?_|refine kHa ?_|refine kHb ?_|refine kPa ?_|refine kPb ?_|refine kPc ?_|refine kEa ?_|refine kEb ?_|refine kBa ?_|refine kBb ?_|refine kBc (by omega) ?_|refine kBd (by omega) ?_|refine kBe (by omega) ?_|refine kBf (by omega) ?_|refine kRa ?_|refine kRb ?_|refine VRead.fld ?_|refine VRead.load1 (by assumption) ?_|refine VRead.load (by assumption) ?_|refine kRf ?_|refine kRg ?_|refine kRh ?_|refine kRi ?_|refine kBe rfl ?_|refine kBc rfl ?_|refine kWa (by omega) (by omega) ?_|refine kWb (by omega) (by omega) ?_|refine kRj (by omega) ?_|refine kRk ?_|refine VSem.convI ?_|refine VRead.convI ?_|refine VRead.rem (by omega) (by decide) ?_|refine VRead.neg ?_|refine VC.seq ?_); (conv => whnf))))
      refine ⟨_, by omega, j + 1, rfl, rfl, by omega, fun x hx => ?_, h14⟩
      rw [take_snoc he, List.mem_append] at hx
      rcases hx with hx | hx
      · exact hall x hx
      · obtain rfl : x = e := by simpa using hx
        exact hem
    · have e1 : S.wsave wl set term vote fr es = ((1, S), wl) := by unfold DS.wsave; rw [if_pos (.inr ⟨hf0, fun h => hem (h e (List.mem_of_getElem? he))⟩)]
      rw [decide_eq_false hem, e1]
      ((conv => whnf); (repeat ((first|refine kLa ?_|refine kLb ?_|refine kCa rfl ?_|refine kCb ?_|refine kCc ?_|refine kCd ?_|refine kCe ?_|refine kCf ?_|refine kCg ?_|refine kCh ?_|refine kCi ?_|refine kCj ?_|refine kQa ?_|refine kQb ?_|refine kGa ?_|refine kGb ?_|refine kHa ?_|refine kHb ?_); (conv => whnf))))
      ((repeat ((first|refine kLa ?_|refine kLb ?_|refine kCa rfl ?_|refine kCb ?_|refine kCc ?_|refine kCd ?_|refine kCe ?_|refine kCf ?_|refine kCg ?_|refine kCh ?_|refine kCi ?_|refine kCj ?_|refine kQa ?_|refine kQb ?_|refine kGa ?_|refine kGb ?_|refine kHa ?_|refine kHb ?_|refine kPa ?_|refine kPb ?_|refine kPc ?_|refine kEa ?_|refine kEb ?_|refine kBa ?_|refine kBb ?_|refine kBc (by omega) ?_|refine kBd (by omega) ?_|refine kBe (by omega) ?_|refine kBf (by omega) ?_|refine kRa ?_|refine kRb ?_|refine VRead.fld ?_|refine VRead.load1 (by assumption) ?_|refine VRead.load (by assumption) ?_|refine kRf ?_|refine kRg ?_|refine kRh ?_|refine kRi ?_|refine kBe rfl ?_|refine kBc rfl ?_|refine kWa (by omega) (by omega) ?_|refine kWb (by omega) (by omega) ?_|refine kRj (by omega) ?_|refine kRk ?_|refine VSem.convI ?_|refine VRead.convI ?_|refine VRead.rem (by omega) (by decide) ?_|refine VRead.neg ?_|refine VC.seq ?_); (conv => whnf))))
      exact ⟨rfl, U, hd1.below h14, hw1.later h14, hg, st1.trans (Step.new h14)⟩
  clear hE1 hd1 hw1 st1 hO hB hE
  rintro τ3 vs X1 ⟨A2, n2, c2, rfl, hO, hn2, hmay, hB⟩
  have hd1 := h.below hB
  have hw1 := hw.later hB
  have st1 : Step w0 U X1 U := Step.new hB
  have hl2 := hO.len
  have e0 : S.wsave wl set term vote fr es = if wsB set term vote fr es = [] then ((0, S), wl) else
      (S.wapp (wName wl.n) (wsB set term vote fr es), if (S.wapp (wName wl.n) (wsB set term vote fr es)).1 = 0 then wlast wl fr es else wl) := by
    unfold DS.wsave
    rw [if_neg (fun h => by
      rcases h with h | h
      · exact hb h
      · exact h.2 (hmay h.1))]
  by_cases hn0 : n2 = 0
  · subst hn0
    rw [e0, if_pos (List.eq_nil_of_length_eq_zero hl2)]
    ((conv => whnf); (repeat ((first|refine kLa ?_|refine kLb ?_|refine kCa rfl ?_|refine kCb ?_|refine kCc ?_|refine kCd ?_|refine kCe ?_|refine kCf ?_|refine kCg ?_|refine kCh ?_|refine kCi ?_|refine kCj ?_|refine kQa ?_|refine kQb ?_|refine kGa ?_|refine kGb ?_|refine kHa ?_|refine kHb ?_); (conv => whnf))))
    ((repeat ((first|refine kLa ?_|refine kLb ?_|refine kCa rfl ?_|refine kCb ?_|refine kCc ?_|refine kCd ?_|refine kCe ?_|refine kCf ?_|refine kCg ?_|refine kCh ?_|refine kCi ?_|refine kCj ?_|refine kQa ?_|refine kQb ?_|refine kGa ?_|refine kGb ?_|refine kHa ?_|refine kHb ?_|refine kPa ?_|refine kPb ?_|refine kPc ?_|refine kEa ?_|refine kEb ?_|refine kBa ?_|refine kBb ?_|refine kBc (by omega) ?_|refine kBd (by omega) ?_|refine kBe (by omega) ?_|refine kBf (by omega) ?_|refine kRa ?_|refine kRb ?_|refine VRead.fld ?_|refine VRead.load1 (by assumption) ?_|refine VRead.load (by assumption) ?_|refine kRf ?_|refine kRg ?_|refine kRh ?_|refine kRi ?_|refine kBe rfl ?_|refine kBc rfl ?_|refine kWa (by omega) (by omega) ?_|refine kWb (by omega) (by omega) ?_|refine kRj (by omega) ?_|refine kRk ?_|refine VSem.convI ?_|refine VRead.convI ?_|refine VRead.rem (by omega) (by decide) ?_|refine VRead.neg ?_|refine VC.seq ?_); (conv => whnf))))
    exact ⟨rfl, U, hd1, hw1, hg, st1.add g⟩
  rw [if_neg (fun e => hn0 (by rw [e] at hl2; simpa using hl2.symm))] at e0
  rw [e0]
  clear e0
  generalize wsB set term vote fr es = bytes at *
  have hfree : Free U (.slice A2 n2 c2) := Free.new hO h.lt
  ((conv => whnf); (repeat ((first|refine kLa ?_|refine kLb ?_|refine kCa rfl ?_|refine kCb ?_|refine kCc ?_|refine kCd ?_|refine kCe ?_|refine kCf ?_|refine kCg ?_|refine kCh ?_|refine kCi ?_|refine kCj ?_|refine kQa ?_|refine kQb ?_|refine kGa ?_|refine kGb ?_|refine kHa ?_|refine kHb ?_); (conv => whnf))))
  ((repeat ((first|refine kLa ?_|refine kLb ?_|refine kCa rfl ?_|refine kCb ?_|refine kCc ?_|refine kCd ?_|refine kCe ?_|refine kCf ?_|refine kCg ?_|refine kCh ?_|refine kCi ?_|refine kCj ?_|refine kQa ?_|refine kQb ?_|refine kGa ?_|refine kGb ?_|refine kHa ?_|refine kHb ?_|refine kPa ?_|refine kPb ?_|refine kPc ?_|refine kEa ?_|refine kEb ?_|refine kBa ?_|refine kBb ?_|refine kBc (by omega) ?_|refine kBd (by omega) ?_|refine kBe (by omega) ?_|refine kBf (by omega) ?_|refine kRa ?_|refine kRb ?_|refine VRead.fld ?_|refine VRead.load1 (by assumption) ?_|refine VRead.load (by assumption) ?_|refine kRf ?_|refine kRg ?_|refine kRh ?_|refine kRi ?_|refine kBe rfl ?_|refine kBc rfl ?_|refine kWa (by omega) (by omega) ?_|refine kWb (by omega) (by omega) ?_|refine kRj (by omega) ?_|refine kRk ?_|refine VSem.convI ?_|refine VRead.convI ?_|refine VRead.rem (by omega) (by decide) ?_|refine VRead.neg ?_|refine VC.seq ?_); (conv => whnf))))
  refine VDraw.seg (fun Y => Blk Y g 105 (wlC d wl)) [([0, 1, 2, 3, 4, 5, 6, 7, 9], 8), ([], 10)] [11] (by kernel_rfl) (by kernel_rfl) hw1 ?_
  (conv => whnf)
  (repeat ((first|refine VRead.loadBS (fun Y hY => hY) rfl rfl ?_|refine kLa ?_|refine kLb ?_|refine kCa rfl ?_|refine kCb ?_|refine kCc ?_|refine kCd ?_|refine kCe ?_|refine kCf ?_|refine kCg ?_|refine kCh ?_|refine kCi ?_|refine kCj ?_|refine kQa ?_|refine kQb ?_|refine kGa ?_|refine kGb ?_|refine kHa ?_|refine kHb ?_|refine kPa ?_|refine kPb ?_|refine kPc ?_|refine kEa ?_|refine kEb ?_|refine kBa ?_|refine kBb ?_|refine kBc (by omega) ?_|refine kBd (by omega) ?_|refine kBe (by omega) ?_|refine kBf (by omega) ?_|refine kRa ?_|refine kRb ?_|refine VRead.fld ?_|refine VRead.load1 (by assumption) ?_|refine VRead.load (by assumption) ?_|refine kRf ?_|refine kRg ?_|refine kRh ?_|refine kRi ?_|refine kBe rfl ?_|refine kBc rfl ?_|refine kWa (by omega) (by omega) ?_|refine kWb (by omega) (by omega) ?_|refine kRj (by omega) ?_|refine kRk ?_|refine VSem.convI ?_|refine VRead.convI ?_|refine VRead.rem (by omega) (by decide) ?_|refine VRead.neg ?_|refine VC.seq ?_); (conv => whnf)))
  refine VCall.of (walName_any wl.n _ (by omega)) ?_
  rintro e X2 ⟨rfl, hB2⟩
  refine ⟨_, rfl, ?_⟩
  have hS2 : Below X1.heap.size X1 X2 := (below_drewN (Below.refl X1.heap.size X1) 1).trans hB2
  have hd2 := hd1.below hS2
  have hO2 := hO.below hS2 (Nat.le_refl _)
  have hw2 := hw1.later hS2
  have st2 := st1.trans (Step.new (U := U) hS2)
  (conv => whnf)
  refine Keep.mk hw2 ?_
  (conv => whnf)
  ((repeat ((first|refine kLa ?_|refine kLb ?_|refine kCa rfl ?_|refine kCb ?_|refine kCc ?_|refine kCd ?_|refine kCe ?_|refine kCf ?_|refine kCg ?_|refine kCh ?_|refine kCi ?_|refine kCj ?_|refine kQa ?_|refine kQb ?_|refine kGa ?_|refine kGb ?_|refine kHa ?_|refine kHb ?_|refine kPa ?_|refine kPb ?_|refine kPc ?_|refine kEa ?_|refine kEb ?_|refine kBa ?_|refine kBb ?_|refine kBc (by omega) ?_|refine kBd (by omega) ?_|refine kBe (by omega) ?_|refine kBf (by omega) ?_|refine kRa ?_|refine kRb ?_|refine VRead.fld ?_|refine VRead.load1 (by assumption) ?_|refine VRead.load (by assumption) ?_|refine kRf ?_|refine kRg ?_|refine kRh ?_|refine kRi ?_|refine kBe rfl ?_|refine kBc rfl ?_|refine kWa (by omega) (by omega) ?_|refine kWb (by omega) (by omega) ?_|refine kRj (by omega) ?_|refine kRk ?_|refine VSem.convI ?_|refine VRead.convI ?_|refine VRead.rem (by omega) (by decide) ?_|refine VRead.neg ?_|refine VC.seq ?_); (conv => whnf))))
  refine VCall.of (oAppend X2 U d S (wName wl.n) n2 c2 A2 bytes hd2 (by omega) (by omega) (Src.of_own hO2) (by omega) hO2.cap) ?_
  rintro e X3 ⟨rfl, U3, hd3, st3⟩
  refine ⟨_, rfl, ?_⟩
  obtain ⟨hw3, hg3⟩ := st3.blk hw2 hg
  have st03 := st2.trans st3
  have hc3 : (S.append (wName wl.n) bytes).2.k.calls = S.k.calls + 1 := DS.append_calls
  (conv => whnf)
  refine Keep.mk hw3 ?_
  by_cases ca : (S.append (wName wl.n) bytes).1 = 0
  case neg =>
    have e1 : S.wapp (wName wl.n) bytes = S.append (wName wl.n) bytes := by unfold DS.wapp; rw [andT_no ca]
    rw [e1, if_neg ca]
    ((conv => whnf); (repeat ((first|refine kLa ?_|refine kLb ?_|refine kCa rfl ?_|refine kCb ?_|refine kCc ?_|refine kCd ?_|refine kCe ?_|refine kCf ?_|refine kCg ?_|refine kCh ?_|refine kCi ?_|refine kCj ?_|refine kQa ?_|refine kQb ?_|refine kGa ?_|refine kGb ?_|refine kHa ?_|refine kHb ?_); (conv => whnf))))
    (repeat (first | ((first|refine kLa ?_|refine kLb ?_|refine kCa rfl ?_|refine kCb ?_|refine kCc ?_|refine kCd ?_|refine kCe ?_|refine kCf ?_|refine kCg ?_|refine kCh ?_|refine kCi ?_|refine kCj ?_|refine kQa ?_|refine kQb ?_|refine kGa ?_|refine kGb ?_|refine kHa ?_|refine kHb ?_|refine kPa ?_|refine kPb ?_|refine kPc ?_|refine kEa ?_|refine kEb ?_|refine kBa ?_|refine kBb ?_|refine kBc (by omega) ?_|refine kBd (by omega) ?_|refine kBe (by omega) ?_|refine kBf (by omega) ?_|refine kRa ?_|refine kRb ?_|refine VRead.fld ?_|refine VRead.load1 (by assumption) ?_|refine VRead.load (by assumption) ?_|refine kRf ?_|refine kRg ?_|refine kRh ?_|refine kRi ?_|refine kBe rfl ?_|refine kBc rfl ?_|refine kWa (by omega) (by omega) ?_|refine kWb (by omega) (by omega) ?_|refine kRj (by omega) ?_|refine kRk ?_|refine VSem.convI ?_|refine VRead.convI ?_|refine VRead.rem (by omega) (by decide) ?_|refine VRead.neg ?_|refine VC.seq ?_); (conv => whnf)) | (refine kBf ca ?_; (conv => whnf))))
    exact ⟨rfl, U3, hd3, hw3, hg3, st03.add g⟩
  have e1 : S.wapp (wName wl.n) bytes = (S.append (wName wl.n) bytes).2.sync (wName wl.n) := by unfold DS.wapp; rw [andT_ok ca]
  rw [e1]
  clear e1
  obtain ⟨S3, hS3⟩ : ∃ S3, (S.append (wName wl.n) bytes).2 = S3 := ⟨_, rfl⟩
  rw [hS3] at hd3 hc3 ⊢
  clear hS3 hd2 hw2 st2 hO2 hS2 hd1 hw1 st1 hO hB2 hfree
  ((conv => whnf); (repeat ((first|refine kLa ?_|refine kLb ?_|refine kCa rfl ?_|refine kCb ?_|refine kCc ?_|refine kCd ?_|refine kCe ?_|refine kCf ?_|refine kCg ?_|refine kCh ?_|refine kCi ?_|refine kCj ?_|refine kQa ?_|refine kQb ?_|refine kGa ?_|refine kGb ?_|refine kHa ?_|refine kHb ?_); (conv => whnf))))
  (repeat (first | ((first|refine kLa ?_|refine kLb ?_|refine kCa rfl ?_|refine kCb ?_|refine kCc ?_|refine kCd ?_|refine kCe ?_|refine kCf ?_|refine kCg ?_|refine kCh ?_|refine kCi ?_|refine kCj ?_|refine kQa ?_|refine kQb ?_|refine kGa ?_|refine kGb ?_|refine kHa ?_|refine kHb ?_|refine kPa ?_|refine kPb ?_|refine kPc ?_|refine kEa ?_|refine kEb ?_|refine kBa ?_|refine kBb ?_|refine kBc (by omega) ?_|refine kBd (by omega) ?_|refine kBe (by omega) ?_|refine kBf (by omega) ?_|refine kRa ?_|refine kRb ?_|refine VRead.fld ?_|refine VRead.load1 (by assumption) ?_|refine VRead.load (by assumption) ?_|refine kRf ?_|refine kRg ?_|refine kRh ?_|refine kRi ?_|refine kBe rfl ?_|refine kBc rfl ?_|refine kWa (by omega) (by omega) ?_|refine kWb (by omega) (by omega) ?_|refine kRj (by omega) ?_|refine kRk ?_|refine VSem.convI ?_|refine VRead.convI ?_|refine VRead.rem (by omega) (by decide) ?_|refine VRead.neg ?_|refine VC.seq ?_); (conv => whnf)) | (refine kBe ca ?_; (conv => whnf))))
  refine VDraw.seg (fun Y => Blk Y g 105 (wlC d wl)) [([0, 1, 2, 3, 4, 5, 6, 7], 8), ([], 9)] [10] (by kernel_rfl) (by kernel_rfl) hw3 ?_
  (conv => whnf)
  (repeat ((first|refine VRead.loadBS (fun Y hY => hY) rfl rfl ?_|refine kLa ?_|refine kLb ?_|refine kCa rfl ?_|refine kCb ?_|refine kCc ?_|refine kCd ?_|refine kCe ?_|refine kCf ?_|refine kCg ?_|refine kCh ?_|refine kCi ?_|refine kCj ?_|refine kQa ?_|refine kQb ?_|refine kGa ?_|refine kGb ?_|refine kHa ?_|refine kHb ?_|refine kPa ?_|refine kPb ?_|refine kPc ?_|refine kEa ?_|refine kEb ?_|refine kBa ?_|refine kBb ?_|refine kBc (by omega) ?_|refine kBd (by omega) ?_|refine kBe (by omega) ?_|refine kBf (by omega) ?_|refine kRa ?_|refine kRb ?_|refine VRead.fld ?_|refine VRead.load1 (by assumption) ?_|refine VRead.load (by assumption) ?_|refine kRf ?_|refine kRg ?_|refine kRh ?_|refine kRi ?_|refine kBe rfl ?_|refine kBc rfl ?_|refine kWa (by omega) (by omega) ?_|refine kWb (by omega) (by omega) ?_|refine kRj (by omega) ?_|refine kRk ?_|refine VSem.convI ?_|refine VRead.convI ?_|refine VRead.rem (by omega) (by decide) ?_|refine VRead.neg ?_|refine VC.seq ?_); (conv => whnf)))
  refine VCall.of (walName_any wl.n _ (by omega)) ?_
  rintro e X4 ⟨rfl, hB4⟩
  refine ⟨_, rfl, ?_⟩
  have hS4 : Below X3.heap.size X3 X4 := (below_drewN (Below.refl X3.heap.size X3) 1).trans hB4
  have hd4 := hd3.below hS4
  have hw4 := hw3.later hS4
  have st4 := st03.trans (Step.new (U := U3) hS4)
  (conv => whnf)
  refine Keep.mk hw4 ?_
  (conv => whnf)
  ((repeat ((first|refine kLa ?_|refine kLb ?_|refine kCa rfl ?_|refine kCb ?_|refine kCc ?_|refine kCd ?_|refine kCe ?_|refine kCf ?_|refine kCg ?_|refine kCh ?_|refine kCi ?_|refine kCj ?_|refine kQa ?_|refine kQb ?_|refine kGa ?_|refine kGb ?_|refine kHa ?_|refine kHb ?_|refine kPa ?_|refine kPb ?_|refine kPc ?_|refine kEa ?_|refine kEb ?_|refine kBa ?_|refine kBb ?_|refine kBc (by omega) ?_|refine kBd (by omega) ?_|refine kBe (by omega) ?_|refine kBf (by omega) ?_|refine kRa ?_|refine kRb ?_|refine VRead.fld ?_|refine VRead.load1 (by assumption) ?_|refine VRead.load (by assumption) ?_|refine kRf ?_|refine kRg ?_|refine kRh ?_|refine kRi ?_|refine kBe rfl ?_|refine kBc rfl ?_|refine kWa (by omega) (by omega) ?_|refine kWb (by omega) (by omega) ?_|refine kRj (by omega) ?_|refine kRk ?_|refine VSem.convI ?_|refine VRead.convI ?_|refine VRead.rem (by omega) (by decide) ?_|refine VRead.neg ?_|refine VC.seq ?_); (conv => whnf))))
  refine VCall.of (oSync X4 U3 d S3 (wName wl.n) hd4 (by omega) (by omega)) ?_
  rintro e X5 ⟨rfl, U5, hd5, st5⟩
  refine ⟨_, rfl, ?_⟩
  obtain ⟨hw5, hg5⟩ := st5.blk hw4 hg3
  have st05 := st4.trans st5
  (conv => whnf)
  refine Keep.mk hw5 ?_
  by_cases cb : (S3.sync (wName wl.n)).1 = 0
  case neg =>
    rw [if_neg cb]
    ((conv => whnf); (repeat ((first|refine kLa ?_|refine kLb ?_|refine kCa rfl ?_|refine kCb ?_|refine kCc ?_|refine kCd ?_|refine kCe ?_|refine kCf ?_|refine kCg ?_|refine kCh ?_|refine kCi ?_|refine kCj ?_|refine kQa ?_|refine kQb ?_|refine kGa ?_|refine kGb ?_|refine kHa ?_|refine kHb ?_); (conv => whnf))))
    (repeat (first | ((first|refine kLa ?_|refine kLb ?_|refine kCa rfl ?_|refine kCb ?_|refine kCc ?_|refine kCd ?_|refine kCe ?_|refine kCf ?_|refine kCg ?_|refine kCh ?_|refine kCi ?_|refine kCj ?_|refine kQa ?_|refine kQb ?_|refine kGa ?_|refine kGb ?_|refine kHa ?_|refine kHb ?_|refine kPa ?_|refine kPb ?_|refine kPc ?_|refine kEa ?_|refine kEb ?_|refine kBa ?_|refine kBb ?_|refine kBc (by omega) ?_|refine kBd (by omega) ?_|refine kBe (by omega) ?_|refine kBf (by omega) ?_|refine kRa ?_|refine kRb ?_|refine VRead.fld ?_|refine VRead.load1 (by assumption) ?_|refine VRead.load (by assumption) ?_|refine kRf ?_|refine kRg ?_|refine kRh ?_|refine kRi ?_|refine kBe rfl ?_|refine kBc rfl ?_|refine kWa (by omega) (by omega) ?_|refine kWb (by omega) (by omega) ?_|refine kRj (by omega) ?_|refine kRk ?_|refine VSem.convI ?_|refine VRead.convI ?_|refine VRead.rem (by omega) (by decide) ?_|refine VRead.neg ?_|refine VC.seq ?_); (conv => whnf)) | (refine kBf cb ?_; (conv => whnf))))
    exact ⟨rfl, U5, hd5, hw5, hg5, st05.add g⟩
  rw [if_pos cb]
  have fin0 : Ending.returned (.int .i64 0) = Ending.returned (.int .i64 (S3.sync (wName wl.n)).1) := by rw [cb]
  by_cases hf : 0 < fr ∧ 0 < es.length
  case neg =>
    have e2 : wlast wl fr es = wl := by unfold wlast; rw [if_neg hf]
    rw [e2]
    by_cases hf0 : 0 < fr
    · have hn0' : ¬ 0 < (n : Int) := fun h => hf ⟨hf0, by omega⟩
      ((conv => whnf); (repeat ((first|refine kLa ?_|refine kLb ?_|refine kCa rfl ?_|refine kCb ?_|refine kCc ?_|refine kCd ?_|refine kCe ?_|refine kCf ?_|refine kCg ?_|refine kCh ?_|refine kCi ?_|refine kCj ?_|refine kQa ?_|refine kQb ?_|refine kGa ?_|refine kGb ?_|refine kHa ?_|refine kHb ?_); (conv => whnf))))
      (repeat (first | ((first|refine kLa ?_|refine kLb ?_|refine kCa rfl ?_|refine kCb ?_|refine kCc ?_|refine kCd ?_|refine kCe ?_|refine kCf ?_|refine kCg ?_|refine kCh ?_|refine kCi ?_|refine kCj ?_|refine kQa ?_|refine kQb ?_|refine kGa ?_|refine kGb ?_|refine kHa ?_|refine kHb ?_|refine kPa ?_|refine kPb ?_|refine kPc ?_|refine kEa ?_|refine kEb ?_|refine kBa ?_|refine kBb ?_|refine kBc (by omega) ?_|refine kBd (by omega) ?_|refine kBe (by omega) ?_|refine kBf (by omega) ?_|refine kRa ?_|refine kRb ?_|refine VRead.fld ?_|refine VRead.load1 (by assumption) ?_|refine VRead.load (by assumption) ?_|refine kRf ?_|refine kRg ?_|refine kRh ?_|refine kRi ?_|refine kBe rfl ?_|refine kBc rfl ?_|refine kWa (by omega) (by omega) ?_|refine kWb (by omega) (by omega) ?_|refine kRj (by omega) ?_|refine kRk ?_|refine VSem.convI ?_|refine VRead.convI ?_|refine VRead.rem (by omega) (by decide) ?_|refine VRead.neg ?_|refine VC.seq ?_); (conv => whnf)) | (refine kBe cb ?_; (conv => whnf))))
      exact ⟨fin0, U5, hd5, hw5, hg5, st05.add g⟩
    · ((conv => whnf); (repeat ((first|refine kLa ?_|refine kLb ?_|refine kCa rfl ?_|refine kCb ?_|refine kCc ?_|refine kCd ?_|refine kCe ?_|refine kCf ?_|refine kCg ?_|refine kCh ?_|refine kCi ?_|refine kCj ?_|refine kQa ?_|refine kQb ?_|refine kGa ?_|refine kGb ?_|refine kHa ?_|refine kHb ?_); (conv => whnf))))
      (repeat (first | ((first|refine kLa ?_|refine kLb ?_|refine kCa rfl ?_|refine kCb ?_|refine kCc ?_|refine kCd ?_|refine kCe ?_|refine kCf ?_|refine kCg ?_|refine kCh ?_|refine kCi ?_|refine kCj ?_|refine kQa ?_|refine kQb ?_|refine kGa ?_|refine kGb ?_|refine kHa ?_|refine kHb ?_|refine kPa ?_|refine kPb ?_|refine kPc ?_|refine kEa ?_|refine kEb ?_|refine kBa ?_|refine kBb ?_|refine kBc (by omega) ?_|refine kBd (by omega) ?_|refine kBe (by omega) ?_|refine kBf (by omega) ?_|refine kRa ?_|refine kRb ?_|refine VRead.fld ?_|refine VRead.load1 (by assumption) ?_|refine VRead.load (by assumption) ?_|refine kRf ?_|refine kRg ?_|refine kRh ?_|refine kRi ?_|refine kBe rfl ?_|refine kBc rfl ?_|refine kWa (by omega) (by omega) ?_|refine kWb (by omega) (by omega) ?_|refine kRj (by omega) ?_|refine kRk ?_|refine VSem.convI ?_|refine VRead.convI ?_|refine VRead.rem (by omega) (by decide) ?_|refine VRead.neg ?_|refine VC.seq ?_); (conv => whnf)) | (refine kBe cb ?_; (conv => whnf))))
      exact ⟨fin0, U5, hd5, hw5, hg5, st05.add g⟩
  obtain ⟨hf0, hf1⟩ := hf
  obtain ⟨f1, f2⟩ := hfr hf0
  have hn1 : 0 < (n : Int) := by omega
  have e2 : wlast wl fr es = { wl with last := fr + n - 1 } := by unfold wlast; rw [if_pos ⟨hf0, hf1⟩, hel]
  rw [e2]
  ((conv => whnf); (repeat ((first|refine kLa ?_|refine kLb ?_|refine kCa rfl ?_|refine kCb ?_|refine kCc ?_|refine kCd ?_|refine kCe ?_|refine kCf ?_|refine kCg ?_|refine kCh ?_|refine kCi ?_|refine kCj ?_|refine kQa ?_|refine kQb ?_|refine kGa ?_|refine kGb ?_|refine kHa ?_|refine kHb ?_); (conv => whnf))))
  (repeat (first | ((first|refine kLa ?_|refine kLb ?_|refine kCa rfl ?_|refine kCb ?_|refine kCc ?_|refine kCd ?_|refine kCe ?_|refine kCf ?_|refine kCg ?_|refine kCh ?_|refine kCi ?_|refine kCj ?_|refine kQa ?_|refine kQb ?_|refine kGa ?_|refine kGb ?_|refine kHa ?_|refine kHb ?_|refine kPa ?_|refine kPb ?_|refine kPc ?_|refine kEa ?_|refine kEb ?_|refine kBa ?_|refine kBb ?_|refine kBc (by omega) ?_|refine kBd (by omega) ?_|refine kBe (by omega) ?_|refine kBf (by omega) ?_|refine kRa ?_|refine kRb ?_|refine VRead.fld ?_|refine VRead.load1 (by assumption) ?_|refine VRead.load (by assumption) ?_|refine kRf ?_|refine kRg ?_|refine kRh ?_|refine kRi ?_|refine kBe rfl ?_|refine kBc rfl ?_|refine kWa (by omega) (by omega) ?_|refine kWb (by omega) (by omega) ?_|refine kRj (by omega) ?_|refine kRk ?_|refine VSem.convI ?_|refine VRead.convI ?_|refine VRead.rem (by omega) (by decide) ?_|refine VRead.neg ?_|refine VC.seq ?_); (conv => whnf)) | (refine kBe cb ?_; (conv => whnf))))
  refine VUnit.storeB hw5 rfl rfl rfl ?_
  intro X6 hw6 hg6
  replace hw6 : Blk X6 g 105 (wlC d { wl with last := fr + n - 1 }) := hw6
  ((conv => whnf); (repeat ((first|refine kLa ?_|refine kLb ?_|refine kCa rfl ?_|refine kCb ?_|refine kCc ?_|refine kCd ?_|refine kCe ?_|refine kCf ?_|refine kCg ?_|refine kCh ?_|refine kCi ?_|refine kCj ?_|refine kQa ?_|refine kQb ?_|refine kGa ?_|refine kGb ?_|refine kHa ?_|refine kHb ?_); (conv => whnf))))
  ((repeat ((first|refine kLa ?_|refine kLb ?_|refine kCa rfl ?_|refine kCb ?_|refine kCc ?_|refine kCd ?_|refine kCe ?_|refine kCf ?_|refine kCg ?_|refine kCh ?_|refine kCi ?_|refine kCj ?_|refine kQa ?_|refine kQb ?_|refine kGa ?_|refine kGb ?_|refine kHa ?_|refine kHb ?_|refine kPa ?_|refine kPb ?_|refine kPc ?_|refine kEa ?_|refine kEb ?_|refine kBa ?_|refine kBb ?_|refine kBc (by omega) ?_|refine kBd (by omega) ?_|refine kBe (by omega) ?_|refine kBf (by omega) ?_|refine kRa ?_|refine kRb ?_|refine VRead.fld ?_|refine VRead.load1 (by assumption) ?_|refine VRead.load (by assumption) ?_|refine kRf ?_|refine kRg ?_|refine kRh ?_|refine kRi ?_|refine kBe rfl ?_|refine kBc rfl ?_|refine kWa (by omega) (by omega) ?_|refine kWb (by omega) (by omega) ?_|refine kRj (by omega) ?_|refine kRk ?_|refine VSem.convI ?_|refine VRead.convI ?_|refine VRead.rem (by omega) (by decide) ?_|refine VRead.neg ?_|refine VC.seq ?_); (conv => whnf))))
  exact ⟨fin0, U5, hd5.cell hg6 hg5, hw6, hg5, (st05.add g).trans (Step.cell hg6)⟩
end Go.Proofs.Ytebeidnmplnlpaa
end
