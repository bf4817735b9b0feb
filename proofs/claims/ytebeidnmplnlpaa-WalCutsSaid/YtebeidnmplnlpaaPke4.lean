/- Texts joined: FrameE, SnapB, SnapC, LaidL, Frs, RS, SnapD, RdB, In, DiskQ, RdC, RdD, WalA, WalB. No condition. -/
import Derived.Test.YtebeidnmplnlpaaPke3
import Derived.Test.YtebeidnmplnlpaaPke1
import Derived.Test.YtebeidnmplnlpaaPke2
import Derived.Test.YtebeidnmplnlpaaPke0
import Derived.SliceStrings
import Derived.Deep.Grids
import Derived.Deep.Slices
import Derived.OpenShut
section
namespace Go.Proofs.Ytebeidnmplnlpaa
set_option linter.unusedVariables false
open Go.RowKit

/-- what stands between two rounds of Ends -/
structure EndsJ (l : List UInt8) (v : Value) (w : World) (r : Loop) (D g1 g4 gx : Nat) (k : Nat) (W : World) : Prop where
  b1 : Blk W g1 31 #[v]
  b4 : Blk W g4 3 #[.int .i64 (Frame.place l k)]
  bx : Blk W gx 31 #[v]
  dd : W.heap[D]? = some (.deferred (some []))
  ll : W.heap[D + 1]? = some (.loop r)
  since : Below w.heap.size w W
theorem EndsJ.later {l : List UInt8} {v : Value} {w : World} {r : Loop} {D g1 g4 gx k : Nat} {W W' : World} (h : EndsJ l v w r D g1 g4 gx k W) (hb : Below W.heap.size W W') : EndsJ l v w r D g1 g4 gx k W' :=
  ⟨h.b1.later hb, h.b4.later hb, h.bx.later hb, obj_later h.dd hb, obj_later h.ll hb, h.since.trans (hb.mono h.since.size)⟩
theorem obj_only {w w' : World} {g i : Nat} {o : Obj} (h : w.heap[i]? = some o) (hg : w.grownBy w' (some g)) (hne : i ≠ g) : w'.heap[i]? = some o := by
  rw [hg.block i (Array.getElem?_eq_some_iff.1 h).1 (fun e => by injection e with e; exact hne (by omega))]; exact h
theorem Blk.only {w w' : World} {g i : Nat} {T : TypeId} {cs : Array Value} (h : Blk w i T cs) (hg : w.grownBy w' (some g)) (hne : i ≠ g) : Blk w' i T cs := obj_only h hg hne
theorem blk_lt {w : World} {g : Nat} {T : TypeId} {cs : Array Value} (h : Blk w g T cs) : g < w.heap.size := (Array.getElem?_eq_some_iff.1 h).1
theorem put_same {w : World} {i : Nat} {o o' : Obj} (h : w.heap[i]? = some o) : (w.putObj i o').heap[i]? = some o' := World.putObj_heap_same (Array.getElem?_eq_some_iff.1 h).1
theorem put_other {w : World} {i r : Nat} {o o' : Obj} (h : w.heap[i]? = some o) (hne : i ≠ r) : (w.putObj r o').heap[i]? = some o := by rw [World.putObj_heap_other hne]; exact h
set_option maxRecDepth 10000 in
theorem frEnds_any (A : Option Addr) (n c : Nat) (l : List UInt8) (w : World) (hn : n ≤ 140737488355328) (hnc : n ≤ c) (hr : Reads w w.heap.size 1 A n (bv l)) :
    Calls Try.prog 87 #[.slice A n c] w fun e w' => ∃ k, (∀ i, i < k → Frame.okAt l i) ∧ ¬ Frame.okAt l k ∧
      e = .returned (.tuple #[.int .i64 (Frame.place l k), .bool (decide (Frame.place l k = n))]) ∧ Below w.heap.size w w' := by
  have hln : l.length = n := by have := hr.1; rw [bv_length] at this; omega
  refine calls_vw Try.func87 rfl (by kernel_rfl) ?_
  refine VW.seq (VW.vc (by kernel_rfl) ?_)
  ((conv => whnf); (repeat ((first|refine kLa ?_|refine kLb ?_|refine kCa rfl ?_|refine kCb ?_|refine kCc ?_|refine kCd ?_|refine kCe ?_|refine kCf ?_|refine kCg ?_|refine kCh ?_|refine kCi ?_|refine kCj ?_|refine kQa ?_|refine kQb ?_|refine kGa ?_|refine kGb ?_|refine kHa ?_|refine kHb ?_); (conv => whnf))))
  ((repeat ((first|refine kLa ?_|refine kLb ?_|refine kCa rfl ?_|refine kCb ?_|refine kCc ?_|refine kCd ?_|refine kCe ?_|refine kCf ?_|refine kCg ?_|refine kCh ?_|refine kCi ?_|refine kCj ?_|refine kQa ?_|refine kQb ?_|refine kGa ?_|refine kGb ?_|refine kHa ?_|refine kHb ?_|refine kPa ?_|refine kPb ?_|refine kPc ?_|refine kEa ?_|refine kEb ?_|refine kBa ?_|refine kBb ?_|refine kBc (by omega) ?_|refine kBd (by omega) ?_|refine kBe (by omega) ?_|refine kBf (by omega) ?_|refine kRa ?_|refine kRb ?_|refine VRead.fld ?_|refine VRead.load1 (by assumption) ?_|refine VRead.load (by assumption) ?_|refine kRf ?_|refine kRg ?_|refine kRh ?_|refine kRi ?_|refine kBe rfl ?_|refine kBc rfl ?_|refine kWa (by omega) (by omega) ?_|refine kWb (by omega) (by omega) ?_|refine kRj (by omega) ?_|refine kRk ?_|refine VSem.convI ?_|refine VRead.convI ?_|refine VRead.rem (by omega) (by decide) ?_|refine VRead.neg ?_|refine VC.seq ?_); (conv => whnf))))
  refine VSem.boxB ?_
  intro w1 g1 hb1 hg1 hl1 hB1
  ((conv => whnf); (repeat ((first|refine kLa ?_|refine kLb ?_|refine kCa rfl ?_|refine kCb ?_|refine kCc ?_|refine kCd ?_|refine kCe ?_|refine kCf ?_|refine kCg ?_|refine kCh ?_|refine kCi ?_|refine kCj ?_|refine kQa ?_|refine kQb ?_|refine kGa ?_|refine kGb ?_|refine kHa ?_|refine kHb ?_); (conv => whnf))))
  ((repeat ((first|refine kLa ?_|refine kLb ?_|refine kCa rfl ?_|refine kCb ?_|refine kCc ?_|refine kCd ?_|refine kCe ?_|refine kCf ?_|refine kCg ?_|refine kCh ?_|refine kCi ?_|refine kCj ?_|refine kQa ?_|refine kQb ?_|refine kGa ?_|refine kGb ?_|refine kHa ?_|refine kHb ?_|refine kPa ?_|refine kPb ?_|refine kPc ?_|refine kEa ?_|refine kEb ?_|refine kBa ?_|refine kBb ?_|refine kBc (by omega) ?_|refine kBd (by omega) ?_|refine kBe (by omega) ?_|refine kBf (by omega) ?_|refine kRa ?_|refine kRb ?_|refine VRead.fld ?_|refine VRead.load1 (by assumption) ?_|refine VRead.load (by assumption) ?_|refine kRf ?_|refine kRg ?_|refine kRh ?_|refine kRi ?_|refine kBe rfl ?_|refine kBc rfl ?_|refine kWa (by omega) (by omega) ?_|refine kWb (by omega) (by omega) ?_|refine kRj (by omega) ?_|refine kRk ?_|refine VSem.convI ?_|refine VRead.convI ?_|refine VRead.rem (by omega) (by decide) ?_|refine VRead.neg ?_|refine VC.seq ?_); (conv => whnf))))
  refine VW.seq (VW.vc (by kernel_rfl) ?_)
  ((conv => whnf); (repeat ((first|refine kLa ?_|refine kLb ?_|refine kCa rfl ?_|refine kCb ?_|refine kCc ?_|refine kCd ?_|refine kCe ?_|refine kCf ?_|refine kCg ?_|refine kCh ?_|refine kCi ?_|refine kCj ?_|refine kQa ?_|refine kQb ?_|refine kGa ?_|refine kGb ?_|refine kHa ?_|refine kHb ?_); (conv => whnf))))
  ((repeat ((first|refine kLa ?_|refine kLb ?_|refine kCa rfl ?_|refine kCb ?_|refine kCc ?_|refine kCd ?_|refine kCe ?_|refine kCf ?_|refine kCg ?_|refine kCh ?_|refine kCi ?_|refine kCj ?_|refine kQa ?_|refine kQb ?_|refine kGa ?_|refine kGb ?_|refine kHa ?_|refine kHb ?_|refine kPa ?_|refine kPb ?_|refine kPc ?_|refine kEa ?_|refine kEb ?_|refine kBa ?_|refine kBb ?_|refine kBc (by omega) ?_|refine kBd (by omega) ?_|refine kBe (by omega) ?_|refine kBf (by omega) ?_|refine kRa ?_|refine kRb ?_|refine VRead.fld ?_|refine VRead.load1 (by assumption) ?_|refine VRead.load (by assumption) ?_|refine kRf ?_|refine kRg ?_|refine kRh ?_|refine kRi ?_|refine kBe rfl ?_|refine kBc rfl ?_|refine kWa (by omega) (by omega) ?_|refine kWb (by omega) (by omega) ?_|refine kRj (by omega) ?_|refine kRk ?_|refine VSem.convI ?_|refine VRead.convI ?_|refine VRead.rem (by omega) (by decide) ?_|refine VRead.neg ?_|refine VC.seq ?_); (conv => whnf))))
  refine VSem.allocZ (z := .int .i64 0) (by kernel_rfl) ?_
  intro w2 g4 hb4 hg4 hl4 hB2
  ((conv => whnf); (repeat ((first|refine kLa ?_|refine kLb ?_|refine kCa rfl ?_|refine kCb ?_|refine kCc ?_|refine kCd ?_|refine kCe ?_|refine kCf ?_|refine kCg ?_|refine kCh ?_|refine kCi ?_|refine kCj ?_|refine kQa ?_|refine kQb ?_|refine kGa ?_|refine kGb ?_|refine kHa ?_|refine kHb ?_); (conv => whnf))))
  ((repeat ((first|refine kLa ?_|refine kLb ?_|refine kCa rfl ?_|refine kCb ?_|refine kCc ?_|refine kCd ?_|refine kCe ?_|refine kCf ?_|refine kCg ?_|refine kCh ?_|refine kCi ?_|refine kCj ?_|refine kQa ?_|refine kQb ?_|refine kGa ?_|refine kGb ?_|refine kHa ?_|refine kHb ?_|refine kPa ?_|refine kPb ?_|refine kPc ?_|refine kEa ?_|refine kEb ?_|refine kBa ?_|refine kBb ?_|refine kBc (by omega) ?_|refine kBd (by omega) ?_|refine kBe (by omega) ?_|refine kBf (by omega) ?_|refine kRa ?_|refine kRb ?_|refine VRead.fld ?_|refine VRead.load1 (by assumption) ?_|refine VRead.load (by assumption) ?_|refine kRf ?_|refine kRg ?_|refine kRh ?_|refine kRi ?_|refine kBe rfl ?_|refine kBc rfl ?_|refine kWa (by omega) (by omega) ?_|refine kWb (by omega) (by omega) ?_|refine kRj (by omega) ?_|refine kRk ?_|refine VSem.convI ?_|refine VRead.convI ?_|refine VRead.rem (by omega) (by decide) ?_|refine VRead.neg ?_|refine VC.seq ?_); (conv => whnf))))
  refine VUnit.storeB hb4 rfl rfl rfl ?_
  intro w3 hb4' hg3
  have hB3 : Below w1.heap.size w1 w3 := only_new hB2 hg3 (by omega) (by omega)
  have hb1' := hb1.later hB3
  ((conv => whnf); (repeat ((first|refine kLa ?_|refine kLb ?_|refine kCa rfl ?_|refine kCb ?_|refine kCc ?_|refine kCd ?_|refine kCe ?_|refine kCf ?_|refine kCg ?_|refine kCh ?_|refine kCi ?_|refine kCj ?_|refine kQa ?_|refine kQb ?_|refine kGa ?_|refine kGb ?_|refine kHa ?_|refine kHb ?_); (conv => whnf))))
  ((repeat ((first|refine kLa ?_|refine kLb ?_|refine kCa rfl ?_|refine kCb ?_|refine kCc ?_|refine kCd ?_|refine kCe ?_|refine kCf ?_|refine kCg ?_|refine kCh ?_|refine kCi ?_|refine kCj ?_|refine kQa ?_|refine kQb ?_|refine kGa ?_|refine kGb ?_|refine kHa ?_|refine kHb ?_|refine kPa ?_|refine kPb ?_|refine kPc ?_|refine kEa ?_|refine kEb ?_|refine kBa ?_|refine kBb ?_|refine kBc (by omega) ?_|refine kBd (by omega) ?_|refine kBe (by omega) ?_|refine kBf (by omega) ?_|refine kRa ?_|refine kRb ?_|refine VRead.fld ?_|refine VRead.load1 (by assumption) ?_|refine VRead.load (by assumption) ?_|refine kRf ?_|refine kRg ?_|refine kRh ?_|refine kRi ?_|refine kBe rfl ?_|refine kBc rfl ?_|refine kWa (by omega) (by omega) ?_|refine kWb (by omega) (by omega) ?_|refine kRj (by omega) ?_|refine kRk ?_|refine VSem.convI ?_|refine VRead.convI ?_|refine VRead.rem (by omega) (by decide) ?_|refine VRead.neg ?_|refine VC.seq ?_); (conv => whnf))))
  refine VW.seq (VW.seq (VW.vc (by kernel_rfl) ?_))
  ((conv => whnf); (repeat ((first|refine kLa ?_|refine kLb ?_|refine kCa rfl ?_|refine kCb ?_|refine kCc ?_|refine kCd ?_|refine kCe ?_|refine kCf ?_|refine kCg ?_|refine kCh ?_|refine kCi ?_|refine kCj ?_|refine kQa ?_|refine kQb ?_|refine kGa ?_|refine kGb ?_|refine kHa ?_|refine kHb ?_); (conv => whnf))))
  ((repeat ((first|refine kLa ?_|refine kLb ?_|refine kCa rfl ?_|refine kCb ?_|refine kCc ?_|refine kCd ?_|refine kCe ?_|refine kCf ?_|refine kCg ?_|refine kCh ?_|refine kCi ?_|refine kCj ?_|refine kQa ?_|refine kQb ?_|refine kGa ?_|refine kGb ?_|refine kHa ?_|refine kHb ?_|refine kPa ?_|refine kPb ?_|refine kPc ?_|refine kEa ?_|refine kEb ?_|refine kBa ?_|refine kBb ?_|refine kBc (by omega) ?_|refine kBd (by omega) ?_|refine kBe (by omega) ?_|refine kBf (by omega) ?_|refine kRa ?_|refine kRb ?_|refine VRead.fld ?_|refine VRead.load1 (by assumption) ?_|refine VRead.load (by assumption) ?_|refine kRf ?_|refine kRg ?_|refine kRh ?_|refine kRi ?_|refine kBe rfl ?_|refine kBc rfl ?_|refine kWa (by omega) (by omega) ?_|refine kWb (by omega) (by omega) ?_|refine kRj (by omega) ?_|refine kRk ?_|refine VSem.convI ?_|refine VRead.convI ?_|refine VRead.rem (by omega) (by decide) ?_|refine VRead.neg ?_|refine VC.seq ?_); (conv => whnf))))
  refine VRead.loadB hb1' rfl rfl ?_
  ((conv => whnf); (repeat ((first|refine kLa ?_|refine kLb ?_|refine kCa rfl ?_|refine kCb ?_|refine kCc ?_|refine kCd ?_|refine kCe ?_|refine kCf ?_|refine kCg ?_|refine kCh ?_|refine kCi ?_|refine kCj ?_|refine kQa ?_|refine kQb ?_|refine kGa ?_|refine kGb ?_|refine kHa ?_|refine kHb ?_); (conv => whnf))))
  ((repeat ((first|refine kLa ?_|refine kLb ?_|refine kCa rfl ?_|refine kCb ?_|refine kCc ?_|refine kCd ?_|refine kCe ?_|refine kCf ?_|refine kCg ?_|refine kCh ?_|refine kCi ?_|refine kCj ?_|refine kQa ?_|refine kQb ?_|refine kGa ?_|refine kGb ?_|refine kHa ?_|refine kHb ?_|refine kPa ?_|refine kPb ?_|refine kPc ?_|refine kEa ?_|refine kEb ?_|refine kBa ?_|refine kBb ?_|refine kBc (by omega) ?_|refine kBd (by omega) ?_|refine kBe (by omega) ?_|refine kBf (by omega) ?_|refine kRa ?_|refine kRb ?_|refine VRead.fld ?_|refine VRead.load1 (by assumption) ?_|refine VRead.load (by assumption) ?_|refine kRf ?_|refine kRg ?_|refine kRh ?_|refine kRi ?_|refine kBe rfl ?_|refine kBc rfl ?_|refine kWa (by omega) (by omega) ?_|refine kWb (by omega) (by omega) ?_|refine kRj (by omega) ?_|refine kRk ?_|refine VSem.convI ?_|refine VRead.convI ?_|refine VRead.rem (by omega) (by decide) ?_|refine VRead.neg ?_|refine VC.seq ?_); (conv => whnf))))
  refine VCall.of (frAll_any (.slice A n c) ⟨_, _, _, rfl⟩ w3) ?_
  rintro e w4 ⟨gx, rfl, hbx, hgx, hB4⟩
  refine ⟨_, rfl, ?_⟩
  ((conv => whnf); (repeat ((first|refine kLa ?_|refine kLb ?_|refine kCa rfl ?_|refine kCb ?_|refine kCc ?_|refine kCd ?_|refine kCe ?_|refine kCf ?_|refine kCg ?_|refine kCh ?_|refine kCi ?_|refine kCj ?_|refine kQa ?_|refine kQb ?_|refine kGa ?_|refine kGb ?_|refine kHa ?_|refine kHb ?_); (conv => whnf))))
  ((repeat ((first|refine kLa ?_|refine kLb ?_|refine kCa rfl ?_|refine kCb ?_|refine kCc ?_|refine kCd ?_|refine kCe ?_|refine kCf ?_|refine kCg ?_|refine kCh ?_|refine kCi ?_|refine kCj ?_|refine kQa ?_|refine kQb ?_|refine kGa ?_|refine kGb ?_|refine kHa ?_|refine kHb ?_|refine kPa ?_|refine kPb ?_|refine kPc ?_|refine kEa ?_|refine kEb ?_|refine kBa ?_|refine kBb ?_|refine kBc (by omega) ?_|refine kBd (by omega) ?_|refine kBe (by omega) ?_|refine kBf (by omega) ?_|refine kRa ?_|refine kRb ?_|refine VRead.fld ?_|refine VRead.load1 (by assumption) ?_|refine VRead.load (by assumption) ?_|refine kRf ?_|refine kRg ?_|refine kRh ?_|refine kRi ?_|refine kBe rfl ?_|refine kBc rfl ?_|refine kWa (by omega) (by omega) ?_|refine kWb (by omega) (by omega) ?_|refine kRj (by omega) ?_|refine kRk ?_|refine VSem.convI ?_|refine VRead.convI ?_|refine VRead.rem (by omega) (by decide) ?_|refine VRead.neg ?_|refine VC.seq ?_); (conv => whnf))))
  have hB14 : Below w.heap.size w w4 := (hB1.trans (hB3.mono hB1.size)).trans (hB4.mono (by have := hB1.size; have := hB3.size; omega))
  refine VW.block (VW.range rfl (by kernel_rfl) ?_)
  intro r w5 hr1 hr2 hr3 hr4 hr5 hA5 hB5 hD5 hL5 hS5
  have hJ0 : EndsJ l (.slice A n c) w r w4.heap.size g1 g4 gx 0 w5 :=
    ⟨(hb1'.later hB4).later hB5, (hb4'.later hB4).later hB5, hbx.later hB5, hD5, hL5, hB14.trans (hB5.mono hB14.size)⟩
  refine VCall.of (all1 _ ⟨gx, 0, none⟩ A n c l (EndsJ l (.slice A n c) w r w4.heap.size g1 g4 gx) (fun _ _ => False) w5 hn hnc hln (.inr ⟨_, rfl⟩) ?_ hJ0) ?_
  · refine ⟨fun k W hJ => ⟨?_, ?_⟩, fun k W W' hJ hb => hJ.later hb, fun k W hk hok hJ B v m hO => ?_⟩
    · rw [hJ.bx.cell 0]; rfl
    · exact (hr.below hJ.since).more hJ.since.size
    refine VYield.of hJ.ll hr1 hA5 (by rw [hr3, hr4, hr5]; kernel_rfl) ?_
    rw [hr3, hr4, hr5]
    have hs1 : g1 < w4.heap.size := by have := blk_lt hb1'; have := hB4.size; omega
    have hs4 : g4 < w4.heap.size := by have := blk_lt hb4'; have := hB4.size; omega
    have hsx : gx < w4.heap.size := blk_lt hbx
    have hs43 : g4 < w3.heap.size := blk_lt hb4'
    have hp := Frame.place_ok hok
    have hsW : w4.heap.size + 1 < W.heap.size := (Array.getElem?_eq_some_iff.1 hJ.ll).1
    ((conv => whnf); (repeat ((first|refine kLa ?_|refine kLb ?_|refine kCa rfl ?_|refine kCb ?_|refine kCc ?_|refine kCd ?_|refine kCe ?_|refine kCf ?_|refine kCg ?_|refine kCh ?_|refine kCi ?_|refine kCj ?_|refine kQa ?_|refine kQb ?_|refine kGa ?_|refine kGb ?_|refine kHa ?_|refine kHb ?_); (conv => whnf))))
    refine ⟨r, hJ.ll, hr1, ?_⟩
    obtain ⟨W2, hW2⟩ : ∃ W2, W2 = W.putObj (w4.heap.size + 1) (.loop { r with state := .busy }) := ⟨_, rfl⟩
    rw [← hW2]
    have k1 : Blk W2 g1 31 #[.slice A n c] := by rw [hW2]; exact hJ.b1.putObj (by omega) _
    have k4 : Blk W2 g4 3 #[.int .i64 (Frame.place l k)] := by rw [hW2]; exact hJ.b4.putObj (by omega) _
    have kx : Blk W2 gx 31 #[.slice A n c] := by rw [hW2]; exact hJ.bx.putObj (by omega) _
    have kd : W2.heap[w4.heap.size]? = some (.deferred (some [])) := by rw [hW2]; exact put_other hJ.dd (by omega)
    have kl : W2.heap[w4.heap.size + 1]? = some (.loop { r with state := .busy }) := by rw [hW2]; exact put_same hJ.ll
    have ks : Below w.heap.size w W2 := by rw [hW2]; exact Below.putObj hJ.since (by have := hB14.size; omega) _
    clear hW2
    ((conv => whnf); (repeat ((first|refine kLa ?_|refine kLb ?_|refine kCa rfl ?_|refine kCb ?_|refine kCc ?_|refine kCd ?_|refine kCe ?_|refine kCf ?_|refine kCg ?_|refine kCh ?_|refine kCi ?_|refine kCj ?_|refine kQa ?_|refine kQb ?_|refine kGa ?_|refine kGb ?_|refine kHa ?_|refine kHb ?_); (conv => whnf))))
    ((repeat ((first|refine kLa ?_|refine kLb ?_|refine kCa rfl ?_|refine kCb ?_|refine kCc ?_|refine kCd ?_|refine kCe ?_|refine kCf ?_|refine kCg ?_|refine kCh ?_|refine kCi ?_|refine kCj ?_|refine kQa ?_|refine kQb ?_|refine kGa ?_|refine kGb ?_|refine kHa ?_|refine kHb ?_|refine kPa ?_|refine kPb ?_|refine kPc ?_|refine kEa ?_|refine kEb ?_|refine kBa ?_|refine kBb ?_|refine kBc (by omega) ?_|refine kBd (by omega) ?_|refine kBe (by omega) ?_|refine kBf (by omega) ?_|refine kRa ?_|refine kRb ?_|refine VRead.fld ?_|refine VRead.load1 (by assumption) ?_|refine VRead.load (by assumption) ?_|refine kRf ?_|refine kRg ?_|refine kRh ?_|refine kRi ?_|refine kBe rfl ?_|refine kBc rfl ?_|refine kWa (by omega) (by omega) ?_|refine kWb (by omega) (by omega) ?_|refine kRj (by omega) ?_|refine kRk ?_|refine VSem.convI ?_|refine VRead.convI ?_|refine VRead.rem (by omega) (by decide) ?_|refine VRead.neg ?_|refine VC.seq ?_); (conv => whnf))))
    refine VRead.loadB k1 rfl rfl ?_
    ((conv => whnf); (repeat ((first|refine kLa ?_|refine kLb ?_|refine kCa rfl ?_|refine kCb ?_|refine kCc ?_|refine kCd ?_|refine kCe ?_|refine kCf ?_|refine kCg ?_|refine kCh ?_|refine kCi ?_|refine kCj ?_|refine kQa ?_|refine kQb ?_|refine kGa ?_|refine kGb ?_|refine kHa ?_|refine kHb ?_); (conv => whnf))))
    ((repeat ((first|refine kLa ?_|refine kLb ?_|refine kCa rfl ?_|refine kCb ?_|refine kCc ?_|refine kCd ?_|refine kCe ?_|refine kCf ?_|refine kCg ?_|refine kCh ?_|refine kCi ?_|refine kCj ?_|refine kQa ?_|refine kQb ?_|refine kGa ?_|refine kGb ?_|refine kHa ?_|refine kHb ?_|refine kPa ?_|refine kPb ?_|refine kPc ?_|refine kEa ?_|refine kEb ?_|refine kBa ?_|refine kBb ?_|refine kBc (by omega) ?_|refine kBd (by omega) ?_|refine kBe (by omega) ?_|refine kBf (by omega) ?_|refine kRa ?_|refine kRb ?_|refine VRead.fld ?_|refine VRead.load1 (by assumption) ?_|refine VRead.load (by assumption) ?_|refine kRf ?_|refine kRg ?_|refine kRh ?_|refine kRi ?_|refine kBe rfl ?_|refine kBc rfl ?_|refine kWa (by omega) (by omega) ?_|refine kWb (by omega) (by omega) ?_|refine kRj (by omega) ?_|refine kRk ?_|refine VSem.convI ?_|refine VRead.convI ?_|refine VRead.rem (by omega) (by decide) ?_|refine VRead.neg ?_|refine VC.seq ?_); (conv => whnf))))
    refine VCall.of (frGet_any A n c l (Frame.place l k) W2 hn hnc (by omega) ((hr.below ks).more ks.size)) ?_
    rintro e W3 ⟨A1, m1, c1, rfl, hO1, hB⟩
    refine ⟨_, rfl, ?_⟩
    have q1 := k1.later hB
    have q4 := k4.later hB
    have qx := kx.later hB
    have qd := obj_later kd hB
    have ql := obj_later kl hB
    have qs := ks.trans (hB.mono ks.size)
    ((conv => whnf); (repeat ((first|refine kLa ?_|refine kLb ?_|refine kCa rfl ?_|refine kCb ?_|refine kCc ?_|refine kCd ?_|refine kCe ?_|refine kCf ?_|refine kCg ?_|refine kCh ?_|refine kCi ?_|refine kCj ?_|refine kQa ?_|refine kQb ?_|refine kGa ?_|refine kGb ?_|refine kHa ?_|refine kHb ?_); (conv => whnf))))
    ((repeat ((first|refine kLa ?_|refine kLb ?_|refine kCa rfl ?_|refine kCb ?_|refine kCc ?_|refine kCd ?_|refine kCe ?_|refine kCf ?_|refine kCg ?_|refine kCh ?_|refine kCi ?_|refine kCj ?_|refine kQa ?_|refine kQb ?_|refine kGa ?_|refine kGb ?_|refine kHa ?_|refine kHb ?_|refine kPa ?_|refine kPb ?_|refine kPc ?_|refine kEa ?_|refine kEb ?_|refine kBa ?_|refine kBb ?_|refine kBc (by omega) ?_|refine kBd (by omega) ?_|refine kBe (by omega) ?_|refine kBf (by omega) ?_|refine kRa ?_|refine kRb ?_|refine VRead.fld ?_|refine VRead.load1 (by assumption) ?_|refine VRead.load (by assumption) ?_|refine kRf ?_|refine kRg ?_|refine kRh ?_|refine kRi ?_|refine kBe rfl ?_|refine kBc rfl ?_|refine kWa (by omega) (by omega) ?_|refine kWb (by omega) (by omega) ?_|refine kRj (by omega) ?_|refine kRk ?_|refine VSem.convI ?_|refine VRead.convI ?_|refine VRead.rem (by omega) (by decide) ?_|refine VRead.neg ?_|refine VC.seq ?_); (conv => whnf))))
    refine VUnit.storeB q4 rfl rfl rfl ?_
    intro W4 p4 hg
    ((conv => whnf); (repeat ((first|refine kLa ?_|refine kLb ?_|refine kCa rfl ?_|refine kCb ?_|refine kCc ?_|refine kCd ?_|refine kCe ?_|refine kCf ?_|refine kCg ?_|refine kCh ?_|refine kCi ?_|refine kCj ?_|refine kQa ?_|refine kQb ?_|refine kGa ?_|refine kGb ?_|refine kHa ?_|refine kHb ?_); (conv => whnf))))
    ((repeat ((first|refine kLa ?_|refine kLb ?_|refine kCa rfl ?_|refine kCb ?_|refine kCc ?_|refine kCd ?_|refine kCe ?_|refine kCf ?_|refine kCg ?_|refine kCh ?_|refine kCi ?_|refine kCj ?_|refine kQa ?_|refine kQb ?_|refine kGa ?_|refine kGb ?_|refine kHa ?_|refine kHb ?_|refine kPa ?_|refine kPb ?_|refine kPc ?_|refine kEa ?_|refine kEb ?_|refine kBa ?_|refine kBb ?_|refine kBc (by omega) ?_|refine kBd (by omega) ?_|refine kBe (by omega) ?_|refine kBf (by omega) ?_|refine kRa ?_|refine kRb ?_|refine VRead.fld ?_|refine VRead.load1 (by assumption) ?_|refine VRead.load (by assumption) ?_|refine kRf ?_|refine kRg ?_|refine kRh ?_|refine kRi ?_|refine kBe rfl ?_|refine kBc rfl ?_|refine kWa (by omega) (by omega) ?_|refine kWb (by omega) (by omega) ?_|refine kRj (by omega) ?_|refine kRk ?_|refine VSem.convI ?_|refine VRead.convI ?_|refine VRead.rem (by omega) (by decide) ?_|refine VRead.neg ?_|refine VC.seq ?_); (conv => whnf))))
    refine ⟨_, obj_only ql hg (by omega), .inl ⟨rfl, ?_⟩⟩
    have p1 := q1.only hg (by omega)
    have px := qx.only hg (by omega)
    have pd := obj_only qd hg (by omega)
    have pl := obj_only ql hg (by omega)
    have ps : Below w.heap.size w W4 := only_new qs hg (by omega) qs.size
    have er : (Loop.mk .ready none r.fn r.tmps r.params r.assign r.body r.defers) = r := by
      cases r; simp only at hr1 hr2; subst hr1 hr2; rfl
    have hsz := hB14.size
    refine ⟨p1.putObj (by omega) _, p4.putObj (by omega) _, px.putObj (by omega) _, put_other pd (by omega), ?_, Below.putObj ps (by omega) _⟩
    rw [put_same pl]
    exact congrArg (fun x => some (Obj.loop x)) er
  · rintro e W ⟨rfl, k, hk, hh⟩
    obtain ⟨hno, hJ⟩ := hh.resolve_right (fun h => h.2)
    refine ⟨_, rfl, r, hJ.ll, by rw [hr1]; decide, ?_⟩
    rw [hr2]
    have hs1 : g1 < w4.heap.size := by have := blk_lt hb1'; have := hB4.size; omega
    have hs4 : g4 < w4.heap.size := by have := blk_lt hb4'; have := hB4.size; omega
    have hsz := hB14.size
    have hp := Frame.place_le hk
    (conv => whnf)
    obtain ⟨W2, hW2⟩ : ∃ W2, W2 = W.putObj (w4.heap.size + 1) (.loop { r with state := .exhausted, pending := none }) := ⟨_, rfl⟩
    rw [← hW2]
    have k1 : Blk W2 g1 31 #[.slice A n c] := by rw [hW2]; exact hJ.b1.putObj (by omega) _
    have k4 : Blk W2 g4 3 #[.int .i64 (Frame.place l k)] := by rw [hW2]; exact hJ.b4.putObj (by omega) _
    have kd : W2.heap[w4.heap.size]? = some (.deferred (some [])) := by rw [hW2]; exact put_other hJ.dd (by omega)
    have ks : Below w.heap.size w W2 := by rw [hW2]; exact Below.putObj hJ.since (by omega) _
    clear hW2
    have hc1 : ∀ W, World.drewN W2 1 = W → W.cell? ⟨g1, 0, none⟩ = some (.slice A n c) := by rintro W rfl; exact k1.cell 0
    have hc4 : ∀ W, World.drewN W2 1 = W → W.cell? ⟨g4, 0, none⟩ = some (.int .i64 (Frame.place l k)) := by rintro W rfl; exact k4.cell 0
    refine VW.vc (by kernel_rfl) ?_
    ((conv => whnf); (repeat ((first|refine kLa ?_|refine kLb ?_|refine kCa rfl ?_|refine kCb ?_|refine kCc ?_|refine kCd ?_|refine kCe ?_|refine kCf ?_|refine kCg ?_|refine kCh ?_|refine kCi ?_|refine kCj ?_|refine kQa ?_|refine kQb ?_|refine kGa ?_|refine kGb ?_|refine kHa ?_|refine kHb ?_); (conv => whnf))))
    refine VC.seq ?_
    refine kCc ?_
    (refine VDraw.seg (Eq (World.drewN _ 1)) [] [0, 1, 2, 3, 4, 5, 6] (by kernel_rfl) (by kernel_rfl) rfl ?_; (conv => whnf))
    ((conv => whnf); (repeat ((first|refine kLa ?_|refine kLb ?_|refine kCa rfl ?_|refine kCb ?_|refine kCc ?_|refine kCd ?_|refine kCe ?_|refine kCf ?_|refine kCg ?_|refine kCh ?_|refine kCi ?_|refine kCj ?_|refine kQa ?_|refine kQb ?_|refine kGa ?_|refine kGb ?_|refine kHa ?_|refine kHb ?_); (conv => whnf))))
    ((repeat ((first|refine kLa ?_|refine kLb ?_|refine kCa rfl ?_|refine kCb ?_|refine kCc ?_|refine kCd ?_|refine kCe ?_|refine kCf ?_|refine kCg ?_|refine kCh ?_|refine kCi ?_|refine kCj ?_|refine kQa ?_|refine kQb ?_|refine kGa ?_|refine kGb ?_|refine kHa ?_|refine kHb ?_|refine kPa ?_|refine kPb ?_|refine kPc ?_|refine kEa ?_|refine kEb ?_|refine kBa ?_|refine kBb ?_|refine kBc (by omega) ?_|refine kBd (by omega) ?_|refine kBe (by omega) ?_|refine kBf (by omega) ?_|refine kRa ?_|refine kRb ?_|refine VRead.fld ?_|refine VRead.load1 (by assumption) ?_|refine VRead.load (by assumption) ?_|refine kRf ?_|refine kRg ?_|refine kRh ?_|refine kRi ?_|refine kBe rfl ?_|refine kBc rfl ?_|refine kWa (by omega) (by omega) ?_|refine kWb (by omega) (by omega) ?_|refine kRj (by omega) ?_|refine kRk ?_|refine VSem.convI ?_|refine VRead.convI ?_|refine VRead.rem (by omega) (by decide) ?_|refine VRead.neg ?_|refine VC.seq ?_); (conv => whnf))))
    refine ⟨kd, ?_⟩
    exact ⟨k, hk, hno, rfl, Below.putObj (below_drewN ks 1) (by omega) _⟩
end Go.Proofs.Ytebeidnmplnlpaa
end

section
set_option maxRecDepth 10000
namespace Go.Proofs.Ytebeidnmplnlpaa
set_option linter.unusedVariables false
open Go.RowKit

/-! ### small things -/
theorem Off.of_own {w : World} {U : Foot} {B n c : Nat} {A : Option Addr} {l : List UInt8} (h : Own w B (.slice A n c) n l) (hf : Free U (.slice A n c)) : Off U A n := fun h0 => by
  obtain ⟨ad, rfl, _, _⟩ := h.reads.2 h0
  exact ⟨ad, rfl, hf _ rfl⟩
theorem Off.take {U : Foot} {A : Option Addr} {n m : Nat} (h : Off U A n) (hm : m ≤ n) : Off U A m := fun h0 => h (by omega)
theorem Off.cutA {U : Foot} {A : Option Addr} {n c m : Nat} (h : Off U A n) (hm : m ≤ n) : Off U (Go.Proofs.Ytebeidnmplnlpaa.cutA A c m) (n - m) := fun h0 => by
  obtain ⟨ad, rfl, hu⟩ := h (by omega)
  unfold Go.Proofs.Ytebeidnmplnlpaa.cutA
  split
  · exact ⟨ad, rfl, hu⟩
  · refine ⟨_, rfl, ?_⟩
    have : (ad.add m).block = ad.block := by unfold Addr.add; split <;> rfl
    rw [this]; exact hu
theorem pInt_up {B : Nat} (A : Option Addr) (n c : Nat) (l : List UInt8) (v : Int) (w : World) (hB : B ≤ w.heap.size) (hn : n + 10 ≤ 140737488355328) (hnc : n ≤ c) (hv : -9223372036854775808 ≤ v ∧ v ≤ 9223372036854775807) (hrd : Reads w w.heap.size 1 A n (bv l)) :
    Calls Try.prog 49 #[.slice A n c, .int .i64 v] w fun e w' => ∃ A' m c', e = .returned (.slice A' m c') ∧ Own w' B (.slice A' m c') m (l ++ Wire.int v) ∧ m ≤ n + 10 ∧ n + 1 ≤ m ∧ m ≤ c' ∧ Below w.heap.size w w' := by
  refine (putInt_any A n c l v w hn hnc hv hrd).mono ?_
  rintro e w' ⟨A', m, c', rfl, h1, h2⟩
  have hl := h1.len
  have h3 := Wire.int_len v
  have h4 : l.length = n := by have := hrd.1; rw [bv_length] at this; omega
  rw [List.length_append] at hl
  exact ⟨A', m, c', rfl, rows_more h1 hB, by omega, by omega, h1.cap, h2⟩
def isPre (pre s : List UInt8) : Bool := decide (s.take pre.length = pre)
theorem hasPrefix_any (s pre : List UInt8) (w : World) (hs : s.length ≤ 9223372036854775807) (hp : pre.length ≤ 9223372036854775807) :
    Calls Try.prog 53 #[.string (txt s), .string (txt pre)] w fun e w' => e = .returned (.bool (isPre pre s)) ∧ w' = w := by
  have z1 : ByteArray.size (txt pre) = pre.length := txt_size _
  have z2 : ByteArray.size (txt s) = s.length := txt_size _
  have inner : Calls Try.prog 86 #[.string (txt s), .string (txt pre)] w fun e w' => e = .returned (.bool (isPre pre s)) ∧ w' = w := by
    refine calls_vc Try.func86 rfl (by kernel_rfl) ?_
    by_cases hl : pre.length ≤ s.length
    · ((conv => whnf); (repeat ((first|refine kLa ?_|refine kLb ?_|refine kCa rfl ?_|refine kCb ?_|refine kCc ?_|refine kCd ?_|refine kCe ?_|refine kCf ?_|refine kCg ?_|refine kCh ?_|refine kCi ?_|refine kCj ?_|refine kQa ?_|refine kQb ?_|refine kGa ?_|refine kGb ?_|refine kHa ?_|refine kHb ?_); (conv => whnf))))
      ((repeat ((first|refine kLa ?_|refine kLb ?_|refine kCa rfl ?_|refine kCb ?_|refine kCc ?_|refine kCd ?_|refine kCe ?_|refine kCf ?_|refine kCg ?_|refine kCh ?_|refine kCi ?_|refine kCj ?_|refine kQa ?_|refine kQb ?_|refine kGa ?_|refine kGb ?_|refine kHa ?_|refine kHb ?_|refine kPa ?_|refine kPb ?_|refine kPc ?_|refine kEa ?_|refine kEb ?_|refine kBa ?_|refine kBb ?_|refine kBc (by omega) ?_|refine kBd (by omega) ?_|refine kBe (by omega) ?_|refine kBf (by omega) ?_|refine kRa ?_|refine kRb ?_|refine VRead.fld ?_|refine VRead.load1 (by assumption) ?_|refine VRead.load (by assumption) ?_|refine kRf ?_|refine kRg ?_|refine kRh ?_|refine kRi ?_|refine kBe rfl ?_|refine kBc rfl ?_|refine kWa (by omega) (by omega) ?_|refine kWb (by omega) (by omega) ?_|refine kRj (by omega) ?_|refine kRk ?_|refine VSem.convI ?_|refine VRead.convI ?_|refine VRead.rem (by omega) (by decide) ?_|refine VRead.neg ?_|refine VC.seq ?_); (conv => whnf))))
      refine VRead.txtH pre.length (by omega) hl ?_
      ((conv => whnf); (repeat ((first|refine kLa ?_|refine kLb ?_|refine kCa rfl ?_|refine kCb ?_|refine kCc ?_|refine kCd ?_|refine kCe ?_|refine kCf ?_|refine kCg ?_|refine kCh ?_|refine kCi ?_|refine kCj ?_|refine kQa ?_|refine kQb ?_|refine kGa ?_|refine kGb ?_|refine kHa ?_|refine kHb ?_); (conv => whnf))))
      ((repeat ((first|refine kLa ?_|refine kLb ?_|refine kCa rfl ?_|refine kCb ?_|refine kCc ?_|refine kCd ?_|refine kCe ?_|refine kCf ?_|refine kCg ?_|refine kCh ?_|refine kCi ?_|refine kCj ?_|refine kQa ?_|refine kQb ?_|refine kGa ?_|refine kGb ?_|refine kHa ?_|refine kHb ?_|refine kPa ?_|refine kPb ?_|refine kPc ?_|refine kEa ?_|refine kEb ?_|refine kBa ?_|refine kBb ?_|refine kBc (by omega) ?_|refine kBd (by omega) ?_|refine kBe (by omega) ?_|refine kBf (by omega) ?_|refine kRa ?_|refine kRb ?_|refine VRead.fld ?_|refine VRead.load1 (by assumption) ?_|refine VRead.load (by assumption) ?_|refine kRf ?_|refine kRg ?_|refine kRh ?_|refine kRi ?_|refine kBe rfl ?_|refine kBc rfl ?_|refine kWa (by omega) (by omega) ?_|refine kWb (by omega) (by omega) ?_|refine kRj (by omega) ?_|refine kRk ?_|refine VSem.convI ?_|refine VRead.convI ?_|refine VRead.rem (by omega) (by decide) ?_|refine VRead.neg ?_|refine VC.seq ?_); (conv => whnf))))
      refine ⟨?_, rfl⟩
      show Ending.returned (.bool (decide (txt (s.take pre.length) = txt pre))) = _
      rw [txt_dec]
      rfl
    · have e : isPre pre s = false := by
        unfold isPre
        rw [decide_eq_false]
        intro h
        have := congrArg List.length h
        rw [List.length_take] at this
        omega
      rw [e]
      ((conv => whnf); (repeat ((first|refine kLa ?_|refine kLb ?_|refine kCa rfl ?_|refine kCb ?_|refine kCc ?_|refine kCd ?_|refine kCe ?_|refine kCf ?_|refine kCg ?_|refine kCh ?_|refine kCi ?_|refine kCj ?_|refine kQa ?_|refine kQb ?_|refine kGa ?_|refine kGb ?_|refine kHa ?_|refine kHb ?_); (conv => whnf))))
      ((repeat ((first|refine kLa ?_|refine kLb ?_|refine kCa rfl ?_|refine kCb ?_|refine kCc ?_|refine kCd ?_|refine kCe ?_|refine kCf ?_|refine kCg ?_|refine kCh ?_|refine kCi ?_|refine kCj ?_|refine kQa ?_|refine kQb ?_|refine kGa ?_|refine kGb ?_|refine kHa ?_|refine kHb ?_|refine kPa ?_|refine kPb ?_|refine kPc ?_|refine kEa ?_|refine kEb ?_|refine kBa ?_|refine kBb ?_|refine kBc (by omega) ?_|refine kBd (by omega) ?_|refine kBe (by omega) ?_|refine kBf (by omega) ?_|refine kRa ?_|refine kRb ?_|refine VRead.fld ?_|refine VRead.load1 (by assumption) ?_|refine VRead.load (by assumption) ?_|refine kRf ?_|refine kRg ?_|refine kRh ?_|refine kRi ?_|refine kBe rfl ?_|refine kBc rfl ?_|refine kWa (by omega) (by omega) ?_|refine kWb (by omega) (by omega) ?_|refine kRj (by omega) ?_|refine kRk ?_|refine VSem.convI ?_|refine VRead.convI ?_|refine VRead.rem (by omega) (by decide) ?_|refine VRead.neg ?_|refine VC.seq ?_); (conv => whnf))))
      exact ⟨rfl, rfl⟩
  refine calls_vc Try.func53 rfl (by kernel_rfl) ?_
  ((conv => whnf); (repeat ((first|refine kLa ?_|refine kLb ?_|refine kCa rfl ?_|refine kCb ?_|refine kCc ?_|refine kCd ?_|refine kCe ?_|refine kCf ?_|refine kCg ?_|refine kCh ?_|refine kCi ?_|refine kCj ?_|refine kQa ?_|refine kQb ?_|refine kGa ?_|refine kGb ?_|refine kHa ?_|refine kHb ?_); (conv => whnf))))
  ((repeat ((first|refine kLa ?_|refine kLb ?_|refine kCa rfl ?_|refine kCb ?_|refine kCc ?_|refine kCd ?_|refine kCe ?_|refine kCf ?_|refine kCg ?_|refine kCh ?_|refine kCi ?_|refine kCj ?_|refine kQa ?_|refine kQb ?_|refine kGa ?_|refine kGb ?_|refine kHa ?_|refine kHb ?_|refine kPa ?_|refine kPb ?_|refine kPc ?_|refine kEa ?_|refine kEb ?_|refine kBa ?_|refine kBb ?_|refine kBc (by omega) ?_|refine kBd (by omega) ?_|refine kBe (by omega) ?_|refine kBf (by omega) ?_|refine kRa ?_|refine kRb ?_|refine VRead.fld ?_|refine VRead.load1 (by assumption) ?_|refine VRead.load (by assumption) ?_|refine kRf ?_|refine kRg ?_|refine kRh ?_|refine kRi ?_|refine kBe rfl ?_|refine kBc rfl ?_|refine kWa (by omega) (by omega) ?_|refine kWb (by omega) (by omega) ?_|refine kRj (by omega) ?_|refine kRk ?_|refine VSem.convI ?_|refine VRead.convI ?_|refine VRead.rem (by omega) (by decide) ?_|refine VRead.neg ?_|refine VC.seq ?_); (conv => whnf))))
  refine VCall.of inner ?_
  rintro e w' ⟨rfl, rfl⟩
  refine ⟨_, rfl, ?_⟩
  ((conv => whnf); (repeat ((first|refine kLa ?_|refine kLb ?_|refine kCa rfl ?_|refine kCb ?_|refine kCc ?_|refine kCd ?_|refine kCe ?_|refine kCf ?_|refine kCg ?_|refine kCh ?_|refine kCi ?_|refine kCj ?_|refine kQa ?_|refine kQb ?_|refine kGa ?_|refine kGb ?_|refine kHa ?_|refine kHb ?_); (conv => whnf))))
  ((repeat ((first|refine kLa ?_|refine kLb ?_|refine kCa rfl ?_|refine kCb ?_|refine kCc ?_|refine kCd ?_|refine kCe ?_|refine kCf ?_|refine kCg ?_|refine kCh ?_|refine kCi ?_|refine kCj ?_|refine kQa ?_|refine kQb ?_|refine kGa ?_|refine kGb ?_|refine kHa ?_|refine kHb ?_|refine kPa ?_|refine kPb ?_|refine kPc ?_|refine kEa ?_|refine kEb ?_|refine kBa ?_|refine kBb ?_|refine kBc (by omega) ?_|refine kBd (by omega) ?_|refine kBe (by omega) ?_|refine kBf (by omega) ?_|refine kRa ?_|refine kRb ?_|refine VRead.fld ?_|refine VRead.load1 (by assumption) ?_|refine VRead.load (by assumption) ?_|refine kRf ?_|refine kRg ?_|refine kRh ?_|refine kRi ?_|refine kBe rfl ?_|refine kBc rfl ?_|refine kWa (by omega) (by omega) ?_|refine kWb (by omega) (by omega) ?_|refine kRj (by omega) ?_|refine kRk ?_|refine VSem.convI ?_|refine VRead.convI ?_|refine VRead.rem (by omega) (by decide) ?_|refine VRead.neg ?_|refine VC.seq ?_); (conv => whnf))))
  exact ⟨rfl, rfl⟩

/-! ### plain -/
def frN : List UInt8 := [115, 110, 97, 112, 45, 116, 109, 112]
def chunksN : Nat → List UInt8 → List (List UInt8)
  | 0, _ => []
  | n + 1, l => if l = [] then [] else l.take 1000 :: chunksN n (l.drop 1000)
theorem chunksN_fuel : ∀ (n m : Nat) (l : List UInt8), l.length ≤ n → l.length ≤ m → chunksN n l = chunksN m l
  | 0, 0, _, _, _ => rfl
  | 0, m + 1, l, h, _ => by
    obtain rfl : l = [] := List.eq_nil_of_length_eq_zero (by omega)
    simp [chunksN]
  | n + 1, 0, l, _, h => by
    obtain rfl : l = [] := List.eq_nil_of_length_eq_zero (by omega)
    simp [chunksN]
  | n + 1, m + 1, l, h1, h2 => by
    unfold chunksN
    by_cases h : l = []
    · rw [if_pos h, if_pos h]
    · have : 0 < l.length := List.length_pos_iff.2 h
      rw [if_neg h, if_neg h, chunksN_fuel n m (l.drop 1000) (by rw [List.length_drop]; omega) (by rw [List.length_drop]; omega)]
def chunks (l : List UInt8) : List (List UInt8) := chunksN l.length l
theorem chunks_nil : chunks [] = [] := rfl
theorem chunks_cons {l : List UInt8} (h : l ≠ []) : chunks l = l.take 1000 :: chunks (l.drop 1000) := by
  have h0 : 0 < l.length := List.length_pos_iff.2 h
  unfold chunks
  rw [chunksN_fuel l.length (l.length + 1) l (Nat.le_refl _) (by omega)]
  show (if l = [] then [] else l.take 1000 :: chunksN l.length (l.drop 1000)) = _
  rw [if_neg h, chunksN_fuel l.length (l.drop 1000).length (l.drop 1000) (by rw [List.length_drop]; omega) (Nat.le_refl _)]
def hdB (i t : Int) (n : Nat) : List UInt8 := Wire.int i ++ Wire.int t ++ Wire.int (n : Int)
/-- one thing after another, till one fails -/
def andT (A : Int × DS) (f : DS → Int × DS) : Int × DS := if A.1 = 0 then f A.2 else A
def DS.appends (S : DS) (nm : List UInt8) : List (List UInt8) → Int × DS
  | [] => (0, S)
  | b :: r => andT (S.append nm (Frame.put b)) fun S' => DS.appends S' nm r
def DS.clear (S : DS) (pre nm : List UInt8) : List (List UInt8) → Int × DS
  | [] => (0, S)
  | x :: r => if isPre pre x = true ∧ x ≠ nm then andT (S.remove x) fun S' => DS.clear S' pre nm r else DS.clear S pre nm r
def DS.keys (S : DS) : List (List UInt8) := S.t.map (·.1)
def svBad (i t : Int) (n : Nat) : Prop := snName i = [] ∨ t < 1 ∨ 1099511627776 < t ∨ n < 1 ∨ 1048576 < n
instance (i t : Int) (n : Nat) : Decidable (svBad i t n) := by unfold svBad; infer_instance
def DS.save (S : DS) (i t : Int) (data : List UInt8) : Int × DS :=
  if svBad i t data.length then (1, S) else
  andT (S.create frN) fun S1 => andT (S1.appends frN (hdB i t data.length :: chunks data)) fun S2 => andT (S2.sync frN) fun S3 =>
    andT (S3.rename frN (snName i)) fun S4 => S4.clear snPre (snName i) S4.keys
theorem andT_ok {A : Int × DS} {f : DS → Int × DS} (h : A.1 = 0) : andT A f = f A.2 := by unfold andT; rw [if_pos h]
theorem andT_no {A : Int × DS} {f : DS → Int × DS} (h : ¬ A.1 = 0) : andT A f = A := by unfold andT; rw [if_neg h]
end Go.Proofs.Ytebeidnmplnlpaa
end

section
set_option maxRecDepth 10000
namespace Go.Proofs.Ytebeidnmplnlpaa
set_option linter.unusedVariables false
open Go.RowKit

end Go.Proofs.Ytebeidnmplnlpaa
end

section
namespace Go.Proofs.Ytebeidnmplnlpaa.Frame
set_option linter.unusedVariables false

theorem stop_le {l : List UInt8} {k j : Nat} (hk : ∀ i, i < k → okAt l i) (hj : ¬ okAt l j) : k ≤ j := by
  rcases Nat.lt_or_ge j k with h | h
  · exact absurd (hk j h) hj
  · exact h
def laid (bs : List (List UInt8)) : List UInt8 := (bs.map put).flatten
def Good (bs : List (List UInt8)) : Prop := ∀ b ∈ bs, 1 ≤ b.length ∧ b.length ≤ 2000
def ends (bs : List (List UInt8)) : List Int := (List.range bs.length).map fun i => ((laid (bs.take (i + 1))).length : Int)
theorem laid_append (a b : List (List UInt8)) : laid (a ++ b) = laid a ++ laid b := by simp [laid]
theorem laid_one (b : List UInt8) : laid [b] = put b := by simp [laid]
theorem take_succ {α : Type} {l : List α} {i : Nat} {x : α} (h : l[i]? = some x) : l.take (i + 1) = l.take i ++ [x] := by
  rw [List.take_add_one, h]; rfl
theorem put_pos (b : List UInt8) : 5 ≤ (put b).length := by
  have := (Wire.int_len (b.length : Int)).1
  rw [put_len]; omega
theorem laid_split {bs : List (List UInt8)} {i : Nat} {b : List UInt8} (h : bs[i]? = some b) : laid bs = laid (bs.take i) ++ (put b ++ laid (bs.drop (i + 1))) := by
  have hlt := (List.getElem?_eq_some_iff.1 h).1
  have h2 := (List.getElem?_eq_some_iff.1 h).2
  have e : bs = bs.take i ++ (b :: bs.drop (i + 1)) := by
    rw [← h2, ← List.drop_eq_getElem_cons hlt, List.take_append_drop]
  calc laid bs = laid (bs.take i ++ (b :: bs.drop (i + 1))) := by rw [← e]
    _ = _ := by rw [laid_append]; rfl
theorem get_mid {p b r : List UInt8} (h1 : 1 ≤ b.length) (h2 : b.length ≤ 1048576) : get (p ++ (put b ++ r)) (p.length : Int) = (b, (p.length : Int) + (put b).length, 0) := by
  have h5 := put_pos b
  unfold get
  rw [if_neg (by simp only [List.length_append]; omega), if_neg (by simp only [List.length_append]; omega), Int.toNat_natCast, List.drop_left' rfl, first_put r h1 h2]
theorem get_stop {p t : List UInt8} (h : first t = none) : (get (p ++ t) (p.length : Int)).2.2 ≠ 0 := by
  unfold get
  rw [if_neg (by simp only [List.length_append]; omega)]
  split
  · decide
  · rw [Int.toNat_natCast, List.drop_left' rfl, h]; exact (by decide : (4 : Int) ≠ 0)
section
variable {l t : List UInt8} {bs : List (List UInt8)} (e : l = laid bs ++ t) (hg : Good bs)
include e hg
end
end Go.Proofs.Ytebeidnmplnlpaa.Frame
end

section
namespace Go.Proofs.Ytebeidnmplnlpaa.Frame
set_option linter.unusedVariables false
open Go.RowKit

def Ok1 (bs : List (List UInt8)) : Prop := ∀ b ∈ bs, 1 ≤ b.length ∧ b.length ≤ 1048576
def parse : Nat → List UInt8 → List (List UInt8) × List UInt8
  | 0, l => ([], l)
  | n + 1, l => match first l with
    | none => ([], l)
    | some (b, r) => (b :: (parse n r).1, (parse n r).2)
def bodies (l : List UInt8) : List (List UInt8) := (parse l.length l).1
def rest (l : List UInt8) : List UInt8 := (parse l.length l).2
theorem laid_cons (b : List UInt8) (bs : List (List UInt8)) : laid (b :: bs) = put b ++ laid bs := by simp [laid]
theorem laid_nil : laid [] = [] := rfl
theorem parse_spec : ∀ (n : Nat) (l : List UInt8), l.length ≤ n → l = laid (parse n l).1 ++ (parse n l).2 ∧ first (parse n l).2 = none ∧ Ok1 (parse n l).1
  | 0, l, h => by
    obtain rfl : l = [] := List.eq_nil_of_length_eq_zero (by omega)
    exact ⟨rfl, first_nil, fun b hb => by simp [parse] at hb⟩
  | n + 1, l, h => by
    unfold parse
    cases hf : first l with
    | none => exact ⟨rfl, hf, fun b hb => by simp at hb⟩
    | some p =>
      obtain ⟨b, r⟩ := p
      obtain ⟨e, h1, h2⟩ := first_some hf
      have hp := put_pos b
      have hl := congrArg List.length e
      rw [List.length_append] at hl
      obtain ⟨i1, i2, i3⟩ := parse_spec n r (by omega)
      refine ⟨?_, i2, fun x hx => ?_⟩
      · simp only
        rw [laid_cons, List.append_assoc, ← i1]
        exact e
      · rcases List.mem_cons.1 hx with rfl | hx
        · exact ⟨h1, h2⟩
        · exact i3 x hx
theorem bodies_spec (l : List UInt8) : l = laid (bodies l) ++ rest l ∧ first (rest l) = none ∧ Ok1 (bodies l) := parse_spec l.length l (Nat.le_refl _)
theorem parse_laid : ∀ (bs : List (List UInt8)) (t : List UInt8) (n : Nat), Ok1 bs → first t = none → (laid bs ++ t).length ≤ n → parse n (laid bs ++ t) = (bs, t)
  | [], t, 0, _, ht, h => rfl
  | [], t, n + 1, _, ht, h => by
    unfold parse
    rw [laid_nil, List.nil_append, ht]
  | b :: bs, t, 0, hb, ht, h => by
    have := put_pos b
    rw [laid_cons] at h
    simp only [List.length_append] at h
    omega
  | b :: bs, t, n + 1, hb, ht, h => by
    have hp := put_pos b
    have hbb := hb b (by simp)
    rw [laid_cons, List.append_assoc] at h ⊢
    unfold parse
    rw [first_put _ hbb.1 hbb.2]
    simp only
    rw [parse_laid bs t n (fun x hx => hb x (List.mem_cons_of_mem _ hx)) ht (by rw [List.length_append] at h; omega)]
theorem bodies_laid {bs : List (List UInt8)} {t : List UInt8} (hb : Ok1 bs) (ht : first t = none) : bodies (laid bs ++ t) = bs ∧ rest (laid bs ++ t) = t := by
  unfold bodies rest
  rw [parse_laid bs t _ hb ht (Nat.le_refl _)]
  exact ⟨rfl, rfl⟩
theorem bodies_all {bs : List (List UInt8)} (hb : Ok1 bs) : bodies (laid bs) = bs ∧ rest (laid bs) = [] := by
  have := bodies_laid hb first_nil
  rwa [List.append_nil] at this
section
variable {l t : List UInt8} {bs : List (List UInt8)} (e : l = laid bs ++ t) (hg : Ok1 bs)
include e hg
theorem each_get {i : Nat} {b : List UInt8} (h : bs[i]? = some b) : get l ((laid (bs.take i)).length : Int) = (b, ((laid (bs.take (i + 1))).length : Int), 0) := by
  have hb := hg b (List.mem_of_getElem? h)
  rw [e, laid_split h, List.append_assoc, List.append_assoc, get_mid hb.1 hb.2, take_succ h, laid_append, laid_one, List.length_append]
  simp
theorem each_place : ∀ i, i ≤ bs.length → place l i = ((laid (bs.take i)).length : Int)
  | 0, _ => by simp [laid, place]
  | i + 1, h => by
    obtain ⟨b, hb⟩ : ∃ b, bs[i]? = some b := ⟨_, List.getElem?_eq_getElem (by omega)⟩
    have e1 : place l (i + 1) = (get l (place l i)).2.1 := rfl
    rw [e1, each_place i (by omega), each_get e hg hb]
theorem each_ok {i : Nat} (h : i < bs.length) : okAt l i := by
  obtain ⟨b, hb⟩ : ∃ b, bs[i]? = some b := ⟨_, List.getElem?_eq_getElem (by omega)⟩
  show (get l (place l i)).2.2 = 0
  rw [each_place e hg i (by omega), each_get e hg hb]
theorem each_body {i : Nat} {b : List UInt8} (h : bs[i]? = some b) : body l i = b := by
  have hlt := (List.getElem?_eq_some_iff.1 h).1
  show (get l (place l i)).1 = b
  rw [each_place e hg i (by omega), each_get e hg h]
theorem each_no (ht : first t = none) : ¬ okAt l bs.length := by
  show ¬ (get l (place l bs.length)).2.2 = 0
  rw [each_place e hg _ (Nat.le_refl _), List.take_of_length_le (Nat.le_refl _), e]
  exact get_stop ht
end
/-- how far the frames go -/
theorem reach_le {l : List UInt8} {k : Nat} (hk : ∀ i, i < k → okAt l i) : k ≤ (bodies l).length := by
  obtain ⟨e, ht, hg⟩ := bodies_spec l
  exact stop_le hk (each_no e hg ht)
theorem reach_eq {l : List UInt8} {k : Nat} (hk : ∀ i, i < k → okAt l i) (hno : ¬ okAt l k) : k = (bodies l).length := by
  obtain ⟨e, ht, hg⟩ := bodies_spec l
  have h1 := reach_le hk
  by_cases h : k = (bodies l).length
  · exact h
  · exact absurd (each_ok e hg (by omega)) hno
theorem whole_iff {l : List UInt8} : place l (bodies l).length = (l.length : Int) ↔ rest l = [] := by
  obtain ⟨e, ht, hg⟩ := bodies_spec l
  rw [each_place e hg _ (Nat.le_refl _), List.take_of_length_le (Nat.le_refl _)]
  have hl := congrArg List.length e
  rw [List.length_append] at hl
  constructor
  · intro h
    exact List.eq_nil_of_length_eq_zero (by omega)
  · intro h
    rw [h] at hl
    simp at hl
    omega
theorem body_at {l : List UInt8} {i : Nat} {b : List UInt8} (h : (bodies l)[i]? = some b) : body l i = b := by
  obtain ⟨e, ht, hg⟩ := bodies_spec l
  exact each_body e hg h
theorem body_ok {l : List UInt8} {i : Nat} {b : List UInt8} (h : (bodies l)[i]? = some b) : 1 ≤ b.length ∧ b.length ≤ 1048576 := (bodies_spec l).2.2 b (List.mem_of_getElem? h)
theorem place_at {l : List UInt8} {i : Nat} (h : i ≤ (bodies l).length) : place l i = ((laid ((bodies l).take i)).length : Int) := by
  obtain ⟨e, ht, hg⟩ := bodies_spec l
  exact each_place e hg i h
theorem place_zero {l : List UInt8} {i : Nat} (h : i < (bodies l).length) : (place l i = 0) ↔ i = 0 := by
  rw [place_at (by omega)]
  constructor
  · intro h0
    cases i with
    | zero => rfl
    | succ i =>
      obtain ⟨b, hb⟩ : ∃ b, (bodies l)[i]? = some b := ⟨_, List.getElem?_eq_getElem (by omega)⟩
      rw [take_succ hb, laid_append, laid_one, List.length_append] at h0
      have := put_pos b
      omega
  · rintro rfl; simp [laid]
end Go.Proofs.Ytebeidnmplnlpaa.Frame
end

section
set_option maxRecDepth 10000
namespace Go.Proofs.Ytebeidnmplnlpaa
set_option linter.unusedVariables false
open Go.RowKit

/-! ### a block without bytes -/
def notU8 : Value → Bool
  | .int .u8 _ => false
  | _ => true
theorem Reads.apartC {T : TypeId} {w w' : World} {k B n : Nat} {A : Option Addr} {cs : Array Value} {l : List UInt8} (h : Reads w B 1 A n (bv l)) (hk : Blk w k T cs) (hcs : cs.toList.all notU8 = true)
    (hb : w.grownBy w' (some k)) (hB : B ≤ w.heap.size) : Reads w' B 1 A n (bv l) := by
  refine ⟨h.1, fun hn => ?_⟩
  obtain ⟨ad, e, hlt, hc⟩ := h.2 hn
  have hl := h.1
  rw [bv_length] at hl
  have hne : ad.block ≠ k := by
    intro he
    obtain ⟨x, l', rfl⟩ : ∃ x l', l = x :: l' := by
      cases l with
      | nil => simp at hl; omega
      | cons x l' => exact ⟨x, l', rfl⟩
    have h0 := hc 0 (.int .u8 (x.toNat : Int)) (by simp [bv])
    rw [show ad.add 0 = ad from by simp [Addr.add]] at h0
    unfold World.cell? at h0
    rw [he] at h0
    unfold Blk at hk
    rw [hk] at h0
    simp only at h0
    split at h0
    · cases h0
    · have hm : (Value.int .u8 (x.toNat : Int)) ∈ cs.toList := by
        rw [← Array.getElem?_toList] at h0
        exact List.mem_of_getElem? h0
      have := List.all_eq_true.1 hcs _ hm
      cases this
  exact ⟨ad, e, hlt, fun j u hu => (World.cell?_of_block (hb.block _ (by rw [block_of_add]; omega) (by rw [block_of_add]; intro e; injection e with e; exact hne e))).trans (hc j u hu)⟩
theorem RS.apartC {T T' : TypeId} {w w' : World} {g k : Nat} {cs : Array Value} {s : Option (List UInt8)} (h : RS T w g s) (hk : Blk w k T' cs) (hcs : cs.toList.all notU8 = true) (hb : w.grownBy w' (some k)) (hne : g ≠ k) : RS T w' g s := by
  have hlt := h.lt
  obtain ⟨l, p, bad, ⟨A, n, c, h1, h2, h3⟩, h4⟩ := h
  exact ⟨l, p, bad, ⟨A, n, c, h1.grown hb (fun e => by injection e with e; exact hne e), h2.apartC hk hcs hb (by omega), h3⟩, h4⟩
end Go.Proofs.Ytebeidnmplnlpaa
end

section
set_option maxRecDepth 10000
namespace Go.Proofs.Ytebeidnmplnlpaa
set_option linter.unusedVariables false
open Go.RowKit

/-! ### plain -/
def hA (h : List UInt8) : Int := (Wire.intS (some h)).1
def hT (h : List UInt8) : Int := (Wire.intS (Wire.intS (some h)).2).1
def hN (h : List UInt8) : Int := (Wire.intS (Wire.intS (Wire.intS (some h)).2).2).1
def hE (h : List UInt8) : Bool := Wire.endS (Wire.intS (Wire.intS (Wire.intS (some h)).2).2).2
structure HdOk (h : List UInt8) (idx : Int) : Prop where
  e : hE h = true
  a : hA h = idx
  t1 : 1 ≤ hT h
  t2 : hT h ≤ 1099511627776
  n1 : 1 ≤ hN h
  n2 : hN h ≤ 1048576
instance (h : List UInt8) (idx : Int) : Decidable (HdOk h idx) :=
  decidable_of_iff (hE h = true ∧ hA h = idx ∧ 1 ≤ hT h ∧ hT h ≤ 1099511627776 ∧ 1 ≤ hN h ∧ hN h ≤ 1048576) ⟨fun ⟨a, b, c, d, e, f⟩ => ⟨a, b, c, d, e, f⟩, fun h => ⟨h.e, h.a, h.t1, h.t2, h.n1, h.n2⟩⟩
def gather (n : Int) : List UInt8 → List (List UInt8) → Option (List UInt8)
  | acc, [] => some acc
  | acc, b :: r => if (b.length : Int) = min 1000 (n - acc.length) then gather n (acc ++ b) r else none
theorem own_form {w : World} {B n : Nat} {v : Value} {l : List UInt8} (h : Own w B v n l) : ∃ A c, v = .slice A n c := by
  rcases h.2 with ⟨rfl, e0⟩ | ⟨g, cap, cur, e1, _⟩
  · exact ⟨none, 0, by rw [e0]⟩
  · exact ⟨_, _, e1⟩
/-- what stays while the frames are read -/
structure RdFix (v : Value) (w : World) (D : Nat) (o : Obj) (idx : Int) (g3 g4 g5 g6 gx : Nat) (W : World) : Prop where
  b3 : Blk W g3 3 #[.int .i64 idx]
  b4 : Blk W g4 3 #[.int .i64 0]
  b5 : Blk W g5 31 #[.slice none 0 0]
  b6 : Blk W g6 4 #[.bool false]
  bx : Blk W gx 31 #[v]
  dd : W.heap[D]? = some (.deferred (some []))
  ll : W.heap[D + 1]? = some o
  since : Below w.heap.size w W
section
variable {v : Value} {w W W' : World} {D : Nat} {o o' : Obj} {idx : Int} {g3 g4 g5 g6 gx g : Nat}
theorem RdFix.later (h : RdFix v w D o idx g3 g4 g5 g6 gx W) (hb : Below W.heap.size W W') : RdFix v w D o idx g3 g4 g5 g6 gx W' :=
  ⟨h.b3.later hb, h.b4.later hb, h.b5.later hb, h.b6.later hb, h.bx.later hb, obj_later h.dd hb, obj_later h.ll hb, h.since.trans (hb.mono h.since.size)⟩
theorem RdFix.only (h : RdFix v w D o idx g3 g4 g5 g6 gx W) (hg : W.grownBy W' (some g)) (h3 : g3 ≠ g) (h4 : g4 ≠ g) (h5 : g5 ≠ g) (h6 : g6 ≠ g) (hx : gx ≠ g) (hd : D ≠ g) (hl : D + 1 ≠ g) (hw : w.heap.size ≤ g) : RdFix v w D o idx g3 g4 g5 g6 gx W' :=
  ⟨h.b3.only hg h3, h.b4.only hg h4, h.b5.only hg h5, h.b6.only hg h6, h.bx.only hg hx, obj_only h.dd hg hd, obj_only h.ll hg hl, only_new h.since hg hw h.since.size⟩
theorem RdFix.loop (h : RdFix v w D o idx g3 g4 g5 g6 gx W) (h3 : g3 < D) (h4 : g4 < D) (h5 : g5 < D) (h6 : g6 < D) (hx : gx < D) (hw : w.heap.size ≤ D) : RdFix v w D o' idx g3 g4 g5 g6 gx (W.putObj (D + 1) o') :=
  ⟨h.b3.putObj (by omega) _, h.b4.putObj (by omega) _, h.b5.putObj (by omega) _, h.b6.putObj (by omega) _, h.bx.putObj (by omega) _, put_other h.dd (by omega), put_same h.ll, Below.putObj h.since (by omega) _⟩
theorem Own.loop {r : Loop} {B n : Nat} {u : Value} {l : List UInt8} (h : Own W B u n l) (hl : W.heap[D]? = some (.loop r)) (o : Obj) : Own (W.putObj D o) B u n l :=
  ownsRow_stay h (fun g hg => by
    obtain ⟨cs, hc⟩ := (row_cells h g hg).2
    refine World.putObj_heap_other (fun e => ?_)
    subst e
    rw [hl] at hc; cases hc)
end
/-- what the frames have said so far -/
def RdAcc (bs : List (List UInt8)) (idx : Int) (D g9 g10 g11 g12 : Nat) (k : Nat) (W : World) : Prop :=
  (k = 0 ∧ Blk W g9 3 #[.int .i64 0] ∧ Blk W g10 3 #[.int .i64 0] ∧ Blk W g11 3 #[.int .i64 0] ∧ Blk W g12 31 #[.slice none 0 0]) ∨
  (∃ h cs, bs = h :: cs ∧ 1 ≤ k ∧ HdOk h idx ∧ Blk W g9 3 #[.int .i64 (hA h)] ∧ Blk W g10 3 #[.int .i64 (hT h)] ∧ Blk W g11 3 #[.int .i64 (hN h)] ∧
    ∃ Ad cd acc, Blk W g12 31 #[.slice Ad acc.length cd] ∧ Own W D (.slice Ad acc.length cd) acc.length acc ∧ gather (hN h) [] (cs.take (k - 1)) = some acc)
theorem RdAcc.later {bs : List (List UInt8)} {idx : Int} {D g9 g10 g11 g12 k : Nat} {W W' : World} (h : RdAcc bs idx D g9 g10 g11 g12 k W) (hb : Below W.heap.size W W') : RdAcc bs idx D g9 g10 g11 g12 k W' := by
  rcases h with ⟨h0, h1, h2, h3, h4⟩ | ⟨h, cs, e1, e2, e3, h1, h2, h3, Ad, cd, acc, h4, h5, h6⟩
  · exact .inl ⟨h0, h1.later hb, h2.later hb, h3.later hb, h4.later hb⟩
  · exact .inr ⟨h, cs, e1, e2, e3, h1.later hb, h2.later hb, h3.later hb, Ad, cd, acc, h4.later hb, rows_below h5 hb (Nat.le_refl _), h6⟩
theorem RdAcc.loop {bs : List (List UInt8)} {idx : Int} {D g9 g10 g11 g12 k : Nat} {W : World} {r : Loop} (h : RdAcc bs idx D g9 g10 g11 g12 k W) (hl : W.heap[D + 1]? = some (.loop r)) (h9 : g9 < D) (h10 : g10 < D) (h11 : g11 < D) (h12 : g12 < D) (o : Obj) : RdAcc bs idx D g9 g10 g11 g12 k (W.putObj (D + 1) o) := by
  rcases h with ⟨h0, h1, h2, h3, h4⟩ | ⟨h, cs, e1, e2, e3, h1, h2, h3, Ad, cd, acc, h4, h5, h6⟩
  · exact .inl ⟨h0, h1.putObj (by omega) _, h2.putObj (by omega) _, h3.putObj (by omega) _, h4.putObj (by omega) _⟩
  · exact .inr ⟨h, cs, e1, e2, e3, h1.putObj (by omega) _, h2.putObj (by omega) _, h3.putObj (by omega) _, Ad, cd, acc, h4.putObj (by omega) _, h5.loop hl o, h6⟩
end Go.Proofs.Ytebeidnmplnlpaa
end

section
set_option maxRecDepth 10000
namespace Go.Proofs.Ytebeidnmplnlpaa
set_option linter.unusedVariables false
open Go.RowKit

section
variable {U : Foot} {r c : Nat} {A : Option Addr} {xs : List Value} {K : Dk} {T : PT}
end
end Go.Proofs.Ytebeidnmplnlpaa
end

section
namespace Go.Proofs.Ytebeidnmplnlpaa
set_option linter.unusedVariables false
open Go.ChangeShapes Go.WideShapes Go.ChangeAt Go.RowKit
open Go.Deep (open_bools boolRow)

def InInts (w : World) (A : Option Addr) (n c : Nat) (l : List Int) : Prop :=
  Reads w w.heap.size 1 A n (iv .i64 l) ∧ n ≤ c ∧ c ≤ 17592186043904 ∧ ∀ x ∈ l, -9223372036854775808 ≤ x ∧ x ≤ 9223372036854775807
theorem row_block {x : Addr} {n : Nat} {W : World} (hn : 0 < n) {q : List MemPlace} (h : ∀ y ∈ MemPlace.row x n ++ q, y.block < W.heap.size) : x.block < W.heap.size :=
  h (.cell x.block x.off) (by
    rw [List.mem_append]; left
    unfold MemPlace.row
    rw [List.mem_map]
    exact ⟨0, by simp; omega, by simp⟩)
theorem Reads.of_cells0 {W : World} {x : Addr} {n m : Nat} {xs : List Value} {q : List MemPlace} (hl : xs.length = n) (hnm : n ≤ m) (hb : ∀ y ∈ MemPlace.row x m ++ q, y.block < W.heap.size) (h : ∀ j u, xs[j]? = some u → W.cell? (x.add j) = some u) : Reads W W.heap.size 1 (some x) n xs :=
  ⟨by omega, fun hn => ⟨x, rfl, row_block (by omega) hb, h⟩⟩

section
variable {H : Type} {enc : TypeId × Value → H} {P : Program}
theorem in_ints {t e : TypeId} (ht : P.underlying t = some (.slice e)) (he : P.underlying e = some (.int .i64)) (hc : P.cellsOf e = 1) (hby : P.bytesOf e = 8)
    {W : World} {A : Option Addr} {n c : Nat} {d : DataW H} {p : List MemPlace} (h : DataW.Trod enc P W 0 (fun _ => true) true t (.slice A n c) d p)
    {ts : List TypeId} {ds : List (DataW H)} (hsz : (DataW.weightsEach P ts ds).all (· ≤ reachBytes) = true) {j : Nat} (hj : ts[j]? = some t) (hd : ds[j]? = some d) :
    ∃ l, InInts W A n c l ∧ n + 1 ≤ Rows.uptoBulk d := by
  have hlt : ∀ x ∈ p, x.block < W.heap.size := by obtain ⟨m, hm⟩ := h; exact DataW.trod_lt m _ _ _ hm
  obtain ⟨fuel, hf⟩ := h
  rcases open_ints ht he hc hf with ⟨hcs, hx⟩ | ⟨x, l, c', zs, hcs, _, hl, hm, hz, hx, hcell, hwz⟩
  · simp [Value.cells] at hcs
    obtain ⟨rfl, rfl, rfl⟩ := hcs
    simp only [Prod.mk.injEq] at hx
    obtain ⟨rfl, rfl⟩ := hx
    exact ⟨[], ⟨Reads.none_, Nat.le_refl _, by omega, fun x hx => by cases hx⟩, by simp [Rows.uptoBulk]⟩
  · simp [Value.cells] at hcs
    obtain ⟨rfl, rfl, rfl⟩ := hcs
    simp only [if_true] at hz
    simp only [Prod.mk.injEq] at hx
    obtain ⟨rfl, rfl⟩ := hx
    have hreach := sized_slice hsz hj hd ht
    simp [lits, hby, reachBytes] at hreach
    refine ⟨zs.take n, ⟨Reads.of_cells0 (q := []) (by simp [iv]; omega) (by omega : n ≤ zs.length) (by simpa using hlt) ?_, hl, by omega, fun y hy => ?_⟩, ?_⟩
    · intro i u hu
      unfold iv at hu
      rw [List.getElem?_map, Option.map_eq_some_iff] at hu
      obtain ⟨y, hy, rfl⟩ := hu
      have hi : i < n := by have := (List.getElem?_eq_some_iff.1 hy).1; simp at this; omega
      rw [List.getElem?_take_of_lt hi] at hy
      rw [hcell i (by omega)]
      simp [List.getD, hy]
    · exact int_bounds (hwz y (List.mem_of_mem_take hy))
    · have e1 := bulk_slice (H := H) (lits .i64 (zs.take n)) (lits .i64 (zs.drop n))
      simp [lits] at e1
      simp [lits]
      omega

end
end Go.Proofs.Ytebeidnmplnlpaa
end

section
set_option maxRecDepth 10000
namespace Go.Proofs.Ytebeidnmplnlpaa
set_option linter.unusedVariables false
open Go.ChangeShapes Go.WideShapes Go.ChangeAt Go.RowKit

structure Op17 where
  kind : Int
  a : Int
  b : Int
  n : Int
  data : List UInt8
  picks : List Int
instance : Inhabited Op17 := ⟨⟨0, 0, 0, 0, [], []⟩⟩
def i64 (z : Int) : Prop := -9223372036854775808 ≤ z ∧ z ≤ 9223372036854775807
structure Op17.Ok (W : World) (B : Nat) (o : Op17) (Ad : Option Addr) (m k : Nat) (Ap : Option Addr) (mp kp : Nat) : Prop where
  kind : i64 o.kind
  a : i64 o.a
  b : i64 o.b
  n : i64 o.n
  le : m ≤ k
  k : k ≤ 140737488351232
  data : Reads W B 1 Ad m (bv o.data)
  lep : mp ≤ kp
  kp : kp ≤ 17592186043904
  picks : Reads W B 1 Ap mp (iv .i64 o.picks)
  each : ∀ x ∈ o.picks, i64 x
def opC (o : Op17) (Ad : Option Addr) (m k : Nat) (Ap : Option Addr) (mp kp : Nat) : Array Value := #[.int .i64 o.kind, .int .i64 o.a, .int .i64 o.b, .int .i64 o.n, .slice Ad m k, .slice Ap mp kp]
def OpsAt (W : World) (B : Nat) (A : Option Addr) (n : Nat) (ops : List Op17) : Prop :=
  ops.length = n ∧ (0 < n → ∃ x, A = some x ∧ x.block < B ∧ ∀ i o, ops[i]? = some o → ∃ Ad m k Ap mp kp, (∀ j u, (opC o Ad m k Ap mp kp).toList[j]? = some u → W.cell? (x.add (6 * i + j)) = some u) ∧ o.Ok W B Ad m k Ap mp kp)
section
variable {H : Type} {enc : TypeId × Value → H}
end
theorem add_blk (x : Addr) (j : Nat) : (x.add j).block = x.block := by unfold Addr.add; split <;> rfl
theorem OpsAt.len {W : World} {B n : Nat} {A : Option Addr} {ops : List Op17} (h : OpsAt W B A n ops) : ops.length = n := h.1
theorem Op17.Ok.below {W W' : World} {B C : Nat} {o : Op17} {Ad Ap : Option Addr} {m k mp kp : Nat} (h : o.Ok W B Ad m k Ap mp kp) (hb : Below B W W') : o.Ok W' B Ad m k Ap mp kp :=
  ⟨h.kind, h.a, h.b, h.n, h.le, h.k, h.data.below hb, h.lep, h.kp, h.picks.below hb, h.each⟩
/-- an operation of a number, in all later worlds -/
theorem OpsAt.later {W : World} {B i n : Nat} {A : Option Addr} {ops : List Op17} {o : Op17} (h : OpsAt W B A n ops) (ho : ops[i]? = some o) :
    ∃ x Ad m k Ap mp kp, A = some x ∧ ∀ W', Below B W W' → (∀ j u, (opC o Ad m k Ap mp kp).toList[j]? = some u → W'.cell? ((x.add (i * 6)).add j) = some u) ∧ o.Ok W' B Ad m k Ap mp kp := by
  have hi := (List.getElem?_eq_some_iff.1 ho).1
  have h1 := h.1
  obtain ⟨x, hA, hx, h3⟩ := h.2 (by omega)
  obtain ⟨Ad, m, k, Ap, mp, kp, e1, e2⟩ := h3 i o ho
  refine ⟨x, Ad, m, k, Ap, mp, kp, hA, fun W' hb => ⟨fun j u hu => ?_, e2.below (C := 0) hb⟩⟩
  rw [hb.cell (by rw [add_blk, add_blk]; exact hx), Deep.add_add, Nat.mul_comm i 6]
  exact e1 j u hu
end Go.Proofs.Ytebeidnmplnlpaa
end

section
set_option maxRecDepth 10000
namespace Go.Proofs.Ytebeidnmplnlpaa
set_option linter.unusedVariables false
open Go.RowKit

section
variable {U : Foot} {r c : Nat} {A : Option Addr} {xs : List Value} {K : Dk} {T : PT}
end
end Go.Proofs.Ytebeidnmplnlpaa
end

section
set_option maxRecDepth 10000
namespace Go.Proofs.Ytebeidnmplnlpaa
set_option linter.unusedVariables false
open Go.RowKit

/-! ### rules -/
def cutK (A : Option Addr) (c z k : Nat) : Option Addr := if c = z then A else A.map (·.add (z * k))
theorem VRead.cutKH {P : Program} {S : World → Prop} {t e k : Nat} {A : Option Addr} {n c : Nat} {Z : Int} {kk : IntKind} {K : Value → Prop} [i : TSlice P t e k] (z : Nat) (hz : Z = (z : Int)) (h : z ≤ c) (hk : K (.slice A z c)) :
    VRead P S (Instr.sliceAt t (.slice A n c) none (some (.int kk Z)) none) K := by
  subst hz
  exact .ofW (fun W => by
    rw [run_sliceAt_slice W t _ _ _ _ (elem_of i.u), run_slice_h W t A n c (elem_of i.u) kk _ (by omega) (by omega), show P.elem t = e from by unfold Program.elem; rw [i.u], run_size i.s]
    have h0 : A.map (fun x : Addr => x.add 0) = A := by cases A <;> simp [Addr.add]
    simp [sliced, h0]) hk
/-! ### the row turns -/
section
variable {W W' : World} {U : Foot} {r n c c' : Nat} {A A' : Option Addr} {xs xs' : List Value} {K K' : Dk} {T T' : PT}
theorem FEl.own {p : List UInt8 × Fl} {a b d : Value} {cs : Array Value} (h : FEl W U p a b d) (hb : Blk W r 98 cs) (hg : W.grownBy W' (some r)) : FEl W' U p a b d := h.stay (fun A m l hl => hl.blk hb hg (by decide))
theorem FRow.own (h : FRow W U A n c xs T) {cs : Array Value} (hb : Blk W r 98 cs) (hg : W.grownBy W' (some r)) : FRow W' U A n c xs T := by
  refine ⟨ownsRow_stay h.row (fun g hg' => ?_), h.foot, h.els.stay (fun A m l hl => hl.blk hb hg (by decide))⟩
  refine hg.block g (World.ownsRow.lt h.row g hg').2 (fun e => ?_)
  injection e with e
  subst e
  obtain ⟨_, cs, hc⟩ := row_cells h.row _ hg'
  have hb' := hb
  unfold Blk at hb'
  rw [hc] at hb'
  injection hb' with hb'
  injection hb' with _ h2 _
  exact absurd h2 (by decide)
/-- the disk's own cells turn, its row as well -/
theorem RefAt.turn (h : RefAt W U r A c xs K T) (hF : FRow W U A' T'.length c' xs' T') (hb : Blk W' r 98 (rC K' A' T'.length c')) (hg : W.grownBy W' (some r)) : RefAt W' U r A' c' xs' K' T' :=
  ⟨h.hr, hb, hF.own h.blk hg⟩
theorem FRow.cap (h : FRow W U A n c xs T) : n ≤ c := by
  rcases h.row.2 with ⟨e, h0⟩ | ⟨g, cap, cur, e, _, _, h1, _⟩
  · omega
  · injection e with e1 e2 e3
    omega
theorem FRow.nil (W : World) (U : Foot) : FRow W U none 0 0 [] [] := ⟨World.ownsRow_nil _ _ _ _, fun g h => by simp [Value.ownBlock] at h, by simp [FEls]⟩
end
/-! ### the plain insertion -/
end Go.Proofs.Ytebeidnmplnlpaa
end

section
set_option maxRecDepth 10000
namespace Go.Proofs.Ytebeidnmplnlpaa
set_option linter.unusedVariables false
open Go.RowKit

/-! ### plain -/
structure En where
  term : Int
  cmd : Bool
  data : List UInt8
deriving DecidableEq
def mayE (e : En) : Prop := 1 ≤ e.term ∧ e.term ≤ 1099511627776 ∧ e.data.length ≤ 1048476
instance (e : En) : Decidable (mayE e) := by unfold mayE; infer_instance
structure Kp where
  term : Int
  vote : Int
  base : Int
  bterm : Int
  es : List En
def Kp.zero : Kp := ⟨0, 0, 0, 0, []⟩
def inR (v most : Int) : Prop := 0 ≤ v ∧ v ≤ most
instance (v most : Int) : Decidable (inR v most) := by unfold inR; infer_instance
def mayK (k : Kp) : Prop := (∀ e ∈ k.es, mayE e) ∧ inR k.base 1099511627776 ∧ inR k.bterm 1099511627776 ∧ inR k.term 1099511627776 ∧ inR k.vote 7
instance (k : Kp) : Decidable (mayK k) := by unfold mayK; infer_instance
def tk0 (k : Kp) (r : List UInt8) : Option Kp :=
  if Wire.endS (Wire.intS (Wire.intS (some r)).2).2 = true ∧ inR (Wire.intS (some r)).1 1099511627776 ∧ inR (Wire.intS (Wire.intS (some r)).2).1 1099511627776 then
    some { k with base := (Wire.intS (some r)).1, bterm := (Wire.intS (Wire.intS (some r)).2).1 } else none
def tk1 (k : Kp) (r : List UInt8) : Option Kp :=
  if Wire.endS (Wire.intS (Wire.intS (some r)).2).2 = true ∧ inR (Wire.intS (some r)).1 1099511627776 ∧ inR (Wire.intS (Wire.intS (some r)).2).1 7 then
    some { k with term := (Wire.intS (some r)).1, vote := (Wire.intS (Wire.intS (some r)).2).1 } else none
def eI (r : List UInt8) : Int × Option (List UInt8) := Wire.intS (some r)
def eT (r : List UInt8) : Int × Option (List UInt8) := Wire.intS (eI r).2
def eC (r : List UInt8) : Bool × Option (List UInt8) := Wire.boolS (eT r).2
def eD (r : List UInt8) : List UInt8 × Option (List UInt8) := Wire.textS 1048476 (eC r).2
def eE (r : List UInt8) : En := ⟨(eT r).1, (eC r).1, (eD r).1⟩
def tk2 (k : Kp) (r : List UInt8) : Option Kp :=
  if Wire.endS (eD r).2 = true ∧ mayE (eE r) ∧ k.base < (eI r).1 ∧ (eI r).1 ≤ k.base + k.es.length + 1 then
    some { k with es := k.es.take ((eI r).1 - k.base - 1).toNat ++ [eE r] } else none
def takes (k : Kp) (b : List UInt8) (start : Bool) : Option Kp := match b with
  | [] => none
  | x :: r => if decide (x.toNat = 0) = start then (if x.toNat = 0 then tk0 k r else if x.toNat = 1 then tk1 k r else if x.toNat = 2 then tk2 k r else none) else none
def takesA (st : Bool) (k : Kp) : List (List UInt8) → Option Kp
  | [] => some k
  | b :: r => match takes k b st with
    | some k' => takesA false k' r
    | none => none
def readW (l : List UInt8) : Option Kp := if Frame.bodies l = [] then none else takesA true Kp.zero (Frame.bodies l)
theorem takesA_snoc {b : List UInt8} : ∀ {cs : List (List UInt8)} {st : Bool} {k : Kp}, takesA st k (cs ++ [b]) = match takesA st k cs with | some k' => takes k' b (st && cs.isEmpty) | none => none
  | [], st, k => by
    show (match takes k b st with | some k' => takesA false k' [] | none => none) = takes k b (st && true)
    rw [Bool.and_true]
    cases takes k b st <;> rfl
  | c :: cs, st, k => by
    show (match takes k c st with | some k' => takesA false k' (cs ++ [b]) | none => none) = match (match takes k c st with | some k' => takesA false k' cs | none => none) with | some k' => takes k' b (st && false) | none => none
    cases takes k c st with
    | none => rfl
    | some k' =>
      simp only
      rw [takesA_snoc, Bool.false_and, Bool.and_false]
theorem takesA_app {ds : List (List UInt8)} : ∀ {cs : List (List UInt8)} {st : Bool} {k : Kp}, takesA st k (cs ++ ds) = match takesA st k cs with | some k' => takesA (st && cs.isEmpty) k' ds | none => none
  | [], st, k => by simp [takesA]
  | c :: cs, st, k => by
    show (match takes k c st with | some k' => takesA false k' (cs ++ ds) | none => none) = match (match takes k c st with | some k' => takesA false k' cs | none => none) with | some k' => takesA (st && false) k' ds | none => none
    cases takes k c st with
    | none => rfl
    | some k' =>
      simp only
      rw [takesA_app, Bool.false_and, Bool.and_false]
theorem takesA_none {st : Bool} {k : Kp} {cs : List (List UInt8)} {m : Nat} (h : takesA st k (cs.take m) = none) : takesA st k cs = none := by
  have e : cs = cs.take m ++ cs.drop m := (List.take_append_drop m cs).symm
  rw [e, takesA_app, h]
theorem takes_in {k k' : Kp} {b : List UInt8} {st : Bool} (h : takes k b st = some k') (hb : inR k.base 1099511627776) : inR k'.base 1099511627776 ∧ k'.es.length ≤ k.es.length + 1 := by
  unfold takes at h
  split at h
  · cases h
  · rename_i x r
    split at h
    · split at h
      · unfold tk0 at h
        split at h
        · rename_i hc; injection h with h; subst h; exact ⟨hc.2.1, by simp⟩
        · cases h
      · split at h
        · unfold tk1 at h
          split at h
          · rename_i hc; injection h with h; subst h; exact ⟨hb, by simp⟩
          · cases h
        · split at h
          · unfold tk2 at h
            split at h
            · rename_i hc; injection h with h; subst h; exact ⟨hb, by simp only [List.length_append, List.length_take, List.length_cons, List.length_nil]; omega⟩
            · cases h
          · cases h
    · cases h
def isWhole (l : List UInt8) : Bool := decide (Frame.rest l = [])

/-! ### entries in memory -/
abbrev NotU (U : Foot) : Foot := fun j => ¬ U j
def EnAt (W : World) (V : Foot) (A : Option Addr) (n : Nat) (es : List En) : Prop :=
  es.length = n ∧ (0 < n → ∃ x, A = some x ∧ x.block < W.heap.size ∧ V x.block ∧ ∀ i e, es[i]? = some e → ∃ A' m k, W.cell? (x.add (3 * i)) = some (.int .i64 e.term) ∧ W.cell? (x.add (3 * i + 1)) = some (.bool e.cmd) ∧ W.cell? (x.add (3 * i + 2)) = some (.slice A' m k) ∧ m ≤ k ∧ Lies W V A' m e.data)
def ERow (W : World) (V : Foot) (B : Nat) (v : Value) (es : List En) : Prop := ∃ xs : List Value, W.ownsRow B 67 3 v es.length xs ∧ (∀ g, v.ownBlock = some g → V g) ∧
  ∀ i e, es[i]? = some e → ∃ A m c, xs[3 * i]? = some (.int .i64 e.term) ∧ xs[3 * i + 1]? = some (.bool e.cmd) ∧ xs[3 * i + 2]? = some (.slice A m c) ∧ m ≤ c ∧ Lies W V A m e.data
theorem adb (x : Addr) (j : Nat) : (x.add j).block = x.block := by unfold Addr.add; split <;> rfl
section
variable {W W' : World} {V V' U U' : Foot} {B B' n c : Nat} {A : Option Addr} {v : Value} {es : List En}
theorem EnAt.nil (W : World) (V : Foot) (A : Option Addr) : EnAt W V A 0 [] := ⟨rfl, fun h => absurd h (Nat.lt_irrefl 0)⟩
theorem EnAt.stay (h : EnAt W V A n es) (hs : W.heap.size ≤ W'.heap.size) (hk : ∀ j, j < W.heap.size → V j → W'.heap[j]? = W.heap[j]?) : EnAt W' V A n es :=
  ⟨h.1, fun hn => by
    obtain ⟨x, hA, hx, hv, h3⟩ := h.2 hn
    have key : ∀ j u, W.cell? (x.add j) = some u → W'.cell? (x.add j) = some u := fun j u hu => (World.cell?_of_block (by rw [adb]; exact hk _ hx hv)).trans hu
    exact ⟨x, hA, Nat.lt_of_lt_of_le hx hs, hv, fun i e he => by
      obtain ⟨A', m, k, e1, e2, e3, e4, e5⟩ := h3 i e he
      exact ⟨A', m, k, key _ _ e1, key _ _ e2, key _ _ e3, e4, e5.stay hs hk⟩⟩⟩
theorem EnAt.below (h : EnAt W V A n es) (hb : Below W.heap.size W W') : EnAt W' V A n es := h.stay hb.size (fun j hj _ => hb.block j hj)
theorem EnAt.more (h : EnAt W V A n es) (hV : ∀ j, j < W.heap.size → V j → V' j) : EnAt W V' A n es :=
  ⟨h.1, fun hn => by
    obtain ⟨x, hA, hx, hv, h3⟩ := h.2 hn
    exact ⟨x, hA, hx, hV _ hx hv, fun i e he => by
      obtain ⟨A', m, k, e1, e2, e3, e4, e5⟩ := h3 i e he
      exact ⟨A', m, k, e1, e2, e3, e4, e5.more hV⟩⟩⟩
theorem EnAt.step (h : EnAt W (NotU U) A n es) (hs : Step W U W' U') : EnAt W' (NotU U') A n es := by
  refine (h.more (V' := fun j => ¬ U j ∧ j < W.heap.size) (fun j h1 h2 => ⟨h2, h1⟩)).stay hs.size (fun j h1 h2 => hs.out.block j h1 h2.1) |>.more (fun j h1 h2 hu => ?_)
  rcases hs.sub j hu with h' | h'
  · exact h2.1 h'
  · have := h2.2; omega
theorem EnAt.take (h : EnAt W V A n es) {m : Nat} (hm : m ≤ n) : EnAt W V A m (es.take m) :=
  ⟨by rw [List.length_take, h.1]; omega, fun h0 => by
    obtain ⟨x, hA, hx, hv, h3⟩ := h.2 (by omega)
    exact ⟨x, hA, hx, hv, fun i e he => h3 i e (by
      rw [List.getElem?_take] at he
      split at he
      · exact he
      · cases he)⟩⟩
theorem EnAt.drop (h : EnAt W V A n es) {m : Nat} (hm : m ≤ n) (hc : n ≤ c) : EnAt W V (cutK A c m 3) (n - m) (es.drop m) :=
  ⟨by rw [List.length_drop, h.1], fun h0 => by
    obtain ⟨x, rfl, hx, hv, h3⟩ := h.2 (by omega)
    have hcm : ¬ c = m := by omega
    refine ⟨x.add (m * 3), by unfold cutK; rw [if_neg hcm]; rfl, by rw [adb]; exact hx, by rw [adb]; exact hv, fun i e he => ?_⟩
    rw [List.getElem?_drop] at he
    obtain ⟨A', k, l, e1, e2, e3, e4, e5⟩ := h3 _ e he
    refine ⟨A', k, l, ?_, ?_, ?_, e4, e5⟩
    all_goals rw [Deep.add_add]
    · rw [show m * 3 + 3 * i = 3 * (m + i) from by omega]; exact e1
    · rw [show m * 3 + (3 * i + 1) = 3 * (m + i) + 1 from by omega]; exact e2
    · rw [show m * 3 + (3 * i + 2) = 3 * (m + i) + 2 from by omega]; exact e3⟩
theorem EnAt.at_ {i : Nat} {e : En} (h : EnAt W V A n es) (he : es[i]? = some e) :
    ∃ x A' m k, A = some x ∧ W.cell? ((x.add (i * 3)).add 0) = some (.int .i64 e.term) ∧ W.cell? ((x.add (i * 3)).add 1) = some (.bool e.cmd) ∧ W.cell? ((x.add (i * 3)).add 2) = some (.slice A' m k) ∧ m ≤ k ∧ e.data.length = m ∧ Lies W V A' m e.data := by
  have hi := (List.getElem?_eq_some_iff.1 he).1
  have h1 := h.1
  obtain ⟨x, hA, hx, hv, h3⟩ := h.2 (by omega)
  obtain ⟨A', m, k, e1, e2, e3, e4, e5⟩ := h3 i e he
  refine ⟨x, A', m, k, hA, ?_, ?_, ?_, e4, e5.len, e5⟩
  all_goals rw [Deep.add_add, Nat.mul_comm i 3]
  · exact e1
  · exact e2
  · exact e3
theorem EnAt.xs (h : EnAt W V A n es) : ∃ xs, Reads W W.heap.size 3 A n xs ∧ (∀ u ∈ xs, u.oneCell' = true) ∧ ∀ i e, es[i]? = some e → ∃ A' m k, xs[3 * i]? = some (.int .i64 e.term) ∧ xs[3 * i + 1]? = some (.bool e.cmd) ∧ xs[3 * i + 2]? = some (.slice A' m k) ∧ m ≤ k ∧ Lies W V A' m e.data := by
  by_cases hn : 0 < n
  case neg =>
    obtain rfl : n = 0 := by omega
    obtain rfl := List.eq_nil_of_length_eq_zero h.1
    exact ⟨[], Reads.none_, by simp, fun i e he => by simp at he⟩
  obtain ⟨x, rfl, hx, hv, h3⟩ := h.2 hn
  have hcl : ∀ j, j < n * 3 → ∃ u, W.cell? (x.add j) = some u ∧ u.oneCell' = true := fun j hj => by
    obtain ⟨e, he⟩ : ∃ e, es[j / 3]? = some e := ⟨_, List.getElem?_eq_getElem (by have := h.1; omega)⟩
    obtain ⟨A', m, k, e1, e2, e3, e4, e5⟩ := h3 _ e he
    have hj3 : j = 3 * (j / 3) ∨ j = 3 * (j / 3) + 1 ∨ j = 3 * (j / 3) + 2 := by omega
    rcases hj3 with h' | h' | h'
    · exact ⟨_, by rw [h']; exact e1, rfl⟩
    · exact ⟨_, by rw [h']; exact e2, rfl⟩
    · exact ⟨_, by rw [h']; exact e3, rfl⟩
  refine ⟨(List.range (n * 3)).map fun j => (W.cell? (x.add j)).getD default, ⟨by simp, fun _ => ⟨x, rfl, hx, fun j u hu => ?_⟩⟩, fun u hu => ?_, fun i e he => ?_⟩
  · obtain ⟨j', hj', rfl⟩ := map_at hu
    obtain ⟨hjl, hje⟩ := List.getElem?_eq_some_iff.1 hj'
    rw [List.getElem_range] at hje
    subst hje
    obtain ⟨u, hu, _⟩ := hcl _ (by simpa using hjl)
    rw [hu]; rfl
  · obtain ⟨j, hj, rfl⟩ := List.mem_map.1 hu
    obtain ⟨u, hu, h1⟩ := hcl j (by simpa using hj)
    rw [hu]; exact h1
  · have hi := (List.getElem?_eq_some_iff.1 he).1
    have h1 := h.1
    obtain ⟨A', m, k, e1, e2, e3, e4, e5⟩ := h3 _ e he
    refine ⟨A', m, k, ?_, ?_, ?_, e4, e5⟩
    all_goals rw [List.getElem?_map, List.getElem?_range (by omega)]
    · rw [Option.map_some, e1]; rfl
    · rw [Option.map_some, e2]; rfl
    · rw [Option.map_some, e3]; rfl
theorem ERow.nil (W : World) (V : Foot) (B : Nat) : ERow W V B (.slice none 0 0) [] := ⟨[], World.ownsRow_nil W _ _ _, fun g hg => by simp [Value.ownBlock] at hg, fun i e he => by simp at he⟩
theorem ERow.form (h : ERow W V B v es) : ∃ A c, v = .slice A es.length c := by
  obtain ⟨xs, h1, _⟩ := h
  rcases h1.2 with ⟨rfl, e0⟩ | ⟨g, cap, cur, e1, _⟩
  · exact ⟨none, 0, by rw [e0]⟩
  · exact ⟨_, _, e1⟩
theorem ERow.at_ (h : ERow W V B (.slice A n c) es) : EnAt W V A n es ∧ n ≤ c ∧ es.length = n := by
  obtain ⟨A', c', e⟩ := h.form
  injection e with e1 e2 e3
  subst e1 e2 e3
  obtain ⟨xs, h1, h2, h3⟩ := h
  have hr := Reads.row h1
  refine ⟨⟨rfl, fun hn => ?_⟩, ?_, rfl⟩
  · obtain ⟨x, rfl, hx, hc⟩ := hr.2 hn
    refine ⟨x, rfl, hx, h2 _ rfl, fun i e he => ?_⟩
    obtain ⟨A', m, k, e1, e2, e3, e4, e5⟩ := h3 i e he
    exact ⟨A', m, k, hc _ _ e1, hc _ _ e2, hc _ _ e3, e4, e5⟩
  · rcases h1.2 with ⟨e, e0⟩ | ⟨g, cap, cur, e1, _, _, h4, _⟩
    · omega
    · injection e1 with _ _ e3
      omega
theorem ERow.stay (h : ERow W V B v es) (hs : W.heap.size ≤ W'.heap.size) (hk : ∀ j, j < W.heap.size → V j → W'.heap[j]? = W.heap[j]?) : ERow W' V B v es := by
  obtain ⟨xs, h1, h2, h3⟩ := h
  refine ⟨xs, ownsRow_stay h1 (fun g hg => hk g (World.ownsRow.lt h1 g hg).2 (h2 g hg)), h2, fun i e he => ?_⟩
  obtain ⟨A', m, k, e1, e2, e3, e4, e5⟩ := h3 i e he
  exact ⟨A', m, k, e1, e2, e3, e4, e5.stay hs hk⟩
theorem ERow.below (h : ERow W V B v es) (hb : Below W.heap.size W W') : ERow W' V B v es := h.stay hb.size (fun j hj _ => hb.block j hj)
theorem ERow.more (h : ERow W V B v es) (hB : B' ≤ B) (hV : ∀ j, j < W.heap.size → V j → V' j) : ERow W V' B' v es := by
  obtain ⟨xs, h1, h2, h3⟩ := h
  refine ⟨xs, rows_more h1 hB, fun g hg => hV g (World.ownsRow.lt h1 g hg).2 (h2 g hg), fun i e he => ?_⟩
  obtain ⟨A', m, k, e1, e2, e3, e4, e5⟩ := h3 i e he
  exact ⟨A', m, k, e1, e2, e3, e4, e5.more hV⟩
theorem ERow.step (h : ERow W (NotU U) B v es) (hs : Step W U W' U') : ERow W' (NotU U') B v es := by
  refine ((h.more (Nat.le_refl _) (V' := fun j => ¬ U j ∧ j < W.heap.size) (fun j h1 h2 => ⟨h2, h1⟩)).stay hs.size (fun j h1 h2 => hs.out.block j h1 h2.1)).more (Nat.le_refl _) (fun j h1 h2 hu => ?_)
  rcases hs.sub j hu with h' | h'
  · exact h2.1 h'
  · have := h2.2; omega
/-- a row cut shorter -/
theorem ERow.take (h : ERow W V B (.slice A n c) es) {m : Nat} (hm : m ≤ n) : ERow W V B (.slice A m c) (es.take m) := by
  have hlen := h.at_.2.2
  obtain ⟨xs, h1, h2, h3⟩ := h
  have hl : (es.take m).length = m := by rw [List.length_take]; omega
  refine ⟨xs.take (m * 3), ?_, fun g hg => h2 g (by
    cases A with
    | none => simp [Value.ownBlock] at hg
    | some x => simpa [Value.ownBlock] using hg), fun i e he => ?_⟩
  · rw [hl]
    rcases h1.2 with ⟨e, e0⟩ | ⟨g, cap, cur, e1, hg, hc, h4, h5, h6, h7⟩
    · injection e with a1 a2 a3
      subst a1 a2 a3
      obtain rfl : m = 0 := by omega
      simpa using World.ownsRow_nil W B _ 3
    · injection e1 with a1 a2 a3
      subst a1 a3
      refine ⟨by rw [List.length_take, h1.1]; omega, .inr ⟨g, _, cur, rfl, hg, hc, by omega, h5, h6, ?_⟩⟩
      rw [← h7, List.take_take]
      congr 1
      omega
  · rw [List.getElem?_take] at he
    split at he
    · rename_i hi
      obtain ⟨A', p, k, e1, e2, e3, e4, e5⟩ := h3 i e he
      refine ⟨A', p, k, ?_, ?_, ?_, e4, e5⟩
      all_goals rw [List.getElem?_take, if_pos (by omega)]
      · exact e1
      · exact e2
      · exact e3
    · cases he
theorem ERow.blk {g T : Nat} {cs : Array Value} (h : ERow W V B v es) (hb : Blk W g T cs) (hg : W.grownBy W' (some g)) (hT : 5 ≠ T) (hT2 : 67 ≠ T) : ERow W' V B v es := by
  obtain ⟨xs, h1, h2, h3⟩ := h
  refine ⟨xs, rows_apart h1 hg (fun q e hq => ?_), h2, fun i e he => ?_⟩
  · obtain rfl : g = q := by injection e
    rcases h1.2 with ⟨rfl, _⟩ | ⟨g', cap, cur, rfl, _, hc, _⟩
    · simp [Value.ownBlock] at hq
    · have : g' = g := by simpa [Value.ownBlock] using hq
      subst this
      unfold Blk at hb
      rw [hc] at hb
      injection hb with hb
      injection hb with _ h2 _
      exact hT2 h2
  · obtain ⟨A', m, k, e1, e2, e3, e4, e5⟩ := h3 i e he
    exact ⟨A', m, k, e1, e2, e3, e4, e5.blk hb hg hT⟩
end
theorem en_info : (Try.prog.info? 67).map (fun i => (i.zero, i.size, i.bytes)) = some (some (.agg #[.int .i64 0, .bool false, .slice none 0 0]), 3, 40) := by kernel_rfl
/-- entries behind entries -/
theorem ERow.app {W : World} {V : Foot} {B n c m k ty : Nat} {A A' : Option Addr} {es fs : List En} {K : Value → World → Prop} (h : ERow W V B (.slice A n c) es) (h2 : EnAt W V A' m fs) (hk : n + m ≤ 100000000) (hB : B ≤ W.heap.size) (hV : ∀ j, W.heap.size ≤ j → V j)
    (hK : ∀ A2 c2 W', ERow W' V B (.slice A2 (n + m) c2) (es ++ fs) → W.grownBy W' (Value.slice A n c).ownBlock → K (.slice A2 (n + m) c2) W') :
    VSem Try.prog (Builtin.append_ #[61, 61] ty [.slice A n c, .slice A' m k].toArray) W K := by
  have hlen := h.at_.2.2
  have hm2 := h2.1
  obtain ⟨xs, hrow, hV1, hels⟩ := h
  obtain ⟨ys, hr, h1, hys⟩ := h2.xs
  obtain ⟨i0, hi0, hz0, hz1, hz2⟩ := info_parts en_info
  rw [hlen] at hrow
  refine VSem.appR (base := B) Try.underlying61 hi0 hz0 hz1 hz2 rfl (by decide) hrow hr h1 (by simp only [maxLen]; omega) (by omega) hB ?_
  intro A6 c6 W6 hrow6 hg6 hblk
  have hxl := hrow.1
  refine hK A6 c6 W6 ⟨_, by rw [List.length_append, hlen, hm2]; exact hrow6, fun g hg => ?_, fun i e' he' => ?_⟩ hg6
  · rcases hblk with h' | h'
    · rw [h'] at hg; exact hV1 g hg
    · rw [h'] at hg; injection hg with hg; subst hg; exact hV _ (Nat.le_refl _)
  · rcases Nat.lt_or_ge i n with h | h
    · rw [List.getElem?_append_left (by omega)] at he'
      obtain ⟨A', m', c', e1, e2, e3, e5, e4⟩ := hels i e' he'
      refine ⟨A', m', c', ?_, ?_, ?_, e5, e4.row hrow hg6 (by decide)⟩
      · rw [List.getElem?_append_left (by omega)]; exact e1
      · rw [List.getElem?_append_left (by omega)]; exact e2
      · rw [List.getElem?_append_left (by omega)]; exact e3
    · rw [List.getElem?_append_right (by omega)] at he'
      obtain ⟨A', m', c', e1, e2, e3, e5, e4⟩ := hys _ e' he'
      refine ⟨A', m', c', ?_, ?_, ?_, e5, e4.row hrow hg6 (by decide)⟩
      · rw [List.getElem?_append_right (by omega), show 3 * i - xs.length = 3 * (i - es.length) by omega]; exact e1
      · rw [List.getElem?_append_right (by omega), show 3 * i + 1 - xs.length = 3 * (i - es.length) + 1 by omega]; exact e2
      · rw [List.getElem?_append_right (by omega), show 3 * i + 2 - xs.length = 3 * (i - es.length) + 2 by omega]; exact e3
/-- one entry in a block -/
theorem EnAt.one {W : World} {V : Foot} {g m c : Nat} {A : Option Addr} {e : En} (hb : Blk W g 67 #[.int .i64 e.term, .bool e.cmd, .slice A m c]) (hV : V g) (hmc : m ≤ c) (hL : Lies W V A m e.data) : EnAt W V (some ⟨g, 0, none⟩) 1 [e] := by
  refine ⟨rfl, fun _ => ⟨_, rfl, hb.lt, hV, fun i e' he => ?_⟩⟩
  have hi : i = 0 := by have := (List.getElem?_eq_some_iff.1 he).1; simpa using this
  subst hi
  obtain rfl : e = e' := by simpa using he
  refine ⟨A, m, c, ?_, ?_, ?_, hmc, hL⟩
  all_goals rw [add_lit, hb.cell]; rfl
end Go.Proofs.Ytebeidnmplnlpaa
end

section
set_option maxRecDepth 10000
namespace Go.Proofs.Ytebeidnmplnlpaa
set_option linter.unusedVariables false
open Go.RowKit

/-! ### names -/
def wPre : List UInt8 := [119, 97, 108, 45]
def wTmp : List UInt8 := [119, 97, 108, 45, 116, 109, 112]
def wName (i : Int) : List UInt8 := if i < 1 ∨ 99999999 < i then [] else nameN wPre 8 i.toNat
def wNum (s : List UInt8) : Option Nat := match numN wPre 8 s with | some n => if 1 ≤ n then some n else none | none => none
theorem wName_of {n : Nat} (h1 : 1 ≤ n) (h2 : n ≤ 99999999) : wName (n : Int) = nameN wPre 8 n := by unfold wName; rw [if_neg (by omega), Int.toNat_natCast]
theorem wName_len {n : Nat} (h1 : 1 ≤ n) (h2 : n ≤ 99999999) : (wName (n : Int)).length = 12 := by rw [wName_of h1 h2, nameN_len]; rfl
theorem wNum_name {n : Nat} (h1 : 1 ≤ n) (h2 : n ≤ 99999999) : wNum (wName (n : Int)) = some n := by
  have : (10 : Nat) ^ 8 = 100000000 := by decide
  unfold wNum
  rw [wName_of h1 h2, numN_name (by omega)]
  simp only
  rw [if_pos h1]
theorem wNum_some {s : List UInt8} {n : Nat} (h : wNum s = some n) : s = wName (n : Int) ∧ 1 ≤ n ∧ n ≤ 99999999 := by
  unfold wNum at h
  cases hN : numN wPre 8 s with
  | none => rw [hN] at h; cases h
  | some m =>
    have h3 := numN_some hN
    have : (10 : Nat) ^ 8 = 100000000 := by decide
    rw [hN] at h
    simp only at h
    split at h
    · rename_i hc
      injection h with h
      subst h
      exact ⟨by rw [wName_of hc (by omega)]; exact h3.1, hc, by omega⟩
    · cases h
theorem wName_le (i : Int) : (wName i).length ≤ 12 := by
  unfold wName
  split
  · simp
  · rw [nameN_len]; decide
theorem walName_any (i : Int) (w : World) (hi : -9223372036854775808 ≤ i ∧ i ≤ 9223372036854775807) :
    Calls Try.prog 35 #[.int .i64 i] w fun e w' => e = .returned (.string (txt (wName i))) ∧ Below w.heap.size w w' := by
  refine calls_vc Try.func35 rfl (by kernel_rfl) ?_
  by_cases h1 : i < 1
  · have e : wName i = [] := by unfold wName; rw [if_pos (.inl h1)]
    rw [e]
    ((conv => whnf); (repeat ((first|refine kLa ?_|refine kLb ?_|refine kCa rfl ?_|refine kCb ?_|refine kCc ?_|refine kCd ?_|refine kCe ?_|refine kCf ?_|refine kCg ?_|refine kCh ?_|refine kCi ?_|refine kCj ?_|refine kQa ?_|refine kQb ?_|refine kGa ?_|refine kGb ?_|refine kHa ?_|refine kHb ?_); (conv => whnf))))
    ((repeat ((first|refine kLa ?_|refine kLb ?_|refine kCa rfl ?_|refine kCb ?_|refine kCc ?_|refine kCd ?_|refine kCe ?_|refine kCf ?_|refine kCg ?_|refine kCh ?_|refine kCi ?_|refine kCj ?_|refine kQa ?_|refine kQb ?_|refine kGa ?_|refine kGb ?_|refine kHa ?_|refine kHb ?_|refine kPa ?_|refine kPb ?_|refine kPc ?_|refine kEa ?_|refine kEb ?_|refine kBa ?_|refine kBb ?_|refine kBc (by omega) ?_|refine kBd (by omega) ?_|refine kBe (by omega) ?_|refine kBf (by omega) ?_|refine kRa ?_|refine kRb ?_|refine VRead.fld ?_|refine VRead.load1 (by assumption) ?_|refine VRead.load (by assumption) ?_|refine kRf ?_|refine kRg ?_|refine kRh ?_|refine kRi ?_|refine kBe rfl ?_|refine kBc rfl ?_|refine kWa (by omega) (by omega) ?_|refine kWb (by omega) (by omega) ?_|refine kRj (by omega) ?_|refine kRk ?_|refine VSem.convI ?_|refine VRead.convI ?_|refine VRead.rem (by omega) (by decide) ?_|refine VRead.neg ?_|refine VC.seq ?_); (conv => whnf))))
    exact ⟨rfl, Below.refl _ _⟩
  by_cases h2 : 99999999 < i
  · have e : wName i = [] := by unfold wName; rw [if_pos (.inr h2)]
    rw [e]
    ((conv => whnf); (repeat ((first|refine kLa ?_|refine kLb ?_|refine kCa rfl ?_|refine kCb ?_|refine kCc ?_|refine kCd ?_|refine kCe ?_|refine kCf ?_|refine kCg ?_|refine kCh ?_|refine kCi ?_|refine kCj ?_|refine kQa ?_|refine kQb ?_|refine kGa ?_|refine kGb ?_|refine kHa ?_|refine kHb ?_); (conv => whnf))))
    ((repeat ((first|refine kLa ?_|refine kLb ?_|refine kCa rfl ?_|refine kCb ?_|refine kCc ?_|refine kCd ?_|refine kCe ?_|refine kCf ?_|refine kCg ?_|refine kCh ?_|refine kCi ?_|refine kCj ?_|refine kQa ?_|refine kQb ?_|refine kGa ?_|refine kGb ?_|refine kHa ?_|refine kHb ?_|refine kPa ?_|refine kPb ?_|refine kPc ?_|refine kEa ?_|refine kEb ?_|refine kBa ?_|refine kBb ?_|refine kBc (by omega) ?_|refine kBd (by omega) ?_|refine kBe (by omega) ?_|refine kBf (by omega) ?_|refine kRa ?_|refine kRb ?_|refine VRead.fld ?_|refine VRead.load1 (by assumption) ?_|refine VRead.load (by assumption) ?_|refine kRf ?_|refine kRg ?_|refine kRh ?_|refine kRi ?_|refine kBe rfl ?_|refine kBc rfl ?_|refine kWa (by omega) (by omega) ?_|refine kWb (by omega) (by omega) ?_|refine kRj (by omega) ?_|refine kRk ?_|refine VSem.convI ?_|refine VRead.convI ?_|refine VRead.rem (by omega) (by decide) ?_|refine VRead.neg ?_|refine VC.seq ?_); (conv => whnf))))
    exact ⟨rfl, Below.refl _ _⟩
  obtain ⟨n, rfl⟩ : ∃ n : Nat, i = (n : Int) := ⟨i.toNat, by omega⟩
  rw [wName_of (by omega) (by omega)]
  ((conv => whnf); (repeat ((first|refine kLa ?_|refine kLb ?_|refine kCa rfl ?_|refine kCb ?_|refine kCc ?_|refine kCd ?_|refine kCe ?_|refine kCf ?_|refine kCg ?_|refine kCh ?_|refine kCi ?_|refine kCj ?_|refine kQa ?_|refine kQb ?_|refine kGa ?_|refine kGb ?_|refine kHa ?_|refine kHb ?_); (conv => whnf))))
  ((repeat ((first|refine kLa ?_|refine kLb ?_|refine kCa rfl ?_|refine kCb ?_|refine kCc ?_|refine kCd ?_|refine kCe ?_|refine kCf ?_|refine kCg ?_|refine kCh ?_|refine kCi ?_|refine kCj ?_|refine kQa ?_|refine kQb ?_|refine kGa ?_|refine kGb ?_|refine kHa ?_|refine kHb ?_|refine kPa ?_|refine kPb ?_|refine kPc ?_|refine kEa ?_|refine kEb ?_|refine kBa ?_|refine kBb ?_|refine kBc (by omega) ?_|refine kBd (by omega) ?_|refine kBe (by omega) ?_|refine kBf (by omega) ?_|refine kRa ?_|refine kRb ?_|refine VRead.fld ?_|refine VRead.load1 (by assumption) ?_|refine VRead.load (by assumption) ?_|refine kRf ?_|refine kRg ?_|refine kRh ?_|refine kRi ?_|refine kBe rfl ?_|refine kBc rfl ?_|refine kWa (by omega) (by omega) ?_|refine kWb (by omega) (by omega) ?_|refine kRj (by omega) ?_|refine kRk ?_|refine VSem.convI ?_|refine VRead.convI ?_|refine VRead.rem (by omega) (by decide) ?_|refine VRead.neg ?_|refine VC.seq ?_); (conv => whnf))))
  refine VCall.of (plainName_any wPre n 8 w (by decide) (by omega) (by decide)) ?_
  rintro e w1 ⟨rfl, hB⟩
  refine ⟨_, rfl, ?_⟩
  ((conv => whnf); (repeat ((first|refine kLa ?_|refine kLb ?_|refine kCa rfl ?_|refine kCb ?_|refine kCc ?_|refine kCd ?_|refine kCe ?_|refine kCf ?_|refine kCg ?_|refine kCh ?_|refine kCi ?_|refine kCj ?_|refine kQa ?_|refine kQb ?_|refine kGa ?_|refine kGb ?_|refine kHa ?_|refine kHb ?_); (conv => whnf))))
  ((repeat ((first|refine kLa ?_|refine kLb ?_|refine kCa rfl ?_|refine kCb ?_|refine kCc ?_|refine kCd ?_|refine kCe ?_|refine kCf ?_|refine kCg ?_|refine kCh ?_|refine kCi ?_|refine kCj ?_|refine kQa ?_|refine kQb ?_|refine kGa ?_|refine kGb ?_|refine kHa ?_|refine kHb ?_|refine kPa ?_|refine kPb ?_|refine kPc ?_|refine kEa ?_|refine kEb ?_|refine kBa ?_|refine kBb ?_|refine kBc (by omega) ?_|refine kBd (by omega) ?_|refine kBe (by omega) ?_|refine kBf (by omega) ?_|refine kRa ?_|refine kRb ?_|refine VRead.fld ?_|refine VRead.load1 (by assumption) ?_|refine VRead.load (by assumption) ?_|refine kRf ?_|refine kRg ?_|refine kRh ?_|refine kRi ?_|refine kBe rfl ?_|refine kBc rfl ?_|refine kWa (by omega) (by omega) ?_|refine kWb (by omega) (by omega) ?_|refine kRj (by omega) ?_|refine kRk ?_|refine VSem.convI ?_|refine VRead.convI ?_|refine VRead.rem (by omega) (by decide) ?_|refine VRead.neg ?_|refine VC.seq ?_); (conv => whnf))))
  exact ⟨rfl, hB⟩
theorem walNumber_any (s : List UInt8) (w : World) (hs : s.length ≤ 9223372036854775807) :
    Calls Try.prog 36 #[.string (txt s)] w fun e w' => e = .returned (numV (wNum s)) ∧ Below w.heap.size w w' := by
  refine calls_vc Try.func36 rfl (by kernel_rfl) ?_
  ((conv => whnf); (repeat ((first|refine kLa ?_|refine kLb ?_|refine kCa rfl ?_|refine kCb ?_|refine kCc ?_|refine kCd ?_|refine kCe ?_|refine kCf ?_|refine kCg ?_|refine kCh ?_|refine kCi ?_|refine kCj ?_|refine kQa ?_|refine kQb ?_|refine kGa ?_|refine kGb ?_|refine kHa ?_|refine kHb ?_); (conv => whnf))))
  ((repeat ((first|refine kLa ?_|refine kLb ?_|refine kCa rfl ?_|refine kCb ?_|refine kCc ?_|refine kCd ?_|refine kCe ?_|refine kCf ?_|refine kCg ?_|refine kCh ?_|refine kCi ?_|refine kCj ?_|refine kQa ?_|refine kQb ?_|refine kGa ?_|refine kGb ?_|refine kHa ?_|refine kHb ?_|refine kPa ?_|refine kPb ?_|refine kPc ?_|refine kEa ?_|refine kEb ?_|refine kBa ?_|refine kBb ?_|refine kBc (by omega) ?_|refine kBd (by omega) ?_|refine kBe (by omega) ?_|refine kBf (by omega) ?_|refine kRa ?_|refine kRb ?_|refine VRead.fld ?_|refine VRead.load1 (by assumption) ?_|refine VRead.load (by assumption) ?_|refine kRf ?_|refine kRg ?_|refine kRh ?_|refine kRi ?_|refine kBe rfl ?_|refine kBc rfl ?_|refine kWa (by omega) (by omega) ?_|refine kWb (by omega) (by omega) ?_|refine kRj (by omega) ?_|refine kRk ?_|refine VSem.convI ?_|refine VRead.convI ?_|refine VRead.rem (by omega) (by decide) ?_|refine VRead.neg ?_|refine VC.seq ?_); (conv => whnf))))
  refine VCall.of (plainNumber_any wPre s 8 w (by decide) hs (by decide)) ?_
  rintro e w1 ⟨rfl, hB⟩
  refine ⟨_, rfl, ?_⟩
  cases hN : numN wPre 8 s with
  | none =>
    have e0 : wNum s = none := by unfold wNum; rw [hN]
    ((conv => whnf); (repeat ((first|refine kLa ?_|refine kLb ?_|refine kCa rfl ?_|refine kCb ?_|refine kCc ?_|refine kCd ?_|refine kCe ?_|refine kCf ?_|refine kCg ?_|refine kCh ?_|refine kCi ?_|refine kCj ?_|refine kQa ?_|refine kQb ?_|refine kGa ?_|refine kGb ?_|refine kHa ?_|refine kHb ?_); (conv => whnf))))
    ((repeat ((first|refine kLa ?_|refine kLb ?_|refine kCa rfl ?_|refine kCb ?_|refine kCc ?_|refine kCd ?_|refine kCe ?_|refine kCf ?_|refine kCg ?_|refine kCh ?_|refine kCi ?_|refine kCj ?_|refine kQa ?_|refine kQb ?_|refine kGa ?_|refine kGb ?_|refine kHa ?_|refine kHb ?_|refine kPa ?_|refine kPb ?_|refine kPc ?_|refine kEa ?_|refine kEb ?_|refine kBa ?_|refine kBb ?_|refine kBc (by omega) ?_|refine kBd (by omega) ?_|refine kBe (by omega) ?_|refine kBf (by omega) ?_|refine kRa ?_|refine kRb ?_|refine VRead.fld ?_|refine VRead.load1 (by assumption) ?_|refine VRead.load (by assumption) ?_|refine kRf ?_|refine kRg ?_|refine kRh ?_|refine kRi ?_|refine kBe rfl ?_|refine kBc rfl ?_|refine kWa (by omega) (by omega) ?_|refine kWb (by omega) (by omega) ?_|refine kRj (by omega) ?_|refine kRk ?_|refine VSem.convI ?_|refine VRead.convI ?_|refine VRead.rem (by omega) (by decide) ?_|refine VRead.neg ?_|refine VC.seq ?_); (conv => whnf))))
    exact ⟨by rw [e0]; rfl, hB⟩
  | some n =>
    by_cases hc : 1 ≤ n
    · have e0 : wNum s = some n := by unfold wNum; rw [hN]; simp only; rw [if_pos hc]
      ((conv => whnf); (repeat ((first|refine kLa ?_|refine kLb ?_|refine kCa rfl ?_|refine kCb ?_|refine kCc ?_|refine kCd ?_|refine kCe ?_|refine kCf ?_|refine kCg ?_|refine kCh ?_|refine kCi ?_|refine kCj ?_|refine kQa ?_|refine kQb ?_|refine kGa ?_|refine kGb ?_|refine kHa ?_|refine kHb ?_); (conv => whnf))))
      ((repeat ((first|refine kLa ?_|refine kLb ?_|refine kCa rfl ?_|refine kCb ?_|refine kCc ?_|refine kCd ?_|refine kCe ?_|refine kCf ?_|refine kCg ?_|refine kCh ?_|refine kCi ?_|refine kCj ?_|refine kQa ?_|refine kQb ?_|refine kGa ?_|refine kGb ?_|refine kHa ?_|refine kHb ?_|refine kPa ?_|refine kPb ?_|refine kPc ?_|refine kEa ?_|refine kEb ?_|refine kBa ?_|refine kBb ?_|refine kBc (by omega) ?_|refine kBd (by omega) ?_|refine kBe (by omega) ?_|refine kBf (by omega) ?_|refine kRa ?_|refine kRb ?_|refine VRead.fld ?_|refine VRead.load1 (by assumption) ?_|refine VRead.load (by assumption) ?_|refine kRf ?_|refine kRg ?_|refine kRh ?_|refine kRi ?_|refine kBe rfl ?_|refine kBc rfl ?_|refine kWa (by omega) (by omega) ?_|refine kWb (by omega) (by omega) ?_|refine kRj (by omega) ?_|refine kRk ?_|refine VSem.convI ?_|refine VRead.convI ?_|refine VRead.rem (by omega) (by decide) ?_|refine VRead.neg ?_|refine VC.seq ?_); (conv => whnf))))
      exact ⟨by rw [e0]; rfl, hB⟩
    · have e0 : wNum s = none := by unfold wNum; rw [hN]; simp only; rw [if_neg hc]
      ((conv => whnf); (repeat ((first|refine kLa ?_|refine kLb ?_|refine kCa rfl ?_|refine kCb ?_|refine kCc ?_|refine kCd ?_|refine kCe ?_|refine kCf ?_|refine kCg ?_|refine kCh ?_|refine kCi ?_|refine kCj ?_|refine kQa ?_|refine kQb ?_|refine kGa ?_|refine kGb ?_|refine kHa ?_|refine kHb ?_); (conv => whnf))))
      ((repeat ((first|refine kLa ?_|refine kLb ?_|refine kCa rfl ?_|refine kCb ?_|refine kCc ?_|refine kCd ?_|refine kCe ?_|refine kCf ?_|refine kCg ?_|refine kCh ?_|refine kCi ?_|refine kCj ?_|refine kQa ?_|refine kQb ?_|refine kGa ?_|refine kGb ?_|refine kHa ?_|refine kHb ?_|refine kPa ?_|refine kPb ?_|refine kPc ?_|refine kEa ?_|refine kEb ?_|refine kBa ?_|refine kBb ?_|refine kBc (by omega) ?_|refine kBd (by omega) ?_|refine kBe (by omega) ?_|refine kBf (by omega) ?_|refine kRa ?_|refine kRb ?_|refine VRead.fld ?_|refine VRead.load1 (by assumption) ?_|refine VRead.load (by assumption) ?_|refine kRf ?_|refine kRg ?_|refine kRh ?_|refine kRi ?_|refine kBe rfl ?_|refine kBc rfl ?_|refine kWa (by omega) (by omega) ?_|refine kWb (by omega) (by omega) ?_|refine kRj (by omega) ?_|refine kRk ?_|refine VSem.convI ?_|refine VRead.convI ?_|refine VRead.rem (by omega) (by decide) ?_|refine VRead.neg ?_|refine VC.seq ?_); (conv => whnf))))
      exact ⟨by rw [e0]; rfl, hB⟩

/-! ### may it be? -/
theorem walIn_any (v m : Int) (w : World) : Calls Try.prog 74 #[.int .i64 v, .int .i64 m] w fun e w' => e = .returned (.bool (decide (inR v m))) ∧ w' = w := by
  refine calls_vc Try.func74 rfl (by kernel_rfl) ?_
  by_cases h1 : 0 ≤ v
  · ((conv => whnf); (repeat ((first|refine kLa ?_|refine kLb ?_|refine kCa rfl ?_|refine kCb ?_|refine kCc ?_|refine kCd ?_|refine kCe ?_|refine kCf ?_|refine kCg ?_|refine kCh ?_|refine kCi ?_|refine kCj ?_|refine kQa ?_|refine kQb ?_|refine kGa ?_|refine kGb ?_|refine kHa ?_|refine kHb ?_); (conv => whnf))))
    ((repeat ((first|refine kLa ?_|refine kLb ?_|refine kCa rfl ?_|refine kCb ?_|refine kCc ?_|refine kCd ?_|refine kCe ?_|refine kCf ?_|refine kCg ?_|refine kCh ?_|refine kCi ?_|refine kCj ?_|refine kQa ?_|refine kQb ?_|refine kGa ?_|refine kGb ?_|refine kHa ?_|refine kHb ?_|refine kPa ?_|refine kPb ?_|refine kPc ?_|refine kEa ?_|refine kEb ?_|refine kBa ?_|refine kBb ?_|refine kBc (by omega) ?_|refine kBd (by omega) ?_|refine kBe (by omega) ?_|refine kBf (by omega) ?_|refine kRa ?_|refine kRb ?_|refine VRead.fld ?_|refine VRead.load1 (by assumption) ?_|refine VRead.load (by assumption) ?_|refine kRf ?_|refine kRg ?_|refine kRh ?_|refine kRi ?_|refine kBe rfl ?_|refine kBc rfl ?_|refine kWa (by omega) (by omega) ?_|refine kWb (by omega) (by omega) ?_|refine kRj (by omega) ?_|refine kRk ?_|refine VSem.convI ?_|refine VRead.convI ?_|refine VRead.rem (by omega) (by decide) ?_|refine VRead.neg ?_|refine VC.seq ?_); (conv => whnf))))
    refine ⟨?_, rfl⟩
    rw [show decide (inR v m) = decide (v ≤ m) from decide_eq_decide.2 ⟨fun h => h.2, fun h => ⟨h1, h⟩⟩]
    rfl
  · rw [decide_eq_false (fun h : inR v m => h1 h.1)]
    ((conv => whnf); (repeat ((first|refine kLa ?_|refine kLb ?_|refine kCa rfl ?_|refine kCb ?_|refine kCc ?_|refine kCd ?_|refine kCe ?_|refine kCf ?_|refine kCg ?_|refine kCh ?_|refine kCi ?_|refine kCj ?_|refine kQa ?_|refine kQb ?_|refine kGa ?_|refine kGb ?_|refine kHa ?_|refine kHb ?_); (conv => whnf))))
    ((repeat ((first|refine kLa ?_|refine kLb ?_|refine kCa rfl ?_|refine kCb ?_|refine kCc ?_|refine kCd ?_|refine kCe ?_|refine kCf ?_|refine kCg ?_|refine kCh ?_|refine kCi ?_|refine kCj ?_|refine kQa ?_|refine kQb ?_|refine kGa ?_|refine kGb ?_|refine kHa ?_|refine kHb ?_|refine kPa ?_|refine kPb ?_|refine kPc ?_|refine kEa ?_|refine kEb ?_|refine kBa ?_|refine kBb ?_|refine kBc (by omega) ?_|refine kBd (by omega) ?_|refine kBe (by omega) ?_|refine kBf (by omega) ?_|refine kRa ?_|refine kRb ?_|refine VRead.fld ?_|refine VRead.load1 (by assumption) ?_|refine VRead.load (by assumption) ?_|refine kRf ?_|refine kRg ?_|refine kRh ?_|refine kRi ?_|refine kBe rfl ?_|refine kBc rfl ?_|refine kWa (by omega) (by omega) ?_|refine kWb (by omega) (by omega) ?_|refine kRj (by omega) ?_|refine kRk ?_|refine VSem.convI ?_|refine VRead.convI ?_|refine VRead.rem (by omega) (by decide) ?_|refine VRead.neg ?_|refine VC.seq ?_); (conv => whnf))))
    exact ⟨rfl, rfl⟩
theorem mayEntry_any (e : En) (A : Option Addr) (n c : Nat) (w : World) (hn : e.data.length = n) : Calls Try.prog 76 #[.agg #[.int .i64 e.term, .bool e.cmd, .slice A n c]] w fun r w' => r = .returned (.bool (decide (mayE e))) ∧ Below w.heap.size w w' := by
  refine calls_vc Try.func76 rfl (by kernel_rfl) ?_
  ((conv => whnf); (repeat ((first|refine kLa ?_|refine kLb ?_|refine kCa rfl ?_|refine kCb ?_|refine kCc ?_|refine kCd ?_|refine kCe ?_|refine kCf ?_|refine kCg ?_|refine kCh ?_|refine kCi ?_|refine kCj ?_|refine kQa ?_|refine kQb ?_|refine kGa ?_|refine kGb ?_|refine kHa ?_|refine kHb ?_); (conv => whnf))))
  ((repeat ((first|refine kLa ?_|refine kLb ?_|refine kCa rfl ?_|refine kCb ?_|refine kCc ?_|refine kCd ?_|refine kCe ?_|refine kCf ?_|refine kCg ?_|refine kCh ?_|refine kCi ?_|refine kCj ?_|refine kQa ?_|refine kQb ?_|refine kGa ?_|refine kGb ?_|refine kHa ?_|refine kHb ?_|refine kPa ?_|refine kPb ?_|refine kPc ?_|refine kEa ?_|refine kEb ?_|refine kBa ?_|refine kBb ?_|refine kBc (by omega) ?_|refine kBd (by omega) ?_|refine kBe (by omega) ?_|refine kBf (by omega) ?_|refine kRa ?_|refine kRb ?_|refine VRead.fld ?_|refine VRead.load1 (by assumption) ?_|refine VRead.load (by assumption) ?_|refine kRf ?_|refine kRg ?_|refine kRh ?_|refine kRi ?_|refine kBe rfl ?_|refine kBc rfl ?_|refine kWa (by omega) (by omega) ?_|refine kWb (by omega) (by omega) ?_|refine kRj (by omega) ?_|refine kRk ?_|refine VSem.convI ?_|refine VRead.convI ?_|refine VRead.rem (by omega) (by decide) ?_|refine VRead.neg ?_|refine VC.seq ?_); (conv => whnf))))
  refine VSem.boxB ?_
  intro w1 g hb hg hl hB1
  replace hb : Blk w1 g 67 #[.int .i64 e.term, .bool e.cmd, .slice A n c] := hb
  by_cases h1 : 1 ≤ e.term
  case neg =>
    rw [decide_eq_false (fun h : mayE e => h1 h.1)]
    ((conv => whnf); (repeat ((first|refine kLa ?_|refine kLb ?_|refine kCa rfl ?_|refine kCb ?_|refine kCc ?_|refine kCd ?_|refine kCe ?_|refine kCf ?_|refine kCg ?_|refine kCh ?_|refine kCi ?_|refine kCj ?_|refine kQa ?_|refine kQb ?_|refine kGa ?_|refine kGb ?_|refine kHa ?_|refine kHb ?_); (conv => whnf))))
    (repeat (first | ((first|refine kLa ?_|refine kLb ?_|refine kCa rfl ?_|refine kCb ?_|refine kCc ?_|refine kCd ?_|refine kCe ?_|refine kCf ?_|refine kCg ?_|refine kCh ?_|refine kCi ?_|refine kCj ?_|refine kQa ?_|refine kQb ?_|refine kGa ?_|refine kGb ?_|refine kHa ?_|refine kHb ?_|refine kPa ?_|refine kPb ?_|refine kPc ?_|refine kEa ?_|refine kEb ?_|refine kBa ?_|refine kBb ?_|refine kBc (by omega) ?_|refine kBd (by omega) ?_|refine kBe (by omega) ?_|refine kBf (by omega) ?_|refine kRa ?_|refine kRb ?_|refine VRead.fld ?_|refine VRead.load1 (by assumption) ?_|refine VRead.load (by assumption) ?_|refine kRf ?_|refine kRg ?_|refine kRh ?_|refine kRi ?_|refine kBe rfl ?_|refine kBc rfl ?_|refine kWa (by omega) (by omega) ?_|refine kWb (by omega) (by omega) ?_|refine kRj (by omega) ?_|refine kRk ?_|refine VSem.convI ?_|refine VRead.convI ?_|refine VRead.rem (by omega) (by decide) ?_|refine VRead.neg ?_|refine VC.seq ?_); (conv => whnf)) | (refine VRead.loadB hb rfl rfl ?_; (conv => whnf))))
    exact ⟨rfl, hB1⟩
  by_cases h2 : e.term ≤ 1099511627776
  case neg =>
    rw [decide_eq_false (fun h : mayE e => h2 h.2.1)]
    ((conv => whnf); (repeat ((first|refine kLa ?_|refine kLb ?_|refine kCa rfl ?_|refine kCb ?_|refine kCc ?_|refine kCd ?_|refine kCe ?_|refine kCf ?_|refine kCg ?_|refine kCh ?_|refine kCi ?_|refine kCj ?_|refine kQa ?_|refine kQb ?_|refine kGa ?_|refine kGb ?_|refine kHa ?_|refine kHb ?_); (conv => whnf))))
    (repeat (first | ((first|refine kLa ?_|refine kLb ?_|refine kCa rfl ?_|refine kCb ?_|refine kCc ?_|refine kCd ?_|refine kCe ?_|refine kCf ?_|refine kCg ?_|refine kCh ?_|refine kCi ?_|refine kCj ?_|refine kQa ?_|refine kQb ?_|refine kGa ?_|refine kGb ?_|refine kHa ?_|refine kHb ?_|refine kPa ?_|refine kPb ?_|refine kPc ?_|refine kEa ?_|refine kEb ?_|refine kBa ?_|refine kBb ?_|refine kBc (by omega) ?_|refine kBd (by omega) ?_|refine kBe (by omega) ?_|refine kBf (by omega) ?_|refine kRa ?_|refine kRb ?_|refine VRead.fld ?_|refine VRead.load1 (by assumption) ?_|refine VRead.load (by assumption) ?_|refine kRf ?_|refine kRg ?_|refine kRh ?_|refine kRi ?_|refine kBe rfl ?_|refine kBc rfl ?_|refine kWa (by omega) (by omega) ?_|refine kWb (by omega) (by omega) ?_|refine kRj (by omega) ?_|refine kRk ?_|refine VSem.convI ?_|refine VRead.convI ?_|refine VRead.rem (by omega) (by decide) ?_|refine VRead.neg ?_|refine VC.seq ?_); (conv => whnf)) | (refine VRead.loadB hb rfl rfl ?_; (conv => whnf))))
    exact ⟨rfl, hB1⟩
  ((conv => whnf); (repeat ((first|refine kLa ?_|refine kLb ?_|refine kCa rfl ?_|refine kCb ?_|refine kCc ?_|refine kCd ?_|refine kCe ?_|refine kCf ?_|refine kCg ?_|refine kCh ?_|refine kCi ?_|refine kCj ?_|refine kQa ?_|refine kQb ?_|refine kGa ?_|refine kGb ?_|refine kHa ?_|refine kHb ?_); (conv => whnf))))
  (repeat (first | ((first|refine kLa ?_|refine kLb ?_|refine kCa rfl ?_|refine kCb ?_|refine kCc ?_|refine kCd ?_|refine kCe ?_|refine kCf ?_|refine kCg ?_|refine kCh ?_|refine kCi ?_|refine kCj ?_|refine kQa ?_|refine kQb ?_|refine kGa ?_|refine kGb ?_|refine kHa ?_|refine kHb ?_|refine kPa ?_|refine kPb ?_|refine kPc ?_|refine kEa ?_|refine kEb ?_|refine kBa ?_|refine kBb ?_|refine kBc (by omega) ?_|refine kBd (by omega) ?_|refine kBe (by omega) ?_|refine kBf (by omega) ?_|refine kRa ?_|refine kRb ?_|refine VRead.fld ?_|refine VRead.load1 (by assumption) ?_|refine VRead.load (by assumption) ?_|refine kRf ?_|refine kRg ?_|refine kRh ?_|refine kRi ?_|refine kBe rfl ?_|refine kBc rfl ?_|refine kWa (by omega) (by omega) ?_|refine kWb (by omega) (by omega) ?_|refine kRj (by omega) ?_|refine kRk ?_|refine VSem.convI ?_|refine VRead.convI ?_|refine VRead.rem (by omega) (by decide) ?_|refine VRead.neg ?_|refine VC.seq ?_); (conv => whnf)) | (refine VRead.loadB hb rfl rfl ?_; (conv => whnf))))
  refine ⟨?_, hB1⟩
  rw [show decide (mayE e) = decide ((n : Int) ≤ 1048476) from decide_eq_decide.2 ⟨fun h => by have := h.2.2; omega, fun h => ⟨h1, h2, by omega⟩⟩]
  rfl

/-! ### records -/
def numB (l : List Int) : List UInt8 := l.flatMap Wire.int
def recB (kind : UInt8) (l : List Int) : List UInt8 := kind :: numB l
theorem numB_len (l : List Int) : (numB l).length ≤ 10 * l.length ∧ l.length ≤ (numB l).length := by
  induction l with
  | nil => exact ⟨by simp [numB], by simp⟩
  | cons a l ih =>
    have h1 := Wire.int_len a
    have e : numB (a :: l) = Wire.int a ++ numB l := by unfold numB; rw [List.flatMap_cons]
    rw [e, List.length_append, List.length_cons]
    omega
theorem numB_succ {l : List Int} {k : Nat} {v : Int} (h : l[k]? = some v) : numB (l.take (k + 1)) = numB (l.take k) ++ Wire.int v := by
  unfold numB
  rw [List.take_add_one, h, List.flatMap_append]
  simp
theorem recB_len (kind : UInt8) (l : List Int) : (recB kind l).length ≤ 10 * l.length + 1 ∧ l.length + 1 ≤ (recB kind l).length := by
  have := numB_len l
  unfold recB
  rw [List.length_cons]
  omega
set_option maxHeartbeats 1000000 in
theorem record_any (kind : UInt8) (l : List Int) (A : Option Addr) (n c : Nat) (w : World) (hn : n ≤ 100) (hb : ∀ v ∈ l, -9223372036854775808 ≤ v ∧ v ≤ 9223372036854775807) (hr : Reads w w.heap.size 1 A n (iv .i64 l)) :
    Calls Try.prog 75 #[.int .u8 (kind.toNat : Int), .slice A n c] w fun e w' => ∃ A' m c', e = .returned (.slice A' m c') ∧ Own w' w.heap.size (.slice A' m c') m (recB kind l) ∧ m ≤ c' ∧ Below w.heap.size w w' := by
  have hln : l.length = n := by have := hr.1; simpa [iv] using this
  refine calls_vc Try.func75 rfl (by kernel_rfl) ?_
  ((conv => whnf); (repeat ((first|refine kLa ?_|refine kLb ?_|refine kCa rfl ?_|refine kCb ?_|refine kCc ?_|refine kCd ?_|refine kCe ?_|refine kCf ?_|refine kCg ?_|refine kCh ?_|refine kCi ?_|refine kCj ?_|refine kQa ?_|refine kQb ?_|refine kGa ?_|refine kGb ?_|refine kHa ?_|refine kHb ?_); (conv => whnf))))
  ((repeat ((first|refine kLa ?_|refine kLb ?_|refine kCa rfl ?_|refine kCb ?_|refine kCc ?_|refine kCd ?_|refine kCe ?_|refine kCf ?_|refine kCg ?_|refine kCh ?_|refine kCi ?_|refine kCj ?_|refine kQa ?_|refine kQb ?_|refine kGa ?_|refine kGb ?_|refine kHa ?_|refine kHb ?_|refine kPa ?_|refine kPb ?_|refine kPc ?_|refine kEa ?_|refine kEb ?_|refine kBa ?_|refine kBb ?_|refine kBc (by omega) ?_|refine kBd (by omega) ?_|refine kBe (by omega) ?_|refine kBf (by omega) ?_|refine kRa ?_|refine kRb ?_|refine VRead.fld ?_|refine VRead.load1 (by assumption) ?_|refine VRead.load (by assumption) ?_|refine kRf ?_|refine kRg ?_|refine kRh ?_|refine kRi ?_|refine kBe rfl ?_|refine kBc rfl ?_|refine kWa (by omega) (by omega) ?_|refine kWb (by omega) (by omega) ?_|refine kRj (by omega) ?_|refine kRk ?_|refine VSem.convI ?_|refine VRead.convI ?_|refine VRead.rem (by omega) (by decide) ?_|refine VRead.neg ?_|refine VC.seq ?_); (conv => whnf))))
  refine VSem.buildR (ps := [(0, .int .u8 (kind.toNat : Int))]) rfl rfl (by simp [Value.oneCell']) (by omega) ?_
  intro w1 hw1 hB1 hz1
  replace hw1 : Own w1 w.heap.size (.slice (some ⟨w.heap.size, 0, none⟩) 1 1) 1 (recB kind (l.take 0)) := hw1
  ((conv => whnf); (repeat ((first|refine kLa ?_|refine kLb ?_|refine kCa rfl ?_|refine kCb ?_|refine kCc ?_|refine kCd ?_|refine kCe ?_|refine kCf ?_|refine kCg ?_|refine kCh ?_|refine kCi ?_|refine kCj ?_|refine kQa ?_|refine kQb ?_|refine kGa ?_|refine kGb ?_|refine kHa ?_|refine kHb ?_); (conv => whnf))))
  ((repeat ((first|refine kLa ?_|refine kLb ?_|refine kCa rfl ?_|refine kCb ?_|refine kCc ?_|refine kCd ?_|refine kCe ?_|refine kCf ?_|refine kCg ?_|refine kCh ?_|refine kCi ?_|refine kCj ?_|refine kQa ?_|refine kQb ?_|refine kGa ?_|refine kGb ?_|refine kHa ?_|refine kHb ?_|refine kPa ?_|refine kPb ?_|refine kPc ?_|refine kEa ?_|refine kEb ?_|refine kBa ?_|refine kBb ?_|refine kBc (by omega) ?_|refine kBd (by omega) ?_|refine kBe (by omega) ?_|refine kBf (by omega) ?_|refine kRa ?_|refine kRb ?_|refine VRead.fld ?_|refine VRead.load1 (by assumption) ?_|refine VRead.load (by assumption) ?_|refine kRf ?_|refine kRg ?_|refine kRh ?_|refine kRi ?_|refine kBe rfl ?_|refine kBc rfl ?_|refine kWa (by omega) (by omega) ?_|refine kWb (by omega) (by omega) ?_|refine kRj (by omega) ?_|refine kRk ?_|refine VSem.convI ?_|refine VRead.convI ?_|refine VRead.rem (by omega) (by decide) ?_|refine VRead.neg ?_|refine VC.seq ?_); (conv => whnf))))
  refine VC.loop [5, 12] [(5, 5), (7, 7), (12, 19)] (fun q vs W => ∃ (k m c' : Nat) (A' : Option Addr), vs = [.slice A' m c', .int .i64 (k : Int)] ∧ q = n - k ∧ k ≤ n ∧ Own W w.heap.size (.slice A' m c') m (recB kind (l.take k)) ∧ Below w.heap.size w W) (by kernel_rfl)
    ⟨_, 0, 1, 1, _, rfl, rfl, by omega, hw1, hB1⟩ ?_
  rintro q τ vs W ⟨k, m, c', A', rfl, rfl, hk, hO, hB⟩
  have hml := hO.len
  have hrl := (recB_len kind (l.take k)).1
  rw [List.length_take] at hrl
  by_cases hlt : k < n
  · obtain ⟨v, hv⟩ : ∃ v, l[k]? = some v := ⟨_, List.getElem?_eq_getElem (by omega)⟩
    have hvb := hb v (List.mem_of_getElem? hv)
    obtain ⟨ad, u, rfl, _, hu, hcell⟩ := (hr.below hB).at_ hlt
    obtain ⟨v', hv', rfl⟩ := map_at hu
    rw [hv] at hv'
    obtain rfl := Option.some.inj hv'
    have e1 : recB kind (l.take k) ++ Wire.int v = recB kind (l.take (k + 1)) := by unfold recB; rw [numB_succ hv, List.cons_append]
    ((conv => whnf); (repeat ((first|refine kLa ?_|refine kLb ?_|refine kCa rfl ?_|refine kCb ?_|refine kCc ?_|refine kCd ?_|refine kCe ?_|refine kCf ?_|refine kCg ?_|refine kCh ?_|refine kCi ?_|refine kCj ?_|refine kQa ?_|refine kQb ?_|refine kGa ?_|refine kGb ?_|refine kHa ?_|refine kHb ?_); (conv => whnf))))
    (repeat (first | ((first|refine kLa ?_|refine kLb ?_|refine kCa rfl ?_|refine kCb ?_|refine kCc ?_|refine kCd ?_|refine kCe ?_|refine kCf ?_|refine kCg ?_|refine kCh ?_|refine kCi ?_|refine kCj ?_|refine kQa ?_|refine kQb ?_|refine kGa ?_|refine kGb ?_|refine kHa ?_|refine kHb ?_|refine kPa ?_|refine kPb ?_|refine kPc ?_|refine kEa ?_|refine kEb ?_|refine kBa ?_|refine kBb ?_|refine kBc (by omega) ?_|refine kBd (by omega) ?_|refine kBe (by omega) ?_|refine kBf (by omega) ?_|refine kRa ?_|refine kRb ?_|refine VRead.fld ?_|refine VRead.load1 (by assumption) ?_|refine VRead.load (by assumption) ?_|refine kRf ?_|refine kRg ?_|refine kRh ?_|refine kRi ?_|refine kBe rfl ?_|refine kBc rfl ?_|refine kWa (by omega) (by omega) ?_|refine kWb (by omega) (by omega) ?_|refine kRj (by omega) ?_|refine kRk ?_|refine VSem.convI ?_|refine VRead.convI ?_|refine VRead.rem (by omega) (by decide) ?_|refine VRead.neg ?_|refine VC.seq ?_); (conv => whnf)) | (refine kRj hlt ?_; (conv => whnf))))
    refine VCall.of (pInt_up (B := w.heap.size) A' m c' _ v W hB.size (by omega) hO.cap hvb hO.reads) ?_
    rintro e W2 ⟨A2, m2, c2, rfl, hO2, hm2, hm3, hc2, hB2⟩
    refine ⟨_, rfl, ?_⟩
    rw [e1] at hO2
    ((conv => whnf); (repeat ((first|refine kLa ?_|refine kLb ?_|refine kCa rfl ?_|refine kCb ?_|refine kCc ?_|refine kCd ?_|refine kCe ?_|refine kCf ?_|refine kCg ?_|refine kCh ?_|refine kCi ?_|refine kCj ?_|refine kQa ?_|refine kQb ?_|refine kGa ?_|refine kGb ?_|refine kHa ?_|refine kHb ?_); (conv => whnf))))
    ((repeat ((first|refine kLa ?_|refine kLb ?_|refine kCa rfl ?_|refine kCb ?_|refine kCc ?_|refine kCd ?_|refine kCe ?_|refine kCf ?_|refine kCg ?_|refine kCh ?_|refine kCi ?_|refine kCj ?_|refine kQa ?_|refine kQb ?_|refine kGa ?_|refine kGb ?_|refine kHa ?_|refine kHb ?_|refine kPa ?_|refine kPb ?_|refine kPc ?_|refine kEa ?_|refine kEb ?_|refine kBa ?_|refine kBb ?_|refine kBc (by omega) ?_|refine kBd (by omega) ?_|refine kBe (by omega) ?_|refine kBf (by omega) ?_|refine kRa ?_|refine kRb ?_|refine VRead.fld ?_|refine VRead.load1 (by assumption) ?_|refine VRead.load (by assumption) ?_|refine kRf ?_|refine kRg ?_|refine kRh ?_|refine kRi ?_|refine kBe rfl ?_|refine kBc rfl ?_|refine kWa (by omega) (by omega) ?_|refine kWb (by omega) (by omega) ?_|refine kRj (by omega) ?_|refine kRk ?_|refine VSem.convI ?_|refine VRead.convI ?_|refine VRead.rem (by omega) (by decide) ?_|refine VRead.neg ?_|refine VC.seq ?_); (conv => whnf))))
    exact ⟨_, by omega, k + 1, m2, c2, A2, rfl, rfl, by omega, hO2, hB.trans (hB2.mono hB.size)⟩
  · obtain rfl : k = n := by omega
    rw [List.take_of_length_le (by omega)] at hO
    ((conv => whnf); (repeat ((first|refine kLa ?_|refine kLb ?_|refine kCa rfl ?_|refine kCb ?_|refine kCc ?_|refine kCd ?_|refine kCe ?_|refine kCf ?_|refine kCg ?_|refine kCh ?_|refine kCi ?_|refine kCj ?_|refine kQa ?_|refine kQb ?_|refine kGa ?_|refine kGb ?_|refine kHa ?_|refine kHb ?_); (conv => whnf))))
    ((repeat ((first|refine kLa ?_|refine kLb ?_|refine kCa rfl ?_|refine kCb ?_|refine kCc ?_|refine kCd ?_|refine kCe ?_|refine kCf ?_|refine kCg ?_|refine kCh ?_|refine kCi ?_|refine kCj ?_|refine kQa ?_|refine kQb ?_|refine kGa ?_|refine kGb ?_|refine kHa ?_|refine kHb ?_|refine kPa ?_|refine kPb ?_|refine kPc ?_|refine kEa ?_|refine kEb ?_|refine kBa ?_|refine kBb ?_|refine kBc (by omega) ?_|refine kBd (by omega) ?_|refine kBe (by omega) ?_|refine kBf (by omega) ?_|refine kRa ?_|refine kRb ?_|refine VRead.fld ?_|refine VRead.load1 (by assumption) ?_|refine VRead.load (by assumption) ?_|refine kRf ?_|refine kRg ?_|refine kRh ?_|refine kRi ?_|refine kBe rfl ?_|refine kBc rfl ?_|refine kWa (by omega) (by omega) ?_|refine kWb (by omega) (by omega) ?_|refine kRj (by omega) ?_|refine kRk ?_|refine VSem.convI ?_|refine VRead.convI ?_|refine VRead.rem (by omega) (by decide) ?_|refine VRead.neg ?_|refine VC.seq ?_); (conv => whnf))))
    exact ⟨A', m, c', rfl, hO, hO.cap, hB⟩
/-- one entry's record -/
def entB (i : Int) (e : En) : List UInt8 := recB 2 [i, e.term] ++ Wire.bool e.cmd ++ Wire.text e.data
def written (i : Int) : List En → List UInt8
  | [] => []
  | e :: r => Frame.put (entB i e) ++ written (i + 1) r
theorem text_len (d : List UInt8) : (Wire.text d).length ≤ 10 + d.length ∧ d.length + 1 ≤ (Wire.text d).length := by
  have := Wire.int_len (d.length : Int)
  unfold Wire.text
  rw [List.length_append]
  omega
theorem entB_len (i : Int) (e : En) : 5 ≤ (entB i e).length ∧ (entB i e).length ≤ 32 + e.data.length := by
  have h1 := recB_len 2 [i, e.term]
  have h2 := text_len e.data
  have h3 : (Wire.bool e.cmd).length = 1 := rfl
  simp only [List.length_cons, List.length_nil] at h1
  unfold entB
  rw [List.length_append, List.length_append]
  omega
theorem written_cons (i : Int) (e : En) (r : List En) : written i (e :: r) = Frame.put (entB i e) ++ written (i + 1) r := rfl
theorem written_append (es fs : List En) (i : Int) : written i (es ++ fs) = written i es ++ written (i + es.length) fs := by
  induction es generalizing i with
  | nil => simp [written]
  | cons e es ih =>
    rw [List.cons_append, written_cons, written_cons, ih, List.append_assoc, List.length_cons]
    rw [show i + 1 + (es.length : Int) = i + ((es.length + 1 : Nat) : Int) by omega]
theorem written_one (i : Int) (e : En) : written i [e] = Frame.put (entB i e) := by simp [written]
theorem put_le (b : List UInt8) : (Frame.put b).length ≤ b.length + 30 := by
  have h1 := Frame.put_len b
  have h2 := (Wire.int_len (b.length : Int)).2
  omega
theorem written_len {es : List En} {i : Int} (h : ∀ e ∈ es, mayE e) : (written i es).length ≤ 1100000 * es.length := by
  induction es generalizing i with
  | nil => simp [written]
  | cons e es ih =>
    have h1 := (entB_len i e).2
    have h2 := (h e (by simp)).2.2
    have h3 := put_le (entB i e)
    have h4 := ih (i := i + 1) (fun x hx => h x (List.mem_cons_of_mem _ hx))
    unfold written
    rw [List.length_append, List.length_cons]
    omega
theorem Blk.fldW {W X : World} {g i : Nat} {T : TypeId} {cs : Array Value} {v : Value} (hb : Blk W g T cs) (hv : cs.toList[i]? = some v) (hX : Below W.heap.size W X) : X.cell? ((⟨g, 0, none⟩ : Addr).add i) = some v := by
  have h := (hb.below hX hb.lt).cell i
  rw [add_lit, h, ← hv]
  simp
end Go.Proofs.Ytebeidnmplnlpaa
end
