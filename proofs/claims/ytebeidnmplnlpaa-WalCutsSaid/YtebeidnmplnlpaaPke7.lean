/- Texts joined: WalH. No condition. -/
import Derived.Test.YtebeidnmplnlpaaPke6
section
set_option maxRecDepth 10000
namespace Go.Proofs.Ytebeidnmplnlpaa
set_option linter.unusedVariables false
open Go.RowKit

theorem VRead.idxAW {P : Program} {S : World → Prop} {t n e j : Nat} {cs : Array Value} {v : Value} {kk : IntKind} {K : Value → Prop} [i : TArr P t n e 1] [c : TCell P e] (h : j < n) (hv : cs.toList[j]? = some v) (hk : K v) : VRead P S (Instr.index t (.agg cs) (.int kk (j : Int))) K := by
  refine .ofW (v := v) (fun W => ?_) hk
  have hv' : cs[j]? = some v := by rw [← hv]; simp
  unfold Instr.index Go.part
  simp [asIntOf, run_underlying i.u, run_isAgg_cell c.c, run_size i.s, hv', h]
section
variable (W : World) (U : Foot) (g d p q : Nat) (S : DS) (wl : WlS) (h : Dsk W U d S) (hw : Blk W g 105 (wlC d wl)) (hp : Blk W p 60 #[.pointer (some ⟨g, 0, none⟩)]) (hc : S.k.calls + 10 < 1000000)
include h hw hp hc
theorem anew1_any :
    Calls Try.prog 80 #[.pointer (some ⟨p, 0, none⟩)] W fun e W' => e = .returned (.int .i64 (S.create wTmp).1) ∧ ∃ U', Dsk W' U' d (S.create wTmp).2 ∧ Step W U W' U' := by
  refine calls_vc Try.func80 rfl (by kernel_rfl) ?_
  ((conv => whnf); (repeat ((first|refine kLa ?_|refine kLb ?_|refine kCa rfl ?_|refine kCb ?_|refine kCc ?_|refine kCd ?_|refine kCe ?_|refine kCf ?_|refine kCg ?_|refine kCh ?_|refine kCi ?_|refine kCj ?_|refine kQa ?_|refine kQb ?_|refine kGa ?_|refine kGb ?_|refine kHa ?_|refine kHb ?_); (conv => whnf))))
  (repeat (first | ((first|refine kLa ?_|refine kLb ?_|refine kCa rfl ?_|refine kCb ?_|refine kCc ?_|refine kCd ?_|refine kCe ?_|refine kCf ?_|refine kCg ?_|refine kCh ?_|refine kCi ?_|refine kCj ?_|refine kQa ?_|refine kQb ?_|refine kGa ?_|refine kGb ?_|refine kHa ?_|refine kHb ?_|refine kPa ?_|refine kPb ?_|refine kPc ?_|refine kEa ?_|refine kEb ?_|refine kBa ?_|refine kBb ?_|refine kBc (by omega) ?_|refine kBd (by omega) ?_|refine kBe (by omega) ?_|refine kBf (by omega) ?_|refine kRa ?_|refine kRb ?_|refine VRead.fld ?_|refine VRead.load1 (by assumption) ?_|refine VRead.load (by assumption) ?_|refine kRf ?_|refine kRg ?_|refine kRh ?_|refine kRi ?_|refine kBe rfl ?_|refine kBc rfl ?_|refine kWa (by omega) (by omega) ?_|refine kWb (by omega) (by omega) ?_|refine kRj (by omega) ?_|refine kRk ?_|refine VSem.convI ?_|refine VRead.convI ?_|refine VRead.rem (by omega) (by decide) ?_|refine VRead.neg ?_|refine VC.seq ?_); (conv => whnf)) | (refine VRead.loadB hp rfl rfl ?_; (conv => whnf)) | (refine VRead.loadB hw rfl rfl ?_; (conv => whnf))))
  refine VCall.of (oCreate W U d S wTmp h (by omega) (by decide)) ?_
  rintro e W1 ⟨rfl, U1, hd1, st1⟩
  refine ⟨_, rfl, ?_⟩
  ((conv => whnf); (repeat ((first|refine kLa ?_|refine kLb ?_|refine kCa rfl ?_|refine kCb ?_|refine kCc ?_|refine kCd ?_|refine kCe ?_|refine kCf ?_|refine kCg ?_|refine kCh ?_|refine kCi ?_|refine kCj ?_|refine kQa ?_|refine kQb ?_|refine kGa ?_|refine kGb ?_|refine kHa ?_|refine kHb ?_); (conv => whnf))))
  ((repeat ((first|refine kLa ?_|refine kLb ?_|refine kCa rfl ?_|refine kCb ?_|refine kCc ?_|refine kCd ?_|refine kCe ?_|refine kCf ?_|refine kCg ?_|refine kCh ?_|refine kCi ?_|refine kCj ?_|refine kQa ?_|refine kQb ?_|refine kGa ?_|refine kGb ?_|refine kHa ?_|refine kHb ?_|refine kPa ?_|refine kPb ?_|refine kPc ?_|refine kEa ?_|refine kEb ?_|refine kBa ?_|refine kBb ?_|refine kBc (by omega) ?_|refine kBd (by omega) ?_|refine kBe (by omega) ?_|refine kBf (by omega) ?_|refine kRa ?_|refine kRb ?_|refine VRead.fld ?_|refine VRead.load1 (by assumption) ?_|refine VRead.load (by assumption) ?_|refine kRf ?_|refine kRg ?_|refine kRh ?_|refine kRi ?_|refine kBe rfl ?_|refine kBc rfl ?_|refine kWa (by omega) (by omega) ?_|refine kWb (by omega) (by omega) ?_|refine kRj (by omega) ?_|refine kRk ?_|refine VSem.convI ?_|refine VRead.convI ?_|refine VRead.rem (by omega) (by decide) ?_|refine VRead.neg ?_|refine VC.seq ?_); (conv => whnf))))
  exact ⟨rfl, U1, hd1, st1⟩
theorem anew3_any :
    Calls Try.prog 82 #[.pointer (some ⟨p, 0, none⟩)] W fun e W' => e = .returned (.int .i64 (S.sync wTmp).1) ∧ ∃ U', Dsk W' U' d (S.sync wTmp).2 ∧ Step W U W' U' := by
  refine calls_vc Try.func82 rfl (by kernel_rfl) ?_
  ((conv => whnf); (repeat ((first|refine kLa ?_|refine kLb ?_|refine kCa rfl ?_|refine kCb ?_|refine kCc ?_|refine kCd ?_|refine kCe ?_|refine kCf ?_|refine kCg ?_|refine kCh ?_|refine kCi ?_|refine kCj ?_|refine kQa ?_|refine kQb ?_|refine kGa ?_|refine kGb ?_|refine kHa ?_|refine kHb ?_); (conv => whnf))))
  (repeat (first | ((first|refine kLa ?_|refine kLb ?_|refine kCa rfl ?_|refine kCb ?_|refine kCc ?_|refine kCd ?_|refine kCe ?_|refine kCf ?_|refine kCg ?_|refine kCh ?_|refine kCi ?_|refine kCj ?_|refine kQa ?_|refine kQb ?_|refine kGa ?_|refine kGb ?_|refine kHa ?_|refine kHb ?_|refine kPa ?_|refine kPb ?_|refine kPc ?_|refine kEa ?_|refine kEb ?_|refine kBa ?_|refine kBb ?_|refine kBc (by omega) ?_|refine kBd (by omega) ?_|refine kBe (by omega) ?_|refine kBf (by omega) ?_|refine kRa ?_|refine kRb ?_|refine VRead.fld ?_|refine VRead.load1 (by assumption) ?_|refine VRead.load (by assumption) ?_|refine kRf ?_|refine kRg ?_|refine kRh ?_|refine kRi ?_|refine kBe rfl ?_|refine kBc rfl ?_|refine kWa (by omega) (by omega) ?_|refine kWb (by omega) (by omega) ?_|refine kRj (by omega) ?_|refine kRk ?_|refine VSem.convI ?_|refine VRead.convI ?_|refine VRead.rem (by omega) (by decide) ?_|refine VRead.neg ?_|refine VC.seq ?_); (conv => whnf)) | (refine VRead.loadB hp rfl rfl ?_; (conv => whnf)) | (refine VRead.loadB hw rfl rfl ?_; (conv => whnf))))
  refine VCall.of (oSync W U d S wTmp h (by omega) (by decide)) ?_
  rintro e W1 ⟨rfl, U1, hd1, st1⟩
  refine ⟨_, rfl, ?_⟩
  ((conv => whnf); (repeat ((first|refine kLa ?_|refine kLb ?_|refine kCa rfl ?_|refine kCb ?_|refine kCc ?_|refine kCd ?_|refine kCe ?_|refine kCf ?_|refine kCg ?_|refine kCh ?_|refine kCi ?_|refine kCj ?_|refine kQa ?_|refine kQb ?_|refine kGa ?_|refine kGb ?_|refine kHa ?_|refine kHb ?_); (conv => whnf))))
  ((repeat ((first|refine kLa ?_|refine kLb ?_|refine kCa rfl ?_|refine kCb ?_|refine kCc ?_|refine kCd ?_|refine kCe ?_|refine kCf ?_|refine kCg ?_|refine kCh ?_|refine kCi ?_|refine kCj ?_|refine kQa ?_|refine kQb ?_|refine kGa ?_|refine kGb ?_|refine kHa ?_|refine kHb ?_|refine kPa ?_|refine kPb ?_|refine kPc ?_|refine kEa ?_|refine kEb ?_|refine kBa ?_|refine kBb ?_|refine kBc (by omega) ?_|refine kBd (by omega) ?_|refine kBe (by omega) ?_|refine kBf (by omega) ?_|refine kRa ?_|refine kRb ?_|refine VRead.fld ?_|refine VRead.load1 (by assumption) ?_|refine VRead.load (by assumption) ?_|refine kRf ?_|refine kRg ?_|refine kRh ?_|refine kRi ?_|refine kBe rfl ?_|refine kBc rfl ?_|refine kWa (by omega) (by omega) ?_|refine kWb (by omega) (by omega) ?_|refine kRj (by omega) ?_|refine kRk ?_|refine VSem.convI ?_|refine VRead.convI ?_|refine VRead.rem (by omega) (by decide) ?_|refine VRead.neg ?_|refine VC.seq ?_); (conv => whnf))))
  exact ⟨rfl, U1, hd1, st1⟩
variable (hgU : ¬ U g) (hpU : ¬ U p) (hqU : ¬ U q)
include hgU hpU hqU
theorem anew2_any (B : Nat) (A : Option Addr) (n c : Nat) (b : List UInt8) (hq : Blk W q 31 #[.slice A n c]) (hr : Own W B (.slice A n c) n b) (hn : n ≤ 140737488351232) :
    Calls Try.prog 81 #[.pointer (some ⟨p, 0, none⟩), .pointer (some ⟨q, 0, none⟩)] W fun e W' => e = .returned (.int .i64 (S.append wTmp b).1) ∧ ∃ U', Dsk W' U' d (S.append wTmp b).2 ∧ Step W U W' U' := by
  refine calls_vc Try.func81 rfl (by kernel_rfl) ?_
  ((conv => whnf); (repeat ((first|refine kLa ?_|refine kLb ?_|refine kCa rfl ?_|refine kCb ?_|refine kCc ?_|refine kCd ?_|refine kCe ?_|refine kCf ?_|refine kCg ?_|refine kCh ?_|refine kCi ?_|refine kCj ?_|refine kQa ?_|refine kQb ?_|refine kGa ?_|refine kGb ?_|refine kHa ?_|refine kHb ?_); (conv => whnf))))
  ((repeat ((first|refine kLa ?_|refine kLb ?_|refine kCa rfl ?_|refine kCb ?_|refine kCc ?_|refine kCd ?_|refine kCe ?_|refine kCf ?_|refine kCg ?_|refine kCh ?_|refine kCi ?_|refine kCj ?_|refine kQa ?_|refine kQb ?_|refine kGa ?_|refine kGb ?_|refine kHa ?_|refine kHb ?_|refine kPa ?_|refine kPb ?_|refine kPc ?_|refine kEa ?_|refine kEb ?_|refine kBa ?_|refine kBb ?_|refine kBc (by omega) ?_|refine kBd (by omega) ?_|refine kBe (by omega) ?_|refine kBf (by omega) ?_|refine kRa ?_|refine kRb ?_|refine VRead.fld ?_|refine VRead.load1 (by assumption) ?_|refine VRead.load (by assumption) ?_|refine kRf ?_|refine kRg ?_|refine kRh ?_|refine kRi ?_|refine kBe rfl ?_|refine kBc rfl ?_|refine kWa (by omega) (by omega) ?_|refine kWb (by omega) (by omega) ?_|refine kRj (by omega) ?_|refine kRk ?_|refine VSem.convI ?_|refine VRead.convI ?_|refine VRead.rem (by omega) (by decide) ?_|refine VRead.neg ?_|refine VC.seq ?_); (conv => whnf))))
  refine VDraw.seg (fun Y => Blk Y p 60 #[.pointer (some ⟨g, 0, none⟩)] ∧ Blk Y g 105 (wlC d wl) ∧ Blk Y q 31 #[.slice A n c]) [([0, 1, 2, 3, 4], 5)] [6] (by kernel_rfl) (by kernel_rfl) ⟨hp, hw, hq⟩ ?_
  (conv => whnf)
  (repeat ((first|refine VRead.loadBS (fun Y hY => hY.1) rfl rfl ?_|refine VRead.loadBS (fun Y hY => hY.2.1) rfl rfl ?_|refine VRead.loadBS (fun Y hY => hY.2.2) rfl rfl ?_|refine kLa ?_|refine kLb ?_|refine kCa rfl ?_|refine kCb ?_|refine kCc ?_|refine kCd ?_|refine kCe ?_|refine kCf ?_|refine kCg ?_|refine kCh ?_|refine kCi ?_|refine kCj ?_|refine kQa ?_|refine kQb ?_|refine kGa ?_|refine kGb ?_|refine kHa ?_|refine kHb ?_|refine kPa ?_|refine kPb ?_|refine kPc ?_|refine kEa ?_|refine kEb ?_|refine kBa ?_|refine kBb ?_|refine kBc (by omega) ?_|refine kBd (by omega) ?_|refine kBe (by omega) ?_|refine kBf (by omega) ?_|refine kRa ?_|refine kRb ?_|refine VRead.fld ?_|refine VRead.load1 (by assumption) ?_|refine VRead.load (by assumption) ?_|refine kRf ?_|refine kRg ?_|refine kRh ?_|refine kRi ?_|refine kBe rfl ?_|refine kBc rfl ?_|refine kWa (by omega) (by omega) ?_|refine kWb (by omega) (by omega) ?_|refine kRj (by omega) ?_|refine kRk ?_|refine VSem.convI ?_|refine VRead.convI ?_|refine VRead.rem (by omega) (by decide) ?_|refine VRead.neg ?_|refine VC.seq ?_); (conv => whnf)))
  have hb1 : Below W.heap.size W (W.drewN 1) := below_drewN (Below.refl _ _) 1
  refine VCall.of (oAppend (W.drewN 1) U d S wTmp n c A b (h.below hb1) (by omega) (by decide) (Src.of_own (hr.below hb1 (Nat.le_refl _))) hn hr.cap) ?_
  rintro e W1 ⟨rfl, U1, hd1, st1⟩
  refine ⟨_, rfl, ?_⟩
  have st := (Step.new (U := U) hb1).trans st1
  (conv => whnf)
  refine Keep.mk ⟨(st.blk hp hpU).1, (st.blk hw hgU).1, (st.blk hq hqU).1⟩ ?_
  (conv => whnf)
  ((repeat ((first|refine kLa ?_|refine kLb ?_|refine kCa rfl ?_|refine kCb ?_|refine kCc ?_|refine kCd ?_|refine kCe ?_|refine kCf ?_|refine kCg ?_|refine kCh ?_|refine kCi ?_|refine kCj ?_|refine kQa ?_|refine kQb ?_|refine kGa ?_|refine kGb ?_|refine kHa ?_|refine kHb ?_|refine kPa ?_|refine kPb ?_|refine kPc ?_|refine kEa ?_|refine kEb ?_|refine kBa ?_|refine kBb ?_|refine kBc (by omega) ?_|refine kBd (by omega) ?_|refine kBe (by omega) ?_|refine kBf (by omega) ?_|refine kRa ?_|refine kRb ?_|refine VRead.fld ?_|refine VRead.load1 (by assumption) ?_|refine VRead.load (by assumption) ?_|refine kRf ?_|refine kRg ?_|refine kRh ?_|refine kRi ?_|refine kBe rfl ?_|refine kBc rfl ?_|refine kWa (by omega) (by omega) ?_|refine kWb (by omega) (by omega) ?_|refine kRj (by omega) ?_|refine kRk ?_|refine VSem.convI ?_|refine VRead.convI ?_|refine VRead.rem (by omega) (by decide) ?_|refine VRead.neg ?_|refine VC.seq ?_); (conv => whnf))))
  exact ⟨rfl, U1, hd1, st⟩
theorem anew4_any (nm : List UInt8) (hq : Blk W q 9 #[.string (txt nm)]) (hnm : nm.length ≤ 1000) :
    Calls Try.prog 83 #[.pointer (some ⟨p, 0, none⟩), .pointer (some ⟨q, 0, none⟩)] W fun e W' => e = .returned (.int .i64 (S.rename wTmp nm).1) ∧ ∃ U', Dsk W' U' d (S.rename wTmp nm).2 ∧ Step W U W' U' := by
  refine calls_vc Try.func83 rfl (by kernel_rfl) ?_
  ((conv => whnf); (repeat ((first|refine kLa ?_|refine kLb ?_|refine kCa rfl ?_|refine kCb ?_|refine kCc ?_|refine kCd ?_|refine kCe ?_|refine kCf ?_|refine kCg ?_|refine kCh ?_|refine kCi ?_|refine kCj ?_|refine kQa ?_|refine kQb ?_|refine kGa ?_|refine kGb ?_|refine kHa ?_|refine kHb ?_); (conv => whnf))))
  ((repeat ((first|refine kLa ?_|refine kLb ?_|refine kCa rfl ?_|refine kCb ?_|refine kCc ?_|refine kCd ?_|refine kCe ?_|refine kCf ?_|refine kCg ?_|refine kCh ?_|refine kCi ?_|refine kCj ?_|refine kQa ?_|refine kQb ?_|refine kGa ?_|refine kGb ?_|refine kHa ?_|refine kHb ?_|refine kPa ?_|refine kPb ?_|refine kPc ?_|refine kEa ?_|refine kEb ?_|refine kBa ?_|refine kBb ?_|refine kBc (by omega) ?_|refine kBd (by omega) ?_|refine kBe (by omega) ?_|refine kBf (by omega) ?_|refine kRa ?_|refine kRb ?_|refine VRead.fld ?_|refine VRead.load1 (by assumption) ?_|refine VRead.load (by assumption) ?_|refine kRf ?_|refine kRg ?_|refine kRh ?_|refine kRi ?_|refine kBe rfl ?_|refine kBc rfl ?_|refine kWa (by omega) (by omega) ?_|refine kWb (by omega) (by omega) ?_|refine kRj (by omega) ?_|refine kRk ?_|refine VSem.convI ?_|refine VRead.convI ?_|refine VRead.rem (by omega) (by decide) ?_|refine VRead.neg ?_|refine VC.seq ?_); (conv => whnf))))
  refine VDraw.seg (fun Y => Blk Y p 60 #[.pointer (some ⟨g, 0, none⟩)] ∧ Blk Y g 105 (wlC d wl) ∧ Blk Y q 9 #[.string (txt nm)]) [([0, 1, 2, 3, 4], 5)] [6] (by kernel_rfl) (by kernel_rfl) ⟨hp, hw, hq⟩ ?_
  (conv => whnf)
  (repeat ((first|refine VRead.loadBS (fun Y hY => hY.1) rfl rfl ?_|refine VRead.loadBS (fun Y hY => hY.2.1) rfl rfl ?_|refine VRead.loadBS (fun Y hY => hY.2.2) rfl rfl ?_|refine kLa ?_|refine kLb ?_|refine kCa rfl ?_|refine kCb ?_|refine kCc ?_|refine kCd ?_|refine kCe ?_|refine kCf ?_|refine kCg ?_|refine kCh ?_|refine kCi ?_|refine kCj ?_|refine kQa ?_|refine kQb ?_|refine kGa ?_|refine kGb ?_|refine kHa ?_|refine kHb ?_|refine kPa ?_|refine kPb ?_|refine kPc ?_|refine kEa ?_|refine kEb ?_|refine kBa ?_|refine kBb ?_|refine kBc (by omega) ?_|refine kBd (by omega) ?_|refine kBe (by omega) ?_|refine kBf (by omega) ?_|refine kRa ?_|refine kRb ?_|refine VRead.fld ?_|refine VRead.load1 (by assumption) ?_|refine VRead.load (by assumption) ?_|refine kRf ?_|refine kRg ?_|refine kRh ?_|refine kRi ?_|refine kBe rfl ?_|refine kBc rfl ?_|refine kWa (by omega) (by omega) ?_|refine kWb (by omega) (by omega) ?_|refine kRj (by omega) ?_|refine kRk ?_|refine VSem.convI ?_|refine VRead.convI ?_|refine VRead.rem (by omega) (by decide) ?_|refine VRead.neg ?_|refine VC.seq ?_); (conv => whnf)))
  have hb1 : Below W.heap.size W (W.drewN 1) := below_drewN (Below.refl _ _) 1
  refine VCall.of (oRename (W.drewN 1) U d S wTmp nm (h.below hb1) (by omega) (by decide) hnm) ?_
  rintro e W1 ⟨rfl, U1, hd1, st1⟩
  refine ⟨_, rfl, ?_⟩
  have st := (Step.new (U := U) hb1).trans st1
  (conv => whnf)
  refine Keep.mk ⟨(st.blk hp hpU).1, (st.blk hw hgU).1, (st.blk hq hqU).1⟩ ?_
  (conv => whnf)
  ((repeat ((first|refine kLa ?_|refine kLb ?_|refine kCa rfl ?_|refine kCb ?_|refine kCc ?_|refine kCd ?_|refine kCe ?_|refine kCf ?_|refine kCg ?_|refine kCh ?_|refine kCi ?_|refine kCj ?_|refine kQa ?_|refine kQb ?_|refine kGa ?_|refine kGb ?_|refine kHa ?_|refine kHb ?_|refine kPa ?_|refine kPb ?_|refine kPc ?_|refine kEa ?_|refine kEb ?_|refine kBa ?_|refine kBb ?_|refine kBc (by omega) ?_|refine kBd (by omega) ?_|refine kBe (by omega) ?_|refine kBf (by omega) ?_|refine kRa ?_|refine kRb ?_|refine VRead.fld ?_|refine VRead.load1 (by assumption) ?_|refine VRead.load (by assumption) ?_|refine kRf ?_|refine kRg ?_|refine kRh ?_|refine kRi ?_|refine kBe rfl ?_|refine kBc rfl ?_|refine kWa (by omega) (by omega) ?_|refine kWb (by omega) (by omega) ?_|refine kRj (by omega) ?_|refine kRk ?_|refine VSem.convI ?_|refine VRead.convI ?_|refine VRead.rem (by omega) (by decide) ?_|refine VRead.neg ?_|refine VC.seq ?_); (conv => whnf))))
  exact ⟨rfl, U1, hd1, st⟩
end
theorem Own.notBlkW {W : World} {B n q T : Nat} {v : Value} {l : List UInt8} {cs : Array Value} (h : Own W B v n l) (hb : Blk W q T cs) (hT : 5 ≠ T) : v.ownBlock ≠ some q := fun hq => by
  rcases h.2 with ⟨rfl, _⟩ | ⟨g', cap, cur, rfl, _, hc, _⟩
  · simp [Value.ownBlock] at hq
  · have : g' = q := by simpa [Value.ownBlock] using hq
    subst this
    unfold Blk at hb
    rw [hc] at hb
    injection hb with hb
    injection hb with _ h2 _
    exact hT h2
theorem Blk.rowG {W W' : World} {q T : Nat} {cs : Array Value} {row : Option Nat} (h : Blk W q T cs) (hg : W.grownBy W' row) (hne : row ≠ some q) : Blk W' q T cs := h.grown hg (fun e => hne e.symm)
theorem Blk.outW {W W' : World} {F : Foot} {q T : Nat} {cs : Array Value} (h : Blk W q T cs) (ho : Out F W W') (hne : ¬ F q) : Blk W' q T cs := (ho.block q h.lt hne).trans h
/-! ### Anew, plain -/
def wact (nm b : List UInt8) (k : Nat) (S : DS) : Int × DS := match k with
  | 0 => S.create wTmp
  | 1 => S.append wTmp b
  | 2 => S.sync wTmp
  | _ => S.rename wTmp nm
def wrun (nm b : List UInt8) : Nat → Nat → DS → Int × DS
  | 0, _, S => (0, S)
  | m + 1, k, S => andT (wact nm b k S) fun S' => wrun nm b m (k + 1) S'
def waB (k : Kp) : List UInt8 := Frame.put (recB 0 [k.base, k.bterm]) ++ Frame.put (recB 1 [k.term, k.vote]) ++ written (k.base + 1) k.es
def DS.wanew (S : DS) (w : WlS) (k : Kp) : (Int × DS) × WlS :=
  if ¬ mayK k then ((1, S), w) else if wName (w.n + 1) = [] then ((2, S), w) else
  let R := wrun (wName (w.n + 1)) (waB k) 4 0 S
  if ¬ R.1 = 0 then (R, w) else
  let w' : WlS := ⟨w.n + 1, k.base, k.base + k.es.length⟩
  if wName w.n = [] then ((0, R.2), w') else
  ((if (R.2.remove (wName w.n)).1 = 3 then 0 else (R.2.remove (wName w.n)).1, (R.2.remove (wName w.n)).2), w')
theorem wact_calls (nm b : List UInt8) (k : Nat) (S : DS) : (wact nm b k S).2.k.calls = S.k.calls + 1 := by
  unfold wact
  split
  · exact DS.create_calls S wTmp
  · exact DS.append_calls
  · exact DS.sync_calls
  · exact DS.rename_calls
set_option maxHeartbeats 4000000 in
theorem walAnew_any (W : World) (U : Foot) (g d : Nat) (S : DS) (wl : WlS) (k : Kp) (A : Option Addr) (n c : Nat) (h : Dsk W U d S) (hw : Blk W g 105 (wlC d wl)) (hg : ¬ U g) (hok : WlOk wl)
    (hE : EnAt W (fun j => j < W.heap.size) A n k.es) (hn : n ≤ 50000000) (hc : S.k.calls + 20 < 1000000) (hi1 : -9223372036854775808 ≤ k.base ∧ k.base ≤ 9223372036854775807) :
    Calls Try.prog 45 #[.pointer (some ⟨g, 0, none⟩), .agg (kC k A n c)] W fun e W' => e = .returned (.int .i64 (S.wanew wl k).1.1) ∧
      ∃ U', Dsk W' U' d (S.wanew wl k).1.2 ∧ Blk W' g 105 (wlC d (S.wanew wl k).2) ∧ ¬ U' g ∧ Step W (addF U g) W' (addF U' g) := by
  obtain ⟨n1, n2, b1, b2, l1, l2⟩ := hok
  have hel := hE.1
  have hwn := wName_le wl.n
  have hwn1 := wName_le (wl.n + 1)
  refine calls_vc Try.func45 rfl (by kernel_rfl) ?_
  ((conv => whnf); (repeat ((first|refine kLa ?_|refine kLb ?_|refine kCa rfl ?_|refine kCb ?_|refine kCc ?_|refine kCd ?_|refine kCe ?_|refine kCf ?_|refine kCg ?_|refine kCh ?_|refine kCi ?_|refine kCj ?_|refine kQa ?_|refine kQb ?_|refine kGa ?_|refine kGb ?_|refine kHa ?_|refine kHb ?_); (conv => whnf))))
  ((repeat ((first|refine kLa ?_|refine kLb ?_|refine kCa rfl ?_|refine kCb ?_|refine kCc ?_|refine kCd ?_|refine kCe ?_|refine kCf ?_|refine kCg ?_|refine kCh ?_|refine kCi ?_|refine kCj ?_|refine kQa ?_|refine kQb ?_|refine kGa ?_|refine kGb ?_|refine kHa ?_|refine kHb ?_|refine kPa ?_|refine kPb ?_|refine kPc ?_|refine kEa ?_|refine kEb ?_|refine kBa ?_|refine kBb ?_|refine kBc (by omega) ?_|refine kBd (by omega) ?_|refine kBe (by omega) ?_|refine kBf (by omega) ?_|refine kRa ?_|refine kRb ?_|refine VRead.fld ?_|refine VRead.load1 (by assumption) ?_|refine VRead.load (by assumption) ?_|refine kRf ?_|refine kRg ?_|refine kRh ?_|refine kRi ?_|refine kBe rfl ?_|refine kBc rfl ?_|refine kWa (by omega) (by omega) ?_|refine kWb (by omega) (by omega) ?_|refine kRj (by omega) ?_|refine kRk ?_|refine VSem.convI ?_|refine VRead.convI ?_|refine VRead.rem (by omega) (by decide) ?_|refine VRead.neg ?_|refine VC.seq ?_); (conv => whnf))))
  refine VSem.boxB ?_
  intro W1 p hp hpe hpl hB1
  replace hp : Blk W1 p 60 #[.pointer (some ⟨g, 0, none⟩)] := hp
  ((conv => whnf); (repeat ((first|refine kLa ?_|refine kLb ?_|refine kCa rfl ?_|refine kCb ?_|refine kCc ?_|refine kCd ?_|refine kCe ?_|refine kCf ?_|refine kCg ?_|refine kCh ?_|refine kCi ?_|refine kCj ?_|refine kQa ?_|refine kQb ?_|refine kGa ?_|refine kGb ?_|refine kHa ?_|refine kHb ?_); (conv => whnf))))
  ((repeat ((first|refine kLa ?_|refine kLb ?_|refine kCa rfl ?_|refine kCb ?_|refine kCc ?_|refine kCd ?_|refine kCe ?_|refine kCf ?_|refine kCg ?_|refine kCh ?_|refine kCi ?_|refine kCj ?_|refine kQa ?_|refine kQb ?_|refine kGa ?_|refine kGb ?_|refine kHa ?_|refine kHb ?_|refine kPa ?_|refine kPb ?_|refine kPc ?_|refine kEa ?_|refine kEb ?_|refine kBa ?_|refine kBb ?_|refine kBc (by omega) ?_|refine kBd (by omega) ?_|refine kBe (by omega) ?_|refine kBf (by omega) ?_|refine kRa ?_|refine kRb ?_|refine VRead.fld ?_|refine VRead.load1 (by assumption) ?_|refine VRead.load (by assumption) ?_|refine kRf ?_|refine kRg ?_|refine kRh ?_|refine kRi ?_|refine kBe rfl ?_|refine kBc rfl ?_|refine kWa (by omega) (by omega) ?_|refine kWb (by omega) (by omega) ?_|refine kRj (by omega) ?_|refine kRk ?_|refine VSem.convI ?_|refine VRead.convI ?_|refine VRead.rem (by omega) (by decide) ?_|refine VRead.neg ?_|refine VC.seq ?_); (conv => whnf))))
  refine VSem.boxB ?_
  intro W2 q3 hq hqe hql hB2
  replace hq : Blk W2 q3 63 (kC k A n c) := hq
  replace hp := hp.later hB2
  have hB02 := hB1.trans (hB2.mono hB1.size)
  have s1 := hB1.size
  have s2 := hB2.size
  ((conv => whnf); (repeat ((first|refine kLa ?_|refine kLb ?_|refine kCa rfl ?_|refine kCb ?_|refine kCc ?_|refine kCd ?_|refine kCe ?_|refine kCf ?_|refine kCg ?_|refine kCh ?_|refine kCi ?_|refine kCj ?_|refine kQa ?_|refine kQb ?_|refine kGa ?_|refine kGb ?_|refine kHa ?_|refine kHb ?_); (conv => whnf))))
  ((repeat ((first|refine kLa ?_|refine kLb ?_|refine kCa rfl ?_|refine kCb ?_|refine kCc ?_|refine kCd ?_|refine kCe ?_|refine kCf ?_|refine kCg ?_|refine kCh ?_|refine kCi ?_|refine kCj ?_|refine kQa ?_|refine kQb ?_|refine kGa ?_|refine kGb ?_|refine kHa ?_|refine kHb ?_|refine kPa ?_|refine kPb ?_|refine kPc ?_|refine kEa ?_|refine kEb ?_|refine kBa ?_|refine kBb ?_|refine kBc (by omega) ?_|refine kBd (by omega) ?_|refine kBe (by omega) ?_|refine kBf (by omega) ?_|refine kRa ?_|refine kRb ?_|refine VRead.fld ?_|refine VRead.load1 (by assumption) ?_|refine VRead.load (by assumption) ?_|refine kRf ?_|refine kRg ?_|refine kRh ?_|refine kRi ?_|refine kBe rfl ?_|refine kBc rfl ?_|refine kWa (by omega) (by omega) ?_|refine kWb (by omega) (by omega) ?_|refine kRj (by omega) ?_|refine kRk ?_|refine VSem.convI ?_|refine VRead.convI ?_|refine VRead.rem (by omega) (by decide) ?_|refine VRead.neg ?_|refine VC.seq ?_); (conv => whnf))))
  refine VRead.loadAB1 hq rfl rfl ?_
  ((conv => whnf); (repeat ((first|refine kLa ?_|refine kLb ?_|refine kCa rfl ?_|refine kCb ?_|refine kCc ?_|refine kCd ?_|refine kCe ?_|refine kCf ?_|refine kCg ?_|refine kCh ?_|refine kCi ?_|refine kCj ?_|refine kQa ?_|refine kQb ?_|refine kGa ?_|refine kGb ?_|refine kHa ?_|refine kHb ?_); (conv => whnf))))
  ((repeat ((first|refine kLa ?_|refine kLb ?_|refine kCa rfl ?_|refine kCb ?_|refine kCc ?_|refine kCd ?_|refine kCe ?_|refine kCf ?_|refine kCg ?_|refine kCh ?_|refine kCi ?_|refine kCj ?_|refine kQa ?_|refine kQb ?_|refine kGa ?_|refine kGb ?_|refine kHa ?_|refine kHb ?_|refine kPa ?_|refine kPb ?_|refine kPc ?_|refine kEa ?_|refine kEb ?_|refine kBa ?_|refine kBb ?_|refine kBc (by omega) ?_|refine kBd (by omega) ?_|refine kBe (by omega) ?_|refine kBf (by omega) ?_|refine kRa ?_|refine kRb ?_|refine VRead.fld ?_|refine VRead.load1 (by assumption) ?_|refine VRead.load (by assumption) ?_|refine kRf ?_|refine kRg ?_|refine kRh ?_|refine kRi ?_|refine kBe rfl ?_|refine kBc rfl ?_|refine kWa (by omega) (by omega) ?_|refine kWb (by omega) (by omega) ?_|refine kRj (by omega) ?_|refine kRk ?_|refine VSem.convI ?_|refine VRead.convI ?_|refine VRead.rem (by omega) (by decide) ?_|refine VRead.neg ?_|refine VC.seq ?_); (conv => whnf))))
  refine VCall.of (mayKept_any k A n c W2 ((hE.belowB hB02).more (fun j _ hj => by have : j < W.heap.size := hj; show j < W2.heap.size; omega)) (by omega)) ?_
  rintro e W3 ⟨rfl, hB3⟩
  refine ⟨_, rfl, ?_⟩
  replace hp := hp.later hB3
  replace hq := hq.later hB3
  have hB03 := hB02.trans (hB3.mono hB02.size)
  have s3 := hB3.size
  have hd3 := h.below hB03
  have hw3 := hw.later hB03
  have st3 := (Step.new (U := U) hB03)
  by_cases hm : mayK k
  case neg =>
    have e1 : S.wanew wl k = ((1, S), wl) := by unfold DS.wanew; rw [if_pos hm]
    rw [e1, decide_eq_false hm]
    ((conv => whnf); (repeat ((first|refine kLa ?_|refine kLb ?_|refine kCa rfl ?_|refine kCb ?_|refine kCc ?_|refine kCd ?_|refine kCe ?_|refine kCf ?_|refine kCg ?_|refine kCh ?_|refine kCi ?_|refine kCj ?_|refine kQa ?_|refine kQb ?_|refine kGa ?_|refine kGb ?_|refine kHa ?_|refine kHb ?_); (conv => whnf))))
    ((repeat ((first|refine kLa ?_|refine kLb ?_|refine kCa rfl ?_|refine kCb ?_|refine kCc ?_|refine kCd ?_|refine kCe ?_|refine kCf ?_|refine kCg ?_|refine kCh ?_|refine kCi ?_|refine kCj ?_|refine kQa ?_|refine kQb ?_|refine kGa ?_|refine kGb ?_|refine kHa ?_|refine kHb ?_|refine kPa ?_|refine kPb ?_|refine kPc ?_|refine kEa ?_|refine kEb ?_|refine kBa ?_|refine kBb ?_|refine kBc (by omega) ?_|refine kBd (by omega) ?_|refine kBe (by omega) ?_|refine kBf (by omega) ?_|refine kRa ?_|refine kRb ?_|refine VRead.fld ?_|refine VRead.load1 (by assumption) ?_|refine VRead.load (by assumption) ?_|refine kRf ?_|refine kRg ?_|refine kRh ?_|refine kRi ?_|refine kBe rfl ?_|refine kBc rfl ?_|refine kWa (by omega) (by omega) ?_|refine kWb (by omega) (by omega) ?_|refine kRj (by omega) ?_|refine kRk ?_|refine VSem.convI ?_|refine VRead.convI ?_|refine VRead.rem (by omega) (by decide) ?_|refine VRead.neg ?_|refine VC.seq ?_); (conv => whnf))))
    exact ⟨rfl, U, hd3, hw3, hg, st3.add g⟩
  obtain ⟨hme, hm1, hm2, hm3, hm4⟩ := id hm
  obtain ⟨m1, m2⟩ := hm1
  obtain ⟨m3, m4⟩ := hm2
  obtain ⟨m5, m6⟩ := hm3
  obtain ⟨m7, m8⟩ := hm4
  rw [decide_eq_true hm]
  ((conv => whnf); (repeat ((first|refine kLa ?_|refine kLb ?_|refine kCa rfl ?_|refine kCb ?_|refine kCc ?_|refine kCd ?_|refine kCe ?_|refine kCf ?_|refine kCg ?_|refine kCh ?_|refine kCi ?_|refine kCj ?_|refine kQa ?_|refine kQb ?_|refine kGa ?_|refine kGb ?_|refine kHa ?_|refine kHb ?_); (conv => whnf))))
  (repeat (first | ((first|refine kLa ?_|refine kLb ?_|refine kCa rfl ?_|refine kCb ?_|refine kCc ?_|refine kCd ?_|refine kCe ?_|refine kCf ?_|refine kCg ?_|refine kCh ?_|refine kCi ?_|refine kCj ?_|refine kQa ?_|refine kQb ?_|refine kGa ?_|refine kGb ?_|refine kHa ?_|refine kHb ?_|refine kPa ?_|refine kPb ?_|refine kPc ?_|refine kEa ?_|refine kEb ?_|refine kBa ?_|refine kBb ?_|refine kBc (by omega) ?_|refine kBd (by omega) ?_|refine kBe (by omega) ?_|refine kBf (by omega) ?_|refine kRa ?_|refine kRb ?_|refine VRead.fld ?_|refine VRead.load1 (by assumption) ?_|refine VRead.load (by assumption) ?_|refine kRf ?_|refine kRg ?_|refine kRh ?_|refine kRi ?_|refine kBe rfl ?_|refine kBc rfl ?_|refine kWa (by omega) (by omega) ?_|refine kWb (by omega) (by omega) ?_|refine kRj (by omega) ?_|refine kRk ?_|refine VSem.convI ?_|refine VRead.convI ?_|refine VRead.rem (by omega) (by decide) ?_|refine VRead.neg ?_|refine VC.seq ?_); (conv => whnf)) | (refine VRead.loadB hp rfl rfl ?_; (conv => whnf)) | (refine VRead.loadB hw3 rfl rfl ?_; (conv => whnf))))
  refine VCall.of (walName_any (wl.n + 1) W3 (by omega)) ?_
  rintro e W4 ⟨rfl, hB4⟩
  refine ⟨_, rfl, ?_⟩
  have s4 := hB4.size
  replace hp := hp.later hB4
  replace hq := hq.later hB4
  have hB04 := hB03.trans (hB4.mono hB03.size)
  ((conv => whnf); (repeat ((first|refine kLa ?_|refine kLb ?_|refine kCa rfl ?_|refine kCb ?_|refine kCc ?_|refine kCd ?_|refine kCe ?_|refine kCf ?_|refine kCg ?_|refine kCh ?_|refine kCi ?_|refine kCj ?_|refine kQa ?_|refine kQb ?_|refine kGa ?_|refine kGb ?_|refine kHa ?_|refine kHb ?_); (conv => whnf))))
  ((repeat ((first|refine kLa ?_|refine kLb ?_|refine kCa rfl ?_|refine kCb ?_|refine kCc ?_|refine kCd ?_|refine kCe ?_|refine kCf ?_|refine kCg ?_|refine kCh ?_|refine kCi ?_|refine kCj ?_|refine kQa ?_|refine kQb ?_|refine kGa ?_|refine kGb ?_|refine kHa ?_|refine kHb ?_|refine kPa ?_|refine kPb ?_|refine kPc ?_|refine kEa ?_|refine kEb ?_|refine kBa ?_|refine kBb ?_|refine kBc (by omega) ?_|refine kBd (by omega) ?_|refine kBe (by omega) ?_|refine kBf (by omega) ?_|refine kRa ?_|refine kRb ?_|refine VRead.fld ?_|refine VRead.load1 (by assumption) ?_|refine VRead.load (by assumption) ?_|refine kRf ?_|refine kRg ?_|refine kRh ?_|refine kRi ?_|refine kBe rfl ?_|refine kBc rfl ?_|refine kWa (by omega) (by omega) ?_|refine kWb (by omega) (by omega) ?_|refine kRj (by omega) ?_|refine kRk ?_|refine VSem.convI ?_|refine VRead.convI ?_|refine VRead.rem (by omega) (by decide) ?_|refine VRead.neg ?_|refine VC.seq ?_); (conv => whnf))))
  refine VSem.allocZ (z := .string (txt [])) (by kernel_rfl) ?_
  intro W5 q5 hq5 hqe5 hql5 hB5
  have s5 := hB5.size
  replace hp := hp.later hB5
  replace hq := hq.later hB5
  have hB05 := hB04.trans (hB5.mono hB04.size)
  ((conv => whnf); (repeat ((first|refine kLa ?_|refine kLb ?_|refine kCa rfl ?_|refine kCb ?_|refine kCc ?_|refine kCd ?_|refine kCe ?_|refine kCf ?_|refine kCg ?_|refine kCh ?_|refine kCi ?_|refine kCj ?_|refine kQa ?_|refine kQb ?_|refine kGa ?_|refine kGb ?_|refine kHa ?_|refine kHb ?_); (conv => whnf))))
  ((repeat ((first|refine kLa ?_|refine kLb ?_|refine kCa rfl ?_|refine kCb ?_|refine kCc ?_|refine kCd ?_|refine kCe ?_|refine kCf ?_|refine kCg ?_|refine kCh ?_|refine kCi ?_|refine kCj ?_|refine kQa ?_|refine kQb ?_|refine kGa ?_|refine kGb ?_|refine kHa ?_|refine kHb ?_|refine kPa ?_|refine kPb ?_|refine kPc ?_|refine kEa ?_|refine kEb ?_|refine kBa ?_|refine kBb ?_|refine kBc (by omega) ?_|refine kBd (by omega) ?_|refine kBe (by omega) ?_|refine kBf (by omega) ?_|refine kRa ?_|refine kRb ?_|refine VRead.fld ?_|refine VRead.load1 (by assumption) ?_|refine VRead.load (by assumption) ?_|refine kRf ?_|refine kRg ?_|refine kRh ?_|refine kRi ?_|refine kBe rfl ?_|refine kBc rfl ?_|refine kWa (by omega) (by omega) ?_|refine kWb (by omega) (by omega) ?_|refine kRj (by omega) ?_|refine kRk ?_|refine VSem.convI ?_|refine VRead.convI ?_|refine VRead.rem (by omega) (by decide) ?_|refine VRead.neg ?_|refine VC.seq ?_); (conv => whnf))))
  refine VUnit.storeB hq5 rfl rfl rfl ?_
  intro W6 hq6 hg6
  replace hq6 : Blk W6 q5 9 #[.string (txt (wName (wl.n + 1)))] := hq6
  replace hp := hp.only hg6 (by omega)
  replace hq := hq.only hg6 (by omega)
  have s6 := hg6.size
  have hB06 : Below W.heap.size W W6 := only_new hB05 hg6 (by omega) hB05.size
  have hd6 := h.below hB06
  have hw6 := hw.later hB06
  have st6 := (Step.new (U := U) hB06)
  have hgl := hw.lt
  by_cases hnm : wName (wl.n + 1) = []
  · have e1 : S.wanew wl k = ((2, S), wl) := by unfold DS.wanew; rw [if_neg (fun h => h hm), if_pos hnm]
    have hnm' : txt (wName (wl.n + 1)) = txt [] := by rw [hnm]
    rw [e1]
    ((conv => whnf); (repeat ((first|refine kLa ?_|refine kLb ?_|refine kCa rfl ?_|refine kCb ?_|refine kCc ?_|refine kCd ?_|refine kCe ?_|refine kCf ?_|refine kCg ?_|refine kCh ?_|refine kCi ?_|refine kCj ?_|refine kQa ?_|refine kQb ?_|refine kGa ?_|refine kGb ?_|refine kHa ?_|refine kHb ?_); (conv => whnf))))
    (repeat (first | ((first|refine kLa ?_|refine kLb ?_|refine kCa rfl ?_|refine kCb ?_|refine kCc ?_|refine kCd ?_|refine kCe ?_|refine kCf ?_|refine kCg ?_|refine kCh ?_|refine kCi ?_|refine kCj ?_|refine kQa ?_|refine kQb ?_|refine kGa ?_|refine kGb ?_|refine kHa ?_|refine kHb ?_|refine kPa ?_|refine kPb ?_|refine kPc ?_|refine kEa ?_|refine kEb ?_|refine kBa ?_|refine kBb ?_|refine kBc (by omega) ?_|refine kBd (by omega) ?_|refine kBe (by omega) ?_|refine kBf (by omega) ?_|refine kRa ?_|refine kRb ?_|refine VRead.fld ?_|refine VRead.load1 (by assumption) ?_|refine VRead.load (by assumption) ?_|refine kRf ?_|refine kRg ?_|refine kRh ?_|refine kRi ?_|refine kBe rfl ?_|refine kBc rfl ?_|refine kWa (by omega) (by omega) ?_|refine kWb (by omega) (by omega) ?_|refine kRj (by omega) ?_|refine kRk ?_|refine VSem.convI ?_|refine VRead.convI ?_|refine VRead.rem (by omega) (by decide) ?_|refine VRead.neg ?_|refine VC.seq ?_); (conv => whnf)) | (refine VRead.loadB hq6 rfl rfl ?_; (conv => whnf)) | (refine kBc hnm' ?_; (conv => whnf))))
    exact ⟨rfl, U, hd6, hw6, hg, st6.add g⟩
  have hnm' : ¬ txt (wName (wl.n + 1)) = txt [] := fun e => hnm (txt_inj.1 e)
  clear hd3 hw3 st3 hB1 hB2 hB3 hB4 hB5 hB02 hB03 hB04 hB05 hg6 hq5
  ((conv => whnf); (repeat ((first|refine kLa ?_|refine kLb ?_|refine kCa rfl ?_|refine kCb ?_|refine kCc ?_|refine kCd ?_|refine kCe ?_|refine kCf ?_|refine kCg ?_|refine kCh ?_|refine kCi ?_|refine kCj ?_|refine kQa ?_|refine kQb ?_|refine kGa ?_|refine kGb ?_|refine kHa ?_|refine kHb ?_); (conv => whnf))))
  (repeat (first | ((first|refine kLa ?_|refine kLb ?_|refine kCa rfl ?_|refine kCb ?_|refine kCc ?_|refine kCd ?_|refine kCe ?_|refine kCf ?_|refine kCg ?_|refine kCh ?_|refine kCi ?_|refine kCj ?_|refine kQa ?_|refine kQb ?_|refine kGa ?_|refine kGb ?_|refine kHa ?_|refine kHb ?_|refine kPa ?_|refine kPb ?_|refine kPc ?_|refine kEa ?_|refine kEb ?_|refine kBa ?_|refine kBb ?_|refine kBc (by omega) ?_|refine kBd (by omega) ?_|refine kBe (by omega) ?_|refine kBf (by omega) ?_|refine kRa ?_|refine kRb ?_|refine VRead.fld ?_|refine VRead.load1 (by assumption) ?_|refine VRead.load (by assumption) ?_|refine kRf ?_|refine kRg ?_|refine kRh ?_|refine kRi ?_|refine kBe rfl ?_|refine kBc rfl ?_|refine kWa (by omega) (by omega) ?_|refine kWb (by omega) (by omega) ?_|refine kRj (by omega) ?_|refine kRk ?_|refine VSem.convI ?_|refine VRead.convI ?_|refine VRead.rem (by omega) (by decide) ?_|refine VRead.neg ?_|refine VC.seq ?_); (conv => whnf)) | (refine VRead.loadB hq6 rfl rfl ?_; (conv => whnf)) | (refine kBd hnm' ?_; (conv => whnf)) | (refine VRead.loadB hq rfl rfl ?_; (conv => whnf))))
  refine VSem.buildR (ps := [(0, .int .i64 k.base), (1, .int .i64 k.bterm)]) rfl rfl (by simp [Value.oneCell']) (by omega) ?_
  intro X1 hO1 hC1 hz1
  have hr1 : Reads X1 X1.heap.size 1 (some ⟨W6.heap.size, 0, none⟩) 2 (iv .i64 [k.base, k.bterm]) := Reads.row hO1
  ((conv => whnf); (repeat ((first|refine kLa ?_|refine kLb ?_|refine kCa rfl ?_|refine kCb ?_|refine kCc ?_|refine kCd ?_|refine kCe ?_|refine kCf ?_|refine kCg ?_|refine kCh ?_|refine kCi ?_|refine kCj ?_|refine kQa ?_|refine kQb ?_|refine kGa ?_|refine kGb ?_|refine kHa ?_|refine kHb ?_); (conv => whnf))))
  ((repeat ((first|refine kLa ?_|refine kLb ?_|refine kCa rfl ?_|refine kCb ?_|refine kCc ?_|refine kCd ?_|refine kCe ?_|refine kCf ?_|refine kCg ?_|refine kCh ?_|refine kCi ?_|refine kCj ?_|refine kQa ?_|refine kQb ?_|refine kGa ?_|refine kGb ?_|refine kHa ?_|refine kHb ?_|refine kPa ?_|refine kPb ?_|refine kPc ?_|refine kEa ?_|refine kEb ?_|refine kBa ?_|refine kBb ?_|refine kBc (by omega) ?_|refine kBd (by omega) ?_|refine kBe (by omega) ?_|refine kBf (by omega) ?_|refine kRa ?_|refine kRb ?_|refine VRead.fld ?_|refine VRead.load1 (by assumption) ?_|refine VRead.load (by assumption) ?_|refine kRf ?_|refine kRg ?_|refine kRh ?_|refine kRi ?_|refine kBe rfl ?_|refine kBc rfl ?_|refine kWa (by omega) (by omega) ?_|refine kWb (by omega) (by omega) ?_|refine kRj (by omega) ?_|refine kRk ?_|refine VSem.convI ?_|refine VRead.convI ?_|refine VRead.rem (by omega) (by decide) ?_|refine VRead.neg ?_|refine VC.seq ?_); (conv => whnf))))
  refine VCall.of (record_any 0 [k.base, k.bterm] _ 2 2 X1 (by omega) (fun v hv => ?_) hr1) ?_
  · simp only [List.mem_cons, List.not_mem_nil, or_false] at hv
    rcases hv with rfl | rfl <;> omega
  rintro e X2 ⟨A2, m2', c2, rfl, hO2, hc2, hC2⟩
  refine ⟨_, rfl, ?_⟩
  have hl2 := hO2.len
  have hrl := recB_len 0 [k.base, k.bterm]
  simp only [List.length_cons, List.length_nil] at hrl
  ((conv => whnf); (repeat ((first|refine kLa ?_|refine kLb ?_|refine kCa rfl ?_|refine kCb ?_|refine kCc ?_|refine kCd ?_|refine kCe ?_|refine kCf ?_|refine kCg ?_|refine kCh ?_|refine kCi ?_|refine kCj ?_|refine kQa ?_|refine kQb ?_|refine kGa ?_|refine kGb ?_|refine kHa ?_|refine kHb ?_); (conv => whnf))))
  ((repeat ((first|refine kLa ?_|refine kLb ?_|refine kCa rfl ?_|refine kCb ?_|refine kCc ?_|refine kCd ?_|refine kCe ?_|refine kCf ?_|refine kCg ?_|refine kCh ?_|refine kCi ?_|refine kCj ?_|refine kQa ?_|refine kQb ?_|refine kGa ?_|refine kGb ?_|refine kHa ?_|refine kHb ?_|refine kPa ?_|refine kPb ?_|refine kPc ?_|refine kEa ?_|refine kEb ?_|refine kBa ?_|refine kBb ?_|refine kBc (by omega) ?_|refine kBd (by omega) ?_|refine kBe (by omega) ?_|refine kBf (by omega) ?_|refine kRa ?_|refine kRb ?_|refine VRead.fld ?_|refine VRead.load1 (by assumption) ?_|refine VRead.load (by assumption) ?_|refine kRf ?_|refine kRg ?_|refine kRh ?_|refine kRi ?_|refine kBe rfl ?_|refine kBc rfl ?_|refine kWa (by omega) (by omega) ?_|refine kWb (by omega) (by omega) ?_|refine kRj (by omega) ?_|refine kRk ?_|refine VSem.convI ?_|refine VRead.convI ?_|refine VRead.rem (by omega) (by decide) ?_|refine VRead.neg ?_|refine VC.seq ?_); (conv => whnf))))
  refine VCall.of (frPut_yes none 0 0 [] A2 m2' c2 (recB 0 [k.base, k.bterm]) X2 (by omega) (by omega) (by omega) (Nat.le_refl _) (Own.nil _ 0).reads hO2.reads) ?_
  rintro e X3 ⟨A3, m3', c3, rfl, hO3, hC3⟩
  refine ⟨_, rfl, ?_⟩
  rw [List.nil_append] at hO3
  have hl3 := hO3.len
  have hpl3 := put_le (recB 0 [k.base, k.bterm])
  have hC03 : Below W6.heap.size W6 X3 := (hC1.trans (hC2.mono hC1.size)).trans (hC3.mono (Nat.le_trans hC1.size hC2.size))
  have zC2 : W6.heap.size ≤ X2.heap.size := Nat.le_trans hC1.size hC2.size
  clear hO1 hr1 hO2 hC1 hC2 hC3
  have t3 := hC03.size
  ((conv => whnf); (repeat ((first|refine kLa ?_|refine kLb ?_|refine kCa rfl ?_|refine kCb ?_|refine kCc ?_|refine kCd ?_|refine kCe ?_|refine kCf ?_|refine kCg ?_|refine kCh ?_|refine kCi ?_|refine kCj ?_|refine kQa ?_|refine kQb ?_|refine kGa ?_|refine kGb ?_|refine kHa ?_|refine kHb ?_); (conv => whnf))))
  ((repeat ((first|refine kLa ?_|refine kLb ?_|refine kCa rfl ?_|refine kCb ?_|refine kCc ?_|refine kCd ?_|refine kCe ?_|refine kCf ?_|refine kCg ?_|refine kCh ?_|refine kCi ?_|refine kCj ?_|refine kQa ?_|refine kQb ?_|refine kGa ?_|refine kGb ?_|refine kHa ?_|refine kHb ?_|refine kPa ?_|refine kPb ?_|refine kPc ?_|refine kEa ?_|refine kEb ?_|refine kBa ?_|refine kBb ?_|refine kBc (by omega) ?_|refine kBd (by omega) ?_|refine kBe (by omega) ?_|refine kBf (by omega) ?_|refine kRa ?_|refine kRb ?_|refine VRead.fld ?_|refine VRead.load1 (by assumption) ?_|refine VRead.load (by assumption) ?_|refine kRf ?_|refine kRg ?_|refine kRh ?_|refine kRi ?_|refine kBe rfl ?_|refine kBc rfl ?_|refine kWa (by omega) (by omega) ?_|refine kWb (by omega) (by omega) ?_|refine kRj (by omega) ?_|refine kRk ?_|refine VSem.convI ?_|refine VRead.convI ?_|refine VRead.rem (by omega) (by decide) ?_|refine VRead.neg ?_|refine VC.seq ?_); (conv => whnf))))
  refine VSem.allocZ (z := .slice none 0 0) (by kernel_rfl) ?_
  intro X4 q6 hq7 hqe7 hql7 hC4
  have hO4 := hO3.below hC4 (Nat.le_refl _)
  have hC04 := hC03.trans (hC4.mono hC03.size)
  ((conv => whnf); (repeat ((first|refine kLa ?_|refine kLb ?_|refine kCa rfl ?_|refine kCb ?_|refine kCc ?_|refine kCd ?_|refine kCe ?_|refine kCf ?_|refine kCg ?_|refine kCh ?_|refine kCi ?_|refine kCj ?_|refine kQa ?_|refine kQb ?_|refine kGa ?_|refine kGb ?_|refine kHa ?_|refine kHb ?_); (conv => whnf))))
  ((repeat ((first|refine kLa ?_|refine kLb ?_|refine kCa rfl ?_|refine kCb ?_|refine kCc ?_|refine kCd ?_|refine kCe ?_|refine kCf ?_|refine kCg ?_|refine kCh ?_|refine kCi ?_|refine kCj ?_|refine kQa ?_|refine kQb ?_|refine kGa ?_|refine kGb ?_|refine kHa ?_|refine kHb ?_|refine kPa ?_|refine kPb ?_|refine kPc ?_|refine kEa ?_|refine kEb ?_|refine kBa ?_|refine kBb ?_|refine kBc (by omega) ?_|refine kBd (by omega) ?_|refine kBe (by omega) ?_|refine kBf (by omega) ?_|refine kRa ?_|refine kRb ?_|refine VRead.fld ?_|refine VRead.load1 (by assumption) ?_|refine VRead.load (by assumption) ?_|refine kRf ?_|refine kRg ?_|refine kRh ?_|refine kRi ?_|refine kBe rfl ?_|refine kBc rfl ?_|refine kWa (by omega) (by omega) ?_|refine kWb (by omega) (by omega) ?_|refine kRj (by omega) ?_|refine kRk ?_|refine VSem.convI ?_|refine VRead.convI ?_|refine VRead.rem (by omega) (by decide) ?_|refine VRead.neg ?_|refine VC.seq ?_); (conv => whnf))))
  refine VUnit.storeB hq7 rfl rfl rfl ?_
  intro X5 hq8 hg8
  replace hq8 : Blk X5 q6 31 #[.slice A3 m3' c3] := hq8
  have hO5 := hO4.storeApart hg8 (fun q' => by have := (World.ownsRow.lt hO3 q6 q').2; omega)
  have hC05 : Below W6.heap.size W6 X5 := only_new hC04 hg8 (by omega) hC04.size
  have t4 := hC4.size
  have t5 := hg8.size
  replace hp := hp.later hC05
  replace hq := hq.later hC05
  replace hq6 := hq6.later hC05
  clear hO3 hO4 hC4 hC04 hq7 hg8 hC03
  ((conv => whnf); (repeat ((first|refine kLa ?_|refine kLb ?_|refine kCa rfl ?_|refine kCb ?_|refine kCc ?_|refine kCd ?_|refine kCe ?_|refine kCf ?_|refine kCg ?_|refine kCh ?_|refine kCi ?_|refine kCj ?_|refine kQa ?_|refine kQb ?_|refine kGa ?_|refine kGb ?_|refine kHa ?_|refine kHb ?_); (conv => whnf))))
  (repeat (first | ((first|refine kLa ?_|refine kLb ?_|refine kCa rfl ?_|refine kCb ?_|refine kCc ?_|refine kCd ?_|refine kCe ?_|refine kCf ?_|refine kCg ?_|refine kCh ?_|refine kCi ?_|refine kCj ?_|refine kQa ?_|refine kQb ?_|refine kGa ?_|refine kGb ?_|refine kHa ?_|refine kHb ?_|refine kPa ?_|refine kPb ?_|refine kPc ?_|refine kEa ?_|refine kEb ?_|refine kBa ?_|refine kBb ?_|refine kBc (by omega) ?_|refine kBd (by omega) ?_|refine kBe (by omega) ?_|refine kBf (by omega) ?_|refine kRa ?_|refine kRb ?_|refine VRead.fld ?_|refine VRead.load1 (by assumption) ?_|refine VRead.load (by assumption) ?_|refine kRf ?_|refine kRg ?_|refine kRh ?_|refine kRi ?_|refine kBe rfl ?_|refine kBc rfl ?_|refine kWa (by omega) (by omega) ?_|refine kWb (by omega) (by omega) ?_|refine kRj (by omega) ?_|refine kRk ?_|refine VSem.convI ?_|refine VRead.convI ?_|refine VRead.rem (by omega) (by decide) ?_|refine VRead.neg ?_|refine VC.seq ?_); (conv => whnf)) | (refine VRead.loadB hq rfl rfl ?_; (conv => whnf))))
  refine VSem.buildR (ps := [(0, .int .i64 k.term), (1, .int .i64 k.vote)]) rfl rfl (by simp [Value.oneCell']) (by omega) ?_
  intro Y1 hP1 hD1 hy1
  have hr1 : Reads Y1 Y1.heap.size 1 (some ⟨X5.heap.size, 0, none⟩) 2 (iv .i64 [k.term, k.vote]) := Reads.row hP1
  ((conv => whnf); (repeat ((first|refine kLa ?_|refine kLb ?_|refine kCa rfl ?_|refine kCb ?_|refine kCc ?_|refine kCd ?_|refine kCe ?_|refine kCf ?_|refine kCg ?_|refine kCh ?_|refine kCi ?_|refine kCj ?_|refine kQa ?_|refine kQb ?_|refine kGa ?_|refine kGb ?_|refine kHa ?_|refine kHb ?_); (conv => whnf))))
  ((repeat ((first|refine kLa ?_|refine kLb ?_|refine kCa rfl ?_|refine kCb ?_|refine kCc ?_|refine kCd ?_|refine kCe ?_|refine kCf ?_|refine kCg ?_|refine kCh ?_|refine kCi ?_|refine kCj ?_|refine kQa ?_|refine kQb ?_|refine kGa ?_|refine kGb ?_|refine kHa ?_|refine kHb ?_|refine kPa ?_|refine kPb ?_|refine kPc ?_|refine kEa ?_|refine kEb ?_|refine kBa ?_|refine kBb ?_|refine kBc (by omega) ?_|refine kBd (by omega) ?_|refine kBe (by omega) ?_|refine kBf (by omega) ?_|refine kRa ?_|refine kRb ?_|refine VRead.fld ?_|refine VRead.load1 (by assumption) ?_|refine VRead.load (by assumption) ?_|refine kRf ?_|refine kRg ?_|refine kRh ?_|refine kRi ?_|refine kBe rfl ?_|refine kBc rfl ?_|refine kWa (by omega) (by omega) ?_|refine kWb (by omega) (by omega) ?_|refine kRj (by omega) ?_|refine kRk ?_|refine VSem.convI ?_|refine VRead.convI ?_|refine VRead.rem (by omega) (by decide) ?_|refine VRead.neg ?_|refine VC.seq ?_); (conv => whnf))))
  refine VCall.of (record_any 1 [k.term, k.vote] _ 2 2 Y1 (by omega) (fun v hv => ?_) hr1) ?_
  · simp only [List.mem_cons, List.not_mem_nil, or_false] at hv
    rcases hv with rfl | rfl <;> omega
  rintro e Y2 ⟨A4, m4', c4, rfl, hP2, hc4, hD2⟩
  refine ⟨_, rfl, ?_⟩
  have hl4 := hP2.len
  have hrl2 := recB_len 1 [k.term, k.vote]
  simp only [List.length_cons, List.length_nil] at hrl2
  ((conv => whnf); (repeat ((first|refine kLa ?_|refine kLb ?_|refine kCa rfl ?_|refine kCb ?_|refine kCc ?_|refine kCd ?_|refine kCe ?_|refine kCf ?_|refine kCg ?_|refine kCh ?_|refine kCi ?_|refine kCj ?_|refine kQa ?_|refine kQb ?_|refine kGa ?_|refine kGb ?_|refine kHa ?_|refine kHb ?_); (conv => whnf))))
  ((repeat ((first|refine kLa ?_|refine kLb ?_|refine kCa rfl ?_|refine kCb ?_|refine kCc ?_|refine kCd ?_|refine kCe ?_|refine kCf ?_|refine kCg ?_|refine kCh ?_|refine kCi ?_|refine kCj ?_|refine kQa ?_|refine kQb ?_|refine kGa ?_|refine kGb ?_|refine kHa ?_|refine kHb ?_|refine kPa ?_|refine kPb ?_|refine kPc ?_|refine kEa ?_|refine kEb ?_|refine kBa ?_|refine kBb ?_|refine kBc (by omega) ?_|refine kBd (by omega) ?_|refine kBe (by omega) ?_|refine kBf (by omega) ?_|refine kRa ?_|refine kRb ?_|refine VRead.fld ?_|refine VRead.load1 (by assumption) ?_|refine VRead.load (by assumption) ?_|refine kRf ?_|refine kRg ?_|refine kRh ?_|refine kRi ?_|refine kBe rfl ?_|refine kBc rfl ?_|refine kWa (by omega) (by omega) ?_|refine kWb (by omega) (by omega) ?_|refine kRj (by omega) ?_|refine kRk ?_|refine VSem.convI ?_|refine VRead.convI ?_|refine VRead.rem (by omega) (by decide) ?_|refine VRead.neg ?_|refine VC.seq ?_); (conv => whnf))))
  refine VCall.of (frPut_yes none 0 0 [] A4 m4' c4 (recB 1 [k.term, k.vote]) Y2 (by omega) (by omega) (by omega) (Nat.le_refl _) (Own.nil _ 0).reads hP2.reads) ?_
  rintro e Y3 ⟨A5, m5', c5, rfl, hP3, hD3⟩
  refine ⟨_, rfl, ?_⟩
  rw [List.nil_append] at hP3
  have hl5 := hP3.len
  have hpl5 := put_le (recB 1 [k.term, k.vote])
  have hD03 : Below X5.heap.size X5 Y3 := (hD1.trans (hD2.mono hD1.size)).trans (hD3.mono (Nat.le_trans hD1.size hD2.size))
  clear hP1 hr1 hP2 hD1 hD2 hD3
  have hO6 := (hO5.below hD03 (Nat.le_refl _)).more (B' := W.heap.size) (by omega)
  replace hp := hp.later hD03
  replace hq := hq.later hD03
  replace hq6 := hq6.later hD03
  replace hq8 := hq8.later hD03
  have hBY : Below W.heap.size W Y3 := (hB06.trans (hC05.mono hB06.size)).trans (hD03.mono (by omega))
  have hzY := hBY.size
  have u3 := hD03.size
  have hw7 := hw.later hBY
  clear hB06 hC05 hD03 hO5 hd6 hw6 st6
  have hqn : q6 ≠ q3 := by omega
  ((conv => whnf); (repeat ((first|refine kLa ?_|refine kLb ?_|refine kCa rfl ?_|refine kCb ?_|refine kCc ?_|refine kCd ?_|refine kCe ?_|refine kCf ?_|refine kCg ?_|refine kCh ?_|refine kCi ?_|refine kCj ?_|refine kQa ?_|refine kQb ?_|refine kGa ?_|refine kGb ?_|refine kHa ?_|refine kHb ?_); (conv => whnf))))
  ((repeat ((first|refine kLa ?_|refine kLb ?_|refine kCa rfl ?_|refine kCb ?_|refine kCc ?_|refine kCd ?_|refine kCe ?_|refine kCf ?_|refine kCg ?_|refine kCh ?_|refine kCi ?_|refine kCj ?_|refine kQa ?_|refine kQb ?_|refine kGa ?_|refine kGb ?_|refine kHa ?_|refine kHb ?_|refine kPa ?_|refine kPb ?_|refine kPc ?_|refine kEa ?_|refine kEb ?_|refine kBa ?_|refine kBb ?_|refine kBc (by omega) ?_|refine kBd (by omega) ?_|refine kBe (by omega) ?_|refine kBf (by omega) ?_|refine kRa ?_|refine kRb ?_|refine VRead.fld ?_|refine VRead.load1 (by assumption) ?_|refine VRead.load (by assumption) ?_|refine kRf ?_|refine kRg ?_|refine kRh ?_|refine kRi ?_|refine kBe rfl ?_|refine kBc rfl ?_|refine kWa (by omega) (by omega) ?_|refine kWb (by omega) (by omega) ?_|refine kRj (by omega) ?_|refine kRk ?_|refine VSem.convI ?_|refine VRead.convI ?_|refine VRead.rem (by omega) (by decide) ?_|refine VRead.neg ?_|refine VC.seq ?_); (conv => whnf))))
  refine VDraw.lasts (fun Y => Blk Y q6 31 #[.slice A3 m3' c3] ∧ Blk Y q3 63 (kC k A n c)) [([0, 1, 3, 4, 5, 6, 7], 2), ([], 8)] [] 9 (by kernel_rfl) (by kernel_rfl) ⟨hq8, hq⟩ ?_
  (conv => whnf)
  (repeat ((first|refine VRead.loadBS (fun Y hY => hY.1) rfl rfl ?_|refine VRead.loadBS (fun Y hY => hY.2) rfl rfl ?_|refine kLa ?_|refine kLb ?_|refine kCa rfl ?_|refine kCb ?_|refine kCc ?_|refine kCd ?_|refine kCe ?_|refine kCf ?_|refine kCg ?_|refine kCh ?_|refine kCi ?_|refine kCj ?_|refine kQa ?_|refine kQb ?_|refine kGa ?_|refine kGb ?_|refine kHa ?_|refine kHb ?_|refine kPa ?_|refine kPb ?_|refine kPc ?_|refine kEa ?_|refine kEb ?_|refine kBa ?_|refine kBb ?_|refine kBc (by omega) ?_|refine kBd (by omega) ?_|refine kBe (by omega) ?_|refine kBf (by omega) ?_|refine kRa ?_|refine kRb ?_|refine VRead.fld ?_|refine VRead.load1 (by assumption) ?_|refine VRead.load (by assumption) ?_|refine kRf ?_|refine kRg ?_|refine kRh ?_|refine kRi ?_|refine kBe rfl ?_|refine kBc rfl ?_|refine kWa (by omega) (by omega) ?_|refine kWb (by omega) (by omega) ?_|refine kRj (by omega) ?_|refine kRk ?_|refine VSem.convI ?_|refine VRead.convI ?_|refine VRead.rem (by omega) (by decide) ?_|refine VRead.neg ?_|refine VC.seq ?_); (conv => whnf)))
  have hE1 : Below Y3.heap.size Y3 (Y3.drewN 1) := below_drewN (Below.refl _ _) 1
  replace hO6 := hO6.below hE1 (Nat.le_refl _)
  replace hP3 := hP3.below hE1 (Nat.le_refl _)
  replace hp := hp.later hE1
  replace hq := hq.later hE1
  replace hq6 := hq6.later hE1
  replace hq8 := hq8.later hE1
  have hBY1 := hBY.trans (hE1.mono hzY)
  have u4 := hE1.size
  generalize Y3.drewN 1 = Y4 at *
  refine VSem.appOb hO6 hP3.reads (by omega) (by omega) ?_
  intro A6 c6 Y5 hO7 hgr hblk
  have np := hO6.notBlkW hp (by decide)
  have nq := hO6.notBlkW hq (by decide)
  have nq6 := hO6.notBlkW hq6 (by decide)
  have nq8 := hO6.notBlkW hq8 (by decide)
  replace hp := hp.rowG hgr np
  replace hq := hq.rowG hgr nq
  replace hq6 := hq6.rowG hgr nq6
  replace hq8 := hq8.rowG hgr nq8
  have hBY5 : Below W.heap.size W Y5 := hBY1.grown hgr (by omega) (fun j hj => (World.ownsRow.lt hO6 j hj).1)
  (conv => whnf)
  refine Keep.mk ⟨hq8, hq⟩ ?_
  (conv => whnf)
  (repeat ((first|refine VRead.loadBS (fun Y hY => hY.1) rfl rfl ?_|refine VRead.loadBS (fun Y hY => hY.2) rfl rfl ?_|refine kLa ?_|refine kLb ?_|refine kCa rfl ?_|refine kCb ?_|refine kCc ?_|refine kCd ?_|refine kCe ?_|refine kCf ?_|refine kCg ?_|refine kCh ?_|refine kCi ?_|refine kCj ?_|refine kQa ?_|refine kQb ?_|refine kGa ?_|refine kGb ?_|refine kHa ?_|refine kHb ?_|refine kPa ?_|refine kPb ?_|refine kPc ?_|refine kEa ?_|refine kEb ?_|refine kBa ?_|refine kBb ?_|refine kBc (by omega) ?_|refine kBd (by omega) ?_|refine kBe (by omega) ?_|refine kBf (by omega) ?_|refine kRa ?_|refine kRb ?_|refine VRead.fld ?_|refine VRead.load1 (by assumption) ?_|refine VRead.load (by assumption) ?_|refine kRf ?_|refine kRg ?_|refine kRh ?_|refine kRi ?_|refine kBe rfl ?_|refine kBc rfl ?_|refine kWa (by omega) (by omega) ?_|refine kWb (by omega) (by omega) ?_|refine kRj (by omega) ?_|refine kRk ?_|refine VSem.convI ?_|refine VRead.convI ?_|refine VRead.rem (by omega) (by decide) ?_|refine VRead.neg ?_|refine VC.seq ?_); (conv => whnf)))
  have hwl := written_len (i := k.base + 1) hme
  refine VCall.of (written_any A6 A (m3' + m5') c6 n c W.heap.size (k.base + 1) _ k.es Y5 hO7 (hE.belowB hBY5) hBY5.size (by omega) (by omega) (by omega) hme) ?_
  rintro e Y6 ⟨A7, n7, c7, rfl, hO8, hB8, hout8⟩
  refine ⟨_, rfl, ?_⟩
  have np2 := hO7.notBlkW hp (by decide)
  have nq2 := hO7.notBlkW hq (by decide)
  have nq62 := hO7.notBlkW hq6 (by decide)
  have nq82 := hO7.notBlkW hq8 (by decide)
  replace hp := hp.outW hout8 np2
  replace hq := hq.outW hout8 nq2
  replace hq6 := hq6.outW hout8 nq62
  replace hq8 := hq8.outW hout8 nq82
  have hBY6 := hBY5.trans hB8
  have hl8 := hO8.len
  rw [List.length_append, List.length_append] at hl8
  replace hO8 : Own Y6 W.heap.size (.slice A7 n7 c7) n7 (waB k) := hO8
  clear hO7 hO6 hP3 hgr hblk np nq nq6 nq8 np2 nq2 nq62 nq82 hout8 hB8
  (conv => whnf)
  refine Keep.mk ⟨hq8, hq⟩ ?_
  (conv => whnf)
  ((repeat ((first|refine kLa ?_|refine kLb ?_|refine kCa rfl ?_|refine kCb ?_|refine kCc ?_|refine kCd ?_|refine kCe ?_|refine kCf ?_|refine kCg ?_|refine kCh ?_|refine kCi ?_|refine kCj ?_|refine kQa ?_|refine kQb ?_|refine kGa ?_|refine kGb ?_|refine kHa ?_|refine kHb ?_|refine kPa ?_|refine kPb ?_|refine kPc ?_|refine kEa ?_|refine kEb ?_|refine kBa ?_|refine kBb ?_|refine kBc (by omega) ?_|refine kBd (by omega) ?_|refine kBe (by omega) ?_|refine kBf (by omega) ?_|refine kRa ?_|refine kRb ?_|refine VRead.fld ?_|refine VRead.load1 (by assumption) ?_|refine VRead.load (by assumption) ?_|refine kRf ?_|refine kRg ?_|refine kRh ?_|refine kRi ?_|refine kBe rfl ?_|refine kBc rfl ?_|refine kWa (by omega) (by omega) ?_|refine kWb (by omega) (by omega) ?_|refine kRj (by omega) ?_|refine kRk ?_|refine VSem.convI ?_|refine VRead.convI ?_|refine VRead.rem (by omega) (by decide) ?_|refine VRead.neg ?_|refine VC.seq ?_); (conv => whnf))))
  refine VUnit.storeB hq8 rfl rfl rfl ?_
  intro Y7 hq9 hg9
  replace hq9 : Blk Y7 q6 31 #[.slice A7 n7 c7] := hq9
  have nq9 := hO8.notBlkW hq8 (by decide)
  have hO9 := hO8.storeApart hg9 nq9
  replace hp := hp.only hg9 (by omega)
  replace hq := hq.only hg9 (by omega)
  replace hq6 := hq6.only hg9 (by omega)
  have hBY7 : Below W.heap.size W Y7 := only_new hBY6 hg9 (by omega) hBY6.size
  clear hO8 hq8 hg9 nq9 hBY6 hBY5 hBY1 hBY hE1
  (conv => whnf)
  refine Keep.mk trivial ?_
  (conv => whnf)
  ((repeat ((first|refine kLa ?_|refine kLb ?_|refine kCa rfl ?_|refine kCb ?_|refine kCc ?_|refine kCd ?_|refine kCe ?_|refine kCf ?_|refine kCg ?_|refine kCh ?_|refine kCi ?_|refine kCj ?_|refine kQa ?_|refine kQb ?_|refine kGa ?_|refine kGb ?_|refine kHa ?_|refine kHb ?_|refine kPa ?_|refine kPb ?_|refine kPc ?_|refine kEa ?_|refine kEb ?_|refine kBa ?_|refine kBb ?_|refine kBc (by omega) ?_|refine kBd (by omega) ?_|refine kBe (by omega) ?_|refine kBf (by omega) ?_|refine kRa ?_|refine kRb ?_|refine VRead.fld ?_|refine VRead.load1 (by assumption) ?_|refine VRead.load (by assumption) ?_|refine kRf ?_|refine kRg ?_|refine kRh ?_|refine kRi ?_|refine kBe rfl ?_|refine kBc rfl ?_|refine kWa (by omega) (by omega) ?_|refine kWb (by omega) (by omega) ?_|refine kRj (by omega) ?_|refine kRk ?_|refine VSem.convI ?_|refine VRead.convI ?_|refine VRead.rem (by omega) (by decide) ?_|refine VRead.neg ?_|refine VC.seq ?_); (conv => whnf))))
  refine VSem.of (v := .func (.func 80) #[] #[.pointer (some ⟨p, 0, none⟩)]) (w' := Y7) rfl ?_
  ((conv => whnf); (repeat ((first|refine kLa ?_|refine kLb ?_|refine kCa rfl ?_|refine kCb ?_|refine kCc ?_|refine kCd ?_|refine kCe ?_|refine kCf ?_|refine kCg ?_|refine kCh ?_|refine kCi ?_|refine kCj ?_|refine kQa ?_|refine kQb ?_|refine kGa ?_|refine kGb ?_|refine kHa ?_|refine kHb ?_); (conv => whnf))))
  ((repeat ((first|refine kLa ?_|refine kLb ?_|refine kCa rfl ?_|refine kCb ?_|refine kCc ?_|refine kCd ?_|refine kCe ?_|refine kCf ?_|refine kCg ?_|refine kCh ?_|refine kCi ?_|refine kCj ?_|refine kQa ?_|refine kQb ?_|refine kGa ?_|refine kGb ?_|refine kHa ?_|refine kHb ?_|refine kPa ?_|refine kPb ?_|refine kPc ?_|refine kEa ?_|refine kEb ?_|refine kBa ?_|refine kBb ?_|refine kBc (by omega) ?_|refine kBd (by omega) ?_|refine kBe (by omega) ?_|refine kBf (by omega) ?_|refine kRa ?_|refine kRb ?_|refine VRead.fld ?_|refine VRead.load1 (by assumption) ?_|refine VRead.load (by assumption) ?_|refine kRf ?_|refine kRg ?_|refine kRh ?_|refine kRi ?_|refine kBe rfl ?_|refine kBc rfl ?_|refine kWa (by omega) (by omega) ?_|refine kWb (by omega) (by omega) ?_|refine kRj (by omega) ?_|refine kRk ?_|refine VSem.convI ?_|refine VRead.convI ?_|refine VRead.rem (by omega) (by decide) ?_|refine VRead.neg ?_|refine VC.seq ?_); (conv => whnf))))
  refine VSem.of (v := .func (.func 81) #[] #[.pointer (some ⟨p, 0, none⟩), .pointer (some ⟨q6, 0, none⟩)]) (w' := Y7) rfl ?_
  ((conv => whnf); (repeat ((first|refine kLa ?_|refine kLb ?_|refine kCa rfl ?_|refine kCb ?_|refine kCc ?_|refine kCd ?_|refine kCe ?_|refine kCf ?_|refine kCg ?_|refine kCh ?_|refine kCi ?_|refine kCj ?_|refine kQa ?_|refine kQb ?_|refine kGa ?_|refine kGb ?_|refine kHa ?_|refine kHb ?_); (conv => whnf))))
  ((repeat ((first|refine kLa ?_|refine kLb ?_|refine kCa rfl ?_|refine kCb ?_|refine kCc ?_|refine kCd ?_|refine kCe ?_|refine kCf ?_|refine kCg ?_|refine kCh ?_|refine kCi ?_|refine kCj ?_|refine kQa ?_|refine kQb ?_|refine kGa ?_|refine kGb ?_|refine kHa ?_|refine kHb ?_|refine kPa ?_|refine kPb ?_|refine kPc ?_|refine kEa ?_|refine kEb ?_|refine kBa ?_|refine kBb ?_|refine kBc (by omega) ?_|refine kBd (by omega) ?_|refine kBe (by omega) ?_|refine kBf (by omega) ?_|refine kRa ?_|refine kRb ?_|refine VRead.fld ?_|refine VRead.load1 (by assumption) ?_|refine VRead.load (by assumption) ?_|refine kRf ?_|refine kRg ?_|refine kRh ?_|refine kRi ?_|refine kBe rfl ?_|refine kBc rfl ?_|refine kWa (by omega) (by omega) ?_|refine kWb (by omega) (by omega) ?_|refine kRj (by omega) ?_|refine kRk ?_|refine VSem.convI ?_|refine VRead.convI ?_|refine VRead.rem (by omega) (by decide) ?_|refine VRead.neg ?_|refine VC.seq ?_); (conv => whnf))))
  refine VSem.of (v := .func (.func 82) #[] #[.pointer (some ⟨p, 0, none⟩)]) (w' := Y7) rfl ?_
  ((conv => whnf); (repeat ((first|refine kLa ?_|refine kLb ?_|refine kCa rfl ?_|refine kCb ?_|refine kCc ?_|refine kCd ?_|refine kCe ?_|refine kCf ?_|refine kCg ?_|refine kCh ?_|refine kCi ?_|refine kCj ?_|refine kQa ?_|refine kQb ?_|refine kGa ?_|refine kGb ?_|refine kHa ?_|refine kHb ?_); (conv => whnf))))
  ((repeat ((first|refine kLa ?_|refine kLb ?_|refine kCa rfl ?_|refine kCb ?_|refine kCc ?_|refine kCd ?_|refine kCe ?_|refine kCf ?_|refine kCg ?_|refine kCh ?_|refine kCi ?_|refine kCj ?_|refine kQa ?_|refine kQb ?_|refine kGa ?_|refine kGb ?_|refine kHa ?_|refine kHb ?_|refine kPa ?_|refine kPb ?_|refine kPc ?_|refine kEa ?_|refine kEb ?_|refine kBa ?_|refine kBb ?_|refine kBc (by omega) ?_|refine kBd (by omega) ?_|refine kBe (by omega) ?_|refine kBf (by omega) ?_|refine kRa ?_|refine kRb ?_|refine VRead.fld ?_|refine VRead.load1 (by assumption) ?_|refine VRead.load (by assumption) ?_|refine kRf ?_|refine kRg ?_|refine kRh ?_|refine kRi ?_|refine kBe rfl ?_|refine kBc rfl ?_|refine kWa (by omega) (by omega) ?_|refine kWb (by omega) (by omega) ?_|refine kRj (by omega) ?_|refine kRk ?_|refine VSem.convI ?_|refine VRead.convI ?_|refine VRead.rem (by omega) (by decide) ?_|refine VRead.neg ?_|refine VC.seq ?_); (conv => whnf))))
  refine VSem.of (v := .func (.func 83) #[] #[.pointer (some ⟨p, 0, none⟩), .pointer (some ⟨q5, 0, none⟩)]) (w' := Y7) rfl ?_
  ((conv => whnf); (repeat ((first|refine kLa ?_|refine kLb ?_|refine kCa rfl ?_|refine kCb ?_|refine kCc ?_|refine kCd ?_|refine kCe ?_|refine kCf ?_|refine kCg ?_|refine kCh ?_|refine kCi ?_|refine kCj ?_|refine kQa ?_|refine kQb ?_|refine kGa ?_|refine kGb ?_|refine kHa ?_|refine kHb ?_); (conv => whnf))))
  ((repeat ((first|refine kLa ?_|refine kLb ?_|refine kCa rfl ?_|refine kCb ?_|refine kCc ?_|refine kCd ?_|refine kCe ?_|refine kCf ?_|refine kCg ?_|refine kCh ?_|refine kCi ?_|refine kCj ?_|refine kQa ?_|refine kQb ?_|refine kGa ?_|refine kGb ?_|refine kHa ?_|refine kHb ?_|refine kPa ?_|refine kPb ?_|refine kPc ?_|refine kEa ?_|refine kEb ?_|refine kBa ?_|refine kBb ?_|refine kBc (by omega) ?_|refine kBd (by omega) ?_|refine kBe (by omega) ?_|refine kBf (by omega) ?_|refine kRa ?_|refine kRb ?_|refine VRead.fld ?_|refine VRead.load1 (by assumption) ?_|refine VRead.load (by assumption) ?_|refine kRf ?_|refine kRg ?_|refine kRh ?_|refine kRi ?_|refine kBe rfl ?_|refine kBc rfl ?_|refine kWa (by omega) (by omega) ?_|refine kWb (by omega) (by omega) ?_|refine kRj (by omega) ?_|refine kRk ?_|refine VSem.convI ?_|refine VRead.convI ?_|refine VRead.rem (by omega) (by decide) ?_|refine VRead.neg ?_|refine VC.seq ?_); (conv => whnf))))
  refine VRead.ofW (v := .agg #[.func (.func 80) #[] #[.pointer (some ⟨p, 0, none⟩)], .func (.func 81) #[] #[.pointer (some ⟨p, 0, none⟩), .pointer (some ⟨q6, 0, none⟩)], .func (.func 82) #[] #[.pointer (some ⟨p, 0, none⟩)], .func (.func 83) #[] #[.pointer (some ⟨p, 0, none⟩), .pointer (some ⟨q5, 0, none⟩)]]) (fun _ => by kernel_rfl) ?_
  have hd7 := h.below hBY7
  have hw8 := hw.later hBY7
  have st7 := (Step.new (U := U) hBY7)
  have hU7 := h.lt
  have npU : ¬ U p := fun hu => by have := hU7 p hu; omega
  have nq3U : ¬ U q3 := fun hu => by have := hU7 q3 hu; omega
  have nq5U : ¬ U q5 := fun hu => by have := hU7 q5 hu; omega
  have nq6U : ¬ U q6 := fun hu => by have := hU7 q6 hu; omega
  have hfU : Free U (.slice A7 n7 c7) := Free.new hO9 hU7
  obtain ⟨bytes, hbytes⟩ : ∃ b, waB k = b := ⟨_, rfl⟩
  obtain ⟨nm, hnme⟩ : ∃ nm, wName (wl.n + 1) = nm := ⟨_, rfl⟩
  obtain ⟨R, hR⟩ : ∃ R, wrun nm bytes 4 0 S = R := ⟨_, rfl⟩
  have e0 : S.wanew wl k = if ¬ R.1 = 0 then (R, wl) else if wName wl.n = [] then ((0, R.2), ⟨wl.n + 1, k.base, k.base + k.es.length⟩) else
      ((if (R.2.remove (wName wl.n)).1 = 3 then 0 else (R.2.remove (wName wl.n)).1, (R.2.remove (wName wl.n)).2), ⟨wl.n + 1, k.base, k.base + k.es.length⟩) := by
    unfold DS.wanew
    rw [if_neg (fun h => h hm), if_neg hnm, hbytes, hnme, hR]
  rw [e0]
  rw [hbytes] at hO9
  rw [hnme] at hq6 hwn1
  have hcap := hO9.cap
  ((conv => whnf); (repeat ((first|refine kLa ?_|refine kLb ?_|refine kCa rfl ?_|refine kCb ?_|refine kCc ?_|refine kCd ?_|refine kCe ?_|refine kCf ?_|refine kCg ?_|refine kCh ?_|refine kCi ?_|refine kCj ?_|refine kQa ?_|refine kQb ?_|refine kGa ?_|refine kGb ?_|refine kHa ?_|refine kHb ?_); (conv => whnf))))
  ((repeat ((first|refine kLa ?_|refine kLb ?_|refine kCa rfl ?_|refine kCb ?_|refine kCc ?_|refine kCd ?_|refine kCe ?_|refine kCf ?_|refine kCg ?_|refine kCh ?_|refine kCi ?_|refine kCj ?_|refine kQa ?_|refine kQb ?_|refine kGa ?_|refine kGb ?_|refine kHa ?_|refine kHb ?_|refine kPa ?_|refine kPb ?_|refine kPc ?_|refine kEa ?_|refine kEb ?_|refine kBa ?_|refine kBb ?_|refine kBc (by omega) ?_|refine kBd (by omega) ?_|refine kBe (by omega) ?_|refine kBf (by omega) ?_|refine kRa ?_|refine kRb ?_|refine VRead.fld ?_|refine VRead.load1 (by assumption) ?_|refine VRead.load (by assumption) ?_|refine kRf ?_|refine kRg ?_|refine kRh ?_|refine kRi ?_|refine kBe rfl ?_|refine kBc rfl ?_|refine kWa (by omega) (by omega) ?_|refine kWb (by omega) (by omega) ?_|refine kRj (by omega) ?_|refine kRk ?_|refine VSem.convI ?_|refine VRead.convI ?_|refine VRead.rem (by omega) (by decide) ?_|refine VRead.neg ?_|refine VC.seq ?_); (conv => whnf))))
  refine VC.loop [4, 60] [(4, 4), (11, 12), (60, 68)] (fun m vs X => ∃ (j : Nat) (U' : Foot) (S' : DS), vs = [.int .i64 0, .int .i64 (j : Int)] ∧ m = 4 - j ∧ j ≤ 4 ∧ Dsk X U' d S' ∧ Step W U X U' ∧ Blk X g 105 (wlC d wl) ∧ ¬ U' g ∧ Blk X p 60 #[.pointer (some ⟨g, 0, none⟩)] ∧ ¬ U' p ∧
      Blk X q3 63 (kC k A n c) ∧ ¬ U' q3 ∧ Blk X q5 9 #[.string (txt nm)] ∧ ¬ U' q5 ∧ Blk X q6 31 #[.slice A7 n7 c7] ∧ ¬ U' q6 ∧ Own X W.heap.size (.slice A7 n7 c7) n7 bytes ∧ Free U' (.slice A7 n7 c7) ∧ S'.k.calls ≤ S.k.calls + j ∧ R = wrun nm bytes (4 - j) j S') (by kernel_rfl)
    ⟨_, 0, U, S, rfl, rfl, by omega, hd7, st7, hw8, hg, hp, npU, hq, nq3U, hq6, nq5U, hq9, nq6U, hO9, hfU, by omega, hR.symm⟩ ?_
  clear hR e0 hd7 st7 hw8 hg hp npU hq nq3U hq6 nq5U hq9 nq6U hO9 hfU
  rintro m τ vs X ⟨j, U1, S1, rfl, rfl, hj, hd, st, hw1, hg, hp, npU, hq, nq3U, hq5, nq5U, hq6, nq6U, hO, hfU, hcl, hR⟩
  by_cases hlt : j < 4
  · have hR2 : R = andT (wact nm bytes j S1) fun S' => wrun nm bytes (4 - (j + 1)) (j + 1) S' := by
      rw [hR, show 4 - j = (4 - (j + 1)) + 1 from by omega]; rfl
    have hwc := wact_calls nm bytes j S1
    have hj4 : j = 0 ∨ j = 1 ∨ j = 2 ∨ j = 3 := by omega
    rcases hj4 with rfl | rfl | rfl | rfl
    · ((conv => whnf); (repeat ((first|refine kLa ?_|refine kLb ?_|refine kCa rfl ?_|refine kCb ?_|refine kCc ?_|refine kCd ?_|refine kCe ?_|refine kCf ?_|refine kCg ?_|refine kCh ?_|refine kCi ?_|refine kCj ?_|refine kQa ?_|refine kQb ?_|refine kGa ?_|refine kGb ?_|refine kHa ?_|refine kHb ?_); (conv => whnf))))
      (repeat ((first|refine VRead.idxAW (by decide) rfl ?_|refine kLa ?_|refine kLb ?_|refine kCa rfl ?_|refine kCb ?_|refine kCc ?_|refine kCd ?_|refine kCe ?_|refine kCf ?_|refine kCg ?_|refine kCh ?_|refine kCi ?_|refine kCj ?_|refine kQa ?_|refine kQb ?_|refine kGa ?_|refine kGb ?_|refine kHa ?_|refine kHb ?_|refine kPa ?_|refine kPb ?_|refine kPc ?_|refine kEa ?_|refine kEb ?_|refine kBa ?_|refine kBb ?_|refine kBc (by omega) ?_|refine kBd (by omega) ?_|refine kBe (by omega) ?_|refine kBf (by omega) ?_|refine kRa ?_|refine kRb ?_|refine VRead.fld ?_|refine VRead.load1 (by assumption) ?_|refine VRead.load (by assumption) ?_|refine kRf ?_|refine kRg ?_|refine kRh ?_|refine kRi ?_|refine kBe rfl ?_|refine kBc rfl ?_|refine kWa (by omega) (by omega) ?_|refine kWb (by omega) (by omega) ?_|refine kRj (by omega) ?_|refine kRk ?_|refine VSem.convI ?_|refine VRead.convI ?_|refine VRead.rem (by omega) (by decide) ?_|refine VRead.neg ?_|refine VC.seq ?_); (conv => whnf)))
      refine VCall.of (anew1_any X U1 g d p S1 wl hd hw1 hp (by omega)) ?_
      rintro e X2 ⟨rfl, U2, hd2, st2⟩
      refine ⟨_, rfl, ?_⟩
      rw [show wact nm bytes 0 S1 = S1.create wTmp from rfl] at hR2 hwc
      have st02 := st.trans st2
      obtain ⟨hw2, hg2⟩ := st2.blk hw1 hg
      by_cases ca : (S1.create wTmp).1 = 0
      case neg =>
        rw [andT_no ca] at hR2
        rw [hR2, if_pos ca]
        ((conv => whnf); (repeat ((first|refine kLa ?_|refine kLb ?_|refine kCa rfl ?_|refine kCb ?_|refine kCc ?_|refine kCd ?_|refine kCe ?_|refine kCf ?_|refine kCg ?_|refine kCh ?_|refine kCi ?_|refine kCj ?_|refine kQa ?_|refine kQb ?_|refine kGa ?_|refine kGb ?_|refine kHa ?_|refine kHb ?_); (conv => whnf))))
        (repeat (first | ((first|refine kLa ?_|refine kLb ?_|refine kCa rfl ?_|refine kCb ?_|refine kCc ?_|refine kCd ?_|refine kCe ?_|refine kCf ?_|refine kCg ?_|refine kCh ?_|refine kCi ?_|refine kCj ?_|refine kQa ?_|refine kQb ?_|refine kGa ?_|refine kGb ?_|refine kHa ?_|refine kHb ?_|refine kPa ?_|refine kPb ?_|refine kPc ?_|refine kEa ?_|refine kEb ?_|refine kBa ?_|refine kBb ?_|refine kBc (by omega) ?_|refine kBd (by omega) ?_|refine kBe (by omega) ?_|refine kBf (by omega) ?_|refine kRa ?_|refine kRb ?_|refine VRead.fld ?_|refine VRead.load1 (by assumption) ?_|refine VRead.load (by assumption) ?_|refine kRf ?_|refine kRg ?_|refine kRh ?_|refine kRi ?_|refine kBe rfl ?_|refine kBc rfl ?_|refine kWa (by omega) (by omega) ?_|refine kWb (by omega) (by omega) ?_|refine kRj (by omega) ?_|refine kRk ?_|refine VSem.convI ?_|refine VRead.convI ?_|refine VRead.rem (by omega) (by decide) ?_|refine VRead.neg ?_|refine VC.seq ?_); (conv => whnf)) | (refine kBf ca ?_; (conv => whnf))))
        exact ⟨rfl, U2, hd2, hw2, hg2, st02.add g⟩
      rw [andT_ok ca] at hR2
      obtain ⟨hp2, npU2⟩ := st2.blk hp npU
      obtain ⟨hq2, nq3U2⟩ := st2.blk hq nq3U
      obtain ⟨hq52, nq5U2⟩ := st2.blk hq5 nq5U
      obtain ⟨hq62, nq6U2⟩ := st2.blk hq6 nq6U
      obtain ⟨hO2, hfU2⟩ := st2.own hO hfU
      ((conv => whnf); (repeat ((first|refine kLa ?_|refine kLb ?_|refine kCa rfl ?_|refine kCb ?_|refine kCc ?_|refine kCd ?_|refine kCe ?_|refine kCf ?_|refine kCg ?_|refine kCh ?_|refine kCi ?_|refine kCj ?_|refine kQa ?_|refine kQb ?_|refine kGa ?_|refine kGb ?_|refine kHa ?_|refine kHb ?_); (conv => whnf))))
      (repeat (first | ((first|refine kLa ?_|refine kLb ?_|refine kCa rfl ?_|refine kCb ?_|refine kCc ?_|refine kCd ?_|refine kCe ?_|refine kCf ?_|refine kCg ?_|refine kCh ?_|refine kCi ?_|refine kCj ?_|refine kQa ?_|refine kQb ?_|refine kGa ?_|refine kGb ?_|refine kHa ?_|refine kHb ?_|refine kPa ?_|refine kPb ?_|refine kPc ?_|refine kEa ?_|refine kEb ?_|refine kBa ?_|refine kBb ?_|refine kBc (by omega) ?_|refine kBd (by omega) ?_|refine kBe (by omega) ?_|refine kBf (by omega) ?_|refine kRa ?_|refine kRb ?_|refine VRead.fld ?_|refine VRead.load1 (by assumption) ?_|refine VRead.load (by assumption) ?_|refine kRf ?_|refine kRg ?_|refine kRh ?_|refine kRi ?_|refine kBe rfl ?_|refine kBc rfl ?_|refine kWa (by omega) (by omega) ?_|refine kWb (by omega) (by omega) ?_|refine kRj (by omega) ?_|refine kRk ?_|refine VSem.convI ?_|refine VRead.convI ?_|refine VRead.rem (by omega) (by decide) ?_|refine VRead.neg ?_|refine VC.seq ?_); (conv => whnf)) | (refine kBe ca ?_; (conv => whnf))))
      exact ⟨_, by omega, 1, U2, _, rfl, rfl, by omega, hd2, st02, hw2, hg2, hp2, npU2, hq2, nq3U2, hq52, nq5U2, hq62, nq6U2, hO2, hfU2, by omega, hR2⟩
    · ((conv => whnf); (repeat ((first|refine kLa ?_|refine kLb ?_|refine kCa rfl ?_|refine kCb ?_|refine kCc ?_|refine kCd ?_|refine kCe ?_|refine kCf ?_|refine kCg ?_|refine kCh ?_|refine kCi ?_|refine kCj ?_|refine kQa ?_|refine kQb ?_|refine kGa ?_|refine kGb ?_|refine kHa ?_|refine kHb ?_); (conv => whnf))))
      (repeat ((first|refine VRead.idxAW (by decide) rfl ?_|refine kLa ?_|refine kLb ?_|refine kCa rfl ?_|refine kCb ?_|refine kCc ?_|refine kCd ?_|refine kCe ?_|refine kCf ?_|refine kCg ?_|refine kCh ?_|refine kCi ?_|refine kCj ?_|refine kQa ?_|refine kQb ?_|refine kGa ?_|refine kGb ?_|refine kHa ?_|refine kHb ?_|refine kPa ?_|refine kPb ?_|refine kPc ?_|refine kEa ?_|refine kEb ?_|refine kBa ?_|refine kBb ?_|refine kBc (by omega) ?_|refine kBd (by omega) ?_|refine kBe (by omega) ?_|refine kBf (by omega) ?_|refine kRa ?_|refine kRb ?_|refine VRead.fld ?_|refine VRead.load1 (by assumption) ?_|refine VRead.load (by assumption) ?_|refine kRf ?_|refine kRg ?_|refine kRh ?_|refine kRi ?_|refine kBe rfl ?_|refine kBc rfl ?_|refine kWa (by omega) (by omega) ?_|refine kWb (by omega) (by omega) ?_|refine kRj (by omega) ?_|refine kRk ?_|refine VSem.convI ?_|refine VRead.convI ?_|refine VRead.rem (by omega) (by decide) ?_|refine VRead.neg ?_|refine VC.seq ?_); (conv => whnf)))
      refine VCall.of (anew2_any X U1 g d p q6 S1 wl hd hw1 hp (by omega) hg npU nq6U W.heap.size A7 n7 c7 bytes hq6 hO (by omega)) ?_
      rintro e X2 ⟨rfl, U2, hd2, st2⟩
      refine ⟨_, rfl, ?_⟩
      rw [show wact nm bytes 1 S1 = S1.append wTmp bytes from rfl] at hR2 hwc
      have st02 := st.trans st2
      obtain ⟨hw2, hg2⟩ := st2.blk hw1 hg
      by_cases ca : (S1.append wTmp bytes).1 = 0
      case neg =>
        rw [andT_no ca] at hR2
        rw [hR2, if_pos ca]
        ((conv => whnf); (repeat ((first|refine kLa ?_|refine kLb ?_|refine kCa rfl ?_|refine kCb ?_|refine kCc ?_|refine kCd ?_|refine kCe ?_|refine kCf ?_|refine kCg ?_|refine kCh ?_|refine kCi ?_|refine kCj ?_|refine kQa ?_|refine kQb ?_|refine kGa ?_|refine kGb ?_|refine kHa ?_|refine kHb ?_); (conv => whnf))))
        (repeat (first | ((first|refine kLa ?_|refine kLb ?_|refine kCa rfl ?_|refine kCb ?_|refine kCc ?_|refine kCd ?_|refine kCe ?_|refine kCf ?_|refine kCg ?_|refine kCh ?_|refine kCi ?_|refine kCj ?_|refine kQa ?_|refine kQb ?_|refine kGa ?_|refine kGb ?_|refine kHa ?_|refine kHb ?_|refine kPa ?_|refine kPb ?_|refine kPc ?_|refine kEa ?_|refine kEb ?_|refine kBa ?_|refine kBb ?_|refine kBc (by omega) ?_|refine kBd (by omega) ?_|refine kBe (by omega) ?_|refine kBf (by omega) ?_|refine kRa ?_|refine kRb ?_|refine VRead.fld ?_|refine VRead.load1 (by assumption) ?_|refine VRead.load (by assumption) ?_|refine kRf ?_|refine kRg ?_|refine kRh ?_|refine kRi ?_|refine kBe rfl ?_|refine kBc rfl ?_|refine kWa (by omega) (by omega) ?_|refine kWb (by omega) (by omega) ?_|refine kRj (by omega) ?_|refine kRk ?_|refine VSem.convI ?_|refine VRead.convI ?_|refine VRead.rem (by omega) (by decide) ?_|refine VRead.neg ?_|refine VC.seq ?_); (conv => whnf)) | (refine kBf ca ?_; (conv => whnf))))
        exact ⟨rfl, U2, hd2, hw2, hg2, st02.add g⟩
      rw [andT_ok ca] at hR2
      obtain ⟨hp2, npU2⟩ := st2.blk hp npU
      obtain ⟨hq2, nq3U2⟩ := st2.blk hq nq3U
      obtain ⟨hq52, nq5U2⟩ := st2.blk hq5 nq5U
      obtain ⟨hq62, nq6U2⟩ := st2.blk hq6 nq6U
      obtain ⟨hO2, hfU2⟩ := st2.own hO hfU
      ((conv => whnf); (repeat ((first|refine kLa ?_|refine kLb ?_|refine kCa rfl ?_|refine kCb ?_|refine kCc ?_|refine kCd ?_|refine kCe ?_|refine kCf ?_|refine kCg ?_|refine kCh ?_|refine kCi ?_|refine kCj ?_|refine kQa ?_|refine kQb ?_|refine kGa ?_|refine kGb ?_|refine kHa ?_|refine kHb ?_); (conv => whnf))))
      (repeat (first | ((first|refine kLa ?_|refine kLb ?_|refine kCa rfl ?_|refine kCb ?_|refine kCc ?_|refine kCd ?_|refine kCe ?_|refine kCf ?_|refine kCg ?_|refine kCh ?_|refine kCi ?_|refine kCj ?_|refine kQa ?_|refine kQb ?_|refine kGa ?_|refine kGb ?_|refine kHa ?_|refine kHb ?_|refine kPa ?_|refine kPb ?_|refine kPc ?_|refine kEa ?_|refine kEb ?_|refine kBa ?_|refine kBb ?_|refine kBc (by omega) ?_|refine kBd (by omega) ?_|refine kBe (by omega) ?_|refine kBf (by omega) ?_|refine kRa ?_|refine kRb ?_|refine VRead.fld ?_|refine VRead.load1 (by assumption) ?_|refine VRead.load (by assumption) ?_|refine kRf ?_|refine kRg ?_|refine kRh ?_|refine kRi ?_|refine kBe rfl ?_|refine kBc rfl ?_|refine kWa (by omega) (by omega) ?_|refine kWb (by omega) (by omega) ?_|refine kRj (by omega) ?_|refine kRk ?_|refine VSem.convI ?_|refine VRead.convI ?_|refine VRead.rem (by omega) (by decide) ?_|refine VRead.neg ?_|refine VC.seq ?_); (conv => whnf)) | (refine kBe ca ?_; (conv => whnf))))
      exact ⟨_, by omega, 2, U2, _, rfl, rfl, by omega, hd2, st02, hw2, hg2, hp2, npU2, hq2, nq3U2, hq52, nq5U2, hq62, nq6U2, hO2, hfU2, by omega, hR2⟩
    · ((conv => whnf); (repeat ((first|refine kLa ?_|refine kLb ?_|refine kCa rfl ?_|refine kCb ?_|refine kCc ?_|refine kCd ?_|refine kCe ?_|refine kCf ?_|refine kCg ?_|refine kCh ?_|refine kCi ?_|refine kCj ?_|refine kQa ?_|refine kQb ?_|refine kGa ?_|refine kGb ?_|refine kHa ?_|refine kHb ?_); (conv => whnf))))
      (repeat ((first|refine VRead.idxAW (by decide) rfl ?_|refine kLa ?_|refine kLb ?_|refine kCa rfl ?_|refine kCb ?_|refine kCc ?_|refine kCd ?_|refine kCe ?_|refine kCf ?_|refine kCg ?_|refine kCh ?_|refine kCi ?_|refine kCj ?_|refine kQa ?_|refine kQb ?_|refine kGa ?_|refine kGb ?_|refine kHa ?_|refine kHb ?_|refine kPa ?_|refine kPb ?_|refine kPc ?_|refine kEa ?_|refine kEb ?_|refine kBa ?_|refine kBb ?_|refine kBc (by omega) ?_|refine kBd (by omega) ?_|refine kBe (by omega) ?_|refine kBf (by omega) ?_|refine kRa ?_|refine kRb ?_|refine VRead.fld ?_|refine VRead.load1 (by assumption) ?_|refine VRead.load (by assumption) ?_|refine kRf ?_|refine kRg ?_|refine kRh ?_|refine kRi ?_|refine kBe rfl ?_|refine kBc rfl ?_|refine kWa (by omega) (by omega) ?_|refine kWb (by omega) (by omega) ?_|refine kRj (by omega) ?_|refine kRk ?_|refine VSem.convI ?_|refine VRead.convI ?_|refine VRead.rem (by omega) (by decide) ?_|refine VRead.neg ?_|refine VC.seq ?_); (conv => whnf)))
      refine VCall.of (anew3_any X U1 g d p S1 wl hd hw1 hp (by omega)) ?_
      rintro e X2 ⟨rfl, U2, hd2, st2⟩
      refine ⟨_, rfl, ?_⟩
      rw [show wact nm bytes 2 S1 = S1.sync wTmp from rfl] at hR2 hwc
      have st02 := st.trans st2
      obtain ⟨hw2, hg2⟩ := st2.blk hw1 hg
      by_cases ca : (S1.sync wTmp).1 = 0
      case neg =>
        rw [andT_no ca] at hR2
        rw [hR2, if_pos ca]
        ((conv => whnf); (repeat ((first|refine kLa ?_|refine kLb ?_|refine kCa rfl ?_|refine kCb ?_|refine kCc ?_|refine kCd ?_|refine kCe ?_|refine kCf ?_|refine kCg ?_|refine kCh ?_|refine kCi ?_|refine kCj ?_|refine kQa ?_|refine kQb ?_|refine kGa ?_|refine kGb ?_|refine kHa ?_|refine kHb ?_); (conv => whnf))))
        (repeat (first | ((first|refine kLa ?_|refine kLb ?_|refine kCa rfl ?_|refine kCb ?_|refine kCc ?_|refine kCd ?_|refine kCe ?_|refine kCf ?_|refine kCg ?_|refine kCh ?_|refine kCi ?_|refine kCj ?_|refine kQa ?_|refine kQb ?_|refine kGa ?_|refine kGb ?_|refine kHa ?_|refine kHb ?_|refine kPa ?_|refine kPb ?_|refine kPc ?_|refine kEa ?_|refine kEb ?_|refine kBa ?_|refine kBb ?_|refine kBc (by omega) ?_|refine kBd (by omega) ?_|refine kBe (by omega) ?_|refine kBf (by omega) ?_|refine kRa ?_|refine kRb ?_|refine VRead.fld ?_|refine VRead.load1 (by assumption) ?_|refine VRead.load (by assumption) ?_|refine kRf ?_|refine kRg ?_|refine kRh ?_|refine kRi ?_|refine kBe rfl ?_|refine kBc rfl ?_|refine kWa (by omega) (by omega) ?_|refine kWb (by omega) (by omega) ?_|refine kRj (by omega) ?_|refine kRk ?_|refine VSem.convI ?_|refine VRead.convI ?_|refine VRead.rem (by omega) (by decide) ?_|refine VRead.neg ?_|refine VC.seq ?_); (conv => whnf)) | (refine kBf ca ?_; (conv => whnf))))
        exact ⟨rfl, U2, hd2, hw2, hg2, st02.add g⟩
      rw [andT_ok ca] at hR2
      obtain ⟨hp2, npU2⟩ := st2.blk hp npU
      obtain ⟨hq2, nq3U2⟩ := st2.blk hq nq3U
      obtain ⟨hq52, nq5U2⟩ := st2.blk hq5 nq5U
      obtain ⟨hq62, nq6U2⟩ := st2.blk hq6 nq6U
      obtain ⟨hO2, hfU2⟩ := st2.own hO hfU
      ((conv => whnf); (repeat ((first|refine kLa ?_|refine kLb ?_|refine kCa rfl ?_|refine kCb ?_|refine kCc ?_|refine kCd ?_|refine kCe ?_|refine kCf ?_|refine kCg ?_|refine kCh ?_|refine kCi ?_|refine kCj ?_|refine kQa ?_|refine kQb ?_|refine kGa ?_|refine kGb ?_|refine kHa ?_|refine kHb ?_); (conv => whnf))))
      (repeat (first | ((first|refine kLa ?_|refine kLb ?_|refine kCa rfl ?_|refine kCb ?_|refine kCc ?_|refine kCd ?_|refine kCe ?_|refine kCf ?_|refine kCg ?_|refine kCh ?_|refine kCi ?_|refine kCj ?_|refine kQa ?_|refine kQb ?_|refine kGa ?_|refine kGb ?_|refine kHa ?_|refine kHb ?_|refine kPa ?_|refine kPb ?_|refine kPc ?_|refine kEa ?_|refine kEb ?_|refine kBa ?_|refine kBb ?_|refine kBc (by omega) ?_|refine kBd (by omega) ?_|refine kBe (by omega) ?_|refine kBf (by omega) ?_|refine kRa ?_|refine kRb ?_|refine VRead.fld ?_|refine VRead.load1 (by assumption) ?_|refine VRead.load (by assumption) ?_|refine kRf ?_|refine kRg ?_|refine kRh ?_|refine kRi ?_|refine kBe rfl ?_|refine kBc rfl ?_|refine kWa (by omega) (by omega) ?_|refine kWb (by omega) (by omega) ?_|refine kRj (by omega) ?_|refine kRk ?_|refine VSem.convI ?_|refine VRead.convI ?_|refine VRead.rem (by omega) (by decide) ?_|refine VRead.neg ?_|refine VC.seq ?_); (conv => whnf)) | (refine kBe ca ?_; (conv => whnf))))
      exact ⟨_, by omega, 3, U2, _, rfl, rfl, by omega, hd2, st02, hw2, hg2, hp2, npU2, hq2, nq3U2, hq52, nq5U2, hq62, nq6U2, hO2, hfU2, by omega, hR2⟩
    · ((conv => whnf); (repeat ((first|refine kLa ?_|refine kLb ?_|refine kCa rfl ?_|refine kCb ?_|refine kCc ?_|refine kCd ?_|refine kCe ?_|refine kCf ?_|refine kCg ?_|refine kCh ?_|refine kCi ?_|refine kCj ?_|refine kQa ?_|refine kQb ?_|refine kGa ?_|refine kGb ?_|refine kHa ?_|refine kHb ?_); (conv => whnf))))
      (repeat ((first|refine VRead.idxAW (by decide) rfl ?_|refine kLa ?_|refine kLb ?_|refine kCa rfl ?_|refine kCb ?_|refine kCc ?_|refine kCd ?_|refine kCe ?_|refine kCf ?_|refine kCg ?_|refine kCh ?_|refine kCi ?_|refine kCj ?_|refine kQa ?_|refine kQb ?_|refine kGa ?_|refine kGb ?_|refine kHa ?_|refine kHb ?_|refine kPa ?_|refine kPb ?_|refine kPc ?_|refine kEa ?_|refine kEb ?_|refine kBa ?_|refine kBb ?_|refine kBc (by omega) ?_|refine kBd (by omega) ?_|refine kBe (by omega) ?_|refine kBf (by omega) ?_|refine kRa ?_|refine kRb ?_|refine VRead.fld ?_|refine VRead.load1 (by assumption) ?_|refine VRead.load (by assumption) ?_|refine kRf ?_|refine kRg ?_|refine kRh ?_|refine kRi ?_|refine kBe rfl ?_|refine kBc rfl ?_|refine kWa (by omega) (by omega) ?_|refine kWb (by omega) (by omega) ?_|refine kRj (by omega) ?_|refine kRk ?_|refine VSem.convI ?_|refine VRead.convI ?_|refine VRead.rem (by omega) (by decide) ?_|refine VRead.neg ?_|refine VC.seq ?_); (conv => whnf)))
      refine VCall.of (anew4_any X U1 g d p q5 S1 wl hd hw1 hp (by omega) hg npU nq5U nm hq5 (by omega)) ?_
      rintro e X2 ⟨rfl, U2, hd2, st2⟩
      refine ⟨_, rfl, ?_⟩
      rw [show wact nm bytes 3 S1 = S1.rename wTmp nm from rfl] at hR2 hwc
      have st02 := st.trans st2
      obtain ⟨hw2, hg2⟩ := st2.blk hw1 hg
      by_cases ca : (S1.rename wTmp nm).1 = 0
      case neg =>
        rw [andT_no ca] at hR2
        rw [hR2, if_pos ca]
        ((conv => whnf); (repeat ((first|refine kLa ?_|refine kLb ?_|refine kCa rfl ?_|refine kCb ?_|refine kCc ?_|refine kCd ?_|refine kCe ?_|refine kCf ?_|refine kCg ?_|refine kCh ?_|refine kCi ?_|refine kCj ?_|refine kQa ?_|refine kQb ?_|refine kGa ?_|refine kGb ?_|refine kHa ?_|refine kHb ?_); (conv => whnf))))
        (repeat (first | ((first|refine kLa ?_|refine kLb ?_|refine kCa rfl ?_|refine kCb ?_|refine kCc ?_|refine kCd ?_|refine kCe ?_|refine kCf ?_|refine kCg ?_|refine kCh ?_|refine kCi ?_|refine kCj ?_|refine kQa ?_|refine kQb ?_|refine kGa ?_|refine kGb ?_|refine kHa ?_|refine kHb ?_|refine kPa ?_|refine kPb ?_|refine kPc ?_|refine kEa ?_|refine kEb ?_|refine kBa ?_|refine kBb ?_|refine kBc (by omega) ?_|refine kBd (by omega) ?_|refine kBe (by omega) ?_|refine kBf (by omega) ?_|refine kRa ?_|refine kRb ?_|refine VRead.fld ?_|refine VRead.load1 (by assumption) ?_|refine VRead.load (by assumption) ?_|refine kRf ?_|refine kRg ?_|refine kRh ?_|refine kRi ?_|refine kBe rfl ?_|refine kBc rfl ?_|refine kWa (by omega) (by omega) ?_|refine kWb (by omega) (by omega) ?_|refine kRj (by omega) ?_|refine kRk ?_|refine VSem.convI ?_|refine VRead.convI ?_|refine VRead.rem (by omega) (by decide) ?_|refine VRead.neg ?_|refine VC.seq ?_); (conv => whnf)) | (refine kBf ca ?_; (conv => whnf))))
        exact ⟨rfl, U2, hd2, hw2, hg2, st02.add g⟩
      rw [andT_ok ca] at hR2
      obtain ⟨hp2, npU2⟩ := st2.blk hp npU
      obtain ⟨hq2, nq3U2⟩ := st2.blk hq nq3U
      obtain ⟨hq52, nq5U2⟩ := st2.blk hq5 nq5U
      obtain ⟨hq62, nq6U2⟩ := st2.blk hq6 nq6U
      obtain ⟨hO2, hfU2⟩ := st2.own hO hfU
      ((conv => whnf); (repeat ((first|refine kLa ?_|refine kLb ?_|refine kCa rfl ?_|refine kCb ?_|refine kCc ?_|refine kCd ?_|refine kCe ?_|refine kCf ?_|refine kCg ?_|refine kCh ?_|refine kCi ?_|refine kCj ?_|refine kQa ?_|refine kQb ?_|refine kGa ?_|refine kGb ?_|refine kHa ?_|refine kHb ?_); (conv => whnf))))
      (repeat (first | ((first|refine kLa ?_|refine kLb ?_|refine kCa rfl ?_|refine kCb ?_|refine kCc ?_|refine kCd ?_|refine kCe ?_|refine kCf ?_|refine kCg ?_|refine kCh ?_|refine kCi ?_|refine kCj ?_|refine kQa ?_|refine kQb ?_|refine kGa ?_|refine kGb ?_|refine kHa ?_|refine kHb ?_|refine kPa ?_|refine kPb ?_|refine kPc ?_|refine kEa ?_|refine kEb ?_|refine kBa ?_|refine kBb ?_|refine kBc (by omega) ?_|refine kBd (by omega) ?_|refine kBe (by omega) ?_|refine kBf (by omega) ?_|refine kRa ?_|refine kRb ?_|refine VRead.fld ?_|refine VRead.load1 (by assumption) ?_|refine VRead.load (by assumption) ?_|refine kRf ?_|refine kRg ?_|refine kRh ?_|refine kRi ?_|refine kBe rfl ?_|refine kBc rfl ?_|refine kWa (by omega) (by omega) ?_|refine kWb (by omega) (by omega) ?_|refine kRj (by omega) ?_|refine kRk ?_|refine VSem.convI ?_|refine VRead.convI ?_|refine VRead.rem (by omega) (by decide) ?_|refine VRead.neg ?_|refine VC.seq ?_); (conv => whnf)) | (refine kBe ca ?_; (conv => whnf))))
      exact ⟨_, by omega, 4, U2, _, rfl, rfl, by omega, hd2, st02, hw2, hg2, hp2, npU2, hq2, nq3U2, hq52, nq5U2, hq62, nq6U2, hO2, hfU2, by omega, hR2⟩
  · obtain rfl : j = 4 := by omega
    have hR2 : R = (0, S1) := hR
    have hR0 : ¬ ¬ R.1 = 0 := by rw [hR2]; simp
    rw [if_neg hR0]
    rw [hR2]
    simp only
    clear hR hR2 hR0
    ((conv => whnf); (repeat ((first|refine kLa ?_|refine kLb ?_|refine kCa rfl ?_|refine kCb ?_|refine kCc ?_|refine kCd ?_|refine kCe ?_|refine kCf ?_|refine kCg ?_|refine kCh ?_|refine kCi ?_|refine kCj ?_|refine kQa ?_|refine kQb ?_|refine kGa ?_|refine kGb ?_|refine kHa ?_|refine kHb ?_); (conv => whnf))))
    (repeat (first | ((first|refine kLa ?_|refine kLb ?_|refine kCa rfl ?_|refine kCb ?_|refine kCc ?_|refine kCd ?_|refine kCe ?_|refine kCf ?_|refine kCg ?_|refine kCh ?_|refine kCi ?_|refine kCj ?_|refine kQa ?_|refine kQb ?_|refine kGa ?_|refine kGb ?_|refine kHa ?_|refine kHb ?_|refine kPa ?_|refine kPb ?_|refine kPc ?_|refine kEa ?_|refine kEb ?_|refine kBa ?_|refine kBb ?_|refine kBc (by omega) ?_|refine kBd (by omega) ?_|refine kBe (by omega) ?_|refine kBf (by omega) ?_|refine kRa ?_|refine kRb ?_|refine VRead.fld ?_|refine VRead.load1 (by assumption) ?_|refine VRead.load (by assumption) ?_|refine kRf ?_|refine kRg ?_|refine kRh ?_|refine kRi ?_|refine kBe rfl ?_|refine kBc rfl ?_|refine kWa (by omega) (by omega) ?_|refine kWb (by omega) (by omega) ?_|refine kRj (by omega) ?_|refine kRk ?_|refine VSem.convI ?_|refine VRead.convI ?_|refine VRead.rem (by omega) (by decide) ?_|refine VRead.neg ?_|refine VC.seq ?_); (conv => whnf)) | (refine VRead.loadB hp rfl rfl ?_; (conv => whnf)) | (refine VRead.loadB hw1 rfl rfl ?_; (conv => whnf))))
    refine VCall.of (walName_any wl.n X (by omega)) ?_
    rintro e X2 ⟨rfl, hB2⟩
    refine ⟨_, rfl, ?_⟩
    replace hp := hp.later hB2
    replace hq := hq.later hB2
    replace hw1 := hw1.later hB2
    replace hd := hd.below hB2
    replace st := st.trans (Step.new (U := U1) hB2)
    have hE1 : Below X2.heap.size X2 (X2.drewN 1) := below_drewN (Below.refl _ _) 1
    replace hp := hp.later hE1
    replace hq := hq.later hE1
    replace hw1 := hw1.later hE1
    replace hd := hd.below hE1
    replace st := st.trans (Step.new (U := U1) hE1)
    ((conv => whnf); (repeat ((first|refine kLa ?_|refine kLb ?_|refine kCa rfl ?_|refine kCb ?_|refine kCc ?_|refine kCd ?_|refine kCe ?_|refine kCf ?_|refine kCg ?_|refine kCh ?_|refine kCi ?_|refine kCj ?_|refine kQa ?_|refine kQb ?_|refine kGa ?_|refine kGb ?_|refine kHa ?_|refine kHb ?_); (conv => whnf))))
    ((repeat ((first|refine kLa ?_|refine kLb ?_|refine kCa rfl ?_|refine kCb ?_|refine kCc ?_|refine kCd ?_|refine kCe ?_|refine kCf ?_|refine kCg ?_|refine kCh ?_|refine kCi ?_|refine kCj ?_|refine kQa ?_|refine kQb ?_|refine kGa ?_|refine kGb ?_|refine kHa ?_|refine kHb ?_|refine kPa ?_|refine kPb ?_|refine kPc ?_|refine kEa ?_|refine kEb ?_|refine kBa ?_|refine kBb ?_|refine kBc (by omega) ?_|refine kBd (by omega) ?_|refine kBe (by omega) ?_|refine kBf (by omega) ?_|refine kRa ?_|refine kRb ?_|refine VRead.fld ?_|refine VRead.load1 (by assumption) ?_|refine VRead.load (by assumption) ?_|refine kRf ?_|refine kRg ?_|refine kRh ?_|refine kRi ?_|refine kBe rfl ?_|refine kBc rfl ?_|refine kWa (by omega) (by omega) ?_|refine kWb (by omega) (by omega) ?_|refine kRj (by omega) ?_|refine kRk ?_|refine VSem.convI ?_|refine VRead.convI ?_|refine VRead.rem (by omega) (by decide) ?_|refine VRead.neg ?_|refine VC.seq ?_); (conv => whnf))))
    refine VDraw.seg (fun Y => Blk Y p 60 #[.pointer (some ⟨g, 0, none⟩)] ∧ Blk Y q3 63 (kC k A n c)) [([0, 1, 2, 3, 4, 5, 8, 9, 10, 11, 12, 13, 14, 15], 6), ([7, 16, 17], 18), ([19, 20], 21), ([22, 23], 24)] [] (by kernel_rfl) (by kernel_rfl) ⟨hp, hq⟩ ?_
    generalize X2.drewN 1 = X3 at *
    (conv => whnf)
    (repeat ((first|refine VRead.loadBS (fun Y hY => hY.1) rfl rfl ?_|refine VRead.loadBS (fun Y hY => hY.2) rfl rfl ?_|refine kLa ?_|refine kLb ?_|refine kCa rfl ?_|refine kCb ?_|refine kCc ?_|refine kCd ?_|refine kCe ?_|refine kCf ?_|refine kCg ?_|refine kCh ?_|refine kCi ?_|refine kCj ?_|refine kQa ?_|refine kQb ?_|refine kGa ?_|refine kGb ?_|refine kHa ?_|refine kHb ?_|refine kPa ?_|refine kPb ?_|refine kPc ?_|refine kEa ?_|refine kEb ?_|refine kBa ?_|refine kBb ?_|refine kBc (by omega) ?_|refine kBd (by omega) ?_|refine kBe (by omega) ?_|refine kBf (by omega) ?_|refine kRa ?_|refine kRb ?_|refine VRead.fld ?_|refine VRead.load1 (by assumption) ?_|refine VRead.load (by assumption) ?_|refine kRf ?_|refine kRg ?_|refine kRh ?_|refine kRi ?_|refine kBe rfl ?_|refine kBc rfl ?_|refine kWa (by omega) (by omega) ?_|refine kWb (by omega) (by omega) ?_|refine kRj (by omega) ?_|refine kRk ?_|refine VSem.convI ?_|refine VRead.convI ?_|refine VRead.rem (by omega) (by decide) ?_|refine VRead.neg ?_|refine VC.seq ?_); (conv => whnf)))
    refine VRead.loadB hw1 rfl rfl ?_
    (conv => whnf)
    refine Keep.mk ⟨hp, hq⟩ ?_
    (conv => whnf)
    ((repeat ((first|refine kLa ?_|refine kLb ?_|refine kCa rfl ?_|refine kCb ?_|refine kCc ?_|refine kCd ?_|refine kCe ?_|refine kCf ?_|refine kCg ?_|refine kCh ?_|refine kCi ?_|refine kCj ?_|refine kQa ?_|refine kQb ?_|refine kGa ?_|refine kGb ?_|refine kHa ?_|refine kHb ?_|refine kPa ?_|refine kPb ?_|refine kPc ?_|refine kEa ?_|refine kEb ?_|refine kBa ?_|refine kBb ?_|refine kBc (by omega) ?_|refine kBd (by omega) ?_|refine kBe (by omega) ?_|refine kBf (by omega) ?_|refine kRa ?_|refine kRb ?_|refine VRead.fld ?_|refine VRead.load1 (by assumption) ?_|refine VRead.load (by assumption) ?_|refine kRf ?_|refine kRg ?_|refine kRh ?_|refine kRi ?_|refine kBe rfl ?_|refine kBc rfl ?_|refine kWa (by omega) (by omega) ?_|refine kWb (by omega) (by omega) ?_|refine kRj (by omega) ?_|refine kRk ?_|refine VSem.convI ?_|refine VRead.convI ?_|refine VRead.rem (by omega) (by decide) ?_|refine VRead.neg ?_|refine VC.seq ?_); (conv => whnf))))
    refine VUnit.storeB hw1 rfl rfl rfl ?_
    intro X4 hw4 hg4
    replace hp := hp.only hg4 (by omega)
    replace hq := hq.only hg4 (by omega)
    replace hd := hd.cell hg4 hg
    replace st := (st.add g).trans (Step.cell hg4)
    (conv => whnf)
    refine Keep.mk ⟨hp, hq⟩ ?_
    (conv => whnf)
    ((repeat ((first|refine kLa ?_|refine kLb ?_|refine kCa rfl ?_|refine kCb ?_|refine kCc ?_|refine kCd ?_|refine kCe ?_|refine kCf ?_|refine kCg ?_|refine kCh ?_|refine kCi ?_|refine kCj ?_|refine kQa ?_|refine kQb ?_|refine kGa ?_|refine kGb ?_|refine kHa ?_|refine kHb ?_|refine kPa ?_|refine kPb ?_|refine kPc ?_|refine kEa ?_|refine kEb ?_|refine kBa ?_|refine kBb ?_|refine kBc (by omega) ?_|refine kBd (by omega) ?_|refine kBe (by omega) ?_|refine kBf (by omega) ?_|refine kRa ?_|refine kRb ?_|refine VRead.fld ?_|refine VRead.load1 (by assumption) ?_|refine VRead.load (by assumption) ?_|refine kRf ?_|refine kRg ?_|refine kRh ?_|refine kRi ?_|refine kBe rfl ?_|refine kBc rfl ?_|refine kWa (by omega) (by omega) ?_|refine kWb (by omega) (by omega) ?_|refine kRj (by omega) ?_|refine kRk ?_|refine VSem.convI ?_|refine VRead.convI ?_|refine VRead.rem (by omega) (by decide) ?_|refine VRead.neg ?_|refine VC.seq ?_); (conv => whnf))))
    refine VUnit.storeB hw4 rfl rfl rfl ?_
    intro X5 hw5 hg5
    replace hp := hp.only hg5 (by omega)
    replace hq := hq.only hg5 (by omega)
    replace hd := hd.cell hg5 hg
    replace st := st.trans (Step.cell hg5)
    (conv => whnf)
    refine Keep.mk ⟨hp, hq⟩ ?_
    (conv => whnf)
    ((repeat ((first|refine kLa ?_|refine kLb ?_|refine kCa rfl ?_|refine kCb ?_|refine kCc ?_|refine kCd ?_|refine kCe ?_|refine kCf ?_|refine kCg ?_|refine kCh ?_|refine kCi ?_|refine kCj ?_|refine kQa ?_|refine kQb ?_|refine kGa ?_|refine kGb ?_|refine kHa ?_|refine kHb ?_|refine kPa ?_|refine kPb ?_|refine kPc ?_|refine kEa ?_|refine kEb ?_|refine kBa ?_|refine kBb ?_|refine kBc (by omega) ?_|refine kBd (by omega) ?_|refine kBe (by omega) ?_|refine kBf (by omega) ?_|refine kRa ?_|refine kRb ?_|refine VRead.fld ?_|refine VRead.load1 (by assumption) ?_|refine VRead.load (by assumption) ?_|refine kRf ?_|refine kRg ?_|refine kRh ?_|refine kRi ?_|refine kBe rfl ?_|refine kBc rfl ?_|refine kWa (by omega) (by omega) ?_|refine kWb (by omega) (by omega) ?_|refine kRj (by omega) ?_|refine kRk ?_|refine VSem.convI ?_|refine VRead.convI ?_|refine VRead.rem (by omega) (by decide) ?_|refine VRead.neg ?_|refine VC.seq ?_); (conv => whnf))))
    refine VUnit.storeB hw5 rfl rfl rfl ?_
    intro X6 hw6 hg6
    replace hp := hp.only hg6 (by omega)
    replace hq := hq.only hg6 (by omega)
    replace hd := hd.cell hg6 hg
    replace st := st.trans (Step.cell hg6)
    replace hw6 : Blk X6 g 105 (wlC d ⟨wl.n + 1, k.base, k.base + n⟩) := hw6
    clear hw1 hw4 hw5 hg4 hg5 hg6
    (conv => whnf)
    refine Keep.mk ⟨hp, hq⟩ ?_
    rw [hel]
    by_cases hel0 : wName wl.n = []
    · have he' : txt (wName wl.n) = txt [] := by rw [hel0]
      rw [if_pos hel0]
      ((conv => whnf); (repeat ((first|refine kLa ?_|refine kLb ?_|refine kCa rfl ?_|refine kCb ?_|refine kCc ?_|refine kCd ?_|refine kCe ?_|refine kCf ?_|refine kCg ?_|refine kCh ?_|refine kCi ?_|refine kCj ?_|refine kQa ?_|refine kQb ?_|refine kGa ?_|refine kGb ?_|refine kHa ?_|refine kHb ?_); (conv => whnf))))
      (repeat (first | ((first|refine kLa ?_|refine kLb ?_|refine kCa rfl ?_|refine kCb ?_|refine kCc ?_|refine kCd ?_|refine kCe ?_|refine kCf ?_|refine kCg ?_|refine kCh ?_|refine kCi ?_|refine kCj ?_|refine kQa ?_|refine kQb ?_|refine kGa ?_|refine kGb ?_|refine kHa ?_|refine kHb ?_|refine kPa ?_|refine kPb ?_|refine kPc ?_|refine kEa ?_|refine kEb ?_|refine kBa ?_|refine kBb ?_|refine kBc (by omega) ?_|refine kBd (by omega) ?_|refine kBe (by omega) ?_|refine kBf (by omega) ?_|refine kRa ?_|refine kRb ?_|refine VRead.fld ?_|refine VRead.load1 (by assumption) ?_|refine VRead.load (by assumption) ?_|refine kRf ?_|refine kRg ?_|refine kRh ?_|refine kRi ?_|refine kBe rfl ?_|refine kBc rfl ?_|refine kWa (by omega) (by omega) ?_|refine kWb (by omega) (by omega) ?_|refine kRj (by omega) ?_|refine kRk ?_|refine VSem.convI ?_|refine VRead.convI ?_|refine VRead.rem (by omega) (by decide) ?_|refine VRead.neg ?_|refine VC.seq ?_); (conv => whnf)) | (refine kBc he' ?_; (conv => whnf))))
      exact ⟨rfl, U1, hd, hw6, hg, st⟩
    have he' : ¬ txt (wName wl.n) = txt [] := fun e => hel0 (txt_inj.1 e)
    rw [if_neg hel0]
    ((conv => whnf); (repeat ((first|refine kLa ?_|refine kLb ?_|refine kCa rfl ?_|refine kCb ?_|refine kCc ?_|refine kCd ?_|refine kCe ?_|refine kCf ?_|refine kCg ?_|refine kCh ?_|refine kCi ?_|refine kCj ?_|refine kQa ?_|refine kQb ?_|refine kGa ?_|refine kGb ?_|refine kHa ?_|refine kHb ?_); (conv => whnf))))
    (repeat (first | ((first|refine kLa ?_|refine kLb ?_|refine kCa rfl ?_|refine kCb ?_|refine kCc ?_|refine kCd ?_|refine kCe ?_|refine kCf ?_|refine kCg ?_|refine kCh ?_|refine kCi ?_|refine kCj ?_|refine kQa ?_|refine kQb ?_|refine kGa ?_|refine kGb ?_|refine kHa ?_|refine kHb ?_|refine kPa ?_|refine kPb ?_|refine kPc ?_|refine kEa ?_|refine kEb ?_|refine kBa ?_|refine kBb ?_|refine kBc (by omega) ?_|refine kBd (by omega) ?_|refine kBe (by omega) ?_|refine kBf (by omega) ?_|refine kRa ?_|refine kRb ?_|refine VRead.fld ?_|refine VRead.load1 (by assumption) ?_|refine VRead.load (by assumption) ?_|refine kRf ?_|refine kRg ?_|refine kRh ?_|refine kRi ?_|refine kBe rfl ?_|refine kBc rfl ?_|refine kWa (by omega) (by omega) ?_|refine kWb (by omega) (by omega) ?_|refine kRj (by omega) ?_|refine kRk ?_|refine VSem.convI ?_|refine VRead.convI ?_|refine VRead.rem (by omega) (by decide) ?_|refine VRead.neg ?_|refine VC.seq ?_); (conv => whnf)) | (refine kBd he' ?_; (conv => whnf)) | (refine VRead.loadB hp rfl rfl ?_; (conv => whnf)) | (refine VRead.loadB hw6 rfl rfl ?_; (conv => whnf))))
    refine VCall.of (oRemove X6 U1 d S1 (wName wl.n) hd (by omega) (by omega)) ?_
    rintro e X7 ⟨rfl, U2, hd2, st2⟩
    refine ⟨_, rfl, ?_⟩
    obtain ⟨hw7, hg7⟩ := st2.blk hw6 hg
    have st7 := st.trans (st2.add g)
    by_cases c3 : (S1.remove (wName wl.n)).1 = 3
    · simp only [if_pos c3]
      ((conv => whnf); (repeat ((first|refine kLa ?_|refine kLb ?_|refine kCa rfl ?_|refine kCb ?_|refine kCc ?_|refine kCd ?_|refine kCe ?_|refine kCf ?_|refine kCg ?_|refine kCh ?_|refine kCi ?_|refine kCj ?_|refine kQa ?_|refine kQb ?_|refine kGa ?_|refine kGb ?_|refine kHa ?_|refine kHb ?_); (conv => whnf))))
      (repeat (first | ((first|refine kLa ?_|refine kLb ?_|refine kCa rfl ?_|refine kCb ?_|refine kCc ?_|refine kCd ?_|refine kCe ?_|refine kCf ?_|refine kCg ?_|refine kCh ?_|refine kCi ?_|refine kCj ?_|refine kQa ?_|refine kQb ?_|refine kGa ?_|refine kGb ?_|refine kHa ?_|refine kHb ?_|refine kPa ?_|refine kPb ?_|refine kPc ?_|refine kEa ?_|refine kEb ?_|refine kBa ?_|refine kBb ?_|refine kBc (by omega) ?_|refine kBd (by omega) ?_|refine kBe (by omega) ?_|refine kBf (by omega) ?_|refine kRa ?_|refine kRb ?_|refine VRead.fld ?_|refine VRead.load1 (by assumption) ?_|refine VRead.load (by assumption) ?_|refine kRf ?_|refine kRg ?_|refine kRh ?_|refine kRi ?_|refine kBe rfl ?_|refine kBc rfl ?_|refine kWa (by omega) (by omega) ?_|refine kWb (by omega) (by omega) ?_|refine kRj (by omega) ?_|refine kRk ?_|refine VSem.convI ?_|refine VRead.convI ?_|refine VRead.rem (by omega) (by decide) ?_|refine VRead.neg ?_|refine VC.seq ?_); (conv => whnf)) | (refine kBe c3 ?_; (conv => whnf))))
      exact ⟨rfl, U2, hd2, hw7, hg7, st7⟩
    · simp only [if_neg c3]
      ((conv => whnf); (repeat ((first|refine kLa ?_|refine kLb ?_|refine kCa rfl ?_|refine kCb ?_|refine kCc ?_|refine kCd ?_|refine kCe ?_|refine kCf ?_|refine kCg ?_|refine kCh ?_|refine kCi ?_|refine kCj ?_|refine kQa ?_|refine kQb ?_|refine kGa ?_|refine kGb ?_|refine kHa ?_|refine kHb ?_); (conv => whnf))))
      (repeat (first | ((first|refine kLa ?_|refine kLb ?_|refine kCa rfl ?_|refine kCb ?_|refine kCc ?_|refine kCd ?_|refine kCe ?_|refine kCf ?_|refine kCg ?_|refine kCh ?_|refine kCi ?_|refine kCj ?_|refine kQa ?_|refine kQb ?_|refine kGa ?_|refine kGb ?_|refine kHa ?_|refine kHb ?_|refine kPa ?_|refine kPb ?_|refine kPc ?_|refine kEa ?_|refine kEb ?_|refine kBa ?_|refine kBb ?_|refine kBc (by omega) ?_|refine kBd (by omega) ?_|refine kBe (by omega) ?_|refine kBf (by omega) ?_|refine kRa ?_|refine kRb ?_|refine VRead.fld ?_|refine VRead.load1 (by assumption) ?_|refine VRead.load (by assumption) ?_|refine kRf ?_|refine kRg ?_|refine kRh ?_|refine kRi ?_|refine kBe rfl ?_|refine kBc rfl ?_|refine kWa (by omega) (by omega) ?_|refine kWb (by omega) (by omega) ?_|refine kRj (by omega) ?_|refine kRk ?_|refine VSem.convI ?_|refine VRead.convI ?_|refine VRead.rem (by omega) (by decide) ?_|refine VRead.neg ?_|refine VC.seq ?_); (conv => whnf)) | (refine kBf c3 ?_; (conv => whnf))))
      exact ⟨rfl, U2, hd2, hw7, hg7, st7⟩
end Go.Proofs.Ytebeidnmplnlpaa
end
