/- Texts joined: WalN. No condition. -/
import Derived.Test.YtebeidnmplnlpaaPkd8
section
set_option maxRecDepth 10000
namespace Go.Proofs.Ytebeidnmplnlpaa
set_option linter.unusedVariables false
open Go.RowKit

theorem refWName_any (i : Int) (w : World) (hi : -9223372036854775808 ≤ i ∧ i ≤ 9223372036854775807) :
    Calls Try.prog 38 #[.int .i64 i] w fun e w' => e = .returned (.string (txt (wName i))) ∧ w' = w := by
  refine calls_vc Try.func38 rfl (by kernel_rfl) ?_
  by_cases h1 : i < 1
  · have e : wName i = [] := by unfold wName; rw [if_pos (.inl h1)]
    rw [e]
    ((conv => whnf); (repeat ((first|refine kLa ?_|refine kLb ?_|refine kCa rfl ?_|refine kCb ?_|refine kCc ?_|refine kCd ?_|refine kCe ?_|refine kCf ?_|refine kCg ?_|refine kCh ?_|refine kCi ?_|refine kCj ?_|refine kQa ?_|refine kQb ?_|refine kGa ?_|refine kGb ?_|refine kHa ?_|refine kHb ?_); (conv => whnf))))
    ((repeat ((first|refine kLa ?_|refine kLb ?_|refine kCa rfl ?_|refine kCb ?_|refine kCc ?_|refine kCd ?_|refine kCe ?_|refine kCf ?_|refine kCg ?_|refine kCh ?_|refine kCi ?_|refine kCj ?_|refine kQa ?_|refine kQb ?_|refine kGa ?_|refine kGb ?_|refine kHa ?_|refine kHb ?_|refine kPa ?_|refine kPb ?_|refine kPc ?_|refine kEa ?_|refine kEb ?_|refine kBa ?_|refine kBb ?_|refine kBc (by omega) ?_|refine kBd (by omega) ?_|refine kBe (by omega) ?_|refine kBf (by omega) ?_|refine kRa ?_|refine kRb ?_|refine VRead.fld ?_|refine VRead.load1 (by assumption) ?_|refine VRead.load (by assumption) ?_|refine kRf ?_|refine kRg ?_|refine kRh ?_|refine kRi ?_|refine kBe rfl ?_|refine kBc rfl ?_|refine kWa (by omega) (by omega) ?_|refine kWb (by omega) (by omega) ?_|refine kRj (by omega) ?_|refine kRk ?_|refine VSem.convI ?_|refine VRead.convI ?_|refine VRead.rem (by omega) (by decide) ?_|refine VRead.neg ?_|refine VC.seq ?_); (conv => whnf))))
    exact ⟨rfl, rfl⟩
  by_cases h2 : 99999999 < i
  · have e : wName i = [] := by unfold wName; rw [if_pos (.inr h2)]
    rw [e]
    ((conv => whnf); (repeat ((first|refine kLa ?_|refine kLb ?_|refine kCa rfl ?_|refine kCb ?_|refine kCc ?_|refine kCd ?_|refine kCe ?_|refine kCf ?_|refine kCg ?_|refine kCh ?_|refine kCi ?_|refine kCj ?_|refine kQa ?_|refine kQb ?_|refine kGa ?_|refine kGb ?_|refine kHa ?_|refine kHb ?_); (conv => whnf))))
    ((repeat ((first|refine kLa ?_|refine kLb ?_|refine kCa rfl ?_|refine kCb ?_|refine kCc ?_|refine kCd ?_|refine kCe ?_|refine kCf ?_|refine kCg ?_|refine kCh ?_|refine kCi ?_|refine kCj ?_|refine kQa ?_|refine kQb ?_|refine kGa ?_|refine kGb ?_|refine kHa ?_|refine kHb ?_|refine kPa ?_|refine kPb ?_|refine kPc ?_|refine kEa ?_|refine kEb ?_|refine kBa ?_|refine kBb ?_|refine kBc (by omega) ?_|refine kBd (by omega) ?_|refine kBe (by omega) ?_|refine kBf (by omega) ?_|refine kRa ?_|refine kRb ?_|refine VRead.fld ?_|refine VRead.load1 (by assumption) ?_|refine VRead.load (by assumption) ?_|refine kRf ?_|refine kRg ?_|refine kRh ?_|refine kRi ?_|refine kBe rfl ?_|refine kBc rfl ?_|refine kWa (by omega) (by omega) ?_|refine kWb (by omega) (by omega) ?_|refine kRj (by omega) ?_|refine kRk ?_|refine VSem.convI ?_|refine VRead.convI ?_|refine VRead.rem (by omega) (by decide) ?_|refine VRead.neg ?_|refine VC.seq ?_); (conv => whnf))))
    exact ⟨rfl, rfl⟩
  obtain ⟨n, rfl⟩ : ∃ n : Nat, i = (n : Int) := ⟨i.toNat, by omega⟩
  rw [wName_of (by omega) (by omega)]
  ((conv => whnf); (repeat ((first|refine kLa ?_|refine kLb ?_|refine kCa rfl ?_|refine kCb ?_|refine kCc ?_|refine kCd ?_|refine kCe ?_|refine kCf ?_|refine kCg ?_|refine kCh ?_|refine kCi ?_|refine kCj ?_|refine kQa ?_|refine kQb ?_|refine kGa ?_|refine kGb ?_|refine kHa ?_|refine kHb ?_); (conv => whnf))))
  ((repeat ((first|refine kLa ?_|refine kLb ?_|refine kCa rfl ?_|refine kCb ?_|refine kCc ?_|refine kCd ?_|refine kCe ?_|refine kCf ?_|refine kCg ?_|refine kCh ?_|refine kCi ?_|refine kCj ?_|refine kQa ?_|refine kQb ?_|refine kGa ?_|refine kGb ?_|refine kHa ?_|refine kHb ?_|refine kPa ?_|refine kPb ?_|refine kPc ?_|refine kEa ?_|refine kEb ?_|refine kBa ?_|refine kBb ?_|refine kBc (by omega) ?_|refine kBd (by omega) ?_|refine kBe (by omega) ?_|refine kBf (by omega) ?_|refine kRa ?_|refine kRb ?_|refine VRead.fld ?_|refine VRead.load1 (by assumption) ?_|refine VRead.load (by assumption) ?_|refine kRf ?_|refine kRg ?_|refine kRh ?_|refine kRi ?_|refine kBe rfl ?_|refine kBc rfl ?_|refine kWa (by omega) (by omega) ?_|refine kWb (by omega) (by omega) ?_|refine kRj (by omega) ?_|refine kRk ?_|refine VSem.convI ?_|refine VRead.convI ?_|refine VRead.rem (by omega) (by decide) ?_|refine VRead.neg ?_|refine VC.seq ?_); (conv => whnf))))
  refine VCall.of (refNumbered_any wPre n 8 w (by decide) (by omega) (by decide)) ?_
  rintro e w1 ⟨rfl, rfl⟩
  refine ⟨_, rfl, ?_⟩
  ((conv => whnf); (repeat ((first|refine kLa ?_|refine kLb ?_|refine kCa rfl ?_|refine kCb ?_|refine kCc ?_|refine kCd ?_|refine kCe ?_|refine kCf ?_|refine kCg ?_|refine kCh ?_|refine kCi ?_|refine kCj ?_|refine kQa ?_|refine kQb ?_|refine kGa ?_|refine kGb ?_|refine kHa ?_|refine kHb ?_); (conv => whnf))))
  ((repeat ((first|refine kLa ?_|refine kLb ?_|refine kCa rfl ?_|refine kCb ?_|refine kCc ?_|refine kCd ?_|refine kCe ?_|refine kCf ?_|refine kCg ?_|refine kCh ?_|refine kCi ?_|refine kCj ?_|refine kQa ?_|refine kQb ?_|refine kGa ?_|refine kGb ?_|refine kHa ?_|refine kHb ?_|refine kPa ?_|refine kPb ?_|refine kPc ?_|refine kEa ?_|refine kEb ?_|refine kBa ?_|refine kBb ?_|refine kBc (by omega) ?_|refine kBd (by omega) ?_|refine kBe (by omega) ?_|refine kBf (by omega) ?_|refine kRa ?_|refine kRb ?_|refine VRead.fld ?_|refine VRead.load1 (by assumption) ?_|refine VRead.load (by assumption) ?_|refine kRf ?_|refine kRg ?_|refine kRh ?_|refine kRi ?_|refine kBe rfl ?_|refine kBc rfl ?_|refine kWa (by omega) (by omega) ?_|refine kWb (by omega) (by omega) ?_|refine kRj (by omega) ?_|refine kRk ?_|refine VSem.convI ?_|refine VRead.convI ?_|refine VRead.rem (by omega) (by decide) ?_|refine VRead.neg ?_|refine VC.seq ?_); (conv => whnf))))
  exact ⟨rfl, rfl⟩
theorem num1_w (s : List UInt8) : num1 (numN wPre 8 s) = wNum s := by
  unfold num1 wNum
  cases numN wPre 8 s <;> rfl
theorem walNames_walk (i : Int) (s : ByteArray) (W : World) (hi : -9223372036854775808 ≤ i ∧ i ≤ 9223372036854775807) (hs : s.size ≤ 140737488351232) :
    Calls Try.prog 8 #[.int .i64 i, .string s] W fun e W' => e = .returned (.bool true) ∧ Below W.heap.size W W' := by
  obtain ⟨l, rfl⟩ : ∃ l, s = txt l := ⟨s.data.toList, rfl⟩
  have hl : l.length ≤ 140737488351232 := by rw [txt_size] at hs; exact hs
  refine calls_vc Try.func8 rfl (by kernel_rfl) ?_
  ((conv => whnf); (repeat ((first|refine kLa ?_|refine kLb ?_|refine kCa rfl ?_|refine kCb ?_|refine kCc ?_|refine kCd ?_|refine kCe ?_|refine kCf ?_|refine kCg ?_|refine kCh ?_|refine kCi ?_|refine kCj ?_|refine kQa ?_|refine kQb ?_|refine kGa ?_|refine kGb ?_|refine kHa ?_|refine kHb ?_); (conv => whnf))))
  ((repeat ((first|refine kLa ?_|refine kLb ?_|refine kCa rfl ?_|refine kCb ?_|refine kCc ?_|refine kCd ?_|refine kCe ?_|refine kCf ?_|refine kCg ?_|refine kCh ?_|refine kCi ?_|refine kCj ?_|refine kQa ?_|refine kQb ?_|refine kGa ?_|refine kGb ?_|refine kHa ?_|refine kHb ?_|refine kPa ?_|refine kPb ?_|refine kPc ?_|refine kEa ?_|refine kEb ?_|refine kBa ?_|refine kBb ?_|refine kBc (by omega) ?_|refine kBd (by omega) ?_|refine kBe (by omega) ?_|refine kBf (by omega) ?_|refine kRa ?_|refine kRb ?_|refine VRead.fld ?_|refine VRead.load1 (by assumption) ?_|refine VRead.load (by assumption) ?_|refine kRf ?_|refine kRg ?_|refine kRh ?_|refine kRi ?_|refine kBe rfl ?_|refine kBc rfl ?_|refine kWa (by omega) (by omega) ?_|refine kWb (by omega) (by omega) ?_|refine kRj (by omega) ?_|refine kRk ?_|refine VSem.convI ?_|refine VRead.convI ?_|refine VRead.rem (by omega) (by decide) ?_|refine VRead.neg ?_|refine VC.seq ?_); (conv => whnf))))
  refine VCall.of (walName_any i W hi) ?_
  rintro e W1 ⟨rfl, hB1⟩
  refine ⟨_, rfl, ?_⟩
  ((conv => whnf); (repeat ((first|refine kLa ?_|refine kLb ?_|refine kCa rfl ?_|refine kCb ?_|refine kCc ?_|refine kCd ?_|refine kCe ?_|refine kCf ?_|refine kCg ?_|refine kCh ?_|refine kCi ?_|refine kCj ?_|refine kQa ?_|refine kQb ?_|refine kGa ?_|refine kGb ?_|refine kHa ?_|refine kHb ?_); (conv => whnf))))
  ((repeat ((first|refine kLa ?_|refine kLb ?_|refine kCa rfl ?_|refine kCb ?_|refine kCc ?_|refine kCd ?_|refine kCe ?_|refine kCf ?_|refine kCg ?_|refine kCh ?_|refine kCi ?_|refine kCj ?_|refine kQa ?_|refine kQb ?_|refine kGa ?_|refine kGb ?_|refine kHa ?_|refine kHb ?_|refine kPa ?_|refine kPb ?_|refine kPc ?_|refine kEa ?_|refine kEb ?_|refine kBa ?_|refine kBb ?_|refine kBc (by omega) ?_|refine kBd (by omega) ?_|refine kBe (by omega) ?_|refine kBf (by omega) ?_|refine kRa ?_|refine kRb ?_|refine VRead.fld ?_|refine VRead.load1 (by assumption) ?_|refine VRead.load (by assumption) ?_|refine kRf ?_|refine kRg ?_|refine kRh ?_|refine kRi ?_|refine kBe rfl ?_|refine kBc rfl ?_|refine kWa (by omega) (by omega) ?_|refine kWb (by omega) (by omega) ?_|refine kRj (by omega) ?_|refine kRk ?_|refine VSem.convI ?_|refine VRead.convI ?_|refine VRead.rem (by omega) (by decide) ?_|refine VRead.neg ?_|refine VC.seq ?_); (conv => whnf))))
  refine VCall.of (walNumber_any l W1 (by omega)) ?_
  rintro e W2 ⟨rfl, hB2⟩
  refine ⟨_, rfl, ?_⟩
  have hB02 := hB1.trans (hB2.mono hB1.size)
  cases hN : wNum l with
  | none =>
    have hV : numV none = .tuple #[.int .i64 0, .bool false] := rfl
    rw [hV]
    ((conv => whnf); (repeat ((first|refine kLa ?_|refine kLb ?_|refine kCa rfl ?_|refine kCb ?_|refine kCc ?_|refine kCd ?_|refine kCe ?_|refine kCf ?_|refine kCg ?_|refine kCh ?_|refine kCi ?_|refine kCj ?_|refine kQa ?_|refine kQb ?_|refine kGa ?_|refine kGb ?_|refine kHa ?_|refine kHb ?_); (conv => whnf))))
    ((repeat ((first|refine kLa ?_|refine kLb ?_|refine kCa rfl ?_|refine kCb ?_|refine kCc ?_|refine kCd ?_|refine kCe ?_|refine kCf ?_|refine kCg ?_|refine kCh ?_|refine kCi ?_|refine kCj ?_|refine kQa ?_|refine kQb ?_|refine kGa ?_|refine kGb ?_|refine kHa ?_|refine kHb ?_|refine kPa ?_|refine kPb ?_|refine kPc ?_|refine kEa ?_|refine kEb ?_|refine kBa ?_|refine kBb ?_|refine kBc (by omega) ?_|refine kBd (by omega) ?_|refine kBe (by omega) ?_|refine kBf (by omega) ?_|refine kRa ?_|refine kRb ?_|refine VRead.fld ?_|refine VRead.load1 (by assumption) ?_|refine VRead.load (by assumption) ?_|refine kRf ?_|refine kRg ?_|refine kRh ?_|refine kRi ?_|refine kBe rfl ?_|refine kBc rfl ?_|refine kWa (by omega) (by omega) ?_|refine kWb (by omega) (by omega) ?_|refine kRj (by omega) ?_|refine kRk ?_|refine VSem.convI ?_|refine VRead.convI ?_|refine VRead.rem (by omega) (by decide) ?_|refine VRead.neg ?_|refine VC.seq ?_); (conv => whnf))))
    refine VCall.of (refNumber_any wPre l 8 W2 (by decide) (by omega) (by decide)) ?_
    rintro e W3 ⟨rfl, eW⟩
    obtain rfl := eW.symm
    refine ⟨_, rfl, ?_⟩
    rw [num1_w, hN, hV]
    ((conv => whnf); (repeat ((first|refine kLa ?_|refine kLb ?_|refine kCa rfl ?_|refine kCb ?_|refine kCc ?_|refine kCd ?_|refine kCe ?_|refine kCf ?_|refine kCg ?_|refine kCh ?_|refine kCi ?_|refine kCj ?_|refine kQa ?_|refine kQb ?_|refine kGa ?_|refine kGb ?_|refine kHa ?_|refine kHb ?_); (conv => whnf))))
    ((repeat ((first|refine kLa ?_|refine kLb ?_|refine kCa rfl ?_|refine kCb ?_|refine kCc ?_|refine kCd ?_|refine kCe ?_|refine kCf ?_|refine kCg ?_|refine kCh ?_|refine kCi ?_|refine kCj ?_|refine kQa ?_|refine kQb ?_|refine kGa ?_|refine kGb ?_|refine kHa ?_|refine kHb ?_|refine kPa ?_|refine kPb ?_|refine kPc ?_|refine kEa ?_|refine kEb ?_|refine kBa ?_|refine kBb ?_|refine kBc (by omega) ?_|refine kBd (by omega) ?_|refine kBe (by omega) ?_|refine kBf (by omega) ?_|refine kRa ?_|refine kRb ?_|refine VRead.fld ?_|refine VRead.load1 (by assumption) ?_|refine VRead.load (by assumption) ?_|refine kRf ?_|refine kRg ?_|refine kRh ?_|refine kRi ?_|refine kBe rfl ?_|refine kBc rfl ?_|refine kWa (by omega) (by omega) ?_|refine kWb (by omega) (by omega) ?_|refine kRj (by omega) ?_|refine kRk ?_|refine VSem.convI ?_|refine VRead.convI ?_|refine VRead.rem (by omega) (by decide) ?_|refine VRead.neg ?_|refine VC.seq ?_); (conv => whnf))))
    refine VCall.of (refWName_any i W2 hi) ?_
    rintro e W3 ⟨rfl, eW⟩
    obtain rfl := eW.symm
    refine ⟨_, rfl, ?_⟩
    ((conv => whnf); (repeat ((first|refine kLa ?_|refine kLb ?_|refine kCa rfl ?_|refine kCb ?_|refine kCc ?_|refine kCd ?_|refine kCe ?_|refine kCf ?_|refine kCg ?_|refine kCh ?_|refine kCi ?_|refine kCj ?_|refine kQa ?_|refine kQb ?_|refine kGa ?_|refine kGb ?_|refine kHa ?_|refine kHb ?_); (conv => whnf))))
    ((repeat ((first|refine kLa ?_|refine kLb ?_|refine kCa rfl ?_|refine kCb ?_|refine kCc ?_|refine kCd ?_|refine kCe ?_|refine kCf ?_|refine kCg ?_|refine kCh ?_|refine kCi ?_|refine kCj ?_|refine kQa ?_|refine kQb ?_|refine kGa ?_|refine kGb ?_|refine kHa ?_|refine kHb ?_|refine kPa ?_|refine kPb ?_|refine kPc ?_|refine kEa ?_|refine kEb ?_|refine kBa ?_|refine kBb ?_|refine kBc (by omega) ?_|refine kBd (by omega) ?_|refine kBe (by omega) ?_|refine kBf (by omega) ?_|refine kRa ?_|refine kRb ?_|refine VRead.fld ?_|refine VRead.load1 (by assumption) ?_|refine VRead.load (by assumption) ?_|refine kRf ?_|refine kRg ?_|refine kRh ?_|refine kRi ?_|refine kBe rfl ?_|refine kBc rfl ?_|refine kWa (by omega) (by omega) ?_|refine kWb (by omega) (by omega) ?_|refine kRj (by omega) ?_|refine kRk ?_|refine VSem.convI ?_|refine VRead.convI ?_|refine VRead.rem (by omega) (by decide) ?_|refine VRead.neg ?_|refine VC.seq ?_); (conv => whnf))))
    refine VCall.of (awake18_any W2) ?_
    rintro e W3 ⟨rfl, hB3⟩
    refine ⟨_, rfl, ?_⟩
    ((conv => whnf); (repeat ((first|refine kLa ?_|refine kLb ?_|refine kCa rfl ?_|refine kCb ?_|refine kCc ?_|refine kCd ?_|refine kCe ?_|refine kCf ?_|refine kCg ?_|refine kCh ?_|refine kCi ?_|refine kCj ?_|refine kQa ?_|refine kQb ?_|refine kGa ?_|refine kGb ?_|refine kHa ?_|refine kHb ?_); (conv => whnf))))
    ((repeat ((first|refine kLa ?_|refine kLb ?_|refine kCa rfl ?_|refine kCb ?_|refine kCc ?_|refine kCd ?_|refine kCe ?_|refine kCf ?_|refine kCg ?_|refine kCh ?_|refine kCi ?_|refine kCj ?_|refine kQa ?_|refine kQb ?_|refine kGa ?_|refine kGb ?_|refine kHa ?_|refine kHb ?_|refine kPa ?_|refine kPb ?_|refine kPc ?_|refine kEa ?_|refine kEb ?_|refine kBa ?_|refine kBb ?_|refine kBc (by omega) ?_|refine kBd (by omega) ?_|refine kBe (by omega) ?_|refine kBf (by omega) ?_|refine kRa ?_|refine kRb ?_|refine VRead.fld ?_|refine VRead.load1 (by assumption) ?_|refine VRead.load (by assumption) ?_|refine kRf ?_|refine kRg ?_|refine kRh ?_|refine kRi ?_|refine kBe rfl ?_|refine kBc rfl ?_|refine kWa (by omega) (by omega) ?_|refine kWb (by omega) (by omega) ?_|refine kRj (by omega) ?_|refine kRk ?_|refine VSem.convI ?_|refine VRead.convI ?_|refine VRead.rem (by omega) (by decide) ?_|refine VRead.neg ?_|refine VC.seq ?_); (conv => whnf))))
    exact ⟨rfl, hB02.trans (hB3.mono hB02.size)⟩
  | some n =>
    have hV : numV (some n) = .tuple #[.int .i64 (n : Int), .bool true] := rfl
    rw [hV]
    ((conv => whnf); (repeat ((first|refine kLa ?_|refine kLb ?_|refine kCa rfl ?_|refine kCb ?_|refine kCc ?_|refine kCd ?_|refine kCe ?_|refine kCf ?_|refine kCg ?_|refine kCh ?_|refine kCi ?_|refine kCj ?_|refine kQa ?_|refine kQb ?_|refine kGa ?_|refine kGb ?_|refine kHa ?_|refine kHb ?_); (conv => whnf))))
    ((repeat ((first|refine kLa ?_|refine kLb ?_|refine kCa rfl ?_|refine kCb ?_|refine kCc ?_|refine kCd ?_|refine kCe ?_|refine kCf ?_|refine kCg ?_|refine kCh ?_|refine kCi ?_|refine kCj ?_|refine kQa ?_|refine kQb ?_|refine kGa ?_|refine kGb ?_|refine kHa ?_|refine kHb ?_|refine kPa ?_|refine kPb ?_|refine kPc ?_|refine kEa ?_|refine kEb ?_|refine kBa ?_|refine kBb ?_|refine kBc (by omega) ?_|refine kBd (by omega) ?_|refine kBe (by omega) ?_|refine kBf (by omega) ?_|refine kRa ?_|refine kRb ?_|refine VRead.fld ?_|refine VRead.load1 (by assumption) ?_|refine VRead.load (by assumption) ?_|refine kRf ?_|refine kRg ?_|refine kRh ?_|refine kRi ?_|refine kBe rfl ?_|refine kBc rfl ?_|refine kWa (by omega) (by omega) ?_|refine kWb (by omega) (by omega) ?_|refine kRj (by omega) ?_|refine kRk ?_|refine VSem.convI ?_|refine VRead.convI ?_|refine VRead.rem (by omega) (by decide) ?_|refine VRead.neg ?_|refine VC.seq ?_); (conv => whnf))))
    refine VCall.of (refNumber_any wPre l 8 W2 (by decide) (by omega) (by decide)) ?_
    rintro e W3 ⟨rfl, eW⟩
    obtain rfl := eW.symm
    refine ⟨_, rfl, ?_⟩
    rw [num1_w, hN, hV]
    ((conv => whnf); (repeat ((first|refine kLa ?_|refine kLb ?_|refine kCa rfl ?_|refine kCb ?_|refine kCc ?_|refine kCd ?_|refine kCe ?_|refine kCf ?_|refine kCg ?_|refine kCh ?_|refine kCi ?_|refine kCj ?_|refine kQa ?_|refine kQb ?_|refine kGa ?_|refine kGb ?_|refine kHa ?_|refine kHb ?_); (conv => whnf))))
    ((repeat ((first|refine kLa ?_|refine kLb ?_|refine kCa rfl ?_|refine kCb ?_|refine kCc ?_|refine kCd ?_|refine kCe ?_|refine kCf ?_|refine kCg ?_|refine kCh ?_|refine kCi ?_|refine kCj ?_|refine kQa ?_|refine kQb ?_|refine kGa ?_|refine kGb ?_|refine kHa ?_|refine kHb ?_|refine kPa ?_|refine kPb ?_|refine kPc ?_|refine kEa ?_|refine kEb ?_|refine kBa ?_|refine kBb ?_|refine kBc (by omega) ?_|refine kBd (by omega) ?_|refine kBe (by omega) ?_|refine kBf (by omega) ?_|refine kRa ?_|refine kRb ?_|refine VRead.fld ?_|refine VRead.load1 (by assumption) ?_|refine VRead.load (by assumption) ?_|refine kRf ?_|refine kRg ?_|refine kRh ?_|refine kRi ?_|refine kBe rfl ?_|refine kBc rfl ?_|refine kWa (by omega) (by omega) ?_|refine kWb (by omega) (by omega) ?_|refine kRj (by omega) ?_|refine kRk ?_|refine VSem.convI ?_|refine VRead.convI ?_|refine VRead.rem (by omega) (by decide) ?_|refine VRead.neg ?_|refine VC.seq ?_); (conv => whnf))))
    refine VCall.of (refWName_any i W2 hi) ?_
    rintro e W3 ⟨rfl, eW⟩
    obtain rfl := eW.symm
    refine ⟨_, rfl, ?_⟩
    ((conv => whnf); (repeat ((first|refine kLa ?_|refine kLb ?_|refine kCa rfl ?_|refine kCb ?_|refine kCc ?_|refine kCd ?_|refine kCe ?_|refine kCf ?_|refine kCg ?_|refine kCh ?_|refine kCi ?_|refine kCj ?_|refine kQa ?_|refine kQb ?_|refine kGa ?_|refine kGb ?_|refine kHa ?_|refine kHb ?_); (conv => whnf))))
    ((repeat ((first|refine kLa ?_|refine kLb ?_|refine kCa rfl ?_|refine kCb ?_|refine kCc ?_|refine kCd ?_|refine kCe ?_|refine kCf ?_|refine kCg ?_|refine kCh ?_|refine kCi ?_|refine kCj ?_|refine kQa ?_|refine kQb ?_|refine kGa ?_|refine kGb ?_|refine kHa ?_|refine kHb ?_|refine kPa ?_|refine kPb ?_|refine kPc ?_|refine kEa ?_|refine kEb ?_|refine kBa ?_|refine kBb ?_|refine kBc (by omega) ?_|refine kBd (by omega) ?_|refine kBe (by omega) ?_|refine kBf (by omega) ?_|refine kRa ?_|refine kRb ?_|refine VRead.fld ?_|refine VRead.load1 (by assumption) ?_|refine VRead.load (by assumption) ?_|refine kRf ?_|refine kRg ?_|refine kRh ?_|refine kRi ?_|refine kBe rfl ?_|refine kBc rfl ?_|refine kWa (by omega) (by omega) ?_|refine kWb (by omega) (by omega) ?_|refine kRj (by omega) ?_|refine kRk ?_|refine VSem.convI ?_|refine VRead.convI ?_|refine VRead.rem (by omega) (by decide) ?_|refine VRead.neg ?_|refine VC.seq ?_); (conv => whnf))))
    refine VCall.of (awake18_any W2) ?_
    rintro e W3 ⟨rfl, hB3⟩
    refine ⟨_, rfl, ?_⟩
    ((conv => whnf); (repeat ((first|refine kLa ?_|refine kLb ?_|refine kCa rfl ?_|refine kCb ?_|refine kCc ?_|refine kCd ?_|refine kCe ?_|refine kCf ?_|refine kCg ?_|refine kCh ?_|refine kCi ?_|refine kCj ?_|refine kQa ?_|refine kQb ?_|refine kGa ?_|refine kGb ?_|refine kHa ?_|refine kHb ?_); (conv => whnf))))
    ((repeat ((first|refine kLa ?_|refine kLb ?_|refine kCa rfl ?_|refine kCb ?_|refine kCc ?_|refine kCd ?_|refine kCe ?_|refine kCf ?_|refine kCg ?_|refine kCh ?_|refine kCi ?_|refine kCj ?_|refine kQa ?_|refine kQb ?_|refine kGa ?_|refine kGb ?_|refine kHa ?_|refine kHb ?_|refine kPa ?_|refine kPb ?_|refine kPc ?_|refine kEa ?_|refine kEb ?_|refine kBa ?_|refine kBb ?_|refine kBc (by omega) ?_|refine kBd (by omega) ?_|refine kBe (by omega) ?_|refine kBf (by omega) ?_|refine kRa ?_|refine kRb ?_|refine VRead.fld ?_|refine VRead.load1 (by assumption) ?_|refine VRead.load (by assumption) ?_|refine kRf ?_|refine kRg ?_|refine kRh ?_|refine kRi ?_|refine kBe rfl ?_|refine kBc rfl ?_|refine kWa (by omega) (by omega) ?_|refine kWb (by omega) (by omega) ?_|refine kRj (by omega) ?_|refine kRk ?_|refine VSem.convI ?_|refine VRead.convI ?_|refine VRead.rem (by omega) (by decide) ?_|refine VRead.neg ?_|refine VC.seq ?_); (conv => whnf))))
    exact ⟨rfl, hB02.trans (hB3.mono hB02.size)⟩
end Go.Proofs.Ytebeidnmplnlpaa
end
