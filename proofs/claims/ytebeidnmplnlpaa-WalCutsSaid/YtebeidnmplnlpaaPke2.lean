/- Texts joined: DiskD, DiskE, DiskF, DiskG, VD, DiskH, DiskI, DiskJ, VE, RdA. No condition. -/
import Derived.Test.YtebeidnmplnlpaaPke1
import Derived.Test.YtebeidnmplnlpaaPke0
import Derived.Lib.SlBytesConst
section
set_option maxRecDepth 10000
namespace Go.Proofs.Ytebeidnmplnlpaa
set_option linter.unusedVariables false
open Go.RowKit
open Go.Maps (Keyed)
open Go.ChangeMaps Go.WideElems

theorem Disk.wf {W : World} {U : Foot} {d : Nat} {S : DS} (h : Disk W U d S) : DWf S := h.1
theorem dList_any (W : World) (U : Foot) (d : Nat) (S : DS) (h : Disk W U d S) :
    Calls Try.prog 23 #[.pointer (some ⟨d, 0, none⟩)] W fun e W' => ∃ A k, e = .returned (.slice A S.t.length k) ∧ W'.ownsRow W.heap.size 9 1 (.slice A S.t.length k) S.t.length ((S.t.map (·.1)).map encStr) ∧ Below W.heap.size W W' := by
  obtain ⟨h0, m, c, L, h1, h2, h3⟩ := h
  have e1 : S.t.length = L.length := by rw [← h3]; exact tmap_length _ _
  have e2 : S.t.map (·.1) = L.map (·.1) := by rw [← h3]; exact tmap_keys _ _
  rw [e1, e2]
  exact dList_at W U d m c S.k L h1 (by rw [← e1]; exact h0.t.few)
def Dk.new (room : Int) : Dk := ⟨max 0 (min room 16777216), 0, false, 0, 0, false⟩
def DS.new (room : Int) : DS := ⟨Dk.new room, []⟩
theorem DWf.new (room : Int) : DWf (DS.new room) := ⟨⟨by simp only [DS.new, Dk.new]; omega, by simp [DS.new, Dk.new], by simp [DS.new, Dk.new]⟩, ⟨by simp only [DS.new, Dk.new, used]; omega, by simp [DS.new], by simp [DS.new], by simp [DS.new, Rising], by simp [DS.new]⟩⟩
theorem dNew_any (W : World) (room : Int) :
    Calls Try.prog 18 #[.int .i64 room] W fun e W' => ∃ d, e = .returned (.pointer (some ⟨d, 0, none⟩)) ∧ Disk W' (fun j => W.heap.size ≤ j) d (DS.new room) ∧ Below W.heap.size W W' := by
  refine calls_vc Try.func18 rfl (by kernel_rfl) ?_
  ((conv => whnf); (repeat ((first|refine kLa ?_|refine kLb ?_|refine kCa rfl ?_|refine kCb ?_|refine kCc ?_|refine kCd ?_|refine kCe ?_|refine kCf ?_|refine kCg ?_|refine kCh ?_|refine kCi ?_|refine kCj ?_|refine kQa ?_|refine kQb ?_|refine kGa ?_|refine kGb ?_|refine kHa ?_|refine kHb ?_); (conv => whnf))))
  ((repeat ((first|refine kLa ?_|refine kLb ?_|refine kCa rfl ?_|refine kCb ?_|refine kCc ?_|refine kCd ?_|refine kCe ?_|refine kCf ?_|refine kCg ?_|refine kCh ?_|refine kCi ?_|refine kCj ?_|refine kQa ?_|refine kQb ?_|refine kGa ?_|refine kGb ?_|refine kHa ?_|refine kHb ?_|refine kPa ?_|refine kPb ?_|refine kPc ?_|refine kEa ?_|refine kEb ?_|refine kBa ?_|refine kBb ?_|refine kBc (by omega) ?_|refine kBd (by omega) ?_|refine kBe (by omega) ?_|refine kBf (by omega) ?_|refine kRa ?_|refine kRb ?_|refine VRead.fld ?_|refine VRead.load1 (by assumption) ?_|refine VRead.load (by assumption) ?_|refine kRf ?_|refine kRg ?_|refine kRh ?_|refine kRi ?_|refine kBe rfl ?_|refine kBc rfl ?_|refine kWa (by omega) (by omega) ?_|refine kWb (by omega) (by omega) ?_|refine kRj (by omega) ?_|refine kRk ?_|refine VSem.convI ?_|refine VRead.convI ?_|refine VRead.rem (by omega) (by decide) ?_|refine VRead.neg ?_|refine VC.seq ?_); (conv => whnf))))
  refine VRead.minZ (z := min room 16777216) (by split <;> omega) ?_
  ((conv => whnf); (repeat ((first|refine kLa ?_|refine kLb ?_|refine kCa rfl ?_|refine kCb ?_|refine kCc ?_|refine kCd ?_|refine kCe ?_|refine kCf ?_|refine kCg ?_|refine kCh ?_|refine kCi ?_|refine kCj ?_|refine kQa ?_|refine kQb ?_|refine kGa ?_|refine kGb ?_|refine kHa ?_|refine kHb ?_); (conv => whnf))))
  refine VRead.maxZ (z := max 0 (min room 16777216)) (by split <;> omega) ?_
  ((conv => whnf); (repeat ((first|refine kLa ?_|refine kLb ?_|refine kCa rfl ?_|refine kCb ?_|refine kCc ?_|refine kCd ?_|refine kCe ?_|refine kCf ?_|refine kCg ?_|refine kCh ?_|refine kCi ?_|refine kCj ?_|refine kQa ?_|refine kQb ?_|refine kGa ?_|refine kGb ?_|refine kHa ?_|refine kHb ?_); (conv => whnf))))
  ((repeat ((first|refine kLa ?_|refine kLb ?_|refine kCa rfl ?_|refine kCb ?_|refine kCc ?_|refine kCd ?_|refine kCe ?_|refine kCf ?_|refine kCg ?_|refine kCh ?_|refine kCi ?_|refine kCj ?_|refine kQa ?_|refine kQb ?_|refine kGa ?_|refine kGb ?_|refine kHa ?_|refine kHb ?_|refine kPa ?_|refine kPb ?_|refine kPc ?_|refine kEa ?_|refine kEb ?_|refine kBa ?_|refine kBb ?_|refine kBc (by omega) ?_|refine kBd (by omega) ?_|refine kBe (by omega) ?_|refine kBf (by omega) ?_|refine kRa ?_|refine kRb ?_|refine VRead.fld ?_|refine VRead.load1 (by assumption) ?_|refine VRead.load (by assumption) ?_|refine kRf ?_|refine kRg ?_|refine kRh ?_|refine kRi ?_|refine kBe rfl ?_|refine kBc rfl ?_|refine kWa (by omega) (by omega) ?_|refine kWb (by omega) (by omega) ?_|refine kRj (by omega) ?_|refine kRk ?_|refine VSem.convI ?_|refine VRead.convI ?_|refine VRead.rem (by omega) (by decide) ?_|refine VRead.neg ?_|refine VC.seq ?_); (conv => whnf))))
  refine VSem.makeMap (k := 9) ?_
  intro W1 hM1 hB1 hz1
  ((conv => whnf); (repeat ((first|refine kLa ?_|refine kLb ?_|refine kCa rfl ?_|refine kCb ?_|refine kCc ?_|refine kCd ?_|refine kCe ?_|refine kCf ?_|refine kCg ?_|refine kCh ?_|refine kCi ?_|refine kCj ?_|refine kQa ?_|refine kQb ?_|refine kGa ?_|refine kGb ?_|refine kHa ?_|refine kHb ?_); (conv => whnf))))
  refine VRead.ofW (v := .agg #[.int .i64 (max 0 (min room 16777216)), .map (some W.heap.size), .int .i64 0, .bool false, .int .i64 0, .int .i64 0, .bool false]) (fun _ => by kernel_rfl) ?_
  ((conv => whnf); (repeat ((first|refine kLa ?_|refine kLb ?_|refine kCa rfl ?_|refine kCb ?_|refine kCc ?_|refine kCd ?_|refine kCe ?_|refine kCf ?_|refine kCg ?_|refine kCh ?_|refine kCi ?_|refine kCj ?_|refine kQa ?_|refine kQb ?_|refine kGa ?_|refine kGb ?_|refine kHa ?_|refine kHb ?_); (conv => whnf))))
  refine VSem.boxB ?_
  intro W2 g hb2 hg2 hl2 hB2
  replace hb2 : Blk W2 g 80 (dC (Dk.new room) W.heap.size) := hb2
  have hB02 := hB1.trans (hB2.mono hB1.size)
  ((conv => whnf); (repeat ((first|refine kLa ?_|refine kLb ?_|refine kCa rfl ?_|refine kCb ?_|refine kCc ?_|refine kCd ?_|refine kCe ?_|refine kCf ?_|refine kCg ?_|refine kCh ?_|refine kCi ?_|refine kCj ?_|refine kQa ?_|refine kQb ?_|refine kGa ?_|refine kGb ?_|refine kHa ?_|refine kHb ?_); (conv => whnf))))
  ((repeat ((first|refine kLa ?_|refine kLb ?_|refine kCa rfl ?_|refine kCb ?_|refine kCc ?_|refine kCd ?_|refine kCe ?_|refine kCf ?_|refine kCg ?_|refine kCh ?_|refine kCi ?_|refine kCj ?_|refine kQa ?_|refine kQb ?_|refine kGa ?_|refine kGb ?_|refine kHa ?_|refine kHb ?_|refine kPa ?_|refine kPb ?_|refine kPc ?_|refine kEa ?_|refine kEb ?_|refine kBa ?_|refine kBb ?_|refine kBc (by omega) ?_|refine kBd (by omega) ?_|refine kBe (by omega) ?_|refine kBf (by omega) ?_|refine kRa ?_|refine kRb ?_|refine VRead.fld ?_|refine VRead.load1 (by assumption) ?_|refine VRead.load (by assumption) ?_|refine kRf ?_|refine kRg ?_|refine kRh ?_|refine kRi ?_|refine kBe rfl ?_|refine kBc rfl ?_|refine kWa (by omega) (by omega) ?_|refine kWb (by omega) (by omega) ?_|refine kRj (by omega) ?_|refine kRk ?_|refine VSem.convI ?_|refine VRead.convI ?_|refine VRead.rem (by omega) (by decide) ?_|refine VRead.neg ?_|refine VC.seq ?_); (conv => whnf))))
  exact ⟨g, rfl, ⟨DWf.new room, W.heap.size, 0, [], ⟨by omega, Nat.le_refl _, hb2, ⟨0, _, Nat.le_refl _, hM1.below hB2 (by omega), Rel.empty⟩, by simp, by simp, by simp [Rising]⟩, by simp [DS.new, Dk.new], rfl⟩, hB02⟩
theorem dCalls_any (W : World) (U : Foot) (d : Nat) (S : DS) (h : Disk W U d S) :
    Calls Try.prog 69 #[.pointer (some ⟨d, 0, none⟩)] W fun e W' => e = .returned (.int .i64 S.k.calls) ∧ W' = W := by
  obtain ⟨h0, m, c, L, h1, h2, h3⟩ := h
  have hb := h1.blk
  refine calls_vc Try.func69 rfl (by kernel_rfl) ?_
  ((conv => whnf); (repeat ((first|refine kLa ?_|refine kLb ?_|refine kCa rfl ?_|refine kCb ?_|refine kCc ?_|refine kCd ?_|refine kCe ?_|refine kCf ?_|refine kCg ?_|refine kCh ?_|refine kCi ?_|refine kCj ?_|refine kQa ?_|refine kQb ?_|refine kGa ?_|refine kGb ?_|refine kHa ?_|refine kHb ?_); (conv => whnf))))
  (repeat (first | ((first|refine kLa ?_|refine kLb ?_|refine kCa rfl ?_|refine kCb ?_|refine kCc ?_|refine kCd ?_|refine kCe ?_|refine kCf ?_|refine kCg ?_|refine kCh ?_|refine kCi ?_|refine kCj ?_|refine kQa ?_|refine kQb ?_|refine kGa ?_|refine kGb ?_|refine kHa ?_|refine kHb ?_|refine kPa ?_|refine kPb ?_|refine kPc ?_|refine kEa ?_|refine kEb ?_|refine kBa ?_|refine kBb ?_|refine kBc (by omega) ?_|refine kBd (by omega) ?_|refine kBe (by omega) ?_|refine kBf (by omega) ?_|refine kRa ?_|refine kRb ?_|refine VRead.fld ?_|refine VRead.load1 (by assumption) ?_|refine VRead.load (by assumption) ?_|refine kRf ?_|refine kRg ?_|refine kRh ?_|refine kRi ?_|refine kBe rfl ?_|refine kBc rfl ?_|refine kWa (by omega) (by omega) ?_|refine kWb (by omega) (by omega) ?_|refine kRj (by omega) ?_|refine kRk ?_|refine VSem.convI ?_|refine VRead.convI ?_|refine VRead.rem (by omega) (by decide) ?_|refine VRead.neg ?_|refine VC.seq ?_); (conv => whnf)) | (refine VRead.loadB hb rfl rfl ?_; (conv => whnf))))
  exact ⟨rfl, rfl⟩
def readR (W : World) (B : Nat) (T : PT) (s : List UInt8) (v : Value) : Prop := match tfind T s with
  | none => v = .tuple #[.slice none 0 0, .int .i64 3]
  | some f => ∃ A k, v = .tuple #[.slice A f.b.length k, .int .i64 0] ∧ Own W B (.slice A f.b.length k) f.b.length f.b
theorem dRead_any (W : World) (U : Foot) (d : Nat) (S : DS) (s : List UInt8) (h : Disk W U d S) (hs : s.length ≤ 1000) :
    Calls Try.prog 24 #[.pointer (some ⟨d, 0, none⟩), encStr s] W fun e W' => ∃ v, e = .returned v ∧ readR W' W.heap.size S.t s v ∧ Below W.heap.size W W' := by
  obtain ⟨h0, m, c, L, h, h2, h3⟩ := h
  have hb := h.blk
  have hroom := h0.k.room
  have hfit := h0.t.fit
  unfold readR
  rw [← h3, tmap_find]
  refine calls_vc Try.func24 rfl (by kernel_rfl) ?_
  ((conv => whnf); (repeat ((first|refine kLa ?_|refine kLb ?_|refine kCa rfl ?_|refine kCb ?_|refine kCc ?_|refine kCd ?_|refine kCe ?_|refine kCf ?_|refine kCg ?_|refine kCh ?_|refine kCi ?_|refine kCj ?_|refine kQa ?_|refine kQb ?_|refine kGa ?_|refine kGb ?_|refine kHa ?_|refine kHb ?_); (conv => whnf))))
  (repeat (first | ((first|refine kLa ?_|refine kLb ?_|refine kCa rfl ?_|refine kCb ?_|refine kCc ?_|refine kCd ?_|refine kCe ?_|refine kCf ?_|refine kCg ?_|refine kCh ?_|refine kCi ?_|refine kCj ?_|refine kQa ?_|refine kQb ?_|refine kGa ?_|refine kGb ?_|refine kHa ?_|refine kHb ?_|refine kPa ?_|refine kPb ?_|refine kPc ?_|refine kEa ?_|refine kEb ?_|refine kBa ?_|refine kBb ?_|refine kBc (by omega) ?_|refine kBd (by omega) ?_|refine kBe (by omega) ?_|refine kBf (by omega) ?_|refine kRa ?_|refine kRb ?_|refine VRead.fld ?_|refine VRead.load1 (by assumption) ?_|refine VRead.load (by assumption) ?_|refine kRf ?_|refine kRg ?_|refine kRh ?_|refine kRi ?_|refine kBe rfl ?_|refine kBc rfl ?_|refine kWa (by omega) (by omega) ?_|refine kWb (by omega) (by omega) ?_|refine kRj (by omega) ?_|refine kRk ?_|refine VSem.convI ?_|refine VRead.convI ?_|refine VRead.rem (by omega) (by decide) ?_|refine VRead.neg ?_|refine VC.seq ?_); (conv => whnf)) | (refine VRead.loadB hb rfl rfl ?_; (conv => whnf))))
  refine dLook h.map (by omega) ?_
  cases hf : tfind L s with
  | none =>
    ((conv => whnf); (repeat ((first|refine kLa ?_|refine kLb ?_|refine kCa rfl ?_|refine kCb ?_|refine kCc ?_|refine kCd ?_|refine kCe ?_|refine kCf ?_|refine kCg ?_|refine kCh ?_|refine kCi ?_|refine kCj ?_|refine kQa ?_|refine kQb ?_|refine kGa ?_|refine kGb ?_|refine kHa ?_|refine kHb ?_); (conv => whnf))))
    ((repeat ((first|refine kLa ?_|refine kLb ?_|refine kCa rfl ?_|refine kCb ?_|refine kCc ?_|refine kCd ?_|refine kCe ?_|refine kCf ?_|refine kCg ?_|refine kCh ?_|refine kCi ?_|refine kCj ?_|refine kQa ?_|refine kQb ?_|refine kGa ?_|refine kGb ?_|refine kHa ?_|refine kHb ?_|refine kPa ?_|refine kPb ?_|refine kPc ?_|refine kEa ?_|refine kEb ?_|refine kBa ?_|refine kBb ?_|refine kBc (by omega) ?_|refine kBd (by omega) ?_|refine kBe (by omega) ?_|refine kBf (by omega) ?_|refine kRa ?_|refine kRb ?_|refine VRead.fld ?_|refine VRead.load1 (by assumption) ?_|refine VRead.load (by assumption) ?_|refine kRf ?_|refine kRg ?_|refine kRh ?_|refine kRi ?_|refine kBe rfl ?_|refine kBc rfl ?_|refine kWa (by omega) (by omega) ?_|refine kWb (by omega) (by omega) ?_|refine kRj (by omega) ?_|refine kRk ?_|refine VSem.convI ?_|refine VRead.convI ?_|refine VRead.rem (by omega) (by decide) ?_|refine VRead.neg ?_|refine VC.seq ?_); (conv => whnf))))
    exact ⟨_, rfl, rfl, Below.refl _ _⟩
  | some p =>
    obtain ⟨_, A, k, hbf, hk, hl⟩ := h.fl _ (tfind_mem hf)
    have hlen := len_used (T := S.t) (p := (s, p.2)) (by rw [← h3]; exact List.mem_map_of_mem (f := fun p : List UInt8 × (Nat × Fl) => (p.1, p.2.2)) (tfind_mem hf))
    simp only at hbf hk hl hlen
    ((conv => whnf); (repeat ((first|refine kLa ?_|refine kLb ?_|refine kCa rfl ?_|refine kCb ?_|refine kCc ?_|refine kCd ?_|refine kCe ?_|refine kCf ?_|refine kCg ?_|refine kCh ?_|refine kCi ?_|refine kCj ?_|refine kQa ?_|refine kQb ?_|refine kGa ?_|refine kGb ?_|refine kHa ?_|refine kHb ?_); (conv => whnf))))
    (repeat (first | ((first|refine kLa ?_|refine kLb ?_|refine kCa rfl ?_|refine kCb ?_|refine kCc ?_|refine kCd ?_|refine kCe ?_|refine kCf ?_|refine kCg ?_|refine kCh ?_|refine kCi ?_|refine kCj ?_|refine kQa ?_|refine kQb ?_|refine kGa ?_|refine kGb ?_|refine kHa ?_|refine kHb ?_|refine kPa ?_|refine kPb ?_|refine kPc ?_|refine kEa ?_|refine kEb ?_|refine kBa ?_|refine kBb ?_|refine kBc (by omega) ?_|refine kBd (by omega) ?_|refine kBe (by omega) ?_|refine kBf (by omega) ?_|refine kRa ?_|refine kRb ?_|refine VRead.fld ?_|refine VRead.load1 (by assumption) ?_|refine VRead.load (by assumption) ?_|refine kRf ?_|refine kRg ?_|refine kRh ?_|refine kRi ?_|refine kBe rfl ?_|refine kBc rfl ?_|refine kWa (by omega) (by omega) ?_|refine kWb (by omega) (by omega) ?_|refine kRj (by omega) ?_|refine kRk ?_|refine VSem.convI ?_|refine VRead.convI ?_|refine VRead.rem (by omega) (by decide) ?_|refine VRead.neg ?_|refine VC.seq ?_); (conv => whnf)) | (refine VRead.loadB hbf rfl rfl ?_; (conv => whnf))))
    refine VSem.appO (Own.nil W W.heap.size) hl.1 (by omega) (Nat.le_refl _) ?_
    intro A' k' W1 hO1 _ hB1
    rw [Nat.zero_add, List.nil_append] at hO1
    rw [Nat.zero_add]
    ((conv => whnf); (repeat ((first|refine kLa ?_|refine kLb ?_|refine kCa rfl ?_|refine kCb ?_|refine kCc ?_|refine kCd ?_|refine kCe ?_|refine kCf ?_|refine kCg ?_|refine kCh ?_|refine kCi ?_|refine kCj ?_|refine kQa ?_|refine kQb ?_|refine kGa ?_|refine kGb ?_|refine kHa ?_|refine kHb ?_); (conv => whnf))))
    ((repeat ((first|refine kLa ?_|refine kLb ?_|refine kCa rfl ?_|refine kCb ?_|refine kCc ?_|refine kCd ?_|refine kCe ?_|refine kCf ?_|refine kCg ?_|refine kCh ?_|refine kCi ?_|refine kCj ?_|refine kQa ?_|refine kQb ?_|refine kGa ?_|refine kGb ?_|refine kHa ?_|refine kHb ?_|refine kPa ?_|refine kPb ?_|refine kPc ?_|refine kEa ?_|refine kEb ?_|refine kBa ?_|refine kBb ?_|refine kBc (by omega) ?_|refine kBd (by omega) ?_|refine kBe (by omega) ?_|refine kBf (by omega) ?_|refine kRa ?_|refine kRb ?_|refine VRead.fld ?_|refine VRead.load1 (by assumption) ?_|refine VRead.load (by assumption) ?_|refine kRf ?_|refine kRg ?_|refine kRh ?_|refine kRi ?_|refine kBe rfl ?_|refine kBc rfl ?_|refine kWa (by omega) (by omega) ?_|refine kWb (by omega) (by omega) ?_|refine kRj (by omega) ?_|refine kRk ?_|refine VSem.convI ?_|refine VRead.convI ?_|refine VRead.rem (by omega) (by decide) ?_|refine VRead.neg ?_|refine VC.seq ?_); (conv => whnf))))
    exact ⟨_, rfl, ⟨A', k', rfl, hO1⟩, hB1⟩
end Go.Proofs.Ytebeidnmplnlpaa
end

section
set_option maxRecDepth 10000
namespace Go.Proofs.Ytebeidnmplnlpaa
set_option linter.unusedVariables false
open Go.RowKit
open Go.Maps (Keyed)
open Go.ChangeMaps Go.WideElems

theorem nd_inj {L : DTb} (h : (L.map (·.2.1)).Nodup) {p q : List UInt8 × (Nat × Fl)} (hp : p ∈ L) (hq : q ∈ L) (e : p.2.1 = q.2.1) : p = q := by
  obtain ⟨A, B, rfl⟩ := List.append_of_mem hp
  rcases List.mem_append.1 hq with hq | hq
  · rw [List.map_append, List.nodup_append] at h
    exact absurd e.symm (h.2.2 _ (List.mem_map_of_mem hq) _ (List.mem_cons_self ..))
  · rcases List.mem_cons.1 hq with hq | hq
    · exact hq.symm
    · rw [List.map_append, List.nodup_append] at h
      have h5 : p.2.1 ∉ B.map (·.2.1) := (List.nodup_cons.1 h.2.1).1
      rw [e] at h5
      exact absurd (List.mem_map_of_mem (f := fun x => x.2.1) hq) h5
theorem nd_tdel {L : DTb} (h : (L.map (·.2.1)).Nodup) (s : List UInt8) : ((tdel L s).map (·.2.1)).Nodup := by
  unfold tdel
  exact h.sublist (List.filter_sublist.map _)
theorem nd_tset {L : DTb} (hR : Rising L) (h : (L.map (·.2.1)).Nodup) {s : List UInt8} {g : Nat} {f : Fl} (hg : ∀ p ∈ tdel L s, p.2.1 ≠ g) : ((tset L s (g, f)).map (·.2.1)).Nodup := by
  rw [((tset_perm2 hR s (g, f)).map (·.2.1)).nodup_iff]
  simp only [List.map_cons, List.nodup_cons]
  refine ⟨fun hm => ?_, nd_tdel h s⟩
  obtain ⟨p, hp, e⟩ := List.mem_map.1 hm
  exact hg p hp e
section
variable {W W' : World} {U : Foot} {d m c g k : Nat} {K : Dk} {L : DTb} {s : List UInt8} {f f' : Fl} {A : Option Addr}
/-- the map's entry turns -/
theorem DiskAt.set (h : DiskAt W U d m c K L) (hM : MapOk W' m (c + 1) (tset L s (g, f))) (hg : W.grownBy W' (some m)) (hF : FlAt W' U g f) (hn : ∀ p ∈ tdel L s, p.2.1 ≠ g) :
    DiskAt W' U d m (c + 1) K (tset L s (g, f)) :=
  ⟨h.hd, h.hm, h.blk.grown hg (fun e => h.map.not_blk h.blk (Option.some.inj e).symm), hM, fun p hp => by
    rcases mem_tset h.ris hp with rfl | hp
    · exact hF
    · exact (h.fl p (mem_tdel hp).1).map h.map hg, nd_tset h.ris h.nd hn, h.ris.set⟩
theorem DiskAt.del (h : DiskAt W U d m c K L) (hM : MapOk W' m c (tdel L s)) (hg : W.grownBy W' (some m)) : DiskAt W' U d m c K (tdel L s) :=
  ⟨h.hd, h.hm, h.blk.grown hg (fun e => h.map.not_blk h.blk (Option.some.inj e).symm), hM, fun p hp => (h.fl p (mem_tdel hp).1).map h.map hg, nd_tdel h.nd s, h.ris.del⟩
/-- a file's cells turn -/
theorem DiskAt.file (h : DiskAt W U d m c K L) (hf : tfind L s = some (g, f)) (hb : Blk W' g 90 #[.slice A f'.b.length k, .int .i64 f'.sure])
    (hg : W.grownBy W' (some g)) (hk : f'.b.length ≤ k) (hl : Lies W' U A f'.b.length f'.b) : DiskAt W' U d m c K (tset L s (g, f')) := by
  have hmem := tfind_mem hf
  obtain ⟨hBg, A0, k0, hb0, _, _⟩ := h.fl _ hmem
  simp only at hb0 hBg
  have hne : ∀ p ∈ tdel L s, p.2.1 ≠ g := fun p hp e => (mem_tdel hp).2 (congrArg (·.1) (nd_inj h.nd (mem_tdel hp).1 hmem e))
  refine ⟨h.hd, h.hm, h.blk.grown hg (fun e => h.blk.ne_ hb0 (by decide) (Option.some.inj e)), ?_, fun p hp => ?_, nd_tset h.ris h.nd hne, h.ris.set⟩
  · obtain ⟨n, D, h1, h2, R⟩ := h.map.kept hg (fun e => h.map.not_blk hb0 (Option.some.inj e))
    refine ⟨n, D, h1, h2, ?_⟩
    obtain ⟨A1, B1, rfl⟩ := tfind_some hf
    rw [tset_old h.ris]
    refine ⟨R.tidy, by simpa using R.nd, fun p hp => ?_, fun kl hkl => ?_, fun p hp => ?_, fun p hp z => ?_, by rw [R.size]; simp⟩
    · simp at hp
      rcases hp with hp | rfl | hp
      · exact R.key p (by simp [hp])
      · exact R.key (s, (g, f)) (by simp)
      · exact R.key p (by simp [hp])
    · obtain ⟨p, hp, e⟩ := R.src kl hkl
      simp at hp
      rcases hp with hp | rfl | hp
      · exact ⟨p, by simp [hp], e⟩
      · exact ⟨(s, (g, f')), by simp, e⟩
      · exact ⟨p, by simp [hp], e⟩
    · simp at hp
      rcases hp with hp | rfl | hp
      · exact R.has p (by simp [hp])
      · exact R.has (s, (g, f)) (by simp)
      · exact R.has p (by simp [hp])
    · simp at hp
      rcases hp with hp | rfl | hp
      · exact R.at_ p (by simp [hp]) z
      · exact R.at_ (s, (g, f)) (by simp) z
      · exact R.at_ p (by simp [hp]) z
  · rcases mem_tset h.ris hp with rfl | hp
    · exact ⟨hBg, A, k, hb, hk, hl⟩
    · exact (h.fl p (mem_tdel hp).1).blk hb0 hg (by decide) (hne p hp)
theorem VUnit.dSet {p : Nat × Fl} {Q : World → Prop} (h : MapOk W m c L) (hR : Rising L) (hc : c ≤ 1000000000) (hs : s.length ≤ 1000)
    (hk : ∀ W', MapOk W' m (c + 1) (tset L s p) → W.grownBy W' (some m) → Q W') : VUnit Try.prog (Instr.mapUpdate 78 (.map (some m)) (encStr s) (pEnc p)) W Q := by
  obtain ⟨n, D, h1, h2, R⟩ := h
  have hkey := str_key (s := s) (by omega)
  refine VUnit.mapSet h2 str_keyed (by omega) hkey (fun W' h3 hg => hk W' ⟨n + 1, _, by omega, h3, ?_⟩ hg)
  cases hf : tfind L s with
  | none => exact (R.put str_keyed slit_inj hkey (tfind_none hf)).perm (tset_perm (tfind_none hf))
  | some y =>
    obtain ⟨A1, B1, rfl⟩ := tfind_some hf
    rw [tset_old hR]
    exact R.set str_keyed slit_inj
theorem VSem.dDel {ty : Nat} {p : Nat × Fl} {Q : Value → World → Prop} (h : MapOk W m c L) (hR : Rising L) (hf : tfind L s = some p) (hs : s.length ≤ 1000)
    (hk : ∀ W', MapOk W' m c (tdel L s) → W.grownBy W' (some m) → Q (.tuple #[]) W') : VSem Try.prog (Builtin.delete_ #[78, 9] ty [.map (some m), encStr s].toArray) W Q := by
  obtain ⟨n, D, h1, h2, R⟩ := h
  have hkey := str_key (s := s) (by omega)
  refine VSem.mapDel h2 str_keyed hkey (fun W' h3 hg => hk W' ⟨n, _, h1, h3, ?_⟩ hg)
  obtain ⟨A1, B1, rfl⟩ := tfind_some hf
  rw [tdel_eq hR.nd]
  exact R.del slit_inj
theorem lenM {S : World → Prop} {ty : Nat} {nD : Nat} {D : DataW Value} {Q : Value → Prop} (h : ∀ W, S W → MapIs Try.prog 9 W m nD D) (R : Rel Try.prog 9 encStr slit pEnc D L) (hk : Q (.int .i64 (L.length : Int))) :
    VRead Try.prog S (Builtin.len_ #[78] ty [.map (some m)].toArray) Q := by
  refine VRead.mapLen h ?_
  rw [R.size]; exact hk
end

def DS.create (S : DS) (s : List UInt8) : Int × DS :=
  if S.k.call.1 ≠ 0 then (S.k.call.1, ⟨S.k.call.2, S.t⟩) else if ¬nameOk s then (1, ⟨S.k.call.2, S.t⟩)
  else if tfind S.t s = none ∧ 64 ≤ S.t.length then (2, ⟨S.k.call.2, S.t⟩) else (0, ⟨S.k.call.2, tset S.t s ⟨[], 0⟩⟩)
theorem TWf.del {r : Int} {T : PT} (h : TWf r T) (s : List UInt8) : TWf r (tdel T s) :=
  ⟨by have := used_tdel_le T s; have := h.fit; omega, Nat.le_trans (tdel_le s) h.few, fun p hp => h.names p (mem_tdel hp).1, h.ris.del, fun p hp => h.sure p (mem_tdel hp).1⟩
theorem TWf.set {r : Int} {T : PT} {s : List UInt8} {f : Fl} (h : TWf r T) (hs : nameOk s) (hn : (tdel T s).length + 1 ≤ 64) (hu : (f.b.length + used (tdel T s) : Int) ≤ r) (hsu : f.sure ≤ f.b.length) : TWf r (tset T s f) :=
  ⟨by rw [used_tset h.ris]; omega, by rw [tset_length h.ris]; omega, fun p hp => by
    rcases mem_tset h.ris hp with rfl | hp
    · exact hs
    · exact h.names p (mem_tdel hp).1, h.ris.set, fun p hp => by
    rcases mem_tset h.ris hp with rfl | hp
    · exact hsu
    · exact h.sure p (mem_tdel hp).1⟩
theorem tdel_few {T : PT} {s : List UInt8} {r : Int} (h : TWf r T) (hf : ¬ (tfind T s = none ∧ 64 ≤ T.length)) : (tdel T s).length + 1 ≤ 64 := by
  cases e : tfind T s with
  | none => rw [tdel_not (tfind_none e)]; have : ¬ 64 ≤ T.length := fun h' => hf ⟨e, h'⟩; omega
  | some x => have := tdel_length h.ris e; have := h.few; omega
theorem DWf.call {S : DS} (h : DWf S) (hc : S.k.calls < 1000000) : DWf ⟨S.k.call.2, S.t⟩ := ⟨h.k.call hc, by have := h.t; simp only; rw [Dk.call_room]; exact this⟩
theorem DWf.create {S : DS} (h : DWf S) (hc : S.k.calls < 1000000) (s : List UInt8) : DWf (S.create s).2 := by
  have h1 := h.call hc
  unfold DS.create
  split
  · exact h1
  · split
    · exact h1
    · split
      · exact h1
      · rename_i h3 h4 h5
        exact ⟨h1.k, h1.t.set (Decidable.not_not.1 h4) (tdel_few h.t h5) (by have := used_tdel_le S.t s; have := h1.t.fit; simp only [List.length_nil] at this ⊢; omega) (Nat.le_refl _)⟩
theorem DS.create_calls (S : DS) (s : List UInt8) : (S.create s).2.k.calls = S.k.calls + 1 := by
  unfold DS.create
  split
  · exact Dk.call_calls _
  · split
    · exact Dk.call_calls _
    · split
      · exact Dk.call_calls _
      · exact Dk.call_calls _
set_option maxHeartbeats 1000000 in
theorem dCreate_any (W : World) (U : Foot) (d : Nat) (S : DS) (s : List UInt8) (h : Disk W U d S) (hc : S.k.calls < 1000000) (hs : s.length ≤ 1000) (hU : Up U W) :
    Calls Try.prog 25 #[.pointer (some ⟨d, 0, none⟩), encStr s] W fun e W' => e = .returned (.int .i64 (S.create s).1) ∧ Disk W' U d (S.create s).2 ∧ Out U W W' := by
  have hwf' := h.1.create hc s
  have hcc' := S.create_calls s
  obtain ⟨h0, m, c, L, h, hcc, hpl⟩ := h
  have hc0 := h0.k.calls
  have hlen : L.length = S.t.length := by rw [← hpl]; exact (tmap_length _ _).symm
  have hfe : tfind S.t s = (tfind L s).map (·.2) := by rw [← hpl]; exact tmap_find _ _ _
  obtain ⟨K, T⟩ := S
  simp only at h hcc hpl h0 hc hc0 hlen hfe
  -- what stands at the end
  have fin : ∀ {W' : World} {c' : Nat} {L' : DTb} {r : Int × DS}, DS.create ⟨K, T⟩ s = r → DiskAt W' U d m c' r.2.k L' → c' ≤ c + 1 → plain L' = r.2.t → Disk W' U d (DS.create ⟨K, T⟩ s).2 := by
    intro W' c' L' r e h1 h2 h3
    refine ⟨hwf', m, c', L', by rw [e]; exact h1, by rw [hcc']; simp only; omega, by rw [e]; exact h3⟩
  refine calls_vc Try.func25 rfl (by kernel_rfl) ?_
  ((conv => whnf); (repeat ((first|refine kLa ?_|refine kLb ?_|refine kCa rfl ?_|refine kCb ?_|refine kCc ?_|refine kCd ?_|refine kCe ?_|refine kCf ?_|refine kCg ?_|refine kCh ?_|refine kCi ?_|refine kCj ?_|refine kQa ?_|refine kQb ?_|refine kGa ?_|refine kGb ?_|refine kHa ?_|refine kHb ?_); (conv => whnf))))
  ((repeat ((first|refine kLa ?_|refine kLb ?_|refine kCa rfl ?_|refine kCb ?_|refine kCc ?_|refine kCd ?_|refine kCe ?_|refine kCf ?_|refine kCg ?_|refine kCh ?_|refine kCi ?_|refine kCj ?_|refine kQa ?_|refine kQb ?_|refine kGa ?_|refine kGb ?_|refine kHa ?_|refine kHb ?_|refine kPa ?_|refine kPb ?_|refine kPc ?_|refine kEa ?_|refine kEb ?_|refine kBa ?_|refine kBb ?_|refine kBc (by omega) ?_|refine kBd (by omega) ?_|refine kBe (by omega) ?_|refine kBf (by omega) ?_|refine kRa ?_|refine kRb ?_|refine VRead.fld ?_|refine VRead.load1 (by assumption) ?_|refine VRead.load (by assumption) ?_|refine kRf ?_|refine kRg ?_|refine kRh ?_|refine kRi ?_|refine kBe rfl ?_|refine kBc rfl ?_|refine kWa (by omega) (by omega) ?_|refine kWb (by omega) (by omega) ?_|refine kRj (by omega) ?_|refine kRk ?_|refine VSem.convI ?_|refine VRead.convI ?_|refine VRead.rem (by omega) (by decide) ?_|refine VRead.neg ?_|refine VC.seq ?_); (conv => whnf))))
  refine VCall.of (dCall_at W U d m c K L h h0.k) ?_
  rintro e W1 ⟨rfl, h1, hg1⟩
  have hO1 := Out.grown hg1 h.hd
  refine ⟨_, rfl, ?_⟩
  obtain ⟨e1, K1, hK⟩ : ∃ e1 K1, K.call = (e1, K1) := ⟨_, _, rfl⟩
  rw [hK] at h1 ⊢
  simp only at h1 ⊢
  have c1 : e1 ≠ 0 → DS.create ⟨K, T⟩ s = (e1, ⟨K1, T⟩) := fun h => by unfold DS.create; rw [hK]; exact if_pos h
  have c2 : e1 = 0 → ¬ nameOk s → DS.create ⟨K, T⟩ s = (1, ⟨K1, T⟩) := fun h h' => by unfold DS.create; rw [hK, if_neg (not_not_intro h)]; exact if_pos h'
  have c3 : e1 = 0 → nameOk s → (tfind T s = none ∧ 64 ≤ T.length) → DS.create ⟨K, T⟩ s = (2, ⟨K1, T⟩) := fun h h' h'' => by unfold DS.create; rw [hK, if_neg (not_not_intro h), if_neg (not_not_intro h')]; exact if_pos h''
  have c4 : e1 = 0 → nameOk s → ¬ (tfind T s = none ∧ 64 ≤ T.length) → DS.create ⟨K, T⟩ s = (0, ⟨K1, tset T s ⟨[], 0⟩⟩) := fun h h' h'' => by unfold DS.create; rw [hK, if_neg (not_not_intro h), if_neg (not_not_intro h')]; exact if_neg h''
  by_cases he : e1 = 0
  case neg =>
    ((conv => whnf); (repeat ((first|refine kLa ?_|refine kLb ?_|refine kCa rfl ?_|refine kCb ?_|refine kCc ?_|refine kCd ?_|refine kCe ?_|refine kCf ?_|refine kCg ?_|refine kCh ?_|refine kCi ?_|refine kCj ?_|refine kQa ?_|refine kQb ?_|refine kGa ?_|refine kGb ?_|refine kHa ?_|refine kHb ?_); (conv => whnf))))
    ((repeat ((first|refine kLa ?_|refine kLb ?_|refine kCa rfl ?_|refine kCb ?_|refine kCc ?_|refine kCd ?_|refine kCe ?_|refine kCf ?_|refine kCg ?_|refine kCh ?_|refine kCi ?_|refine kCj ?_|refine kQa ?_|refine kQb ?_|refine kGa ?_|refine kGb ?_|refine kHa ?_|refine kHb ?_|refine kPa ?_|refine kPb ?_|refine kPc ?_|refine kEa ?_|refine kEb ?_|refine kBa ?_|refine kBb ?_|refine kBc (by omega) ?_|refine kBd (by omega) ?_|refine kBe (by omega) ?_|refine kBf (by omega) ?_|refine kRa ?_|refine kRb ?_|refine VRead.fld ?_|refine VRead.load1 (by assumption) ?_|refine VRead.load (by assumption) ?_|refine kRf ?_|refine kRg ?_|refine kRh ?_|refine kRi ?_|refine kBe rfl ?_|refine kBc rfl ?_|refine kWa (by omega) (by omega) ?_|refine kWb (by omega) (by omega) ?_|refine kRj (by omega) ?_|refine kRk ?_|refine VSem.convI ?_|refine VRead.convI ?_|refine VRead.rem (by omega) (by decide) ?_|refine VRead.neg ?_|refine VC.seq ?_); (conv => whnf))))
    exact ⟨by rw [c1 he]; rfl, fin (c1 he) h1 (by omega) hpl, hO1⟩
  subst he
  ((conv => whnf); (repeat ((first|refine kLa ?_|refine kLb ?_|refine kCa rfl ?_|refine kCb ?_|refine kCc ?_|refine kCd ?_|refine kCe ?_|refine kCf ?_|refine kCg ?_|refine kCh ?_|refine kCi ?_|refine kCj ?_|refine kQa ?_|refine kQb ?_|refine kGa ?_|refine kGb ?_|refine kHa ?_|refine kHb ?_); (conv => whnf))))
  ((repeat ((first|refine kLa ?_|refine kLb ?_|refine kCa rfl ?_|refine kCb ?_|refine kCc ?_|refine kCd ?_|refine kCe ?_|refine kCf ?_|refine kCg ?_|refine kCh ?_|refine kCi ?_|refine kCj ?_|refine kQa ?_|refine kQb ?_|refine kGa ?_|refine kGb ?_|refine kHa ?_|refine kHb ?_|refine kPa ?_|refine kPb ?_|refine kPc ?_|refine kEa ?_|refine kEb ?_|refine kBa ?_|refine kBb ?_|refine kBc (by omega) ?_|refine kBd (by omega) ?_|refine kBe (by omega) ?_|refine kBf (by omega) ?_|refine kRa ?_|refine kRb ?_|refine VRead.fld ?_|refine VRead.load1 (by assumption) ?_|refine VRead.load (by assumption) ?_|refine kRf ?_|refine kRg ?_|refine kRh ?_|refine kRi ?_|refine kBe rfl ?_|refine kBc rfl ?_|refine kWa (by omega) (by omega) ?_|refine kWb (by omega) (by omega) ?_|refine kRj (by omega) ?_|refine kRk ?_|refine VSem.convI ?_|refine VRead.convI ?_|refine VRead.rem (by omega) (by decide) ?_|refine VRead.neg ?_|refine VC.seq ?_); (conv => whnf))))
  refine VSem.one rfl ?_
  intro W2 hr2 hB2 hz2
  have h2 := h1.below hB2 (Nat.le_refl _)
  have hO2 := hO1.trans (Out.new hB2)
  ((conv => whnf); (repeat ((first|refine kLa ?_|refine kLb ?_|refine kCa rfl ?_|refine kCb ?_|refine kCc ?_|refine kCd ?_|refine kCe ?_|refine kCf ?_|refine kCg ?_|refine kCh ?_|refine kCi ?_|refine kCj ?_|refine kQa ?_|refine kQb ?_|refine kGa ?_|refine kGb ?_|refine kHa ?_|refine kHb ?_); (conv => whnf))))
  ((repeat ((first|refine kLa ?_|refine kLb ?_|refine kCa rfl ?_|refine kCb ?_|refine kCc ?_|refine kCd ?_|refine kCe ?_|refine kCf ?_|refine kCg ?_|refine kCh ?_|refine kCi ?_|refine kCj ?_|refine kQa ?_|refine kQb ?_|refine kGa ?_|refine kGb ?_|refine kHa ?_|refine kHb ?_|refine kPa ?_|refine kPb ?_|refine kPc ?_|refine kEa ?_|refine kEb ?_|refine kBa ?_|refine kBb ?_|refine kBc (by omega) ?_|refine kBd (by omega) ?_|refine kBe (by omega) ?_|refine kBf (by omega) ?_|refine kRa ?_|refine kRb ?_|refine VRead.fld ?_|refine VRead.load1 (by assumption) ?_|refine VRead.load (by assumption) ?_|refine kRf ?_|refine kRg ?_|refine kRh ?_|refine kRi ?_|refine kBe rfl ?_|refine kBc rfl ?_|refine kWa (by omega) (by omega) ?_|refine kWb (by omega) (by omega) ?_|refine kRj (by omega) ?_|refine kRk ?_|refine VSem.convI ?_|refine VRead.convI ?_|refine VRead.rem (by omega) (by decide) ?_|refine VRead.neg ?_|refine VC.seq ?_); (conv => whnf))))
  refine VCall.of (dNamed_any W2 _ 1 1 _ [s] hr2 (by omega)) ?_
  rintro e W2' ⟨rfl, eW⟩
  obtain rfl := eW.symm
  refine ⟨_, rfl, ?_⟩
  by_cases hn : nameOk s
  case neg =>
    rw [decide_eq_false (show ¬ ∀ x ∈ [s], nameOk x by simpa using hn)]
    ((conv => whnf); (repeat ((first|refine kLa ?_|refine kLb ?_|refine kCa rfl ?_|refine kCb ?_|refine kCc ?_|refine kCd ?_|refine kCe ?_|refine kCf ?_|refine kCg ?_|refine kCh ?_|refine kCi ?_|refine kCj ?_|refine kQa ?_|refine kQb ?_|refine kGa ?_|refine kGb ?_|refine kHa ?_|refine kHb ?_); (conv => whnf))))
    ((repeat ((first|refine kLa ?_|refine kLb ?_|refine kCa rfl ?_|refine kCb ?_|refine kCc ?_|refine kCd ?_|refine kCe ?_|refine kCf ?_|refine kCg ?_|refine kCh ?_|refine kCi ?_|refine kCj ?_|refine kQa ?_|refine kQb ?_|refine kGa ?_|refine kGb ?_|refine kHa ?_|refine kHb ?_|refine kPa ?_|refine kPb ?_|refine kPc ?_|refine kEa ?_|refine kEb ?_|refine kBa ?_|refine kBb ?_|refine kBc (by omega) ?_|refine kBd (by omega) ?_|refine kBe (by omega) ?_|refine kBf (by omega) ?_|refine kRa ?_|refine kRb ?_|refine VRead.fld ?_|refine VRead.load1 (by assumption) ?_|refine VRead.load (by assumption) ?_|refine kRf ?_|refine kRg ?_|refine kRh ?_|refine kRi ?_|refine kBe rfl ?_|refine kBc rfl ?_|refine kWa (by omega) (by omega) ?_|refine kWb (by omega) (by omega) ?_|refine kRj (by omega) ?_|refine kRk ?_|refine VSem.convI ?_|refine VRead.convI ?_|refine VRead.rem (by omega) (by decide) ?_|refine VRead.neg ?_|refine VC.seq ?_); (conv => whnf))))
    exact ⟨by rw [c2 rfl hn]; rfl, fin (c2 rfl hn) h2 (by omega) hpl, hO2⟩
  rw [decide_eq_true (show ∀ x ∈ [s], nameOk x by simpa using hn)]
  have hb := h2.blk
  ((conv => whnf); (repeat ((first|refine kLa ?_|refine kLb ?_|refine kCa rfl ?_|refine kCb ?_|refine kCc ?_|refine kCd ?_|refine kCe ?_|refine kCf ?_|refine kCg ?_|refine kCh ?_|refine kCi ?_|refine kCj ?_|refine kQa ?_|refine kQb ?_|refine kGa ?_|refine kGb ?_|refine kHa ?_|refine kHb ?_); (conv => whnf))))
  (repeat (first | ((first|refine kLa ?_|refine kLb ?_|refine kCa rfl ?_|refine kCb ?_|refine kCc ?_|refine kCd ?_|refine kCe ?_|refine kCf ?_|refine kCg ?_|refine kCh ?_|refine kCi ?_|refine kCj ?_|refine kQa ?_|refine kQb ?_|refine kGa ?_|refine kGb ?_|refine kHa ?_|refine kHb ?_|refine kPa ?_|refine kPb ?_|refine kPc ?_|refine kEa ?_|refine kEb ?_|refine kBa ?_|refine kBb ?_|refine kBc (by omega) ?_|refine kBd (by omega) ?_|refine kBe (by omega) ?_|refine kBf (by omega) ?_|refine kRa ?_|refine kRb ?_|refine VRead.fld ?_|refine VRead.load1 (by assumption) ?_|refine VRead.load (by assumption) ?_|refine kRf ?_|refine kRg ?_|refine kRh ?_|refine kRi ?_|refine kBe rfl ?_|refine kBc rfl ?_|refine kWa (by omega) (by omega) ?_|refine kWb (by omega) (by omega) ?_|refine kRj (by omega) ?_|refine kRk ?_|refine VSem.convI ?_|refine VRead.convI ?_|refine VRead.rem (by omega) (by decide) ?_|refine VRead.neg ?_|refine VC.seq ?_); (conv => whnf)) | (refine VRead.loadB hb rfl rfl ?_; (conv => whnf))))
  refine dLook h2.map (by omega) ?_
  obtain ⟨nD, D, hnD, hM, R⟩ := h2.map
  have go : ∀ (hno : ¬ (tfind T s = none ∧ 64 ≤ T.length)) (W3 : World) (hB3 : Below W2.heap.size W2 W3) (g : Nat) (hz : g = W2.heap.size) (hb3 : Blk W3 g 90 #[.slice none 0 0, .int .i64 0]) (K0 : World → Prop)
      (hk : ∀ W4, Disk W4 U d (DS.create ⟨K, T⟩ s).2 → Out U W W4 → K0 W4), VUnit Try.prog (Instr.mapUpdate 78 (.map (some m)) (encStr s) (pEnc (g, ⟨[], 0⟩))) W3 K0 := by
    intro hno W3 hB3 g hz hb3 K0 hk
    have h3 := h2.below hB3 (Nat.le_refl _)
    have hF : FlAt W3 U g ⟨[], 0⟩ := ⟨hU g (by have := hO2.size; omega), none, 0, hb3, Nat.le_refl _, Lies.nil _ _ _⟩
    refine VUnit.dSet h3.map h3.ris (by omega) hs ?_
    intro W4 hM4 hg4
    refine hk W4 (fin (c4 rfl hn hno) (h3.set hM4 hg4 (hF.map h3.map hg4) (fun p hp e => ?_)) (Nat.le_refl _) (by show tmap _ (tset L s (g, ⟨[], 0⟩)) = _; rw [tmap_set]; show tset (plain L) s _ = _; rw [hpl])) ?_
    · have := ((h2.fl p (mem_tdel hp).1)).lt
      omega
    · exact (hO2.trans (Out.new hB3)).trans (Out.grown hg4 h.hm)
  cases hf : tfind L s with
  | some p =>
    have hno : ¬ (tfind T s = none ∧ 64 ≤ T.length) := by rw [hfe, hf]; intro h; cases h.1
    replace c4 := c4 rfl hn hno
    ((conv => whnf); (repeat ((first|refine kLa ?_|refine kLb ?_|refine kCa rfl ?_|refine kCb ?_|refine kCc ?_|refine kCd ?_|refine kCe ?_|refine kCf ?_|refine kCg ?_|refine kCh ?_|refine kCi ?_|refine kCj ?_|refine kQa ?_|refine kQb ?_|refine kGa ?_|refine kGb ?_|refine kHa ?_|refine kHb ?_); (conv => whnf))))
    (repeat (first | ((first|refine kLa ?_|refine kLb ?_|refine kCa rfl ?_|refine kCb ?_|refine kCc ?_|refine kCd ?_|refine kCe ?_|refine kCf ?_|refine kCg ?_|refine kCh ?_|refine kCi ?_|refine kCj ?_|refine kQa ?_|refine kQb ?_|refine kGa ?_|refine kGb ?_|refine kHa ?_|refine kHb ?_|refine kPa ?_|refine kPb ?_|refine kPc ?_|refine kEa ?_|refine kEb ?_|refine kBa ?_|refine kBb ?_|refine kBc (by omega) ?_|refine kBd (by omega) ?_|refine kBe (by omega) ?_|refine kBf (by omega) ?_|refine kRa ?_|refine kRb ?_|refine VRead.fld ?_|refine VRead.load1 (by assumption) ?_|refine VRead.load (by assumption) ?_|refine kRf ?_|refine kRg ?_|refine kRh ?_|refine kRi ?_|refine kBe rfl ?_|refine kBc rfl ?_|refine kWa (by omega) (by omega) ?_|refine kWb (by omega) (by omega) ?_|refine kRj (by omega) ?_|refine kRk ?_|refine VSem.convI ?_|refine VRead.convI ?_|refine VRead.rem (by omega) (by decide) ?_|refine VRead.neg ?_|refine VC.seq ?_); (conv => whnf)) | (refine VRead.loadB hb rfl rfl ?_; (conv => whnf))))
    refine VRead.ofW (v := .agg #[.slice none 0 0, .int .i64 0]) (fun _ => by kernel_rfl) ?_
    ((conv => whnf); (repeat ((first|refine kLa ?_|refine kLb ?_|refine kCa rfl ?_|refine kCb ?_|refine kCc ?_|refine kCd ?_|refine kCe ?_|refine kCf ?_|refine kCg ?_|refine kCh ?_|refine kCi ?_|refine kCj ?_|refine kQa ?_|refine kQb ?_|refine kGa ?_|refine kGb ?_|refine kHa ?_|refine kHb ?_); (conv => whnf))))
    refine VSem.boxB ?_
    intro W3 g hb3 hg3 hl3 hB3
    ((conv => whnf); (repeat ((first|refine kLa ?_|refine kLb ?_|refine kCa rfl ?_|refine kCb ?_|refine kCc ?_|refine kCd ?_|refine kCe ?_|refine kCf ?_|refine kCg ?_|refine kCh ?_|refine kCi ?_|refine kCj ?_|refine kQa ?_|refine kQb ?_|refine kGa ?_|refine kGb ?_|refine kHa ?_|refine kHb ?_); (conv => whnf))))
    ((repeat ((first|refine kLa ?_|refine kLb ?_|refine kCa rfl ?_|refine kCb ?_|refine kCc ?_|refine kCd ?_|refine kCe ?_|refine kCf ?_|refine kCg ?_|refine kCh ?_|refine kCi ?_|refine kCj ?_|refine kQa ?_|refine kQb ?_|refine kGa ?_|refine kGb ?_|refine kHa ?_|refine kHb ?_|refine kPa ?_|refine kPb ?_|refine kPc ?_|refine kEa ?_|refine kEb ?_|refine kBa ?_|refine kBb ?_|refine kBc (by omega) ?_|refine kBd (by omega) ?_|refine kBe (by omega) ?_|refine kBf (by omega) ?_|refine kRa ?_|refine kRb ?_|refine VRead.fld ?_|refine VRead.load1 (by assumption) ?_|refine VRead.load (by assumption) ?_|refine kRf ?_|refine kRg ?_|refine kRh ?_|refine kRi ?_|refine kBe rfl ?_|refine kBc rfl ?_|refine kWa (by omega) (by omega) ?_|refine kWb (by omega) (by omega) ?_|refine kRj (by omega) ?_|refine kRk ?_|refine VSem.convI ?_|refine VRead.convI ?_|refine VRead.rem (by omega) (by decide) ?_|refine VRead.neg ?_|refine VC.seq ?_); (conv => whnf))))
    refine go hno W3 hB3 g hg3 hb3 _ ?_
    intro W4 h4 hO4
    ((conv => whnf); (repeat ((first|refine kLa ?_|refine kLb ?_|refine kCa rfl ?_|refine kCb ?_|refine kCc ?_|refine kCd ?_|refine kCe ?_|refine kCf ?_|refine kCg ?_|refine kCh ?_|refine kCi ?_|refine kCj ?_|refine kQa ?_|refine kQb ?_|refine kGa ?_|refine kGb ?_|refine kHa ?_|refine kHb ?_); (conv => whnf))))
    ((repeat ((first|refine kLa ?_|refine kLb ?_|refine kCa rfl ?_|refine kCb ?_|refine kCc ?_|refine kCd ?_|refine kCe ?_|refine kCf ?_|refine kCg ?_|refine kCh ?_|refine kCi ?_|refine kCj ?_|refine kQa ?_|refine kQb ?_|refine kGa ?_|refine kGb ?_|refine kHa ?_|refine kHb ?_|refine kPa ?_|refine kPb ?_|refine kPc ?_|refine kEa ?_|refine kEb ?_|refine kBa ?_|refine kBb ?_|refine kBc (by omega) ?_|refine kBd (by omega) ?_|refine kBe (by omega) ?_|refine kBf (by omega) ?_|refine kRa ?_|refine kRb ?_|refine VRead.fld ?_|refine VRead.load1 (by assumption) ?_|refine VRead.load (by assumption) ?_|refine kRf ?_|refine kRg ?_|refine kRh ?_|refine kRi ?_|refine kBe rfl ?_|refine kBc rfl ?_|refine kWa (by omega) (by omega) ?_|refine kWb (by omega) (by omega) ?_|refine kRj (by omega) ?_|refine kRk ?_|refine VSem.convI ?_|refine VRead.convI ?_|refine VRead.rem (by omega) (by decide) ?_|refine VRead.neg ?_|refine VC.seq ?_); (conv => whnf))))
    exact ⟨by rw [c4]; rfl, h4, hO4⟩
  | none =>
    by_cases hfull : 64 ≤ L.length
    · replace c3 := c3 rfl hn ⟨by rw [hfe, hf]; rfl, by omega⟩
      ((conv => whnf); (repeat ((first|refine kLa ?_|refine kLb ?_|refine kCa rfl ?_|refine kCb ?_|refine kCc ?_|refine kCd ?_|refine kCe ?_|refine kCf ?_|refine kCg ?_|refine kCh ?_|refine kCi ?_|refine kCj ?_|refine kQa ?_|refine kQb ?_|refine kGa ?_|refine kGb ?_|refine kHa ?_|refine kHb ?_); (conv => whnf))))
      (repeat (first | ((first|refine kLa ?_|refine kLb ?_|refine kCa rfl ?_|refine kCb ?_|refine kCc ?_|refine kCd ?_|refine kCe ?_|refine kCf ?_|refine kCg ?_|refine kCh ?_|refine kCi ?_|refine kCj ?_|refine kQa ?_|refine kQb ?_|refine kGa ?_|refine kGb ?_|refine kHa ?_|refine kHb ?_|refine kPa ?_|refine kPb ?_|refine kPc ?_|refine kEa ?_|refine kEb ?_|refine kBa ?_|refine kBb ?_|refine kBc (by omega) ?_|refine kBd (by omega) ?_|refine kBe (by omega) ?_|refine kBf (by omega) ?_|refine kRa ?_|refine kRb ?_|refine VRead.fld ?_|refine VRead.load1 (by assumption) ?_|refine VRead.load (by assumption) ?_|refine kRf ?_|refine kRg ?_|refine kRh ?_|refine kRi ?_|refine kBe rfl ?_|refine kBc rfl ?_|refine kWa (by omega) (by omega) ?_|refine kWb (by omega) (by omega) ?_|refine kRj (by omega) ?_|refine kRk ?_|refine VSem.convI ?_|refine VRead.convI ?_|refine VRead.rem (by omega) (by decide) ?_|refine VRead.neg ?_|refine VC.seq ?_); (conv => whnf)) | (refine VRead.loadB hb rfl rfl ?_; (conv => whnf)) | (refine lenM (fun _ e => e ▸ hM) R ?_; (conv => whnf))))
      exact ⟨by rw [c3]; rfl, fin c3 h2 (by omega) hpl, hO2⟩
    · have hno : ¬ (tfind T s = none ∧ 64 ≤ T.length) := fun h => hfull (by omega)
      replace c4 := c4 rfl hn hno
      ((conv => whnf); (repeat ((first|refine kLa ?_|refine kLb ?_|refine kCa rfl ?_|refine kCb ?_|refine kCc ?_|refine kCd ?_|refine kCe ?_|refine kCf ?_|refine kCg ?_|refine kCh ?_|refine kCi ?_|refine kCj ?_|refine kQa ?_|refine kQb ?_|refine kGa ?_|refine kGb ?_|refine kHa ?_|refine kHb ?_); (conv => whnf))))
      (repeat (first | ((first|refine kLa ?_|refine kLb ?_|refine kCa rfl ?_|refine kCb ?_|refine kCc ?_|refine kCd ?_|refine kCe ?_|refine kCf ?_|refine kCg ?_|refine kCh ?_|refine kCi ?_|refine kCj ?_|refine kQa ?_|refine kQb ?_|refine kGa ?_|refine kGb ?_|refine kHa ?_|refine kHb ?_|refine kPa ?_|refine kPb ?_|refine kPc ?_|refine kEa ?_|refine kEb ?_|refine kBa ?_|refine kBb ?_|refine kBc (by omega) ?_|refine kBd (by omega) ?_|refine kBe (by omega) ?_|refine kBf (by omega) ?_|refine kRa ?_|refine kRb ?_|refine VRead.fld ?_|refine VRead.load1 (by assumption) ?_|refine VRead.load (by assumption) ?_|refine kRf ?_|refine kRg ?_|refine kRh ?_|refine kRi ?_|refine kBe rfl ?_|refine kBc rfl ?_|refine kWa (by omega) (by omega) ?_|refine kWb (by omega) (by omega) ?_|refine kRj (by omega) ?_|refine kRk ?_|refine VSem.convI ?_|refine VRead.convI ?_|refine VRead.rem (by omega) (by decide) ?_|refine VRead.neg ?_|refine VC.seq ?_); (conv => whnf)) | (refine VRead.loadB hb rfl rfl ?_; (conv => whnf)) | (refine lenM (fun _ e => e ▸ hM) R ?_; (conv => whnf))))
      refine VRead.ofW (v := .agg #[.slice none 0 0, .int .i64 0]) (fun _ => by kernel_rfl) ?_
      ((conv => whnf); (repeat ((first|refine kLa ?_|refine kLb ?_|refine kCa rfl ?_|refine kCb ?_|refine kCc ?_|refine kCd ?_|refine kCe ?_|refine kCf ?_|refine kCg ?_|refine kCh ?_|refine kCi ?_|refine kCj ?_|refine kQa ?_|refine kQb ?_|refine kGa ?_|refine kGb ?_|refine kHa ?_|refine kHb ?_); (conv => whnf))))
      refine VSem.boxB ?_
      intro W3 g hb3 hg3 hl3 hB3
      ((conv => whnf); (repeat ((first|refine kLa ?_|refine kLb ?_|refine kCa rfl ?_|refine kCb ?_|refine kCc ?_|refine kCd ?_|refine kCe ?_|refine kCf ?_|refine kCg ?_|refine kCh ?_|refine kCi ?_|refine kCj ?_|refine kQa ?_|refine kQb ?_|refine kGa ?_|refine kGb ?_|refine kHa ?_|refine kHb ?_); (conv => whnf))))
      ((repeat ((first|refine kLa ?_|refine kLb ?_|refine kCa rfl ?_|refine kCb ?_|refine kCc ?_|refine kCd ?_|refine kCe ?_|refine kCf ?_|refine kCg ?_|refine kCh ?_|refine kCi ?_|refine kCj ?_|refine kQa ?_|refine kQb ?_|refine kGa ?_|refine kGb ?_|refine kHa ?_|refine kHb ?_|refine kPa ?_|refine kPb ?_|refine kPc ?_|refine kEa ?_|refine kEb ?_|refine kBa ?_|refine kBb ?_|refine kBc (by omega) ?_|refine kBd (by omega) ?_|refine kBe (by omega) ?_|refine kBf (by omega) ?_|refine kRa ?_|refine kRb ?_|refine VRead.fld ?_|refine VRead.load1 (by assumption) ?_|refine VRead.load (by assumption) ?_|refine kRf ?_|refine kRg ?_|refine kRh ?_|refine kRi ?_|refine kBe rfl ?_|refine kBc rfl ?_|refine kWa (by omega) (by omega) ?_|refine kWb (by omega) (by omega) ?_|refine kRj (by omega) ?_|refine kRk ?_|refine VSem.convI ?_|refine VRead.convI ?_|refine VRead.rem (by omega) (by decide) ?_|refine VRead.neg ?_|refine VC.seq ?_); (conv => whnf))))
      refine go hno W3 hB3 g hg3 hb3 _ ?_
      intro W4 h4 hO4
      ((conv => whnf); (repeat ((first|refine kLa ?_|refine kLb ?_|refine kCa rfl ?_|refine kCb ?_|refine kCc ?_|refine kCd ?_|refine kCe ?_|refine kCf ?_|refine kCg ?_|refine kCh ?_|refine kCi ?_|refine kCj ?_|refine kQa ?_|refine kQb ?_|refine kGa ?_|refine kGb ?_|refine kHa ?_|refine kHb ?_); (conv => whnf))))
      ((repeat ((first|refine kLa ?_|refine kLb ?_|refine kCa rfl ?_|refine kCb ?_|refine kCc ?_|refine kCd ?_|refine kCe ?_|refine kCf ?_|refine kCg ?_|refine kCh ?_|refine kCi ?_|refine kCj ?_|refine kQa ?_|refine kQb ?_|refine kGa ?_|refine kGb ?_|refine kHa ?_|refine kHb ?_|refine kPa ?_|refine kPb ?_|refine kPc ?_|refine kEa ?_|refine kEb ?_|refine kBa ?_|refine kBb ?_|refine kBc (by omega) ?_|refine kBd (by omega) ?_|refine kBe (by omega) ?_|refine kBf (by omega) ?_|refine kRa ?_|refine kRb ?_|refine VRead.fld ?_|refine VRead.load1 (by assumption) ?_|refine VRead.load (by assumption) ?_|refine kRf ?_|refine kRg ?_|refine kRh ?_|refine kRi ?_|refine kBe rfl ?_|refine kBc rfl ?_|refine kWa (by omega) (by omega) ?_|refine kWb (by omega) (by omega) ?_|refine kRj (by omega) ?_|refine kRk ?_|refine VSem.convI ?_|refine VRead.convI ?_|refine VRead.rem (by omega) (by decide) ?_|refine VRead.neg ?_|refine VC.seq ?_); (conv => whnf))))
      exact ⟨by rw [c4]; rfl, h4, hO4⟩
end Go.Proofs.Ytebeidnmplnlpaa
end

section
set_option maxRecDepth 10000
namespace Go.Proofs.Ytebeidnmplnlpaa
set_option linter.unusedVariables false
open Go.RowKit
open Go.Maps (Keyed)
open Go.ChangeMaps Go.WideElems

/-- a cell of a block that is known whole, in each of some worlds -/
theorem VRead.loadBS {P : Program} {S : World → Prop} {t T g i : Nat} {p : Addr} {cs : Array Value} {v : Value} {K : Value → Prop} [c : TCell P t] (hb : ∀ W, S W → Blk W g T cs) (hp : p = ⟨g, i, none⟩) (hv : cs.toList[i]? = some v) (hk : K v) : VRead P S (Instr.loadAt t (.pointer (some p))) K := by
  subst hp
  exact .load (fun W hW => by rw [(hb W hW).cell i, ← hv]; simp) hk
theorem add0 (g n : Nat) : (⟨g, 0, none⟩ : Addr).add n = ⟨g, n, none⟩ := by unfold Addr.add; split <;> simp_all
set_option maxHeartbeats 1000000 in
theorem dPut_at (W : World) (U : Foot) (d m c : Nat) (K : Dk) (L : DTb) (s : List UInt8) (g : Nat) (f : Fl) (n k : Nat) (A : Option Addr) (b : List UInt8) (h : DiskAt W U d m c K L)
    (hroom : 0 ≤ K.room ∧ K.room ≤ 16777216) (hfit : (used (plain L) : Int) ≤ K.room) (hfew : L.length ≤ 64) (hf : tfind L s = some (g, f)) (hr : Reads W W.heap.size 1 A n (bv b)) (hn : n ≤ 140737488351232) (hU : Up U W) :
    Calls Try.prog 60 #[.pointer (some ⟨d, 0, none⟩), .pointer (some ⟨g, 0, none⟩), .slice A n k] W fun e W' =>
      e = .returned (.int .i64 (if K.room < (used (plain L) : Int) + n then 18 else 0)) ∧ DiskAt W' U d m c K (if K.room < (used (plain L) : Int) + n then L else tset L s (g, ⟨f.b ++ b, f.sure⟩)) ∧ Out U W W' := by
  have hb := h.blk
  have hl : b.length = n := by have := hr.1; rw [bv_length] at this; omega
  have hfu := len_used (T := plain L) (p := (s, f)) (List.mem_map_of_mem (f := fun p : List UInt8 × (Nat × Fl) => (p.1, p.2.2)) (tfind_mem hf))
  simp only at hfu
  obtain ⟨hUg, A0, k0, hbf, hk0, hL0⟩ := h.fl _ (tfind_mem hf)
  simp only at hUg hbf hk0 hL0
  refine calls_vc Try.func60 rfl (by kernel_rfl) ?_
  have hS : Below W.heap.size W (W.drewN 1) := below_drewN (Below.refl _ _) 1
  have kB : ∀ X, Below W.heap.size W X → Blk X d 80 (dC K m) := fun X hX => hb.below hX hb.lt
  ((conv => whnf); (repeat ((first|refine kLa ?_|refine kLb ?_|refine kCa rfl ?_|refine kCb ?_|refine kCc ?_|refine kCd ?_|refine kCe ?_|refine kCf ?_|refine kCg ?_|refine kCh ?_|refine kCi ?_|refine kCj ?_|refine kQa ?_|refine kQb ?_|refine kGa ?_|refine kGb ?_|refine kHa ?_|refine kHb ?_); (conv => whnf))))
  ((repeat ((first|refine kLa ?_|refine kLb ?_|refine kCa rfl ?_|refine kCb ?_|refine kCc ?_|refine kCd ?_|refine kCe ?_|refine kCf ?_|refine kCg ?_|refine kCh ?_|refine kCi ?_|refine kCj ?_|refine kQa ?_|refine kQb ?_|refine kGa ?_|refine kGb ?_|refine kHa ?_|refine kHb ?_|refine kPa ?_|refine kPb ?_|refine kPc ?_|refine kEa ?_|refine kEb ?_|refine kBa ?_|refine kBb ?_|refine kBc (by omega) ?_|refine kBd (by omega) ?_|refine kBe (by omega) ?_|refine kBf (by omega) ?_|refine kRa ?_|refine kRb ?_|refine VRead.fld ?_|refine VRead.load1 (by assumption) ?_|refine VRead.load (by assumption) ?_|refine kRf ?_|refine kRg ?_|refine kRh ?_|refine kRi ?_|refine kBe rfl ?_|refine kBc rfl ?_|refine kWa (by omega) (by omega) ?_|refine kWb (by omega) (by omega) ?_|refine kRj (by omega) ?_|refine kRk ?_|refine VSem.convI ?_|refine VRead.convI ?_|refine VRead.rem (by omega) (by decide) ?_|refine VRead.neg ?_|refine VC.seq ?_); (conv => whnf))))
  refine VDraw.seg (fun X => Below W.heap.size W X) [([0, 1, 2, 3, 4, 5, 6], 7)] [8, 9] (by kernel_rfl) (by kernel_rfl) hS ?_
  (conv => whnf)
  (repeat ((first|refine VRead.loadBS kB rfl rfl ?_|refine kLa ?_|refine kLb ?_|refine kCa rfl ?_|refine kCb ?_|refine kCc ?_|refine kCd ?_|refine kCe ?_|refine kCf ?_|refine kCg ?_|refine kCh ?_|refine kCi ?_|refine kCj ?_|refine kQa ?_|refine kQb ?_|refine kGa ?_|refine kGb ?_|refine kHa ?_|refine kHb ?_|refine kPa ?_|refine kPb ?_|refine kPc ?_|refine kEa ?_|refine kEb ?_|refine kBa ?_|refine kBb ?_|refine kBc (by omega) ?_|refine kBd (by omega) ?_|refine kBe (by omega) ?_|refine kBf (by omega) ?_|refine kRa ?_|refine kRb ?_|refine VRead.fld ?_|refine VRead.load1 (by assumption) ?_|refine VRead.load (by assumption) ?_|refine kRf ?_|refine kRg ?_|refine kRh ?_|refine kRi ?_|refine kBe rfl ?_|refine kBc rfl ?_|refine kWa (by omega) (by omega) ?_|refine kWb (by omega) (by omega) ?_|refine kRj (by omega) ?_|refine kRk ?_|refine VSem.convI ?_|refine VRead.convI ?_|refine VRead.rem (by omega) (by decide) ?_|refine VRead.neg ?_|refine VC.seq ?_); (conv => whnf)))
  refine VCall.of (dUsed_at _ U d m c K L (h.below hS (Nat.le_refl _)) hroom hfit hfew) ?_
  rintro e W1 ⟨rfl, hB1⟩
  refine ⟨_, rfl, ?_⟩
  have hS1 : Below W.heap.size W W1 := hS.trans hB1
  (conv => whnf)
  refine Keep.mk hS1 ?_
  (conv => whnf)
  have h1 := h.below hS1 (Nat.le_refl _)
  by_cases hbig : K.room < (used (plain L) : Int) + n
  · rw [if_pos hbig, if_pos hbig]
    (repeat ((first|refine VRead.loadBS kB rfl rfl ?_|refine kLa ?_|refine kLb ?_|refine kCa rfl ?_|refine kCb ?_|refine kCc ?_|refine kCd ?_|refine kCe ?_|refine kCf ?_|refine kCg ?_|refine kCh ?_|refine kCi ?_|refine kCj ?_|refine kQa ?_|refine kQb ?_|refine kGa ?_|refine kGb ?_|refine kHa ?_|refine kHb ?_|refine kPa ?_|refine kPb ?_|refine kPc ?_|refine kEa ?_|refine kEb ?_|refine kBa ?_|refine kBb ?_|refine kBc (by omega) ?_|refine kBd (by omega) ?_|refine kBe (by omega) ?_|refine kBf (by omega) ?_|refine kRa ?_|refine kRb ?_|refine VRead.fld ?_|refine VRead.load1 (by assumption) ?_|refine VRead.load (by assumption) ?_|refine kRf ?_|refine kRg ?_|refine kRh ?_|refine kRi ?_|refine kBe rfl ?_|refine kBc rfl ?_|refine kWa (by omega) (by omega) ?_|refine kWb (by omega) (by omega) ?_|refine kRj (by omega) ?_|refine kRk ?_|refine VSem.convI ?_|refine VRead.convI ?_|refine VRead.rem (by omega) (by decide) ?_|refine VRead.neg ?_|refine VC.seq ?_); (conv => whnf)))
    exact ⟨rfl, h1, Out.new hS1⟩
  · rw [if_neg hbig, if_neg hbig]
    have hbf1 := hbf.below hS1 hbf.lt
    have hL1 := hL0.below hS1 (Nat.le_refl _)
    have hr1 := hr.below hS1
    (repeat ((first|refine VRead.loadBS kB rfl rfl ?_|refine kLa ?_|refine kLb ?_|refine kCa rfl ?_|refine kCb ?_|refine kCc ?_|refine kCd ?_|refine kCe ?_|refine kCf ?_|refine kCg ?_|refine kCh ?_|refine kCi ?_|refine kCj ?_|refine kQa ?_|refine kQb ?_|refine kGa ?_|refine kGb ?_|refine kHa ?_|refine kHb ?_|refine kPa ?_|refine kPb ?_|refine kPc ?_|refine kEa ?_|refine kEb ?_|refine kBa ?_|refine kBb ?_|refine kBc (by omega) ?_|refine kBd (by omega) ?_|refine kBe (by omega) ?_|refine kBf (by omega) ?_|refine kRa ?_|refine kRb ?_|refine VRead.fld ?_|refine VRead.load1 (by assumption) ?_|refine VRead.load (by assumption) ?_|refine kRf ?_|refine kRg ?_|refine kRh ?_|refine kRi ?_|refine kBe rfl ?_|refine kBc rfl ?_|refine kWa (by omega) (by omega) ?_|refine kWb (by omega) (by omega) ?_|refine kRj (by omega) ?_|refine kRk ?_|refine VSem.convI ?_|refine VRead.convI ?_|refine VRead.rem (by omega) (by decide) ?_|refine VRead.neg ?_|refine VC.seq ?_); (conv => whnf)))
    (repeat (first | ((first|refine kLa ?_|refine kLb ?_|refine kCa rfl ?_|refine kCb ?_|refine kCc ?_|refine kCd ?_|refine kCe ?_|refine kCf ?_|refine kCg ?_|refine kCh ?_|refine kCi ?_|refine kCj ?_|refine kQa ?_|refine kQb ?_|refine kGa ?_|refine kGb ?_|refine kHa ?_|refine kHb ?_|refine kPa ?_|refine kPb ?_|refine kPc ?_|refine kEa ?_|refine kEb ?_|refine kBa ?_|refine kBb ?_|refine kBc (by omega) ?_|refine kBd (by omega) ?_|refine kBe (by omega) ?_|refine kBf (by omega) ?_|refine kRa ?_|refine kRb ?_|refine VRead.fld ?_|refine VRead.load1 (by assumption) ?_|refine VRead.load (by assumption) ?_|refine kRf ?_|refine kRg ?_|refine kRh ?_|refine kRi ?_|refine kBe rfl ?_|refine kBc rfl ?_|refine kWa (by omega) (by omega) ?_|refine kWb (by omega) (by omega) ?_|refine kRj (by omega) ?_|refine kRk ?_|refine VSem.convI ?_|refine VRead.convI ?_|refine VRead.rem (by omega) (by decide) ?_|refine VRead.neg ?_|refine VC.seq ?_); (conv => whnf)) | (refine VRead.loadB hbf1 rfl rfl ?_; (conv => whnf))))
    refine VSem.makeZ (n := f.b.length + n) (B := W.heap.size) (by omega) hS1.size (by omega) (by omega) ?_
    intro W2 hO2 hB2 hz2
    have hS2 := hS1.trans (hB2.mono hS1.size)
    have hbf2 := hbf.below hS2 hbf.lt
    ((conv => whnf); (repeat ((first|refine kLa ?_|refine kLb ?_|refine kCa rfl ?_|refine kCb ?_|refine kCc ?_|refine kCd ?_|refine kCe ?_|refine kCf ?_|refine kCg ?_|refine kCh ?_|refine kCi ?_|refine kCj ?_|refine kQa ?_|refine kQb ?_|refine kGa ?_|refine kGb ?_|refine kHa ?_|refine kHb ?_); (conv => whnf))))
    (repeat (first | ((first|refine kLa ?_|refine kLb ?_|refine kCa rfl ?_|refine kCb ?_|refine kCc ?_|refine kCd ?_|refine kCe ?_|refine kCf ?_|refine kCg ?_|refine kCh ?_|refine kCi ?_|refine kCj ?_|refine kQa ?_|refine kQb ?_|refine kGa ?_|refine kGb ?_|refine kHa ?_|refine kHb ?_|refine kPa ?_|refine kPb ?_|refine kPc ?_|refine kEa ?_|refine kEb ?_|refine kBa ?_|refine kBb ?_|refine kBc (by omega) ?_|refine kBd (by omega) ?_|refine kBe (by omega) ?_|refine kBf (by omega) ?_|refine kRa ?_|refine kRb ?_|refine VRead.fld ?_|refine VRead.load1 (by assumption) ?_|refine VRead.load (by assumption) ?_|refine kRf ?_|refine kRg ?_|refine kRh ?_|refine kRi ?_|refine kBe rfl ?_|refine kBc rfl ?_|refine kWa (by omega) (by omega) ?_|refine kWb (by omega) (by omega) ?_|refine kRj (by omega) ?_|refine kRk ?_|refine VSem.convI ?_|refine VRead.convI ?_|refine VRead.rem (by omega) (by decide) ?_|refine VRead.neg ?_|refine VC.seq ?_); (conv => whnf)) | (refine VRead.loadB hbf2 rfl rfl ?_; (conv => whnf))))
    refine VSem.copyS (o := 0) hO2 (hL0.below hS2 (Nat.le_refl _)).1 (fun _ => rfl) (by omega) (by omega) ?_
    intro W3 hO3 hon3
    have hS3 := hS2.trans (hon3.below hS1.size)
    have hbf3 := hbf.below hS3 hbf.lt
    ((conv => whnf); (repeat ((first|refine kLa ?_|refine kLb ?_|refine kCa rfl ?_|refine kCb ?_|refine kCc ?_|refine kCd ?_|refine kCe ?_|refine kCf ?_|refine kCg ?_|refine kCh ?_|refine kCi ?_|refine kCj ?_|refine kQa ?_|refine kQb ?_|refine kGa ?_|refine kGb ?_|refine kHa ?_|refine kHb ?_); (conv => whnf))))
    (repeat (first | ((first|refine kLa ?_|refine kLb ?_|refine kCa rfl ?_|refine kCb ?_|refine kCc ?_|refine kCd ?_|refine kCe ?_|refine kCf ?_|refine kCg ?_|refine kCh ?_|refine kCi ?_|refine kCj ?_|refine kQa ?_|refine kQb ?_|refine kGa ?_|refine kGb ?_|refine kHa ?_|refine kHb ?_|refine kPa ?_|refine kPb ?_|refine kPc ?_|refine kEa ?_|refine kEb ?_|refine kBa ?_|refine kBb ?_|refine kBc (by omega) ?_|refine kBd (by omega) ?_|refine kBe (by omega) ?_|refine kBf (by omega) ?_|refine kRa ?_|refine kRb ?_|refine VRead.fld ?_|refine VRead.load1 (by assumption) ?_|refine VRead.load (by assumption) ?_|refine kRf ?_|refine kRg ?_|refine kRh ?_|refine kRi ?_|refine kBe rfl ?_|refine kBc rfl ?_|refine kWa (by omega) (by omega) ?_|refine kWb (by omega) (by omega) ?_|refine kRj (by omega) ?_|refine kRk ?_|refine VSem.convI ?_|refine VRead.convI ?_|refine VRead.rem (by omega) (by decide) ?_|refine VRead.neg ?_|refine VC.seq ?_); (conv => whnf)) | (refine VRead.loadB hbf3 rfl rfl ?_; (conv => whnf)) | (refine VRead.cutL (by omega) (by omega) ?_; (conv => whnf))))
    refine VSem.copyS (o := f.b.length) hO3 (hr.below hS3) (fun hm => ?_) ?_ (by omega) ?_
    · unfold cutA
      rw [Int.toNat_natCast, if_neg (by omega)]
      show some ((⟨W1.heap.size, 0, none⟩ : Addr).add _) = _
      rw [add0]
    · simp
    intro W4 hO4 hon4
    have hS4 := hS3.trans (hon4.below hS1.size)
    have hbf4 := hbf.below hS4 hbf.lt
    have h4 := h.below hS4 (Nat.le_refl _)
    have hby : List.take f.b.length (List.take 0 (List.replicate (f.b.length + n) 0) ++ f.b ++ List.drop (0 + f.b.length) (List.replicate (f.b.length + n) (0 : UInt8))) ++ b ++ List.drop (f.b.length + n) (List.take 0 (List.replicate (f.b.length + n) 0) ++ f.b ++ List.drop (0 + f.b.length) (List.replicate (f.b.length + n) 0)) = f.b ++ b := by
      simp
    rw [hby] at hO4
    have hL4 : Lies W4 U _ _ _ := Lies.of_own hO4 (fun j hj => hU j hj)
    ((conv => whnf); (repeat ((first|refine kLa ?_|refine kLb ?_|refine kCa rfl ?_|refine kCb ?_|refine kCc ?_|refine kCd ?_|refine kCe ?_|refine kCf ?_|refine kCg ?_|refine kCh ?_|refine kCi ?_|refine kCj ?_|refine kQa ?_|refine kQb ?_|refine kGa ?_|refine kGb ?_|refine kHa ?_|refine kHb ?_); (conv => whnf))))
    ((repeat ((first|refine kLa ?_|refine kLb ?_|refine kCa rfl ?_|refine kCb ?_|refine kCc ?_|refine kCd ?_|refine kCe ?_|refine kCf ?_|refine kCg ?_|refine kCh ?_|refine kCi ?_|refine kCj ?_|refine kQa ?_|refine kQb ?_|refine kGa ?_|refine kGb ?_|refine kHa ?_|refine kHb ?_|refine kPa ?_|refine kPb ?_|refine kPc ?_|refine kEa ?_|refine kEb ?_|refine kBa ?_|refine kBb ?_|refine kBc (by omega) ?_|refine kBd (by omega) ?_|refine kBe (by omega) ?_|refine kBf (by omega) ?_|refine kRa ?_|refine kRb ?_|refine VRead.fld ?_|refine VRead.load1 (by assumption) ?_|refine VRead.load (by assumption) ?_|refine kRf ?_|refine kRg ?_|refine kRh ?_|refine kRi ?_|refine kBe rfl ?_|refine kBc rfl ?_|refine kWa (by omega) (by omega) ?_|refine kWb (by omega) (by omega) ?_|refine kRj (by omega) ?_|refine kRk ?_|refine VSem.convI ?_|refine VRead.convI ?_|refine VRead.rem (by omega) (by decide) ?_|refine VRead.neg ?_|refine VC.seq ?_); (conv => whnf))))
    refine VUnit.storeB hbf4 rfl rfl rfl ?_
    intro W5 hb5 hg5
    have hL5 := hL4.blk hbf4 hg5 (by decide)
    have hlen : (f.b ++ b).length = f.b.length + n := by rw [List.length_append, hl]
    ((conv => whnf); (repeat ((first|refine kLa ?_|refine kLb ?_|refine kCa rfl ?_|refine kCb ?_|refine kCc ?_|refine kCd ?_|refine kCe ?_|refine kCf ?_|refine kCg ?_|refine kCh ?_|refine kCi ?_|refine kCj ?_|refine kQa ?_|refine kQb ?_|refine kGa ?_|refine kGb ?_|refine kHa ?_|refine kHb ?_); (conv => whnf))))
    ((repeat ((first|refine kLa ?_|refine kLb ?_|refine kCa rfl ?_|refine kCb ?_|refine kCc ?_|refine kCd ?_|refine kCe ?_|refine kCf ?_|refine kCg ?_|refine kCh ?_|refine kCi ?_|refine kCj ?_|refine kQa ?_|refine kQb ?_|refine kGa ?_|refine kGb ?_|refine kHa ?_|refine kHb ?_|refine kPa ?_|refine kPb ?_|refine kPc ?_|refine kEa ?_|refine kEb ?_|refine kBa ?_|refine kBb ?_|refine kBc (by omega) ?_|refine kBd (by omega) ?_|refine kBe (by omega) ?_|refine kBf (by omega) ?_|refine kRa ?_|refine kRb ?_|refine VRead.fld ?_|refine VRead.load1 (by assumption) ?_|refine VRead.load (by assumption) ?_|refine kRf ?_|refine kRg ?_|refine kRh ?_|refine kRi ?_|refine kBe rfl ?_|refine kBc rfl ?_|refine kWa (by omega) (by omega) ?_|refine kWb (by omega) (by omega) ?_|refine kRj (by omega) ?_|refine kRk ?_|refine VSem.convI ?_|refine VRead.convI ?_|refine VRead.rem (by omega) (by decide) ?_|refine VRead.neg ?_|refine VC.seq ?_); (conv => whnf))))
    refine ⟨rfl, h4.file (f' := ⟨f.b ++ b, f.sure⟩) (k := f.b.length + n) (A := some ⟨W1.heap.size, 0, none⟩) hf ?_ hg5 (by simp only; omega) (by simp only; rw [hlen]; exact hL5), (Out.new hS4).trans (Out.grown hg5 hUg)⟩
    simp only
    rw [hlen]
    exact hb5
end Go.Proofs.Ytebeidnmplnlpaa
end

section
set_option maxRecDepth 10000
namespace Go.Proofs.Ytebeidnmplnlpaa
set_option linter.unusedVariables false
open Go.RowKit
open Go.Maps (Keyed)
open Go.ChangeMaps Go.WideElems

theorem Disk.of {W : World} {U : Foot} {d m c : Nat} {L : DTb} {S : DS} (hwf : DWf S) (h : DiskAt W U d m c S.k L) (hc : (c : Int) ≤ S.k.calls) (hp : plain L = S.t) : Disk W U d S := ⟨hwf, m, c, L, h, hc, hp⟩
theorem retE {e r : Int × DS} (h : e = r) : Ending.returned (.int .i64 r.1) = Ending.returned (.int .i64 e.1) := by rw [h]
theorem findR_bad {L : DTb} {s : List UInt8} (h : ¬ nameOk s) : findR L s = .tuple #[.pointer none, .int .i64 1] := by unfold findR; rw [if_neg h]
theorem findR_none {L : DTb} {s : List UInt8} (h : nameOk s) (hf : tfind L s = none) : findR L s = .tuple #[.pointer none, .int .i64 3] := by unfold findR; rw [if_pos h, hf]
theorem findR_some {L : DTb} {s : List UInt8} {g : Nat} {f : Fl} (h : nameOk s) (hf : tfind L s = some (g, f)) : findR L s = .tuple #[.pointer (some ⟨g, 0, none⟩), .int .i64 0] := by unfold findR; rw [if_pos h, hf]; rfl
/-! ### what the operations answer -/
def DS.put (S : DS) (s : List UInt8) (f : Fl) (b : List UInt8) : Int × DS := if S.k.room < (used S.t : Int) + b.length then (18, S) else (0, ⟨S.k, tset S.t s ⟨f.b ++ b, f.sure⟩⟩)
def DS.append (S : DS) (s b : List UInt8) : Int × DS :=
  if S.k.call.1 ≠ 0 then (S.k.call.1, if S.k.off = false ∧ nameOk s then (match tfind S.t s with | some f => (DS.put ⟨S.k.call.2, S.t⟩ s f (b.take (b.length / 2))).2 | none => ⟨S.k.call.2, S.t⟩) else ⟨S.k.call.2, S.t⟩)
  else if ¬ nameOk s then (1, ⟨S.k.call.2, S.t⟩) else match tfind S.t s with | none => (3, ⟨S.k.call.2, S.t⟩) | some f => DS.put ⟨S.k.call.2, S.t⟩ s f b
def DS.sync (S : DS) (s : List UInt8) : Int × DS :=
  if S.k.call.1 ≠ 0 then (S.k.call.1, ⟨S.k.call.2, S.t⟩)
  else if ¬ nameOk s then (1, ⟨S.k.call.2, S.t⟩) else match tfind S.t s with | none => (3, ⟨S.k.call.2, S.t⟩) | some f => (0, ⟨S.k.call.2, tset S.t s ⟨f.b, f.b.length⟩⟩)
def DS.rename (S : DS) (s t : List UInt8) : Int × DS :=
  if S.k.call.1 ≠ 0 then (S.k.call.1, ⟨S.k.call.2, S.t⟩)
  else if ¬ (nameOk s ∧ nameOk t) then (1, ⟨S.k.call.2, S.t⟩) else match tfind S.t s with | none => (3, ⟨S.k.call.2, S.t⟩) | some f => (0, ⟨S.k.call.2, tset (tdel S.t s) t f⟩)
def DS.remove (S : DS) (s : List UInt8) : Int × DS :=
  if S.k.call.1 ≠ 0 then (S.k.call.1, ⟨S.k.call.2, S.t⟩)
  else if ¬ nameOk s then (1, ⟨S.k.call.2, S.t⟩) else match tfind S.t s with | none => (3, ⟨S.k.call.2, S.t⟩) | some f => (0, ⟨S.k.call.2, tdel S.t s⟩)
section
variable {S : DS} {s t b : List UInt8} {f : Fl}
theorem DWf.has (h : DWf S) (hf : tfind S.t s = some f) : nameOk s ∧ f.sure ≤ f.b.length ∧ used S.t = f.b.length + used (tdel S.t s) ∧ (tdel S.t s).length + 1 = S.t.length :=
  ⟨h.t.names _ (tfind_mem hf), h.t.sure _ (tfind_mem hf), used_tdel h.t.ris hf, (tdel_length h.t.ris hf).symm⟩
theorem DWf.put (h : DWf S) (hf : tfind S.t s = some f) : DWf (S.put s f b).2 := by
  obtain ⟨h1, h2, h3, h4⟩ := h.has hf
  have := h.t.fit
  have := h.t.few
  unfold DS.put
  split
  · exact h
  · exact ⟨h.k, h.t.set h1 (by omega) (by simp only [List.length_append]; omega) (by simp only [List.length_append]; omega)⟩
theorem DS.put_k : (S.put s f b).2.k = S.k := by unfold DS.put; split <;> rfl
theorem DWf.append (h : DWf S) (hc : S.k.calls < 1000000) : DWf (S.append s b).2 := by
  have h1 := h.call hc
  unfold DS.append
  split
  · simp only
    split
    · split
      · rename_i f hf; exact h1.put hf
      · exact h1
    · exact h1
  · split
    · exact h1
    · split
      · exact h1
      · rename_i f hf; exact h1.put hf
theorem DS.append_calls : (S.append s b).2.k.calls = S.k.calls + 1 := by
  have h0 := Dk.call_calls S.k
  unfold DS.append
  split
  · simp only
    split
    · split
      · rw [DS.put_k]; exact h0
      · exact h0
    · exact h0
  · split
    · exact h0
    · split
      · exact h0
      · rw [DS.put_k]; exact h0
theorem DWf.sync (h : DWf S) (hc : S.k.calls < 1000000) : DWf (S.sync s).2 := by
  have h1 := h.call hc
  unfold DS.sync
  split
  · exact h1
  · split
    · exact h1
    · split
      · exact h1
      · rename_i f hf
        obtain ⟨a1, a2, a3, a4⟩ := h.has hf
        have := h.t.few
        have := h1.t.fit
        simp only at this
        exact ⟨h1.k, h1.t.set a1 (by simp only; omega) (by simp only; omega) (Nat.le_refl _)⟩
theorem DS.sync_calls : (S.sync s).2.k.calls = S.k.calls + 1 := by
  have h0 := Dk.call_calls S.k
  unfold DS.sync
  split
  · exact h0
  · split
    · exact h0
    · split <;> exact h0
theorem DWf.rename (h : DWf S) (hc : S.k.calls < 1000000) : DWf (S.rename s t).2 := by
  have h1 := h.call hc
  unfold DS.rename
  split
  · exact h1
  · split
    · exact h1
    · split
      · exact h1
      · rename_i hn _ f hf
        obtain ⟨a1, a2, a3, a4⟩ := h.has hf
        have := h.t.few
        have := h1.t.fit
        have := used_tdel_le (tdel S.t s) t
        have := tdel_le (L := tdel S.t s) t
        simp only at *
        exact ⟨h1.k, (h1.t.del s).set (Decidable.not_not.1 hn).2 (by show (tdel (tdel S.t s) t).length + 1 ≤ 64; omega) (by show (f.b.length + used (tdel (tdel S.t s) t) : Int) ≤ S.k.call.2.room; omega) a2⟩
theorem DS.rename_calls : (S.rename s t).2.k.calls = S.k.calls + 1 := by
  have h0 := Dk.call_calls S.k
  unfold DS.rename
  split
  · exact h0
  · split
    · exact h0
    · split <;> exact h0
theorem DWf.remove (h : DWf S) (hc : S.k.calls < 1000000) : DWf (S.remove s).2 := by
  have h1 := h.call hc
  unfold DS.remove
  split
  · exact h1
  · split
    · exact h1
    · split
      · exact h1
      · exact ⟨h1.k, h1.t.del s⟩
theorem DS.remove_calls : (S.remove s).2.k.calls = S.k.calls + 1 := by
  have h0 := Dk.call_calls S.k
  unfold DS.remove
  split
  · exact h0
  · split
    · exact h0
    · split <;> exact h0
end
/-! ### what the code does -/
theorem VNext.del {P : Program} {ρ : Operand → Value} {c : Call} {ty : TypeId} {w : World} {K : Value → World → Prop} (hc : c.callee = .builtin .delete) (h : VSem P (Builtin.delete_ c.argTypes ty (argsOf ρ c).toArray) w K) : VNext P (do let d ← resolve ρ c ty; invoke d.target d.args) w K := by
  unfold resolve
  rw [hc]
  rw [args_arr] at h
  exact vnext_bind_ok rfl (vsem_next h)
set_option maxHeartbeats 1000000 in
theorem dAppend_any (W : World) (U : Foot) (d : Nat) (S : DS) (s : List UInt8) (n k : Nat) (A : Option Addr) (b : List UInt8) (h : Disk W U d S) (hc : S.k.calls < 1000000) (hs : s.length ≤ 1000) (hr : Src W U A n b) (hn : n ≤ 140737488351232) (hnk : n ≤ k) (hU : Up U W) :
    Calls Try.prog 26 #[.pointer (some ⟨d, 0, none⟩), encStr s, .slice A n k] W fun e W' => e = .returned (.int .i64 (S.append s b).1) ∧ Disk W' U d (S.append s b).2 ∧ Out U W W' := by
  have hwf' := h.1.append (s := s) (b := b) hc
  have hcc' := DS.append_calls (S := S) (s := s) (b := b)
  have hl := hr.len
  obtain ⟨h0, m, c, L, h, hcc, hpl⟩ := h
  have hwf1 := h0.call hc
  have hlen : L.length = S.t.length := by rw [← hpl]; exact (tmap_length _ _).symm
  have hfe : tfind S.t s = (tfind L s).map (·.2) := by rw [← hpl]; exact tmap_find _ _ _
  have hb := h.blk
  -- what stands at the end
  have fin : ∀ {W' : World} {L' : DTb} {r : Int × DS}, S.append s b = r → DiskAt W' U d m c r.2.k L' → plain L' = r.2.t → Disk W' U d (S.append s b).2 := by
    intro W' L' r e h1 h3
    exact Disk.of hwf' (by rw [e]; exact h1) (by rw [hcc']; omega) (by rw [e]; exact h3)
  refine calls_vc Try.func26 rfl (by kernel_rfl) ?_
  ((conv => whnf); (repeat ((first|refine kLa ?_|refine kLb ?_|refine kCa rfl ?_|refine kCb ?_|refine kCc ?_|refine kCd ?_|refine kCe ?_|refine kCf ?_|refine kCg ?_|refine kCh ?_|refine kCi ?_|refine kCj ?_|refine kQa ?_|refine kQb ?_|refine kGa ?_|refine kGb ?_|refine kHa ?_|refine kHb ?_); (conv => whnf))))
  (repeat (first | ((first|refine kLa ?_|refine kLb ?_|refine kCa rfl ?_|refine kCb ?_|refine kCc ?_|refine kCd ?_|refine kCe ?_|refine kCf ?_|refine kCg ?_|refine kCh ?_|refine kCi ?_|refine kCj ?_|refine kQa ?_|refine kQb ?_|refine kGa ?_|refine kGb ?_|refine kHa ?_|refine kHb ?_|refine kPa ?_|refine kPb ?_|refine kPc ?_|refine kEa ?_|refine kEb ?_|refine kBa ?_|refine kBb ?_|refine kBc (by omega) ?_|refine kBd (by omega) ?_|refine kBe (by omega) ?_|refine kBf (by omega) ?_|refine kRa ?_|refine kRb ?_|refine VRead.fld ?_|refine VRead.load1 (by assumption) ?_|refine VRead.load (by assumption) ?_|refine kRf ?_|refine kRg ?_|refine kRh ?_|refine kRi ?_|refine kBe rfl ?_|refine kBc rfl ?_|refine kWa (by omega) (by omega) ?_|refine kWb (by omega) (by omega) ?_|refine kRj (by omega) ?_|refine kRk ?_|refine VSem.convI ?_|refine VRead.convI ?_|refine VRead.rem (by omega) (by decide) ?_|refine VRead.neg ?_|refine VC.seq ?_); (conv => whnf)) | (refine VRead.loadB hb rfl rfl ?_; (conv => whnf))))
  refine VCall.of (dCall_at W U d m c S.k L h h0.k) ?_
  rintro e W1 ⟨rfl, h1, hg1⟩
  refine ⟨_, rfl, ?_⟩
  have hr1 := hr.blk hb h.hd hg1 (by decide)
  ((conv => whnf); (repeat ((first|refine kLa ?_|refine kLb ?_|refine kCa rfl ?_|refine kCb ?_|refine kCc ?_|refine kCd ?_|refine kCe ?_|refine kCf ?_|refine kCg ?_|refine kCh ?_|refine kCi ?_|refine kCj ?_|refine kQa ?_|refine kQb ?_|refine kGa ?_|refine kGb ?_|refine kHa ?_|refine kHb ?_); (conv => whnf))))
  ((repeat ((first|refine kLa ?_|refine kLb ?_|refine kCa rfl ?_|refine kCb ?_|refine kCc ?_|refine kCd ?_|refine kCe ?_|refine kCf ?_|refine kCg ?_|refine kCh ?_|refine kCi ?_|refine kCj ?_|refine kQa ?_|refine kQb ?_|refine kGa ?_|refine kGb ?_|refine kHa ?_|refine kHb ?_|refine kPa ?_|refine kPb ?_|refine kPc ?_|refine kEa ?_|refine kEb ?_|refine kBa ?_|refine kBb ?_|refine kBc (by omega) ?_|refine kBd (by omega) ?_|refine kBe (by omega) ?_|refine kBf (by omega) ?_|refine kRa ?_|refine kRb ?_|refine VRead.fld ?_|refine VRead.load1 (by assumption) ?_|refine VRead.load (by assumption) ?_|refine kRf ?_|refine kRg ?_|refine kRh ?_|refine kRi ?_|refine kBe rfl ?_|refine kBc rfl ?_|refine kWa (by omega) (by omega) ?_|refine kWb (by omega) (by omega) ?_|refine kRj (by omega) ?_|refine kRk ?_|refine VSem.convI ?_|refine VRead.convI ?_|refine VRead.rem (by omega) (by decide) ?_|refine VRead.neg ?_|refine VC.seq ?_); (conv => whnf))))
  refine VCall.of (dFind_at W1 U d m c _ L s h1) ?_
  rintro e W2 ⟨rfl, hB2⟩
  refine ⟨_, rfl, ?_⟩
  have h2 := h1.below hB2 (Nat.le_refl _)
  have hO2 : Out U W W2 := (Out.grown hg1 h.hd).trans (Out.new hB2)
  have hr2 := (hr1.1.below hB2).more hB2.size
  have hU2 := hU.grow hO2.size
  have hroom := h0.k.room
  have hfit := h0.t.fit
  have hfew := h0.t.few
  obtain ⟨e1, K1, hK⟩ : ∃ e1 K1, S.k.call = (e1, K1) := ⟨_, _, rfl⟩
  have hrm : K1.room = S.k.room := by have := Dk.call_room S.k; rw [hK] at this; exact this
  rw [hK] at h1 h2 ⊢
  simp only at h1 h2 ⊢
  have put : ∀ (g : Nat) (f : Fl) (z j : Nat) (x : List UInt8), tfind L s = some (g, f) → Reads W2 W2.heap.size 1 A z (bv x) → z ≤ 140737488351232 → Calls Try.prog 60 #[.pointer (some ⟨d, 0, none⟩), .pointer (some ⟨g, 0, none⟩), .slice A z j] W2 fun e W' =>
      e = .returned (.int .i64 (DS.put ⟨K1, S.t⟩ s f x).1) ∧ (∃ L', DiskAt W' U d m c (DS.put ⟨K1, S.t⟩ s f x).2.k L' ∧ plain L' = (DS.put ⟨K1, S.t⟩ s f x).2.t) ∧ Out U W W' := by
    intro g f z j x hf hx hz
    have hxl : x.length = z := by have := hx.1; rw [bv_length] at this; omega
    refine (dPut_at W2 U d m c K1 L s g f z j A x h2 (by omega) (by rw [hpl]; omega) (by omega) hf hx hz hU2).mono ?_
    rintro e W' ⟨rfl, h3, hO3⟩
    rw [hpl] at h3 ⊢
    unfold DS.put
    simp only
    rw [hxl]
    by_cases hbig : K1.room < (used S.t : Int) + z
    · rw [if_pos hbig, if_pos hbig]
      rw [if_pos hbig] at h3
      exact ⟨rfl, ⟨L, h3, hpl⟩, hO2.trans hO3⟩
    · rw [if_neg hbig, if_neg hbig]
      rw [if_neg hbig] at h3
      exact ⟨rfl, ⟨_, h3, by show tmap _ (tset L s _) = _; rw [tmap_set]; show tset (plain L) s _ = _; rw [hpl]⟩, hO2.trans hO3⟩
  by_cases he : e1 = 0
  · subst he
    by_cases hn : nameOk s
    · cases hf : tfind L s with
      | none =>
        rw [findR_none hn hf]
        have ea : S.append s b = (3, ⟨K1, S.t⟩) := by unfold DS.append; rw [hK, if_neg (by simp), if_neg (not_not_intro hn), hfe, hf]; rfl
        ((conv => whnf); (repeat ((first|refine kLa ?_|refine kLb ?_|refine kCa rfl ?_|refine kCb ?_|refine kCc ?_|refine kCd ?_|refine kCe ?_|refine kCf ?_|refine kCg ?_|refine kCh ?_|refine kCi ?_|refine kCj ?_|refine kQa ?_|refine kQb ?_|refine kGa ?_|refine kGb ?_|refine kHa ?_|refine kHb ?_); (conv => whnf))))
        ((repeat ((first|refine kLa ?_|refine kLb ?_|refine kCa rfl ?_|refine kCb ?_|refine kCc ?_|refine kCd ?_|refine kCe ?_|refine kCf ?_|refine kCg ?_|refine kCh ?_|refine kCi ?_|refine kCj ?_|refine kQa ?_|refine kQb ?_|refine kGa ?_|refine kGb ?_|refine kHa ?_|refine kHb ?_|refine kPa ?_|refine kPb ?_|refine kPc ?_|refine kEa ?_|refine kEb ?_|refine kBa ?_|refine kBb ?_|refine kBc (by omega) ?_|refine kBd (by omega) ?_|refine kBe (by omega) ?_|refine kBf (by omega) ?_|refine kRa ?_|refine kRb ?_|refine VRead.fld ?_|refine VRead.load1 (by assumption) ?_|refine VRead.load (by assumption) ?_|refine kRf ?_|refine kRg ?_|refine kRh ?_|refine kRi ?_|refine kBe rfl ?_|refine kBc rfl ?_|refine kWa (by omega) (by omega) ?_|refine kWb (by omega) (by omega) ?_|refine kRj (by omega) ?_|refine kRk ?_|refine VSem.convI ?_|refine VRead.convI ?_|refine VRead.rem (by omega) (by decide) ?_|refine VRead.neg ?_|refine VC.seq ?_); (conv => whnf))))
        exact ⟨retE ea, fin ea h2 hpl, hO2⟩
      | some p =>
        obtain ⟨g, f⟩ := p
        rw [findR_some hn hf]
        have ea : S.append s b = DS.put ⟨K1, S.t⟩ s f b := by unfold DS.append; rw [hK, if_neg (by simp), if_neg (not_not_intro hn), hfe, hf]; rfl
        ((conv => whnf); (repeat ((first|refine kLa ?_|refine kLb ?_|refine kCa rfl ?_|refine kCb ?_|refine kCc ?_|refine kCd ?_|refine kCe ?_|refine kCf ?_|refine kCg ?_|refine kCh ?_|refine kCi ?_|refine kCj ?_|refine kQa ?_|refine kQb ?_|refine kGa ?_|refine kGb ?_|refine kHa ?_|refine kHb ?_); (conv => whnf))))
        ((repeat ((first|refine kLa ?_|refine kLb ?_|refine kCa rfl ?_|refine kCb ?_|refine kCc ?_|refine kCd ?_|refine kCe ?_|refine kCf ?_|refine kCg ?_|refine kCh ?_|refine kCi ?_|refine kCj ?_|refine kQa ?_|refine kQb ?_|refine kGa ?_|refine kGb ?_|refine kHa ?_|refine kHb ?_|refine kPa ?_|refine kPb ?_|refine kPc ?_|refine kEa ?_|refine kEb ?_|refine kBa ?_|refine kBb ?_|refine kBc (by omega) ?_|refine kBd (by omega) ?_|refine kBe (by omega) ?_|refine kBf (by omega) ?_|refine kRa ?_|refine kRb ?_|refine VRead.fld ?_|refine VRead.load1 (by assumption) ?_|refine VRead.load (by assumption) ?_|refine kRf ?_|refine kRg ?_|refine kRh ?_|refine kRi ?_|refine kBe rfl ?_|refine kBc rfl ?_|refine kWa (by omega) (by omega) ?_|refine kWb (by omega) (by omega) ?_|refine kRj (by omega) ?_|refine kRk ?_|refine VSem.convI ?_|refine VRead.convI ?_|refine VRead.rem (by omega) (by decide) ?_|refine VRead.neg ?_|refine VC.seq ?_); (conv => whnf))))
        refine VCall.of (put g f n k b hf hr2 (by omega)) ?_
        rintro e W3 ⟨rfl, ⟨L', h3, h4⟩, hO3⟩
        refine ⟨_, rfl, ?_⟩
        ((conv => whnf); (repeat ((first|refine kLa ?_|refine kLb ?_|refine kCa rfl ?_|refine kCb ?_|refine kCc ?_|refine kCd ?_|refine kCe ?_|refine kCf ?_|refine kCg ?_|refine kCh ?_|refine kCi ?_|refine kCj ?_|refine kQa ?_|refine kQb ?_|refine kGa ?_|refine kGb ?_|refine kHa ?_|refine kHb ?_); (conv => whnf))))
        ((repeat ((first|refine kLa ?_|refine kLb ?_|refine kCa rfl ?_|refine kCb ?_|refine kCc ?_|refine kCd ?_|refine kCe ?_|refine kCf ?_|refine kCg ?_|refine kCh ?_|refine kCi ?_|refine kCj ?_|refine kQa ?_|refine kQb ?_|refine kGa ?_|refine kGb ?_|refine kHa ?_|refine kHb ?_|refine kPa ?_|refine kPb ?_|refine kPc ?_|refine kEa ?_|refine kEb ?_|refine kBa ?_|refine kBb ?_|refine kBc (by omega) ?_|refine kBd (by omega) ?_|refine kBe (by omega) ?_|refine kBf (by omega) ?_|refine kRa ?_|refine kRb ?_|refine VRead.fld ?_|refine VRead.load1 (by assumption) ?_|refine VRead.load (by assumption) ?_|refine kRf ?_|refine kRg ?_|refine kRh ?_|refine kRi ?_|refine kBe rfl ?_|refine kBc rfl ?_|refine kWa (by omega) (by omega) ?_|refine kWb (by omega) (by omega) ?_|refine kRj (by omega) ?_|refine kRk ?_|refine VSem.convI ?_|refine VRead.convI ?_|refine VRead.rem (by omega) (by decide) ?_|refine VRead.neg ?_|refine VC.seq ?_); (conv => whnf))))
        exact ⟨retE ea, fin ea h3 h4, hO3⟩
    · rw [findR_bad hn]
      have ea : S.append s b = (1, ⟨K1, S.t⟩) := by unfold DS.append; rw [hK, if_neg (by simp), if_pos hn]
      ((conv => whnf); (repeat ((first|refine kLa ?_|refine kLb ?_|refine kCa rfl ?_|refine kCb ?_|refine kCc ?_|refine kCd ?_|refine kCe ?_|refine kCf ?_|refine kCg ?_|refine kCh ?_|refine kCi ?_|refine kCj ?_|refine kQa ?_|refine kQb ?_|refine kGa ?_|refine kGb ?_|refine kHa ?_|refine kHb ?_); (conv => whnf))))
      ((repeat ((first|refine kLa ?_|refine kLb ?_|refine kCa rfl ?_|refine kCb ?_|refine kCc ?_|refine kCd ?_|refine kCe ?_|refine kCf ?_|refine kCg ?_|refine kCh ?_|refine kCi ?_|refine kCj ?_|refine kQa ?_|refine kQb ?_|refine kGa ?_|refine kGb ?_|refine kHa ?_|refine kHb ?_|refine kPa ?_|refine kPb ?_|refine kPc ?_|refine kEa ?_|refine kEb ?_|refine kBa ?_|refine kBb ?_|refine kBc (by omega) ?_|refine kBd (by omega) ?_|refine kBe (by omega) ?_|refine kBf (by omega) ?_|refine kRa ?_|refine kRb ?_|refine VRead.fld ?_|refine VRead.load1 (by assumption) ?_|refine VRead.load (by assumption) ?_|refine kRf ?_|refine kRg ?_|refine kRh ?_|refine kRi ?_|refine kBe rfl ?_|refine kBc rfl ?_|refine kWa (by omega) (by omega) ?_|refine kWb (by omega) (by omega) ?_|refine kRj (by omega) ?_|refine kRk ?_|refine VSem.convI ?_|refine VRead.convI ?_|refine VRead.rem (by omega) (by decide) ?_|refine VRead.neg ?_|refine VC.seq ?_); (conv => whnf))))
      exact ⟨retE ea, fin ea h2 hpl, hO2⟩
  · have ea0 : ¬ (S.k.off = false ∧ nameOk s) → S.append s b = (e1, ⟨K1, S.t⟩) := fun h => by unfold DS.append; rw [hK, if_pos he]; simp only; rw [if_neg h]
    have ea1 : (S.k.off = false ∧ nameOk s) → S.append s b = (e1, match tfind S.t s with | some f => (DS.put ⟨K1, S.t⟩ s f (b.take (b.length / 2))).2 | none => ⟨K1, S.t⟩) := fun h => by unfold DS.append; rw [hK, if_pos he]; simp only; rw [if_pos h]
    cases hoff : S.k.off with
    | true =>
      replace ea0 := ea0 (by rw [hoff]; simp)
      by_cases hn : nameOk s
      · cases hf : tfind L s with
        | none =>
          rw [findR_none hn hf]
          ((conv => whnf); (repeat ((first|refine kLa ?_|refine kLb ?_|refine kCa rfl ?_|refine kCb ?_|refine kCc ?_|refine kCd ?_|refine kCe ?_|refine kCf ?_|refine kCg ?_|refine kCh ?_|refine kCi ?_|refine kCj ?_|refine kQa ?_|refine kQb ?_|refine kGa ?_|refine kGb ?_|refine kHa ?_|refine kHb ?_); (conv => whnf))))
          ((repeat ((first|refine kLa ?_|refine kLb ?_|refine kCa rfl ?_|refine kCb ?_|refine kCc ?_|refine kCd ?_|refine kCe ?_|refine kCf ?_|refine kCg ?_|refine kCh ?_|refine kCi ?_|refine kCj ?_|refine kQa ?_|refine kQb ?_|refine kGa ?_|refine kGb ?_|refine kHa ?_|refine kHb ?_|refine kPa ?_|refine kPb ?_|refine kPc ?_|refine kEa ?_|refine kEb ?_|refine kBa ?_|refine kBb ?_|refine kBc (by omega) ?_|refine kBd (by omega) ?_|refine kBe (by omega) ?_|refine kBf (by omega) ?_|refine kRa ?_|refine kRb ?_|refine VRead.fld ?_|refine VRead.load1 (by assumption) ?_|refine VRead.load (by assumption) ?_|refine kRf ?_|refine kRg ?_|refine kRh ?_|refine kRi ?_|refine kBe rfl ?_|refine kBc rfl ?_|refine kWa (by omega) (by omega) ?_|refine kWb (by omega) (by omega) ?_|refine kRj (by omega) ?_|refine kRk ?_|refine VSem.convI ?_|refine VRead.convI ?_|refine VRead.rem (by omega) (by decide) ?_|refine VRead.neg ?_|refine VC.seq ?_); (conv => whnf))))
          exact ⟨retE ea0, fin ea0 h2 hpl, hO2⟩
        | some p =>
          rw [findR_some hn hf]
          ((conv => whnf); (repeat ((first|refine kLa ?_|refine kLb ?_|refine kCa rfl ?_|refine kCb ?_|refine kCc ?_|refine kCd ?_|refine kCe ?_|refine kCf ?_|refine kCg ?_|refine kCh ?_|refine kCi ?_|refine kCj ?_|refine kQa ?_|refine kQb ?_|refine kGa ?_|refine kGb ?_|refine kHa ?_|refine kHb ?_); (conv => whnf))))
          ((repeat ((first|refine kLa ?_|refine kLb ?_|refine kCa rfl ?_|refine kCb ?_|refine kCc ?_|refine kCd ?_|refine kCe ?_|refine kCf ?_|refine kCg ?_|refine kCh ?_|refine kCi ?_|refine kCj ?_|refine kQa ?_|refine kQb ?_|refine kGa ?_|refine kGb ?_|refine kHa ?_|refine kHb ?_|refine kPa ?_|refine kPb ?_|refine kPc ?_|refine kEa ?_|refine kEb ?_|refine kBa ?_|refine kBb ?_|refine kBc (by omega) ?_|refine kBd (by omega) ?_|refine kBe (by omega) ?_|refine kBf (by omega) ?_|refine kRa ?_|refine kRb ?_|refine VRead.fld ?_|refine VRead.load1 (by assumption) ?_|refine VRead.load (by assumption) ?_|refine kRf ?_|refine kRg ?_|refine kRh ?_|refine kRi ?_|refine kBe rfl ?_|refine kBc rfl ?_|refine kWa (by omega) (by omega) ?_|refine kWb (by omega) (by omega) ?_|refine kRj (by omega) ?_|refine kRk ?_|refine VSem.convI ?_|refine VRead.convI ?_|refine VRead.rem (by omega) (by decide) ?_|refine VRead.neg ?_|refine VC.seq ?_); (conv => whnf))))
          exact ⟨retE ea0, fin ea0 h2 hpl, hO2⟩
      · rw [findR_bad hn]
        ((conv => whnf); (repeat ((first|refine kLa ?_|refine kLb ?_|refine kCa rfl ?_|refine kCb ?_|refine kCc ?_|refine kCd ?_|refine kCe ?_|refine kCf ?_|refine kCg ?_|refine kCh ?_|refine kCi ?_|refine kCj ?_|refine kQa ?_|refine kQb ?_|refine kGa ?_|refine kGb ?_|refine kHa ?_|refine kHb ?_); (conv => whnf))))
        ((repeat ((first|refine kLa ?_|refine kLb ?_|refine kCa rfl ?_|refine kCb ?_|refine kCc ?_|refine kCd ?_|refine kCe ?_|refine kCf ?_|refine kCg ?_|refine kCh ?_|refine kCi ?_|refine kCj ?_|refine kQa ?_|refine kQb ?_|refine kGa ?_|refine kGb ?_|refine kHa ?_|refine kHb ?_|refine kPa ?_|refine kPb ?_|refine kPc ?_|refine kEa ?_|refine kEb ?_|refine kBa ?_|refine kBb ?_|refine kBc (by omega) ?_|refine kBd (by omega) ?_|refine kBe (by omega) ?_|refine kBf (by omega) ?_|refine kRa ?_|refine kRb ?_|refine VRead.fld ?_|refine VRead.load1 (by assumption) ?_|refine VRead.load (by assumption) ?_|refine kRf ?_|refine kRg ?_|refine kRh ?_|refine kRi ?_|refine kBe rfl ?_|refine kBc rfl ?_|refine kWa (by omega) (by omega) ?_|refine kWb (by omega) (by omega) ?_|refine kRj (by omega) ?_|refine kRk ?_|refine VSem.convI ?_|refine VRead.convI ?_|refine VRead.rem (by omega) (by decide) ?_|refine VRead.neg ?_|refine VC.seq ?_); (conv => whnf))))
        exact ⟨retE ea0, fin ea0 h2 hpl, hO2⟩
    | false =>
      by_cases hn : nameOk s
      · replace ea1 := ea1 ⟨hoff, hn⟩
        cases hf : tfind L s with
        | none =>
          rw [hfe, hf] at ea1
          rw [findR_none hn hf]
          ((conv => whnf); (repeat ((first|refine kLa ?_|refine kLb ?_|refine kCa rfl ?_|refine kCb ?_|refine kCc ?_|refine kCd ?_|refine kCe ?_|refine kCf ?_|refine kCg ?_|refine kCh ?_|refine kCi ?_|refine kCj ?_|refine kQa ?_|refine kQb ?_|refine kGa ?_|refine kGb ?_|refine kHa ?_|refine kHb ?_); (conv => whnf))))
          ((repeat ((first|refine kLa ?_|refine kLb ?_|refine kCa rfl ?_|refine kCb ?_|refine kCc ?_|refine kCd ?_|refine kCe ?_|refine kCf ?_|refine kCg ?_|refine kCh ?_|refine kCi ?_|refine kCj ?_|refine kQa ?_|refine kQb ?_|refine kGa ?_|refine kGb ?_|refine kHa ?_|refine kHb ?_|refine kPa ?_|refine kPb ?_|refine kPc ?_|refine kEa ?_|refine kEb ?_|refine kBa ?_|refine kBb ?_|refine kBc (by omega) ?_|refine kBd (by omega) ?_|refine kBe (by omega) ?_|refine kBf (by omega) ?_|refine kRa ?_|refine kRb ?_|refine VRead.fld ?_|refine VRead.load1 (by assumption) ?_|refine VRead.load (by assumption) ?_|refine kRf ?_|refine kRg ?_|refine kRh ?_|refine kRi ?_|refine kBe rfl ?_|refine kBc rfl ?_|refine kWa (by omega) (by omega) ?_|refine kWb (by omega) (by omega) ?_|refine kRj (by omega) ?_|refine kRk ?_|refine VSem.convI ?_|refine VRead.convI ?_|refine VRead.rem (by omega) (by decide) ?_|refine VRead.neg ?_|refine VC.seq ?_); (conv => whnf))))
          exact ⟨retE ea1, fin ea1 h2 hpl, hO2⟩
        | some p =>
          obtain ⟨g, f⟩ := p
          rw [hfe, hf] at ea1
          rw [findR_some hn hf]
          ((conv => whnf); (repeat ((first|refine kLa ?_|refine kLb ?_|refine kCa rfl ?_|refine kCb ?_|refine kCc ?_|refine kCd ?_|refine kCe ?_|refine kCf ?_|refine kCg ?_|refine kCh ?_|refine kCi ?_|refine kCj ?_|refine kQa ?_|refine kQb ?_|refine kGa ?_|refine kGb ?_|refine kHa ?_|refine kHb ?_); (conv => whnf))))
          ((repeat ((first|refine kLa ?_|refine kLb ?_|refine kCa rfl ?_|refine kCb ?_|refine kCc ?_|refine kCd ?_|refine kCe ?_|refine kCf ?_|refine kCg ?_|refine kCh ?_|refine kCi ?_|refine kCj ?_|refine kQa ?_|refine kQb ?_|refine kGa ?_|refine kGb ?_|refine kHa ?_|refine kHb ?_|refine kPa ?_|refine kPb ?_|refine kPc ?_|refine kEa ?_|refine kEb ?_|refine kBa ?_|refine kBb ?_|refine kBc (by omega) ?_|refine kBd (by omega) ?_|refine kBe (by omega) ?_|refine kBf (by omega) ?_|refine kRa ?_|refine kRb ?_|refine VRead.fld ?_|refine VRead.load1 (by assumption) ?_|refine VRead.load (by assumption) ?_|refine kRf ?_|refine kRg ?_|refine kRh ?_|refine kRi ?_|refine kBe rfl ?_|refine kBc rfl ?_|refine kWa (by omega) (by omega) ?_|refine kWb (by omega) (by omega) ?_|refine kRj (by omega) ?_|refine kRk ?_|refine VSem.convI ?_|refine VRead.convI ?_|refine VRead.rem (by omega) (by decide) ?_|refine VRead.neg ?_|refine VC.seq ?_); (conv => whnf))))
          refine VRead.quo64 (by omega) (by omega) (by omega) ?_
          ((conv => whnf); (repeat ((first|refine kLa ?_|refine kLb ?_|refine kCa rfl ?_|refine kCb ?_|refine kCc ?_|refine kCd ?_|refine kCe ?_|refine kCf ?_|refine kCg ?_|refine kCh ?_|refine kCi ?_|refine kCj ?_|refine kQa ?_|refine kQb ?_|refine kGa ?_|refine kGb ?_|refine kHa ?_|refine kHb ?_); (conv => whnf))))
          refine VRead.cutRH (n / 2) hr2 (by omega) (by omega) hnk ?_
          intro hr3
          ((conv => whnf); (repeat ((first|refine kLa ?_|refine kLb ?_|refine kCa rfl ?_|refine kCb ?_|refine kCc ?_|refine kCd ?_|refine kCe ?_|refine kCf ?_|refine kCg ?_|refine kCh ?_|refine kCi ?_|refine kCj ?_|refine kQa ?_|refine kQb ?_|refine kGa ?_|refine kGb ?_|refine kHa ?_|refine kHb ?_); (conv => whnf))))
          ((repeat ((first|refine kLa ?_|refine kLb ?_|refine kCa rfl ?_|refine kCb ?_|refine kCc ?_|refine kCd ?_|refine kCe ?_|refine kCf ?_|refine kCg ?_|refine kCh ?_|refine kCi ?_|refine kCj ?_|refine kQa ?_|refine kQb ?_|refine kGa ?_|refine kGb ?_|refine kHa ?_|refine kHb ?_|refine kPa ?_|refine kPb ?_|refine kPc ?_|refine kEa ?_|refine kEb ?_|refine kBa ?_|refine kBb ?_|refine kBc (by omega) ?_|refine kBd (by omega) ?_|refine kBe (by omega) ?_|refine kBf (by omega) ?_|refine kRa ?_|refine kRb ?_|refine VRead.fld ?_|refine VRead.load1 (by assumption) ?_|refine VRead.load (by assumption) ?_|refine kRf ?_|refine kRg ?_|refine kRh ?_|refine kRi ?_|refine kBe rfl ?_|refine kBc rfl ?_|refine kWa (by omega) (by omega) ?_|refine kWb (by omega) (by omega) ?_|refine kRj (by omega) ?_|refine kRk ?_|refine VSem.convI ?_|refine VRead.convI ?_|refine VRead.rem (by omega) (by decide) ?_|refine VRead.neg ?_|refine VC.seq ?_); (conv => whnf))))
          refine VCall.of (put g f (n / 2) k (b.take (n / 2)) hf hr3 (by omega)) ?_
          rintro e W3 ⟨rfl, ⟨L', h3, h4⟩, hO3⟩
          refine ⟨_, rfl, ?_⟩
          ((conv => whnf); (repeat ((first|refine kLa ?_|refine kLb ?_|refine kCa rfl ?_|refine kCb ?_|refine kCc ?_|refine kCd ?_|refine kCe ?_|refine kCf ?_|refine kCg ?_|refine kCh ?_|refine kCi ?_|refine kCj ?_|refine kQa ?_|refine kQb ?_|refine kGa ?_|refine kGb ?_|refine kHa ?_|refine kHb ?_); (conv => whnf))))
          ((repeat ((first|refine kLa ?_|refine kLb ?_|refine kCa rfl ?_|refine kCb ?_|refine kCc ?_|refine kCd ?_|refine kCe ?_|refine kCf ?_|refine kCg ?_|refine kCh ?_|refine kCi ?_|refine kCj ?_|refine kQa ?_|refine kQb ?_|refine kGa ?_|refine kGb ?_|refine kHa ?_|refine kHb ?_|refine kPa ?_|refine kPb ?_|refine kPc ?_|refine kEa ?_|refine kEb ?_|refine kBa ?_|refine kBb ?_|refine kBc (by omega) ?_|refine kBd (by omega) ?_|refine kBe (by omega) ?_|refine kBf (by omega) ?_|refine kRa ?_|refine kRb ?_|refine VRead.fld ?_|refine VRead.load1 (by assumption) ?_|refine VRead.load (by assumption) ?_|refine kRf ?_|refine kRg ?_|refine kRh ?_|refine kRi ?_|refine kBe rfl ?_|refine kBc rfl ?_|refine kWa (by omega) (by omega) ?_|refine kWb (by omega) (by omega) ?_|refine kRj (by omega) ?_|refine kRk ?_|refine VSem.convI ?_|refine VRead.convI ?_|refine VRead.rem (by omega) (by decide) ?_|refine VRead.neg ?_|refine VC.seq ?_); (conv => whnf))))
          rw [hl] at ea1
          exact ⟨retE ea1, fin ea1 h3 h4, hO3⟩
      · replace ea0 := ea0 (by simp [hn])
        rw [findR_bad hn]
        ((conv => whnf); (repeat ((first|refine kLa ?_|refine kLb ?_|refine kCa rfl ?_|refine kCb ?_|refine kCc ?_|refine kCd ?_|refine kCe ?_|refine kCf ?_|refine kCg ?_|refine kCh ?_|refine kCi ?_|refine kCj ?_|refine kQa ?_|refine kQb ?_|refine kGa ?_|refine kGb ?_|refine kHa ?_|refine kHb ?_); (conv => whnf))))
        ((repeat ((first|refine kLa ?_|refine kLb ?_|refine kCa rfl ?_|refine kCb ?_|refine kCc ?_|refine kCd ?_|refine kCe ?_|refine kCf ?_|refine kCg ?_|refine kCh ?_|refine kCi ?_|refine kCj ?_|refine kQa ?_|refine kQb ?_|refine kGa ?_|refine kGb ?_|refine kHa ?_|refine kHb ?_|refine kPa ?_|refine kPb ?_|refine kPc ?_|refine kEa ?_|refine kEb ?_|refine kBa ?_|refine kBb ?_|refine kBc (by omega) ?_|refine kBd (by omega) ?_|refine kBe (by omega) ?_|refine kBf (by omega) ?_|refine kRa ?_|refine kRb ?_|refine VRead.fld ?_|refine VRead.load1 (by assumption) ?_|refine VRead.load (by assumption) ?_|refine kRf ?_|refine kRg ?_|refine kRh ?_|refine kRi ?_|refine kBe rfl ?_|refine kBc rfl ?_|refine kWa (by omega) (by omega) ?_|refine kWb (by omega) (by omega) ?_|refine kRj (by omega) ?_|refine kRk ?_|refine VSem.convI ?_|refine VRead.convI ?_|refine VRead.rem (by omega) (by decide) ?_|refine VRead.neg ?_|refine VC.seq ?_); (conv => whnf))))
        exact ⟨retE ea0, fin ea0 h2 hpl, hO2⟩
set_option maxHeartbeats 1000000 in
theorem dSync_any (W : World) (U : Foot) (d : Nat) (S : DS) (s : List UInt8) (h : Disk W U d S) (hc : S.k.calls < 1000000) (hs : s.length ≤ 1000) :
    Calls Try.prog 51 #[.pointer (some ⟨d, 0, none⟩), encStr s] W fun e W' => e = .returned (.int .i64 (S.sync s).1) ∧ Disk W' U d (S.sync s).2 ∧ Out U W W' := by
  have hwf' := h.1.sync (s := s) hc
  have hcc' := DS.sync_calls (S := S) (s := s)
  obtain ⟨h0, m, c, L, h, hcc, hpl⟩ := h
  have hfe : tfind S.t s = (tfind L s).map (·.2) := by rw [← hpl]; exact tmap_find _ _ _
  have fin : ∀ {W' : World} {L' : DTb} {r : Int × DS}, S.sync s = r → DiskAt W' U d m c r.2.k L' → plain L' = r.2.t → Disk W' U d (S.sync s).2 := by
    intro W' L' r e h1 h3
    exact Disk.of hwf' (by rw [e]; exact h1) (by rw [hcc']; omega) (by rw [e]; exact h3)
  refine calls_vc Try.func51 rfl (by kernel_rfl) ?_
  ((conv => whnf); (repeat ((first|refine kLa ?_|refine kLb ?_|refine kCa rfl ?_|refine kCb ?_|refine kCc ?_|refine kCd ?_|refine kCe ?_|refine kCf ?_|refine kCg ?_|refine kCh ?_|refine kCi ?_|refine kCj ?_|refine kQa ?_|refine kQb ?_|refine kGa ?_|refine kGb ?_|refine kHa ?_|refine kHb ?_); (conv => whnf))))
  ((repeat ((first|refine kLa ?_|refine kLb ?_|refine kCa rfl ?_|refine kCb ?_|refine kCc ?_|refine kCd ?_|refine kCe ?_|refine kCf ?_|refine kCg ?_|refine kCh ?_|refine kCi ?_|refine kCj ?_|refine kQa ?_|refine kQb ?_|refine kGa ?_|refine kGb ?_|refine kHa ?_|refine kHb ?_|refine kPa ?_|refine kPb ?_|refine kPc ?_|refine kEa ?_|refine kEb ?_|refine kBa ?_|refine kBb ?_|refine kBc (by omega) ?_|refine kBd (by omega) ?_|refine kBe (by omega) ?_|refine kBf (by omega) ?_|refine kRa ?_|refine kRb ?_|refine VRead.fld ?_|refine VRead.load1 (by assumption) ?_|refine VRead.load (by assumption) ?_|refine kRf ?_|refine kRg ?_|refine kRh ?_|refine kRi ?_|refine kBe rfl ?_|refine kBc rfl ?_|refine kWa (by omega) (by omega) ?_|refine kWb (by omega) (by omega) ?_|refine kRj (by omega) ?_|refine kRk ?_|refine VSem.convI ?_|refine VRead.convI ?_|refine VRead.rem (by omega) (by decide) ?_|refine VRead.neg ?_|refine VC.seq ?_); (conv => whnf))))
  refine VCall.of (dCall_at W U d m c S.k L h h0.k) ?_
  rintro e W1 ⟨rfl, h1, hg1⟩
  refine ⟨_, rfl, ?_⟩
  obtain ⟨e1, K1, hK⟩ : ∃ e1 K1, S.k.call = (e1, K1) := ⟨_, _, rfl⟩
  rw [hK] at h1 ⊢
  simp only at h1 ⊢
  have hO1 : Out U W W1 := Out.grown hg1 h.hd
  by_cases he : e1 = 0
  case neg =>
    have ea : S.sync s = (e1, ⟨K1, S.t⟩) := by unfold DS.sync; rw [hK]; exact if_pos he
    ((conv => whnf); (repeat ((first|refine kLa ?_|refine kLb ?_|refine kCa rfl ?_|refine kCb ?_|refine kCc ?_|refine kCd ?_|refine kCe ?_|refine kCf ?_|refine kCg ?_|refine kCh ?_|refine kCi ?_|refine kCj ?_|refine kQa ?_|refine kQb ?_|refine kGa ?_|refine kGb ?_|refine kHa ?_|refine kHb ?_); (conv => whnf))))
    ((repeat ((first|refine kLa ?_|refine kLb ?_|refine kCa rfl ?_|refine kCb ?_|refine kCc ?_|refine kCd ?_|refine kCe ?_|refine kCf ?_|refine kCg ?_|refine kCh ?_|refine kCi ?_|refine kCj ?_|refine kQa ?_|refine kQb ?_|refine kGa ?_|refine kGb ?_|refine kHa ?_|refine kHb ?_|refine kPa ?_|refine kPb ?_|refine kPc ?_|refine kEa ?_|refine kEb ?_|refine kBa ?_|refine kBb ?_|refine kBc (by omega) ?_|refine kBd (by omega) ?_|refine kBe (by omega) ?_|refine kBf (by omega) ?_|refine kRa ?_|refine kRb ?_|refine VRead.fld ?_|refine VRead.load1 (by assumption) ?_|refine VRead.load (by assumption) ?_|refine kRf ?_|refine kRg ?_|refine kRh ?_|refine kRi ?_|refine kBe rfl ?_|refine kBc rfl ?_|refine kWa (by omega) (by omega) ?_|refine kWb (by omega) (by omega) ?_|refine kRj (by omega) ?_|refine kRk ?_|refine VSem.convI ?_|refine VRead.convI ?_|refine VRead.rem (by omega) (by decide) ?_|refine VRead.neg ?_|refine VC.seq ?_); (conv => whnf))))
    exact ⟨retE ea, fin ea h1 hpl, hO1⟩
  subst he
  ((conv => whnf); (repeat ((first|refine kLa ?_|refine kLb ?_|refine kCa rfl ?_|refine kCb ?_|refine kCc ?_|refine kCd ?_|refine kCe ?_|refine kCf ?_|refine kCg ?_|refine kCh ?_|refine kCi ?_|refine kCj ?_|refine kQa ?_|refine kQb ?_|refine kGa ?_|refine kGb ?_|refine kHa ?_|refine kHb ?_); (conv => whnf))))
  ((repeat ((first|refine kLa ?_|refine kLb ?_|refine kCa rfl ?_|refine kCb ?_|refine kCc ?_|refine kCd ?_|refine kCe ?_|refine kCf ?_|refine kCg ?_|refine kCh ?_|refine kCi ?_|refine kCj ?_|refine kQa ?_|refine kQb ?_|refine kGa ?_|refine kGb ?_|refine kHa ?_|refine kHb ?_|refine kPa ?_|refine kPb ?_|refine kPc ?_|refine kEa ?_|refine kEb ?_|refine kBa ?_|refine kBb ?_|refine kBc (by omega) ?_|refine kBd (by omega) ?_|refine kBe (by omega) ?_|refine kBf (by omega) ?_|refine kRa ?_|refine kRb ?_|refine VRead.fld ?_|refine VRead.load1 (by assumption) ?_|refine VRead.load (by assumption) ?_|refine kRf ?_|refine kRg ?_|refine kRh ?_|refine kRi ?_|refine kBe rfl ?_|refine kBc rfl ?_|refine kWa (by omega) (by omega) ?_|refine kWb (by omega) (by omega) ?_|refine kRj (by omega) ?_|refine kRk ?_|refine VSem.convI ?_|refine VRead.convI ?_|refine VRead.rem (by omega) (by decide) ?_|refine VRead.neg ?_|refine VC.seq ?_); (conv => whnf))))
  refine VCall.of (dFind_at W1 U d m c _ L s h1) ?_
  rintro e W2 ⟨rfl, hB2⟩
  refine ⟨_, rfl, ?_⟩
  have h2 := h1.below hB2 (Nat.le_refl _)
  have hO2 := hO1.trans (Out.new hB2)
  by_cases hn : nameOk s
  case neg =>
    rw [findR_bad hn]
    have ea : S.sync s = (1, ⟨K1, S.t⟩) := by unfold DS.sync; rw [hK, if_neg (by simp), if_pos hn]
    ((conv => whnf); (repeat ((first|refine kLa ?_|refine kLb ?_|refine kCa rfl ?_|refine kCb ?_|refine kCc ?_|refine kCd ?_|refine kCe ?_|refine kCf ?_|refine kCg ?_|refine kCh ?_|refine kCi ?_|refine kCj ?_|refine kQa ?_|refine kQb ?_|refine kGa ?_|refine kGb ?_|refine kHa ?_|refine kHb ?_); (conv => whnf))))
    ((repeat ((first|refine kLa ?_|refine kLb ?_|refine kCa rfl ?_|refine kCb ?_|refine kCc ?_|refine kCd ?_|refine kCe ?_|refine kCf ?_|refine kCg ?_|refine kCh ?_|refine kCi ?_|refine kCj ?_|refine kQa ?_|refine kQb ?_|refine kGa ?_|refine kGb ?_|refine kHa ?_|refine kHb ?_|refine kPa ?_|refine kPb ?_|refine kPc ?_|refine kEa ?_|refine kEb ?_|refine kBa ?_|refine kBb ?_|refine kBc (by omega) ?_|refine kBd (by omega) ?_|refine kBe (by omega) ?_|refine kBf (by omega) ?_|refine kRa ?_|refine kRb ?_|refine VRead.fld ?_|refine VRead.load1 (by assumption) ?_|refine VRead.load (by assumption) ?_|refine kRf ?_|refine kRg ?_|refine kRh ?_|refine kRi ?_|refine kBe rfl ?_|refine kBc rfl ?_|refine kWa (by omega) (by omega) ?_|refine kWb (by omega) (by omega) ?_|refine kRj (by omega) ?_|refine kRk ?_|refine VSem.convI ?_|refine VRead.convI ?_|refine VRead.rem (by omega) (by decide) ?_|refine VRead.neg ?_|refine VC.seq ?_); (conv => whnf))))
    exact ⟨retE ea, fin ea h2 hpl, hO2⟩
  cases hf : tfind L s with
  | none =>
    rw [findR_none hn hf]
    have ea : S.sync s = (3, ⟨K1, S.t⟩) := by unfold DS.sync; rw [hK, if_neg (by simp), if_neg (not_not_intro hn), hfe, hf]; rfl
    ((conv => whnf); (repeat ((first|refine kLa ?_|refine kLb ?_|refine kCa rfl ?_|refine kCb ?_|refine kCc ?_|refine kCd ?_|refine kCe ?_|refine kCf ?_|refine kCg ?_|refine kCh ?_|refine kCi ?_|refine kCj ?_|refine kQa ?_|refine kQb ?_|refine kGa ?_|refine kGb ?_|refine kHa ?_|refine kHb ?_); (conv => whnf))))
    ((repeat ((first|refine kLa ?_|refine kLb ?_|refine kCa rfl ?_|refine kCb ?_|refine kCc ?_|refine kCd ?_|refine kCe ?_|refine kCf ?_|refine kCg ?_|refine kCh ?_|refine kCi ?_|refine kCj ?_|refine kQa ?_|refine kQb ?_|refine kGa ?_|refine kGb ?_|refine kHa ?_|refine kHb ?_|refine kPa ?_|refine kPb ?_|refine kPc ?_|refine kEa ?_|refine kEb ?_|refine kBa ?_|refine kBb ?_|refine kBc (by omega) ?_|refine kBd (by omega) ?_|refine kBe (by omega) ?_|refine kBf (by omega) ?_|refine kRa ?_|refine kRb ?_|refine VRead.fld ?_|refine VRead.load1 (by assumption) ?_|refine VRead.load (by assumption) ?_|refine kRf ?_|refine kRg ?_|refine kRh ?_|refine kRi ?_|refine kBe rfl ?_|refine kBc rfl ?_|refine kWa (by omega) (by omega) ?_|refine kWb (by omega) (by omega) ?_|refine kRj (by omega) ?_|refine kRk ?_|refine VSem.convI ?_|refine VRead.convI ?_|refine VRead.rem (by omega) (by decide) ?_|refine VRead.neg ?_|refine VC.seq ?_); (conv => whnf))))
    exact ⟨retE ea, fin ea h2 hpl, hO2⟩
  | some p =>
    obtain ⟨g, f⟩ := p
    rw [findR_some hn hf]
    have ea : S.sync s = (0, ⟨K1, tset S.t s ⟨f.b, f.b.length⟩⟩) := by unfold DS.sync; rw [hK, if_neg (by simp), if_neg (not_not_intro hn), hfe, hf]; rfl
    obtain ⟨hUg, A0, k0, hbf, hk0, hL0⟩ := h2.fl _ (tfind_mem hf)
    simp only at hUg hbf hk0 hL0
    ((conv => whnf); (repeat ((first|refine kLa ?_|refine kLb ?_|refine kCa rfl ?_|refine kCb ?_|refine kCc ?_|refine kCd ?_|refine kCe ?_|refine kCf ?_|refine kCg ?_|refine kCh ?_|refine kCi ?_|refine kCj ?_|refine kQa ?_|refine kQb ?_|refine kGa ?_|refine kGb ?_|refine kHa ?_|refine kHb ?_); (conv => whnf))))
    (repeat (first | ((first|refine kLa ?_|refine kLb ?_|refine kCa rfl ?_|refine kCb ?_|refine kCc ?_|refine kCd ?_|refine kCe ?_|refine kCf ?_|refine kCg ?_|refine kCh ?_|refine kCi ?_|refine kCj ?_|refine kQa ?_|refine kQb ?_|refine kGa ?_|refine kGb ?_|refine kHa ?_|refine kHb ?_|refine kPa ?_|refine kPb ?_|refine kPc ?_|refine kEa ?_|refine kEb ?_|refine kBa ?_|refine kBb ?_|refine kBc (by omega) ?_|refine kBd (by omega) ?_|refine kBe (by omega) ?_|refine kBf (by omega) ?_|refine kRa ?_|refine kRb ?_|refine VRead.fld ?_|refine VRead.load1 (by assumption) ?_|refine VRead.load (by assumption) ?_|refine kRf ?_|refine kRg ?_|refine kRh ?_|refine kRi ?_|refine kBe rfl ?_|refine kBc rfl ?_|refine kWa (by omega) (by omega) ?_|refine kWb (by omega) (by omega) ?_|refine kRj (by omega) ?_|refine kRk ?_|refine VSem.convI ?_|refine VRead.convI ?_|refine VRead.rem (by omega) (by decide) ?_|refine VRead.neg ?_|refine VC.seq ?_); (conv => whnf)) | (refine VRead.loadB hbf rfl rfl ?_; (conv => whnf))))
    refine VUnit.storeB hbf rfl rfl rfl ?_
    intro W3 hb3 hg3
    ((conv => whnf); (repeat ((first|refine kLa ?_|refine kLb ?_|refine kCa rfl ?_|refine kCb ?_|refine kCc ?_|refine kCd ?_|refine kCe ?_|refine kCf ?_|refine kCg ?_|refine kCh ?_|refine kCi ?_|refine kCj ?_|refine kQa ?_|refine kQb ?_|refine kGa ?_|refine kGb ?_|refine kHa ?_|refine kHb ?_); (conv => whnf))))
    ((repeat ((first|refine kLa ?_|refine kLb ?_|refine kCa rfl ?_|refine kCb ?_|refine kCc ?_|refine kCd ?_|refine kCe ?_|refine kCf ?_|refine kCg ?_|refine kCh ?_|refine kCi ?_|refine kCj ?_|refine kQa ?_|refine kQb ?_|refine kGa ?_|refine kGb ?_|refine kHa ?_|refine kHb ?_|refine kPa ?_|refine kPb ?_|refine kPc ?_|refine kEa ?_|refine kEb ?_|refine kBa ?_|refine kBb ?_|refine kBc (by omega) ?_|refine kBd (by omega) ?_|refine kBe (by omega) ?_|refine kBf (by omega) ?_|refine kRa ?_|refine kRb ?_|refine VRead.fld ?_|refine VRead.load1 (by assumption) ?_|refine VRead.load (by assumption) ?_|refine kRf ?_|refine kRg ?_|refine kRh ?_|refine kRi ?_|refine kBe rfl ?_|refine kBc rfl ?_|refine kWa (by omega) (by omega) ?_|refine kWb (by omega) (by omega) ?_|refine kRj (by omega) ?_|refine kRk ?_|refine VSem.convI ?_|refine VRead.convI ?_|refine VRead.rem (by omega) (by decide) ?_|refine VRead.neg ?_|refine VC.seq ?_); (conv => whnf))))
    exact ⟨retE ea, fin ea (h2.file (f' := ⟨f.b, f.b.length⟩) hf hb3 hg3 hk0 (hL0.blk hbf hg3 (by decide))) (by show tmap _ (tset L s _) = _; rw [tmap_set]; show tset (plain L) s _ = _; rw [hpl]), hO2.trans (Out.grown hg3 hUg)⟩
set_option maxHeartbeats 1000000 in
theorem dRemove_any (W : World) (U : Foot) (d : Nat) (S : DS) (s : List UInt8) (h : Disk W U d S) (hc : S.k.calls < 1000000) (hs : s.length ≤ 1000) :
    Calls Try.prog 54 #[.pointer (some ⟨d, 0, none⟩), encStr s] W fun e W' => e = .returned (.int .i64 (S.remove s).1) ∧ Disk W' U d (S.remove s).2 ∧ Out U W W' := by
  have hwf' := h.1.remove (s := s) hc
  have hcc' := DS.remove_calls (S := S) (s := s)
  obtain ⟨h0, m, c, L, h, hcc, hpl⟩ := h
  have hfe : tfind S.t s = (tfind L s).map (·.2) := by rw [← hpl]; exact tmap_find _ _ _
  have fin : ∀ {W' : World} {L' : DTb} {r : Int × DS}, S.remove s = r → DiskAt W' U d m c r.2.k L' → plain L' = r.2.t → Disk W' U d (S.remove s).2 := by
    intro W' L' r e h1 h3
    exact Disk.of hwf' (by rw [e]; exact h1) (by rw [hcc']; omega) (by rw [e]; exact h3)
  refine calls_vc Try.func54 rfl (by kernel_rfl) ?_
  ((conv => whnf); (repeat ((first|refine kLa ?_|refine kLb ?_|refine kCa rfl ?_|refine kCb ?_|refine kCc ?_|refine kCd ?_|refine kCe ?_|refine kCf ?_|refine kCg ?_|refine kCh ?_|refine kCi ?_|refine kCj ?_|refine kQa ?_|refine kQb ?_|refine kGa ?_|refine kGb ?_|refine kHa ?_|refine kHb ?_); (conv => whnf))))
  ((repeat ((first|refine kLa ?_|refine kLb ?_|refine kCa rfl ?_|refine kCb ?_|refine kCc ?_|refine kCd ?_|refine kCe ?_|refine kCf ?_|refine kCg ?_|refine kCh ?_|refine kCi ?_|refine kCj ?_|refine kQa ?_|refine kQb ?_|refine kGa ?_|refine kGb ?_|refine kHa ?_|refine kHb ?_|refine kPa ?_|refine kPb ?_|refine kPc ?_|refine kEa ?_|refine kEb ?_|refine kBa ?_|refine kBb ?_|refine kBc (by omega) ?_|refine kBd (by omega) ?_|refine kBe (by omega) ?_|refine kBf (by omega) ?_|refine kRa ?_|refine kRb ?_|refine VRead.fld ?_|refine VRead.load1 (by assumption) ?_|refine VRead.load (by assumption) ?_|refine kRf ?_|refine kRg ?_|refine kRh ?_|refine kRi ?_|refine kBe rfl ?_|refine kBc rfl ?_|refine kWa (by omega) (by omega) ?_|refine kWb (by omega) (by omega) ?_|refine kRj (by omega) ?_|refine kRk ?_|refine VSem.convI ?_|refine VRead.convI ?_|refine VRead.rem (by omega) (by decide) ?_|refine VRead.neg ?_|refine VC.seq ?_); (conv => whnf))))
  refine VCall.of (dCall_at W U d m c S.k L h h0.k) ?_
  rintro e W1 ⟨rfl, h1, hg1⟩
  refine ⟨_, rfl, ?_⟩
  obtain ⟨e1, K1, hK⟩ : ∃ e1 K1, S.k.call = (e1, K1) := ⟨_, _, rfl⟩
  rw [hK] at h1 ⊢
  simp only at h1 ⊢
  have hO1 : Out U W W1 := Out.grown hg1 h.hd
  by_cases he : e1 = 0
  case neg =>
    have ea : S.remove s = (e1, ⟨K1, S.t⟩) := by unfold DS.remove; rw [hK]; exact if_pos he
    ((conv => whnf); (repeat ((first|refine kLa ?_|refine kLb ?_|refine kCa rfl ?_|refine kCb ?_|refine kCc ?_|refine kCd ?_|refine kCe ?_|refine kCf ?_|refine kCg ?_|refine kCh ?_|refine kCi ?_|refine kCj ?_|refine kQa ?_|refine kQb ?_|refine kGa ?_|refine kGb ?_|refine kHa ?_|refine kHb ?_); (conv => whnf))))
    ((repeat ((first|refine kLa ?_|refine kLb ?_|refine kCa rfl ?_|refine kCb ?_|refine kCc ?_|refine kCd ?_|refine kCe ?_|refine kCf ?_|refine kCg ?_|refine kCh ?_|refine kCi ?_|refine kCj ?_|refine kQa ?_|refine kQb ?_|refine kGa ?_|refine kGb ?_|refine kHa ?_|refine kHb ?_|refine kPa ?_|refine kPb ?_|refine kPc ?_|refine kEa ?_|refine kEb ?_|refine kBa ?_|refine kBb ?_|refine kBc (by omega) ?_|refine kBd (by omega) ?_|refine kBe (by omega) ?_|refine kBf (by omega) ?_|refine kRa ?_|refine kRb ?_|refine VRead.fld ?_|refine VRead.load1 (by assumption) ?_|refine VRead.load (by assumption) ?_|refine kRf ?_|refine kRg ?_|refine kRh ?_|refine kRi ?_|refine kBe rfl ?_|refine kBc rfl ?_|refine kWa (by omega) (by omega) ?_|refine kWb (by omega) (by omega) ?_|refine kRj (by omega) ?_|refine kRk ?_|refine VSem.convI ?_|refine VRead.convI ?_|refine VRead.rem (by omega) (by decide) ?_|refine VRead.neg ?_|refine VC.seq ?_); (conv => whnf))))
    exact ⟨retE ea, fin ea h1 hpl, hO1⟩
  subst he
  ((conv => whnf); (repeat ((first|refine kLa ?_|refine kLb ?_|refine kCa rfl ?_|refine kCb ?_|refine kCc ?_|refine kCd ?_|refine kCe ?_|refine kCf ?_|refine kCg ?_|refine kCh ?_|refine kCi ?_|refine kCj ?_|refine kQa ?_|refine kQb ?_|refine kGa ?_|refine kGb ?_|refine kHa ?_|refine kHb ?_); (conv => whnf))))
  ((repeat ((first|refine kLa ?_|refine kLb ?_|refine kCa rfl ?_|refine kCb ?_|refine kCc ?_|refine kCd ?_|refine kCe ?_|refine kCf ?_|refine kCg ?_|refine kCh ?_|refine kCi ?_|refine kCj ?_|refine kQa ?_|refine kQb ?_|refine kGa ?_|refine kGb ?_|refine kHa ?_|refine kHb ?_|refine kPa ?_|refine kPb ?_|refine kPc ?_|refine kEa ?_|refine kEb ?_|refine kBa ?_|refine kBb ?_|refine kBc (by omega) ?_|refine kBd (by omega) ?_|refine kBe (by omega) ?_|refine kBf (by omega) ?_|refine kRa ?_|refine kRb ?_|refine VRead.fld ?_|refine VRead.load1 (by assumption) ?_|refine VRead.load (by assumption) ?_|refine kRf ?_|refine kRg ?_|refine kRh ?_|refine kRi ?_|refine kBe rfl ?_|refine kBc rfl ?_|refine kWa (by omega) (by omega) ?_|refine kWb (by omega) (by omega) ?_|refine kRj (by omega) ?_|refine kRk ?_|refine VSem.convI ?_|refine VRead.convI ?_|refine VRead.rem (by omega) (by decide) ?_|refine VRead.neg ?_|refine VC.seq ?_); (conv => whnf))))
  refine VCall.of (dFind_at W1 U d m c _ L s h1) ?_
  rintro e W2 ⟨rfl, hB2⟩
  refine ⟨_, rfl, ?_⟩
  have h2 := h1.below hB2 (Nat.le_refl _)
  have hO2 := hO1.trans (Out.new hB2)
  by_cases hn : nameOk s
  case neg =>
    rw [findR_bad hn]
    have ea : S.remove s = (1, ⟨K1, S.t⟩) := by unfold DS.remove; rw [hK, if_neg (by simp), if_pos hn]
    ((conv => whnf); (repeat ((first|refine kLa ?_|refine kLb ?_|refine kCa rfl ?_|refine kCb ?_|refine kCc ?_|refine kCd ?_|refine kCe ?_|refine kCf ?_|refine kCg ?_|refine kCh ?_|refine kCi ?_|refine kCj ?_|refine kQa ?_|refine kQb ?_|refine kGa ?_|refine kGb ?_|refine kHa ?_|refine kHb ?_); (conv => whnf))))
    ((repeat ((first|refine kLa ?_|refine kLb ?_|refine kCa rfl ?_|refine kCb ?_|refine kCc ?_|refine kCd ?_|refine kCe ?_|refine kCf ?_|refine kCg ?_|refine kCh ?_|refine kCi ?_|refine kCj ?_|refine kQa ?_|refine kQb ?_|refine kGa ?_|refine kGb ?_|refine kHa ?_|refine kHb ?_|refine kPa ?_|refine kPb ?_|refine kPc ?_|refine kEa ?_|refine kEb ?_|refine kBa ?_|refine kBb ?_|refine kBc (by omega) ?_|refine kBd (by omega) ?_|refine kBe (by omega) ?_|refine kBf (by omega) ?_|refine kRa ?_|refine kRb ?_|refine VRead.fld ?_|refine VRead.load1 (by assumption) ?_|refine VRead.load (by assumption) ?_|refine kRf ?_|refine kRg ?_|refine kRh ?_|refine kRi ?_|refine kBe rfl ?_|refine kBc rfl ?_|refine kWa (by omega) (by omega) ?_|refine kWb (by omega) (by omega) ?_|refine kRj (by omega) ?_|refine kRk ?_|refine VSem.convI ?_|refine VRead.convI ?_|refine VRead.rem (by omega) (by decide) ?_|refine VRead.neg ?_|refine VC.seq ?_); (conv => whnf))))
    exact ⟨retE ea, fin ea h2 hpl, hO2⟩
  cases hf : tfind L s with
  | none =>
    rw [findR_none hn hf]
    have ea : S.remove s = (3, ⟨K1, S.t⟩) := by unfold DS.remove; rw [hK, if_neg (by simp), if_neg (not_not_intro hn), hfe, hf]; rfl
    ((conv => whnf); (repeat ((first|refine kLa ?_|refine kLb ?_|refine kCa rfl ?_|refine kCb ?_|refine kCc ?_|refine kCd ?_|refine kCe ?_|refine kCf ?_|refine kCg ?_|refine kCh ?_|refine kCi ?_|refine kCj ?_|refine kQa ?_|refine kQb ?_|refine kGa ?_|refine kGb ?_|refine kHa ?_|refine kHb ?_); (conv => whnf))))
    ((repeat ((first|refine kLa ?_|refine kLb ?_|refine kCa rfl ?_|refine kCb ?_|refine kCc ?_|refine kCd ?_|refine kCe ?_|refine kCf ?_|refine kCg ?_|refine kCh ?_|refine kCi ?_|refine kCj ?_|refine kQa ?_|refine kQb ?_|refine kGa ?_|refine kGb ?_|refine kHa ?_|refine kHb ?_|refine kPa ?_|refine kPb ?_|refine kPc ?_|refine kEa ?_|refine kEb ?_|refine kBa ?_|refine kBb ?_|refine kBc (by omega) ?_|refine kBd (by omega) ?_|refine kBe (by omega) ?_|refine kBf (by omega) ?_|refine kRa ?_|refine kRb ?_|refine VRead.fld ?_|refine VRead.load1 (by assumption) ?_|refine VRead.load (by assumption) ?_|refine kRf ?_|refine kRg ?_|refine kRh ?_|refine kRi ?_|refine kBe rfl ?_|refine kBc rfl ?_|refine kWa (by omega) (by omega) ?_|refine kWb (by omega) (by omega) ?_|refine kRj (by omega) ?_|refine kRk ?_|refine VSem.convI ?_|refine VRead.convI ?_|refine VRead.rem (by omega) (by decide) ?_|refine VRead.neg ?_|refine VC.seq ?_); (conv => whnf))))
    exact ⟨retE ea, fin ea h2 hpl, hO2⟩
  | some p =>
    obtain ⟨g, f⟩ := p
    rw [findR_some hn hf]
    have ea : S.remove s = (0, ⟨K1, tdel S.t s⟩) := by unfold DS.remove; rw [hK, if_neg (by simp), if_neg (not_not_intro hn), hfe, hf]; rfl
    have hb2 := h2.blk
    ((conv => whnf); (repeat ((first|refine kLa ?_|refine kLb ?_|refine kCa rfl ?_|refine kCb ?_|refine kCc ?_|refine kCd ?_|refine kCe ?_|refine kCf ?_|refine kCg ?_|refine kCh ?_|refine kCi ?_|refine kCj ?_|refine kQa ?_|refine kQb ?_|refine kGa ?_|refine kGb ?_|refine kHa ?_|refine kHb ?_); (conv => whnf))))
    (repeat (first | ((first|refine kLa ?_|refine kLb ?_|refine kCa rfl ?_|refine kCb ?_|refine kCc ?_|refine kCd ?_|refine kCe ?_|refine kCf ?_|refine kCg ?_|refine kCh ?_|refine kCi ?_|refine kCj ?_|refine kQa ?_|refine kQb ?_|refine kGa ?_|refine kGb ?_|refine kHa ?_|refine kHb ?_|refine kPa ?_|refine kPb ?_|refine kPc ?_|refine kEa ?_|refine kEb ?_|refine kBa ?_|refine kBb ?_|refine kBc (by omega) ?_|refine kBd (by omega) ?_|refine kBe (by omega) ?_|refine kBf (by omega) ?_|refine kRa ?_|refine kRb ?_|refine VRead.fld ?_|refine VRead.load1 (by assumption) ?_|refine VRead.load (by assumption) ?_|refine kRf ?_|refine kRg ?_|refine kRh ?_|refine kRi ?_|refine kBe rfl ?_|refine kBc rfl ?_|refine kWa (by omega) (by omega) ?_|refine kWb (by omega) (by omega) ?_|refine kRj (by omega) ?_|refine kRk ?_|refine VSem.convI ?_|refine VRead.convI ?_|refine VRead.rem (by omega) (by decide) ?_|refine VRead.neg ?_|refine VC.seq ?_); (conv => whnf)) | (refine VRead.loadB hb2 rfl rfl ?_; (conv => whnf))))
    refine VNext.del rfl (VSem.dDel h2.map h2.ris hf hs ?_)
    intro W3 hM3 hg3
    ((conv => whnf); (repeat ((first|refine kLa ?_|refine kLb ?_|refine kCa rfl ?_|refine kCb ?_|refine kCc ?_|refine kCd ?_|refine kCe ?_|refine kCf ?_|refine kCg ?_|refine kCh ?_|refine kCi ?_|refine kCj ?_|refine kQa ?_|refine kQb ?_|refine kGa ?_|refine kGb ?_|refine kHa ?_|refine kHb ?_); (conv => whnf))))
    ((repeat ((first|refine kLa ?_|refine kLb ?_|refine kCa rfl ?_|refine kCb ?_|refine kCc ?_|refine kCd ?_|refine kCe ?_|refine kCf ?_|refine kCg ?_|refine kCh ?_|refine kCi ?_|refine kCj ?_|refine kQa ?_|refine kQb ?_|refine kGa ?_|refine kGb ?_|refine kHa ?_|refine kHb ?_|refine kPa ?_|refine kPb ?_|refine kPc ?_|refine kEa ?_|refine kEb ?_|refine kBa ?_|refine kBb ?_|refine kBc (by omega) ?_|refine kBd (by omega) ?_|refine kBe (by omega) ?_|refine kBf (by omega) ?_|refine kRa ?_|refine kRb ?_|refine VRead.fld ?_|refine VRead.load1 (by assumption) ?_|refine VRead.load (by assumption) ?_|refine kRf ?_|refine kRg ?_|refine kRh ?_|refine kRi ?_|refine kBe rfl ?_|refine kBc rfl ?_|refine kWa (by omega) (by omega) ?_|refine kWb (by omega) (by omega) ?_|refine kRj (by omega) ?_|refine kRk ?_|refine VSem.convI ?_|refine VRead.convI ?_|refine VRead.rem (by omega) (by decide) ?_|refine VRead.neg ?_|refine VC.seq ?_); (conv => whnf))))
    exact ⟨retE ea, fin ea (h2.del hM3 hg3) (by show tmap _ (tdel L s) = _; rw [tmap_del]; show tdel (plain L) s = _; rw [hpl]), hO2.trans (Out.grown hg3 h2.hm)⟩
set_option maxHeartbeats 1000000 in
theorem dRename_any (W : World) (U : Foot) (d : Nat) (S : DS) (s t : List UInt8) (h : Disk W U d S) (hc : S.k.calls < 1000000) (hs : s.length ≤ 1000) (ht : t.length ≤ 1000) :
    Calls Try.prog 52 #[.pointer (some ⟨d, 0, none⟩), encStr s, encStr t] W fun e W' => e = .returned (.int .i64 (S.rename s t).1) ∧ Disk W' U d (S.rename s t).2 ∧ Out U W W' := by
  have hwf' := h.1.rename (s := s) (t := t) hc
  have hcc' := DS.rename_calls (S := S) (s := s) (t := t)
  obtain ⟨h0, m, c, L, h, hcc, hpl⟩ := h
  have hc0 := h0.k.calls
  have hfe : tfind S.t s = (tfind L s).map (·.2) := by rw [← hpl]; exact tmap_find _ _ _
  have fin : ∀ {W' : World} {c' : Nat} {L' : DTb} {r : Int × DS}, S.rename s t = r → DiskAt W' U d m c' r.2.k L' → c' ≤ c + 1 → plain L' = r.2.t → Disk W' U d (S.rename s t).2 := by
    intro W' c' L' r e h1 h2 h3
    exact Disk.of hwf' (by rw [e]; exact h1) (by rw [hcc']; omega) (by rw [e]; exact h3)
  refine calls_vc Try.func52 rfl (by kernel_rfl) ?_
  ((conv => whnf); (repeat ((first|refine kLa ?_|refine kLb ?_|refine kCa rfl ?_|refine kCb ?_|refine kCc ?_|refine kCd ?_|refine kCe ?_|refine kCf ?_|refine kCg ?_|refine kCh ?_|refine kCi ?_|refine kCj ?_|refine kQa ?_|refine kQb ?_|refine kGa ?_|refine kGb ?_|refine kHa ?_|refine kHb ?_); (conv => whnf))))
  ((repeat ((first|refine kLa ?_|refine kLb ?_|refine kCa rfl ?_|refine kCb ?_|refine kCc ?_|refine kCd ?_|refine kCe ?_|refine kCf ?_|refine kCg ?_|refine kCh ?_|refine kCi ?_|refine kCj ?_|refine kQa ?_|refine kQb ?_|refine kGa ?_|refine kGb ?_|refine kHa ?_|refine kHb ?_|refine kPa ?_|refine kPb ?_|refine kPc ?_|refine kEa ?_|refine kEb ?_|refine kBa ?_|refine kBb ?_|refine kBc (by omega) ?_|refine kBd (by omega) ?_|refine kBe (by omega) ?_|refine kBf (by omega) ?_|refine kRa ?_|refine kRb ?_|refine VRead.fld ?_|refine VRead.load1 (by assumption) ?_|refine VRead.load (by assumption) ?_|refine kRf ?_|refine kRg ?_|refine kRh ?_|refine kRi ?_|refine kBe rfl ?_|refine kBc rfl ?_|refine kWa (by omega) (by omega) ?_|refine kWb (by omega) (by omega) ?_|refine kRj (by omega) ?_|refine kRk ?_|refine VSem.convI ?_|refine VRead.convI ?_|refine VRead.rem (by omega) (by decide) ?_|refine VRead.neg ?_|refine VC.seq ?_); (conv => whnf))))
  refine VCall.of (dCall_at W U d m c S.k L h h0.k) ?_
  rintro e W1 ⟨rfl, h1, hg1⟩
  refine ⟨_, rfl, ?_⟩
  obtain ⟨e1, K1, hK⟩ : ∃ e1 K1, S.k.call = (e1, K1) := ⟨_, _, rfl⟩
  rw [hK] at h1 ⊢
  simp only at h1 ⊢
  have hO1 : Out U W W1 := Out.grown hg1 h.hd
  by_cases he : e1 = 0
  case neg =>
    have ea : S.rename s t = (e1, ⟨K1, S.t⟩) := by unfold DS.rename; rw [hK]; exact if_pos he
    ((conv => whnf); (repeat ((first|refine kLa ?_|refine kLb ?_|refine kCa rfl ?_|refine kCb ?_|refine kCc ?_|refine kCd ?_|refine kCe ?_|refine kCf ?_|refine kCg ?_|refine kCh ?_|refine kCi ?_|refine kCj ?_|refine kQa ?_|refine kQb ?_|refine kGa ?_|refine kGb ?_|refine kHa ?_|refine kHb ?_); (conv => whnf))))
    ((repeat ((first|refine kLa ?_|refine kLb ?_|refine kCa rfl ?_|refine kCb ?_|refine kCc ?_|refine kCd ?_|refine kCe ?_|refine kCf ?_|refine kCg ?_|refine kCh ?_|refine kCi ?_|refine kCj ?_|refine kQa ?_|refine kQb ?_|refine kGa ?_|refine kGb ?_|refine kHa ?_|refine kHb ?_|refine kPa ?_|refine kPb ?_|refine kPc ?_|refine kEa ?_|refine kEb ?_|refine kBa ?_|refine kBb ?_|refine kBc (by omega) ?_|refine kBd (by omega) ?_|refine kBe (by omega) ?_|refine kBf (by omega) ?_|refine kRa ?_|refine kRb ?_|refine VRead.fld ?_|refine VRead.load1 (by assumption) ?_|refine VRead.load (by assumption) ?_|refine kRf ?_|refine kRg ?_|refine kRh ?_|refine kRi ?_|refine kBe rfl ?_|refine kBc rfl ?_|refine kWa (by omega) (by omega) ?_|refine kWb (by omega) (by omega) ?_|refine kRj (by omega) ?_|refine kRk ?_|refine VSem.convI ?_|refine VRead.convI ?_|refine VRead.rem (by omega) (by decide) ?_|refine VRead.neg ?_|refine VC.seq ?_); (conv => whnf))))
    exact ⟨retE ea, fin ea h1 (by omega) hpl, hO1⟩
  subst he
  ((conv => whnf); (repeat ((first|refine kLa ?_|refine kLb ?_|refine kCa rfl ?_|refine kCb ?_|refine kCc ?_|refine kCd ?_|refine kCe ?_|refine kCf ?_|refine kCg ?_|refine kCh ?_|refine kCi ?_|refine kCj ?_|refine kQa ?_|refine kQb ?_|refine kGa ?_|refine kGb ?_|refine kHa ?_|refine kHb ?_); (conv => whnf))))
  ((repeat ((first|refine kLa ?_|refine kLb ?_|refine kCa rfl ?_|refine kCb ?_|refine kCc ?_|refine kCd ?_|refine kCe ?_|refine kCf ?_|refine kCg ?_|refine kCh ?_|refine kCi ?_|refine kCj ?_|refine kQa ?_|refine kQb ?_|refine kGa ?_|refine kGb ?_|refine kHa ?_|refine kHb ?_|refine kPa ?_|refine kPb ?_|refine kPc ?_|refine kEa ?_|refine kEb ?_|refine kBa ?_|refine kBb ?_|refine kBc (by omega) ?_|refine kBd (by omega) ?_|refine kBe (by omega) ?_|refine kBf (by omega) ?_|refine kRa ?_|refine kRb ?_|refine VRead.fld ?_|refine VRead.load1 (by assumption) ?_|refine VRead.load (by assumption) ?_|refine kRf ?_|refine kRg ?_|refine kRh ?_|refine kRi ?_|refine kBe rfl ?_|refine kBc rfl ?_|refine kWa (by omega) (by omega) ?_|refine kWb (by omega) (by omega) ?_|refine kRj (by omega) ?_|refine kRk ?_|refine VSem.convI ?_|refine VRead.convI ?_|refine VRead.rem (by omega) (by decide) ?_|refine VRead.neg ?_|refine VC.seq ?_); (conv => whnf))))
  refine VSem.buildR (ps := [(0, encStr s), (1, encStr t)]) rfl rfl (by simp [encStr, Value.oneCell']) (by omega) ?_
  intro W2 hr2 hB2 hz2
  have h2 := h1.below hB2 (Nat.le_refl _)
  have hO2 := hO1.trans (Out.new hB2)
  ((conv => whnf); (repeat ((first|refine kLa ?_|refine kLb ?_|refine kCa rfl ?_|refine kCb ?_|refine kCc ?_|refine kCd ?_|refine kCe ?_|refine kCf ?_|refine kCg ?_|refine kCh ?_|refine kCi ?_|refine kCj ?_|refine kQa ?_|refine kQb ?_|refine kGa ?_|refine kGb ?_|refine kHa ?_|refine kHb ?_); (conv => whnf))))
  ((repeat ((first|refine kLa ?_|refine kLb ?_|refine kCa rfl ?_|refine kCb ?_|refine kCc ?_|refine kCd ?_|refine kCe ?_|refine kCf ?_|refine kCg ?_|refine kCh ?_|refine kCi ?_|refine kCj ?_|refine kQa ?_|refine kQb ?_|refine kGa ?_|refine kGb ?_|refine kHa ?_|refine kHb ?_|refine kPa ?_|refine kPb ?_|refine kPc ?_|refine kEa ?_|refine kEb ?_|refine kBa ?_|refine kBb ?_|refine kBc (by omega) ?_|refine kBd (by omega) ?_|refine kBe (by omega) ?_|refine kBf (by omega) ?_|refine kRa ?_|refine kRb ?_|refine VRead.fld ?_|refine VRead.load1 (by assumption) ?_|refine VRead.load (by assumption) ?_|refine kRf ?_|refine kRg ?_|refine kRh ?_|refine kRi ?_|refine kBe rfl ?_|refine kBc rfl ?_|refine kWa (by omega) (by omega) ?_|refine kWb (by omega) (by omega) ?_|refine kRj (by omega) ?_|refine kRk ?_|refine VSem.convI ?_|refine VRead.convI ?_|refine VRead.rem (by omega) (by decide) ?_|refine VRead.neg ?_|refine VC.seq ?_); (conv => whnf))))
  refine VCall.of (dNamed_any W2 _ 2 2 _ [s, t] (Reads.of_own hr2) (by omega)) ?_
  rintro e W2' ⟨rfl, eW⟩
  obtain rfl := eW.symm
  refine ⟨_, rfl, ?_⟩
  by_cases hnn : nameOk s ∧ nameOk t
  case neg =>
    rw [decide_eq_false (show ¬ ∀ x ∈ [s, t], nameOk x by simpa using hnn)]
    have ea : S.rename s t = (1, ⟨K1, S.t⟩) := by unfold DS.rename; rw [hK, if_neg (by simp), if_pos hnn]
    ((conv => whnf); (repeat ((first|refine kLa ?_|refine kLb ?_|refine kCa rfl ?_|refine kCb ?_|refine kCc ?_|refine kCd ?_|refine kCe ?_|refine kCf ?_|refine kCg ?_|refine kCh ?_|refine kCi ?_|refine kCj ?_|refine kQa ?_|refine kQb ?_|refine kGa ?_|refine kGb ?_|refine kHa ?_|refine kHb ?_); (conv => whnf))))
    ((repeat ((first|refine kLa ?_|refine kLb ?_|refine kCa rfl ?_|refine kCb ?_|refine kCc ?_|refine kCd ?_|refine kCe ?_|refine kCf ?_|refine kCg ?_|refine kCh ?_|refine kCi ?_|refine kCj ?_|refine kQa ?_|refine kQb ?_|refine kGa ?_|refine kGb ?_|refine kHa ?_|refine kHb ?_|refine kPa ?_|refine kPb ?_|refine kPc ?_|refine kEa ?_|refine kEb ?_|refine kBa ?_|refine kBb ?_|refine kBc (by omega) ?_|refine kBd (by omega) ?_|refine kBe (by omega) ?_|refine kBf (by omega) ?_|refine kRa ?_|refine kRb ?_|refine VRead.fld ?_|refine VRead.load1 (by assumption) ?_|refine VRead.load (by assumption) ?_|refine kRf ?_|refine kRg ?_|refine kRh ?_|refine kRi ?_|refine kBe rfl ?_|refine kBc rfl ?_|refine kWa (by omega) (by omega) ?_|refine kWb (by omega) (by omega) ?_|refine kRj (by omega) ?_|refine kRk ?_|refine VSem.convI ?_|refine VRead.convI ?_|refine VRead.rem (by omega) (by decide) ?_|refine VRead.neg ?_|refine VC.seq ?_); (conv => whnf))))
    exact ⟨retE ea, fin ea h2 (by omega) hpl, hO2⟩
  rw [decide_eq_true (show ∀ x ∈ [s, t], nameOk x by simpa using hnn)]
  ((conv => whnf); (repeat ((first|refine kLa ?_|refine kLb ?_|refine kCa rfl ?_|refine kCb ?_|refine kCc ?_|refine kCd ?_|refine kCe ?_|refine kCf ?_|refine kCg ?_|refine kCh ?_|refine kCi ?_|refine kCj ?_|refine kQa ?_|refine kQb ?_|refine kGa ?_|refine kGb ?_|refine kHa ?_|refine kHb ?_); (conv => whnf))))
  ((repeat ((first|refine kLa ?_|refine kLb ?_|refine kCa rfl ?_|refine kCb ?_|refine kCc ?_|refine kCd ?_|refine kCe ?_|refine kCf ?_|refine kCg ?_|refine kCh ?_|refine kCi ?_|refine kCj ?_|refine kQa ?_|refine kQb ?_|refine kGa ?_|refine kGb ?_|refine kHa ?_|refine kHb ?_|refine kPa ?_|refine kPb ?_|refine kPc ?_|refine kEa ?_|refine kEb ?_|refine kBa ?_|refine kBb ?_|refine kBc (by omega) ?_|refine kBd (by omega) ?_|refine kBe (by omega) ?_|refine kBf (by omega) ?_|refine kRa ?_|refine kRb ?_|refine VRead.fld ?_|refine VRead.load1 (by assumption) ?_|refine VRead.load (by assumption) ?_|refine kRf ?_|refine kRg ?_|refine kRh ?_|refine kRi ?_|refine kBe rfl ?_|refine kBc rfl ?_|refine kWa (by omega) (by omega) ?_|refine kWb (by omega) (by omega) ?_|refine kRj (by omega) ?_|refine kRk ?_|refine VSem.convI ?_|refine VRead.convI ?_|refine VRead.rem (by omega) (by decide) ?_|refine VRead.neg ?_|refine VC.seq ?_); (conv => whnf))))
  refine VCall.of (dFind_at W2 U d m c _ L s h2) ?_
  rintro e W3 ⟨rfl, hB3⟩
  refine ⟨_, rfl, ?_⟩
  have h3 := h2.below hB3 (Nat.le_refl _)
  have hO3 := hO2.trans (Out.new hB3)
  have hn := hnn.1
  cases hf : tfind L s with
  | none =>
    rw [findR_none hn hf]
    have ea : S.rename s t = (3, ⟨K1, S.t⟩) := by unfold DS.rename; rw [hK, if_neg (by simp), if_neg (not_not_intro hnn), hfe, hf]; rfl
    ((conv => whnf); (repeat ((first|refine kLa ?_|refine kLb ?_|refine kCa rfl ?_|refine kCb ?_|refine kCc ?_|refine kCd ?_|refine kCe ?_|refine kCf ?_|refine kCg ?_|refine kCh ?_|refine kCi ?_|refine kCj ?_|refine kQa ?_|refine kQb ?_|refine kGa ?_|refine kGb ?_|refine kHa ?_|refine kHb ?_); (conv => whnf))))
    ((repeat ((first|refine kLa ?_|refine kLb ?_|refine kCa rfl ?_|refine kCb ?_|refine kCc ?_|refine kCd ?_|refine kCe ?_|refine kCf ?_|refine kCg ?_|refine kCh ?_|refine kCi ?_|refine kCj ?_|refine kQa ?_|refine kQb ?_|refine kGa ?_|refine kGb ?_|refine kHa ?_|refine kHb ?_|refine kPa ?_|refine kPb ?_|refine kPc ?_|refine kEa ?_|refine kEb ?_|refine kBa ?_|refine kBb ?_|refine kBc (by omega) ?_|refine kBd (by omega) ?_|refine kBe (by omega) ?_|refine kBf (by omega) ?_|refine kRa ?_|refine kRb ?_|refine VRead.fld ?_|refine VRead.load1 (by assumption) ?_|refine VRead.load (by assumption) ?_|refine kRf ?_|refine kRg ?_|refine kRh ?_|refine kRi ?_|refine kBe rfl ?_|refine kBc rfl ?_|refine kWa (by omega) (by omega) ?_|refine kWb (by omega) (by omega) ?_|refine kRj (by omega) ?_|refine kRk ?_|refine VSem.convI ?_|refine VRead.convI ?_|refine VRead.rem (by omega) (by decide) ?_|refine VRead.neg ?_|refine VC.seq ?_); (conv => whnf))))
    exact ⟨retE ea, fin ea h3 (by omega) hpl, hO3⟩
  | some p =>
    obtain ⟨g, f⟩ := p
    rw [findR_some hn hf]
    have ea : S.rename s t = (0, ⟨K1, tset (tdel S.t s) t f⟩) := by unfold DS.rename; rw [hK, if_neg (by simp), if_neg (not_not_intro hnn), hfe, hf]; rfl
    have hb3 := h3.blk
    have hmem := tfind_mem hf
    ((conv => whnf); (repeat ((first|refine kLa ?_|refine kLb ?_|refine kCa rfl ?_|refine kCb ?_|refine kCc ?_|refine kCd ?_|refine kCe ?_|refine kCf ?_|refine kCg ?_|refine kCh ?_|refine kCi ?_|refine kCj ?_|refine kQa ?_|refine kQb ?_|refine kGa ?_|refine kGb ?_|refine kHa ?_|refine kHb ?_); (conv => whnf))))
    (repeat (first | ((first|refine kLa ?_|refine kLb ?_|refine kCa rfl ?_|refine kCb ?_|refine kCc ?_|refine kCd ?_|refine kCe ?_|refine kCf ?_|refine kCg ?_|refine kCh ?_|refine kCi ?_|refine kCj ?_|refine kQa ?_|refine kQb ?_|refine kGa ?_|refine kGb ?_|refine kHa ?_|refine kHb ?_|refine kPa ?_|refine kPb ?_|refine kPc ?_|refine kEa ?_|refine kEb ?_|refine kBa ?_|refine kBb ?_|refine kBc (by omega) ?_|refine kBd (by omega) ?_|refine kBe (by omega) ?_|refine kBf (by omega) ?_|refine kRa ?_|refine kRb ?_|refine VRead.fld ?_|refine VRead.load1 (by assumption) ?_|refine VRead.load (by assumption) ?_|refine kRf ?_|refine kRg ?_|refine kRh ?_|refine kRi ?_|refine kBe rfl ?_|refine kBc rfl ?_|refine kWa (by omega) (by omega) ?_|refine kWb (by omega) (by omega) ?_|refine kRj (by omega) ?_|refine kRk ?_|refine VSem.convI ?_|refine VRead.convI ?_|refine VRead.rem (by omega) (by decide) ?_|refine VRead.neg ?_|refine VC.seq ?_); (conv => whnf)) | (refine VRead.loadB hb3 rfl rfl ?_; (conv => whnf))))
    refine VNext.del rfl (VSem.dDel h3.map h3.ris hf hs ?_)
    intro W4 hM4 hg4
    have h4 := h3.del hM4 hg4
    have hb4 := h4.blk
    have hF4 := (h3.fl _ hmem).map h3.map hg4
    ((conv => whnf); (repeat ((first|refine kLa ?_|refine kLb ?_|refine kCa rfl ?_|refine kCb ?_|refine kCc ?_|refine kCd ?_|refine kCe ?_|refine kCf ?_|refine kCg ?_|refine kCh ?_|refine kCi ?_|refine kCj ?_|refine kQa ?_|refine kQb ?_|refine kGa ?_|refine kGb ?_|refine kHa ?_|refine kHb ?_); (conv => whnf))))
    (repeat (first | ((first|refine kLa ?_|refine kLb ?_|refine kCa rfl ?_|refine kCb ?_|refine kCc ?_|refine kCd ?_|refine kCe ?_|refine kCf ?_|refine kCg ?_|refine kCh ?_|refine kCi ?_|refine kCj ?_|refine kQa ?_|refine kQb ?_|refine kGa ?_|refine kGb ?_|refine kHa ?_|refine kHb ?_|refine kPa ?_|refine kPb ?_|refine kPc ?_|refine kEa ?_|refine kEb ?_|refine kBa ?_|refine kBb ?_|refine kBc (by omega) ?_|refine kBd (by omega) ?_|refine kBe (by omega) ?_|refine kBf (by omega) ?_|refine kRa ?_|refine kRb ?_|refine VRead.fld ?_|refine VRead.load1 (by assumption) ?_|refine VRead.load (by assumption) ?_|refine kRf ?_|refine kRg ?_|refine kRh ?_|refine kRi ?_|refine kBe rfl ?_|refine kBc rfl ?_|refine kWa (by omega) (by omega) ?_|refine kWb (by omega) (by omega) ?_|refine kRj (by omega) ?_|refine kRk ?_|refine VSem.convI ?_|refine VRead.convI ?_|refine VRead.rem (by omega) (by decide) ?_|refine VRead.neg ?_|refine VC.seq ?_); (conv => whnf)) | (refine VRead.loadB hb4 rfl rfl ?_; (conv => whnf))))
    refine VUnit.dSet (p := (g, f)) h4.map h4.ris (by omega) ht ?_
    intro W5 hM5 hg5
    have h5 := h4.set hM5 hg5 (hF4.map h4.map hg5) (fun p hp e => (mem_tdel (mem_tdel hp).1).2 (congrArg (·.1) (nd_inj h3.nd (mem_tdel (mem_tdel hp).1).1 hmem e)))
    ((conv => whnf); (repeat ((first|refine kLa ?_|refine kLb ?_|refine kCa rfl ?_|refine kCb ?_|refine kCc ?_|refine kCd ?_|refine kCe ?_|refine kCf ?_|refine kCg ?_|refine kCh ?_|refine kCi ?_|refine kCj ?_|refine kQa ?_|refine kQb ?_|refine kGa ?_|refine kGb ?_|refine kHa ?_|refine kHb ?_); (conv => whnf))))
    ((repeat ((first|refine kLa ?_|refine kLb ?_|refine kCa rfl ?_|refine kCb ?_|refine kCc ?_|refine kCd ?_|refine kCe ?_|refine kCf ?_|refine kCg ?_|refine kCh ?_|refine kCi ?_|refine kCj ?_|refine kQa ?_|refine kQb ?_|refine kGa ?_|refine kGb ?_|refine kHa ?_|refine kHb ?_|refine kPa ?_|refine kPb ?_|refine kPc ?_|refine kEa ?_|refine kEb ?_|refine kBa ?_|refine kBb ?_|refine kBc (by omega) ?_|refine kBd (by omega) ?_|refine kBe (by omega) ?_|refine kBf (by omega) ?_|refine kRa ?_|refine kRb ?_|refine VRead.fld ?_|refine VRead.load1 (by assumption) ?_|refine VRead.load (by assumption) ?_|refine kRf ?_|refine kRg ?_|refine kRh ?_|refine kRi ?_|refine kBe rfl ?_|refine kBc rfl ?_|refine kWa (by omega) (by omega) ?_|refine kWb (by omega) (by omega) ?_|refine kRj (by omega) ?_|refine kRk ?_|refine VSem.convI ?_|refine VRead.convI ?_|refine VRead.rem (by omega) (by decide) ?_|refine VRead.neg ?_|refine VC.seq ?_); (conv => whnf))))
    exact ⟨retE ea, fin ea h5 (Nat.le_refl _) (by show tmap _ (tset (tdel L s) t _) = _; rw [tmap_set, tmap_del]; show tset (tdel (plain L) s) t _ = _; rw [hpl]), (hO3.trans (Out.grown hg4 h3.hm)).trans (Out.grown hg5 h4.hm)⟩
end Go.Proofs.Ytebeidnmplnlpaa
end

section
namespace Go.Proofs.Ytebeidnmplnlpaa
set_option linter.unusedVariables false
open Go.RowKit

section
variable {P : Program} {ops : Array Oper} {Q : Exit → Act → World → Prop} {md : Region.Mode} {S : World → Prop} {c : Nat}
/-- what is listed has what it waits for listed -/
def Down (md : Region.Mode) (ops : Array Oper) (L : Array Bool) : Prop := ∀ j oj, ops[j]? = some oj → L.getD j false = true → ∀ e ∈ oj.after, Region.binds md e = true → L.getD e.on false = true
/-- every operation but the last is waited for by a later one -/
def feeds (md : Region.Mode) (ops : Array Oper) (c : Nat) : Bool := Nat.beq ops.size (c + 1) && (List.range c).all fun i => (List.range (c + 1)).any fun k => Nat.blt i k && match ops[k]? with
  | some o => o.after.any fun e => Region.binds md e && Nat.beq e.on i
  | none => false
theorem Down.set {L : Array Bool} {j : Nat} (h : Down md ops L) (hj : j ∈ Region.ready md ops L) : Down md ops (L.setIfInBounds j true) := by
  intro k ok hk hl e he hb
  obtain ⟨h0, o, ho, hall⟩ := mem_ready.1 hj
  by_cases hkj : k = j
  · subst hkj
    rw [ho] at hk
    obtain rfl := Option.some.inj hk
    exact getD_set_true (hall e he hb)
  · rw [getD_set_ne false (Ne.symm hkj)] at hl
    exact getD_set_true (h k ok hk hl e he hb)
theorem Down.start (n : Nat) : Down md ops (Array.replicate n false) := by
  intro j oj hj hl
  exfalso
  rcases Nat.lt_or_ge j n with h | h
  · simp [h] at hl
  · simp [Array.getElem?_eq_none (xs := Array.replicate n false) (by simpa using h)] at hl
theorem feeds_spec (hf : feeds md ops c = true) : ops.size = c + 1 ∧ ∀ i, i < c → ∃ k o e, i < k ∧ k ≤ c ∧ ops[k]? = some o ∧ e ∈ o.after ∧ Region.binds md e = true ∧ e.on = i := by
  unfold feeds at hf
  simp only [Bool.and_eq_true, List.all_eq_true, List.mem_range] at hf
  refine ⟨Nat.eq_of_beq_eq_true hf.1, fun i hi => ?_⟩
  have h1 := hf.2 i hi
  simp only [List.any_eq_true, List.mem_range, Bool.and_eq_true] at h1
  obtain ⟨k, hk, h2, h3⟩ := h1
  cases ho : ops[k]? with
  | none => rw [ho] at h3; cases h3
  | some o =>
    rw [ho] at h3
    obtain ⟨e, he, h4⟩ := Array.any_eq_true'.1 h3
    simp only [Bool.and_eq_true] at h4
    exact ⟨k, o, e, Nat.blt_eq ▸ h2, by omega, ho, he, h4.1, Nat.eq_of_beq_eq_true h4.2⟩
theorem ready_last {L : Array Bool} (hd : Down md ops L) (hf : feeds md ops c = true) (hc : c ∈ Region.ready md ops L) : ∀ (d i : Nat), c - i ≤ d → i < c → L.getD i false = true := by
  intro d
  induction d with
  | zero => intro i h1 h2; omega
  | succ d ih =>
    intro i h1 h2
    obtain ⟨k, o, e, hk, hkc, ho, he, hb, rfl⟩ := (feeds_spec hf).2 i h2
    by_cases hke : k = c
    · subst hke
      obtain ⟨_, o', ho', hall⟩ := mem_ready.1 hc
      rw [ho] at ho'
      obtain rfl := Option.some.inj ho'
      exact hall e he hb
    · exact hd k o ho (ih k (by omega) (by omega)) e he hb
/-- whatever order: S holds till the last operation -/
def wpAnyC (P : Program) (md : Region.Mode) (ops : Array Oper) (Q : Exit → Act → World → Prop) (S : World → Prop) (c : Nat) : Nat → Array Bool → Act → World → Prop
  | 0, listed, a, w => Region.ready md ops listed = [] ∧ Q .normal a w
  | fuel + 1, listed, a, w =>
    (Region.ready md ops listed = [] → Q .normal a w) ∧
    ∀ i ∈ Region.ready md ops listed, wpOp P ops Q i (fun a' w' => (i ≠ c → S w') ∧ wpAnyC P md ops Q S c fuel (listed.setIfInBounds i true) a' w') a w
theorem wpAny_ofC : ∀ (fuel : Nat) (listed : Array Bool) (a : Act) (w : World), wpAnyC P md ops Q S c fuel listed a w → wpAny P md ops Q fuel listed a w
  | 0, _, _, _, h => h
  | fuel + 1, _, _, _, h => ⟨h.1, fun i hi => wpOp_mono (fun a' w' h' => wpAny_ofC fuel _ a' w' h'.2) (h.2 i hi)⟩
theorem wpAnyC_first {i : Nat} {oi : Oper} {v : Value} (hi : ops[i]? = some oi) (hic : i < c) (hf : feeds md ops c = true) (hsel : ∀ (j : Nat) (o : Oper) cs b, ops[j]? = some o → o.op ≠ .select cs b)
    (hQ : ∀ x a w, Q (.panic x) (a.put oi.dst v) w → Q (.panic x) a w) :
    ∀ (fuel : Nat) (listed : Array Bool) (a : Act) (w : World), Down md ops listed →
      (∀ j oj, ops[j]? = some oj → j ≠ i → listed.getD j true = false → (∀ e ∈ oj.after, Region.binds md e = true → e.on ≠ i) → oi.apart ops oj = true) →
      i ∈ Region.ready md ops listed → YieldsIf P ops S oi v a → S w →
      wpAnyC P md ops Q S c fuel (listed.setIfInBounds i true) (a.put oi.dst v) w → wpAnyC P md ops Q S c (fuel + 1) listed a w := by
  intro fuel
  induction fuel with
  | zero =>
    intro listed a w _ _ hr hy hS H
    refine ⟨fun h => (by rw [h] at hr; cases hr), fun j hj => ?_⟩
    by_cases hji : j = i
    · subst hji; exact hy.wpOp hi hS ⟨fun _ => hS, H⟩
    · have := ready_mono hj hji
      rw [H.1] at this
      cases this
  | succ fuel ih =>
    intro listed a w hD hfree hr hy hS H
    refine ⟨fun h => (by rw [h] at hr; cases hr), fun j hj => ?_⟩
    by_cases hji : j = i
    · subst hji; exact hy.wpOp hi hS ⟨fun _ => hS, H⟩
    · have h0 := (mem_ready.1 hr).1
      have hun : listed.getD i false = true → False := fun h1 => by
        rcases Nat.lt_or_ge i listed.size with h' | h'
        · simp [h'] at h0 h1; rw [h0] at h1; cases h1
        · simp [Array.getElem?_eq_none h'] at h1
      have hjc : j ≠ c := fun e => by
        subst e
        exact hun (ready_last hD hf hj (j - i) i (Nat.le_refl _) hic)
      have h1 := H.2 j (ready_mono hj hji)
      obtain ⟨hjun, oj, hoj, hall⟩ := mem_ready.1 hj
      have hnot : ∀ e ∈ oj.after, Region.binds md e = true → e.on ≠ i := fun e he hb heq => hun (by rw [← heq]; exact hall e he hb)
      have h2 := wpOp_putIf hoj (hfree j oj hoj hji hjun hnot) (fun cs b => hsel i oi cs b hi) (fun cs b => hsel j oj cs b hoj) hQ hy h1
      have hfree' : ∀ k ok, ops[k]? = some ok → k ≠ i → (listed.setIfInBounds j true).getD k true = false →
          (∀ e ∈ ok.after, Region.binds md e = true → e.on ≠ i) → oi.apart ops ok = true := fun k ok hk hki hkun hno => by
        refine hfree k ok hk hki ?_ hno
        by_cases hjk : j = k
        · subst hjk; exact hjun
        · rw [getD_set_ne true hjk] at hkun; exact hkun
      refine wpOp_mono (fun a' w' h3 => ⟨h3.2.1, ih (listed.setIfInBounds j true) a' w' (hD.set hj) hfree' (ready_mono hr (Ne.symm hji)) h3.1 (h3.2.1 hjc) ?_⟩) h2
      rw [Array.setIfInBounds_comm _ _ hji]
      exact h3.2.2
end
theorem quiet_takeC {P : Program} {n : Nat} {ds : List Deferred} {ops : List Oper} {md : Region.Mode} {Q : Exit → Act → World → Prop} {S : World → Prop} {D : List Nat} {σ0 : Env} {c : Nat} (hf : feeds md ops.toArray c = true) (hdst : ∀ o ∈ ops, ∀ t, o.dst = some t → t < n ∧ t ∈ D) (hs : Region.noSelect ops.toArray = true)
    (hQ : ∀ x a a' w, Q (.panic x) a w → Q (.panic x) a' w) {w : World} (hS : S w) {K : Env → Prop} {L' : Array Bool} {fuel : Nat} (hR : ∀ a σ, Agr n ds a σ → Fr D σ σ0 → K σ → wpAnyC P md ops.toArray Q S c fuel L' a w) :
    ∀ (l : List Nat) (L : Array Bool) (a : Act) (σ : Env), Down md ops.toArray L → (l.all fun i => Nat.blt i c) = true → takeC md ops.toArray l L = some L' → Agr n ds a σ → Fr D σ σ0 → vquiet P S ops K (picks ops l) σ → wpAnyC P md ops.toArray Q S c (fuel + l.length) L a w
  | [], L, a, σ, hD, hl, hB, hA, hF, h => by
    simp only [takeC, Option.some.injEq] at hB
    subst hB
    exact hR a σ hA hF h
  | i :: r, L, a, σ, hD, hl, hB, hA, hF, h => by
    unfold takeC at hB
    simp only [List.all_cons, Bool.and_eq_true] at hl
    split at hB
    · rename_i hc
      simp only [Bool.and_eq_true] at hc
      obtain ⟨⟨h1, h2⟩, h3⟩ := hc
      cases ho : ops[i]? with
      | none => simp [ho] at h3
      | some o =>
        unfold picks at h
        rw [nthOp_eq, ho] at h
        simp only [vquiet] at h
        have hm : o ∈ ops := List.mem_of_getElem? ho
        rw [show fuel + (i :: r).length = (fuel + r.length) + 1 from by simp; omega]
        have ho' : ops.toArray[i]? = some o := by simpa using ho
        have hic : i < c := Nat.blt_eq ▸ hl.1
        have hr : i ∈ Region.ready md ops.toArray L := by simpa using h2
        rcases vguard_sound hA h with ⟨k1, k2⟩ | ⟨k1, k2⟩
        · obtain ⟨v, v1, v2⟩ := vread_sound k2
          refine wpAnyC_first ho' hic hf (Region.noSelect_spec hs) (fun x a w => hQ x _ _ w) _ L a w hD (Region.free_spec ho' h1) hr (.inl ⟨k1, fun W hW => ?_⟩) hS (quiet_takeC hf hdst hs hQ hS hR r _ _ _ (hD.set hr) hl.2 hB (hA.put (fun t ht => (hdst o hm t ht).1) v) (hF.put (fun t ht => (hdst o hm t ht).2) v) v2)
          rw [hA.eval]
          exact v1 W hW
        · exact wpAnyC_first ho' hic hf (Region.noSelect_spec hs) (fun x a w => hQ x _ _ w) _ L a w hD (Region.free_spec ho' h1) hr (.inr ⟨k1, rfl⟩) hS (quiet_takeC hf hdst hs hQ hS hR r _ _ _ (hD.set hr) hl.2 hB (hA.put (fun t ht => (hdst o hm t ht).1) undef) (hF.put (fun t ht => (hdst o hm t ht).2) undef) k2)
    · cases hB
/-- all but the last are read, in one world; then the last one -/
def lastB (n : Nat) (ops : List Oper) (l : List Nat) (c : Nat) : Bool :=
  Region.noSelect ops.toArray && feeds .any ops.toArray c && (l.all fun i => Nat.blt i c) && segC .any ops.toArray [(l, c)] [] (Array.replicate ops.length false) && Nat.beq (l.length + 1) ops.length && ops.all fun o => match o.dst with | some d => Nat.blt d n | none => true
theorem VDraw.last {P : Program} {n : Nat} {ops : List Oper} {Q : Post} {σ : Env} {w : World} (l : List Nat) (c : Nat) (hm : P.follows .mixedOrders = true) (hB : lastB n ops l c = true)
    (h : VQ P (Eq (w.drewN 1)) ops (fun σ' => vone P (fun _ => True) ops (fun σ2 w2 => Q .normal σ2 w2) (nthOp ops c) σ' (w.drewN 1)) (picks ops l) σ) : VDraw P n ops Q σ w := by
  replace h := h.out
  unfold lastB at hB
  simp only [Bool.and_eq_true] at hB
  obtain ⟨⟨⟨⟨⟨h1, h2⟩, h3⟩, h4⟩, h5⟩, h6⟩ := hB
  have hlen := Nat.eq_of_beq_eq_true h5
  have hdst : ∀ o ∈ ops, ∀ t, o.dst = some t → t < n ∧ t ∈ dsts ops := fun o ho t ht => ⟨by
    have := List.all_eq_true.1 h6 o ho
    rw [ht] at this
    exact Nat.blt_eq ▸ this, mem_dsts ho ht⟩
  simp only [VDraw_eq]
  intro ds a id hA
  refine wp_region_any hm (wpAny_ofC (S := Eq (w.drewN 1)) (c := c) _ _ _ _ ?_)
  rw [show ops.toArray.size = ops.length from by simp]
  unfold segC at h4
  cases hT : takeC .any ops.toArray l (Array.replicate ops.length false) with
  | none => rw [hT] at h4; cases h4
  | some L' =>
    rw [hT] at h4
    simp only [Bool.and_eq_true, beq_iff_eq] at h4
    obtain ⟨⟨k1, k2⟩, k3⟩ := h4
    have := quiet_takeC (md := .any) (Q := Lift n ds Q (dsts ops) σ) (S := Eq (w.drewN 1)) (w := w.drewN 1) (fuel := 1) (σ0 := σ) h2 hdst h1 (fun c a a' w h => h) rfl (fun a σ' hA hF ha => ?_) l _ a σ (Down.start _) h3 hT hA (Fr.refl _ _) h
    · rw [show 1 + l.length = ops.toArray.size from by simp; omega] at this
      rw [show ops.toArray.size = ops.length from by simp] at this
      exact this
    · refine ⟨fun h0 => absurd (k1 ▸ h0) (by simp), fun i hi => ?_⟩
      rw [k1] at hi
      simp only [List.mem_singleton] at hi
      subst hi
      rw [nthOp_eq] at ha
      cases ho : ops[i]? with
      | none => rw [ho] at ha; exact ha.elim
      | some o =>
        rw [ho] at ha
        simp only [vone] at ha
        have hmo : o ∈ ops := List.mem_of_getElem? ho
        have k4 : Region.ready .any ops.toArray (L'.setIfInBounds i true) = [] := by
          unfold segC takeC at k3
          simpa [List.isEmpty_iff] using k3
        unfold wpOp
        rw [show ops.toArray[i]? = some o from by simpa using ho]
        simp only
        rcases vguard_sound hA ha with ⟨j1, j2⟩ | ⟨j1, j2⟩
        · rw [if_pos j1]
          exact .inl (vop_sound hA j2 fun v w' hk => ⟨fun h => absurd rfl h, k4, ⟨_, hA.put (fun t ht => (hdst o hmo t ht).1) v, hF.put (fun t ht => (hdst o hmo t ht).2) v, hk.rest⟩⟩)
        · rw [if_neg (by rw [j1]; simp)]
          exact ⟨fun h => absurd rfl h, k4, ⟨_, hA.put (fun t ht => (hdst o hmo t ht).1) undef, hF.put (fun t ht => (hdst o hmo t ht).2) undef, j2⟩⟩
end Go.Proofs.Ytebeidnmplnlpaa
end

section
set_option maxRecDepth 10000
namespace Go.Proofs.Ytebeidnmplnlpaa
set_option linter.unusedVariables false
open Go.RowKit
open Go.Maps (Keyed)
open Go.ChangeMaps Go.WideElems

/-- what lies off the footprint -/
def Off (U : Foot) (A : Option Addr) (n : Nat) : Prop := 0 < n → ∃ ad, A = some ad ∧ ¬ U ad.block
theorem Reads.out {W W' : World} {U : Foot} {B s n : Nat} {A : Option Addr} {l : List Value} (h : Reads W B s A n l) (hB : B ≤ W.heap.size) (hp : Off U A n) (ho : Out U W W') : Reads W' B s A n l := by
  refine ⟨h.1, fun hm => ?_⟩
  obtain ⟨ad, rfl, h3, h4⟩ := h.2 hm
  obtain ⟨ad', e, hu⟩ := hp hm
  obtain rfl := Option.some.inj e
  refine ⟨_, rfl, h3, fun j u hj => ?_⟩
  rw [← h4 j u hj]
  exact World.cell?_of_block (by rw [add_block]; exact ho.block _ (Nat.lt_of_lt_of_le h3 hB) hu)
theorem Off.mono {U V : Foot} {A : Option Addr} {n : Nat} (h : Off U A n) (hV : ∀ j, V j → U j) : Off V A n := fun h0 => by
  obtain ⟨ad, e, h1⟩ := h h0
  exact ⟨ad, e, fun hv => h1 (hV _ hv)⟩
theorem Off.row {W : World} {U : Foot} {B e s n c : Nat} {A : Option Addr} {xs : List Value} (h : W.ownsRow B e s (.slice A n c) n xs) (hU : ∀ j, B ≤ j → ¬ U j) : Off U A n := fun h0 => by
  rcases h.2 with ⟨_, h1⟩ | ⟨g, cap, cur, e, hg, _⟩
  · omega
  · injection e with e1 e2 e3
    exact ⟨_, e1, hU _ hg⟩


end Go.Proofs.Ytebeidnmplnlpaa
end

section
set_option maxRecDepth 10000
namespace Go.Proofs.Ytebeidnmplnlpaa
set_option linter.unusedVariables false
open Go.RowKit
open Go.Maps (Keyed)
open Go.ChangeMaps Go.WideElems

/-! ### names by numbers -/
/-! ### the document's example -/
end Go.Proofs.Ytebeidnmplnlpaa
end

section
set_option maxRecDepth 10000
namespace Go.Proofs.Ytebeidnmplnlpaa
set_option linter.unusedVariables false
open Go.RowKit

def k0 (room calls : Int) : Dk := ⟨room, calls, false, 0, 0, false⟩
section
variable {r c : Int} {T : PT} {s t l : List UInt8} {f : Fl}
theorem k0_call : (k0 r c).call = (0, k0 r (c + 1)) := rfl
theorem k0_create (hs : nameOk s) (hf : ¬ (tfind T s = none ∧ 64 ≤ T.length)) : DS.create ⟨k0 r c, T⟩ s = (0, ⟨k0 r (c + 1), tset T s ⟨[], 0⟩⟩) := by
  unfold DS.create
  rw [k0_call, if_neg (by simp), if_neg (not_not_intro hs), if_neg hf]
theorem k0_append (hs : nameOk s) (hf : tfind T s = some f) (hr : (used T : Int) + l.length ≤ r) : DS.append ⟨k0 r c, T⟩ s l = (0, ⟨k0 r (c + 1), tset T s ⟨f.b ++ l, f.sure⟩⟩) := by
  unfold DS.append
  rw [k0_call, if_neg (by simp), if_neg (not_not_intro hs)]
  simp only
  rw [hf]
  unfold DS.put
  exact if_neg (Int.not_lt.2 hr)
theorem k0_sync (hs : nameOk s) (hf : tfind T s = some f) : DS.sync ⟨k0 r c, T⟩ s = (0, ⟨k0 r (c + 1), tset T s ⟨f.b, f.b.length⟩⟩) := by
  unfold DS.sync
  rw [k0_call, if_neg (by simp), if_neg (not_not_intro hs)]
  simp only
  rw [hf]
theorem k0_rename (hs : nameOk s) (ht : nameOk t) (hf : tfind T s = some f) : DS.rename ⟨k0 r c, T⟩ s t = (0, ⟨k0 r (c + 1), tset (tdel T s) t f⟩) := by
  unfold DS.rename
  rw [k0_call, if_neg (by simp), if_neg (not_not_intro ⟨hs, ht⟩)]
  simp only
  rw [hf]
end
theorem new_k0 {room : Int} (h : 0 ≤ room) (h2 : room ≤ 16777216) : DS.new room = ⟨k0 room 0, []⟩ := by
  unfold DS.new Dk.new k0
  rw [show max 0 (min room 16777216) = room by omega]
end Go.Proofs.Ytebeidnmplnlpaa
end

section
namespace Go.Proofs.Ytebeidnmplnlpaa
set_option linter.unusedVariables false
open Go.RowKit

def vsegL (P : Program) (S : World → Prop) (ops : List Oper) (K : Env → World → Prop) : List (List Nat × Nat) → List Nat → Nat → Env → World → Prop
  | [], l, c, σ, w => vquiet P S ops (fun σ' => vone P (fun _ => True) ops K (nthOp ops c) σ' w) (picks ops l) σ
  | (l1, c1) :: r, l, c, σ, w => vquiet P S ops (fun σ' => vone P S ops (fun σ2 w2 => vsegL P S ops K r l c σ2 w2) (nthOp ops c1) σ' w) (picks ops l1) σ
theorem segL_sound {P : Program} {n : Nat} {ds : List Deferred} {ops : List Oper} {md : Region.Mode} {Q : Exit → Act → World → Prop} {S : World → Prop} {K : Env → World → Prop} {D : List Nat} {σ0 : Env} {l : List Nat} {c : Nat} (hf : feeds md ops.toArray c = true) (hdst : ∀ o ∈ ops, ∀ t, o.dst = some t → t < n ∧ t ∈ D) (hs : Region.noSelect ops.toArray = true)
    (hQ : ∀ x a a' w, Q (.panic x) a w → Q (.panic x) a' w) (hK : ∀ a σ w, Agr n ds a σ → Fr D σ σ0 → K σ w → Q .normal a w) (hl : (l.all fun i => Nat.blt i c) = true) :
    ∀ (segs : List (List Nat × Nat)) (L : Array Bool) (a : Act) (σ : Env) (w : World), (segs.all fun p => (p.1.all fun i => Nat.blt i c) && Nat.blt p.2 c) = true → Down md ops.toArray L → S w → segC md ops.toArray (segs ++ [(l, c)]) [] L = true → Agr n ds a σ → Fr D σ σ0 → vsegL P S ops K segs l c σ w →
      wpAnyC P md ops.toArray Q S c (segLn (segs ++ [(l, c)]) []) L a w
  | [], L, a, σ, w, hb, hD, hS, hB, hA, hF, h => by
    rw [List.nil_append] at hB ⊢
    unfold segC at hB
    cases hT : takeC md ops.toArray l L with
    | none => rw [hT] at hB; cases hB
    | some L' =>
      rw [hT] at hB
      simp only [Bool.and_eq_true, beq_iff_eq] at hB
      obtain ⟨⟨k1, k2⟩, k3⟩ := hB
      unfold vsegL at h
      have := quiet_takeC (md := md) (Q := Q) (S := S) (w := w) (fuel := 1) (σ0 := σ0) hf hdst hs hQ hS (fun a σ' hA hF ha => ?_) l L a σ hD hl hT hA hF h
      · rw [show segLn [(l, c)] [] = 1 + l.length from by simp [segLn]; omega]
        exact this
      · refine ⟨fun h0 => absurd (k1 ▸ h0) (by simp), fun i hi => ?_⟩
        rw [k1] at hi
        simp only [List.mem_singleton] at hi
        subst hi
        rw [nthOp_eq] at ha
        cases ho : ops[i]? with
        | none => rw [ho] at ha; exact ha.elim
        | some o =>
          rw [ho] at ha
          simp only [vone] at ha
          have hmo : o ∈ ops := List.mem_of_getElem? ho
          have k4 : Region.ready md ops.toArray (L'.setIfInBounds i true) = [] := by
            unfold segC takeC at k3
            simpa [List.isEmpty_iff] using k3
          unfold wpOp
          rw [show ops.toArray[i]? = some o from by simpa using ho]
          simp only
          rcases vguard_sound hA ha with ⟨j1, j2⟩ | ⟨j1, j2⟩
          · rw [if_pos j1]
            exact .inl (vop_sound hA j2 fun v w' hk => ⟨fun h => absurd rfl h, k4, hK _ _ _ (hA.put (fun t ht => (hdst o hmo t ht).1) v) (hF.put (fun t ht => (hdst o hmo t ht).2) v) hk.rest⟩)
          · rw [if_neg (by rw [j1]; simp)]
            exact ⟨fun h => absurd rfl h, k4, hK _ _ _ (hA.put (fun t ht => (hdst o hmo t ht).1) undef) (hF.put (fun t ht => (hdst o hmo t ht).2) undef) j2⟩
  | (l1, c1) :: r, L, a, σ, w, hb, hD, hS, hB, hA, hF, h => by
    rw [List.cons_append] at hB ⊢
    simp only [List.all_cons, Bool.and_eq_true] at hb
    unfold segC at hB
    cases hT : takeC md ops.toArray l1 L with
    | none => rw [hT] at hB; cases hB
    | some L' =>
      rw [hT] at hB
      simp only [Bool.and_eq_true, beq_iff_eq] at hB
      obtain ⟨⟨k1, k2⟩, k3⟩ := hB
      unfold vsegL at h
      have hD' : ∀ (l : List Nat) (L L' : Array Bool), Down md ops.toArray L → takeC md ops.toArray l L = some L' → Down md ops.toArray L' := by
        intro l
        induction l with
        | nil => intro L L' h1 h2; simp only [takeC, Option.some.injEq] at h2; subst h2; exact h1
        | cons i r ih =>
          intro L L' h1 h2
          unfold takeC at h2
          split at h2
          · rename_i hc
            simp only [Bool.and_eq_true] at hc
            exact ih _ _ (h1.set (by simpa using hc.1.2)) h2
          · cases h2
      have hDL := hD' l1 L L' hD hT
      have := quiet_takeC (md := md) (Q := Q) (S := S) (w := w) (fuel := segLn (r ++ [(l, c)]) [] + 1) (σ0 := σ0) hf hdst hs hQ hS (fun a σ' hA hF ha => ?_) l1 L a σ hD hb.1.1 hT hA hF h
      · rw [show segLn ((l1, c1) :: (r ++ [(l, c)])) [] = segLn (r ++ [(l, c)]) [] + 1 + l1.length from by simp [segLn]; omega]
        exact this
      · refine ⟨fun h0 => absurd (k1 ▸ h0) (by simp), fun i hi => ?_⟩
        have hi0 := hi
        rw [k1] at hi
        simp only [List.mem_singleton] at hi
        subst hi
        rw [nthOp_eq] at ha
        cases ho : ops[i]? with
        | none => rw [ho] at ha; exact ha.elim
        | some o =>
          rw [ho] at ha
          simp only [vone] at ha
          have hmo : o ∈ ops := List.mem_of_getElem? ho
          unfold wpOp
          rw [show ops.toArray[i]? = some o from by simpa using ho]
          simp only
          rcases vguard_sound hA ha with ⟨j1, j2⟩ | ⟨j1, j2⟩
          · rw [if_pos j1]
            exact .inl (vop_sound hA j2 fun v w' hk => ⟨fun _ => hk.keep, segL_sound hf hdst hs hQ hK hl r _ _ _ w' hb.2 (hDL.set hi0) hk.keep k3 (hA.put (fun t ht => (hdst o hmo t ht).1) v) (hF.put (fun t ht => (hdst o hmo t ht).2) v) hk.rest⟩)
          · rw [if_neg (by rw [j1]; simp)]
            exact ⟨fun _ => hS, segL_sound hf hdst hs hQ hK hl r _ _ _ w hb.2 (hDL.set hi0) hS k3 (hA.put (fun t ht => (hdst o hmo t ht).1) undef) (hF.put (fun t ht => (hdst o hmo t ht).2) undef) j2⟩
def lastsB (n : Nat) (ops : List Oper) (segs : List (List Nat × Nat)) (l : List Nat) (c : Nat) : Bool :=
  Region.noSelect ops.toArray && feeds .any ops.toArray c && (l.all fun i => Nat.blt i c) && (segs.all fun p => (p.1.all fun i => Nat.blt i c) && Nat.blt p.2 c) && segC .any ops.toArray (segs ++ [(l, c)]) [] (Array.replicate ops.length false) && Nat.beq (segLn (segs ++ [(l, c)]) []) ops.length && ops.all fun o => match o.dst with | some d => Nat.blt d n | none => true
structure VE (P : Program) (S : World → Prop) (ops : List Oper) (K : Env → World → Prop) (segs : List (List Nat × Nat)) (l : List Nat) (c : Nat) (σ : Env) (w : World) : Prop where
  out : vsegL P S ops K segs l c σ w
theorem VE_fun (P : Program) (S : World → Prop) (ops : List Oper) (K : Env → World → Prop) (segs : List (List Nat × Nat)) (l : List Nat) (c : Nat) : VE P S ops K segs l c = vsegL P S ops K segs l c := by funext σ w; exact propext ⟨fun h => h.out, fun h => ⟨h⟩⟩
section
variable {P : Program} {S : World → Prop} {ops : List Oper} {K : Env → World → Prop} {l l1 : List Nat} {c c1 : Nat} {r : List (List Nat × Nat)} {σ : Env} {w : World}
theorem kEb (h : VQ P S ops (fun σ' => vone P (fun _ => True) ops K (nthOp ops c) σ' w) (picks ops l) σ) : VE P S ops K [] l c σ w := ⟨h.out⟩
theorem kEa (h : VQ P S ops (fun σ' => vone P S ops (fun σ2 w2 => VE P S ops K r l c σ2 w2) (nthOp ops c1) σ' w) (picks ops l1) σ) : VE P S ops K ((l1, c1) :: r) l c σ w := by
  refine ⟨?_⟩
  have h := h.out
  simp only [VE_fun] at h
  exact h
end
theorem VDraw.lasts {P : Program} {n : Nat} {ops : List Oper} {Q : Post} {σ : Env} {w : World} (S : World → Prop) (segs : List (List Nat × Nat)) (l : List Nat) (c : Nat) (hm : P.follows .mixedOrders = true) (hB : lastsB n ops segs l c = true)
    (hS : S (w.drewN 1)) (h : VE P S ops (fun σ2 w2 => Q .normal σ2 w2) segs l c σ (w.drewN 1)) : VDraw P n ops Q σ w := by
  replace h := h.out
  unfold lastsB at hB
  simp only [Bool.and_eq_true] at hB
  obtain ⟨⟨⟨⟨⟨⟨h1, h2⟩, h3⟩, h4⟩, h5⟩, h6⟩, h7⟩ := hB
  have hlen := Nat.eq_of_beq_eq_true h6
  have hdst : ∀ o ∈ ops, ∀ t, o.dst = some t → t < n ∧ t ∈ dsts ops := fun o ho t ht => ⟨by
    have := List.all_eq_true.1 h7 o ho
    rw [ht] at this
    exact Nat.blt_eq ▸ this, mem_dsts ho ht⟩
  simp only [VDraw_eq]
  intro ds a id hA
  refine wp_region_any hm (wpAny_ofC (S := S) (c := c) _ _ _ _ ?_)
  have h4' : (segs.all fun p => (p.1.all fun i => Nat.blt i c) && Nat.blt p.2 c) = true := h4
  have := segL_sound (md := .any) (ds := ds) (Q := Lift n ds Q (dsts ops) σ) (S := S) (K := fun σ2 w2 => Q .normal σ2 w2) (σ0 := σ) h2 hdst h1 (fun c a a' w h => h) (fun a σ' w hA hF hk => ⟨σ', hA, hF, hk⟩) h3 segs _ a σ _ h4' (Down.start _) hS h5 hA (Fr.refl _ _) h
  rw [hlen] at this
  rw [show ops.toArray.size = ops.length from by simp]
  exact this
end Go.Proofs.Ytebeidnmplnlpaa
end

section
set_option maxRecDepth 10000
namespace Go.Proofs.Ytebeidnmplnlpaa
set_option linter.unusedVariables false
open Go.RowKit

/-! ### a file's three cells -/
def FEl (W : World) (U : Foot) (p : List UInt8 × Fl) (a b c : Value) : Prop :=
  a = encStr p.1 ∧ (∃ As cs, b = .slice As p.2.sure cs ∧ Lies W U As p.2.sure (p.2.b.take p.2.sure) ∧ p.2.sure ≤ cs) ∧
    ∃ Ap cp, c = .slice Ap (p.2.b.length - p.2.sure) cp ∧ Lies W U Ap (p.2.b.length - p.2.sure) (p.2.b.drop p.2.sure) ∧ p.2.b.length - p.2.sure ≤ cp
def FEls (W : World) (U : Foot) : PT → List Value → Prop
  | [], [] => True
  | p :: T, a :: b :: c :: xs => FEl W U p a b c ∧ FEls W U T xs
  | _, _ => False
section
variable {W W' : World} {U V : Foot}
theorem FEl.stay {p : List UInt8 × Fl} {a b c : Value} (h : FEl W U p a b c) (hl : ∀ A m (l : List UInt8), Lies W U A m l → Lies W' V A m l) : FEl W' V p a b c := by
  obtain ⟨h1, ⟨As, cs, h2, h3, h4⟩, Ap, cp, h5, h6, h7⟩ := h
  exact ⟨h1, ⟨As, cs, h2, hl _ _ _ h3, h4⟩, Ap, cp, h5, hl _ _ _ h6, h7⟩
theorem FEls.stay (hl : ∀ A m (l : List UInt8), Lies W U A m l → Lies W' V A m l) : ∀ {T : PT} {xs : List Value}, FEls W U T xs → FEls W' V T xs
  | [], [], _ => trivial
  | p :: T, a :: b :: c :: xs, h => ⟨h.1.stay hl, FEls.stay hl h.2⟩
  | [], _ :: _, h => h.elim
  | _ :: _, [], h => h.elim
  | _ :: _, [_], h => h.elim
  | _ :: _, [_, _], h => h.elim
theorem FEls.len : ∀ {T : PT} {xs : List Value}, FEls W U T xs → xs.length = T.length * 3
  | [], [], _ => rfl
  | p :: T, a :: b :: c :: xs, h => by have := FEls.len h.2; simp only [List.length_cons]; omega
  | [], _ :: _, h => h.elim
  | _ :: _, [], h => h.elim
  | _ :: _, [_], h => h.elim
  | _ :: _, [_, _], h => h.elim
theorem FEls.append : ∀ {T1 T2 : PT} {x1 x2 : List Value}, FEls W U T1 x1 → FEls W U T2 x2 → FEls W U (T1 ++ T2) (x1 ++ x2)
  | [], _, [], _, _, h => h
  | p :: T, _, a :: b :: c :: xs, _, h, k => ⟨h.1, FEls.append h.2 k⟩
  | [], _, _ :: _, _, h, _ => h.elim
  | _ :: _, _, [], _, h, _ => h.elim
  | _ :: _, _, [_], _, h, _ => h.elim
  | _ :: _, _, [_, _], _, h, _ => h.elim
theorem FEls.split : ∀ {T1 T2 : PT} {xs : List Value}, FEls W U (T1 ++ T2) xs → FEls W U T1 (xs.take (T1.length * 3)) ∧ FEls W U T2 (xs.drop (T1.length * 3))
  | [], _, xs, h => ⟨by simp [FEls], by simpa using h⟩
  | p :: T, T2, a :: b :: c :: xs, h => by
    obtain ⟨h1, h2⟩ := FEls.split (T1 := T) h.2
    have e : (p :: T).length * 3 = T.length * 3 + 3 := by simp; omega
    rw [e]
    exact ⟨⟨h.1, h1⟩, h2⟩
  | _ :: _, _, [], h => h.elim
  | _ :: _, _, [_], h => h.elim
  | _ :: _, _, [_, _], h => h.elim
/-- the cells of a file of a number -/
theorem FEls.at_ {A B : PT} {p : List UInt8 × Fl} {xs : List Value} (h : FEls W U (A ++ p :: B) xs) :
    ∃ x1 a b c x2, xs = x1 ++ a :: b :: c :: x2 ∧ x1.length = A.length * 3 ∧ FEls W U A x1 ∧ FEl W U p a b c ∧ FEls W U B x2 := by
  obtain ⟨h1, h2⟩ := FEls.split h
  have hl := h1.len
  generalize hd : xs.drop (A.length * 3) = ys at h2
  match ys, h2 with
  | a :: b :: c :: x2, h2 => exact ⟨_, a, b, c, x2, by rw [← hd, List.take_append_drop], hl, h1, h2.1, h2.2⟩
  | [], h => exact h.elim
  | [_], h => exact h.elim
  | [_, _], h => exact h.elim
theorem FEls.one : ∀ {T : PT} {xs : List Value}, FEls W U T xs → ∀ u ∈ xs, u.oneCell' = true
  | [], [], _, u, hu => by cases hu
  | p :: T, a :: b :: c :: xs, h, u, hu => by
    obtain ⟨⟨rfl, ⟨As, cs, rfl, _, _⟩, Ap, cp, rfl, _, _⟩, h2⟩ := h
    simp only [List.mem_cons] at hu
    rcases hu with rfl | rfl | rfl | hu
    · rfl
    · rfl
    · rfl
    · exact FEls.one h2 u hu
  | [], _ :: _, h, _, _ => h.elim
  | _ :: _, [], h, _, _ => h.elim
  | _ :: _, [_], h, _, _ => h.elim
  | _ :: _, [_, _], h, _, _ => h.elim
end
def rC (K : Dk) (A : Option Addr) (n c : Nat) : Array Value := #[.slice A n c, .int .i64 K.room, .int .i64 K.calls, .bool K.armed, .int .i64 K.kind, .int .i64 K.after, .bool K.off]
/-- a row of files -/
structure FRow (W : World) (U : Foot) (A : Option Addr) (n c : Nat) (xs : List Value) (T : PT) : Prop where
  row : W.ownsRow 0 100 3 (.slice A n c) n xs
  foot : ∀ g, (Value.slice A n c).ownBlock = some g → U g
  els : FEls W U T xs
structure RefAt (W : World) (U : Foot) (r : Nat) (A : Option Addr) (c : Nat) (xs : List Value) (K : Dk) (T : PT) : Prop where
  hr : U r
  blk : Blk W r 98 (rC K A T.length c)
  fr : FRow W U A T.length c xs T
def RefD (W : World) (U : Foot) (r : Nat) (S : DS) : Prop := DWf S ∧ ∃ A c xs, RefAt W U r A c xs S.k S.t
section
variable {W W' : World} {U V : Foot} {r n c : Nat} {A : Option Addr} {xs : List Value} {K K' : Dk} {T : PT} {S : DS}
theorem ownsRow_stay {B e s m : Nat} {v : Value} {ys : List Value} (h : W.ownsRow B e s v m ys) (hk : ∀ g, v.ownBlock = some g → W'.heap[g]? = W.heap[g]?) : W'.ownsRow B e s v m ys := by
  refine ⟨h.1, ?_⟩
  rcases h.2 with h0 | ⟨k, cap, cur, hv, hbg, hh, q⟩
  · exact .inl h0
  · exact .inr ⟨k, cap, cur, hv, hbg, by rw [hk k (by rw [hv]; rfl)]; exact hh, q⟩
theorem FRow.stay (h : FRow W U A n c xs T) (hs : W.heap.size ≤ W'.heap.size) (hk : ∀ j, j < W.heap.size → U j → W'.heap[j]? = W.heap[j]?) : FRow W' U A n c xs T :=
  ⟨ownsRow_stay h.row (fun g hg => hk g (World.ownsRow.lt h.row g hg).2 (h.foot g hg)), h.foot, h.els.stay (fun A m l hl => hl.stay hs hk)⟩
theorem FRow.more (h : FRow W U A n c xs T) (hV : ∀ j, j < W.heap.size → U j → V j) : FRow W V A n c xs T :=
  ⟨h.row, fun g hg => hV g (World.ownsRow.lt h.row g hg).2 (h.foot g hg), h.els.stay (fun A m l hl => hl.more hV)⟩
theorem FRow.below {C : Nat} (h : FRow W U A n c xs T) (hb : Below C W W') (hC : W.heap.size ≤ C) : FRow W' U A n c xs T :=
  h.stay hb.size (fun j hj _ => hb.block j (Nat.lt_of_lt_of_le hj hC))
theorem RefAt.stay (h : RefAt W U r A c xs K T) (hs : W.heap.size ≤ W'.heap.size) (hk : ∀ j, j < W.heap.size → U j → W'.heap[j]? = W.heap[j]?) : RefAt W' U r A c xs K T :=
  ⟨h.hr, (hk r h.blk.lt h.hr).trans h.blk, h.fr.stay hs hk⟩
theorem RefAt.more (h : RefAt W U r A c xs K T) (hV : ∀ j, j < W.heap.size → U j → V j) : RefAt W V r A c xs K T := ⟨hV r h.blk.lt h.hr, h.blk, h.fr.more hV⟩
theorem RefAt.below {C : Nat} (h : RefAt W U r A c xs K T) (hb : Below C W W') (hC : W.heap.size ≤ C) : RefAt W' U r A c xs K T :=
  h.stay hb.size (fun j hj _ => hb.block j (Nat.lt_of_lt_of_le hj hC))
theorem RefAt.own (h : RefAt W U r A c xs K T) (hb : Blk W' r 98 (rC K' A T.length c)) (hg : W.grownBy W' (some r)) : RefAt W' U r A c xs K' T := by
  refine ⟨h.hr, hb, ⟨ownsRow_stay h.fr.row (fun g hg' => ?_), h.fr.foot, h.fr.els.stay (fun A m l hl => hl.blk h.blk hg (by decide))⟩⟩
  refine hg.block g (World.ownsRow.lt h.fr.row g hg').2 (fun e => ?_)
  injection e with e
  subst e
  obtain ⟨_, cs, hc⟩ := row_cells h.fr.row _ hg'
  have hb' := h.blk
  unfold Blk at hb'
  rw [hc] at hb'
  injection hb' with hb'
  injection hb' with _ h2 _
  exact absurd h2 (by decide)
theorem RefD.wf (h : RefD W U r S) : DWf S := h.1
theorem RefD.stay (h : RefD W U r S) (hs : W.heap.size ≤ W'.heap.size) (hk : ∀ j, j < W.heap.size → U j → W'.heap[j]? = W.heap[j]?) : RefD W' U r S := by
  obtain ⟨h0, A, c, xs, h1⟩ := h; exact ⟨h0, A, c, xs, h1.stay hs hk⟩
theorem RefD.more (h : RefD W U r S) (hV : ∀ j, j < W.heap.size → U j → V j) : RefD W V r S := by
  obtain ⟨h0, A, c, xs, h1⟩ := h; exact ⟨h0, A, c, xs, h1.more hV⟩
theorem RefD.below {C : Nat} (h : RefD W U r S) (hb : Below C W W') (hC : W.heap.size ≤ C) : RefD W' U r S :=
  h.stay hb.size (fun j hj _ => hb.block j (Nat.lt_of_lt_of_le hj hC))
/-- a cell of a file -/
theorem FRow.cell (h : FRow W U A n c xs T) {i k : Nat} {v : Value} (hi : xs[i * 3 + k]? = some v) : ∃ g, A = some ⟨g, 0, none⟩ ∧ g < W.heap.size ∧ W.cell? (((⟨g, 0, none⟩ : Addr).add (i * 3)).add k) = some v := by
  have hl := h.row.1
  have hlt := (List.getElem?_eq_some_iff.1 hi).1
  obtain ⟨g, cap, e, _⟩ := World.ownsRow.form h.row (by omega)
  injection e with e1 e2 e3
  have hlt := (World.ownsRow.lt h.row g (by rw [e1]; rfl)).2
  refine ⟨g, e1, hlt, ?_⟩
  have := World.ownsRow.cells h.row (g := g) (by rw [e1]; rfl) (i * 3 + k) v hi
  rw [Addr.add_add]
  exact this
end
end Go.Proofs.Ytebeidnmplnlpaa
end
