/- The reference's disk: without and put. No condition. -/
import Derived.Test.YtajheglnhfjodaaRdD
import Derived.Great.BuildSlice
set_option maxRecDepth 10000
namespace Go.Proofs.Ytajheglnhfjodaa
set_option linter.unusedVariables false
open Go.RowKit

section
variable {U : Foot} {r c : Nat} {A : Option Addr} {xs : List Value} {K : Dk} {T : PT}
theorem FEls.two {W : World} {T0 T1 : PT} (h : FEls W U (T0 ++ T1) xs) : ∃ x0 x1, xs = x0 ++ x1 ∧ x0.length = T0.length * 3 ∧ x1.length = T1.length * 3 ∧ FEls W U T0 x0 ∧ FEls W U T1 x1 := by
  obtain ⟨h1, h2⟩ := h.split
  exact ⟨_, _, (List.take_append_drop _ _).symm, h1.len, h2.len, h1, h2⟩
set_option maxHeartbeats 1000000 in
theorem rWithout_at (W : World) {T0 T1 : PT} {p : List UInt8 × Fl} (h : RefAt W U r A c xs K T) (hT : T = T0 ++ p :: T1) (hU : Up U W) (hfew : T.length ≤ 1000) :
    Calls Try.prog 62 #[.pointer (some ⟨r, 0, none⟩), .int .i64 (T0.length : Int)] W fun e W' => e = .returned (.tuple #[]) ∧ (∃ A' c' xs', RefAt W' U r A' c' xs' K (T0 ++ T1)) ∧ Out U W W' ∧ ∀ (A : Option Addr) (m : Nat) (l : List UInt8), Lies W U A m l → Lies W' U A m l := by
  have hb : Blk W r 89 (rC K A T.length c) := h.blk
  have hTl : T.length = T0.length + (T1.length + 1) := by rw [hT]; simp
  have hc := h.fr.cap
  have hr := Reads.row h.fr.row
  have hels := h.fr.els
  rw [hT] at hels
  obtain ⟨x0, a, b, d, x1, hxs, hx0, he0, _, he1⟩ := hels.at_
  have hr0 := hr.takeK (z := T0.length) (by omega)
  have hr1 := hr.cut (k := T0.length + 1) (cap := c) (by omega) hc
  rw [show xs.take (T0.length * 3) = x0 by rw [hxs, ← hx0, List.take_left]] at hr0
  rw [show xs.drop ((T0.length + 1) * 3) = x1 by rw [hxs, show (T0.length + 1) * 3 = x0.length + 3 by omega, ← List.drop_drop, List.drop_left]; rfl, show T.length - (T0.length + 1) = T1.length by omega] at hr1
  replace hr1 : Reads W W.heap.size 3 (cutK A c (T0.length + 1) 3) T1.length x1 := hr1
  refine calls_vc Try.func62 rfl (by kernel_rfl) ?_
  have hS : Below W.heap.size W (W.drewN 1) := below_drewN (Below.refl _ _) 1
  have kB : ∀ X, Below W.heap.size W X → Blk X r 89 (rC K A T.length c) := fun X hX => hb.below hX hb.lt
  have kB' : ∀ X, Below W.heap.size W X → Blk X r 89 #[.slice A T.length c, .int .i64 K.room, .int .i64 K.calls, .bool K.armed, .int .i64 K.kind, .int .i64 K.after, .bool K.off] := kB
  ((conv => whnf); (repeat ((first | (refine VL.cons ?_) | (refine VL.nil ?_) | (refine VC.seqS rfl ?_) | (refine VC.region ?_) | (refine VC.draw ?_) | (refine VC.cond ?_) | (refine VC.block ?_) | (refine VC.exit ?_) | (refine VC.ret ?_) | (refine VC.skip ?_) | (refine VC.label ?_) | (refine VC.scope ?_) | (refine VQ.cons ?_) | (refine VQ.nil ?_) | (refine VG.nil ?_) | (refine VG.cons ?_)); (conv => whnf))))
  ((repeat ((first | (refine VL.cons ?_) | (refine VL.nil ?_) | (refine VC.seqS rfl ?_) | (refine VC.region ?_) | (refine VC.draw ?_) | (refine VC.cond ?_) | (refine VC.block ?_) | (refine VC.exit ?_) | (refine VC.ret ?_) | (refine VC.skip ?_) | (refine VC.label ?_) | (refine VC.scope ?_) | (refine VQ.cons ?_) | (refine VQ.nil ?_) | (refine VG.nil ?_) | (refine VG.cons ?_) | (refine VP.done ?_) | (refine VP.one ?_) | (refine VP.two ?_) | (refine VE.cons ?_) | (refine VE.nil ?_) | (refine VBool.t ?_) | (refine VBool.f ?_) | (refine VBool.dT (by omega) ?_) | (refine VBool.dF (by omega) ?_) | (refine VBool.nT (by omega) ?_) | (refine VBool.nF (by omega) ?_) | (refine VRead.lenS ?_) | (refine VRead.lenT ?_) | (refine VRead.fld ?_) | (refine VRead.load1 (by assumption) ?_) | (refine VRead.load (by assumption) ?_) | (refine VRead.neB ?_) | (refine VRead.eqPN ?_) | (refine VRead.nePN ?_) | (refine VRead.eqB ?_) | (refine VBool.nT rfl ?_) | (refine VBool.dT rfl ?_) | (refine VWrap.i64 (by omega) (by omega) ?_) | (refine VWrap.u64 (by omega) (by omega) ?_) | (refine VRead.at1 (by omega) ?_) | (refine VRead.eqNN ?_) | (refine VSem.convI ?_) | (refine VRead.convI ?_) | (refine VRead.rem (by omega) (by decide) ?_) | (refine VRead.neg ?_) | (refine VC.seq ?_)); (conv => whnf))))
  refine VDraw.lasts (fun X => Below W.heap.size W X) [([0, 1, 2, 3, 4, 5, 6, 8, 9, 10, 11, 12, 13, 14], 7), ([], 15)] [16, 17] 18 (by kernel_rfl) (by kernel_rfl) hS ?_
  (conv => whnf)
  (repeat ((first | (refine VRead.loadBS kB' rfl rfl ?_) | (refine VL.cons ?_) | (refine VL.nil ?_) | (refine VC.seqS rfl ?_) | (refine VC.region ?_) | (refine VC.draw ?_) | (refine VC.cond ?_) | (refine VC.block ?_) | (refine VC.exit ?_) | (refine VC.ret ?_) | (refine VC.skip ?_) | (refine VC.label ?_) | (refine VC.scope ?_) | (refine VQ.cons ?_) | (refine VQ.nil ?_) | (refine VG.nil ?_) | (refine VG.cons ?_) | (refine VP.done ?_) | (refine VP.one ?_) | (refine VP.two ?_) | (refine VE.cons ?_) | (refine VE.nil ?_) | (refine VBool.t ?_) | (refine VBool.f ?_) | (refine VBool.dT (by omega) ?_) | (refine VBool.dF (by omega) ?_) | (refine VBool.nT (by omega) ?_) | (refine VBool.nF (by omega) ?_) | (refine VRead.lenS ?_) | (refine VRead.lenT ?_) | (refine VRead.fld ?_) | (refine VRead.load1 (by assumption) ?_) | (refine VRead.load (by assumption) ?_) | (refine VRead.neB ?_) | (refine VRead.eqPN ?_) | (refine VRead.nePN ?_) | (refine VRead.eqB ?_) | (refine VBool.nT rfl ?_) | (refine VBool.dT rfl ?_) | (refine VWrap.i64 (by omega) (by omega) ?_) | (refine VWrap.u64 (by omega) (by omega) ?_) | (refine VRead.at1 (by omega) ?_) | (refine VRead.eqNN ?_) | (refine VSem.convI ?_) | (refine VRead.convI ?_) | (refine VRead.rem (by omega) (by decide) ?_) | (refine VRead.neg ?_) | (refine VC.seq ?_)); (conv => whnf)))
  refine VRead.cutKH T0.length (by omega) (by omega) ?_
  (conv => whnf)
  (repeat ((first | (refine VRead.loadBS kB' rfl rfl ?_) | (refine VL.cons ?_) | (refine VL.nil ?_) | (refine VC.seqS rfl ?_) | (refine VC.region ?_) | (refine VC.draw ?_) | (refine VC.cond ?_) | (refine VC.block ?_) | (refine VC.exit ?_) | (refine VC.ret ?_) | (refine VC.skip ?_) | (refine VC.label ?_) | (refine VC.scope ?_) | (refine VQ.cons ?_) | (refine VQ.nil ?_) | (refine VG.nil ?_) | (refine VG.cons ?_) | (refine VP.done ?_) | (refine VP.one ?_) | (refine VP.two ?_) | (refine VE.cons ?_) | (refine VE.nil ?_) | (refine VBool.t ?_) | (refine VBool.f ?_) | (refine VBool.dT (by omega) ?_) | (refine VBool.dF (by omega) ?_) | (refine VBool.nT (by omega) ?_) | (refine VBool.nF (by omega) ?_) | (refine VRead.lenS ?_) | (refine VRead.lenT ?_) | (refine VRead.fld ?_) | (refine VRead.load1 (by assumption) ?_) | (refine VRead.load (by assumption) ?_) | (refine VRead.neB ?_) | (refine VRead.eqPN ?_) | (refine VRead.nePN ?_) | (refine VRead.eqB ?_) | (refine VBool.nT rfl ?_) | (refine VBool.dT rfl ?_) | (refine VWrap.i64 (by omega) (by omega) ?_) | (refine VWrap.u64 (by omega) (by omega) ?_) | (refine VRead.at1 (by omega) ?_) | (refine VRead.eqNN ?_) | (refine VSem.convI ?_) | (refine VRead.convI ?_) | (refine VRead.rem (by omega) (by decide) ?_) | (refine VRead.neg ?_) | (refine VC.seq ?_)); (conv => whnf)))
  refine VRead.cutKL (T0.length + 1) (by omega) (by omega) ?_
  (conv => whnf)
  ((repeat ((first | (refine VL.cons ?_) | (refine VL.nil ?_) | (refine VC.seqS rfl ?_) | (refine VC.region ?_) | (refine VC.draw ?_) | (refine VC.cond ?_) | (refine VC.block ?_) | (refine VC.exit ?_) | (refine VC.ret ?_) | (refine VC.skip ?_) | (refine VC.label ?_) | (refine VC.scope ?_) | (refine VQ.cons ?_) | (refine VQ.nil ?_) | (refine VG.nil ?_) | (refine VG.cons ?_) | (refine VP.done ?_) | (refine VP.one ?_) | (refine VP.two ?_) | (refine VE.cons ?_) | (refine VE.nil ?_) | (refine VBool.t ?_) | (refine VBool.f ?_) | (refine VBool.dT (by omega) ?_) | (refine VBool.dF (by omega) ?_) | (refine VBool.nT (by omega) ?_) | (refine VBool.nF (by omega) ?_) | (refine VRead.lenS ?_) | (refine VRead.lenT ?_) | (refine VRead.fld ?_) | (refine VRead.load1 (by assumption) ?_) | (refine VRead.load (by assumption) ?_) | (refine VRead.neB ?_) | (refine VRead.eqPN ?_) | (refine VRead.nePN ?_) | (refine VRead.eqB ?_) | (refine VBool.nT rfl ?_) | (refine VBool.dT rfl ?_) | (refine VWrap.i64 (by omega) (by omega) ?_) | (refine VWrap.u64 (by omega) (by omega) ?_) | (refine VRead.at1 (by omega) ?_) | (refine VRead.eqNN ?_) | (refine VSem.convI ?_) | (refine VRead.convI ?_) | (refine VRead.rem (by omega) (by decide) ?_) | (refine VRead.neg ?_) | (refine VC.seq ?_)); (conv => whnf))))
  refine VSem.appF (FRow.nil _ U) rfl (hU.grow hS.size) (hr0.below hS) (he0.stay (fun _ _ _ hl => hl.below hS (Nat.le_refl _))) rfl (by omega) hS.size (fun g h => by simp [Value.ownBlock] at h) ?_
  intro A2 c2 W2 hF2 hB2 ho2
  rw [Nat.zero_add] at hF2 ho2 ⊢
  rw [List.nil_append, List.nil_append] at hF2
  have hS2 := hS.trans hB2
  (conv => whnf)
  refine Keep.mk hS2 ?_
  (conv => whnf)
  (repeat ((first | (refine VRead.loadBS kB' rfl rfl ?_) | (refine VL.cons ?_) | (refine VL.nil ?_) | (refine VC.seqS rfl ?_) | (refine VC.region ?_) | (refine VC.draw ?_) | (refine VC.cond ?_) | (refine VC.block ?_) | (refine VC.exit ?_) | (refine VC.ret ?_) | (refine VC.skip ?_) | (refine VC.label ?_) | (refine VC.scope ?_) | (refine VQ.cons ?_) | (refine VQ.nil ?_) | (refine VG.nil ?_) | (refine VG.cons ?_) | (refine VP.done ?_) | (refine VP.one ?_) | (refine VP.two ?_) | (refine VE.cons ?_) | (refine VE.nil ?_) | (refine VBool.t ?_) | (refine VBool.f ?_) | (refine VBool.dT (by omega) ?_) | (refine VBool.dF (by omega) ?_) | (refine VBool.nT (by omega) ?_) | (refine VBool.nF (by omega) ?_) | (refine VRead.lenS ?_) | (refine VRead.lenT ?_) | (refine VRead.fld ?_) | (refine VRead.load1 (by assumption) ?_) | (refine VRead.load (by assumption) ?_) | (refine VRead.neB ?_) | (refine VRead.eqPN ?_) | (refine VRead.nePN ?_) | (refine VRead.eqB ?_) | (refine VBool.nT rfl ?_) | (refine VBool.dT rfl ?_) | (refine VWrap.i64 (by omega) (by omega) ?_) | (refine VWrap.u64 (by omega) (by omega) ?_) | (refine VRead.at1 (by omega) ?_) | (refine VRead.eqNN ?_) | (refine VSem.convI ?_) | (refine VRead.convI ?_) | (refine VRead.rem (by omega) (by decide) ?_) | (refine VRead.neg ?_) | (refine VC.seq ?_)); (conv => whnf)))
  rw [show T.length - (T0.length + 1) = T1.length by omega]
  refine VSem.appF hF2 rfl (hU.grow hS2.size) (hr1.below hS2) (he1.stay (fun _ _ _ hl => hl.below hS2 (Nat.le_refl _))) rfl (by omega) hS2.size ho2 ?_
  intro A3 c3 W3 hF3 hB3 ho3
  have hS3 := hS2.trans hB3
  have hb3 := kB W3 hS3
  (conv => whnf)
  refine Keep.mk hS3 ?_
  (conv => whnf)
  (repeat ((first | (refine VRead.loadBS kB' rfl rfl ?_) | (refine VL.cons ?_) | (refine VL.nil ?_) | (refine VC.seqS rfl ?_) | (refine VC.region ?_) | (refine VC.draw ?_) | (refine VC.cond ?_) | (refine VC.block ?_) | (refine VC.exit ?_) | (refine VC.ret ?_) | (refine VC.skip ?_) | (refine VC.label ?_) | (refine VC.scope ?_) | (refine VQ.cons ?_) | (refine VQ.nil ?_) | (refine VG.nil ?_) | (refine VG.cons ?_) | (refine VP.done ?_) | (refine VP.one ?_) | (refine VP.two ?_) | (refine VE.cons ?_) | (refine VE.nil ?_) | (refine VBool.t ?_) | (refine VBool.f ?_) | (refine VBool.dT (by omega) ?_) | (refine VBool.dF (by omega) ?_) | (refine VBool.nT (by omega) ?_) | (refine VBool.nF (by omega) ?_) | (refine VRead.lenS ?_) | (refine VRead.lenT ?_) | (refine VRead.fld ?_) | (refine VRead.load1 (by assumption) ?_) | (refine VRead.load (by assumption) ?_) | (refine VRead.neB ?_) | (refine VRead.eqPN ?_) | (refine VRead.nePN ?_) | (refine VRead.eqB ?_) | (refine VBool.nT rfl ?_) | (refine VBool.dT rfl ?_) | (refine VWrap.i64 (by omega) (by omega) ?_) | (refine VWrap.u64 (by omega) (by omega) ?_) | (refine VRead.at1 (by omega) ?_) | (refine VRead.eqNN ?_) | (refine VSem.convI ?_) | (refine VRead.convI ?_) | (refine VRead.rem (by omega) (by decide) ?_) | (refine VRead.neg ?_) | (refine VC.seq ?_)); (conv => whnf)))
  refine VUnit.storeB hb3 rfl rfl rfl ?_
  intro W4 hb4 hg4
  (conv => whnf)
  refine Keep.mk trivial ?_
  (conv => whnf)
  ((repeat ((first | (refine VL.cons ?_) | (refine VL.nil ?_) | (refine VC.seqS rfl ?_) | (refine VC.region ?_) | (refine VC.draw ?_) | (refine VC.cond ?_) | (refine VC.block ?_) | (refine VC.exit ?_) | (refine VC.ret ?_) | (refine VC.skip ?_) | (refine VC.label ?_) | (refine VC.scope ?_) | (refine VQ.cons ?_) | (refine VQ.nil ?_) | (refine VG.nil ?_) | (refine VG.cons ?_) | (refine VP.done ?_) | (refine VP.one ?_) | (refine VP.two ?_) | (refine VE.cons ?_) | (refine VE.nil ?_) | (refine VBool.t ?_) | (refine VBool.f ?_) | (refine VBool.dT (by omega) ?_) | (refine VBool.dF (by omega) ?_) | (refine VBool.nT (by omega) ?_) | (refine VBool.nF (by omega) ?_) | (refine VRead.lenS ?_) | (refine VRead.lenT ?_) | (refine VRead.fld ?_) | (refine VRead.load1 (by assumption) ?_) | (refine VRead.load (by assumption) ?_) | (refine VRead.neB ?_) | (refine VRead.eqPN ?_) | (refine VRead.nePN ?_) | (refine VRead.eqB ?_) | (refine VBool.nT rfl ?_) | (refine VBool.dT rfl ?_) | (refine VWrap.i64 (by omega) (by omega) ?_) | (refine VWrap.u64 (by omega) (by omega) ?_) | (refine VRead.at1 (by omega) ?_) | (refine VRead.eqNN ?_) | (refine VSem.convI ?_) | (refine VRead.convI ?_) | (refine VRead.rem (by omega) (by decide) ?_) | (refine VRead.neg ?_) | (refine VC.seq ?_)); (conv => whnf))))
  have hl : (T0 ++ T1).length = T0.length + T1.length := List.length_append
  rw [← hl] at hF3
  have h3 := h.below hS3 (Nat.le_refl _)
  refine ⟨rfl, ⟨A3, c3, _, h3.turn hF3 (K' := K) ?_ hg4⟩, (Out.new hS3).trans (Out.grown hg4 h.hr), fun A m l hl => (hl.below hS3 (Nat.le_refl _)).blk hb3 hg4 (by decide)⟩
  rw [hl]
  exact hb4
end
/-- a row of one file -/
theorem VSem.oneF {w : World} {a b d : Value} {Q : Value → World → Prop}
    (h : ∀ w', Reads w' w'.heap.size 3 (some ⟨w.heap.size, 0, none⟩) 1 [a, b, d] → Below w.heap.size w w' → Q (.slice (some ⟨w.heap.size, 0, none⟩) 1 1) w') :
    VSem Try.prog (Instr.buildSlice 87 1 [(0, .agg #[a, b, d])].toArray) w Q := by
  obtain ⟨i0, hi0, hz0, hz1, hz2⟩ := info_parts F_info
  have hrun := run_buildSlice (P := Try.prog) w 87 99 1 #[(0, .agg #[a, b, d])] #[a, b, d] i0 _ Try.underlying87 hi0 hz0 (by rw [hz1]; decide) (by rw [hz1]; decide) (by rw [hz1]; simp [Instr.fill, Value.cells, show Array.range 3 = #[0, 1, 2] from by decide])
  refine VSem.of hrun ?_
  have hsz : (w.alloc (.cells #[a, b, d] 99)).heap.size = w.heap.size + 1 := by simp
  have hnew := Blk.new w 99 #[a, b, d]
  refine h _ ⟨rfl, fun _ => ⟨_, rfl, by show w.heap.size < _; rw [hsz]; omega, fun j u hu => ?_⟩⟩ ((Below.refl w.heap.size w).alloc (Nat.le_refl _) _)
  rw [add0, hnew.cell j]
  simpa using hu
end Go.Proofs.Ytajheglnhfjodaa
