/- The reference's disk: a file's cells turn; Sync and Append. No condition. -/
import Derived.Test.YtajheglnhfjodaaRdG
set_option maxRecDepth 10000
namespace Go.Proofs.Ytajheglnhfjodaa
set_option linter.unusedVariables false
open Go.RowKit

theorem set_cell {x0 x1 : List Value} {a b d v : Value} {n : Nat} (h : x0.length = n) : (x0 ++ a :: b :: d :: x1).set (n + 1) v = x0 ++ a :: v :: d :: x1 := by
  subst h
  rw [List.set_append_right _ _ (by omega), show x0.length + 1 - x0.length = 1 by omega]
  rfl
theorem set_cell2 {x0 x1 : List Value} {a b d v : Value} {n : Nat} (h : x0.length = n) : (x0 ++ a :: b :: d :: x1).set (n + 2) v = x0 ++ a :: b :: v :: x1 := by
  subst h
  rw [List.set_append_right _ _ (by omega), show x0.length + 2 - x0.length = 2 by omega]
  rfl
section
variable {W W' : World} {U : Foot} {r c g n B : Nat} {A : Option Addr} {xs xs' : List Value} {K : Dk} {T T0 T1 : PT} {s : List UInt8} {f : Fl} {b : List UInt8}
theorem FEls.mid {p : List UInt8 × Fl} {x0 x1 : List Value} {a b d : Value} (h : FEls W U (T0 ++ p :: T1) (x0 ++ a :: b :: d :: x1)) (hx0 : x0.length = T0.length * 3) : FEls W U T0 x0 ∧ FEl W U p a b d ∧ FEls W U T1 x1 := by
  obtain ⟨h1, h2⟩ := h.split
  rw [← hx0, List.take_left] at h1
  rw [← hx0, List.drop_left] at h2
  exact ⟨h1, h2.1, h2.2⟩
/-- a file's two slices turn -/
theorem RefAt.file {p q : List UInt8 × Fl} {x0 x1 : List Value} {a b d a' b' d' : Value} (h : RefAt W U r (some ⟨g, 0, none⟩) c xs K T) (hT : T = T0 ++ p :: T1) (hxs : xs = x0 ++ a :: b :: d :: x1) (hx0 : x0.length = T0.length * 3)
    (row : W'.ownsRow 0 99 3 (.slice (some ⟨g, 0, none⟩) T.length c) T.length (x0 ++ a' :: b' :: d' :: x1)) (hg : W.grownBy W' (some g)) (hel : FEl W' U q a' b' d') :
    RefAt W' U r (some ⟨g, 0, none⟩) c (x0 ++ a' :: b' :: d' :: x1) K (T0 ++ q :: T1) := by
  have hl : (T0 ++ q :: T1).length = T.length := by rw [hT]; simp
  have hels := h.fr.els
  have hrow := h.fr.row
  rw [hxs, hT] at hels
  obtain ⟨e0, _, e1⟩ := hels.mid hx0
  have hne : r ≠ g := by
    obtain ⟨_, cs, hc⟩ := row_cells hrow g rfl
    intro e; subst e
    have hb' := h.blk
    unfold Blk at hb'
    rw [hc] at hb'
    injection hb' with hb'
    injection hb' with _ h2 _
    exact absurd h2 (by decide)
  have st : ∀ (A : Option Addr) (m : Nat) (l : List UInt8), Lies W U A m l → Lies W' U A m l := fun A m l hl => hl.row hrow (by exact hg) (by decide)
  refine ⟨h.hr, ?_, ?_⟩
  · rw [hl]; exact h.blk.grown hg (fun e => hne (Option.some.inj e))
  · rw [hl]
    exact ⟨row, h.fr.foot, (e0.stay st).append (show FEls W' U (q :: T1) (a' :: b' :: d' :: x1) from ⟨hel, e1.stay st⟩)⟩
/-- what is pending grows -/
theorem RefAt.pend {A2 : Option Addr} {m2 c2 : Nat} (h : RefAt W U r (some ⟨g, 0, none⟩) c xs K T) (hT : T = T0 ++ (s, f) :: T1) (hsu : f.sure ≤ f.b.length)
    (row : W'.ownsRow 0 99 3 (.slice (some ⟨g, 0, none⟩) T.length c) T.length (xs.set (T0.length * 3 + 2) (.slice A2 m2 c2))) (hg : W.grownBy W' (some g)) (hO : Own W B (.slice A2 m2 c2) m2 (f.b.drop f.sure ++ b)) (hU : ∀ j, B ≤ j → U j) :
    ∃ xs', RefAt W' U r (some ⟨g, 0, none⟩) c xs' K (T0 ++ (s, ⟨f.b ++ b, f.sure⟩) :: T1) := by
  have hels := h.fr.els
  rw [hT] at hels
  obtain ⟨x0, a, y, d, x1, hxs, hx0, _, ⟨ha, ⟨As, cs, hy, hls, hcs⟩, _⟩, _⟩ := hels.at_
  have hrow := h.fr.row
  rw [hxs, set_cell2 hx0] at row
  have st : ∀ (A : Option Addr) (m : Nat) (l : List UInt8), Lies W U A m l → Lies W' U A m l := fun A m l hl => hl.row hrow (by exact hg) (by decide)
  have hm2 : m2 = f.b.length + b.length - f.sure := by
    have := hO.len
    simp only [List.length_append, List.length_drop] at this
    omega
  have hm3 : (f.b ++ b).length - f.sure = m2 := by rw [List.length_append]; omega
  simp only at hy hls hcs
  have hcap := hO.cap
  refine ⟨_, h.file hT hxs hx0 row hg ⟨ha, ⟨As, cs, hy, ?_, hcs⟩, A2, c2, ?_, ?_, ?_⟩⟩
  · simp only
    rw [List.take_append_of_le_length hsu]
    exact st _ _ _ hls
  · simp only; rw [hm3]
  · simp only
    rw [hm3, List.drop_append_of_le_length hsu]
    exact st _ _ _ (Lies.of_own hO hU)
  · simp only; rw [hm3]; exact hcap
/-- what is pending becomes sure, up to a number of bytes -/
theorem RefAt.made {A2 : Option Addr} {m2 c2 : Nat} {l : List UInt8} (h : RefAt W U r (some ⟨g, 0, none⟩) c xs K T) (hT : T = T0 ++ (s, f) :: T1)
    (row : W'.ownsRow 0 99 3 (.slice (some ⟨g, 0, none⟩) T.length c) T.length ((xs.set (T0.length * 3 + 1) (.slice A2 m2 c2)).set (T0.length * 3 + 2) (.slice none 0 0))) (hg : W.grownBy W' (some g)) (hO : Own W B (.slice A2 m2 c2) m2 l) (hU : ∀ j, B ≤ j → U j) :
    ∃ xs', RefAt W' U r (some ⟨g, 0, none⟩) c xs' K (T0 ++ (s, ⟨l, l.length⟩) :: T1) := by
  have hels := h.fr.els
  rw [hT] at hels
  obtain ⟨x0, a, y, d, x1, hxs, hx0, _, ⟨ha, _⟩, _⟩ := hels.at_
  have hrow := h.fr.row
  rw [hxs, set_cell hx0, set_cell2 hx0] at row
  have hl : l.length = m2 := hO.len
  have hcap := hO.cap
  refine ⟨_, h.file hT hxs hx0 row hg ⟨ha, ⟨A2, c2, ?_, ?_, ?_⟩, none, 0, ?_, ?_, ?_⟩⟩
  · simp only; rw [hl]
  · simp only
    rw [hl, List.take_of_length_le (by omega)]
    exact (Lies.of_own hO hU).row hrow (by exact hg) (by decide)
  · simp only; rw [hl]; exact hcap
  · simp only; rw [Nat.sub_self]
  · simp only; rw [Nat.sub_self, List.drop_length]; exact Lies.nil _ _ _
  · simp only; omega
end
section
variable {U : Foot} {r : Nat}
set_option maxHeartbeats 2000000 in
theorem rSync_any (W : World) (S : DS) (s : List UInt8) (h : RefD W U r S) (hc : S.k.calls < 1000000) (hs : s.length ≤ 1000) (hU : Up U W) :
    Calls Try.prog 47 #[.pointer (some ⟨r, 0, none⟩), encStr s] W fun e W' => e = .returned (.int .i64 (S.sync s).1) ∧ RefD W' U r (S.sync s).2 ∧ Out U W W' := by
  have hwf' := h.1.sync (s := s) hc
  obtain ⟨h0, A, c, xs, h⟩ := h
  have hfew := h0.t.few
  have hris := h0.t.ris
  have hroom := h0.k.room
  have hfit := h0.t.fit
  obtain ⟨K, T⟩ := S
  simp only at h h0 hc hfew hris hroom hfit
  have fin : ∀ {W' : World} {A : Option Addr} {c : Nat} {xs : List Value} {q : Int × DS}, DS.sync ⟨K, T⟩ s = q → RefAt W' U r A c xs q.2.k q.2.t → RefD W' U r (DS.sync ⟨K, T⟩ s).2 := fun e h1 => .of hwf' (by rw [e]; exact h1)
  refine calls_vc Try.func47 rfl (by kernel_rfl) ?_
  ((conv => whnf); (repeat ((first | (refine VL.cons ?_) | (refine VL.nil ?_) | (refine VC.seqS rfl ?_) | (refine VC.region ?_) | (refine VC.draw ?_) | (refine VC.cond ?_) | (refine VC.block ?_) | (refine VC.exit ?_) | (refine VC.ret ?_) | (refine VC.skip ?_) | (refine VC.label ?_) | (refine VC.scope ?_) | (refine VQ.cons ?_) | (refine VQ.nil ?_) | (refine VG.nil ?_) | (refine VG.cons ?_)); (conv => whnf))))
  ((repeat ((first | (refine VL.cons ?_) | (refine VL.nil ?_) | (refine VC.seqS rfl ?_) | (refine VC.region ?_) | (refine VC.draw ?_) | (refine VC.cond ?_) | (refine VC.block ?_) | (refine VC.exit ?_) | (refine VC.ret ?_) | (refine VC.skip ?_) | (refine VC.label ?_) | (refine VC.scope ?_) | (refine VQ.cons ?_) | (refine VQ.nil ?_) | (refine VG.nil ?_) | (refine VG.cons ?_) | (refine VP.done ?_) | (refine VP.one ?_) | (refine VP.two ?_) | (refine VE.cons ?_) | (refine VE.nil ?_) | (refine VBool.t ?_) | (refine VBool.f ?_) | (refine VBool.dT (by omega) ?_) | (refine VBool.dF (by omega) ?_) | (refine VBool.nT (by omega) ?_) | (refine VBool.nF (by omega) ?_) | (refine VRead.lenS ?_) | (refine VRead.lenT ?_) | (refine VRead.fld ?_) | (refine VRead.load1 (by assumption) ?_) | (refine VRead.load (by assumption) ?_) | (refine VRead.neB ?_) | (refine VRead.eqPN ?_) | (refine VRead.nePN ?_) | (refine VRead.eqB ?_) | (refine VBool.nT rfl ?_) | (refine VBool.dT rfl ?_) | (refine VWrap.i64 (by omega) (by omega) ?_) | (refine VWrap.u64 (by omega) (by omega) ?_) | (refine VRead.at1 (by omega) ?_) | (refine VRead.eqNN ?_) | (refine VSem.convI ?_) | (refine VRead.convI ?_) | (refine VRead.rem (by omega) (by decide) ?_) | (refine VRead.neg ?_) | (refine VC.seq ?_)); (conv => whnf))))
  refine VCall.of (rCall_at W h h0.k) ?_
  rintro e W1 ⟨rfl, h1, hg1⟩
  have hO1 := Out.grown hg1 h.hr
  refine ⟨_, rfl, ?_⟩
  obtain ⟨e1, K1, hK⟩ : ∃ e1 K1, K.call = (e1, K1) := ⟨_, _, rfl⟩
  rw [hK] at h1 ⊢
  simp only at h1 ⊢
  have c1 : e1 ≠ 0 → DS.sync ⟨K, T⟩ s = (e1, ⟨K1, T⟩) := fun h => by unfold DS.sync; rw [hK]; exact if_pos h
  have c2 : e1 = 0 → ¬ nameOk s → DS.sync ⟨K, T⟩ s = (1, ⟨K1, T⟩) := fun h h' => by unfold DS.sync; rw [hK, if_neg (not_not_intro h)]; exact if_pos h'
  have c3 : e1 = 0 → nameOk s → tfind T s = none → DS.sync ⟨K, T⟩ s = (3, ⟨K1, T⟩) := fun h h' h'' => by unfold DS.sync; rw [hK, if_neg (not_not_intro h), if_neg (not_not_intro h'), h'']
  have c4 : ∀ f, e1 = 0 → nameOk s → tfind T s = some f → DS.sync ⟨K, T⟩ s = (0, ⟨K1, tset T s ⟨f.b, f.b.length⟩⟩) := fun f h h' h'' => by unfold DS.sync; rw [hK, if_neg (not_not_intro h), if_neg (not_not_intro h'), h'']
  by_cases he : e1 = 0
  case neg =>
    ((conv => whnf); (repeat ((first | (refine VL.cons ?_) | (refine VL.nil ?_) | (refine VC.seqS rfl ?_) | (refine VC.region ?_) | (refine VC.draw ?_) | (refine VC.cond ?_) | (refine VC.block ?_) | (refine VC.exit ?_) | (refine VC.ret ?_) | (refine VC.skip ?_) | (refine VC.label ?_) | (refine VC.scope ?_) | (refine VQ.cons ?_) | (refine VQ.nil ?_) | (refine VG.nil ?_) | (refine VG.cons ?_)); (conv => whnf))))
    ((repeat ((first | (refine VL.cons ?_) | (refine VL.nil ?_) | (refine VC.seqS rfl ?_) | (refine VC.region ?_) | (refine VC.draw ?_) | (refine VC.cond ?_) | (refine VC.block ?_) | (refine VC.exit ?_) | (refine VC.ret ?_) | (refine VC.skip ?_) | (refine VC.label ?_) | (refine VC.scope ?_) | (refine VQ.cons ?_) | (refine VQ.nil ?_) | (refine VG.nil ?_) | (refine VG.cons ?_) | (refine VP.done ?_) | (refine VP.one ?_) | (refine VP.two ?_) | (refine VE.cons ?_) | (refine VE.nil ?_) | (refine VBool.t ?_) | (refine VBool.f ?_) | (refine VBool.dT (by omega) ?_) | (refine VBool.dF (by omega) ?_) | (refine VBool.nT (by omega) ?_) | (refine VBool.nF (by omega) ?_) | (refine VRead.lenS ?_) | (refine VRead.lenT ?_) | (refine VRead.fld ?_) | (refine VRead.load1 (by assumption) ?_) | (refine VRead.load (by assumption) ?_) | (refine VRead.neB ?_) | (refine VRead.eqPN ?_) | (refine VRead.nePN ?_) | (refine VRead.eqB ?_) | (refine VBool.nT rfl ?_) | (refine VBool.dT rfl ?_) | (refine VWrap.i64 (by omega) (by omega) ?_) | (refine VWrap.u64 (by omega) (by omega) ?_) | (refine VRead.at1 (by omega) ?_) | (refine VRead.eqNN ?_) | (refine VSem.convI ?_) | (refine VRead.convI ?_) | (refine VRead.rem (by omega) (by decide) ?_) | (refine VRead.neg ?_) | (refine VC.seq ?_)); (conv => whnf))))
    exact ⟨by rw [c1 he]; rfl, fin (c1 he) h1, hO1⟩
  subst he
  ((conv => whnf); (repeat ((first | (refine VL.cons ?_) | (refine VL.nil ?_) | (refine VC.seqS rfl ?_) | (refine VC.region ?_) | (refine VC.draw ?_) | (refine VC.cond ?_) | (refine VC.block ?_) | (refine VC.exit ?_) | (refine VC.ret ?_) | (refine VC.skip ?_) | (refine VC.label ?_) | (refine VC.scope ?_) | (refine VQ.cons ?_) | (refine VQ.nil ?_) | (refine VG.nil ?_) | (refine VG.cons ?_)); (conv => whnf))))
  ((repeat ((first | (refine VL.cons ?_) | (refine VL.nil ?_) | (refine VC.seqS rfl ?_) | (refine VC.region ?_) | (refine VC.draw ?_) | (refine VC.cond ?_) | (refine VC.block ?_) | (refine VC.exit ?_) | (refine VC.ret ?_) | (refine VC.skip ?_) | (refine VC.label ?_) | (refine VC.scope ?_) | (refine VQ.cons ?_) | (refine VQ.nil ?_) | (refine VG.nil ?_) | (refine VG.cons ?_) | (refine VP.done ?_) | (refine VP.one ?_) | (refine VP.two ?_) | (refine VE.cons ?_) | (refine VE.nil ?_) | (refine VBool.t ?_) | (refine VBool.f ?_) | (refine VBool.dT (by omega) ?_) | (refine VBool.dF (by omega) ?_) | (refine VBool.nT (by omega) ?_) | (refine VBool.nF (by omega) ?_) | (refine VRead.lenS ?_) | (refine VRead.lenT ?_) | (refine VRead.fld ?_) | (refine VRead.load1 (by assumption) ?_) | (refine VRead.load (by assumption) ?_) | (refine VRead.neB ?_) | (refine VRead.eqPN ?_) | (refine VRead.nePN ?_) | (refine VRead.eqB ?_) | (refine VBool.nT rfl ?_) | (refine VBool.dT rfl ?_) | (refine VWrap.i64 (by omega) (by omega) ?_) | (refine VWrap.u64 (by omega) (by omega) ?_) | (refine VRead.at1 (by omega) ?_) | (refine VRead.eqNN ?_) | (refine VSem.convI ?_) | (refine VRead.convI ?_) | (refine VRead.rem (by omega) (by decide) ?_) | (refine VRead.neg ?_) | (refine VC.seq ?_)); (conv => whnf))))
  refine VCall.of (rNamed_any W1 s hs) ?_
  rintro e W1' ⟨rfl, eW⟩
  obtain rfl := eW.symm
  refine ⟨_, rfl, ?_⟩
  by_cases hn : nameOk s
  case neg =>
    rw [decide_eq_false hn]
    ((conv => whnf); (repeat ((first | (refine VL.cons ?_) | (refine VL.nil ?_) | (refine VC.seqS rfl ?_) | (refine VC.region ?_) | (refine VC.draw ?_) | (refine VC.cond ?_) | (refine VC.block ?_) | (refine VC.exit ?_) | (refine VC.ret ?_) | (refine VC.skip ?_) | (refine VC.label ?_) | (refine VC.scope ?_) | (refine VQ.cons ?_) | (refine VQ.nil ?_) | (refine VG.nil ?_) | (refine VG.cons ?_)); (conv => whnf))))
    ((repeat ((first | (refine VL.cons ?_) | (refine VL.nil ?_) | (refine VC.seqS rfl ?_) | (refine VC.region ?_) | (refine VC.draw ?_) | (refine VC.cond ?_) | (refine VC.block ?_) | (refine VC.exit ?_) | (refine VC.ret ?_) | (refine VC.skip ?_) | (refine VC.label ?_) | (refine VC.scope ?_) | (refine VQ.cons ?_) | (refine VQ.nil ?_) | (refine VG.nil ?_) | (refine VG.cons ?_) | (refine VP.done ?_) | (refine VP.one ?_) | (refine VP.two ?_) | (refine VE.cons ?_) | (refine VE.nil ?_) | (refine VBool.t ?_) | (refine VBool.f ?_) | (refine VBool.dT (by omega) ?_) | (refine VBool.dF (by omega) ?_) | (refine VBool.nT (by omega) ?_) | (refine VBool.nF (by omega) ?_) | (refine VRead.lenS ?_) | (refine VRead.lenT ?_) | (refine VRead.fld ?_) | (refine VRead.load1 (by assumption) ?_) | (refine VRead.load (by assumption) ?_) | (refine VRead.neB ?_) | (refine VRead.eqPN ?_) | (refine VRead.nePN ?_) | (refine VRead.eqB ?_) | (refine VBool.nT rfl ?_) | (refine VBool.dT rfl ?_) | (refine VWrap.i64 (by omega) (by omega) ?_) | (refine VWrap.u64 (by omega) (by omega) ?_) | (refine VRead.at1 (by omega) ?_) | (refine VRead.eqNN ?_) | (refine VSem.convI ?_) | (refine VRead.convI ?_) | (refine VRead.rem (by omega) (by decide) ?_) | (refine VRead.neg ?_) | (refine VC.seq ?_)); (conv => whnf))))
    exact ⟨by rw [c2 rfl hn]; rfl, fin (c2 rfl hn) h1, hO1⟩
  rw [decide_eq_true hn]
  ((conv => whnf); (repeat ((first | (refine VL.cons ?_) | (refine VL.nil ?_) | (refine VC.seqS rfl ?_) | (refine VC.region ?_) | (refine VC.draw ?_) | (refine VC.cond ?_) | (refine VC.block ?_) | (refine VC.exit ?_) | (refine VC.ret ?_) | (refine VC.skip ?_) | (refine VC.label ?_) | (refine VC.scope ?_) | (refine VQ.cons ?_) | (refine VQ.nil ?_) | (refine VG.nil ?_) | (refine VG.cons ?_)); (conv => whnf))))
  ((repeat ((first | (refine VL.cons ?_) | (refine VL.nil ?_) | (refine VC.seqS rfl ?_) | (refine VC.region ?_) | (refine VC.draw ?_) | (refine VC.cond ?_) | (refine VC.block ?_) | (refine VC.exit ?_) | (refine VC.ret ?_) | (refine VC.skip ?_) | (refine VC.label ?_) | (refine VC.scope ?_) | (refine VQ.cons ?_) | (refine VQ.nil ?_) | (refine VG.nil ?_) | (refine VG.cons ?_) | (refine VP.done ?_) | (refine VP.one ?_) | (refine VP.two ?_) | (refine VE.cons ?_) | (refine VE.nil ?_) | (refine VBool.t ?_) | (refine VBool.f ?_) | (refine VBool.dT (by omega) ?_) | (refine VBool.dF (by omega) ?_) | (refine VBool.nT (by omega) ?_) | (refine VBool.nF (by omega) ?_) | (refine VRead.lenS ?_) | (refine VRead.lenT ?_) | (refine VRead.fld ?_) | (refine VRead.load1 (by assumption) ?_) | (refine VRead.load (by assumption) ?_) | (refine VRead.neB ?_) | (refine VRead.eqPN ?_) | (refine VRead.nePN ?_) | (refine VRead.eqB ?_) | (refine VBool.nT rfl ?_) | (refine VBool.dT rfl ?_) | (refine VWrap.i64 (by omega) (by omega) ?_) | (refine VWrap.u64 (by omega) (by omega) ?_) | (refine VRead.at1 (by omega) ?_) | (refine VRead.eqNN ?_) | (refine VSem.convI ?_) | (refine VRead.convI ?_) | (refine VRead.rem (by omega) (by decide) ?_) | (refine VRead.neg ?_) | (refine VC.seq ?_)); (conv => whnf))))
  refine VCall.of (rFind_at W1 s h1 hris (by omega)) ?_
  rintro e W1' ⟨⟨k, rfl, hst⟩, eW⟩
  obtain rfl := eW.symm
  refine ⟨_, rfl, ?_⟩
  rcases hst with ⟨hf, rfl⟩ | ⟨T0, f, T1, hT, hf, rfl⟩
  · have c3' := c3 rfl hn hf
    ((conv => whnf); (repeat ((first | (refine VL.cons ?_) | (refine VL.nil ?_) | (refine VC.seqS rfl ?_) | (refine VC.region ?_) | (refine VC.draw ?_) | (refine VC.cond ?_) | (refine VC.block ?_) | (refine VC.exit ?_) | (refine VC.ret ?_) | (refine VC.skip ?_) | (refine VC.label ?_) | (refine VC.scope ?_) | (refine VQ.cons ?_) | (refine VQ.nil ?_) | (refine VG.nil ?_) | (refine VG.cons ?_)); (conv => whnf))))
    ((repeat ((first | (refine VL.cons ?_) | (refine VL.nil ?_) | (refine VC.seqS rfl ?_) | (refine VC.region ?_) | (refine VC.draw ?_) | (refine VC.cond ?_) | (refine VC.block ?_) | (refine VC.exit ?_) | (refine VC.ret ?_) | (refine VC.skip ?_) | (refine VC.label ?_) | (refine VC.scope ?_) | (refine VQ.cons ?_) | (refine VQ.nil ?_) | (refine VG.nil ?_) | (refine VG.cons ?_) | (refine VP.done ?_) | (refine VP.one ?_) | (refine VP.two ?_) | (refine VE.cons ?_) | (refine VE.nil ?_) | (refine VBool.t ?_) | (refine VBool.f ?_) | (refine VBool.dT (by omega) ?_) | (refine VBool.dF (by omega) ?_) | (refine VBool.nT (by omega) ?_) | (refine VBool.nF (by omega) ?_) | (refine VRead.lenS ?_) | (refine VRead.lenT ?_) | (refine VRead.fld ?_) | (refine VRead.load1 (by assumption) ?_) | (refine VRead.load (by assumption) ?_) | (refine VRead.neB ?_) | (refine VRead.eqPN ?_) | (refine VRead.nePN ?_) | (refine VRead.eqB ?_) | (refine VBool.nT rfl ?_) | (refine VBool.dT rfl ?_) | (refine VWrap.i64 (by omega) (by omega) ?_) | (refine VWrap.u64 (by omega) (by omega) ?_) | (refine VRead.at1 (by omega) ?_) | (refine VRead.eqNN ?_) | (refine VSem.convI ?_) | (refine VRead.convI ?_) | (refine VRead.rem (by omega) (by decide) ?_) | (refine VRead.neg ?_) | (refine VC.seq ?_)); (conv => whnf))))
    exact ⟨by rw [c3']; rfl, fin c3' h1, hO1⟩
  · have c4' := c4 f rfl hn hf
    have hTl : T.length = T0.length + (T1.length + 1) := by rw [hT]; simp
    have hlen := len_used (T := T) (p := (s, f)) (tfind_mem hf)
    have hsu := h0.t.sure (s, f) (tfind_mem hf)
    have hb : Blk W1 r 89 #[.slice A T.length c, .int .i64 K1.room, .int .i64 K1.calls, .bool K1.armed, .int .i64 K1.kind, .int .i64 K1.after, .bool K1.off] := h1.blk
    obtain ⟨g, As, cs, Ap, cp, rfl, hgl, d0, d1, d2, hls, hlp, hcs, hcp⟩ := rCell h1.fr hT
    simp only at hlen hsu d1 d2 hls hlp hcs hcp
    have hS : Below W1.heap.size W1 (W1.drewN 1) := below_drewN (Below.refl _ _) 1
    have kB : ∀ X, Below W1.heap.size W1 X → Blk X r 89 #[.slice (some ⟨g, 0, none⟩) T.length c, .int .i64 K1.room, .int .i64 K1.calls, .bool K1.armed, .int .i64 K1.kind, .int .i64 K1.after, .bool K1.off] := fun X hX => hb.below hX hb.lt
    have kc : ∀ {j : Nat} {v : Value}, W1.cell? (((⟨g, 0, none⟩ : Addr).add (T0.length * 3)).add j) = some v → ∀ X, Below W1.heap.size W1 X → X.cell? (((⟨g, 0, none⟩ : Addr).add (T0.length * 3)).add j) = some v := fun h X hX => by rw [hX.cell (by rw [add_blk, add_blk]; exact hgl)]; exact h
    ((conv => whnf); (repeat ((first | (refine VL.cons ?_) | (refine VL.nil ?_) | (refine VC.seqS rfl ?_) | (refine VC.region ?_) | (refine VC.draw ?_) | (refine VC.cond ?_) | (refine VC.block ?_) | (refine VC.exit ?_) | (refine VC.ret ?_) | (refine VC.skip ?_) | (refine VC.label ?_) | (refine VC.scope ?_) | (refine VQ.cons ?_) | (refine VQ.nil ?_) | (refine VG.nil ?_) | (refine VG.cons ?_)); (conv => whnf))))
    ((repeat ((first | (refine VL.cons ?_) | (refine VL.nil ?_) | (refine VC.seqS rfl ?_) | (refine VC.region ?_) | (refine VC.draw ?_) | (refine VC.cond ?_) | (refine VC.block ?_) | (refine VC.exit ?_) | (refine VC.ret ?_) | (refine VC.skip ?_) | (refine VC.label ?_) | (refine VC.scope ?_) | (refine VQ.cons ?_) | (refine VQ.nil ?_) | (refine VG.nil ?_) | (refine VG.cons ?_) | (refine VP.done ?_) | (refine VP.one ?_) | (refine VP.two ?_) | (refine VE.cons ?_) | (refine VE.nil ?_) | (refine VBool.t ?_) | (refine VBool.f ?_) | (refine VBool.dT (by omega) ?_) | (refine VBool.dF (by omega) ?_) | (refine VBool.nT (by omega) ?_) | (refine VBool.nF (by omega) ?_) | (refine VRead.lenS ?_) | (refine VRead.lenT ?_) | (refine VRead.fld ?_) | (refine VRead.load1 (by assumption) ?_) | (refine VRead.load (by assumption) ?_) | (refine VRead.neB ?_) | (refine VRead.eqPN ?_) | (refine VRead.nePN ?_) | (refine VRead.eqB ?_) | (refine VBool.nT rfl ?_) | (refine VBool.dT rfl ?_) | (refine VWrap.i64 (by omega) (by omega) ?_) | (refine VWrap.u64 (by omega) (by omega) ?_) | (refine VRead.at1 (by omega) ?_) | (refine VRead.eqNN ?_) | (refine VSem.convI ?_) | (refine VRead.convI ?_) | (refine VRead.rem (by omega) (by decide) ?_) | (refine VRead.neg ?_) | (refine VC.seq ?_)); (conv => whnf))))
    refine VDraw.lasts (fun X => Below W1.heap.size W1 X) [([0, 1, 2, 3, 4, 5, 6, 7, 8, 9, 10, 11, 12, 14, 15, 16, 17, 18, 19, 20, 21], 13), ([], 22)] [23, 24] 25 (by kernel_rfl) (by kernel_rfl) hS ?_
    (conv => whnf)
    (repeat ((first | (refine VRead.loadBS kB rfl rfl ?_) | (refine VRead.atK (by omega) ?_) | (refine VRead.load (kc d1) ?_) | (refine VRead.load (kc d2) ?_) | (refine VL.cons ?_) | (refine VL.nil ?_) | (refine VC.seqS rfl ?_) | (refine VC.region ?_) | (refine VC.draw ?_) | (refine VC.cond ?_) | (refine VC.block ?_) | (refine VC.exit ?_) | (refine VC.ret ?_) | (refine VC.skip ?_) | (refine VC.label ?_) | (refine VC.scope ?_) | (refine VQ.cons ?_) | (refine VQ.nil ?_) | (refine VG.nil ?_) | (refine VG.cons ?_) | (refine VP.done ?_) | (refine VP.one ?_) | (refine VP.two ?_) | (refine VE.cons ?_) | (refine VE.nil ?_) | (refine VBool.t ?_) | (refine VBool.f ?_) | (refine VBool.dT (by omega) ?_) | (refine VBool.dF (by omega) ?_) | (refine VBool.nT (by omega) ?_) | (refine VBool.nF (by omega) ?_) | (refine VRead.lenS ?_) | (refine VRead.lenT ?_) | (refine VRead.fld ?_) | (refine VRead.load1 (by assumption) ?_) | (refine VRead.load (by assumption) ?_) | (refine VRead.neB ?_) | (refine VRead.eqPN ?_) | (refine VRead.nePN ?_) | (refine VRead.eqB ?_) | (refine VBool.nT rfl ?_) | (refine VBool.dT rfl ?_) | (refine VWrap.i64 (by omega) (by omega) ?_) | (refine VWrap.u64 (by omega) (by omega) ?_) | (refine VRead.at1 (by omega) ?_) | (refine VRead.eqNN ?_) | (refine VSem.convI ?_) | (refine VRead.convI ?_) | (refine VRead.rem (by omega) (by decide) ?_) | (refine VRead.neg ?_) | (refine VC.seq ?_)); (conv => whnf)))
    refine VSem.appO (Own.nil (W1.drewN 1) W1.heap.size) (hls.below hS (Nat.le_refl _)).1 (by omega) (Nat.le_refl _) ?_
    intro A' k' W2 hO2 _ hB2
    rw [Nat.zero_add, List.nil_append] at hO2
    rw [Nat.zero_add]
    have hS2 := hS.trans hB2
    (conv => whnf)
    refine Keep.mk hS2 ?_
    (conv => whnf)
    (repeat ((first | (refine VRead.loadBS kB rfl rfl ?_) | (refine VL.cons ?_) | (refine VL.nil ?_) | (refine VC.seqS rfl ?_) | (refine VC.region ?_) | (refine VC.draw ?_) | (refine VC.cond ?_) | (refine VC.block ?_) | (refine VC.exit ?_) | (refine VC.ret ?_) | (refine VC.skip ?_) | (refine VC.label ?_) | (refine VC.scope ?_) | (refine VQ.cons ?_) | (refine VQ.nil ?_) | (refine VG.nil ?_) | (refine VG.cons ?_) | (refine VP.done ?_) | (refine VP.one ?_) | (refine VP.two ?_) | (refine VE.cons ?_) | (refine VE.nil ?_) | (refine VBool.t ?_) | (refine VBool.f ?_) | (refine VBool.dT (by omega) ?_) | (refine VBool.dF (by omega) ?_) | (refine VBool.nT (by omega) ?_) | (refine VBool.nF (by omega) ?_) | (refine VRead.lenS ?_) | (refine VRead.lenT ?_) | (refine VRead.fld ?_) | (refine VRead.load1 (by assumption) ?_) | (refine VRead.load (by assumption) ?_) | (refine VRead.neB ?_) | (refine VRead.eqPN ?_) | (refine VRead.nePN ?_) | (refine VRead.eqB ?_) | (refine VBool.nT rfl ?_) | (refine VBool.dT rfl ?_) | (refine VWrap.i64 (by omega) (by omega) ?_) | (refine VWrap.u64 (by omega) (by omega) ?_) | (refine VRead.at1 (by omega) ?_) | (refine VRead.eqNN ?_) | (refine VSem.convI ?_) | (refine VRead.convI ?_) | (refine VRead.rem (by omega) (by decide) ?_) | (refine VRead.neg ?_) | (refine VC.seq ?_)); (conv => whnf)))
    refine VSem.appO hO2 (hlp.below hS2 (Nat.le_refl _)).1 (by omega) hS2.size ?_
    intro A3 k3 W3 hO3 _ hB3
    rw [List.take_append_drop] at hO3
    have e : f.sure + (f.b.length - f.sure) = f.b.length := by omega
    rw [e] at hO3 ⊢
    have hS3 := hS2.trans hB3
    have h3 := h1.below hS3 (Nat.le_refl _)
    (conv => whnf)
    refine Keep.mk hS3 ?_
    (conv => whnf)
    (repeat ((first | (refine VRead.atK (by omega) ?_) | (refine VL.cons ?_) | (refine VL.nil ?_) | (refine VC.seqS rfl ?_) | (refine VC.region ?_) | (refine VC.draw ?_) | (refine VC.cond ?_) | (refine VC.block ?_) | (refine VC.exit ?_) | (refine VC.ret ?_) | (refine VC.skip ?_) | (refine VC.label ?_) | (refine VC.scope ?_) | (refine VQ.cons ?_) | (refine VQ.nil ?_) | (refine VG.nil ?_) | (refine VG.cons ?_) | (refine VP.done ?_) | (refine VP.one ?_) | (refine VP.two ?_) | (refine VE.cons ?_) | (refine VE.nil ?_) | (refine VBool.t ?_) | (refine VBool.f ?_) | (refine VBool.dT (by omega) ?_) | (refine VBool.dF (by omega) ?_) | (refine VBool.nT (by omega) ?_) | (refine VBool.nF (by omega) ?_) | (refine VRead.lenS ?_) | (refine VRead.lenT ?_) | (refine VRead.fld ?_) | (refine VRead.load1 (by assumption) ?_) | (refine VRead.load (by assumption) ?_) | (refine VRead.neB ?_) | (refine VRead.eqPN ?_) | (refine VRead.nePN ?_) | (refine VRead.eqB ?_) | (refine VBool.nT rfl ?_) | (refine VBool.dT rfl ?_) | (refine VWrap.i64 (by omega) (by omega) ?_) | (refine VWrap.u64 (by omega) (by omega) ?_) | (refine VRead.at1 (by omega) ?_) | (refine VRead.eqNN ?_) | (refine VSem.convI ?_) | (refine VRead.convI ?_) | (refine VRead.rem (by omega) (by decide) ?_) | (refine VRead.neg ?_) | (refine VC.seq ?_)); (conv => whnf)))
    refine VUnit.storeRw h3.fr.row (j := T0.length * 3 + 1) (by rw [add0]; rfl) (by omega) rfl ?_
    intro W4 row4 hg4
    have hb4 : Blk W4 r 89 #[.slice (some ⟨g, 0, none⟩) T.length c, .int .i64 K1.room, .int .i64 K1.calls, .bool K1.armed, .int .i64 K1.kind, .int .i64 K1.after, .bool K1.off] := (kB W3 hS3).grown hg4 (fun e => by
      obtain ⟨_, cs, hc⟩ := row_cells h3.fr.row g rfl
      have e := Option.some.inj e
      subst e
      have hb' := kB W3 hS3
      unfold Blk at hb'
      rw [hc] at hb'
      injection hb' with hb'
      injection hb' with _ h2 _
      exact absurd h2 (by decide))
    (conv => whnf)
    refine Keep.mk trivial ?_
    (conv => whnf)
    (repeat (first | ((first | (refine VL.cons ?_) | (refine VL.nil ?_) | (refine VC.seqS rfl ?_) | (refine VC.region ?_) | (refine VC.draw ?_) | (refine VC.cond ?_) | (refine VC.block ?_) | (refine VC.exit ?_) | (refine VC.ret ?_) | (refine VC.skip ?_) | (refine VC.label ?_) | (refine VC.scope ?_) | (refine VQ.cons ?_) | (refine VQ.nil ?_) | (refine VG.nil ?_) | (refine VG.cons ?_) | (refine VP.done ?_) | (refine VP.one ?_) | (refine VP.two ?_) | (refine VE.cons ?_) | (refine VE.nil ?_) | (refine VBool.t ?_) | (refine VBool.f ?_) | (refine VBool.dT (by omega) ?_) | (refine VBool.dF (by omega) ?_) | (refine VBool.nT (by omega) ?_) | (refine VBool.nF (by omega) ?_) | (refine VRead.lenS ?_) | (refine VRead.lenT ?_) | (refine VRead.fld ?_) | (refine VRead.load1 (by assumption) ?_) | (refine VRead.load (by assumption) ?_) | (refine VRead.neB ?_) | (refine VRead.eqPN ?_) | (refine VRead.nePN ?_) | (refine VRead.eqB ?_) | (refine VBool.nT rfl ?_) | (refine VBool.dT rfl ?_) | (refine VWrap.i64 (by omega) (by omega) ?_) | (refine VWrap.u64 (by omega) (by omega) ?_) | (refine VRead.at1 (by omega) ?_) | (refine VRead.eqNN ?_) | (refine VSem.convI ?_) | (refine VRead.convI ?_) | (refine VRead.rem (by omega) (by decide) ?_) | (refine VRead.neg ?_) | (refine VC.seq ?_)); (conv => whnf)) | (refine VRead.loadB hb4 rfl rfl ?_; (conv => whnf)) | (refine VRead.atK (by omega) ?_; (conv => whnf))))
    refine VUnit.storeRw row4 (j := T0.length * 3 + 2) (by rw [add0]; rfl) (by omega) rfl ?_
    intro W5 row5 hg5
    ((conv => whnf); (repeat ((first | (refine VL.cons ?_) | (refine VL.nil ?_) | (refine VC.seqS rfl ?_) | (refine VC.region ?_) | (refine VC.draw ?_) | (refine VC.cond ?_) | (refine VC.block ?_) | (refine VC.exit ?_) | (refine VC.ret ?_) | (refine VC.skip ?_) | (refine VC.label ?_) | (refine VC.scope ?_) | (refine VQ.cons ?_) | (refine VQ.nil ?_) | (refine VG.nil ?_) | (refine VG.cons ?_)); (conv => whnf))))
    ((repeat ((first | (refine VL.cons ?_) | (refine VL.nil ?_) | (refine VC.seqS rfl ?_) | (refine VC.region ?_) | (refine VC.draw ?_) | (refine VC.cond ?_) | (refine VC.block ?_) | (refine VC.exit ?_) | (refine VC.ret ?_) | (refine VC.skip ?_) | (refine VC.label ?_) | (refine VC.scope ?_) | (refine VQ.cons ?_) | (refine VQ.nil ?_) | (refine VG.nil ?_) | (refine VG.cons ?_) | (refine VP.done ?_) | (refine VP.one ?_) | (refine VP.two ?_) | (refine VE.cons ?_) | (refine VE.nil ?_) | (refine VBool.t ?_) | (refine VBool.f ?_) | (refine VBool.dT (by omega) ?_) | (refine VBool.dF (by omega) ?_) | (refine VBool.nT (by omega) ?_) | (refine VBool.nF (by omega) ?_) | (refine VRead.lenS ?_) | (refine VRead.lenT ?_) | (refine VRead.fld ?_) | (refine VRead.load1 (by assumption) ?_) | (refine VRead.load (by assumption) ?_) | (refine VRead.neB ?_) | (refine VRead.eqPN ?_) | (refine VRead.nePN ?_) | (refine VRead.eqB ?_) | (refine VBool.nT rfl ?_) | (refine VBool.dT rfl ?_) | (refine VWrap.i64 (by omega) (by omega) ?_) | (refine VWrap.u64 (by omega) (by omega) ?_) | (refine VRead.at1 (by omega) ?_) | (refine VRead.eqNN ?_) | (refine VSem.convI ?_) | (refine VRead.convI ?_) | (refine VRead.rem (by omega) (by decide) ?_) | (refine VRead.neg ?_) | (refine VC.seq ?_)); (conv => whnf))))
    have hg : W3.grownBy W5 (some g) := only_trans hg4 hg5
    obtain ⟨xs5, h5⟩ := h3.made hT row5 hg hO3 (fun j hj => hU j (Nat.le_trans hO1.size hj))
    refine ⟨by rw [c4']; rfl, fin (A := some ⟨g, 0, none⟩) (c := c) (xs := xs5) c4' ?_, hO1.trans ((Out.new hS3).trans (Out.grown hg (h3.fr.foot g rfl)))⟩
    simp only
    rw [hT, tset_old (by rw [← hT]; exact hris)]
    exact h5
end
end Go.Proofs.Ytajheglnhfjodaa
