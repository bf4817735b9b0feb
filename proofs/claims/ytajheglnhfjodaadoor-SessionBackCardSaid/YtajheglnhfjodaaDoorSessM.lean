/- Tables as bytes: plain; Put. No condition. -/
import Derived.Test.YtajheglnhfjodaaDoorSessL
set_option maxRecDepth 10000
namespace Go.Proofs.YtajheglnhfjodaaDoor
set_option linter.unusedVariables false
open Go.RowKit
open Go.Maps (Keyed)
open Go.ChangeMaps Go.WideElems

/-! ### what was put is read -/
theorem intS_put {v : Int} (h : i64' v) (t : List UInt8) : Wire.intS (some (Wire.int v ++ t)) = (v, some t) := by
  unfold Wire.intS
  simp only
  rw [Wire.getInt_int h]
theorem countS_put {most : Int} {n : Nat} {t : List UInt8} (h1 : (n : Int) ≤ most) (h2 : n ≤ t.length) (h3 : n ≤ 9223372036854775807) : Wire.countS most (some (Wire.int (n : Int) ++ t)) = ((n : Int), some t) := by
  unfold Wire.countS
  rw [intS_put (by unfold i64'; omega)]
  simp only
  rw [if_neg (by omega)]
theorem textS_put {most : Int} {s t : List UInt8} (h1 : (s.length : Int) ≤ most) (h3 : s.length ≤ 9223372036854775807) : Wire.textS most (some (Wire.text s ++ t)) = (s, some t) := by
  unfold Wire.textS Wire.text
  rw [List.append_assoc, countS_put h1 (by simp) h3]
  simp
theorem VOk_le {k n : Int} {s : List UInt8} (h : VOk k n s = true) : 0 ≤ k ∧ k ≤ 4 ∧ s.length ≤ 400 := by
  unfold VOk at h
  split at h
  · simp at h; rw [h.2]; subst_vars; simp
  · split at h
    · simp at h; rw [h]; subst_vars; simp
    · split at h
      · simp at h; rw [h.2]; subst_vars; simp
      · split at h
        · unfold textOk at h; simp at h; subst_vars; exact ⟨by decide, by decide, h.2.1.1⟩
        · split at h
          · simp at h; rw [h.2]; subst_vars; simp
          · cases h
theorem vGetS_put {k n : Int} {s : List UInt8} (h : VOk k n s = true) (hn : i64' n) (t : List UInt8) : vGetS (some (vB k n s ++ t)) = ((k, n, s), some t) := by
  obtain ⟨h1, h2, h3⟩ := VOk_le h
  unfold vGetS vB
  rw [List.append_assoc, List.append_assoc, intS_put (by unfold i64'; omega)]
  simp only
  rw [intS_put hn]
  simp only
  rw [textS_put (by omega) (by omega)]
  simp only
  rw [h]
  rfl
theorem ROk_le {r : Rp} (h : ROk r = true) : 0 ≤ r.err ∧ r.err ≤ 24 ∧ 0 ≤ r.n ∧ r.n ≤ 1099511627776 ∧ VOk r.kind r.vn r.s = true := by
  unfold ROk at h
  simp at h
  exact ⟨h.1.1.1.1, h.1.1.1.2, h.1.1.2, h.1.2, h.2⟩
theorem getR_put {r : Rp} (h : ROk r = true) (hv : i64' r.vn) : getR (rB r) = (r, true) := by
  obtain ⟨h1, h2, h3, h4, h5⟩ := ROk_le h
  have e0 : rB r = Wire.int r.err ++ (Wire.int r.n ++ (vB r.kind r.vn r.s ++ [])) := by unfold rB; simp
  have e1 : Wire.intS (some (rB r)) = (r.err, some (Wire.int r.n ++ (vB r.kind r.vn r.s ++ []))) := by rw [e0]; exact intS_put (by unfold i64'; omega) _
  have e2 : Wire.intS (some (Wire.int r.n ++ (vB r.kind r.vn r.s ++ []))) = (r.n, some (vB r.kind r.vn r.s ++ [])) := intS_put (by unfold i64'; omega) _
  have e3 := vGetS_put h5 hv []
  have e4 : rdR (rB r) = r := by unfold rdR; rw [e1]; simp only; rw [e2]; simp only; rw [e3]
  have e5 : rdS (rB r) = some [] := by unfold rdS; rw [e1]; simp only; rw [e2]; simp only; rw [e3]
  unfold getR
  rw [e4, e5, h]
  rfl
theorem rB_le {r : Rp} (h : ROk r = true) : (rB r).length ≤ 450 := by
  obtain ⟨h1, h2, h3, h4, h5⟩ := ROk_le h
  have := (VOk_le h5).2.2
  have a1 := (Wire.int_len r.err).2
  have a2 := (Wire.int_len r.n).2
  have a3 := (Wire.int_len r.kind).2
  have a4 := (Wire.int_len r.vn).2
  have a5 := (Wire.int_len (r.s.length : Int)).2
  unfold rB vB Wire.text
  simp only [List.length_append]
  omega
/-! ### tables -/
structure SeOk (i : Int) (x : Se) : Prop where
  used : i ≤ x.used ∧ x.used ≤ 1099511627776
  seq : 0 ≤ x.seq ∧ x.seq ≤ 1099511627776
  rp : ROk x.rp = true
  vn : i64' x.rp.vn
  none_ : x.seq = 0 → x.rp = Rp.zero
def TOk (T : STb) : Prop := ∀ p ∈ T, SeOk p.1 p.2
def enB (p : Int × Se) : List UInt8 := Wire.int p.1 ++ Wire.int p.2.used ++ Wire.int p.2.seq ++ Wire.text (rB p.2.rp)
def tabB : STb → List UInt8
  | [] => []
  | p :: r => enB p ++ tabB r
def SS.put (S : SS) : List UInt8 := Wire.int (S.t.length : Int) ++ tabB S.t
theorem tabB_snoc (p : Int × Se) : ∀ (A : STb), tabB (A ++ [p]) = tabB A ++ enB p
  | [] => by simp [tabB]
  | q :: A => by
    show enB q ++ tabB (A ++ [p]) = (enB q ++ tabB A) ++ enB p
    rw [tabB_snoc p A, List.append_assoc]
theorem sLook0 {W : World} {m c : Nat} {L : STb} {i : Int} {Q : Value → World → Prop} (h : MapS W m c L) (hi : -9223372036854775808 ≤ i ∧ i ≤ 9223372036854775807)
    (hk : Q (sLookV L i) W) : VSem Tryd.prog (Instr.lookup 60 (.map (some m)) (ikey i) false) W Q := by
  obtain ⟨n, D, h1, h2, R⟩ := h
  refine VSem.mapAt h2 i_keyed (z := seZ) seZ_run (i_key hi) ?_
  unfold sLookV at hk
  cases hf : tfind L i with
  | none =>
    rw [hf] at hk
    rw [mval_not (R.hasF ilit_inj (tfind_none hf))]
    exact hk
  | some p =>
    rw [hf] at hk
    rw [R.at_ (i, p) (tfind_mem hf)]
    exact hk
theorem lenS {S : World → Prop} {ty : Nat} {m nD : Nat} {L : STb} {D : DataW Value} {Q : Value → Prop} (h : ∀ W, S W → MapIs Tryd.prog 3 W m nD D) (R : Rel Tryd.prog 3 ikey ilit seV D L) (hk : Q (.int .i64 (L.length : Int))) :
    VRead Tryd.prog S (Builtin.len_ #[60] ty [.map (some m)].toArray) Q := by
  refine VRead.mapLen h ?_
  rw [R.size]; exact hk
set_option maxHeartbeats 4000000 in
theorem sPut_any (W : World) (U : Foot) (d c : Nat) (S : SS) (A : Option Addr) (n k : Nat) (l : List UInt8) (h : Tbl W U d c S) (hok : TOk S.t) (hn : n ≤ 1000000) (hnk : n ≤ k) (hr : Reads W W.heap.size 1 A n (bv l)) :
    Calls Tryd.prog 17 #[.pointer (some ⟨d, 0, none⟩), .slice A n k] W fun e W' => ∃ A' m c', e = .returned (.slice A' m c') ∧ Own W' W.heap.size (.slice A' m c') m (l ++ S.put) ∧ m ≤ n + 50000 ∧ m ≤ c' ∧ Below W.heap.size W W' := by
  have hT := h
  obtain ⟨hwf, m, h⟩ := h
  have hfew := hwf.few
  have hmost := hwf.most
  have hb := h.blk
  obtain ⟨nD, D, h1, h2, R⟩ := h.map
  refine calls_vc Tryd.func17 rfl (by kernel_rfl) ?_
  ((conv => whnf); (repeat ((first | (refine VL.cons ?_) | (refine VL.nil ?_) | (refine VC.seqS rfl ?_) | (refine VC.region ?_) | (refine VC.draw ?_) | (refine VC.cond ?_) | (refine VC.block ?_) | (refine VC.exit ?_) | (refine VC.ret ?_) | (refine VC.skip ?_) | (refine VC.label ?_) | (refine VC.scope ?_) | (refine VQ.cons ?_) | (refine VQ.nil ?_) | (refine VG.nil ?_) | (refine VG.cons ?_)); (conv => whnf))))
  (repeat (first | ((first | (refine VL.cons ?_) | (refine VL.nil ?_) | (refine VC.seqS rfl ?_) | (refine VC.region ?_) | (refine VC.draw ?_) | (refine VC.cond ?_) | (refine VC.block ?_) | (refine VC.exit ?_) | (refine VC.ret ?_) | (refine VC.skip ?_) | (refine VC.label ?_) | (refine VC.scope ?_) | (refine VQ.cons ?_) | (refine VQ.nil ?_) | (refine VG.nil ?_) | (refine VG.cons ?_) | (refine VP.done ?_) | (refine VP.one ?_) | (refine VP.two ?_) | (refine VE.cons ?_) | (refine VE.nil ?_) | (refine VBool.t ?_) | (refine VBool.f ?_) | (refine VBool.dT (by omega) ?_) | (refine VBool.dF (by omega) ?_) | (refine VBool.nT (by omega) ?_) | (refine VBool.nF (by omega) ?_) | (refine VRead.lenS ?_) | (refine VRead.lenT ?_) | (refine VRead.fld ?_) | (refine VRead.load1 (by assumption) ?_) | (refine VRead.load (by assumption) ?_) | (refine VRead.neB ?_) | (refine VRead.eqPN ?_) | (refine VRead.nePN ?_) | (refine VRead.eqB ?_) | (refine VBool.nT rfl ?_) | (refine VBool.dT rfl ?_) | (refine VWrap.i64 (by omega) (by omega) ?_) | (refine VWrap.u64 (by omega) (by omega) ?_) | (refine VRead.at1 (by omega) ?_) | (refine VRead.eqNN ?_) | (refine VSem.convI ?_) | (refine VRead.convI ?_) | (refine VRead.rem (by omega) (by decide) ?_) | (refine VRead.neg ?_) | (refine VC.seq ?_)); (conv => whnf)) | (refine VRead.loadB hb rfl rfl ?_; (conv => whnf)) | (refine lenS (fun _ e => e ▸ h2) R ?_; (conv => whnf))))
  refine VCall.of (putInt_up (B := W.heap.size) A n k l (S.t.length : Int) W (Nat.le_refl _) (by omega) hnk (by unfold i64'; omega) hr) ?_
  rintro e W1 ⟨A1, n1, c1, rfl, hO1, hn1, hc1, hB1⟩
  refine ⟨_, rfl, ?_⟩
  ((conv => whnf); (repeat ((first | (refine VL.cons ?_) | (refine VL.nil ?_) | (refine VC.seqS rfl ?_) | (refine VC.region ?_) | (refine VC.draw ?_) | (refine VC.cond ?_) | (refine VC.block ?_) | (refine VC.exit ?_) | (refine VC.ret ?_) | (refine VC.skip ?_) | (refine VC.label ?_) | (refine VC.scope ?_) | (refine VQ.cons ?_) | (refine VQ.nil ?_) | (refine VG.nil ?_) | (refine VG.cons ?_)); (conv => whnf))))
  ((repeat ((first | (refine VL.cons ?_) | (refine VL.nil ?_) | (refine VC.seqS rfl ?_) | (refine VC.region ?_) | (refine VC.draw ?_) | (refine VC.cond ?_) | (refine VC.block ?_) | (refine VC.exit ?_) | (refine VC.ret ?_) | (refine VC.skip ?_) | (refine VC.label ?_) | (refine VC.scope ?_) | (refine VQ.cons ?_) | (refine VQ.nil ?_) | (refine VG.nil ?_) | (refine VG.cons ?_) | (refine VP.done ?_) | (refine VP.one ?_) | (refine VP.two ?_) | (refine VE.cons ?_) | (refine VE.nil ?_) | (refine VBool.t ?_) | (refine VBool.f ?_) | (refine VBool.dT (by omega) ?_) | (refine VBool.dF (by omega) ?_) | (refine VBool.nT (by omega) ?_) | (refine VBool.nF (by omega) ?_) | (refine VRead.lenS ?_) | (refine VRead.lenT ?_) | (refine VRead.fld ?_) | (refine VRead.load1 (by assumption) ?_) | (refine VRead.load (by assumption) ?_) | (refine VRead.neB ?_) | (refine VRead.eqPN ?_) | (refine VRead.nePN ?_) | (refine VRead.eqB ?_) | (refine VBool.nT rfl ?_) | (refine VBool.dT rfl ?_) | (refine VWrap.i64 (by omega) (by omega) ?_) | (refine VWrap.u64 (by omega) (by omega) ?_) | (refine VRead.at1 (by omega) ?_) | (refine VRead.eqNN ?_) | (refine VSem.convI ?_) | (refine VRead.convI ?_) | (refine VRead.rem (by omega) (by decide) ?_) | (refine VRead.neg ?_) | (refine VC.seq ?_)); (conv => whnf))))
  refine VCall.of (sIDs_any W1 U d c S (hT.below hB1 (Nat.le_refl _))) ?_
  rintro e W2 ⟨Ai, ki, rfl, hI, hB2⟩
  refine ⟨_, rfl, ?_⟩
  have hB02 := hB1.trans (hB2.mono hB1.size)
  have hI2 := Reads.row hI
  have hO2 := rows_below hO1 hB2 (Nat.le_refl _)
  ((conv => whnf); (repeat ((first | (refine VL.cons ?_) | (refine VL.nil ?_) | (refine VC.seqS rfl ?_) | (refine VC.region ?_) | (refine VC.draw ?_) | (refine VC.cond ?_) | (refine VC.block ?_) | (refine VC.exit ?_) | (refine VC.ret ?_) | (refine VC.skip ?_) | (refine VC.label ?_) | (refine VC.scope ?_) | (refine VQ.cons ?_) | (refine VQ.nil ?_) | (refine VG.nil ?_) | (refine VG.cons ?_)); (conv => whnf))))
  ((repeat ((first | (refine VL.cons ?_) | (refine VL.nil ?_) | (refine VC.seqS rfl ?_) | (refine VC.region ?_) | (refine VC.draw ?_) | (refine VC.cond ?_) | (refine VC.block ?_) | (refine VC.exit ?_) | (refine VC.ret ?_) | (refine VC.skip ?_) | (refine VC.label ?_) | (refine VC.scope ?_) | (refine VQ.cons ?_) | (refine VQ.nil ?_) | (refine VG.nil ?_) | (refine VG.cons ?_) | (refine VP.done ?_) | (refine VP.one ?_) | (refine VP.two ?_) | (refine VE.cons ?_) | (refine VE.nil ?_) | (refine VBool.t ?_) | (refine VBool.f ?_) | (refine VBool.dT (by omega) ?_) | (refine VBool.dF (by omega) ?_) | (refine VBool.nT (by omega) ?_) | (refine VBool.nF (by omega) ?_) | (refine VRead.lenS ?_) | (refine VRead.lenT ?_) | (refine VRead.fld ?_) | (refine VRead.load1 (by assumption) ?_) | (refine VRead.load (by assumption) ?_) | (refine VRead.neB ?_) | (refine VRead.eqPN ?_) | (refine VRead.nePN ?_) | (refine VRead.eqB ?_) | (refine VBool.nT rfl ?_) | (refine VBool.dT rfl ?_) | (refine VWrap.i64 (by omega) (by omega) ?_) | (refine VWrap.u64 (by omega) (by omega) ?_) | (refine VRead.at1 (by omega) ?_) | (refine VRead.eqNN ?_) | (refine VSem.convI ?_) | (refine VRead.convI ?_) | (refine VRead.rem (by omega) (by decide) ?_) | (refine VRead.neg ?_) | (refine VC.seq ?_)); (conv => whnf))))
  refine VC.loop [1, 18] [(1, 1), (6, 7), (18, 43)] (fun q vs w => ∃ (T0 T1 : STb) (A2 : Option Addr) (n2 c2 : Nat), vs = [.slice A2 n2 c2, .int .i64 (T0.length : Int)] ∧ q = T1.length ∧ S.t = T0 ++ T1 ∧ Own w W.heap.size (.slice A2 n2 c2) n2 (l ++ Wire.int (S.t.length : Int) ++ tabB T0) ∧ n2 ≤ n + 10 + 600 * T0.length ∧ n2 ≤ c2 ∧ Below W2.heap.size W2 w) (by kernel_rfl)
    ⟨_, [], S.t, A1, n1, c1, rfl, rfl, rfl, (by rw [show l ++ Wire.int (S.t.length : Int) ++ tabB [] = l ++ Wire.int (S.t.length : Int) by simp [tabB]]; exact hO2), by simpa using hn1, hc1, Below.refl _ _⟩ ?_
  clear hr hO1 hO2 hI
  rintro q τ vs w ⟨T0, T1, A2, n2, c2, rfl, rfl, hS, hO, hn2, hc2, hBw⟩
  have hTl : S.t.length = T0.length + T1.length := by rw [hS]; simp
  have hBW := hB02.trans (hBw.mono hB02.size)
  cases T1 with
  | nil =>
    rw [List.append_nil] at hS
    simp only [List.length_nil] at hTl
    ((conv => whnf); (repeat ((first | (refine VL.cons ?_) | (refine VL.nil ?_) | (refine VC.seqS rfl ?_) | (refine VC.region ?_) | (refine VC.draw ?_) | (refine VC.cond ?_) | (refine VC.block ?_) | (refine VC.exit ?_) | (refine VC.ret ?_) | (refine VC.skip ?_) | (refine VC.label ?_) | (refine VC.scope ?_) | (refine VQ.cons ?_) | (refine VQ.nil ?_) | (refine VG.nil ?_) | (refine VG.cons ?_)); (conv => whnf))))
    ((repeat ((first | (refine VL.cons ?_) | (refine VL.nil ?_) | (refine VC.seqS rfl ?_) | (refine VC.region ?_) | (refine VC.draw ?_) | (refine VC.cond ?_) | (refine VC.block ?_) | (refine VC.exit ?_) | (refine VC.ret ?_) | (refine VC.skip ?_) | (refine VC.label ?_) | (refine VC.scope ?_) | (refine VQ.cons ?_) | (refine VQ.nil ?_) | (refine VG.nil ?_) | (refine VG.cons ?_) | (refine VP.done ?_) | (refine VP.one ?_) | (refine VP.two ?_) | (refine VE.cons ?_) | (refine VE.nil ?_) | (refine VBool.t ?_) | (refine VBool.f ?_) | (refine VBool.dT (by omega) ?_) | (refine VBool.dF (by omega) ?_) | (refine VBool.nT (by omega) ?_) | (refine VBool.nF (by omega) ?_) | (refine VRead.lenS ?_) | (refine VRead.lenT ?_) | (refine VRead.fld ?_) | (refine VRead.load1 (by assumption) ?_) | (refine VRead.load (by assumption) ?_) | (refine VRead.neB ?_) | (refine VRead.eqPN ?_) | (refine VRead.nePN ?_) | (refine VRead.eqB ?_) | (refine VBool.nT rfl ?_) | (refine VBool.dT rfl ?_) | (refine VWrap.i64 (by omega) (by omega) ?_) | (refine VWrap.u64 (by omega) (by omega) ?_) | (refine VRead.at1 (by omega) ?_) | (refine VRead.eqNN ?_) | (refine VSem.convI ?_) | (refine VRead.convI ?_) | (refine VRead.rem (by omega) (by decide) ?_) | (refine VRead.neg ?_) | (refine VC.seq ?_)); (conv => whnf))))
    refine ⟨A2, n2, c2, rfl, ?_, by omega, hc2, hBW⟩
    unfold SS.put
    rw [hS] at hO ⊢
    rw [← List.append_assoc]
    exact hO
  | cons p T1 =>
    simp only [List.length_cons] at hTl
    have hp : p ∈ S.t := by rw [hS]; simp
    have hpo := hok p hp
    have hpi := hwf.ids p hp
    have hrl := rB_le hpo.rp
    obtain ⟨q1, q2, q3, q4, q5⟩ := ROk_le hpo.rp
    have hvl := VOk_le q5
    have hu := hpo.used
    have hsq := hpo.seq
    have hf : tfind S.t p.1 = some p.2 := tfind_of hwf.ris.nd hp
    have hV : sLookV S.t p.1 = seV p.2 := by unfold sLookV; rw [hf]
    obtain ⟨ai, u, rfl, hai, hui, hci⟩ := (hI2.below hBw).at_ (k := T0.length) (by omega)
    obtain rfl : u = .int .i64 p.1 := by
      rw [hS] at hui
      unfold iv at hui
      simp at hui
      exact hui.symm
    have hbw := hb.below hBW hb.lt
    have hMw : MapS w m c S.t := (show MapS W m c S.t from ⟨nD, D, h1, h2, R⟩).below hBW (Nat.le_refl _)
    ((conv => whnf); (repeat ((first | (refine VL.cons ?_) | (refine VL.nil ?_) | (refine VC.seqS rfl ?_) | (refine VC.region ?_) | (refine VC.draw ?_) | (refine VC.cond ?_) | (refine VC.block ?_) | (refine VC.exit ?_) | (refine VC.ret ?_) | (refine VC.skip ?_) | (refine VC.label ?_) | (refine VC.scope ?_) | (refine VQ.cons ?_) | (refine VQ.nil ?_) | (refine VG.nil ?_) | (refine VG.cons ?_)); (conv => whnf))))
    (repeat (first | ((first | (refine VL.cons ?_) | (refine VL.nil ?_) | (refine VC.seqS rfl ?_) | (refine VC.region ?_) | (refine VC.draw ?_) | (refine VC.cond ?_) | (refine VC.block ?_) | (refine VC.exit ?_) | (refine VC.ret ?_) | (refine VC.skip ?_) | (refine VC.label ?_) | (refine VC.scope ?_) | (refine VQ.cons ?_) | (refine VQ.nil ?_) | (refine VG.nil ?_) | (refine VG.cons ?_) | (refine VP.done ?_) | (refine VP.one ?_) | (refine VP.two ?_) | (refine VE.cons ?_) | (refine VE.nil ?_) | (refine VBool.t ?_) | (refine VBool.f ?_) | (refine VBool.dT (by omega) ?_) | (refine VBool.dF (by omega) ?_) | (refine VBool.nT (by omega) ?_) | (refine VBool.nF (by omega) ?_) | (refine VRead.lenS ?_) | (refine VRead.lenT ?_) | (refine VRead.fld ?_) | (refine VRead.load1 (by assumption) ?_) | (refine VRead.load (by assumption) ?_) | (refine VRead.neB ?_) | (refine VRead.eqPN ?_) | (refine VRead.nePN ?_) | (refine VRead.eqB ?_) | (refine VBool.nT rfl ?_) | (refine VBool.dT rfl ?_) | (refine VWrap.i64 (by omega) (by omega) ?_) | (refine VWrap.u64 (by omega) (by omega) ?_) | (refine VRead.at1 (by omega) ?_) | (refine VRead.eqNN ?_) | (refine VSem.convI ?_) | (refine VRead.convI ?_) | (refine VRead.rem (by omega) (by decide) ?_) | (refine VRead.neg ?_) | (refine VC.seq ?_)); (conv => whnf)) | (refine VRead.loadB hbw rfl rfl ?_; (conv => whnf))))
    refine sLook0 hMw (by omega) ?_
    rw [hV]
    ((conv => whnf); (repeat ((first | (refine VL.cons ?_) | (refine VL.nil ?_) | (refine VC.seqS rfl ?_) | (refine VC.region ?_) | (refine VC.draw ?_) | (refine VC.cond ?_) | (refine VC.block ?_) | (refine VC.exit ?_) | (refine VC.ret ?_) | (refine VC.skip ?_) | (refine VC.label ?_) | (refine VC.scope ?_) | (refine VQ.cons ?_) | (refine VQ.nil ?_) | (refine VG.nil ?_) | (refine VG.cons ?_)); (conv => whnf))))
    ((repeat ((first | (refine VL.cons ?_) | (refine VL.nil ?_) | (refine VC.seqS rfl ?_) | (refine VC.region ?_) | (refine VC.draw ?_) | (refine VC.cond ?_) | (refine VC.block ?_) | (refine VC.exit ?_) | (refine VC.ret ?_) | (refine VC.skip ?_) | (refine VC.label ?_) | (refine VC.scope ?_) | (refine VQ.cons ?_) | (refine VQ.nil ?_) | (refine VG.nil ?_) | (refine VG.cons ?_) | (refine VP.done ?_) | (refine VP.one ?_) | (refine VP.two ?_) | (refine VE.cons ?_) | (refine VE.nil ?_) | (refine VBool.t ?_) | (refine VBool.f ?_) | (refine VBool.dT (by omega) ?_) | (refine VBool.dF (by omega) ?_) | (refine VBool.nT (by omega) ?_) | (refine VBool.nF (by omega) ?_) | (refine VRead.lenS ?_) | (refine VRead.lenT ?_) | (refine VRead.fld ?_) | (refine VRead.load1 (by assumption) ?_) | (refine VRead.load (by assumption) ?_) | (refine VRead.neB ?_) | (refine VRead.eqPN ?_) | (refine VRead.nePN ?_) | (refine VRead.eqB ?_) | (refine VBool.nT rfl ?_) | (refine VBool.dT rfl ?_) | (refine VWrap.i64 (by omega) (by omega) ?_) | (refine VWrap.u64 (by omega) (by omega) ?_) | (refine VRead.at1 (by omega) ?_) | (refine VRead.eqNN ?_) | (refine VSem.convI ?_) | (refine VRead.convI ?_) | (refine VRead.rem (by omega) (by decide) ?_) | (refine VRead.neg ?_) | (refine VC.seq ?_)); (conv => whnf))))
    refine VSem.allocZ (z := seZ) (by kernel_rfl) ?_
    intro w1 g hb1 hgb hlb hB3
    ((conv => whnf); (repeat ((first | (refine VL.cons ?_) | (refine VL.nil ?_) | (refine VC.seqS rfl ?_) | (refine VC.region ?_) | (refine VC.draw ?_) | (refine VC.cond ?_) | (refine VC.block ?_) | (refine VC.exit ?_) | (refine VC.ret ?_) | (refine VC.skip ?_) | (refine VC.label ?_) | (refine VC.scope ?_) | (refine VQ.cons ?_) | (refine VQ.nil ?_) | (refine VG.nil ?_) | (refine VG.cons ?_)); (conv => whnf))))
    ((repeat ((first | (refine VL.cons ?_) | (refine VL.nil ?_) | (refine VC.seqS rfl ?_) | (refine VC.region ?_) | (refine VC.draw ?_) | (refine VC.cond ?_) | (refine VC.block ?_) | (refine VC.exit ?_) | (refine VC.ret ?_) | (refine VC.skip ?_) | (refine VC.label ?_) | (refine VC.scope ?_) | (refine VQ.cons ?_) | (refine VQ.nil ?_) | (refine VG.nil ?_) | (refine VG.cons ?_) | (refine VP.done ?_) | (refine VP.one ?_) | (refine VP.two ?_) | (refine VE.cons ?_) | (refine VE.nil ?_) | (refine VBool.t ?_) | (refine VBool.f ?_) | (refine VBool.dT (by omega) ?_) | (refine VBool.dF (by omega) ?_) | (refine VBool.nT (by omega) ?_) | (refine VBool.nF (by omega) ?_) | (refine VRead.lenS ?_) | (refine VRead.lenT ?_) | (refine VRead.fld ?_) | (refine VRead.load1 (by assumption) ?_) | (refine VRead.load (by assumption) ?_) | (refine VRead.neB ?_) | (refine VRead.eqPN ?_) | (refine VRead.nePN ?_) | (refine VRead.eqB ?_) | (refine VBool.nT rfl ?_) | (refine VBool.dT rfl ?_) | (refine VWrap.i64 (by omega) (by omega) ?_) | (refine VWrap.u64 (by omega) (by omega) ?_) | (refine VRead.at1 (by omega) ?_) | (refine VRead.eqNN ?_) | (refine VSem.convI ?_) | (refine VRead.convI ?_) | (refine VRead.rem (by omega) (by decide) ?_) | (refine VRead.neg ?_) | (refine VC.seq ?_)); (conv => whnf))))
    refine VUnit.storeAB hb1 rfl rfl rfl (by simp [seC, Value.oneCell']) ?_
    intro w2 hb2' hg2
    replace hb2' : Blk w2 g 64 #[.int .i64 p.2.used, .int .i64 p.2.seq, .int .i64 p.2.rp.err, .int .i64 p.2.rp.n, .int .i64 p.2.rp.kind, .int .i64 p.2.rp.vn, .string (txt p.2.rp.s)] := hb2'
    have hw2 : Below w.heap.size w w2 := only_new hB3 hg2 (by omega) (by omega)
    have hOw2 := rows_below hO hw2 (Nat.le_refl _)
    have hs0 := hBW.size
    have hs2 := hw2.size
    have hS2 : Below w2.heap.size w2 (w2.drewN 1) := below_drewN (Below.refl _ _) 1
    have kB : ∀ X, Below w2.heap.size w2 X → Blk X g 64 #[.int .i64 p.2.used, .int .i64 p.2.seq, .int .i64 p.2.rp.err, .int .i64 p.2.rp.n, .int .i64 p.2.rp.kind, .int .i64 p.2.rp.vn, .string (txt p.2.rp.s)] := fun X hX => hb2'.below hX hb2'.lt
    ((conv => whnf); (repeat ((first | (refine VL.cons ?_) | (refine VL.nil ?_) | (refine VC.seqS rfl ?_) | (refine VC.region ?_) | (refine VC.draw ?_) | (refine VC.cond ?_) | (refine VC.block ?_) | (refine VC.exit ?_) | (refine VC.ret ?_) | (refine VC.skip ?_) | (refine VC.label ?_) | (refine VC.scope ?_) | (refine VQ.cons ?_) | (refine VQ.nil ?_) | (refine VG.nil ?_) | (refine VG.cons ?_)); (conv => whnf))))
    ((repeat ((first | (refine VL.cons ?_) | (refine VL.nil ?_) | (refine VC.seqS rfl ?_) | (refine VC.region ?_) | (refine VC.draw ?_) | (refine VC.cond ?_) | (refine VC.block ?_) | (refine VC.exit ?_) | (refine VC.ret ?_) | (refine VC.skip ?_) | (refine VC.label ?_) | (refine VC.scope ?_) | (refine VQ.cons ?_) | (refine VQ.nil ?_) | (refine VG.nil ?_) | (refine VG.cons ?_) | (refine VP.done ?_) | (refine VP.one ?_) | (refine VP.two ?_) | (refine VE.cons ?_) | (refine VE.nil ?_) | (refine VBool.t ?_) | (refine VBool.f ?_) | (refine VBool.dT (by omega) ?_) | (refine VBool.dF (by omega) ?_) | (refine VBool.nT (by omega) ?_) | (refine VBool.nF (by omega) ?_) | (refine VRead.lenS ?_) | (refine VRead.lenT ?_) | (refine VRead.fld ?_) | (refine VRead.load1 (by assumption) ?_) | (refine VRead.load (by assumption) ?_) | (refine VRead.neB ?_) | (refine VRead.eqPN ?_) | (refine VRead.nePN ?_) | (refine VRead.eqB ?_) | (refine VBool.nT rfl ?_) | (refine VBool.dT rfl ?_) | (refine VWrap.i64 (by omega) (by omega) ?_) | (refine VWrap.u64 (by omega) (by omega) ?_) | (refine VRead.at1 (by omega) ?_) | (refine VRead.eqNN ?_) | (refine VSem.convI ?_) | (refine VRead.convI ?_) | (refine VRead.rem (by omega) (by decide) ?_) | (refine VRead.neg ?_) | (refine VC.seq ?_)); (conv => whnf))))
    refine VDraw.seg (fun X => Below w2.heap.size w2 X) [([0, 1, 3, 4, 6, 7], 2), ([], 5), ([], 8)] [9] (by kernel_rfl) (by kernel_rfl) hS2 ?_
    (conv => whnf)
    (repeat ((first | (refine VRead.loadBS kB rfl rfl ?_) | (refine VL.cons ?_) | (refine VL.nil ?_) | (refine VC.seqS rfl ?_) | (refine VC.region ?_) | (refine VC.draw ?_) | (refine VC.cond ?_) | (refine VC.block ?_) | (refine VC.exit ?_) | (refine VC.ret ?_) | (refine VC.skip ?_) | (refine VC.label ?_) | (refine VC.scope ?_) | (refine VQ.cons ?_) | (refine VQ.nil ?_) | (refine VG.nil ?_) | (refine VG.cons ?_) | (refine VP.done ?_) | (refine VP.one ?_) | (refine VP.two ?_) | (refine VE.cons ?_) | (refine VE.nil ?_) | (refine VBool.t ?_) | (refine VBool.f ?_) | (refine VBool.dT (by omega) ?_) | (refine VBool.dF (by omega) ?_) | (refine VBool.nT (by omega) ?_) | (refine VBool.nF (by omega) ?_) | (refine VRead.lenS ?_) | (refine VRead.lenT ?_) | (refine VRead.fld ?_) | (refine VRead.load1 (by assumption) ?_) | (refine VRead.load (by assumption) ?_) | (refine VRead.neB ?_) | (refine VRead.eqPN ?_) | (refine VRead.nePN ?_) | (refine VRead.eqB ?_) | (refine VBool.nT rfl ?_) | (refine VBool.dT rfl ?_) | (refine VWrap.i64 (by omega) (by omega) ?_) | (refine VWrap.u64 (by omega) (by omega) ?_) | (refine VRead.at1 (by omega) ?_) | (refine VRead.eqNN ?_) | (refine VSem.convI ?_) | (refine VRead.convI ?_) | (refine VRead.rem (by omega) (by decide) ?_) | (refine VRead.neg ?_) | (refine VC.seq ?_)); (conv => whnf)))
    refine VCall.of (putInt_up (B := W.heap.size) A2 n2 c2 _ p.1 (w2.drewN 1) (by show W.heap.size ≤ w2.heap.size; omega) (by omega) hc2 (by unfold i64'; omega) (Own.reads (rows_below hOw2 hS2 (Nat.le_refl _)))) ?_
    rintro e w3 ⟨A3, n3, c3, rfl, hO3, hn3, hc3, hB4⟩
    refine ⟨_, rfl, ?_⟩
    have hS3 := hS2.trans hB4
    (conv => whnf)
    refine Keep.mk hS3 ?_
    (conv => whnf)
    ((repeat ((first | (refine VL.cons ?_) | (refine VL.nil ?_) | (refine VC.seqS rfl ?_) | (refine VC.region ?_) | (refine VC.draw ?_) | (refine VC.cond ?_) | (refine VC.block ?_) | (refine VC.exit ?_) | (refine VC.ret ?_) | (refine VC.skip ?_) | (refine VC.label ?_) | (refine VC.scope ?_) | (refine VQ.cons ?_) | (refine VQ.nil ?_) | (refine VG.nil ?_) | (refine VG.cons ?_) | (refine VP.done ?_) | (refine VP.one ?_) | (refine VP.two ?_) | (refine VE.cons ?_) | (refine VE.nil ?_) | (refine VBool.t ?_) | (refine VBool.f ?_) | (refine VBool.dT (by omega) ?_) | (refine VBool.dF (by omega) ?_) | (refine VBool.nT (by omega) ?_) | (refine VBool.nF (by omega) ?_) | (refine VRead.lenS ?_) | (refine VRead.lenT ?_) | (refine VRead.fld ?_) | (refine VRead.load1 (by assumption) ?_) | (refine VRead.load (by assumption) ?_) | (refine VRead.neB ?_) | (refine VRead.eqPN ?_) | (refine VRead.nePN ?_) | (refine VRead.eqB ?_) | (refine VBool.nT rfl ?_) | (refine VBool.dT rfl ?_) | (refine VWrap.i64 (by omega) (by omega) ?_) | (refine VWrap.u64 (by omega) (by omega) ?_) | (refine VRead.at1 (by omega) ?_) | (refine VRead.eqNN ?_) | (refine VSem.convI ?_) | (refine VRead.convI ?_) | (refine VRead.rem (by omega) (by decide) ?_) | (refine VRead.neg ?_) | (refine VC.seq ?_)); (conv => whnf))))
    refine VCall.of (putInt_up (B := W.heap.size) A3 n3 c3 _ p.2.used w3 (by have := hS3.size; omega) (by omega) hc3 (by unfold i64'; omega) hO3.reads) ?_
    rintro e w4 ⟨A4, n4, c4, rfl, hO4, hn4, hc4, hB5⟩
    refine ⟨_, rfl, ?_⟩
    have hS4 := hS3.trans (hB5.mono hS3.size)
    (conv => whnf)
    refine Keep.mk hS4 ?_
    (conv => whnf)
    ((repeat ((first | (refine VL.cons ?_) | (refine VL.nil ?_) | (refine VC.seqS rfl ?_) | (refine VC.region ?_) | (refine VC.draw ?_) | (refine VC.cond ?_) | (refine VC.block ?_) | (refine VC.exit ?_) | (refine VC.ret ?_) | (refine VC.skip ?_) | (refine VC.label ?_) | (refine VC.scope ?_) | (refine VQ.cons ?_) | (refine VQ.nil ?_) | (refine VG.nil ?_) | (refine VG.cons ?_) | (refine VP.done ?_) | (refine VP.one ?_) | (refine VP.two ?_) | (refine VE.cons ?_) | (refine VE.nil ?_) | (refine VBool.t ?_) | (refine VBool.f ?_) | (refine VBool.dT (by omega) ?_) | (refine VBool.dF (by omega) ?_) | (refine VBool.nT (by omega) ?_) | (refine VBool.nF (by omega) ?_) | (refine VRead.lenS ?_) | (refine VRead.lenT ?_) | (refine VRead.fld ?_) | (refine VRead.load1 (by assumption) ?_) | (refine VRead.load (by assumption) ?_) | (refine VRead.neB ?_) | (refine VRead.eqPN ?_) | (refine VRead.nePN ?_) | (refine VRead.eqB ?_) | (refine VBool.nT rfl ?_) | (refine VBool.dT rfl ?_) | (refine VWrap.i64 (by omega) (by omega) ?_) | (refine VWrap.u64 (by omega) (by omega) ?_) | (refine VRead.at1 (by omega) ?_) | (refine VRead.eqNN ?_) | (refine VSem.convI ?_) | (refine VRead.convI ?_) | (refine VRead.rem (by omega) (by decide) ?_) | (refine VRead.neg ?_) | (refine VC.seq ?_)); (conv => whnf))))
    refine VCall.of (putInt_up (B := W.heap.size) A4 n4 c4 _ p.2.seq w4 (by have := hS4.size; omega) (by omega) hc4 (by unfold i64'; omega) hO4.reads) ?_
    rintro e w5 ⟨A5, n5, c5, rfl, hO5, hn5, hc5, hB6⟩
    refine ⟨_, rfl, ?_⟩
    have hS5 := hS4.trans (hB6.mono hS4.size)
    (conv => whnf)
    refine Keep.mk hS5 ?_
    (conv => whnf)
    have hb5 := kB w5 hS5
    (repeat (first | ((first | (refine VL.cons ?_) | (refine VL.nil ?_) | (refine VC.seqS rfl ?_) | (refine VC.region ?_) | (refine VC.draw ?_) | (refine VC.cond ?_) | (refine VC.block ?_) | (refine VC.exit ?_) | (refine VC.ret ?_) | (refine VC.skip ?_) | (refine VC.label ?_) | (refine VC.scope ?_) | (refine VQ.cons ?_) | (refine VQ.nil ?_) | (refine VG.nil ?_) | (refine VG.cons ?_) | (refine VP.done ?_) | (refine VP.one ?_) | (refine VP.two ?_) | (refine VE.cons ?_) | (refine VE.nil ?_) | (refine VBool.t ?_) | (refine VBool.f ?_) | (refine VBool.dT (by omega) ?_) | (refine VBool.dF (by omega) ?_) | (refine VBool.nT (by omega) ?_) | (refine VBool.nF (by omega) ?_) | (refine VRead.lenS ?_) | (refine VRead.lenT ?_) | (refine VRead.fld ?_) | (refine VRead.load1 (by assumption) ?_) | (refine VRead.load (by assumption) ?_) | (refine VRead.neB ?_) | (refine VRead.eqPN ?_) | (refine VRead.nePN ?_) | (refine VRead.eqB ?_) | (refine VBool.nT rfl ?_) | (refine VBool.dT rfl ?_) | (refine VWrap.i64 (by omega) (by omega) ?_) | (refine VWrap.u64 (by omega) (by omega) ?_) | (refine VRead.at1 (by omega) ?_) | (refine VRead.eqNN ?_) | (refine VSem.convI ?_) | (refine VRead.convI ?_) | (refine VRead.rem (by omega) (by decide) ?_) | (refine VRead.neg ?_) | (refine VC.seq ?_)); (conv => whnf)) | (refine VRead.loadABi (vs := rpC p.2.rp) 2 (fun _ e => e ▸ hb5) rfl rfl (by intro j hj; match j, hj with | 0, _ => rfl | 1, _ => rfl | 2, _ => rfl | 3, _ => rfl | 4, _ => rfl) ?_; (conv => whnf))))
    refine VCall.of (rPut_any p.2.rp w5 (by omega) (by unfold i64'; omega) (by unfold i64'; omega) (by unfold i64'; omega) hpo.vn) ?_
    rintro e w6 ⟨A6, n6, c6, rfl, hO6, hn6, hc6, hB7⟩
    refine ⟨_, rfl, ?_⟩
    have hS6 := hS5.trans (hB7.mono hS5.size)
    have hO56 := rows_below hO5 hB7 (Nat.le_refl _)
    ((conv => whnf); (repeat ((first | (refine VL.cons ?_) | (refine VL.nil ?_) | (refine VC.seqS rfl ?_) | (refine VC.region ?_) | (refine VC.draw ?_) | (refine VC.cond ?_) | (refine VC.block ?_) | (refine VC.exit ?_) | (refine VC.ret ?_) | (refine VC.skip ?_) | (refine VC.label ?_) | (refine VC.scope ?_) | (refine VQ.cons ?_) | (refine VQ.nil ?_) | (refine VG.nil ?_) | (refine VG.cons ?_)); (conv => whnf))))
    ((repeat ((first | (refine VL.cons ?_) | (refine VL.nil ?_) | (refine VC.seqS rfl ?_) | (refine VC.region ?_) | (refine VC.draw ?_) | (refine VC.cond ?_) | (refine VC.block ?_) | (refine VC.exit ?_) | (refine VC.ret ?_) | (refine VC.skip ?_) | (refine VC.label ?_) | (refine VC.scope ?_) | (refine VQ.cons ?_) | (refine VQ.nil ?_) | (refine VG.nil ?_) | (refine VG.cons ?_) | (refine VP.done ?_) | (refine VP.one ?_) | (refine VP.two ?_) | (refine VE.cons ?_) | (refine VE.nil ?_) | (refine VBool.t ?_) | (refine VBool.f ?_) | (refine VBool.dT (by omega) ?_) | (refine VBool.dF (by omega) ?_) | (refine VBool.nT (by omega) ?_) | (refine VBool.nF (by omega) ?_) | (refine VRead.lenS ?_) | (refine VRead.lenT ?_) | (refine VRead.fld ?_) | (refine VRead.load1 (by assumption) ?_) | (refine VRead.load (by assumption) ?_) | (refine VRead.neB ?_) | (refine VRead.eqPN ?_) | (refine VRead.nePN ?_) | (refine VRead.eqB ?_) | (refine VBool.nT rfl ?_) | (refine VBool.dT rfl ?_) | (refine VWrap.i64 (by omega) (by omega) ?_) | (refine VWrap.u64 (by omega) (by omega) ?_) | (refine VRead.at1 (by omega) ?_) | (refine VRead.eqNN ?_) | (refine VSem.convI ?_) | (refine VRead.convI ?_) | (refine VRead.rem (by omega) (by decide) ?_) | (refine VRead.neg ?_) | (refine VC.seq ?_)); (conv => whnf))))
    refine VSem.convT (Own.reads hO6) ?_
    ((conv => whnf); (repeat ((first | (refine VL.cons ?_) | (refine VL.nil ?_) | (refine VC.seqS rfl ?_) | (refine VC.region ?_) | (refine VC.draw ?_) | (refine VC.cond ?_) | (refine VC.block ?_) | (refine VC.exit ?_) | (refine VC.ret ?_) | (refine VC.skip ?_) | (refine VC.label ?_) | (refine VC.scope ?_) | (refine VQ.cons ?_) | (refine VQ.nil ?_) | (refine VG.nil ?_) | (refine VG.cons ?_)); (conv => whnf))))
    ((repeat ((first | (refine VL.cons ?_) | (refine VL.nil ?_) | (refine VC.seqS rfl ?_) | (refine VC.region ?_) | (refine VC.draw ?_) | (refine VC.cond ?_) | (refine VC.block ?_) | (refine VC.exit ?_) | (refine VC.ret ?_) | (refine VC.skip ?_) | (refine VC.label ?_) | (refine VC.scope ?_) | (refine VQ.cons ?_) | (refine VQ.nil ?_) | (refine VG.nil ?_) | (refine VG.cons ?_) | (refine VP.done ?_) | (refine VP.one ?_) | (refine VP.two ?_) | (refine VE.cons ?_) | (refine VE.nil ?_) | (refine VBool.t ?_) | (refine VBool.f ?_) | (refine VBool.dT (by omega) ?_) | (refine VBool.dF (by omega) ?_) | (refine VBool.nT (by omega) ?_) | (refine VBool.nF (by omega) ?_) | (refine VRead.lenS ?_) | (refine VRead.lenT ?_) | (refine VRead.fld ?_) | (refine VRead.load1 (by assumption) ?_) | (refine VRead.load (by assumption) ?_) | (refine VRead.neB ?_) | (refine VRead.eqPN ?_) | (refine VRead.nePN ?_) | (refine VRead.eqB ?_) | (refine VBool.nT rfl ?_) | (refine VBool.dT rfl ?_) | (refine VWrap.i64 (by omega) (by omega) ?_) | (refine VWrap.u64 (by omega) (by omega) ?_) | (refine VRead.at1 (by omega) ?_) | (refine VRead.eqNN ?_) | (refine VSem.convI ?_) | (refine VRead.convI ?_) | (refine VRead.rem (by omega) (by decide) ?_) | (refine VRead.neg ?_) | (refine VC.seq ?_)); (conv => whnf))))
    refine VCall.of (putText_up (B := W.heap.size) A5 n5 c5 _ (rB p.2.rp) w6 (by have := hS6.size; omega) (by omega) hc5 (Own.reads hO56)) ?_
    rintro e w7 ⟨A7, n7, c7, rfl, hO7, hn7, hc7, hB8⟩
    refine ⟨_, rfl, ?_⟩
    have hS7 := hS6.trans (hB8.mono hS6.size)
    ((conv => whnf); (repeat ((first | (refine VL.cons ?_) | (refine VL.nil ?_) | (refine VC.seqS rfl ?_) | (refine VC.region ?_) | (refine VC.draw ?_) | (refine VC.cond ?_) | (refine VC.block ?_) | (refine VC.exit ?_) | (refine VC.ret ?_) | (refine VC.skip ?_) | (refine VC.label ?_) | (refine VC.scope ?_) | (refine VQ.cons ?_) | (refine VQ.nil ?_) | (refine VG.nil ?_) | (refine VG.cons ?_)); (conv => whnf))))
    ((repeat ((first | (refine VL.cons ?_) | (refine VL.nil ?_) | (refine VC.seqS rfl ?_) | (refine VC.region ?_) | (refine VC.draw ?_) | (refine VC.cond ?_) | (refine VC.block ?_) | (refine VC.exit ?_) | (refine VC.ret ?_) | (refine VC.skip ?_) | (refine VC.label ?_) | (refine VC.scope ?_) | (refine VQ.cons ?_) | (refine VQ.nil ?_) | (refine VG.nil ?_) | (refine VG.cons ?_) | (refine VP.done ?_) | (refine VP.one ?_) | (refine VP.two ?_) | (refine VE.cons ?_) | (refine VE.nil ?_) | (refine VBool.t ?_) | (refine VBool.f ?_) | (refine VBool.dT (by omega) ?_) | (refine VBool.dF (by omega) ?_) | (refine VBool.nT (by omega) ?_) | (refine VBool.nF (by omega) ?_) | (refine VRead.lenS ?_) | (refine VRead.lenT ?_) | (refine VRead.fld ?_) | (refine VRead.load1 (by assumption) ?_) | (refine VRead.load (by assumption) ?_) | (refine VRead.neB ?_) | (refine VRead.eqPN ?_) | (refine VRead.nePN ?_) | (refine VRead.eqB ?_) | (refine VBool.nT rfl ?_) | (refine VBool.dT rfl ?_) | (refine VWrap.i64 (by omega) (by omega) ?_) | (refine VWrap.u64 (by omega) (by omega) ?_) | (refine VRead.at1 (by omega) ?_) | (refine VRead.eqNN ?_) | (refine VSem.convI ?_) | (refine VRead.convI ?_) | (refine VRead.rem (by omega) (by decide) ?_) | (refine VRead.neg ?_) | (refine VC.seq ?_)); (conv => whnf))))
    refine ⟨_, by simp, T0 ++ [p], T1, A7, n7, c7, ?_, rfl, by rw [hS]; simp, ?_, ?_, hc7, hBw.trans ((hw2.trans (hS7.mono hw2.size)).mono hBw.size)⟩
    · simp only [List.length_append, List.length_cons, List.length_nil]; rfl
    · rw [tabB_snoc]
      unfold enB
      simpa only [List.append_assoc] using hO7
    · simp only [List.length_append, List.length_cons, List.length_nil]
      omega
end Go.Proofs.YtajheglnhfjodaaDoor
