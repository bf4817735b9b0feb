/- Texts joined: WalH, WalI, SnapE, SnapF, SnapG, WalJ, WalK, WalL, SnapH, WalM, WalO, WalQ, WalR, WalU, Open, SnapK, WalY, WalZ, WalS, WkA. No condition. -/
import Derived.Test.YtebeidnmplnlpaaPkg3
import Derived.Test.YtebeidnmplnlpaaPkg2
import Derived.Deep.Slices
import Derived.OpenShut
section
set_option maxRecDepth 10000
namespace Go.Proofs.Ytebeidnmplnlpaa
set_option linter.unusedVariables false
open Go.RowKit

theorem VRead.idxAW {P : Program} {S : World → Prop} {t n e j : Nat} {cs : Array Value} {v : Value} {kk : IntKind} {K : Value → Prop} [i : TArr P t n e 1] [c : TCell P e] (h : j < n) (hv : cs.toList[j]? = some v) (hk : K v) : VRead P S (Instr.index t (.agg cs) (.int kk (j : Int))) K := by
  refine .ofW (v := v) (fun W => ?_) hk
  have hv' : cs[j]? = some v := by rw [← hv]; simp
  unfold Instr.index Go.part
  simp [asIntOf, run_underlying i.u, run_isAgg_cell c.c, run_size i.s, hv', h]
section
variable (W : World) (U : Foot) (g d p q : Nat) (S : DS) (wl : WlS) (h : Dsk W U d S) (hw : Blk W g 105 (wlC d wl)) (hp : Blk W p 60 #[.pointer (some ⟨g, 0, none⟩)]) (hc : S.k.calls + 10 < 1000000)
include h hw hp hc
theorem anew1_any :
    Calls Try.prog 80 #[.pointer (some ⟨p, 0, none⟩)] W fun e W' => e = .returned (.int .i64 (S.create wTmp).1) ∧ ∃ U', Dsk W' U' d (S.create wTmp).2 ∧ Step W U W' U' := by
  refine calls_vc Try.func80 rfl (by kernel_rfl) ?_
  ((conv => whnf); (repeat ((first | (refine VL.cons ?_) | (refine VL.nil ?_) | (refine VC.seqS rfl ?_) | (refine VC.region ?_)); (conv => whnf))))
  (repeat (first | ((first | (refine VL.cons ?_) | (refine VRead.fld ?_)); (conv => whnf)) | (refine VRead.loadB hp rfl rfl ?_; (conv => whnf)) | (refine VRead.loadB hw rfl rfl ?_; (conv => whnf))))
  refine VCall.of (oCreate W U d S wTmp h (by omega) (by decide)) ?_
  rintro e W1 ⟨rfl, U1, hd1, st1⟩
  refine ⟨_, rfl, ?_⟩
  ((conv => whnf); (repeat ((first | (refine VL.cons ?_) | (refine VL.nil ?_) | (refine VC.ret ?_)); (conv => whnf))))
  ((repeat ((fail); (conv => whnf))))
  exact ⟨rfl, U1, hd1, st1⟩
theorem anew3_any :
    Calls Try.prog 82 #[.pointer (some ⟨p, 0, none⟩)] W fun e W' => e = .returned (.int .i64 (S.sync wTmp).1) ∧ ∃ U', Dsk W' U' d (S.sync wTmp).2 ∧ Step W U W' U' := by
  refine calls_vc Try.func82 rfl (by kernel_rfl) ?_
  ((conv => whnf); (repeat ((first | (refine VL.cons ?_) | (refine VL.nil ?_) | (refine VC.seqS rfl ?_) | (refine VC.region ?_)); (conv => whnf))))
  (repeat (first | ((first | (refine VL.cons ?_) | (refine VRead.fld ?_)); (conv => whnf)) | (refine VRead.loadB hp rfl rfl ?_; (conv => whnf)) | (refine VRead.loadB hw rfl rfl ?_; (conv => whnf))))
  refine VCall.of (oSync W U d S wTmp h (by omega) (by decide)) ?_
  rintro e W1 ⟨rfl, U1, hd1, st1⟩
  refine ⟨_, rfl, ?_⟩
  ((conv => whnf); (repeat ((first | (refine VL.cons ?_) | (refine VL.nil ?_) | (refine VC.ret ?_)); (conv => whnf))))
  ((repeat ((fail); (conv => whnf))))
  exact ⟨rfl, U1, hd1, st1⟩
variable (hgU : ¬ U g) (hpU : ¬ U p) (hqU : ¬ U q)
include hgU hpU hqU
theorem anew2_any (B : Nat) (A : Option Addr) (n c : Nat) (b : List UInt8) (hq : Blk W q 31 #[.slice A n c]) (hr : Own W B (.slice A n c) n b) (hn : n ≤ 140737488351232) :
    Calls Try.prog 81 #[.pointer (some ⟨p, 0, none⟩), .pointer (some ⟨q, 0, none⟩)] W fun e W' => e = .returned (.int .i64 (S.append wTmp b).1) ∧ ∃ U', Dsk W' U' d (S.append wTmp b).2 ∧ Step W U W' U' := by
  refine calls_vc Try.func81 rfl (by kernel_rfl) ?_
  ((conv => whnf); (repeat ((first | (refine VL.cons ?_) | (refine VL.nil ?_) | (refine VC.seqS rfl ?_) | (refine VC.region ?_)); (conv => whnf))))
  ((repeat ((first | (refine VC.draw ?_) | (refine VC.seq ?_)); (conv => whnf))))
  refine VDraw.seg (fun Y => Blk Y p 60 #[.pointer (some ⟨g, 0, none⟩)] ∧ Blk Y g 105 (wlC d wl) ∧ Blk Y q 31 #[.slice A n c]) [([0, 1, 2, 3, 4], 5)] [6] (by kernel_rfl) (by kernel_rfl) ⟨hp, hw, hq⟩ ?_
  (conv => whnf)
  (repeat ((first | (refine VRead.loadBS (fun Y hY => hY.1) rfl rfl ?_) | (refine VRead.loadBS (fun Y hY => hY.2.1) rfl rfl ?_) | (refine VRead.loadBS (fun Y hY => hY.2.2) rfl rfl ?_) | (refine VQ.cons ?_) | (refine VQ.nil ?_) | (refine VG.cons ?_) | (refine VRead.fld ?_)); (conv => whnf)))
  have hb1 : Below W.heap.size W (W.drewN 1) := below_drewN (Below.refl _ _) 1
  refine VCall.of (oAppend (W.drewN 1) U d S wTmp n c A b (h.below hb1) (by omega) (by decide) (Src.of_own (hr.below hb1 (Nat.le_refl _))) hn hr.cap) ?_
  rintro e W1 ⟨rfl, U1, hd1, st1⟩
  refine ⟨_, rfl, ?_⟩
  have st := (Step.new (U := U) hb1).trans st1
  (conv => whnf)
  refine Keep.mk ⟨(st.blk hp hpU).1, (st.blk hw hgU).1, (st.blk hq hqU).1⟩ ?_
  (conv => whnf)
  ((repeat ((first | (refine VC.ret ?_) | (refine VQ.cons ?_) | (refine VQ.nil ?_) | (refine VG.nil ?_)); (conv => whnf))))
  exact ⟨rfl, U1, hd1, st⟩
theorem anew4_any (nm : List UInt8) (hq : Blk W q 9 #[.string (txt nm)]) (hnm : nm.length ≤ 1000) :
    Calls Try.prog 83 #[.pointer (some ⟨p, 0, none⟩), .pointer (some ⟨q, 0, none⟩)] W fun e W' => e = .returned (.int .i64 (S.rename wTmp nm).1) ∧ ∃ U', Dsk W' U' d (S.rename wTmp nm).2 ∧ Step W U W' U' := by
  refine calls_vc Try.func83 rfl (by kernel_rfl) ?_
  ((conv => whnf); (repeat ((first | (refine VL.cons ?_) | (refine VL.nil ?_) | (refine VC.seqS rfl ?_) | (refine VC.region ?_)); (conv => whnf))))
  ((repeat ((first | (refine VC.draw ?_) | (refine VC.seq ?_)); (conv => whnf))))
  refine VDraw.seg (fun Y => Blk Y p 60 #[.pointer (some ⟨g, 0, none⟩)] ∧ Blk Y g 105 (wlC d wl) ∧ Blk Y q 9 #[.string (txt nm)]) [([0, 1, 2, 3, 4], 5)] [6] (by kernel_rfl) (by kernel_rfl) ⟨hp, hw, hq⟩ ?_
  (conv => whnf)
  (repeat ((first | (refine VRead.loadBS (fun Y hY => hY.1) rfl rfl ?_) | (refine VRead.loadBS (fun Y hY => hY.2.1) rfl rfl ?_) | (refine VRead.loadBS (fun Y hY => hY.2.2) rfl rfl ?_) | (refine VQ.cons ?_) | (refine VQ.nil ?_) | (refine VG.cons ?_) | (refine VRead.fld ?_)); (conv => whnf)))
  have hb1 : Below W.heap.size W (W.drewN 1) := below_drewN (Below.refl _ _) 1
  refine VCall.of (oRename (W.drewN 1) U d S wTmp nm (h.below hb1) (by omega) (by decide) hnm) ?_
  rintro e W1 ⟨rfl, U1, hd1, st1⟩
  refine ⟨_, rfl, ?_⟩
  have st := (Step.new (U := U) hb1).trans st1
  (conv => whnf)
  refine Keep.mk ⟨(st.blk hp hpU).1, (st.blk hw hgU).1, (st.blk hq hqU).1⟩ ?_
  (conv => whnf)
  ((repeat ((first | (refine VC.ret ?_) | (refine VQ.cons ?_) | (refine VQ.nil ?_) | (refine VG.nil ?_)); (conv => whnf))))
  exact ⟨rfl, U1, hd1, st⟩
end
theorem Own.notBlkW {W : World} {B n q T : Nat} {v : Value} {l : List UInt8} {cs : Array Value} (h : Own W B v n l) (hb : Blk W q T cs) (hT : 5 ≠ T) : v.ownBlock ≠ some q := fun hq => by
  rcases h.2 with ⟨rfl, _⟩ | ⟨g', cap, cur, rfl, _, hc, _⟩
  · simp [Value.ownBlock] at hq
  · have : g' = q := by simpa [Value.ownBlock] using hq
    subst this
    unfold Blk at hb
    rw [hc] at hb
    injection hb with hb
    injection hb with _ h2 _
    exact hT h2
theorem Blk.rowG {W W' : World} {q T : Nat} {cs : Array Value} {row : Option Nat} (h : Blk W q T cs) (hg : W.grownBy W' row) (hne : row ≠ some q) : Blk W' q T cs := h.grown hg (fun e => hne e.symm)
theorem Blk.outW {W W' : World} {F : Foot} {q T : Nat} {cs : Array Value} (h : Blk W q T cs) (ho : Out F W W') (hne : ¬ F q) : Blk W' q T cs := (ho.block q h.lt hne).trans h
/-! ### Anew, plain -/
def wact (nm b : List UInt8) (k : Nat) (S : DS) : Int × DS := match k with
  | 0 => S.create wTmp
  | 1 => S.append wTmp b
  | 2 => S.sync wTmp
  | _ => S.rename wTmp nm
def wrun (nm b : List UInt8) : Nat → Nat → DS → Int × DS
  | 0, _, S => (0, S)
  | m + 1, k, S => andT (wact nm b k S) fun S' => wrun nm b m (k + 1) S'
def waB (k : Kp) : List UInt8 := Frame.put (recB 0 [k.base, k.bterm]) ++ Frame.put (recB 1 [k.term, k.vote]) ++ written (k.base + 1) k.es
def DS.wanew (S : DS) (w : WlS) (k : Kp) : (Int × DS) × WlS :=
  if ¬ mayK k then ((1, S), w) else if wName (w.n + 1) = [] then ((2, S), w) else
  let R := wrun (wName (w.n + 1)) (waB k) 4 0 S
  if ¬ R.1 = 0 then (R, w) else
  let w' : WlS := ⟨w.n + 1, k.base, k.base + k.es.length⟩
  if wName w.n = [] then ((0, R.2), w') else
  ((if (R.2.remove (wName w.n)).1 = 3 then 0 else (R.2.remove (wName w.n)).1, (R.2.remove (wName w.n)).2), w')
theorem wact_calls (nm b : List UInt8) (k : Nat) (S : DS) : (wact nm b k S).2.k.calls = S.k.calls + 1 := by
  unfold wact
  split
  · exact DS.create_calls S wTmp
  · exact DS.append_calls
  · exact DS.sync_calls
  · exact DS.rename_calls
set_option maxHeartbeats 4000000 in
theorem walAnew_any (W : World) (U : Foot) (g d : Nat) (S : DS) (wl : WlS) (k : Kp) (A : Option Addr) (n c : Nat) (h : Dsk W U d S) (hw : Blk W g 105 (wlC d wl)) (hg : ¬ U g) (hok : WlOk wl)
    (hE : EnAt W (fun j => j < W.heap.size) A n k.es) (hn : n ≤ 50000000) (hc : S.k.calls + 20 < 1000000) (hi1 : -9223372036854775808 ≤ k.base ∧ k.base ≤ 9223372036854775807) :
    Calls Try.prog 45 #[.pointer (some ⟨g, 0, none⟩), .agg (kC k A n c)] W fun e W' => e = .returned (.int .i64 (S.wanew wl k).1.1) ∧
      ∃ U', Dsk W' U' d (S.wanew wl k).1.2 ∧ Blk W' g 105 (wlC d (S.wanew wl k).2) ∧ ¬ U' g ∧ Step W (addF U g) W' (addF U' g) := by
  obtain ⟨n1, n2, b1, b2, l1, l2⟩ := hok
  have hel := hE.1
  have hwn := wName_le wl.n
  have hwn1 := wName_le (wl.n + 1)
  refine calls_vc Try.func45 rfl (by kernel_rfl) ?_
  ((conv => whnf); (repeat ((first | (refine VL.cons ?_) | (refine VC.seqS rfl ?_) | (refine VC.region ?_)); (conv => whnf))))
  ((repeat ((fail); (conv => whnf))))
  refine VSem.boxB ?_
  intro W1 p hp hpe hpl hB1
  replace hp : Blk W1 p 60 #[.pointer (some ⟨g, 0, none⟩)] := hp
  ((conv => whnf); (repeat ((first | (refine VL.cons ?_)); (conv => whnf))))
  ((repeat ((fail); (conv => whnf))))
  refine VSem.boxB ?_
  intro W2 q3 hq hqe hql hB2
  replace hq : Blk W2 q3 63 (kC k A n c) := hq
  replace hp := hp.later hB2
  have hB02 := hB1.trans (hB2.mono hB1.size)
  have s1 := hB1.size
  have s2 := hB2.size
  ((conv => whnf); (repeat ((first | (refine VL.cons ?_) | (refine VL.nil ?_)); (conv => whnf))))
  ((repeat ((first | (refine VL.cons ?_) | (refine VC.seqS rfl ?_) | (refine VC.region ?_) | (refine VC.seq ?_)); (conv => whnf))))
  refine VRead.loadAB1 hq rfl rfl ?_
  ((conv => whnf); (repeat ((first | (refine VL.cons ?_)); (conv => whnf))))
  ((repeat ((fail); (conv => whnf))))
  refine VCall.of (mayKept_any k A n c W2 ((hE.belowB hB02).more (fun j _ hj => by have : j < W.heap.size := hj; show j < W2.heap.size; omega)) (by omega)) ?_
  rintro e W3 ⟨rfl, hB3⟩
  refine ⟨_, rfl, ?_⟩
  replace hp := hp.later hB3
  replace hq := hq.later hB3
  have hB03 := hB02.trans (hB3.mono hB02.size)
  have s3 := hB3.size
  have hd3 := h.below hB03
  have hw3 := hw.later hB03
  have st3 := (Step.new (U := U) hB03)
  by_cases hm : mayK k
  case neg =>
    have e1 : S.wanew wl k = ((1, S), wl) := by unfold DS.wanew; rw [if_pos hm]
    rw [e1, decide_eq_false hm]
    ((conv => whnf); (repeat ((first | (refine VL.cons ?_) | (refine VL.nil ?_) | (refine VC.cond ?_)); (conv => whnf))))
    ((repeat ((first | (refine VL.cons ?_) | (refine VL.nil ?_) | (refine VC.seqS rfl ?_) | (refine VC.region ?_) | (refine VC.ret ?_) | (refine VBool.t ?_)); (conv => whnf))))
    exact ⟨rfl, U, hd3, hw3, hg, st3.add g⟩
  obtain ⟨hme, hm1, hm2, hm3, hm4⟩ := id hm
  obtain ⟨m1, m2⟩ := hm1
  obtain ⟨m3, m4⟩ := hm2
  obtain ⟨m5, m6⟩ := hm3
  obtain ⟨m7, m8⟩ := hm4
  rw [decide_eq_true hm]
  ((conv => whnf); (repeat ((first | (refine VL.cons ?_) | (refine VL.nil ?_) | (refine VC.cond ?_)); (conv => whnf))))
  (repeat (first | ((first | (refine VL.cons ?_) | (refine VC.seqS rfl ?_) | (refine VC.region ?_) | (refine VC.skip ?_) | (refine VBool.f ?_) | (refine VRead.fld ?_) | (refine VWrap.i64 (by omega) (by omega) ?_)); (conv => whnf)) | (refine VRead.loadB hp rfl rfl ?_; (conv => whnf)) | (refine VRead.loadB hw3 rfl rfl ?_; (conv => whnf))))
  refine VCall.of (walName_any (wl.n + 1) W3 (by omega)) ?_
  rintro e W4 ⟨rfl, hB4⟩
  refine ⟨_, rfl, ?_⟩
  have s4 := hB4.size
  replace hp := hp.later hB4
  replace hq := hq.later hB4
  have hB04 := hB03.trans (hB4.mono hB03.size)
  ((conv => whnf); (repeat ((first | (refine VL.cons ?_)); (conv => whnf))))
  ((repeat ((fail); (conv => whnf))))
  refine VSem.allocZ (z := .string (txt [])) (by kernel_rfl) ?_
  intro W5 q5 hq5 hqe5 hql5 hB5
  have s5 := hB5.size
  replace hp := hp.later hB5
  replace hq := hq.later hB5
  have hB05 := hB04.trans (hB5.mono hB04.size)
  ((conv => whnf); (repeat ((first | (refine VL.cons ?_)); (conv => whnf))))
  ((repeat ((fail); (conv => whnf))))
  refine VUnit.storeB hq5 rfl rfl rfl ?_
  intro W6 hq6 hg6
  replace hq6 : Blk W6 q5 9 #[.string (txt (wName (wl.n + 1)))] := hq6
  replace hp := hp.only hg6 (by omega)
  replace hq := hq.only hg6 (by omega)
  have s6 := hg6.size
  have hB06 : Below W.heap.size W W6 := only_new hB05 hg6 (by omega) hB05.size
  have hd6 := h.below hB06
  have hw6 := hw.later hB06
  have st6 := (Step.new (U := U) hB06)
  have hgl := hw.lt
  by_cases hnm : wName (wl.n + 1) = []
  · have e1 : S.wanew wl k = ((2, S), wl) := by unfold DS.wanew; rw [if_neg (fun h => h hm), if_pos hnm]
    have hnm' : txt (wName (wl.n + 1)) = txt [] := by rw [hnm]
    rw [e1]
    ((conv => whnf); (repeat ((first | (refine VL.nil ?_)); (conv => whnf))))
    (repeat (first | ((first | (refine VL.cons ?_) | (refine VL.nil ?_) | (refine VC.seqS rfl ?_) | (refine VC.region ?_) | (refine VC.cond ?_) | (refine VC.ret ?_) | (refine VC.seq ?_)); (conv => whnf)) | (refine VRead.loadB hq6 rfl rfl ?_; (conv => whnf)) | (refine VBool.dT hnm' ?_; (conv => whnf))))
    exact ⟨rfl, U, hd6, hw6, hg, st6.add g⟩
  have hnm' : ¬ txt (wName (wl.n + 1)) = txt [] := fun e => hnm (txt_inj.1 e)
  clear hd3 hw3 st3 hB1 hB2 hB3 hB4 hB5 hB02 hB03 hB04 hB05 hg6 hq5
  ((conv => whnf); (repeat ((first | (refine VL.nil ?_)); (conv => whnf))))
  (repeat (first | ((first | (refine VL.cons ?_) | (refine VL.nil ?_) | (refine VC.seqS rfl ?_) | (refine VC.region ?_) | (refine VC.cond ?_) | (refine VC.skip ?_) | (refine VRead.fld ?_) | (refine VC.seq ?_)); (conv => whnf)) | (refine VRead.loadB hq6 rfl rfl ?_; (conv => whnf)) | (refine VBool.dF hnm' ?_; (conv => whnf)) | (refine VRead.loadB hq rfl rfl ?_; (conv => whnf))))
  refine VSem.buildR (ps := [(0, .int .i64 k.base), (1, .int .i64 k.bterm)]) rfl rfl (by simp [Value.oneCell']) (by omega) ?_
  intro X1 hO1 hC1 hz1
  have hr1 : Reads X1 X1.heap.size 1 (some ⟨W6.heap.size, 0, none⟩) 2 (iv .i64 [k.base, k.bterm]) := Reads.row hO1
  ((conv => whnf); (repeat ((first | (refine VL.cons ?_)); (conv => whnf))))
  ((repeat ((fail); (conv => whnf))))
  refine VCall.of (record_any 0 [k.base, k.bterm] _ 2 2 X1 (by omega) (fun v hv => ?_) hr1) ?_
  · simp only [List.mem_cons, List.not_mem_nil, or_false] at hv
    rcases hv with rfl | rfl <;> omega
  rintro e X2 ⟨A2, m2', c2, rfl, hO2, hc2, hC2⟩
  refine ⟨_, rfl, ?_⟩
  have hl2 := hO2.len
  have hrl := recB_len 0 [k.base, k.bterm]
  simp only [List.length_cons, List.length_nil] at hrl
  ((conv => whnf); (repeat ((first | (refine VL.cons ?_)); (conv => whnf))))
  ((repeat ((fail); (conv => whnf))))
  refine VCall.of (frPut_yes none 0 0 [] A2 m2' c2 (recB 0 [k.base, k.bterm]) X2 (by omega) (by omega) (by omega) (Nat.le_refl _) (Own.nil _ 0).reads hO2.reads) ?_
  rintro e X3 ⟨A3, m3', c3, rfl, hO3, hC3⟩
  refine ⟨_, rfl, ?_⟩
  rw [List.nil_append] at hO3
  have hl3 := hO3.len
  have hpl3 := put_le (recB 0 [k.base, k.bterm])
  have hC03 : Below W6.heap.size W6 X3 := (hC1.trans (hC2.mono hC1.size)).trans (hC3.mono (Nat.le_trans hC1.size hC2.size))
  have zC2 : W6.heap.size ≤ X2.heap.size := Nat.le_trans hC1.size hC2.size
  clear hO1 hr1 hO2 hC1 hC2 hC3
  have t3 := hC03.size
  ((conv => whnf); (repeat ((first | (refine VL.cons ?_)); (conv => whnf))))
  ((repeat ((fail); (conv => whnf))))
  refine VSem.allocZ (z := .slice none 0 0) (by kernel_rfl) ?_
  intro X4 q6 hq7 hqe7 hql7 hC4
  have hO4 := hO3.below hC4 (Nat.le_refl _)
  have hC04 := hC03.trans (hC4.mono hC03.size)
  ((conv => whnf); (repeat ((first | (refine VL.cons ?_)); (conv => whnf))))
  ((repeat ((fail); (conv => whnf))))
  refine VUnit.storeB hq7 rfl rfl rfl ?_
  intro X5 hq8 hg8
  replace hq8 : Blk X5 q6 31 #[.slice A3 m3' c3] := hq8
  have hO5 := hO4.storeApart hg8 (fun q' => by have := (World.ownsRow.lt hO3 q6 q').2; omega)
  have hC05 : Below W6.heap.size W6 X5 := only_new hC04 hg8 (by omega) hC04.size
  have t4 := hC4.size
  have t5 := hg8.size
  replace hp := hp.later hC05
  replace hq := hq.later hC05
  replace hq6 := hq6.later hC05
  clear hO3 hO4 hC4 hC04 hq7 hg8 hC03
  ((conv => whnf); (repeat ((first | (refine VL.cons ?_) | (refine VL.nil ?_) | (refine VC.seqS rfl ?_) | (refine VC.region ?_)); (conv => whnf))))
  (repeat (first | ((first | (refine VL.cons ?_) | (refine VRead.fld ?_)); (conv => whnf)) | (refine VRead.loadB hq rfl rfl ?_; (conv => whnf))))
  refine VSem.buildR (ps := [(0, .int .i64 k.term), (1, .int .i64 k.vote)]) rfl rfl (by simp [Value.oneCell']) (by omega) ?_
  intro Y1 hP1 hD1 hy1
  have hr1 : Reads Y1 Y1.heap.size 1 (some ⟨X5.heap.size, 0, none⟩) 2 (iv .i64 [k.term, k.vote]) := Reads.row hP1
  ((conv => whnf); (repeat ((first | (refine VL.cons ?_)); (conv => whnf))))
  ((repeat ((fail); (conv => whnf))))
  refine VCall.of (record_any 1 [k.term, k.vote] _ 2 2 Y1 (by omega) (fun v hv => ?_) hr1) ?_
  · simp only [List.mem_cons, List.not_mem_nil, or_false] at hv
    rcases hv with rfl | rfl <;> omega
  rintro e Y2 ⟨A4, m4', c4, rfl, hP2, hc4, hD2⟩
  refine ⟨_, rfl, ?_⟩
  have hl4 := hP2.len
  have hrl2 := recB_len 1 [k.term, k.vote]
  simp only [List.length_cons, List.length_nil] at hrl2
  ((conv => whnf); (repeat ((first | (refine VL.cons ?_)); (conv => whnf))))
  ((repeat ((fail); (conv => whnf))))
  refine VCall.of (frPut_yes none 0 0 [] A4 m4' c4 (recB 1 [k.term, k.vote]) Y2 (by omega) (by omega) (by omega) (Nat.le_refl _) (Own.nil _ 0).reads hP2.reads) ?_
  rintro e Y3 ⟨A5, m5', c5, rfl, hP3, hD3⟩
  refine ⟨_, rfl, ?_⟩
  rw [List.nil_append] at hP3
  have hl5 := hP3.len
  have hpl5 := put_le (recB 1 [k.term, k.vote])
  have hD03 : Below X5.heap.size X5 Y3 := (hD1.trans (hD2.mono hD1.size)).trans (hD3.mono (Nat.le_trans hD1.size hD2.size))
  clear hP1 hr1 hP2 hD1 hD2 hD3
  have hO6 := (hO5.below hD03 (Nat.le_refl _)).more (B' := W.heap.size) (by omega)
  replace hp := hp.later hD03
  replace hq := hq.later hD03
  replace hq6 := hq6.later hD03
  replace hq8 := hq8.later hD03
  have hBY : Below W.heap.size W Y3 := (hB06.trans (hC05.mono hB06.size)).trans (hD03.mono (by omega))
  have hzY := hBY.size
  have u3 := hD03.size
  have hw7 := hw.later hBY
  clear hB06 hC05 hD03 hO5 hd6 hw6 st6
  have hqn : q6 ≠ q3 := by omega
  ((conv => whnf); (repeat ((first | (refine VL.cons ?_) | (refine VL.nil ?_)); (conv => whnf))))
  ((repeat ((first | (refine VC.draw ?_) | (refine VC.seq ?_)); (conv => whnf))))
  refine VDraw.lasts (fun Y => Blk Y q6 31 #[.slice A3 m3' c3] ∧ Blk Y q3 63 (kC k A n c)) [([0, 1, 3, 4, 5, 6, 7], 2), ([], 8)] [] 9 (by kernel_rfl) (by kernel_rfl) ⟨hq8, hq⟩ ?_
  (conv => whnf)
  (repeat ((first | (refine VRead.loadBS (fun Y hY => hY.1) rfl rfl ?_) | (refine VRead.loadBS (fun Y hY => hY.2) rfl rfl ?_) | (refine VQ.cons ?_) | (refine VQ.nil ?_) | (refine VE.cons ?_) | (refine VRead.fld ?_) | (refine VWrap.i64 (by omega) (by omega) ?_)); (conv => whnf)))
  have hE1 : Below Y3.heap.size Y3 (Y3.drewN 1) := below_drewN (Below.refl _ _) 1
  replace hO6 := hO6.below hE1 (Nat.le_refl _)
  replace hP3 := hP3.below hE1 (Nat.le_refl _)
  replace hp := hp.later hE1
  replace hq := hq.later hE1
  replace hq6 := hq6.later hE1
  replace hq8 := hq8.later hE1
  have hBY1 := hBY.trans (hE1.mono hzY)
  have u4 := hE1.size
  generalize Y3.drewN 1 = Y4 at *
  refine VSem.appOb hO6 hP3.reads (by omega) (by omega) ?_
  intro A6 c6 Y5 hO7 hgr hblk
  have np := hO6.notBlkW hp (by decide)
  have nq := hO6.notBlkW hq (by decide)
  have nq6 := hO6.notBlkW hq6 (by decide)
  have nq8 := hO6.notBlkW hq8 (by decide)
  replace hp := hp.rowG hgr np
  replace hq := hq.rowG hgr nq
  replace hq6 := hq6.rowG hgr nq6
  replace hq8 := hq8.rowG hgr nq8
  have hBY5 : Below W.heap.size W Y5 := hBY1.grown hgr (by omega) (fun j hj => (World.ownsRow.lt hO6 j hj).1)
  (conv => whnf)
  refine Keep.mk ⟨hq8, hq⟩ ?_
  (conv => whnf)
  (repeat ((first | (refine VQ.nil ?_) | (refine VE.cons ?_)); (conv => whnf)))
  have hwl := written_len (i := k.base + 1) hme
  refine VCall.of (written_any A6 A (m3' + m5') c6 n c W.heap.size (k.base + 1) _ k.es Y5 hO7 (hE.belowB hBY5) hBY5.size (by omega) (by omega) (by omega) hme) ?_
  rintro e Y6 ⟨A7, n7, c7, rfl, hO8, hB8, hout8⟩
  refine ⟨_, rfl, ?_⟩
  have np2 := hO7.notBlkW hp (by decide)
  have nq2 := hO7.notBlkW hq (by decide)
  have nq62 := hO7.notBlkW hq6 (by decide)
  have nq82 := hO7.notBlkW hq8 (by decide)
  replace hp := hp.outW hout8 np2
  replace hq := hq.outW hout8 nq2
  replace hq6 := hq6.outW hout8 nq62
  replace hq8 := hq8.outW hout8 nq82
  have hBY6 := hBY5.trans hB8
  have hl8 := hO8.len
  rw [List.length_append, List.length_append] at hl8
  replace hO8 : Own Y6 W.heap.size (.slice A7 n7 c7) n7 (waB k) := hO8
  clear hO7 hO6 hP3 hgr hblk np nq nq6 nq8 np2 nq2 nq62 nq82 hout8 hB8
  (conv => whnf)
  refine Keep.mk ⟨hq8, hq⟩ ?_
  (conv => whnf)
  ((repeat ((first | (refine VQ.nil ?_) | (refine VE.nil ?_)); (conv => whnf))))
  refine VUnit.storeB hq8 rfl rfl rfl ?_
  intro Y7 hq9 hg9
  replace hq9 : Blk Y7 q6 31 #[.slice A7 n7 c7] := hq9
  have nq9 := hO8.notBlkW hq8 (by decide)
  have hO9 := hO8.storeApart hg9 nq9
  replace hp := hp.only hg9 (by omega)
  replace hq := hq.only hg9 (by omega)
  replace hq6 := hq6.only hg9 (by omega)
  have hBY7 : Below W.heap.size W Y7 := only_new hBY6 hg9 (by omega) hBY6.size
  clear hO8 hq8 hg9 nq9 hBY6 hBY5 hBY1 hBY hE1
  (conv => whnf)
  refine Keep.mk trivial ?_
  (conv => whnf)
  ((repeat ((first | (refine VL.cons ?_) | (refine VC.seqS rfl ?_) | (refine VC.region ?_) | (refine VC.seq ?_)); (conv => whnf))))
  refine VSem.of (v := .func (.func 80) #[] #[.pointer (some ⟨p, 0, none⟩)]) (w' := Y7) rfl ?_
  ((conv => whnf); (repeat ((first | (refine VL.cons ?_)); (conv => whnf))))
  ((repeat ((fail); (conv => whnf))))
  refine VSem.of (v := .func (.func 81) #[] #[.pointer (some ⟨p, 0, none⟩), .pointer (some ⟨q6, 0, none⟩)]) (w' := Y7) rfl ?_
  ((conv => whnf); (repeat ((first | (refine VL.cons ?_)); (conv => whnf))))
  ((repeat ((fail); (conv => whnf))))
  refine VSem.of (v := .func (.func 82) #[] #[.pointer (some ⟨p, 0, none⟩)]) (w' := Y7) rfl ?_
  ((conv => whnf); (repeat ((first | (refine VL.cons ?_)); (conv => whnf))))
  ((repeat ((fail); (conv => whnf))))
  refine VSem.of (v := .func (.func 83) #[] #[.pointer (some ⟨p, 0, none⟩), .pointer (some ⟨q5, 0, none⟩)]) (w' := Y7) rfl ?_
  ((conv => whnf); (repeat ((first | (refine VL.cons ?_)); (conv => whnf))))
  ((repeat ((fail); (conv => whnf))))
  refine VRead.ofW (v := .agg #[.func (.func 80) #[] #[.pointer (some ⟨p, 0, none⟩)], .func (.func 81) #[] #[.pointer (some ⟨p, 0, none⟩), .pointer (some ⟨q6, 0, none⟩)], .func (.func 82) #[] #[.pointer (some ⟨p, 0, none⟩)], .func (.func 83) #[] #[.pointer (some ⟨p, 0, none⟩), .pointer (some ⟨q5, 0, none⟩)]]) (fun _ => by kernel_rfl) ?_
  have hd7 := h.below hBY7
  have hw8 := hw.later hBY7
  have st7 := (Step.new (U := U) hBY7)
  have hU7 := h.lt
  have npU : ¬ U p := fun hu => by have := hU7 p hu; omega
  have nq3U : ¬ U q3 := fun hu => by have := hU7 q3 hu; omega
  have nq5U : ¬ U q5 := fun hu => by have := hU7 q5 hu; omega
  have nq6U : ¬ U q6 := fun hu => by have := hU7 q6 hu; omega
  have hfU : Free U (.slice A7 n7 c7) := Free.new hO9 hU7
  obtain ⟨bytes, hbytes⟩ : ∃ b, waB k = b := ⟨_, rfl⟩
  obtain ⟨nm, hnme⟩ : ∃ nm, wName (wl.n + 1) = nm := ⟨_, rfl⟩
  obtain ⟨R, hR⟩ : ∃ R, wrun nm bytes 4 0 S = R := ⟨_, rfl⟩
  have e0 : S.wanew wl k = if ¬ R.1 = 0 then (R, wl) else if wName wl.n = [] then ((0, R.2), ⟨wl.n + 1, k.base, k.base + k.es.length⟩) else
      ((if (R.2.remove (wName wl.n)).1 = 3 then 0 else (R.2.remove (wName wl.n)).1, (R.2.remove (wName wl.n)).2), ⟨wl.n + 1, k.base, k.base + k.es.length⟩) := by
    unfold DS.wanew
    rw [if_neg (fun h => h hm), if_neg hnm, hbytes, hnme, hR]
  rw [e0]
  rw [hbytes] at hO9
  rw [hnme] at hq6 hwn1
  have hcap := hO9.cap
  ((conv => whnf); (repeat ((first | (refine VL.cons ?_) | (refine VL.nil ?_) | (refine VC.block ?_)); (conv => whnf))))
  ((repeat ((fail); (conv => whnf))))
  refine VC.loop [4, 60] [(4, 4), (11, 12), (60, 68)] (fun m vs X => ∃ (j : Nat) (U' : Foot) (S' : DS), vs = [.int .i64 0, .int .i64 (j : Int)] ∧ m = 4 - j ∧ j ≤ 4 ∧ Dsk X U' d S' ∧ Step W U X U' ∧ Blk X g 105 (wlC d wl) ∧ ¬ U' g ∧ Blk X p 60 #[.pointer (some ⟨g, 0, none⟩)] ∧ ¬ U' p ∧
      Blk X q3 63 (kC k A n c) ∧ ¬ U' q3 ∧ Blk X q5 9 #[.string (txt nm)] ∧ ¬ U' q5 ∧ Blk X q6 31 #[.slice A7 n7 c7] ∧ ¬ U' q6 ∧ Own X W.heap.size (.slice A7 n7 c7) n7 bytes ∧ Free U' (.slice A7 n7 c7) ∧ S'.k.calls ≤ S.k.calls + j ∧ R = wrun nm bytes (4 - j) j S') (by kernel_rfl)
    ⟨_, 0, U, S, rfl, rfl, by omega, hd7, st7, hw8, hg, hp, npU, hq, nq3U, hq6, nq5U, hq9, nq6U, hO9, hfU, by omega, hR.symm⟩ ?_
  clear hR e0 hd7 st7 hw8 hg hp npU hq nq3U hq6 nq5U hq9 nq6U hO9 hfU
  rintro m τ vs X ⟨j, U1, S1, rfl, rfl, hj, hd, st, hw1, hg, hp, npU, hq, nq3U, hq5, nq5U, hq6, nq6U, hO, hfU, hcl, hR⟩
  by_cases hlt : j < 4
  · have hR2 : R = andT (wact nm bytes j S1) fun S' => wrun nm bytes (4 - (j + 1)) (j + 1) S' := by
      rw [hR, show 4 - j = (4 - (j + 1)) + 1 from by omega]; rfl
    have hwc := wact_calls nm bytes j S1
    have hj4 : j = 0 ∨ j = 1 ∨ j = 2 ∨ j = 3 := by omega
    rcases hj4 with rfl | rfl | rfl | rfl
    · ((conv => whnf); (repeat ((first | (refine VL.cons ?_) | (refine VL.nil ?_) | (refine VC.seqS rfl ?_) | (refine VC.region ?_)); (conv => whnf))))
      (repeat ((first | (refine VRead.idxAW (by decide) rfl ?_) | (refine VL.cons ?_) | (refine VL.nil ?_) | (refine VC.seqS rfl ?_) | (refine VC.region ?_) | (refine VC.cond ?_) | (refine VC.block ?_) | (refine VC.skip ?_) | (refine VBool.t ?_) | (refine VC.seq ?_)); (conv => whnf)))
      refine VCall.of (anew1_any X U1 g d p S1 wl hd hw1 hp (by omega)) ?_
      rintro e X2 ⟨rfl, U2, hd2, st2⟩
      refine ⟨_, rfl, ?_⟩
      rw [show wact nm bytes 0 S1 = S1.create wTmp from rfl] at hR2 hwc
      have st02 := st.trans st2
      obtain ⟨hw2, hg2⟩ := st2.blk hw1 hg
      by_cases ca : (S1.create wTmp).1 = 0
      case neg =>
        rw [andT_no ca] at hR2
        rw [hR2, if_pos ca]
        ((conv => whnf); (repeat ((first | (refine VL.cons ?_) | (refine VL.nil ?_) | (refine VC.seqS rfl ?_) | (refine VC.region ?_) | (refine VC.cond ?_)); (conv => whnf))))
        (repeat (first | ((first | (refine VL.cons ?_) | (refine VL.nil ?_) | (refine VC.seqS rfl ?_) | (refine VC.region ?_) | (refine VC.ret ?_) | (refine VBool.nF (by omega) ?_)); (conv => whnf)) | (refine VBool.nF ca ?_; (conv => whnf))))
        exact ⟨rfl, U2, hd2, hw2, hg2, st02.add g⟩
      rw [andT_ok ca] at hR2
      obtain ⟨hp2, npU2⟩ := st2.blk hp npU
      obtain ⟨hq2, nq3U2⟩ := st2.blk hq nq3U
      obtain ⟨hq52, nq5U2⟩ := st2.blk hq5 nq5U
      obtain ⟨hq62, nq6U2⟩ := st2.blk hq6 nq6U
      obtain ⟨hO2, hfU2⟩ := st2.own hO hfU
      ((conv => whnf); (repeat ((first | (refine VL.cons ?_) | (refine VL.nil ?_) | (refine VC.seqS rfl ?_) | (refine VC.region ?_) | (refine VC.cond ?_)); (conv => whnf))))
      (repeat (first | ((first | (refine VL.cons ?_) | (refine VL.nil ?_) | (refine VC.region ?_) | (refine VC.skip ?_) | (refine VBool.nT (by omega) ?_) | (refine VWrap.i64 (by omega) (by omega) ?_)); (conv => whnf)) | (refine VBool.nT ca ?_; (conv => whnf))))
      exact ⟨_, by omega, 1, U2, _, rfl, rfl, by omega, hd2, st02, hw2, hg2, hp2, npU2, hq2, nq3U2, hq52, nq5U2, hq62, nq6U2, hO2, hfU2, by omega, hR2⟩
    · ((conv => whnf); (repeat ((first | (refine VL.cons ?_) | (refine VL.nil ?_) | (refine VC.seqS rfl ?_) | (refine VC.region ?_)); (conv => whnf))))
      (repeat ((first | (refine VRead.idxAW (by decide) rfl ?_) | (refine VL.cons ?_) | (refine VL.nil ?_) | (refine VC.seqS rfl ?_) | (refine VC.region ?_) | (refine VC.cond ?_) | (refine VC.block ?_) | (refine VC.skip ?_) | (refine VBool.t ?_) | (refine VC.seq ?_)); (conv => whnf)))
      refine VCall.of (anew2_any X U1 g d p q6 S1 wl hd hw1 hp (by omega) hg npU nq6U W.heap.size A7 n7 c7 bytes hq6 hO (by omega)) ?_
      rintro e X2 ⟨rfl, U2, hd2, st2⟩
      refine ⟨_, rfl, ?_⟩
      rw [show wact nm bytes 1 S1 = S1.append wTmp bytes from rfl] at hR2 hwc
      have st02 := st.trans st2
      obtain ⟨hw2, hg2⟩ := st2.blk hw1 hg
      by_cases ca : (S1.append wTmp bytes).1 = 0
      case neg =>
        rw [andT_no ca] at hR2
        rw [hR2, if_pos ca]
        ((conv => whnf); (repeat ((first | (refine VL.cons ?_) | (refine VL.nil ?_) | (refine VC.seqS rfl ?_) | (refine VC.region ?_) | (refine VC.cond ?_)); (conv => whnf))))
        (repeat (first | ((first | (refine VL.cons ?_) | (refine VL.nil ?_) | (refine VC.seqS rfl ?_) | (refine VC.region ?_) | (refine VC.ret ?_) | (refine VBool.nF (by omega) ?_)); (conv => whnf)) | (refine VBool.nF ca ?_; (conv => whnf))))
        exact ⟨rfl, U2, hd2, hw2, hg2, st02.add g⟩
      rw [andT_ok ca] at hR2
      obtain ⟨hp2, npU2⟩ := st2.blk hp npU
      obtain ⟨hq2, nq3U2⟩ := st2.blk hq nq3U
      obtain ⟨hq52, nq5U2⟩ := st2.blk hq5 nq5U
      obtain ⟨hq62, nq6U2⟩ := st2.blk hq6 nq6U
      obtain ⟨hO2, hfU2⟩ := st2.own hO hfU
      ((conv => whnf); (repeat ((first | (refine VL.cons ?_) | (refine VL.nil ?_) | (refine VC.seqS rfl ?_) | (refine VC.region ?_) | (refine VC.cond ?_)); (conv => whnf))))
      (repeat (first | ((first | (refine VL.cons ?_) | (refine VL.nil ?_) | (refine VC.region ?_) | (refine VC.skip ?_) | (refine VBool.nT (by omega) ?_) | (refine VWrap.i64 (by omega) (by omega) ?_)); (conv => whnf)) | (refine VBool.nT ca ?_; (conv => whnf))))
      exact ⟨_, by omega, 2, U2, _, rfl, rfl, by omega, hd2, st02, hw2, hg2, hp2, npU2, hq2, nq3U2, hq52, nq5U2, hq62, nq6U2, hO2, hfU2, by omega, hR2⟩
    · ((conv => whnf); (repeat ((first | (refine VL.cons ?_) | (refine VL.nil ?_) | (refine VC.seqS rfl ?_) | (refine VC.region ?_)); (conv => whnf))))
      (repeat ((first | (refine VRead.idxAW (by decide) rfl ?_) | (refine VL.cons ?_) | (refine VL.nil ?_) | (refine VC.seqS rfl ?_) | (refine VC.region ?_) | (refine VC.cond ?_) | (refine VC.block ?_) | (refine VC.skip ?_) | (refine VBool.t ?_) | (refine VC.seq ?_)); (conv => whnf)))
      refine VCall.of (anew3_any X U1 g d p S1 wl hd hw1 hp (by omega)) ?_
      rintro e X2 ⟨rfl, U2, hd2, st2⟩
      refine ⟨_, rfl, ?_⟩
      rw [show wact nm bytes 2 S1 = S1.sync wTmp from rfl] at hR2 hwc
      have st02 := st.trans st2
      obtain ⟨hw2, hg2⟩ := st2.blk hw1 hg
      by_cases ca : (S1.sync wTmp).1 = 0
      case neg =>
        rw [andT_no ca] at hR2
        rw [hR2, if_pos ca]
        ((conv => whnf); (repeat ((first | (refine VL.cons ?_) | (refine VL.nil ?_) | (refine VC.seqS rfl ?_) | (refine VC.region ?_) | (refine VC.cond ?_)); (conv => whnf))))
        (repeat (first | ((first | (refine VL.cons ?_) | (refine VL.nil ?_) | (refine VC.seqS rfl ?_) | (refine VC.region ?_) | (refine VC.ret ?_) | (refine VBool.nF (by omega) ?_)); (conv => whnf)) | (refine VBool.nF ca ?_; (conv => whnf))))
        exact ⟨rfl, U2, hd2, hw2, hg2, st02.add g⟩
      rw [andT_ok ca] at hR2
      obtain ⟨hp2, npU2⟩ := st2.blk hp npU
      obtain ⟨hq2, nq3U2⟩ := st2.blk hq nq3U
      obtain ⟨hq52, nq5U2⟩ := st2.blk hq5 nq5U
      obtain ⟨hq62, nq6U2⟩ := st2.blk hq6 nq6U
      obtain ⟨hO2, hfU2⟩ := st2.own hO hfU
      ((conv => whnf); (repeat ((first | (refine VL.cons ?_) | (refine VL.nil ?_) | (refine VC.seqS rfl ?_) | (refine VC.region ?_) | (refine VC.cond ?_)); (conv => whnf))))
      (repeat (first | ((first | (refine VL.cons ?_) | (refine VL.nil ?_) | (refine VC.region ?_) | (refine VC.skip ?_) | (refine VBool.nT (by omega) ?_) | (refine VWrap.i64 (by omega) (by omega) ?_)); (conv => whnf)) | (refine VBool.nT ca ?_; (conv => whnf))))
      exact ⟨_, by omega, 3, U2, _, rfl, rfl, by omega, hd2, st02, hw2, hg2, hp2, npU2, hq2, nq3U2, hq52, nq5U2, hq62, nq6U2, hO2, hfU2, by omega, hR2⟩
    · ((conv => whnf); (repeat ((first | (refine VL.cons ?_) | (refine VL.nil ?_) | (refine VC.seqS rfl ?_) | (refine VC.region ?_)); (conv => whnf))))
      (repeat ((first | (refine VRead.idxAW (by decide) rfl ?_) | (refine VL.cons ?_) | (refine VL.nil ?_) | (refine VC.seqS rfl ?_) | (refine VC.region ?_) | (refine VC.cond ?_) | (refine VC.block ?_) | (refine VC.skip ?_) | (refine VBool.t ?_) | (refine VC.seq ?_)); (conv => whnf)))
      refine VCall.of (anew4_any X U1 g d p q5 S1 wl hd hw1 hp (by omega) hg npU nq5U nm hq5 (by omega)) ?_
      rintro e X2 ⟨rfl, U2, hd2, st2⟩
      refine ⟨_, rfl, ?_⟩
      rw [show wact nm bytes 3 S1 = S1.rename wTmp nm from rfl] at hR2 hwc
      have st02 := st.trans st2
      obtain ⟨hw2, hg2⟩ := st2.blk hw1 hg
      by_cases ca : (S1.rename wTmp nm).1 = 0
      case neg =>
        rw [andT_no ca] at hR2
        rw [hR2, if_pos ca]
        ((conv => whnf); (repeat ((first | (refine VL.cons ?_) | (refine VL.nil ?_) | (refine VC.seqS rfl ?_) | (refine VC.region ?_) | (refine VC.cond ?_)); (conv => whnf))))
        (repeat (first | ((first | (refine VL.cons ?_) | (refine VL.nil ?_) | (refine VC.seqS rfl ?_) | (refine VC.region ?_) | (refine VC.ret ?_) | (refine VBool.nF (by omega) ?_)); (conv => whnf)) | (refine VBool.nF ca ?_; (conv => whnf))))
        exact ⟨rfl, U2, hd2, hw2, hg2, st02.add g⟩
      rw [andT_ok ca] at hR2
      obtain ⟨hp2, npU2⟩ := st2.blk hp npU
      obtain ⟨hq2, nq3U2⟩ := st2.blk hq nq3U
      obtain ⟨hq52, nq5U2⟩ := st2.blk hq5 nq5U
      obtain ⟨hq62, nq6U2⟩ := st2.blk hq6 nq6U
      obtain ⟨hO2, hfU2⟩ := st2.own hO hfU
      ((conv => whnf); (repeat ((first | (refine VL.cons ?_) | (refine VL.nil ?_) | (refine VC.seqS rfl ?_) | (refine VC.region ?_) | (refine VC.cond ?_)); (conv => whnf))))
      (repeat (first | ((first | (refine VL.cons ?_) | (refine VL.nil ?_) | (refine VC.region ?_) | (refine VC.skip ?_) | (refine VBool.nT (by omega) ?_) | (refine VWrap.i64 (by omega) (by omega) ?_)); (conv => whnf)) | (refine VBool.nT ca ?_; (conv => whnf))))
      exact ⟨_, by omega, 4, U2, _, rfl, rfl, by omega, hd2, st02, hw2, hg2, hp2, npU2, hq2, nq3U2, hq52, nq5U2, hq62, nq6U2, hO2, hfU2, by omega, hR2⟩
  · obtain rfl : j = 4 := by omega
    have hR2 : R = (0, S1) := hR
    have hR0 : ¬ ¬ R.1 = 0 := by rw [hR2]; simp
    rw [if_neg hR0]
    rw [hR2]
    simp only
    clear hR hR2 hR0
    ((conv => whnf); (repeat ((first | (refine VL.cons ?_) | (refine VL.nil ?_) | (refine VC.seqS rfl ?_) | (refine VC.region ?_)); (conv => whnf))))
    (repeat (first | ((first | (refine VL.cons ?_) | (refine VC.seqS rfl ?_) | (refine VC.region ?_) | (refine VC.cond ?_) | (refine VC.exit ?_) | (refine VBool.f ?_) | (refine VRead.fld ?_) | (refine VC.seq ?_)); (conv => whnf)) | (refine VRead.loadB hp rfl rfl ?_; (conv => whnf)) | (refine VRead.loadB hw1 rfl rfl ?_; (conv => whnf))))
    refine VCall.of (walName_any wl.n X (by omega)) ?_
    rintro e X2 ⟨rfl, hB2⟩
    refine ⟨_, rfl, ?_⟩
    replace hp := hp.later hB2
    replace hq := hq.later hB2
    replace hw1 := hw1.later hB2
    replace hd := hd.below hB2
    replace st := st.trans (Step.new (U := U1) hB2)
    have hE1 : Below X2.heap.size X2 (X2.drewN 1) := below_drewN (Below.refl _ _) 1
    replace hp := hp.later hE1
    replace hq := hq.later hE1
    replace hw1 := hw1.later hE1
    replace hd := hd.below hE1
    replace st := st.trans (Step.new (U := U1) hE1)
    ((conv => whnf); (repeat ((first | (refine VL.cons ?_) | (refine VL.nil ?_)); (conv => whnf))))
    ((repeat ((first | (refine VC.draw ?_) | (refine VC.seq ?_)); (conv => whnf))))
    refine VDraw.seg (fun Y => Blk Y p 60 #[.pointer (some ⟨g, 0, none⟩)] ∧ Blk Y q3 63 (kC k A n c)) [([0, 1, 2, 3, 4, 5, 8, 9, 10, 11, 12, 13, 14, 15], 6), ([7, 16, 17], 18), ([19, 20], 21), ([22, 23], 24)] [] (by kernel_rfl) (by kernel_rfl) ⟨hp, hq⟩ ?_
    generalize X2.drewN 1 = X3 at *
    (conv => whnf)
    (repeat ((first | (refine VRead.loadBS (fun Y hY => hY.1) rfl rfl ?_) | (refine VRead.loadBS (fun Y hY => hY.2) rfl rfl ?_) | (refine VQ.cons ?_) | (refine VQ.nil ?_) | (refine VG.cons ?_) | (refine VRead.lenS ?_) | (refine VRead.fld ?_) | (refine VWrap.i64 (by omega) (by omega) ?_)); (conv => whnf)))
    refine VRead.loadB hw1 rfl rfl ?_
    (conv => whnf)
    refine Keep.mk ⟨hp, hq⟩ ?_
    (conv => whnf)
    ((repeat ((first | (refine VQ.cons ?_) | (refine VQ.nil ?_) | (refine VG.cons ?_) | (refine VRead.fld ?_) | (refine VWrap.i64 (by omega) (by omega) ?_)); (conv => whnf))))
    refine VUnit.storeB hw1 rfl rfl rfl ?_
    intro X4 hw4 hg4
    replace hp := hp.only hg4 (by omega)
    replace hq := hq.only hg4 (by omega)
    replace hd := hd.cell hg4 hg
    replace st := (st.add g).trans (Step.cell hg4)
    (conv => whnf)
    refine Keep.mk ⟨hp, hq⟩ ?_
    (conv => whnf)
    ((repeat ((first | (refine VQ.cons ?_) | (refine VQ.nil ?_) | (refine VG.cons ?_) | (refine VRead.fld ?_)); (conv => whnf))))
    refine VUnit.storeB hw4 rfl rfl rfl ?_
    intro X5 hw5 hg5
    replace hp := hp.only hg5 (by omega)
    replace hq := hq.only hg5 (by omega)
    replace hd := hd.cell hg5 hg
    replace st := st.trans (Step.cell hg5)
    (conv => whnf)
    refine Keep.mk ⟨hp, hq⟩ ?_
    (conv => whnf)
    ((repeat ((first | (refine VQ.cons ?_) | (refine VQ.nil ?_) | (refine VG.cons ?_) | (refine VRead.fld ?_)); (conv => whnf))))
    refine VUnit.storeB hw5 rfl rfl rfl ?_
    intro X6 hw6 hg6
    replace hp := hp.only hg6 (by omega)
    replace hq := hq.only hg6 (by omega)
    replace hd := hd.cell hg6 hg
    replace st := st.trans (Step.cell hg6)
    replace hw6 : Blk X6 g 105 (wlC d ⟨wl.n + 1, k.base, k.base + n⟩) := hw6
    clear hw1 hw4 hw5 hg4 hg5 hg6
    (conv => whnf)
    refine Keep.mk ⟨hp, hq⟩ ?_
    rw [hel]
    by_cases hel0 : wName wl.n = []
    · have he' : txt (wName wl.n) = txt [] := by rw [hel0]
      rw [if_pos hel0]
      ((conv => whnf); (repeat ((first | (refine VQ.nil ?_) | (refine VG.nil ?_)); (conv => whnf))))
      (repeat (first | ((first | (refine VL.cons ?_) | (refine VL.nil ?_) | (refine VC.seqS rfl ?_) | (refine VC.region ?_) | (refine VC.cond ?_) | (refine VC.ret ?_) | (refine VC.seq ?_)); (conv => whnf)) | (refine VBool.dT he' ?_; (conv => whnf))))
      exact ⟨rfl, U1, hd, hw6, hg, st⟩
    have he' : ¬ txt (wName wl.n) = txt [] := fun e => hel0 (txt_inj.1 e)
    rw [if_neg hel0]
    ((conv => whnf); (repeat ((first | (refine VQ.nil ?_) | (refine VG.nil ?_)); (conv => whnf))))
    (repeat (first | ((first | (refine VL.cons ?_) | (refine VL.nil ?_) | (refine VC.seqS rfl ?_) | (refine VC.region ?_) | (refine VC.cond ?_) | (refine VC.skip ?_) | (refine VRead.fld ?_) | (refine VC.seq ?_)); (conv => whnf)) | (refine VBool.dF he' ?_; (conv => whnf)) | (refine VRead.loadB hp rfl rfl ?_; (conv => whnf)) | (refine VRead.loadB hw6 rfl rfl ?_; (conv => whnf))))
    refine VCall.of (oRemove X6 U1 d S1 (wName wl.n) hd (by omega) (by omega)) ?_
    rintro e X7 ⟨rfl, U2, hd2, st2⟩
    refine ⟨_, rfl, ?_⟩
    obtain ⟨hw7, hg7⟩ := st2.blk hw6 hg
    have st7 := st.trans (st2.add g)
    by_cases c3 : (S1.remove (wName wl.n)).1 = 3
    · simp only [if_pos c3]
      ((conv => whnf); (repeat ((first | (refine VL.cons ?_) | (refine VL.nil ?_) | (refine VC.seqS rfl ?_) | (refine VC.region ?_) | (refine VC.cond ?_)); (conv => whnf))))
      (repeat (first | ((first | (refine VL.cons ?_) | (refine VL.nil ?_) | (refine VC.seqS rfl ?_) | (refine VC.region ?_) | (refine VC.ret ?_) | (refine VC.skip ?_) | (refine VBool.nT (by omega) ?_)); (conv => whnf)) | (refine VBool.nT c3 ?_; (conv => whnf))))
      exact ⟨rfl, U2, hd2, hw7, hg7, st7⟩
    · simp only [if_neg c3]
      ((conv => whnf); (repeat ((first | (refine VL.cons ?_) | (refine VL.nil ?_) | (refine VC.seqS rfl ?_) | (refine VC.region ?_) | (refine VC.cond ?_)); (conv => whnf))))
      (repeat (first | ((first | (refine VL.cons ?_) | (refine VL.nil ?_) | (refine VC.seqS rfl ?_) | (refine VC.region ?_) | (refine VC.ret ?_) | (refine VBool.nF (by omega) ?_)); (conv => whnf)) | (refine VBool.nF c3 ?_; (conv => whnf))))
      exact ⟨rfl, U2, hd2, hw7, hg7, st7⟩
end Go.Proofs.Ytebeidnmplnlpaa
end

section
set_option maxRecDepth 10000
namespace Go.Proofs.Ytebeidnmplnlpaa
set_option linter.unusedVariables false
open Go.RowKit

theorem VRes.op3 {P : Program} {w : World} {a b c t T1 g1 k : Nat} {σ : Env} {cs : Array Value} {R : Ending → World → Prop} [i : TAgg P t k]
    (ha : σ b = .pointer (some ⟨g1, 0, none⟩)) (h1 : Blk w g1 T1 cs) (hs : Nat.beq cs.size k = true)
    (h : R (.returned (.tuple #[σ a, .agg cs, σ c])) w) : VRes P [.tmp a, .cell b t, .tmp c] σ w R := by
  have k1 := run_load_agg (P := P) i h1 (Nat.eq_of_beq_eq_true hs)
  unfold Instr.loadAt Instr.sureAddr at k1
  simp only [Sem.run_bind, Sem.run_pure, Result.andThen_ok] at k1
  exact ⟨⟨_, by simp [resE, ha, asAddr, k1], h⟩⟩
/-! ### plain -/
structure Scn where
  some_ : Bool
  n : Nat
  k : Kp
  whole : Bool
def woStep (acc : Scn) (p : List UInt8 × Fl) : Scn := match wNum p.1 with
  | none => acc
  | some n => match readW p.2.b with
    | some k => ⟨true, n, k, isWhole p.2.b⟩
    | none => { acc with some_ := true }
def wScan (T : PT) : Scn := T.foldl woStep ⟨false, 0, Kp.zero, false⟩
def Scn.wl (c : Scn) : WlS := ⟨c.n, c.k.base, c.k.base + c.k.es.length⟩
def DS.wnext (S : DS) (c : Scn) : (Int × DS) × WlS := if c.whole = true then (S.sync (wName c.n), c.wl) else S.wanew c.wl c.k
def DS.wend (R : (Int × DS) × WlS) : Int × DS := andT R.1 fun S1 => S1.clear wPre (wName R.2.n) S1.keys
def DS.wopen (S : DS) : (Int × DS) × Option (WlS × Kp) :=
  if (wScan S.t).some_ = true ∧ (wScan S.t).n = 0 then ((23, S), none) else
  (DS.wend (S.wnext (wScan S.t)), if (DS.wend (S.wnext (wScan S.t))).1 = 0 then some ((S.wnext (wScan S.t)).2, (wScan S.t).k) else none)
theorem takesA_ok : ∀ {cs : List (List UInt8)} {st : Bool} {k k' : Kp}, takesA st k cs = some k' → inR k.base 1099511627776 → inR k'.base 1099511627776 ∧ k'.es.length ≤ k.es.length + cs.length
  | [], st, k, k', h, hb => by
    injection h with h; subst h; exact ⟨hb, by simp⟩
  | c :: cs, st, k, k', h, hb => by
    unfold takesA at h
    cases ht : takes k c st with
    | none => rw [ht] at h; cases h
    | some k1 =>
      rw [ht] at h
      obtain ⟨h1, h2⟩ := takes_in ht hb
      obtain ⟨h3, h4⟩ := takesA_ok h h1
      exact ⟨h3, by rw [List.length_cons]; omega⟩
theorem laid_ge : ∀ (bs : List (List UInt8)), bs.length ≤ (Frame.laid bs).length
  | [] => by simp
  | b :: bs => by
    have h1 := laid_ge bs
    have h2 := Frame.put_pos b
    rw [Frame.laid_cons, List.length_append, List.length_cons]
    omega
theorem readW_ok {l : List UInt8} {k : Kp} (h : readW l = some k) : inR k.base 1099511627776 ∧ k.es.length ≤ l.length := by
  unfold readW at h
  split at h
  · cases h
  · obtain ⟨h1, h2⟩ := takesA_ok h ⟨by decide, by decide⟩
    have h3 := laid_ge (Frame.bodies l)
    have h4 := congrArg List.length (Frame.bodies_spec l).1
    rw [List.length_append] at h4
    have : Kp.zero.es.length = 0 := rfl
    exact ⟨h1, by omega⟩
structure ScnOk (c : Scn) : Prop where
  n : c.n ≤ 99999999
  b : inR c.k.base 1099511627776
  l : c.k.es.length ≤ 16777216
theorem ScnOk.wl {c : Scn} (h : ScnOk c) : WlOk c.wl := by
  obtain ⟨h1, ⟨h2, h3⟩, h4⟩ := h
  have e1 : c.wl.n = (c.n : Int) := rfl
  have e2 : c.wl.base = c.k.base := rfl
  have e3 : c.wl.last = c.k.base + c.k.es.length := rfl
  exact ⟨by omega, by omega, by omega, by omega, by omega, by omega⟩
theorem wrun_calls (nm b : List UInt8) : ∀ (m k : Nat) (S : DS), (wrun nm b m k S).2.k.calls ≤ S.k.calls + m
  | 0, k, S => by show S.k.calls ≤ S.k.calls + ((0 : Nat) : Int); omega
  | m + 1, k, S => by
    unfold wrun
    have h1 := wact_calls nm b k S
    by_cases h : (wact nm b k S).1 = 0
    · rw [andT_ok h]
      have := wrun_calls nm b m (k + 1) (wact nm b k S).2
      omega
    · rw [andT_no h]
      omega
theorem wanew_calls (S : DS) (w : WlS) (k : Kp) : (S.wanew w k).1.2.k.calls ≤ S.k.calls + 5 ∧ ((S.wanew w k).2.n = w.n ∨ (S.wanew w k).2.n = w.n + 1) := by
  unfold DS.wanew
  split
  · exact ⟨by simp only; omega, .inl rfl⟩
  · split
    · exact ⟨by simp only; omega, .inl rfl⟩
    · have h1 := wrun_calls (wName (w.n + 1)) (waB k) 4 0 S
      simp only
      split
      · exact ⟨by simp only; omega, .inl rfl⟩
      · split
        · exact ⟨by simp only; omega, .inr rfl⟩
        · have h2 : ((wrun (wName (w.n + 1)) (waB k) 4 0 S).2.remove (wName w.n)).2.k.calls = (wrun (wName (w.n + 1)) (waB k) 4 0 S).2.k.calls + 1 := DS.remove_calls
          exact ⟨by simp only; omega, .inr rfl⟩
theorem wnext_calls (S : DS) (c : Scn) : (S.wnext c).1.2.k.calls ≤ S.k.calls + 5 ∧ ((S.wnext c).2.n = c.n ∨ (S.wnext c).2.n = (c.n : Int) + 1) := by
  unfold DS.wnext
  split
  · have h2 : (S.sync (wName c.n)).2.k.calls = S.k.calls + 1 := DS.sync_calls
    exact ⟨by simp only; omega, .inl rfl⟩
  · have := wanew_calls S c.wl c.k
    exact this
theorem Lies.ne {W : World} {V : Foot} {A : Option Addr} {m g T : Nat} {l : List UInt8} {cs : Array Value} (h : Lies W V A m l) (hb : Blk W g T cs) (hT : 5 ≠ T) : Lies W (fun j => V j ∧ j ≠ g) A m l :=
  ⟨h.1, fun hm => by
    obtain ⟨ad, cs', fr, e, h1, h2⟩ := h.2 hm
    refine ⟨ad, cs', fr, e, ⟨h1, fun e' => ?_⟩, h2⟩
    unfold Blk at hb
    rw [← e', h2] at hb
    injection hb with hb
    injection hb with _ h3 _
    exact hT h3⟩
theorem ERow.ne {W : World} {V : Foot} {B g T : Nat} {v : Value} {es : List En} {cs : Array Value} (h : ERow W V B v es) (hb : Blk W g T cs) (hT : 5 ≠ T) (hT2 : 67 ≠ T) : ERow W (fun j => V j ∧ j ≠ g) B v es := by
  have hn := h.notBlk hb hT2
  obtain ⟨xs, h1, h2, h3⟩ := h
  refine ⟨xs, h1, fun q hq => ⟨h2 q hq, fun e => hn (by rw [hq, e])⟩, fun i e he => ?_⟩
  obtain ⟨A', m, k, e1, e2, e3, e4, e5⟩ := h3 i e he
  exact ⟨A', m, k, e1, e2, e3, e4, e5.ne hb hT⟩
theorem ERow.addU {W : World} {U : Foot} {B g T : Nat} {v : Value} {es : List En} {cs : Array Value} (h : ERow W (NotU U) B v es) (hb : Blk W g T cs) (hT : 5 ≠ T) (hT2 : 67 ≠ T) : ERow W (NotU (addF U g)) B v es :=
  (h.ne hb hT hT2).more (Nat.le_refl _) (fun j _ hj hu => by
    rcases hu with hu | hu
    · exact hj.1 hu
    · exact hj.2 hu)
theorem ERow.unU {W : World} {U : Foot} {B g : Nat} {v : Value} {es : List En} (h : ERow W (NotU (addF U g)) B v es) : ERow W (NotU U) B v es := h.more (Nat.le_refl _) (fun j _ hj hu => hj (.inl hu))
theorem Step.pastG {W X X' : World} {U U' : Foot} {q : Nat} (h : Step W U X U') (hg : X.grownBy X' (some q)) (hq : W.heap.size ≤ q) : Step W U X' U' := ⟨h.out.newG hg (.inl hq), h.sub⟩
theorem Step.past {W Y X : World} {U U' : Foot} {g : Nat} (hB : Below W.heap.size W Y) (h : Step Y (addF U g) X (addF U' g)) (hg : W.heap.size ≤ g) : Step W U X U' := by
  have hs := hB.size
  refine ⟨⟨h.out.os.trans hB.os, h.out.tape.trans hB.tape, h.out.output.trans hB.output, Nat.le_trans hs h.out.size, fun j hj hu => ?_⟩, fun j hj => ?_⟩
  · rw [h.out.block j (by omega) (fun h' => by
      rcases h' with h' | h'
      · exact hu h'
      · omega), hB.block j hj]
  · rcases h.sub j (.inl hj) with h' | h'
    · rcases h' with h' | h'
      · exact .inl h'
      · right; omega
    · right; omega
/-- what Open gives -/
def OpV (W W' : World) (U' : Foot) (d : Nat) (r : Int) (o : Option (WlS × Kp)) (e : Ending) : Prop := match o with
  | none => e = .returned (.tuple #[.pointer none, .agg (kC Kp.zero none 0 0), .int .i64 r])
  | some y => ∃ g A n c, e = .returned (.tuple #[.pointer (some ⟨g, 0, none⟩), .agg (kC y.2 A n c), .int .i64 0]) ∧ Blk W' g 105 (wlC d y.1) ∧ ¬ U' g ∧ W.heap.size ≤ g ∧ ERow W' (NotU U') W.heap.size (.slice A n c) y.2.es
set_option maxHeartbeats 4000000 in
theorem walOpen_any (W : World) (U : Foot) (d : Nat) (S : DS) (h : Dsk W U d S) (hc : S.k.calls + 200 < 1000000) :
    Calls Try.prog 40 #[.pointer (some ⟨d, 0, none⟩)] W fun e W' => ∃ U', Dsk W' U' d (S.wopen).1.2 ∧ Step W U W' U' ∧ OpV W W' U' d (S.wopen).1.1 (S.wopen).2 e := by
  have hfew := h.wf.t.few
  have hris := h.wf.t.ris
  have hroom := h.wf.k.room
  have hfit := h.wf.t.fit
  refine calls_vc Try.func40 rfl (by kernel_rfl) ?_
  ((conv => whnf); (repeat ((first | (refine VL.cons ?_) | (refine VC.seqS rfl ?_) | (refine VC.region ?_)); (conv => whnf))))
  ((repeat ((fail); (conv => whnf))))
  refine VSem.allocZ (z := .agg (kC Kp.zero none 0 0)) (by kernel_rfl) ?_
  intro w1 g3 hb3 hg3 hl3 hB1
  replace hb3 : Blk w1 g3 63 (kC Kp.zero none 0 0) := hb3
  ((conv => whnf); (repeat ((first | (refine VL.cons ?_) | (refine VL.nil ?_) | (refine VC.seqS rfl ?_) | (refine VC.region ?_)); (conv => whnf))))
  ((repeat ((fail); (conv => whnf))))
  refine VRead.ofW (v := .agg (wlC d ⟨0, 0, 0⟩)) (fun _ => by kernel_rfl) ?_
  ((conv => whnf); (repeat ((first | (refine VL.cons ?_)); (conv => whnf))))
  ((repeat ((fail); (conv => whnf))))
  refine VSem.boxB ?_
  intro w2 g5 hb5 hg5 hl5 hB2
  replace hb5 : Blk w2 g5 105 (wlC d ⟨0, 0, 0⟩) := hb5
  ((conv => whnf); (repeat ((first | (refine VL.cons ?_) | (refine VL.nil ?_) | (refine VC.seqS rfl ?_) | (refine VC.region ?_)); (conv => whnf))))
  ((repeat ((fail); (conv => whnf))))
  refine VRead.ofW (v := .agg (kC Kp.zero none 0 0)) (fun _ => by kernel_rfl) ?_
  ((conv => whnf); (repeat ((first | (refine VL.cons ?_)); (conv => whnf))))
  ((repeat ((fail); (conv => whnf))))
  refine VSem.allocZ (z := .agg (kC Kp.zero none 0 0)) (by kernel_rfl) ?_
  intro w3 g6 hb6 hg6 hl6 hB3
  replace hb6 : Blk w3 g6 63 (kC Kp.zero none 0 0) := hb6
  ((conv => whnf); (repeat ((first | (refine VL.cons ?_)); (conv => whnf))))
  ((repeat ((fail); (conv => whnf))))
  refine VUnit.storeAB hb6 rfl rfl rfl (by simp [kC, Kp.zero, Value.oneCell']) ?_
  intro w4 hb6' hg6'
  rw [setFrom_allW rfl] at hb6'
  have s1 := hB1.size
  have s2 := hB2.size
  have s3 := hB3.size
  have s4 := hg6'.size
  replace hb3 := ((hb3.later hB2).later hB3).only hg6' (by omega)
  replace hb5 := (hb5.later hB3).only hg6' (by omega)
  have hB04 : Below W.heap.size W w4 := only_new ((hB1.trans (hB2.mono s1)).trans (hB3.mono (Nat.le_trans s1 s2))) hg6' (by omega) (by omega)
  clear hb6 hB1 hB2 hB3 hg6'
  ((conv => whnf); (repeat ((first | (refine VL.cons ?_) | (refine VL.nil ?_)); (conv => whnf))))
  ((repeat ((first | (refine VL.cons ?_) | (refine VC.seqS rfl ?_) | (refine VC.region ?_) | (refine VC.seq ?_)); (conv => whnf))))
  refine VCall.of (oList w4 U d S (h.below hB04)) ?_
  rintro e w5 ⟨Al, kl, rfl, hOl, hB5⟩
  refine ⟨_, rfl, ?_⟩
  replace hb3 := hb3.later hB5
  replace hb5 := hb5.later hB5
  replace hb6' := hb6'.later hB5
  have hB05 := hB04.trans (hB5.mono hB04.size)
  have s5 := hB5.size
  obtain ⟨o1, o2, o3, o4⟩ : W.heap.size ≤ g3 ∧ g3 < g5 ∧ g5 < g6 ∧ g6 < w4.heap.size := by omega
  ((conv => whnf); (repeat ((first | (refine VL.cons ?_)); (conv => whnf))))
  ((repeat ((first | (refine VL.cons ?_) | (refine VL.nil ?_) | (refine VC.block ?_) | (refine VRead.lenS ?_)); (conv => whnf))))
  refine VC.loop [7, 8, 26] [(7, 8), (10, 17), (26, 56)] (fun q vs X => ∃ (j : Nat) (acc : Scn) (A : Option Addr) (n c : Nat), vs = [.bool acc.whole, .bool acc.some_, .int .i64 (j : Int)] ∧ q = S.t.length - j ∧ j ≤ S.t.length ∧ (S.t.take j).foldl woStep ⟨false, 0, Kp.zero, false⟩ = acc ∧ ScnOk acc ∧
      Blk X g3 63 (kC Kp.zero none 0 0) ∧ Blk X g5 105 (wlC d ⟨acc.n, 0, 0⟩) ∧ Blk X g6 63 (kC acc.k A n c) ∧ ERow X (fun j => W.heap.size ≤ j) W.heap.size (.slice A n c) acc.k.es ∧
      X.ownsRow w4.heap.size 9 1 (.slice Al S.t.length kl) S.t.length ((S.t.map (·.1)).map encStr) ∧ Below W.heap.size W X) (by kernel_rfl)
    ⟨_, 0, ⟨false, 0, Kp.zero, false⟩, none, 0, 0, rfl, rfl, by omega, rfl, ⟨by decide, ⟨by decide, by decide⟩, by decide⟩, hb3, hb5, hb6', ERow.nil _ _ _, hOl, hB05⟩ ?_
  clear hb3 hb5 hb6' hOl hB05 hB5 hB04
  rintro q τ vs X ⟨j, acc, A, n, c, rfl, rfl, hj, hacc, hok, hb3, hb5, hb6, hE, hO, hB⟩
  by_cases hjn : j < S.t.length
  case neg =>
    obtain rfl : j = S.t.length := by omega
    rw [List.take_length] at hacc
    have hscan : wScan S.t = acc := hacc
    unfold DS.wopen
    rw [hscan]
    have hd := h.below hB
    obtain ⟨hn9, hbase, hlen⟩ := id hok
    obtain ⟨hbase1, hbase2⟩ := hbase
    have hkl := hE.at_.2.2
    by_cases hcor : acc.some_ = true ∧ acc.n = 0
    · rw [if_pos hcor]
      obtain ⟨h1, h2⟩ := hcor
      have h2' : (acc.n : Int) = 0 := by omega
      ((conv => whnf); (repeat ((first | (refine VL.cons ?_) | (refine VL.nil ?_) | (refine VC.seqS rfl ?_) | (refine VC.region ?_)); (conv => whnf))))
      (repeat (first | ((first | (refine VL.cons ?_) | (refine VL.nil ?_) | (refine VC.seqS rfl ?_) | (refine VC.region ?_) | (refine VC.cond ?_) | (refine VC.exit ?_) | (refine VBool.t ?_) | (refine VBool.dT (by omega) ?_) | (refine VBool.dF (by omega) ?_) | (refine VRead.fld ?_) | (refine VC.seq ?_)); (conv => whnf)) | (refine VBool.yes h1 ?_; (conv => whnf)) | (refine VRead.loadB hb5 rfl rfl ?_; (conv => whnf))))
      refine VRead.ofW (v := .agg (kC Kp.zero none 0 0)) (fun _ => by kernel_rfl) ?_
      ((conv => whnf); (repeat ((first | (refine VL.cons ?_)); (conv => whnf))))
      ((repeat ((fail); (conv => whnf))))
      refine VUnit.storeAB hb3 rfl rfl rfl (by simp [kC, Kp.zero, Value.oneCell']) ?_
      intro X2 hb32 hg2
      rw [setFrom_allW rfl] at hb32
      ((conv => whnf); (repeat ((first | (refine VL.cons ?_) | (refine VL.nil ?_) | (refine VC.ret ?_)); (conv => whnf))))
      ((repeat ((fail); (conv => whnf))))
      refine VRes.op3 rfl hb32 rfl ?_
      have hB2 : Below W.heap.size W X2 := only_new hB hg2 (by omega) hB.size
      exact ⟨U, h.below hB2, Step.new hB2, rfl⟩
    rw [if_neg hcor]
    (conv => whnf)
    (iterate 8 ((first | (refine VL.cons ?_) | (refine VL.nil ?_) | (refine VC.seqS rfl ?_) | (refine VC.region ?_) | (refine VC.cond ?_) | (refine VC.exit ?_) | (refine VBool.dF (by omega) ?_) | (refine VC.seq ?_)); (conv => whnf)))
    refine VC.cut [2, 4] [(2, 2), (4, 4), (57, 65)] (fun vs Y => vs = [.pointer none, .int .i64 0] ∧ Y = X) (by kernel_rfl) ?_ ?_
    · cases hsm : acc.some_ with
      | false =>
        ((conv => whnf); (repeat ((first | (refine VL.cons ?_) | (refine VC.seqS rfl ?_) | (refine VC.region ?_)); (conv => whnf))))
        (repeat (first | ((first | (refine VL.cons ?_) | (refine VL.nil ?_) | (refine VC.cond ?_) | (refine VC.skip ?_) | (refine VBool.f ?_)); (conv => whnf)) | (refine VBool.no hsm ?_; (conv => whnf))))
        exact ⟨rfl, rfl⟩
      | true =>
        have h2' : ¬ (acc.n : Int) = 0 := fun e => hcor ⟨hsm, by omega⟩
        ((conv => whnf); (repeat ((first | (refine VL.cons ?_) | (refine VC.seqS rfl ?_) | (refine VC.region ?_)); (conv => whnf))))
        (repeat (first | ((first | (refine VL.cons ?_) | (refine VL.nil ?_) | (refine VC.cond ?_) | (refine VC.skip ?_) | (refine VBool.t ?_) | (refine VBool.dF (by omega) ?_) | (refine VRead.fld ?_)); (conv => whnf)) | (refine VBool.yes hsm ?_; (conv => whnf)) | (refine VRead.loadB hb5 rfl rfl ?_; (conv => whnf))))
        exact ⟨rfl, rfl⟩
    rintro τ2 vs Y ⟨rfl, hYX⟩
    have hB' : Below W.heap.size W Y := by rw [hYX]; exact hB
    rw [← hYX] at hb3 hb5 hb6 hE hd
    clear hYX hB hO
    have g5l := hb5.lt
    have g6l := hb6.lt
    have hE7 : Below Y.heap.size Y (Y.drewN 1) := below_drewN (Below.refl _ _) 1
    replace hb3 := hb3.later hE7
    replace hb5 := hb5.later hE7
    replace hb6 := hb6.later hE7
    replace hE := hE.below hE7
    have hB7 := hB'.trans (hE7.mono hB'.size)
    ((conv => whnf); (repeat ((fail); (conv => whnf))))
    ((repeat ((first | (refine VC.draw ?_) | (refine VC.seq ?_)); (conv => whnf))))
    refine VDraw.seg (fun Z => Blk Z g6 63 (kC acc.k A n c)) [([0, 1, 2, 3, 4, 5, 6, 7, 8, 9, 10, 11], 12), ([13, 14], 15)] [] (by kernel_rfl) (by kernel_rfl) hb6 ?_
    generalize Y.drewN 1 = Y1 at *
    (conv => whnf)
    (repeat ((first | (refine VRead.loadBS (fun Z hZ => hZ) rfl rfl ?_) | (refine VQ.cons ?_) | (refine VQ.nil ?_) | (refine VG.cons ?_) | (refine VRead.lenS ?_) | (refine VRead.fld ?_) | (refine VWrap.i64 (by omega) (by omega) ?_)); (conv => whnf)))
    refine VUnit.storeB hb5 rfl rfl rfl ?_
    intro Y2 hb52 hg2
    replace hE := hE.keepG hb5 hg2 (by decide) (hE.notBlk hb5 (by decide))
    replace hb3 := hb3.only hg2 (by omega)
    replace hb6 := hb6.only hg2 (by omega)
    have hB8 : Below W.heap.size W Y2 := only_new hB7 hg2 (by omega) hB7.size
    (conv => whnf)
    refine Keep.mk hb6 ?_
    (conv => whnf)
    ((repeat ((first | (refine VQ.cons ?_) | (refine VQ.nil ?_) | (refine VG.cons ?_) | (refine VRead.fld ?_)); (conv => whnf))))
    refine VUnit.storeB hb52 rfl rfl rfl ?_
    intro Y3 hb53 hg3'
    replace hE := hE.keepG hb52 hg3' (by decide) (hE.notBlk hb52 (by decide))
    replace hb3 := hb3.only hg3' (by omega)
    replace hb6 := hb6.only hg3' (by omega)
    have hB9 : Below W.heap.size W Y3 := only_new hB8 hg3' (by omega) hB8.size
    have hw3 : Blk Y3 g5 105 (wlC d acc.wl) := by
      have e1 : acc.wl = ⟨acc.n, acc.k.base, acc.k.base + n⟩ := by unfold Scn.wl; rw [hkl]
      rw [e1]; exact hb53
    clear hb5 hb52 hb53 hg2 hg3' hB7 hB8 hE7 hB' hd
    (conv => whnf)
    refine Keep.mk hb6 ?_
    have hd := h.below hB9
    have hU := h.lt
    have n3 : ¬ U g3 := fun hu => by have := hU g3 hu; omega
    have n5 : ¬ U g5 := fun hu => by have := hU g5 hu; omega
    have n6 : ¬ U g6 := fun hu => by have := hU g6 hu; omega
    replace hE : ERow Y3 (NotU U) W.heap.size (.slice A n c) acc.k.es := hE.more (Nat.le_refl _) (fun j _ hj hu => by have : W.heap.size ≤ j := hj; have := hU j hu; omega)
    have st := Step.new (U := U) hB9
    have hwlok := hok.wl
    have hwn : acc.wl.n = (acc.n : Int) := rfl
    obtain ⟨R, hR⟩ : ∃ R, S.wnext acc = R := ⟨_, rfl⟩
    rw [hR]
    (conv => whnf)
    (iterate 6 ((first | (refine VL.cons ?_) | (refine VL.nil ?_) | (refine VC.seqS rfl ?_) | (refine VC.region ?_) | (refine VQ.nil ?_) | (refine VG.nil ?_)); (conv => whnf)))
    have hRc := wnext_calls S acc
    rw [hR] at hRc
    refine VC.cut [18] [(18, 18), (80, 90)] (fun vs X => vs = [.int .i64 R.1.1] ∧ ∃ U', Dsk X U' d R.1.2 ∧ Blk X g5 105 (wlC d R.2) ∧ ¬ U' g5 ∧ Step Y3 (addF U g5) X (addF U' g5)) (by kernel_rfl) ?_ ?_
    · cases hwh : acc.whole with
      | true =>
        have e1 : S.wnext acc = (S.sync (wName acc.n), acc.wl) := by unfold DS.wnext; rw [if_pos hwh]
        rw [e1] at hR
        subst hR
        ((conv => whnf); (repeat ((first | (refine VL.cons ?_) | (refine VL.nil ?_) | (refine VC.seqS rfl ?_) | (refine VC.region ?_) | (refine VC.cond ?_)); (conv => whnf))))
        (repeat (first | ((first | (refine VL.cons ?_) | (refine VC.region ?_) | (refine VBool.t ?_) | (refine VRead.fld ?_)); (conv => whnf)) | (refine VBool.yes hwh ?_; (conv => whnf)) | (refine VRead.loadB hw3 rfl rfl ?_; (conv => whnf))))
        refine VCall.of (walName_any (acc.n : Int) Y3 (by omega)) ?_
        rintro e Z1 ⟨rfl, hZ1⟩
        refine ⟨_, rfl, ?_⟩
        ((conv => whnf); (repeat ((first | (refine VL.cons ?_)); (conv => whnf))))
        ((repeat ((fail); (conv => whnf))))
        refine VCall.of (oSync Z1 U d S (wName acc.n) (hd.below hZ1) (by omega) (by have := wName_le (acc.n : Int); omega)) ?_
        rintro e Z2 ⟨rfl, U2, hd2, st2⟩
        refine ⟨_, rfl, ?_⟩
        obtain ⟨hw4, n52⟩ := ((Step.new (U := U) hZ1).trans st2).blk hw3 n5
        ((conv => whnf); (repeat ((first | (refine VL.cons ?_) | (refine VL.nil ?_)); (conv => whnf))))
        ((repeat ((fail); (conv => whnf))))
        exact ⟨rfl, U2, hd2, hw4, n52, ((Step.new (U := U) hZ1).trans st2).add g5⟩
      | false =>
        have e1 : S.wnext acc = S.wanew acc.wl acc.k := by unfold DS.wnext; rw [if_neg (by rw [hwh]; simp)]
        rw [e1] at hR
        subst hR
        ((conv => whnf); (repeat ((first | (refine VL.cons ?_) | (refine VL.nil ?_) | (refine VC.seqS rfl ?_) | (refine VC.region ?_) | (refine VC.cond ?_)); (conv => whnf))))
        (repeat (first | ((first | (refine VL.cons ?_) | (refine VC.region ?_) | (refine VBool.f ?_)); (conv => whnf)) | (refine VBool.no hwh ?_; (conv => whnf)) | (refine VRead.loadAB1 hb6 rfl rfl ?_; (conv => whnf))))
        refine VCall.of (walAnew_any Y3 U g5 d S acc.wl acc.k A n c hd hw3 n5 hwlok (hE.at_.1.more (fun j hj _ => hj)) (by omega) (by omega) (by omega)) ?_
        rintro e Z2 ⟨rfl, U2, hd2, hw4, n52, st2⟩
        refine ⟨_, rfl, ?_⟩
        ((conv => whnf); (repeat ((first | (refine VL.cons ?_) | (refine VL.nil ?_)); (conv => whnf))))
        ((repeat ((fail); (conv => whnf))))
        exact ⟨rfl, U2, hd2, hw4, n52, st2⟩
    rintro τ3 vs X2 ⟨rfl, U2, hd2, hw4, n52, st2⟩
    obtain ⟨hRc1, hRn⟩ := hRc
    refine VC.cut [18] [(18, 18), (91, 94)] (fun vs X => vs = [.int .i64 (DS.wend R).1] ∧ ∃ U', Dsk X U' d (DS.wend R).2 ∧ Blk X g5 105 (wlC d R.2) ∧ ¬ U' g5 ∧ Step Y3 (addF U g5) X (addF U' g5)) (by kernel_rfl) ?_ ?_
    · by_cases cr : R.1.1 = 0
      case neg =>
        have e1 : DS.wend R = R.1 := by unfold DS.wend; rw [andT_no cr]
        rw [e1]
        ((conv => whnf); (repeat ((first | (refine VL.cons ?_) | (refine VL.nil ?_) | (refine VC.seqS rfl ?_) | (refine VC.region ?_) | (refine VC.cond ?_)); (conv => whnf))))
        (repeat (first | ((first | (refine VC.skip ?_) | (refine VBool.dF (by omega) ?_)); (conv => whnf)) | (refine VBool.dF cr ?_; (conv => whnf))))
        exact ⟨rfl, U2, hd2, hw4, n52, st2⟩
      have e1 : DS.wend R = R.1.2.clear wPre (wName R.2.n) R.1.2.keys := by unfold DS.wend; rw [andT_ok cr]
      rw [e1]
      ((conv => whnf); (repeat ((first | (refine VL.cons ?_) | (refine VL.nil ?_) | (refine VC.seqS rfl ?_) | (refine VC.region ?_) | (refine VC.cond ?_)); (conv => whnf))))
      (repeat (first | ((first | (refine VL.cons ?_) | (refine VC.region ?_) | (refine VBool.dT (by omega) ?_)); (conv => whnf)) | (refine VBool.dT cr ?_; (conv => whnf))))
      refine VCall.of (walClears_any X2 U2 g5 d R.1.2 R.2 hd2 hw4 n52 (by omega) (by omega)) ?_
      rintro e X3 ⟨rfl, U3, hd3, st3⟩
      refine ⟨_, rfl, ?_⟩
      obtain ⟨hw5, n53⟩ := st3.blk hw4 n52
      ((conv => whnf); (repeat ((first | (refine VL.cons ?_) | (refine VL.nil ?_)); (conv => whnf))))
      ((repeat ((fail); (conv => whnf))))
      exact ⟨rfl, U3, hd3, hw5, n53, st2.trans (st3.add g5)⟩
    clear hd2 hw4 n52 st2
    rintro τ4 vs X3 ⟨rfl, U3, hd3, hw5, n53, st3⟩
    obtain ⟨E, hEe⟩ : ∃ E, DS.wend R = E := ⟨_, rfl⟩
    rw [hEe] at hd3 ⊢
    obtain ⟨hb33, n33⟩ := st3.blk hb3 (fun h => by
      rcases h with h | h
      · exact n3 h
      · omega)
    obtain ⟨hb63, n63⟩ := st3.blk hb6 (fun h => by
      rcases h with h | h
      · exact n6 h
      · omega)
    have hE3 := ((hE.addU hw3 (by decide) (by decide)).step st3).unU
    have stW := Step.past hB9 st3 (by omega)
    have hg3n : ¬ U3 g3 := fun hu => n33 (.inl hu)
    have hg6n : ¬ U3 g6 := fun hu => n63 (.inl hu)
    clear hb3 hb6 hE hw3 st3 st hd
    by_cases cE : E.1 = 0
    case neg =>
      rw [if_neg cE]
      ((conv => whnf); (repeat ((fail); (conv => whnf))))
      (repeat (first | ((first | (refine VL.cons ?_) | (refine VL.nil ?_) | (refine VC.seqS rfl ?_) | (refine VC.region ?_) | (refine VC.cond ?_) | (refine VBool.nF (by omega) ?_) | (refine VC.seq ?_)); (conv => whnf)) | (refine VBool.nF cE ?_; (conv => whnf))))
      refine VRead.ofW (v := .agg (kC Kp.zero none 0 0)) (fun _ => by kernel_rfl) ?_
      ((conv => whnf); (repeat ((first | (refine VL.cons ?_)); (conv => whnf))))
      ((repeat ((fail); (conv => whnf))))
      refine VUnit.storeAB hb33 rfl rfl rfl (by simp [kC, Kp.zero, Value.oneCell']) ?_
      intro X4 hb34 hg4
      rw [setFrom_allW rfl] at hb34
      ((conv => whnf); (repeat ((first | (refine VL.cons ?_) | (refine VL.nil ?_) | (refine VC.ret ?_)); (conv => whnf))))
      ((repeat ((fail); (conv => whnf))))
      refine VRes.op3 rfl hb34 rfl ?_
      exact ⟨U3, hd3.cell hg4 hg3n, stW.pastG hg4 (by omega), rfl⟩
    rw [if_pos cE]
    ((conv => whnf); (repeat ((fail); (conv => whnf))))
    (repeat (first | ((first | (refine VL.cons ?_) | (refine VL.nil ?_) | (refine VC.seqS rfl ?_) | (refine VC.region ?_) | (refine VC.draw ?_) | (refine VC.cond ?_) | (refine VC.skip ?_) | (refine VBool.nT (by omega) ?_) | (refine VC.seq ?_)); (conv => whnf)) | (refine VBool.nT cE ?_; (conv => whnf))))
    have hE4 : Below X3.heap.size X3 (X3.drewN 1) := below_drewN (Below.refl _ _) 1
    replace hb33 := hb33.later hE4
    replace hb63 := hb63.later hE4
    replace hw5 := hw5.later hE4
    replace hE3 := hE3.below hE4
    replace hd3 := hd3.below hE4
    replace stW := stW.trans (Step.new (U := U3) hE4)
    refine VDraw.seg (fun Z => Blk Z g6 63 (kC acc.k A n c)) [([0, 1, 2], 3)] [4] (by kernel_rfl) (by kernel_rfl) hb63 ?_
    generalize X3.drewN 1 = X5 at *
    (conv => whnf)
    (repeat ((first | (refine VRead.loadAB (fun Z hZ => hZ) rfl rfl ?_) | (refine VQ.cons ?_) | (refine VQ.nil ?_) | (refine VG.cons ?_)); (conv => whnf)))
    refine VUnit.storeAB hb33 rfl rfl rfl (by simp [kC, Value.oneCell']) ?_
    intro X6 hb36 hg6'
    rw [setFrom_allW (vs := kC acc.k A n c) (by rfl)] at hb36
    replace hE3 := hE3.keepG hb33 hg6' (by decide) (hE3.notBlk hb33 (by decide))
    replace hb63 := hb63.only hg6' (by omega)
    replace hw5 := hw5.only hg6' (by omega)
    (conv => whnf)
    refine Keep.mk hb63 ?_
    ((conv => whnf); (repeat ((first | (refine VC.ret ?_) | (refine VQ.cons ?_) | (refine VQ.nil ?_) | (refine VG.nil ?_)); (conv => whnf))))
    ((repeat ((fail); (conv => whnf))))
    refine VRes.op3 rfl hb36 rfl ?_
    exact ⟨U3, hd3.cell hg6' hg3n, stW.pastG hg6' (by omega), g5, A, n, c, rfl, hw5, n53, by omega, hE3⟩
  obtain ⟨p, hp⟩ : ∃ p, S.t[j]? = some p := ⟨_, List.getElem?_eq_getElem hjn⟩
  have hpm := List.mem_of_getElem? hp
  have hpn := (h.wf.t.names p hpm).2
  have htk : (S.t.take (j + 1)).foldl woStep ⟨false, 0, Kp.zero, false⟩ = woStep acc p := by rw [take_snoc hp, List.foldl_append, hacc]; rfl
  have hpu := len_used hpm
  obtain ⟨ad, u, rfl, _, hu, hcell⟩ := (Reads.row hO).at_ hjn
  obtain ⟨x', hx', rfl⟩ := map_at hu
  rw [List.getElem?_map, hp] at hx'
  obtain rfl := Option.some.inj hx'
  have hcell' : X.cell? (ad.add j) = some (.string (txt p.1)) := hcell
  ((conv => whnf); (repeat ((first | (refine VL.cons ?_) | (refine VL.nil ?_) | (refine VC.seqS rfl ?_) | (refine VC.region ?_)); (conv => whnf))))
  (repeat (first | ((first | (refine VL.cons ?_) | (refine VL.nil ?_) | (refine VC.seqS rfl ?_) | (refine VC.region ?_) | (refine VC.cond ?_) | (refine VC.block ?_) | (refine VC.skip ?_) | (refine VBool.dT (by omega) ?_) | (refine VRead.load1 (by assumption) ?_) | (refine VRead.at1 (by omega) ?_) | (refine VC.seq ?_)); (conv => whnf)) | (refine VRead.at1 hjn ?_; (conv => whnf))))
  refine VCall.of (walNumber_any p.1 X (by omega)) ?_
  rintro e X2 ⟨rfl, hB2⟩
  refine ⟨_, rfl, ?_⟩
  have hB02 := hB.trans (hB2.mono hB.size)
  replace hb3 := hb3.later hB2
  replace hb5 := hb5.later hB2
  replace hb6 := hb6.later hB2
  replace hE := hE.below hB2
  replace hO := rows_below hO hB2 (Nat.le_refl _)
  cases hN : wNum p.1 with
  | none =>
    have e1 : woStep acc p = acc := by unfold woStep; rw [hN]
    ((conv => whnf); (repeat ((first | (refine VL.cons ?_) | (refine VL.nil ?_)); (conv => whnf))))
    ((repeat ((first | (refine VL.cons ?_) | (refine VL.nil ?_) | (refine VC.seqS rfl ?_) | (refine VC.region ?_) | (refine VC.cond ?_) | (refine VC.exit ?_) | (refine VBool.t ?_) | (refine VWrap.i64 (by omega) (by omega) ?_) | (refine VC.seq ?_)); (conv => whnf))))
    exact ⟨_, by omega, j + 1, acc, A, n, c, rfl, rfl, by omega, by rw [htk, e1], hok, hb3, hb5, hb6, hE, hO, hB02⟩
  | some nn =>
    obtain ⟨_, hk1, hk2⟩ := wNum_some hN
    have hd2 := h.below hB02
    ((conv => whnf); (repeat ((first | (refine VL.cons ?_) | (refine VL.nil ?_)); (conv => whnf))))
    ((repeat ((first | (refine VL.cons ?_) | (refine VL.nil ?_) | (refine VC.seqS rfl ?_) | (refine VC.region ?_) | (refine VC.cond ?_) | (refine VC.skip ?_) | (refine VBool.f ?_) | (refine VC.seq ?_)); (conv => whnf))))
    refine VCall.of (oRead X2 U d S p.1 hd2 (by omega)) ?_
    rintro e X3 ⟨u3, rfl, hrd, hB3⟩
    refine ⟨_, rfl, ?_⟩
    unfold readR at hrd
    rw [tfind_of hris.nd (show (p.1, p.2) ∈ S.t from hpm)] at hrd
    obtain ⟨A3, k3, rfl, hO3⟩ := hrd
    ((conv => whnf); (repeat ((first | (refine VL.cons ?_) | (refine VL.nil ?_) | (refine VC.seqS rfl ?_) | (refine VC.region ?_)); (conv => whnf))))
    ((repeat ((fail); (conv => whnf))))
    refine VCall.of (walRead_any A3 p.2.b.length k3 p.2.b X3 (by omega) hO3.cap hO3.reads) ?_
    rintro e X4 ⟨⟨v4, rfl, hV4⟩, hB4⟩
    refine ⟨_, rfl, ?_⟩
    have hB24 : Below X2.heap.size X2 X4 := hB3.trans (hB4.mono hB3.size)
    have hB04 := hB02.trans (hB24.mono hB02.size)
    have u24 := hB24.size
    have u02 := hB02.size
    have hX3 : W.heap.size ≤ X3.heap.size := Nat.le_trans hB02.size hB3.size
    have u23 := hB3.size
    have g5l := hb5.lt
    have g6l := hb6.lt
    replace hb3 := hb3.later hB24
    replace hb5 := hb5.later hB24
    replace hb6 := hb6.later hB24
    replace hE := hE.below hB24
    replace hO := rows_below hO hB24 (Nat.le_refl _)
    cases hs : readW p.2.b with
    | none =>
      have e1 : woStep acc p = { acc with some_ := true } := by unfold woStep; rw [hN]; simp only; rw [hs]
      rw [hs] at hV4
      have hv4 : v4 = .tuple #[.agg (kC Kp.zero none 0 0), .bool false, .bool false] := hV4
      subst hv4
      ((conv => whnf); (repeat ((first | (refine VL.cons ?_)); (conv => whnf))))
      ((repeat ((fail); (conv => whnf))))
      refine VSem.allocZ (z := .agg (kC Kp.zero none 0 0)) (by kernel_rfl) ?_
      intro X5 q hq hqe hql hB5
      ((conv => whnf); (repeat ((first | (refine VL.cons ?_)); (conv => whnf))))
      ((repeat ((fail); (conv => whnf))))
      refine VUnit.storeAB hq rfl rfl rfl (by simp [kC, Kp.zero, Value.oneCell']) ?_
      intro X6 hq6 hg6
      have hB46 : Below X4.heap.size X4 X6 := only_new hB5 hg6 (by omega) (by omega)
      have hB06 := hB04.trans (hB46.mono hB04.size)
      ((conv => whnf); (repeat ((first | (refine VL.cons ?_) | (refine VL.nil ?_) | (refine VC.seqS rfl ?_) | (refine VC.region ?_) | (refine VC.cond ?_)); (conv => whnf))))
      ((repeat ((first | (refine VL.cons ?_) | (refine VL.nil ?_) | (refine VC.region ?_) | (refine VC.skip ?_) | (refine VBool.f ?_) | (refine VWrap.i64 (by omega) (by omega) ?_)); (conv => whnf))))
      exact ⟨_, by omega, j + 1, { acc with some_ := true }, A, n, c, rfl, rfl, by omega, by rw [htk, e1], ⟨hok.n, hok.b, hok.l⟩, hb3.later hB46, hb5.later hB46, hb6.later hB46, hE.below hB46, rows_below hO hB46 (Nat.le_refl _), hB06⟩
    | some kp =>
      rw [hs] at hV4
      obtain ⟨A5, n5, c5, rfl, hE5⟩ := hV4
      obtain ⟨hbk, hlk⟩ := readW_ok hs
      have e1 : woStep acc p = ⟨true, nn, kp, isWhole p.2.b⟩ := by unfold woStep; rw [hN]; simp only; rw [hs]
      ((conv => whnf); (repeat ((first | (refine VL.cons ?_)); (conv => whnf))))
      ((repeat ((fail); (conv => whnf))))
      refine VSem.allocZ (z := .agg (kC Kp.zero none 0 0)) (by kernel_rfl) ?_
      intro X5 q hq hqe hql hB5
      ((conv => whnf); (repeat ((first | (refine VL.cons ?_)); (conv => whnf))))
      ((repeat ((fail); (conv => whnf))))
      refine VUnit.storeAB hq rfl rfl rfl (by simp [kC, Value.oneCell']) ?_
      intro X6 hq6 hg6
      rw [setFrom_allW (vs := kC kp A5 n5 c5) (by rfl)] at hq6
      replace hq6 : Blk X6 q 63 (kC kp A5 n5 c5) := hq6
      have hB46 : Below X4.heap.size X4 X6 := only_new hB5 hg6 (by omega) (by omega)
      have hB06 := hB04.trans (hB46.mono hB04.size)
      have hb5l := hb5.lt
      have hb6l := hb6.lt
      have hb3l := hb3.lt
      replace hb3 := hb3.later hB46
      replace hb5 := hb5.later hB46
      replace hb6 := hb6.later hB46
      replace hO := rows_below hO hB46 (Nat.le_refl _)
      replace hE5 := hE5.below hB46
      have hE7 : Below X6.heap.size X6 (X6.drewN 1) := below_drewN (Below.refl _ _) 1
      replace hb3 := hb3.later hE7
      replace hb5 := hb5.later hE7
      replace hb6 := hb6.later hE7
      replace hq6 := hq6.later hE7
      replace hO := rows_below hO hE7 (Nat.le_refl _)
      replace hE5 := hE5.below hE7
      have hB07 := hB06.trans (hE7.mono hB06.size)
      ((conv => whnf); (repeat ((first | (refine VL.cons ?_) | (refine VL.nil ?_) | (refine VC.seqS rfl ?_) | (refine VC.region ?_) | (refine VC.cond ?_)); (conv => whnf))))
      ((repeat ((first | (refine VC.draw ?_) | (refine VBool.t ?_)); (conv => whnf))))
      refine VDraw.seg (fun Y => Blk Y q 63 (kC kp A5 n5 c5)) [([0, 1, 2, 3, 4, 5], 6), ([], 7)] [8] (by kernel_rfl) (by kernel_rfl) hq6 ?_
      generalize X6.drewN 1 = X7 at *
      (conv => whnf)
      (repeat ((first | (refine VRead.loadAB (fun Y hY => hY) rfl rfl ?_) | (refine VQ.cons ?_) | (refine VQ.nil ?_) | (refine VG.cons ?_) | (refine VRead.fld ?_)); (conv => whnf)))
      refine VUnit.storeB hb5 rfl rfl rfl ?_
      intro X8 hb58 hg8
      replace hb58 : Blk X8 g5 105 (wlC d ⟨nn, 0, 0⟩) := hb58
      replace hO := rows_apart hO hg8 (fun q' e hq' => by have h1 := (World.ownsRow.lt hO q' hq').1; have h2 : g5 = q' := by { injection e }; omega)
      replace hE5 := hE5.keepG hb5 hg8 (by decide) (fun e => by have := (hE5.lt e).2; omega)
      replace hb3 := hb3.only hg8 (by omega)
      replace hb6 := hb6.only hg8 (by omega)
      replace hq6 := hq6.only hg8 (by omega)
      have hB08 : Below W.heap.size W X8 := only_new hB07 hg8 (by omega) hB07.size
      (conv => whnf)
      refine Keep.mk hq6 ?_
      (conv => whnf)
      ((repeat ((first | (refine VQ.nil ?_) | (refine VG.cons ?_)); (conv => whnf))))
      refine VUnit.storeAB hb6 rfl rfl rfl (by simp [kC, Value.oneCell']) ?_
      intro X9 hb69 hg9
      rw [setFrom_allW (vs := kC kp A5 n5 c5) (by rfl)] at hb69
      replace hO := rows_apart hO hg9 (fun q' e hq' => by have h1 := (World.ownsRow.lt hO q' hq').1; have h2 : g6 = q' := by { injection e }; omega)
      replace hE5 := hE5.keepG hb6 hg9 (by decide) (fun e => by have := (hE5.lt e).2; omega)
      replace hb3 := hb3.only hg9 (by omega)
      replace hb58 := hb58.only hg9 (by omega)
      replace hq6 := hq6.only hg9 (by omega)
      have hB09 : Below W.heap.size W X9 := only_new hB08 hg9 (by omega) hB08.size
      (conv => whnf)
      refine Keep.mk hq6 ?_
      (conv => whnf)
      ((repeat ((first | (refine VL.cons ?_) | (refine VL.nil ?_) | (refine VC.region ?_) | (refine VQ.cons ?_) | (refine VQ.nil ?_) | (refine VG.nil ?_) | (refine VWrap.i64 (by omega) (by omega) ?_)); (conv => whnf))))
      exact ⟨_, by omega, j + 1, ⟨true, nn, kp, isWhole p.2.b⟩, A5, n5, c5, rfl, rfl, by omega, by rw [htk, e1], ⟨by omega, hbk, by simp only; omega⟩, hb3, hb58, hb69, hE5.more (by omega) (fun j _ hj => by have : X3.heap.size ≤ j := hj; show W.heap.size ≤ j; omega), hO, hB09⟩
end Go.Proofs.Ytebeidnmplnlpaa
end

section
set_option maxRecDepth 10000
namespace Go.Proofs.Ytebeidnmplnlpaa
set_option linter.unusedVariables false
open Go.RowKit

abbrev Sn := Nat × Int × List UInt8
def SnV (W : World) (B : Nat) (o : Option Sn) (i t : Int) (v : Value) : Prop := match o with
  | some y => i = (y.1 : Int) ∧ 1 ≤ y.1 ∧ y.1 ≤ 1099511627776 ∧ t = y.2.1 ∧ ∃ A c, v = .slice A y.2.2.length c ∧ Own W B (.slice A y.2.2.length c) y.2.2.length y.2.2
  | none => i = 0 ∧ t = 0 ∧ v = .slice none 0 0
theorem SnV.below {W W' : World} {B : Nat} {o : Option Sn} {i t : Int} {v : Value} (h : SnV W B o i t v) (hb : Below W.heap.size W W') : SnV W' B o i t v := by
  unfold SnV at *
  cases o with
  | none => exact h
  | some y =>
    obtain ⟨h1, h2, h3, h4, A, c, h5, h6⟩ := h
    exact ⟨h1, h2, h3, h4, A, c, h5, rows_below h6 hb (Nat.le_refl _)⟩
end Go.Proofs.Ytebeidnmplnlpaa
end

section
set_option maxRecDepth 10000
namespace Go.Proofs.Ytebeidnmplnlpaa
set_option linter.unusedVariables false
open Go.RowKit

/-! ### what is in a file -/
def fullF (b : List UInt8) : Fl := ⟨b, b.length⟩
theorem chunks_ind {P : List UInt8 → Prop} (h0 : P []) (h1 : ∀ l, l ≠ [] → P (l.drop 1000) → P l) : ∀ (n : Nat) (l : List UInt8), l.length ≤ n → P l
  | 0, l, h => by
    obtain rfl : l = [] := List.eq_nil_of_length_eq_zero (by omega)
    exact h0
  | n + 1, l, h => by
    by_cases hl : l = []
    · subst hl; exact h0
    · have : 0 < l.length := List.length_pos_iff.2 hl
      exact h1 l hl (chunks_ind h0 h1 n _ (by rw [List.length_drop]; omega))
theorem chunks_ok (l : List UInt8) : Frame.Ok1 (chunks l) :=
  chunks_ind (P := fun l => Frame.Ok1 (chunks l)) (fun b hb => by simp [chunks_nil] at hb) (fun l hl ih b hb => by
    have : 0 < l.length := List.length_pos_iff.2 hl
    rw [chunks_cons hl] at hb
    rcases List.mem_cons.1 hb with rfl | hb
    · rw [List.length_take]; omega
    · exact ih b hb) l.length l (Nat.le_refl _)
theorem intS_put' {v : Int} (h : -9223372036854775808 ≤ v ∧ v ≤ 9223372036854775807) (t : List UInt8) : Wire.intS (some (Wire.int v ++ t)) = (v, some t) := by
  unfold Wire.intS
  simp only
  rw [Wire.getInt_int h]
theorem hd_read {i t : Int} {n : Nat} (hi : -9223372036854775808 ≤ i ∧ i ≤ 9223372036854775807) (ht : -9223372036854775808 ≤ t ∧ t ≤ 9223372036854775807) (hn : n ≤ 9223372036854775807) :
    hA (hdB i t n) = i ∧ hT (hdB i t n) = t ∧ hN (hdB i t n) = (n : Int) ∧ hE (hdB i t n) = true := by
  have e0 : hdB i t n = Wire.int i ++ (Wire.int t ++ (Wire.int (n : Int) ++ [])) := by unfold hdB; simp
  have e1 : Wire.intS (some (hdB i t n)) = (i, some (Wire.int t ++ (Wire.int (n : Int) ++ []))) := by rw [e0]; exact intS_put' hi _
  have e2 : Wire.intS (some (Wire.int t ++ (Wire.int (n : Int) ++ []))) = (t, some (Wire.int (n : Int) ++ [])) := intS_put' ht _
  have e3 : Wire.intS (some (Wire.int (n : Int) ++ [])) = ((n : Int), some []) := intS_put' (by omega) _
  refine ⟨?_, ?_, ?_, ?_⟩
  · unfold hA; rw [e1]
  · unfold hT; rw [e1]; simp only; rw [e2]
  · unfold hN; rw [e1]; simp only; rw [e2]; simp only; rw [e3]
  · unfold hE; rw [e1]; simp only; rw [e2]; simp only; rw [e3]; rfl
theorem hd_len (i t : Int) (n : Nat) : 3 ≤ (hdB i t n).length ∧ (hdB i t n).length ≤ 30 := by
  have a1 := Wire.int_len i
  have a2 := Wire.int_len t
  have a3 := Wire.int_len (n : Int)
  unfold hdB
  simp only [List.length_append]
  omega
structure SvOk (i t : Int) (data : List UInt8) : Prop where
  i1 : 1 ≤ i
  i2 : i ≤ 1099511627776
  t1 : 1 ≤ t
  t2 : t ≤ 1099511627776
  n1 : 1 ≤ data.length
  n2 : data.length ≤ 1048576
theorem SvOk.hd {i t : Int} {data : List UInt8} (h : SvOk i t data) : HdOk (hdB i t data.length) i := by
  obtain ⟨h1, h2, h3, h4, h5, h6⟩ := h
  obtain ⟨e1, e2, e3, e4⟩ := hd_read (i := i) (t := t) (n := data.length) (by omega) (by omega) (by omega)
  exact ⟨e4, e1, by rw [e2]; exact h3, by rw [e2]; exact h4, by rw [e3]; omega, by rw [e3]; omega⟩
theorem SvOk.bs {i t : Int} {data : List UInt8} (h : SvOk i t data) : Frame.Ok1 (hdB i t data.length :: chunks data) := fun b hb => by
  rcases List.mem_cons.1 hb with rfl | hb
  · have := hd_len i t data.length; omega
  · exact chunks_ok data b hb
/-! ### tables of few files -/
section
variable {T : PT} {s : List UInt8} {f g : Fl}
theorem tset_cons (j : List UInt8) (y : Fl) (r : PT) (i : List UInt8) (x : Fl) : tset ((j, y) :: r) i x = if i < j then (i, x) :: (j, y) :: r else if j = i then (i, x) :: r else (j, y) :: tset r i x := rfl
theorem tset_nil (i : List UInt8) (x : Fl) : tset ([] : PT) i x = [(i, x)] := rfl
theorem tset_tset : ∀ {T : PT}, tset (tset T s f) s g = tset T s g
  | [] => by rw [tset_nil, tset_cons, if_neg (List.lt_irrefl _), if_pos rfl, tset_nil]
  | (j, y) :: T => by
    rw [tset_cons, tset_cons]
    by_cases h1 : s < j
    · rw [if_pos h1, if_pos h1, tset_cons, if_neg (List.lt_irrefl _), if_pos rfl]
    · rw [if_neg h1, if_neg h1]
      by_cases h2 : j = s
      · rw [if_pos h2, if_pos h2, tset_cons, if_neg (List.lt_irrefl _), if_pos rfl]
      · rw [if_neg h2, if_neg h2, tset_cons, if_neg h1, if_neg h2, tset_tset]
theorem tset_last (hT : ∀ p ∈ T, p.1 < s) : tset T s f = T ++ [(s, f)] := by
  induction T with
  | nil => rfl
  | cons q T ih =>
    obtain ⟨j, y⟩ := q
    have hq : j < s := hT (j, y) (by simp)
    rw [tset_cons, if_neg (fun h => List.lt_irrefl _ (List.lt_trans hq h)), if_neg (fun e => by subst e; exact List.lt_irrefl _ hq), ih (fun p hp => hT p (List.mem_cons_of_mem _ hp))]
    rfl
theorem tfind_last (hT : ∀ p ∈ T, p.1 < s) : tfind (T ++ [(s, f)]) s = some f := by
  induction T with
  | nil => simp [tfind]
  | cons q T ih =>
    obtain ⟨j, y⟩ := q
    have hq : j < s := hT (j, y) (by simp)
    rw [List.cons_append]
    unfold tfind
    rw [if_neg (fun e => by subst e; exact List.lt_irrefl _ hq)]
    exact ih (fun p hp => hT p (List.mem_cons_of_mem _ hp))
theorem tdel_low (hT : ∀ p ∈ T, p.1 < s) : tdel T s = T := tdel_not (fun h => by
  obtain ⟨p, hp, rfl⟩ := List.mem_map.1 h
  exact List.lt_irrefl _ (hT p hp))
theorem tdel_last (hT : ∀ p ∈ T, p.1 < s) : tdel (T ++ [(s, f)]) s = T := by
  unfold tdel
  rw [List.filter_append]
  have h1 := tdel_low hT
  unfold tdel at h1
  rw [h1]
  simp
theorem tset_lastA (hT : ∀ p ∈ T, p.1 < s) : tset (T ++ [(s, f)]) s g = T ++ [(s, g)] := by rw [← tset_last (f := f) hT, tset_tset, tset_last hT]
end
end Go.Proofs.Ytebeidnmplnlpaa
end

section
set_option maxRecDepth 10000
namespace Go.Proofs.Ytebeidnmplnlpaa
set_option linter.unusedVariables false
open Go.RowKit

section
variable {S : DS} {s u b : List UInt8} {f : Fl}
end
theorem clear_cons (S : DS) (pre nm x : List UInt8) (r : List (List UInt8)) : S.clear pre nm (x :: r) = if isPre pre x = true ∧ x ≠ nm then andT (S.remove x) fun S' => DS.clear S' pre nm r else DS.clear S pre nm r := rfl
/-! ### a disk that nothing ails -/
theorem used_append (A B : PT) : used (A ++ B) = used A + used B := by
  induction A with
  | nil => simp [used]
  | cons p A ih => rw [List.cons_append, show used (p :: (A ++ B)) = p.2.b.length + used (A ++ B) from rfl, show used (p :: A) = p.2.b.length + used A from rfl, ih]; omega
end Go.Proofs.Ytebeidnmplnlpaa
end

section
set_option maxRecDepth 10000
namespace Go.Proofs.Ytebeidnmplnlpaa
set_option linter.unusedVariables false
open Go.RowKit

def entBs (i : Int) : List En → List (List UInt8)
  | [] => []
  | e :: r => entB i e :: entBs (i + 1) r
theorem entBs_len : ∀ (es : List En) (i : Int), (entBs i es).length = es.length
  | [], i => rfl
  | e :: r, i => by unfold entBs; rw [List.length_cons, entBs_len, List.length_cons]
theorem entBs_take (es : List En) (i : Int) (m : Nat) : (entBs i es).take m = entBs i (es.take m) := by
  induction es generalizing i m with
  | nil => simp [entBs]
  | cons e es ih =>
    cases m with
    | zero => simp [entBs]
    | succ m =>
      show (entB i e :: entBs (i + 1) es).take (m + 1) = entB i e :: entBs (i + 1) (es.take m)
      rw [List.take_succ_cons, ih]
theorem written_laid (es : List En) (i : Int) : written i es = Frame.laid (entBs i es) := by
  induction es generalizing i with
  | nil => rfl
  | cons e es ih =>
    rw [written_cons, ih, show entBs i (e :: es) = entB i e :: entBs (i + 1) es from rfl, Frame.laid_cons]
theorem entBs_ok {es : List En} (h : ∀ e ∈ es, mayE e) (i : Int) : Frame.Ok1 (entBs i es) := by
  induction es generalizing i with
  | nil => intro b hb; simp [entBs] at hb
  | cons e es ih =>
    intro b hb
    unfold entBs at hb
    rcases List.mem_cons.1 hb with rfl | hb
    · have h1 := entB_len i e
      have h2 := (h e (by simp)).2.2
      omega
    · exact ih (fun x hx => h x (List.mem_cons_of_mem _ hx)) (i + 1) b hb
def inI (v : Int) : Prop := -9223372036854775808 ≤ v ∧ v ≤ 9223372036854775807
theorem boolS_put (t : Bool) (r : List UInt8) : Wire.boolS (some (Wire.bool t ++ r)) = (t, some r) := by
  cases t <;> simp [Wire.boolS, Wire.bool]
theorem takes_first {k : Kp} {a b : Int} (ha : inR a 1099511627776) (hb : inR b 1099511627776) : takes k (recB 0 [a, b]) true = some { k with base := a, bterm := b } := by
  obtain ⟨a1, a2⟩ := id ha
  obtain ⟨b1, b2⟩ := id hb
  have e0 : numB [a, b] = Wire.int a ++ (Wire.int b ++ []) := by simp [numB]
  have e1 : Wire.intS (some (numB [a, b])) = (a, some (Wire.int b ++ [])) := by rw [e0]; exact intS_put' ⟨by omega, by omega⟩ _
  have e2 : Wire.intS (some (Wire.int b ++ [])) = (b, some []) := intS_put' ⟨by omega, by omega⟩ _
  unfold takes recB
  simp only
  rw [if_pos (by decide), if_pos (by decide)]
  unfold tk0
  rw [e1]; simp only; rw [e2]; simp only
  rw [if_pos ⟨rfl, ha, hb⟩]
theorem takes_hard {k : Kp} {a b : Int} (ha : inR a 1099511627776) (hb : inR b 7) : takes k (recB 1 [a, b]) false = some { k with term := a, vote := b } := by
  obtain ⟨a1, a2⟩ := id ha
  obtain ⟨b1, b2⟩ := id hb
  have e0 : numB [a, b] = Wire.int a ++ (Wire.int b ++ []) := by simp [numB]
  have e1 : Wire.intS (some (numB [a, b])) = (a, some (Wire.int b ++ [])) := by rw [e0]; exact intS_put' ⟨by omega, by omega⟩ _
  have e2 : Wire.intS (some (Wire.int b ++ [])) = (b, some []) := intS_put' ⟨by omega, by omega⟩ _
  unfold takes recB
  simp only
  rw [if_pos (by decide), if_neg (by decide), if_pos (by decide)]
  unfold tk1
  rw [e1]; simp only; rw [e2]; simp only
  rw [if_pos ⟨rfl, ha, hb⟩]
theorem takes_ent {k : Kp} {i : Int} {e : En} (he : mayE e) (h1 : k.base < i) (h2 : i ≤ k.base + k.es.length + 1) (hi : inI i) : takes k (entB i e) false = some { k with es := k.es.take (i - k.base - 1).toNat ++ [e] } := by
  obtain ⟨t1, t2, t3⟩ := id he
  have e0 : entB i e = 2 :: (Wire.int i ++ (Wire.int e.term ++ (Wire.bool e.cmd ++ (Wire.text e.data ++ [])))) := by simp [entB, recB, numB]
  rw [e0]
  have i1 : eI (Wire.int i ++ (Wire.int e.term ++ (Wire.bool e.cmd ++ (Wire.text e.data ++ [])))) = (i, some (Wire.int e.term ++ (Wire.bool e.cmd ++ (Wire.text e.data ++ [])))) := intS_put' hi _
  have i2 : eT (Wire.int i ++ (Wire.int e.term ++ (Wire.bool e.cmd ++ (Wire.text e.data ++ [])))) = (e.term, some (Wire.bool e.cmd ++ (Wire.text e.data ++ []))) := by unfold eT; rw [i1]; exact intS_put' ⟨by omega, by omega⟩ _
  have i3 : eC (Wire.int i ++ (Wire.int e.term ++ (Wire.bool e.cmd ++ (Wire.text e.data ++ [])))) = (e.cmd, some (Wire.text e.data ++ [])) := by unfold eC; rw [i2]; exact boolS_put _ _
  have i4 : eD (Wire.int i ++ (Wire.int e.term ++ (Wire.bool e.cmd ++ (Wire.text e.data ++ [])))) = (e.data, some []) := by unfold eD; rw [i3]; exact Wire.textS_text _ _ (by omega) (by omega)
  have i5 : eE (Wire.int i ++ (Wire.int e.term ++ (Wire.bool e.cmd ++ (Wire.text e.data ++ [])))) = e := by unfold eE; rw [i2, i3, i4]
  generalize Wire.int i ++ (Wire.int e.term ++ (Wire.bool e.cmd ++ (Wire.text e.data ++ []))) = r at *
  unfold takes
  simp only
  rw [if_pos (by decide), if_neg (by decide), if_neg (by decide), if_pos (by decide)]
  unfold tk2
  rw [i4, i5, i1]
  simp only
  rw [if_pos ⟨rfl, he, h1, h2⟩]
theorem takesA_cons {st : Bool} {k k' : Kp} {b : List UInt8} {r : List (List UInt8)} (h : takes k b st = some k') : takesA st k (b :: r) = takesA false k' r := by
  show (match takes k b st with | some k' => takesA false k' r | none => none) = _
  rw [h]
/-- entries from an index on -/
theorem takesA_ents : ∀ {es : List En} {k : Kp} {m : Nat}, (∀ e ∈ es, mayE e) → es ≠ [] → m ≤ k.es.length → inR k.base 1099511627776 → k.es.length + es.length ≤ 1000000000 →
    takesA false k (entBs (k.base + m + 1) es) = some { k with es := k.es.take m ++ es }
  | [], k, m, h, h0, hm, hb, hl => absurd rfl h0
  | [e], k, m, h, h0, hm, ⟨hb1, hb2⟩, hl => by
    have h1 := takes_ent (k := k) (i := k.base + m + 1) (h e (by simp)) (by omega) (by omega) ⟨by omega, by omega⟩
    rw [show (k.base + m + 1 - k.base - 1).toNat = m by omega] at h1
    exact takesA_cons h1
  | e :: f :: es, k, m, h, h0, hm, ⟨hb1, hb2⟩, hl => by
    have hl' : k.es.length + (es.length + 1 + 1) ≤ 1000000000 := hl
    have h1 := takes_ent (k := k) (i := k.base + m + 1) (h e (by simp)) (by omega) (by omega) ⟨by omega, by omega⟩
    rw [show (k.base + m + 1 - k.base - 1).toNat = m by omega] at h1
    have e1 : entBs (k.base + m + 1) (e :: f :: es) = entB (k.base + m + 1) e :: entBs (k.base + m + 1 + 1) (f :: es) := rfl
    have hml : (k.es.take m ++ [e]).length = m + 1 := by rw [List.length_append, List.length_take]; simp; omega
    rw [e1, takesA_cons h1]
    have h2 := takesA_ents (es := f :: es) (k := { k with es := k.es.take m ++ [e] }) (m := m + 1) (fun x hx => h x (List.mem_cons_of_mem _ hx)) (by simp) (by simp only; omega) ⟨hb1, hb2⟩ (by simp only [List.length_cons]; omega)
    simp only at h2
    rw [show k.base + ((m + 1 : Nat) : Int) + 1 = k.base + m + 1 + 1 by omega] at h2
    rw [h2, List.take_of_length_le (by omega), List.append_assoc]
    rfl
/-! ### whole files -/
def waBs (k : Kp) : List (List UInt8) := recB 0 [k.base, k.bterm] :: recB 1 [k.term, k.vote] :: entBs (k.base + 1) k.es
theorem waB_laid (k : Kp) : waB k = Frame.laid (waBs k) := by
  unfold waB waBs
  rw [written_laid, Frame.laid_cons, Frame.laid_cons, List.append_assoc]
theorem rec_ok1 (kind : UInt8) (a b : Int) : 1 ≤ (recB kind [a, b]).length ∧ (recB kind [a, b]).length ≤ 1048576 := by
  have := recB_len kind [a, b]
  simp only [List.length_cons, List.length_nil] at this
  omega
theorem waBs_ok {k : Kp} (h : mayK k) : Frame.Ok1 (waBs k) := fun b hb => by
  unfold waBs at hb
  rcases List.mem_cons.1 hb with rfl | hb
  · exact rec_ok1 0 _ _
  · rcases List.mem_cons.1 hb with rfl | hb
    · exact rec_ok1 1 _ _
    · exact entBs_ok h.1 _ b hb
theorem takesA_waBs {k : Kp} (h : mayK k) (hl : k.es.length ≤ 1000000) : takesA true Kp.zero (waBs k) = some k := by
  obtain ⟨h1, h2, h3, h4, h5⟩ := h
  unfold waBs
  rw [takesA_cons (takes_first h2 h3), takesA_cons (takes_hard h4 h5)]
  cases hes : k.es with
  | nil =>
    cases k; simp only at hes; subst hes; rfl
  | cons e r =>
    have := takesA_ents (es := e :: r) (k := ⟨k.term, k.vote, k.base, k.bterm, []⟩) (m := 0) (fun x hx => h1 x (by rw [hes]; exact hx)) (by simp) (by simp) h2 (by rw [hes] at hl; simp only [List.length_nil]; omega)
    simp only at this
    rw [show k.base + ((0 : Nat) : Int) + 1 = k.base + 1 by omega] at this
    show takesA false ⟨k.term, k.vote, k.base, k.bterm, []⟩ (entBs (k.base + 1) (e :: r)) = some k
    rw [this]
    cases k; simp only at hes; subst hes; rfl
theorem readW_laid {bs : List (List UInt8)} (h : Frame.Ok1 bs) (h0 : bs ≠ []) : readW (Frame.laid bs) = takesA true Kp.zero bs ∧ isWhole (Frame.laid bs) = true := by
  obtain ⟨b1, b2⟩ := Frame.bodies_all h
  unfold readW isWhole
  rw [b1, b2, if_neg h0]
  exact ⟨rfl, rfl⟩
end Go.Proofs.Ytebeidnmplnlpaa
end

section
set_option maxRecDepth 10000
namespace Go.Proofs.Ytebeidnmplnlpaa
set_option linter.unusedVariables false
open Go.RowKit

theorem wTmp_ok : nameOk wTmp := by decide
theorem wName_nm {n : Nat} (h1 : 1 ≤ n) (h2 : n ≤ 99999999) : nameOk (wName (n : Int)) := by
  have := wName_len h1 h2
  exact ⟨by omega, by omega⟩
theorem w_lt_tmp {n : Nat} (h1 : 1 ≤ n) (h2 : n ≤ 99999999) : wName (n : Int) < wTmp := by
  rw [wName_of h1 h2]
  show wPre ++ dgs 8 n < wPre ++ [116, 109, 112]
  refine append_lt.2 ?_
  have hl := dgs_len 8 n
  have ha := dgs_all 8 n
  cases hd : dgs 8 n with
  | nil => rw [hd] at hl; cases hl
  | cons x r =>
    rw [hd] at ha
    have hx : isDig x = true := List.all_eq_true.1 ha x (by simp)
    unfold isDig at hx
    simp at hx
    rw [List.cons_lt_cons_iff]
    left
    rw [UInt8.lt_iff_toNat_lt]
    have : (116 : UInt8).toNat = 116 := rfl
    omega
theorem w_lt {n m : Nat} (h1 : 1 ≤ n) (h : n < m) (h2 : m ≤ 99999999) : wName (n : Int) < wName (m : Int) := by
  rw [wName_of h1 (by omega), wName_of (by omega) h2]
  exact nameN_lt h (by have : (10 : Nat) ^ 8 = 100000000 := by decide
                       omega)
theorem wName_ne {n : Nat} (h1 : 1 ≤ n) (h2 : n ≤ 99999999) : wName (n : Int) ≠ [] := fun e => by
  have := wName_len h1 h2
  rw [e] at this; cases this
theorem wrun_k0 {r c : Int} {T : PT} {nm b : List UInt8} (hnm : nameOk nm) (hT : ∀ p ∈ T, p.1 < wTmp) (hl : T.length < 64) (hr : (used T : Int) + b.length ≤ r) :
    wrun nm b 4 0 ⟨k0 r c, T⟩ = (0, ⟨k0 r (c + 1 + 1 + 1 + 1), tset T nm (fullF b)⟩) := by
  show andT (DS.create ⟨k0 r c, T⟩ wTmp) (fun S1 => andT (S1.append wTmp b) fun S2 => andT (S2.sync wTmp) fun S3 => andT (S3.rename wTmp nm) fun S4 => (0, S4)) = _
  rw [k0_create wTmp_ok (by omega), andT_ok rfl, tset_last hT]
  simp only
  have hu : used (T ++ [(wTmp, (⟨[], 0⟩ : Fl))]) = used T := by rw [used_append]; simp [used]
  rw [k0_append wTmp_ok (tfind_last hT) (by rw [hu]; exact hr), andT_ok rfl, tset_lastA hT]
  simp only
  rw [k0_sync wTmp_ok (tfind_last hT), andT_ok rfl, tset_lastA hT]
  simp only
  rw [k0_rename wTmp_ok hnm (tfind_last hT), andT_ok rfl, tdel_last hT]
  rfl
theorem wanew_new {r c : Int} {k : Kp} (hk : mayK k) (hr : ((waB k).length : Int) ≤ r) : DS.wanew ⟨k0 r c, []⟩ ⟨0, k.base, k.base + k.es.length⟩ k = ((0, ⟨k0 r (c + 1 + 1 + 1 + 1), [(wName 1, fullF (waB k))]⟩), ⟨1, k.base, k.base + k.es.length⟩) := by
  have h1 : wrun (wName 1) (waB k) 4 0 ⟨k0 r c, []⟩ = (0, ⟨k0 r (c + 1 + 1 + 1 + 1), [(wName 1, fullF (waB k))]⟩) := wrun_k0 (wName_nm (n := 1) (by decide) (by decide)) (by simp) (by decide) (by simpa [used] using hr)
  unfold DS.wanew
  have w1 : ¬ wName 1 = [] := wName_ne (n := 1) (by decide) (by decide)
  rw [if_neg (fun h => h hk), show ((0 : Int) + 1) = 1 from rfl, if_neg w1, h1]
  simp only
  rw [if_neg (by decide), if_pos (by decide)]
theorem wanew_next {r c : Int} {k : Kp} {n : Nat} {f : Fl} {b0 l0 : Int} (hn : 1 ≤ n) (hn2 : n ≤ 99999998) (hk : mayK k) (hr : (f.b.length : Int) + ((waB k).length : Int) ≤ r) :
    DS.wanew ⟨k0 r c, [(wName (n : Int), f)]⟩ ⟨n, b0, l0⟩ k = ((0, ⟨k0 r (c + 1 + 1 + 1 + 1 + 1), [(wName ((n + 1 : Nat) : Int), fullF (waB k))]⟩), ⟨((n + 1 : Nat) : Int), k.base, k.base + k.es.length⟩) := by
  have hlt : wName (n : Int) < wName ((n + 1 : Nat) : Int) := w_lt hn (by omega) (by omega)
  have hn1 : nameOk (wName ((n + 1 : Nat) : Int)) := wName_nm (by omega) (by omega)
  have hn0 : nameOk (wName (n : Int)) := wName_nm hn (by omega)
  have h1 : wrun (wName ((n + 1 : Nat) : Int)) (waB k) 4 0 ⟨k0 r c, [(wName (n : Int), f)]⟩ = (0, ⟨k0 r (c + 1 + 1 + 1 + 1), [(wName (n : Int), f), (wName ((n + 1 : Nat) : Int), fullF (waB k))]⟩) := by
    rw [wrun_k0 hn1 (by intro p hp; simp at hp; rw [hp]; exact w_lt_tmp hn (by omega)) (by show 1 < 64; decide) (by simpa [used] using hr)]
    rw [tset_last (by intro p hp; simp at hp; rw [hp]; exact hlt)]
    rfl
  have hne : wName ((n + 1 : Nat) : Int) ≠ wName (n : Int) := fun e => by rw [e] at hlt; exact List.lt_irrefl _ hlt
  have h2 : DS.remove ⟨k0 r (c + 1 + 1 + 1 + 1), [(wName (n : Int), f), (wName ((n + 1 : Nat) : Int), fullF (waB k))]⟩ (wName (n : Int)) = (0, ⟨k0 r (c + 1 + 1 + 1 + 1 + 1), [(wName ((n + 1 : Nat) : Int), fullF (waB k))]⟩) := by
    rw [k0_remove hn0 (f := f) (by simp [tfind])]
    congr 3
    exact tdel_eq (A := []) (B := [(wName ((n + 1 : Nat) : Int), fullF (waB k))]) (i := wName (n : Int)) (y := f) (by simpa using fun e => hne e.symm)
  unfold DS.wanew
  rw [if_neg (fun h => h hk)]
  simp only
  rw [show (n : Int) + 1 = ((n + 1 : Nat) : Int) by omega, if_neg (wName_ne (by omega) (by omega)), h1]
  simp only
  rw [if_neg (by decide), if_neg (wName_ne hn (by omega)), h2]
  simp only
  rw [if_neg (by decide)]
theorem wclear_one {S : DS} {n : Nat} {f : Fl} (h : S.t = [(wName (n : Int), f)]) : S.clear wPre (wName (n : Int)) S.keys = (0, S) := by
  unfold DS.keys
  rw [h]
  show DS.clear S wPre (wName (n : Int)) [wName (n : Int)] = _
  rw [clear_cons, if_neg (fun e => e.2 rfl)]
  rfl
theorem wScan_one {n : Nat} (h1 : 1 ≤ n) (h2 : n ≤ 99999999) {f : Fl} {k : Kp} (hr : readW f.b = some k) : wScan [(wName (n : Int), f)] = ⟨true, n, k, isWhole f.b⟩ := by
  show woStep ⟨false, 0, Kp.zero, false⟩ (wName (n : Int), f) = _
  unfold woStep
  simp only
  rw [wNum_name h1 h2]
  simp only
  rw [hr]
/-- a new disk is opened -/
theorem wopen_new {room : Int} (h0 : 0 ≤ room) (h2 : room ≤ 16777216) (hr : ((waB Kp.zero).length : Int) ≤ room) :
    DS.wopen (DS.new room) = ((0, ⟨k0 room 4, [(wName 1, fullF (waB Kp.zero))]⟩), some (⟨1, 0, 0⟩, Kp.zero)) := by
  rw [new_k0 h0 h2]
  have e1 : wScan ([] : PT) = ⟨false, 0, Kp.zero, false⟩ := rfl
  have hk : mayK Kp.zero := by decide
  have e2 : DS.wnext ⟨k0 room 0, []⟩ ⟨false, 0, Kp.zero, false⟩ = ((0, ⟨k0 room 4, [(wName 1, fullF (waB Kp.zero))]⟩), ⟨1, 0, 0⟩) := by
    unfold DS.wnext
    rw [if_neg (by decide)]
    exact wanew_new hk hr
  have e3 : DS.wend ((0, ⟨k0 room 4, [(wName 1, fullF (waB Kp.zero))]⟩), ⟨1, 0, 0⟩) = (0, ⟨k0 room 4, [(wName 1, fullF (waB Kp.zero))]⟩) := by
    unfold DS.wend
    rw [andT_ok rfl]
    exact wclear_one (n := 1) rfl
  unfold DS.wopen
  simp only
  rw [e1]
  simp only
  rw [if_neg (by decide), e2, e3, if_pos rfl]
/-- a log that is whole is opened -/
theorem wopen_one {r c : Int} {n : Nat} (h1 : 1 ≤ n) (h2 : n ≤ 99999999) {f : Fl} {k : Kp} (hr : readW f.b = some k) (hw : isWhole f.b = true) :
    DS.wopen ⟨k0 r c, [(wName (n : Int), f)]⟩ = ((0, ⟨k0 r (c + 1), [(wName (n : Int), fullF f.b)]⟩), some (⟨n, k.base, k.base + k.es.length⟩, k)) := by
  have e2 : DS.wnext ⟨k0 r c, [(wName (n : Int), f)]⟩ ⟨true, n, k, true⟩ = ((0, ⟨k0 r (c + 1), [(wName (n : Int), fullF f.b)]⟩), ⟨n, k.base, k.base + k.es.length⟩) := by
    unfold DS.wnext
    rw [if_pos rfl]
    simp only
    rw [k0_sync (wName_nm h1 h2) (f := f) (by simp [tfind])]
    rw [tset_cons, if_neg (List.lt_irrefl _), if_pos rfl]
    rfl
  have e3 : DS.wend ((0, ⟨k0 r (c + 1), [(wName (n : Int), fullF f.b)]⟩), ⟨n, k.base, k.base + k.es.length⟩) = (0, ⟨k0 r (c + 1), [(wName (n : Int), fullF f.b)]⟩) := by
    unfold DS.wend
    rw [andT_ok rfl]
    exact wclear_one rfl
  unfold DS.wopen
  simp only
  rw [wScan_one h1 h2 hr, hw]
  simp only
  rw [if_neg (by omega), e2, e3, if_pos rfl]
/-- what is saved in a log -/
theorem wsave_one {r c : Int} {n : Nat} (h1 : 1 ≤ n) (h2 : n ≤ 99999999) {b : List UInt8} {base last : Int} {set : Bool} {term vote fr : Int} {es : List En} (hb : ¬ wsBad ⟨n, base, last⟩ set term vote fr) (hm : ∀ e ∈ es, mayE e) (hne : wsB set term vote fr es ≠ [])
    (hr : (b.length : Int) + (wsB set term vote fr es).length ≤ r) :
    DS.wsave ⟨k0 r c, [(wName (n : Int), fullF b)]⟩ ⟨n, base, last⟩ set term vote fr es = ((0, ⟨k0 r (c + 1 + 1), [(wName (n : Int), fullF (b ++ wsB set term vote fr es))]⟩), wlast ⟨n, base, last⟩ fr es) := by
  have e1 : DS.wapp ⟨k0 r c, [(wName (n : Int), fullF b)]⟩ (wName (n : Int)) (wsB set term vote fr es) = (0, ⟨k0 r (c + 1 + 1), [(wName (n : Int), fullF (b ++ wsB set term vote fr es))]⟩) := by
    unfold DS.wapp
    rw [k0_append (wName_nm h1 h2) (f := fullF b) (by simp [tfind]) (by simpa [used, fullF] using hr), andT_ok rfl, tset_cons, if_neg (List.lt_irrefl _), if_pos rfl]
    simp only
    rw [k0_sync (wName_nm h1 h2) (f := ⟨(fullF b).b ++ wsB set term vote fr es, (fullF b).sure⟩) (by simp [tfind]), tset_cons, if_neg (List.lt_irrefl _), if_pos rfl]
    rfl
  unfold DS.wsave
  rw [if_neg (fun h => by
    rcases h with h | h
    · exact hb h
    · exact h.2 hm), if_neg hne, e1]
  rfl
end Go.Proofs.Ytebeidnmplnlpaa
end

section
set_option maxRecDepth 10000
namespace Go.Proofs.Ytebeidnmplnlpaa
set_option linter.unusedVariables false
open Go.RowKit

def saveBs (set : Bool) (term vote fr : Int) (es : List En) : List (List UInt8) := (if set = true then [recB 1 [term, vote]] else []) ++ (if 0 < fr then entBs fr es else [])
theorem wsB_laid (set : Bool) (term vote fr : Int) (es : List En) : wsB set term vote fr es = Frame.laid (saveBs set term vote fr es) := by
  unfold wsB wsSet saveBs
  rw [Frame.laid_append]
  congr 1
  · split
    · exact (Frame.laid_one _).symm
    · rfl
  · split
    · exact written_laid es fr
    · rfl
theorem saveBs_ok {set : Bool} {term vote fr : Int} {es : List En} (hm : ∀ e ∈ es, mayE e) : Frame.Ok1 (saveBs set term vote fr es) := fun b hb => by
  unfold saveBs at hb
  rcases List.mem_append.1 hb with hb | hb
  · split at hb
    · obtain rfl : b = _ := by simpa using hb
      exact rec_ok1 1 _ _
    · cases hb
  · split at hb
    · exact entBs_ok hm _ b hb
    · cases hb
def afterS (k : Kp) (set : Bool) (term vote fr : Int) (es : List En) : Kp :=
  ⟨if set = true then term else k.term, if set = true then vote else k.vote, k.base, k.bterm, if 0 < fr ∧ 0 < es.length then k.es.take (fr - k.base - 1).toNat ++ es else k.es⟩
theorem takesA_save {k : Kp} {set : Bool} {term vote fr : Int} {es : List En} (hs : set = true → inR term 1099511627776 ∧ inR vote 7) (hf : 0 < fr → k.base < fr ∧ fr ≤ k.base + k.es.length + 1) (hm : ∀ e ∈ es, mayE e) (hb : inR k.base 1099511627776) (hl : k.es.length + es.length ≤ 1000000000) :
    takesA false k (saveBs set term vote fr es) = some (afterS k set term vote fr es) := by
  have h2 : ∀ k1 : Kp, k1.base = k.base → k1.es = k.es → takesA false k1 (if 0 < fr then entBs fr es else []) = some { k1 with es := if 0 < fr ∧ 0 < es.length then k.es.take (fr - k.base - 1).toNat ++ es else k.es } := fun k1 e1 e2 => by
    by_cases h0 : 0 < fr
    · rw [if_pos h0]
      by_cases h1 : 0 < es.length
      · rw [if_pos ⟨h0, h1⟩]
        obtain ⟨f1, f2⟩ := hf h0
        have h3 := takesA_ents (es := es) (k := k1) (m := (fr - k.base - 1).toNat) hm (fun e => by rw [e] at h1; simp at h1) (by rw [e2]; omega) (by rw [e1]; exact hb) (by rw [e2]; exact hl)
        rw [e1, show k.base + ((fr - k.base - 1).toNat : Int) + 1 = fr by omega, e2] at h3
        rw [h3, ← e1]
      · rw [if_neg (fun h => h1 h.2)]
        obtain rfl : es = [] := List.eq_nil_of_length_eq_zero (by omega)
        rw [← e2]
        rfl
    · rw [if_neg h0, if_neg (fun h => h0 h.1), ← e2]
      rfl
  unfold saveBs afterS
  cases set with
  | false => exact h2 k rfl rfl
  | true =>
    obtain ⟨s1, s2⟩ := hs rfl
    simp only [if_true]
    rw [List.singleton_append, takesA_cons (takes_hard s1 s2)]
    exact h2 _ rfl rfl
/-- a file of bodies that says k -/
structure Says (bs : List (List UInt8)) (k : Kp) : Prop where
  ok : Frame.Ok1 bs
  ne : bs ≠ []
  says : takesA true Kp.zero bs = some k
  b : inR k.base 1099511627776
theorem Says.read {bs : List (List UInt8)} {k : Kp} (h : Says bs k) : readW (Frame.laid bs) = some k ∧ isWhole (Frame.laid bs) = true := by
  have := readW_laid h.ok h.ne
  rw [h.says] at this
  exact this
theorem Says.save {bs : List (List UInt8)} {k : Kp} (h : Says bs k) {set : Bool} {term vote fr : Int} {es : List En} (hs : set = true → inR term 1099511627776 ∧ inR vote 7) (hf : 0 < fr → k.base < fr ∧ fr ≤ k.base + k.es.length + 1) (hm : ∀ e ∈ es, mayE e) (hl : k.es.length + es.length ≤ 1000000000) :
    Says (bs ++ saveBs set term vote fr es) (afterS k set term vote fr es) := by
  refine ⟨fun b hb => ?_, fun e => h.ne (List.append_eq_nil_iff.1 e).1, ?_, h.b⟩
  · rcases List.mem_append.1 hb with hb | hb
    · exact h.ok b hb
    · exact saveBs_ok hm b hb
  · rw [takesA_app, h.says]
    simp only
    have : bs.isEmpty = false := by cases hbs : bs with
      | nil => exact absurd hbs h.ne
      | cons x y => rfl
    rw [this]
    exact takesA_save hs hf hm h.b hl
theorem says_new {k : Kp} (hk : mayK k) (hl : k.es.length ≤ 1000000) : Says (waBs k) k := ⟨waBs_ok hk, by simp [waBs], takesA_waBs hk hl, hk.2.1⟩
theorem waB_len {k : Kp} (hk : ∀ e ∈ k.es, mayE e) : (waB k).length ≤ 200 + (written (k.base + 1) k.es).length := by
  have h1 := put_le (recB 0 [k.base, k.bterm])
  have h2 := put_le (recB 1 [k.term, k.vote])
  have h3 := (recB_len 0 [k.base, k.bterm]).1
  have h4 := (recB_len 1 [k.term, k.vote]).1
  simp only [List.length_cons, List.length_nil] at h3 h4
  unfold waB
  rw [List.length_append, List.length_append]
  omega
theorem wsSet_len (set : Bool) (term vote : Int) : (wsSet set term vote).length ≤ 100 := by
  have h2 := put_le (recB 1 [term, vote])
  have h4 := (recB_len 1 [term, vote]).1
  simp only [List.length_cons, List.length_nil] at h4
  unfold wsSet
  split
  · omega
  · simp
/-- entries of few bytes -/
theorem written_few {m : Nat} {es : List En} (h : ∀ e ∈ es, e.data.length ≤ m) (i : Int) : (written i es).length ≤ (m + 62) * es.length := by
  induction es generalizing i with
  | nil => simp [written]
  | cons e es ih =>
    have h1 := (entB_len i e).2
    have h2 := h e (by simp)
    have h3 := put_le (entB i e)
    have h4 := ih (fun x hx => h x (List.mem_cons_of_mem _ hx)) (i + 1)
    rw [written_cons, List.length_append, List.length_cons, Nat.mul_succ]
    omega
theorem wsB_few {m : Nat} {set : Bool} {term vote fr : Int} {es : List En} (h : ∀ e ∈ es, e.data.length ≤ m) : (wsB set term vote fr es).length ≤ 100 + (m + 62) * es.length := by
  have h1 := wsSet_len set term vote
  have h2 := written_few h fr
  unfold wsB
  rw [List.length_append]
  split
  · omega
  · simp; omega
theorem zero_len : (waB Kp.zero).length ≤ 200 := by
  have := waB_len (k := Kp.zero) (by simp [Kp.zero])
  have e : (written (Kp.zero.base + 1) Kp.zero.es).length = 0 := rfl
  omega
end Go.Proofs.Ytebeidnmplnlpaa
end

section
set_option maxRecDepth 10000
namespace Go.Proofs.Ytebeidnmplnlpaa
set_option linter.unusedVariables false
open Go.RowKit

end Go.Proofs.Ytebeidnmplnlpaa
end

section
set_option maxRecDepth 10000
namespace Go.Proofs.Ytebeidnmplnlpaa
set_option linter.unusedVariables false
open Go.RowKit

def e18 : En := ⟨3, true, [120]⟩
def k18 : Kp := ⟨3, 2, 0, 0, [e18]⟩
def f18 : List UInt8 := Frame.laid (waBs Kp.zero ++ saveBs true 3 2 1 [e18])
theorem f18_eq : waB Kp.zero ++ wsB true 3 2 1 [e18] = f18 := by rw [waB_laid, wsB_laid, ← Frame.laid_append]; rfl
theorem e18_ok : ∀ e ∈ [e18], mayE e := by decide
theorem says18 : Says (waBs Kp.zero ++ saveBs true 3 2 1 [e18]) k18 := (says_new (k := Kp.zero) (by decide) (by decide)).save (set := true) (term := 3) (vote := 2) (fr := 1) (es := [e18]) (fun _ => by decide) (fun _ => by decide) e18_ok (by decide)
theorem open18 : DS.wopen (DS.new 10000) = ((0, ⟨k0 10000 4, [(wName 1, fullF (waB Kp.zero))]⟩), some (⟨1, 0, 0⟩, Kp.zero)) := wopen_new (by decide) (by decide) (by have := zero_len; omega)
theorem entBs_pos {fr : Int} {e : En} {es : List En} {set : Bool} {term vote : Int} (h : 0 < fr) : wsB set term vote fr (e :: es) ≠ [] := by
  unfold wsB
  rw [if_pos h, written_cons]
  intro e1
  have := Frame.put_pos (entB fr e)
  have h2 := congrArg List.length e1
  simp only [List.length_append, List.length_nil] at h2
  omega
theorem save18 : DS.wsave ⟨k0 10000 4, [(wName 1, fullF (waB Kp.zero))]⟩ ⟨1, 0, 0⟩ true 3 2 1 [e18] = ((0, ⟨k0 10000 6, [(wName 1, fullF f18)]⟩), ⟨1, 0, 1⟩) := by
  have h := wsave_one (r := 10000) (c := 4) (n := 1) (by decide) (by decide) (b := waB Kp.zero) (base := 0) (last := 0) (set := true) (term := 3) (vote := 2) (fr := 1) (es := [e18]) (by decide) e18_ok (entBs_pos (by decide)) (by
    have h1 := zero_len
    have h2 := wsB_few (m := 1) (set := true) (term := 3) (vote := 2) (fr := 1) (es := [e18]) (by decide)
    have h3 : [e18].length = 1 := rfl
    omega)
  rw [f18_eq] at h
  exact h
theorem reopen18 : DS.wopen ⟨k0 10000 6, [(wName 1, fullF f18)]⟩ = ((0, ⟨k0 10000 7, [(wName 1, fullF f18)]⟩), some (⟨1, 0, 1⟩, k18)) := by
  obtain ⟨h1, h2⟩ := says18.read
  exact wopen_one (r := 10000) (c := 6) (n := 1) (by decide) (by decide) (f := fullF f18) h1 h2
set_option maxHeartbeats 2000000 in
theorem awake18_any (W : World) : Calls Try.prog 39 #[] W fun e W' => e = .returned (.bool true) ∧ Below W.heap.size W W' := by
  refine calls_vc Try.func39 rfl (by kernel_rfl) ?_
  ((conv => whnf); (repeat ((first | (refine VL.cons ?_) | (refine VL.nil ?_) | (refine VC.seqS rfl ?_) | (refine VC.region ?_)); (conv => whnf))))
  ((repeat ((fail); (conv => whnf))))
  refine VCall.of (oNew W 10000) ?_
  rintro e W1 ⟨d, U, rfl, hd1, hUB, hB1⟩
  refine ⟨_, rfl, ?_⟩
  ((conv => whnf); (repeat ((first | (refine VL.cons ?_) | (refine VL.nil ?_) | (refine VC.seqS rfl ?_) | (refine VC.region ?_)); (conv => whnf))))
  ((repeat ((fail); (conv => whnf))))
  refine VCall.of (walOpen_any W1 U d (DS.new 10000) hd1 (by decide)) ?_
  rw [open18]
  rintro e W2 ⟨U2, hd2, st2, g, A, n, c, rfl, hw2, hg2, hgl2, hE2⟩
  refine ⟨_, rfl, ?_⟩
  simp only at hd2 hw2 hE2 ⊢
  have hUB2 := st2.min hUB hB1.size
  have hB2 : Below W.heap.size W W2 := hB1.trans (st2.below hUB hB1.size)
  ((conv => whnf); (repeat ((first | (refine VL.cons ?_)); (conv => whnf))))
  ((repeat ((fail); (conv => whnf))))
  refine VSem.allocZ (z := .agg (kC Kp.zero none 0 0)) (by kernel_rfl) ?_
  intro W3 q hq hqe hql hB3
  ((conv => whnf); (repeat ((first | (refine VL.cons ?_)); (conv => whnf))))
  ((repeat ((fail); (conv => whnf))))
  refine VUnit.storeAB hq rfl rfl rfl (by simp [kC, Kp.zero, Value.oneCell']) ?_
  intro W4 hq4 hg4
  rw [setFrom_allW (vs := kC Kp.zero A n c) (by rfl)] at hq4
  have hB24 : Below W2.heap.size W2 W4 := only_new hB3 hg4 (by omega) (by omega)
  have hd4 := hd2.below hB24
  have hw4 := hw2.later hB24
  have hB4 := hB2.trans (hB24.mono hB2.size)
  have nq : ¬ U2 q := fun hu => by have := hd2.lt q hu; omega
  ((conv => whnf); (repeat ((first | (refine VL.cons ?_) | (refine VL.nil ?_)); (conv => whnf))))
  (repeat (first | ((first | (refine VL.cons ?_) | (refine VC.seqS rfl ?_) | (refine VC.region ?_) | (refine VBool.f ?_) | (refine VRead.fld ?_) | (refine VRead.eqPN ?_) | (refine VC.seq ?_)); (conv => whnf)) | (refine VRead.loadB hq4 rfl rfl ?_; (conv => whnf))))
  refine VCall.of (oCalls W4 U2 d _ hd4) ?_
  rintro e W5 ⟨rfl, eW5⟩
  obtain rfl := eW5.symm
  refine ⟨_, rfl, ?_⟩
  (conv => whnf)
  (repeat ((first | (refine VBool.nT rfl ?_) | (refine VL.cons ?_) | (refine VBool.f ?_)); (conv => whnf)))
  refine VSem.buildS rfl rfl (by simp [zipP, Value.oneCell']) (by omega) ?_
  ((conv => whnf); (repeat ((first | (refine VL.cons ?_)); (conv => whnf))))
  ((repeat ((first | (refine VBool.f ?_)); (conv => whnf))))
  refine VSem.of (w' := W4.alloc (.cells (bv [120]).toArray 5 (1, 2))) (Lib.run_convert_bytes_const (P := Try.prog) W4 31 5 _ 1 1 Try.underlying31 Try.underlying5) ?_
  have hr6 : Reads (W4.alloc (.cells (bv [120]).toArray 5 (1, 2))) (W4.alloc (.cells (bv [120]).toArray 5 (1, 2))).heap.size 1 (some ⟨W4.heap.size, 0, none⟩) 1 (bv [120]) := (reads_new W4 [120] 5 (1, 2) _ rfl 1 rfl).more (by simp)
  have hL6 : Lies (W4.alloc (.cells (bv [120]).toArray 5 (1, 2))) (fun j => W4.heap.size ≤ j) (some ⟨W4.heap.size, 0, none⟩) 1 [120] := ⟨hr6, fun _ => ⟨_, _, _, rfl, Nat.le_refl _, World.alloc_heap_new W4 _⟩⟩
  have hB6 := (Below.refl W4.heap.size W4).alloc (Nat.le_refl _) (.cells (bv [120]).toArray 5 (1, 2))
  generalize W4.alloc (.cells (bv [120]).toArray 5 (1, 2)) = W6 at *
  ((conv => whnf); (repeat ((first | (refine VL.cons ?_)); (conv => whnf))))
  ((repeat ((first | (refine VBool.f ?_)); (conv => whnf))))
  refine VRead.ofW (v := .agg #[.int .i64 3, .bool true, .slice (some ⟨W4.heap.size, 0, none⟩) 1 1]) (fun _ => by kernel_rfl) ?_
  ((conv => whnf); (repeat ((first | (refine VL.cons ?_)); (conv => whnf))))
  ((repeat ((first | (refine VBool.f ?_)); (conv => whnf))))
  refine VSem.of (v := .slice (some ⟨W6.heap.size, 0, none⟩) 1 1) (w' := W6.alloc (.cells #[.int .i64 3, .bool true, .slice (some ⟨W4.heap.size, 0, none⟩) 1 1] 67)) (by kernel_rfl) ?_
  have hnew := Blk.new W6 67 #[.int .i64 3, .bool true, .slice (some ⟨W4.heap.size, 0, none⟩) 1 1]
  have hB7 : Below W6.heap.size W6 (W6.alloc (.cells #[.int .i64 3, .bool true, .slice (some ⟨W4.heap.size, 0, none⟩) 1 1] 67)) := (Below.refl _ W6).alloc (Nat.le_refl _) _
  generalize W6.alloc (.cells #[.int .i64 3, .bool true, .slice (some ⟨W4.heap.size, 0, none⟩) 1 1] 67) = W7 at *
  have hB47 := hB6.trans (hB7.mono hB6.size)
  have z7 := hB47.size
  have hen : EnAt W7 (fun _ => True) (some ⟨W6.heap.size, 0, none⟩) 1 [e18] := EnAt.one (e := e18) hnew trivial (Nat.le_refl _) ((hL6.below hB7 (Nat.le_refl _)).more (fun _ _ _ => trivial))
  have hen2 : EnAt W7 (fun j => j < W7.heap.size) (some ⟨W6.heap.size, 0, none⟩) 1 [e18] := hen.more (fun j h _ => h)
  ((conv => whnf); (repeat ((first | (refine VL.cons ?_)); (conv => whnf))))
  ((repeat ((first | (refine VBool.f ?_)); (conv => whnf))))
  refine VCall.of (walSave_any W7 U2 g d _ ⟨1, 0, 0⟩ true 3 2 1 _ 1 1 [e18] (hd4.below hB47) (hw4.later hB47) hg2 ⟨by decide, by decide, by decide, by decide, by decide, by decide⟩ hen2 (by decide) (by decide) (by decide) (by decide)) ?_
  rw [save18]
  rintro e W8 ⟨rfl, U8, hd8, hw8, hg8, st8⟩
  refine ⟨_, rfl, ?_⟩
  simp only at hd8 hw8 ⊢
  have hUa : ∀ j, addF U2 g j → W.heap.size ≤ j := fun j hj => by
    rcases hj with hj | hj
    · exact hUB2 j hj
    · have := hB1.size; omega
  have hB47' := hB4.trans (hB47.mono hB4.size)
  have hB8 := hB47'.trans (st8.below hUa hB47'.size)
  have hUB8 := st8.min hUa hB47'.size
  have nqa : ¬ addF U2 g q := fun h => by
    rcases h with h | h
    · exact nq h
    · have := hw2.lt; omega
  obtain ⟨hq8, nq8⟩ := st8.blk (hq4.later hB47) nqa
  ((conv => whnf); (repeat ((first | (refine VL.cons ?_)); (conv => whnf))))
  ((repeat ((first | (refine VL.cons ?_) | (refine VL.nil ?_) | (refine VC.seqS rfl ?_) | (refine VC.region ?_) | (refine VC.cond ?_) | (refine VC.skip ?_) | (refine VBool.f ?_)); (conv => whnf))))
  refine VCall.of (walOpen_any W8 U8 d _ hd8 (by decide)) ?_
  rw [reopen18]
  rintro e W9 ⟨U9, hd9, st9, g9, A9, n9, c9, rfl, hw9, hg9, hgl9, hE9⟩
  refine ⟨_, rfl, ?_⟩
  simp only at hd9 hw9 hE9 ⊢
  obtain ⟨hq9, nq9⟩ := st9.blk hq8 (fun h => nq8 (.inl h))
  have hB9 := hB8.trans (st9.below (fun j hj => hUB8 j (.inl hj)) hB8.size)
  have hn9 : n9 = 1 := hE9.at_.2.2.symm
  subst hn9
  ((conv => whnf); (repeat ((first | (refine VL.cons ?_)); (conv => whnf))))
  ((repeat ((fail); (conv => whnf))))
  refine VUnit.storeAB hq9 rfl rfl rfl (by simp [kC, Value.oneCell']) ?_
  intro W10 hq10 hg10
  rw [setFrom_allW (vs := kC k18 A9 1 c9) (by rfl)] at hq10
  have hqW : W.heap.size ≤ q := by have := hB2.size; omega
  have hB10 : Below W.heap.size W W10 := only_new hB9 hg10 hqW hB9.size
  ((conv => whnf); (repeat ((first | (refine VL.cons ?_) | (refine VL.nil ?_) | (refine VC.seqS rfl ?_) | (refine VC.region ?_)); (conv => whnf))))
  (repeat (first | ((first | (refine VL.cons ?_) | (refine VBool.t ?_) | (refine VRead.lenS ?_) | (refine VRead.fld ?_)); (conv => whnf)) | (refine VRead.loadB hq10 rfl rfl ?_; (conv => whnf))))
  refine VCall.of (walName_any 7 W10 (by decide)) ?_
  rintro e W11 ⟨rfl, hB11⟩
  refine ⟨_, rfl, ?_⟩
  ((conv => whnf); (repeat ((first | (refine VL.cons ?_)); (conv => whnf))))
  ((repeat ((first | (refine VL.cons ?_) | (refine VL.nil ?_) | (refine VC.ret ?_) | (refine VBool.t ?_)); (conv => whnf))))
  refine ⟨?_, hB10.trans (hB11.mono hB10.size)⟩
  congr 2
end Go.Proofs.Ytebeidnmplnlpaa
end

section
set_option maxRecDepth 10000
namespace Go.Proofs.Ytebeidnmplnlpaa
set_option linter.unusedVariables false
open Go.RowKit

set_option maxHeartbeats 1000000 in
theorem entriesW_any (es : List En) (A : Option Addr) (n c : Nat) (V0 : Foot) (w : World) (h0 : EnAt w V0 A n es) (hn : n ≤ 1000000) (hd : ∀ e ∈ es, e.data.length ≤ 100000000) :
    Calls Try.prog 42 #[.slice A n c] w fun e w' => ∃ A' c', e = .returned (.slice A' n c') ∧ ERow w' (fun j => w.heap.size ≤ j) w.heap.size (.slice A' n c') es ∧ Below w.heap.size w w' := by
  have h : EnAt w (fun j => j < w.heap.size) A n es := h0.more (fun j hj _ => hj)
  have hne := h.1
  refine calls_vc Try.func42 rfl (by kernel_rfl) ?_
  ((conv => whnf); (repeat ((first | (refine VL.cons ?_) | (refine VL.nil ?_) | (refine VC.seqS rfl ?_) | (refine VC.region ?_)); (conv => whnf))))
  ((repeat ((first | (refine VL.cons ?_) | (refine VL.nil ?_) | (refine VC.seqS rfl ?_) | (refine VC.region ?_) | (refine VC.block ?_) | (refine VC.seq ?_)); (conv => whnf))))
  refine VC.loop [3, 4] [(3, 23)] (fun q vs W => ∃ (k c' : Nat) (A' : Option Addr), vs = [.slice A' k c', .int .i64 (k : Int)] ∧ q = n - k ∧ k ≤ n ∧ ERow W (fun j => w.heap.size ≤ j) w.heap.size (.slice A' k c') (es.take k) ∧ Below w.heap.size w W) (by kernel_rfl)
    ⟨_, 0, 0, none, rfl, rfl, by omega, ERow.nil _ _ _, Below.refl _ _⟩ ?_
  rintro q τ vs W ⟨k, c', A', rfl, rfl, hk, hE, hB⟩
  by_cases hlt : k < n
  case neg =>
    obtain rfl : k = n := by omega
    rw [List.take_of_length_le (by omega)] at hE
    ((conv => whnf); (repeat ((fail); (conv => whnf))))
    ((repeat ((first | (refine VL.cons ?_) | (refine VL.nil ?_) | (refine VC.seqS rfl ?_) | (refine VC.region ?_) | (refine VC.cond ?_) | (refine VC.exit ?_) | (refine VC.ret ?_) | (refine VBool.dF (by omega) ?_) | (refine VRead.lenS ?_) | (refine VC.seq ?_)); (conv => whnf))))
    exact ⟨A', c', rfl, hE, hB⟩
  obtain ⟨e, he⟩ : ∃ e, es[k]? = some e := ⟨_, List.getElem?_eq_getElem (by omega)⟩
  obtain ⟨x, D, m, j, rfl, f0, f1, f2, hmj, hml, hr⟩ := (h.belowB hB).at_ he
  have hdl := hd e (List.mem_of_getElem? he)
  ((conv => whnf); (repeat ((fail); (conv => whnf))))
  (repeat ((first | (refine VRead.atK hlt ?_) | (refine VRead.load3W f0 f1 f2 ?_) | (refine VL.cons ?_) | (refine VL.nil ?_) | (refine VC.seqS rfl ?_) | (refine VC.region ?_) | (refine VC.cond ?_) | (refine VC.block ?_) | (refine VC.skip ?_) | (refine VBool.dT (by omega) ?_) | (refine VRead.lenS ?_) | (refine VC.seq ?_)); (conv => whnf)))
  refine VSem.allocZ (z := .agg #[.int .i64 0, .bool false, .slice none 0 0]) (by kernel_rfl) ?_
  intro W2 b hb hgb hlb hB2
  ((conv => whnf); (repeat ((first | (refine VL.cons ?_)); (conv => whnf))))
  ((repeat ((fail); (conv => whnf))))
  refine VUnit.storeAB hb rfl rfl rfl (by simp [Value.oneCell']) ?_
  intro W3 hb3 hg3
  replace hb3 : Blk W3 b 67 #[.int .i64 e.term, .bool e.cmd, .slice D m j] := hb3
  have hB13 : Below W.heap.size W W3 := only_new hB2 hg3 (by omega) (by omega)
  have hB3 := hB.trans (hB13.mono hB.size)
  have hz := hB.size
  have hr3 := hr.below hB13 (Nat.le_refl _)
  have hE3 := hE.below hB13
  ((conv => whnf); (repeat ((first | (refine VL.cons ?_) | (refine VL.nil ?_) | (refine VC.seqS rfl ?_) | (refine VC.region ?_)); (conv => whnf))))
  (repeat (first | ((first | (refine VL.cons ?_) | (refine VRead.fld ?_)); (conv => whnf)) | (refine VRead.loadB hb3 rfl rfl ?_; (conv => whnf))))
  refine VCall.of (bytes_anyS D m j W3.heap.size e.data W3 (by omega) hr3.1) ?_
  rintro e' W4 ⟨D', j', rfl, hO4, hB4⟩
  refine ⟨_, rfl, ?_⟩
  have hb4 := hb3.later hB4
  have hz3 := hB13.size
  have hE4 := hE3.below hB4
  have hB04 := hB3.trans (hB4.mono hB3.size)
  ((conv => whnf); (repeat ((first | (refine VL.cons ?_)); (conv => whnf))))
  ((repeat ((first | (refine VL.cons ?_) | (refine VRead.fld ?_)); (conv => whnf))))
  refine VUnit.storeB hb4 rfl rfl rfl ?_
  intro W5 hb5 hg5
  replace hb5 : Blk W5 b 67 #[.int .i64 e.term, .bool e.cmd, .slice D' m j'] := hb5
  have hO5 := hO4.storeApart hg5 (hO4.notBlkW hb4 (by decide))
  have hbn : ∀ v : Value, ∀ es', ERow W (fun j => w.heap.size ≤ j) w.heap.size v es' → v.ownBlock ≠ some b := fun v es' hh e => by have := (hh.lt e).1; omega
  have hE5 := hE4.keepG hb4 hg5 (by decide) (hbn _ _ hE)
  have hB5 : Below w.heap.size w W5 := only_new hB04 hg5 (by omega) hB04.size
  ((conv => whnf); (repeat ((first | (refine VL.cons ?_) | (refine VL.nil ?_) | (refine VC.region ?_)); (conv => whnf))))
  ((repeat ((fail); (conv => whnf))))
  refine VRead.loadAB1 hb5 rfl rfl ?_
  ((conv => whnf); (repeat ((first | (refine VL.cons ?_)); (conv => whnf))))
  ((repeat ((fail); (conv => whnf))))
  refine VSem.of (v := .slice (some ⟨W5.heap.size, 0, none⟩) 1 1) (w' := W5.alloc (.cells #[.int .i64 e.term, .bool e.cmd, .slice D' m j'] 67)) (by kernel_rfl) ?_
  have hnew := Blk.new W5 67 #[.int .i64 e.term, .bool e.cmd, .slice D' m j']
  have hB6 : Below W5.heap.size W5 (W5.alloc (.cells #[.int .i64 e.term, .bool e.cmd, .slice D' m j'] 67)) := (Below.refl _ W5).alloc (Nat.le_refl _) _
  generalize W5.alloc (.cells #[.int .i64 e.term, .bool e.cmd, .slice D' m j'] 67) = W6 at *
  have hE6 := hE5.below hB6
  have hO6 := hO5.below hB6 (Nat.le_refl _)
  have hB06 := hB5.trans (hB6.mono hB5.size)
  have z5 := hB5.size
  have z6 := hB06.size
  ((conv => whnf); (repeat ((first | (refine VL.cons ?_)); (conv => whnf))))
  ((repeat ((fail); (conv => whnf))))
  refine ERow.app hE6 (EnAt.one hnew z5 hO6.cap (Lies.of_own (B := w.heap.size) (hO6.more (B' := w.heap.size) (by omega)) (fun j hj => hj))) (by omega) (by omega) (fun j hj => by show w.heap.size ≤ j; omega) ?_
  intro A7 c7 W7 hE7 hg7
  rw [← take_snoc he] at hE7
  ((conv => whnf); (repeat ((first | (refine VL.cons ?_) | (refine VL.nil ?_) | (refine VC.region ?_)); (conv => whnf))))
  ((repeat ((first | (refine VL.cons ?_) | (refine VL.nil ?_) | (refine VWrap.i64 (by omega) (by omega) ?_)); (conv => whnf))))
  exact ⟨_, by omega, k + 1, c7, A7, rfl, rfl, by omega, hE7, hB06.grown hg7 (by omega) (fun j hj => (hE6.lt hj).2)⟩
end Go.Proofs.Ytebeidnmplnlpaa
end

section
set_option maxRecDepth 10000
namespace Go.Proofs.Ytebeidnmplnlpaa
set_option linter.unusedVariables false
open Go.RowKit

theorem VRead.load3WS {P : Program} {S : World → Prop} {t : Nat} {p : Addr} {u v z : Value} {K : Value → Prop} [a : TAgg P t 3] (h : ∀ X, S X → X.cell? (p.add 0) = some u ∧ X.cell? (p.add 1) = some v ∧ X.cell? (p.add 2) = some z) (hk : K (.agg #[u, v, z])) : VRead P S (Instr.loadAt t (.pointer (some p))) K :=
  .of (fun X hX => run_load_listW (cs := [u, v, z]) a (fun j x hj => by
    obtain ⟨h0, h1, h2⟩ := h X hX
    match j, hj with
    | 0, hj => rw [h0]; simpa using hj
    | 1, hj => rw [h1]; simpa using hj
    | 2, hj => rw [h2]; simpa using hj) rfl) hk
theorem EnAt.later {w : World} {A : Option Addr} {n i : Nat} {es : List En} {e : En} (h : EnAt w (fun j => j < w.heap.size) A n es) (he : es[i]? = some e) :
    ∃ x D m k, A = some x ∧ e.data.length = m ∧ ∀ X, Below w.heap.size w X → X.cell? ((x.add (i * 3)).add 0) = some (.int .i64 e.term) ∧ X.cell? ((x.add (i * 3)).add 1) = some (.bool e.cmd) ∧ X.cell? ((x.add (i * 3)).add 2) = some (.slice D m k) ∧ Reads X w.heap.size 1 D m (bv e.data) := by
  have hi := (List.getElem?_eq_some_iff.1 he).1
  have h1 := h.1
  obtain ⟨x, hA, hx, hv, h3⟩ := h.2 (by omega)
  obtain ⟨D, m, k, e1, e2, e3, e4, e5⟩ := h3 i e he
  refine ⟨x, D, m, k, hA, e5.len, fun X hX => ?_⟩
  have key : ∀ j u, w.cell? (x.add j) = some u → X.cell? (x.add j) = some u := fun j u hu => (World.cell?_of_block (by rw [adb]; exact hX.block _ hx)).trans hu
  refine ⟨?_, ?_, ?_, e5.1.below hX⟩
  all_goals rw [Deep.add_add, Nat.mul_comm i 3]
  · exact key _ _ e1
  · exact key _ _ e2
  · exact key _ _ e3
theorem En.eq_iff {a b : En} : a = b ↔ a.term = b.term ∧ a.cmd = b.cmd ∧ a.data = b.data := by
  cases a; cases b; simp
set_option maxHeartbeats 1000000 in
theorem sameEntryW_any (a b : En) (A1 A2 : Option Addr) (n1 c1 n2 c2 : Nat) (w : World) (h1 : Reads w w.heap.size 1 A1 n1 (bv a.data)) (h2 : Reads w w.heap.size 1 A2 n2 (bv b.data)) :
    Calls Try.prog 78 #[.agg #[.int .i64 a.term, .bool a.cmd, .slice A1 n1 c1], .agg #[.int .i64 b.term, .bool b.cmd, .slice A2 n2 c2]] w fun e w' => e = .returned (.bool (decide (a = b))) ∧ Below w.heap.size w w' := by
  refine calls_vc Try.func78 rfl (by kernel_rfl) ?_
  ((conv => whnf); (repeat ((first | (refine VL.cons ?_) | (refine VC.seqS rfl ?_) | (refine VC.region ?_)); (conv => whnf))))
  ((repeat ((fail); (conv => whnf))))
  refine VSem.boxB ?_
  intro w1 g1 hb1 hg1 hl1 hB1
  replace hb1 : Blk w1 g1 67 #[.int .i64 a.term, .bool a.cmd, .slice A1 n1 c1] := hb1
  ((conv => whnf); (repeat ((first | (refine VL.cons ?_)); (conv => whnf))))
  ((repeat ((fail); (conv => whnf))))
  refine VSem.boxB ?_
  intro w2 g2 hb2 hg2 hl2 hB2
  replace hb2 : Blk w2 g2 67 #[.int .i64 b.term, .bool b.cmd, .slice A2 n2 c2] := hb2
  have hb1' := hb1.below hB2 hl1
  have hB12 := hB1.trans (hB2.mono hB1.size)
  by_cases ht : a.term = b.term
  case neg =>
    rw [decide_eq_false (fun e => ht (En.eq_iff.1 e).1)]
    ((conv => whnf); (repeat ((first | (refine VL.cons ?_) | (refine VL.nil ?_) | (refine VC.seqS rfl ?_) | (refine VC.region ?_)); (conv => whnf))))
    (repeat (first | ((first | (refine VL.cons ?_) | (refine VL.nil ?_) | (refine VC.ret ?_) | (refine VBool.f ?_) | (refine VBool.dF (by omega) ?_) | (refine VRead.fld ?_)); (conv => whnf)) | (refine VRead.loadB hb1' rfl rfl ?_; (conv => whnf)) | (refine VRead.loadB hb2 rfl rfl ?_; (conv => whnf))))
    exact ⟨rfl, hB12⟩
  by_cases hk : a.cmd = b.cmd
  case neg =>
    rw [decide_eq_false (fun e => hk (En.eq_iff.1 e).2.1)]
    ((conv => whnf); (repeat ((first | (refine VL.cons ?_) | (refine VL.nil ?_) | (refine VC.seqS rfl ?_) | (refine VC.region ?_)); (conv => whnf))))
    (repeat (first | ((first | (refine VL.cons ?_) | (refine VL.nil ?_) | (refine VC.ret ?_) | (refine VBool.t ?_) | (refine VBool.f ?_) | (refine VBool.dT (by omega) ?_) | (refine VBool.dF (by omega) ?_) | (refine VRead.fld ?_) | (refine VRead.eqB ?_)); (conv => whnf)) | (refine VRead.loadB hb1' rfl rfl ?_; (conv => whnf)) | (refine VRead.loadB hb2 rfl rfl ?_; (conv => whnf)) | (refine VBool.dF hk ?_; (conv => whnf))))
    exact ⟨rfl, hB12⟩
  ((conv => whnf); (repeat ((first | (refine VL.cons ?_) | (refine VL.nil ?_) | (refine VC.seqS rfl ?_) | (refine VC.region ?_)); (conv => whnf))))
  (repeat (first | ((first | (refine VL.cons ?_) | (refine VBool.t ?_) | (refine VBool.dT (by omega) ?_) | (refine VRead.fld ?_) | (refine VRead.eqB ?_)); (conv => whnf)) | (refine VRead.loadB hb1' rfl rfl ?_; (conv => whnf)) | (refine VRead.loadB hb2 rfl rfl ?_; (conv => whnf)) | (refine VBool.dT hk ?_; (conv => whnf))))
  refine VSem.convT ((h1.below hB12).more hB12.size) ?_
  ((conv => whnf); (repeat ((first | (refine VL.cons ?_)); (conv => whnf))))
  (repeat (first | ((first | (refine VL.cons ?_) | (refine VBool.t ?_) | (refine VRead.fld ?_)); (conv => whnf)) | (refine VRead.loadB hb1' rfl rfl ?_; (conv => whnf)) | (refine VRead.loadB hb2 rfl rfl ?_; (conv => whnf))))
  refine VSem.convT ((h2.below hB12).more hB12.size) ?_
  ((conv => whnf); (repeat ((first | (refine VL.cons ?_)); (conv => whnf))))
  ((repeat ((first | (refine VL.cons ?_) | (refine VL.nil ?_) | (refine VC.ret ?_) | (refine VBool.t ?_)); (conv => whnf))))
  refine ⟨?_, hB12⟩
  rw [show decide (a = b) = decide (txt a.data = txt b.data) from decide_eq_decide.2 ⟨fun e => by rw [e], fun e => En.eq_iff.2 ⟨ht, hk, txt_inj.1 e⟩⟩]
  rfl
set_option maxHeartbeats 1000000 in
theorem sameEntriesW_any (es fs : List En) (A1 A2 : Option Addr) (n1 c1 n2 c2 : Nat) (V1 V2 : Foot) (w : World) (h1 : EnAt w V1 A1 n1 es) (h2 : EnAt w V2 A2 n2 fs) (hn : n1 ≤ 100000000) :
    Calls Try.prog 44 #[.slice A1 n1 c1, .slice A2 n2 c2] w fun e w' => e = .returned (.bool (decide (es = fs))) ∧ Below w.heap.size w w' := by
  replace h1 : EnAt w (fun j => j < w.heap.size) A1 n1 es := h1.more (fun j hj _ => hj)
  replace h2 : EnAt w (fun j => j < w.heap.size) A2 n2 fs := h2.more (fun j hj _ => hj)
  have l1 := h1.1
  have l2 := h2.1
  refine calls_vc Try.func44 rfl (by kernel_rfl) ?_
  by_cases hl : n1 = n2
  case neg =>
    rw [decide_eq_false (fun e => hl (by rw [← l1, ← l2, e]))]
    ((conv => whnf); (repeat ((first | (refine VL.cons ?_) | (refine VL.nil ?_) | (refine VC.seqS rfl ?_) | (refine VC.region ?_)); (conv => whnf))))
    ((repeat ((first | (refine VL.cons ?_) | (refine VL.nil ?_) | (refine VC.seqS rfl ?_) | (refine VC.region ?_) | (refine VC.cond ?_) | (refine VC.ret ?_) | (refine VBool.nF (by omega) ?_) | (refine VRead.lenS ?_) | (refine VC.seq ?_)); (conv => whnf))))
    exact ⟨rfl, Below.refl _ _⟩
  ((conv => whnf); (repeat ((first | (refine VL.cons ?_) | (refine VL.nil ?_) | (refine VC.seqS rfl ?_) | (refine VC.region ?_)); (conv => whnf))))
  ((repeat ((first | (refine VL.cons ?_) | (refine VL.nil ?_) | (refine VC.seqS rfl ?_) | (refine VC.region ?_) | (refine VC.cond ?_) | (refine VC.block ?_) | (refine VC.skip ?_) | (refine VBool.nT (by omega) ?_) | (refine VRead.lenS ?_) | (refine VC.seq ?_)); (conv => whnf))))
  refine VC.loop [5] [(4, 5), (11, 26)] (fun q vs W => ∃ k : Nat, vs = [.int .i64 (k : Int)] ∧ q = n1 - k ∧ k ≤ n1 ∧ es.take k = fs.take k ∧ Below w.heap.size w W) (by kernel_rfl)
    ⟨_, 0, rfl, rfl, by omega, rfl, Below.refl _ _⟩ ?_
  rintro q τ vs W ⟨k, rfl, rfl, hk, hsame, hB⟩
  by_cases hlt : k < n1
  case neg =>
    have e1 : es = fs := by rwa [List.take_of_length_le (by omega), List.take_of_length_le (by omega)] at hsame
    rw [decide_eq_true e1]
    ((conv => whnf); (repeat ((fail); (conv => whnf))))
    ((repeat ((first | (refine VL.cons ?_) | (refine VL.nil ?_) | (refine VC.seqS rfl ?_) | (refine VC.region ?_) | (refine VC.cond ?_) | (refine VC.exit ?_) | (refine VC.ret ?_) | (refine VBool.dF (by omega) ?_) | (refine VRead.lenS ?_) | (refine VC.seq ?_)); (conv => whnf))))
    exact ⟨rfl, hB⟩
  have hlt2 : k < n2 := by omega
  obtain ⟨a, ha⟩ : ∃ e, es[k]? = some e := ⟨_, List.getElem?_eq_getElem (by omega)⟩
  obtain ⟨b, hb⟩ : ∃ e, fs[k]? = some e := ⟨_, List.getElem?_eq_getElem (by omega)⟩
  obtain ⟨x, D, m, j, rfl, hml, H1⟩ := h1.later ha
  obtain ⟨y, E, p, r, rfl, hpl, H2⟩ := h2.later hb
  have hS : Below w.heap.size w (W.drewN 1) := below_drewN hB 1
  ((conv => whnf); (repeat ((fail); (conv => whnf))))
  ((repeat ((first | (refine VL.cons ?_) | (refine VL.nil ?_) | (refine VC.seqS rfl ?_) | (refine VC.region ?_) | (refine VC.draw ?_) | (refine VC.cond ?_) | (refine VC.block ?_) | (refine VC.skip ?_) | (refine VBool.dT (by omega) ?_) | (refine VRead.lenS ?_) | (refine VC.seq ?_)); (conv => whnf))))
  refine VDraw.seg (fun X => Below w.heap.size w X) [([0, 1, 2, 3, 4, 5, 6, 7], 8)] [9] (by kernel_rfl) (by kernel_rfl) hS ?_
  generalize W.drewN 1 = W1 at *
  (conv => whnf)
  (repeat ((first | (refine VRead.atK hlt ?_) | (refine VRead.atK hlt2 ?_) | (refine VRead.load3WS (fun X hX => ⟨(H1 X hX).1, (H1 X hX).2.1, (H1 X hX).2.2.1⟩) ?_) | (refine VRead.load3WS (fun X hX => ⟨(H2 X hX).1, (H2 X hX).2.1, (H2 X hX).2.2.1⟩) ?_) | (refine VQ.cons ?_) | (refine VQ.nil ?_) | (refine VG.cons ?_)); (conv => whnf)))
  refine VCall.of (sameEntryW_any a b D E m j p r W1 ((H1 W1 hS).2.2.2.more hS.size) ((H2 W1 hS).2.2.2.more hS.size)) ?_
  rintro e W2 ⟨rfl, hB2⟩
  refine ⟨_, rfl, ?_⟩
  have hS2 := hS.trans (hB2.mono hS.size)
  (conv => whnf)
  refine Keep.mk hS2 ?_
  by_cases hab : a = b
  · rw [decide_eq_true hab]
    ((conv => whnf); (repeat ((first | (refine VC.cond ?_) | (refine VQ.cons ?_) | (refine VQ.nil ?_) | (refine VG.nil ?_)); (conv => whnf))))
    ((repeat ((first | (refine VL.cons ?_) | (refine VL.nil ?_) | (refine VC.region ?_) | (refine VC.skip ?_) | (refine VBool.f ?_) | (refine VWrap.i64 (by omega) (by omega) ?_)); (conv => whnf))))
    exact ⟨_, by omega, k + 1, rfl, rfl, by omega, by rw [take_snoc ha, take_snoc hb, hsame, hab], hS2⟩
  · rw [decide_eq_false hab, decide_eq_false (fun e => hab (by rw [e] at ha; rw [ha] at hb; exact Option.some.inj hb))]
    ((conv => whnf); (repeat ((first | (refine VC.cond ?_) | (refine VQ.cons ?_) | (refine VQ.nil ?_) | (refine VG.nil ?_)); (conv => whnf))))
    ((repeat ((first | (refine VL.cons ?_) | (refine VL.nil ?_) | (refine VC.seqS rfl ?_) | (refine VC.region ?_) | (refine VC.ret ?_) | (refine VBool.t ?_)); (conv => whnf))))
    exact ⟨rfl, hS2⟩
end Go.Proofs.Ytebeidnmplnlpaa
end

section
set_option maxRecDepth 10000
namespace Go.Proofs.Ytebeidnmplnlpaa
set_option linter.unusedVariables false
open Go.RowKit

/-- the state of a disk whose only file is a log of bodies -/
def lgS (r c : Int) (n : Nat) (bs : List (List UInt8)) : DS := ⟨k0 r c, [(wName (n : Int), fullF (Frame.laid bs))]⟩
theorem save_says {r c : Int} {n m : Nat} {bs : List (List UInt8)} {k : Kp} {set : Bool} {term vote fr : Int} {es : List En} (h1 : 1 ≤ n) (h2 : n ≤ 99999999) (h : Says bs k) (hs : set = true → inR term 1099511627776 ∧ inR vote 7)
    (hf : 0 < fr → k.base < fr ∧ fr ≤ k.base + k.es.length + 1) (hm : ∀ e ∈ es, mayE e) (hl : k.es.length + es.length ≤ 1000000) (hd : ∀ e ∈ es, e.data.length ≤ m) (hne : set = true ∨ (0 < fr ∧ es ≠ []))
    (hr : ((Frame.laid bs).length : Int) + 100 + ((m + 62) * es.length : Nat) ≤ r) :
    DS.wsave (lgS r c n bs) ⟨n, k.base, k.base + k.es.length⟩ set term vote fr es = ((0, lgS r (c + 2) n (bs ++ saveBs set term vote fr es)), ⟨n, k.base, k.base + (afterS k set term vote fr es).es.length⟩) ∧
      Says (bs ++ saveBs set term vote fr es) (afterS k set term vote fr es) ∧ (Frame.laid (bs ++ saveBs set term vote fr es)).length ≤ (Frame.laid bs).length + 100 + (m + 62) * es.length := by
  have hw := wsB_few (set := set) (term := term) (vote := vote) (fr := fr) hd
  have hbad : ¬ wsBad ⟨n, k.base, k.base + k.es.length⟩ set term vote fr := fun hb => by
    rcases hb with ⟨h3, h4⟩ | ⟨h3, h4⟩
    · exact h4 (hs h3)
    · have := hf h3
      simp only at h4
      omega
  have hnn : wsB set term vote fr es ≠ [] := by
    rcases hne with rfl | ⟨h3, h4⟩
    · unfold wsB wsSet
      rw [if_pos rfl]
      have := Frame.put_pos (recB 1 [term, vote])
      intro e
      have h5 := congrArg List.length e
      simp only [List.length_append, List.length_nil] at h5
      omega
    · cases es with
      | nil => exact absurd rfl h4
      | cons e r => exact entBs_pos h3
  have hsv := wsave_one (r := r) (c := c) h1 h2 (b := Frame.laid bs) hbad hm hnn (by omega)
  have e1 : Frame.laid bs ++ wsB set term vote fr es = Frame.laid (bs ++ saveBs set term vote fr es) := by rw [wsB_laid, Frame.laid_append]
  have e2 : wlast ⟨n, k.base, k.base + k.es.length⟩ fr es = ⟨n, k.base, k.base + (afterS k set term vote fr es).es.length⟩ := by
    unfold wlast afterS
    by_cases h3 : 0 < fr ∧ 0 < es.length
    · rw [if_pos h3, if_pos h3]
      obtain ⟨f1, f2⟩ := hf h3.1
      simp only [List.length_append, List.length_take]
      congr 1
      omega
    · rw [if_neg h3, if_neg h3]
  refine ⟨?_, h.save hs hf hm (by omega), ?_⟩
  · rw [e1, e2] at hsv
    have e3 : c + 1 + 1 = c + 2 := by omega
    rw [e3] at hsv
    exact hsv
  · rw [← e1, List.length_append]
    omega
theorem lgS_new {room : Int} (h0 : 0 ≤ room) (h2 : room ≤ 16777216) (hr : 200 ≤ room) : DS.wopen (DS.new room) = ((0, lgS room 4 1 (waBs Kp.zero)), some (⟨1, 0, 0⟩, Kp.zero)) := by
  rw [wopen_new h0 h2 (by have := zero_len; omega)]
  unfold lgS
  rw [← waB_laid]
  rfl
theorem says_zero : Says (waBs Kp.zero) Kp.zero := says_new (by decide) (by decide)
end Go.Proofs.Ytebeidnmplnlpaa
end

section
set_option maxRecDepth 10000
namespace Go.Proofs.Ytebeidnmplnlpaa
set_option linter.unusedVariables false
open Go.RowKit

theorem says_of {b : List UInt8} {k : Kp} (hr : readW b = some k) (hw : isWhole b = true) (hb : inR k.base 1099511627776) : ∃ bs, b = Frame.laid bs ∧ Says bs k := by
  obtain ⟨e, _, hok⟩ := Frame.bodies_spec b
  have h0 : Frame.rest b = [] := of_decide_eq_true hw
  rw [h0, List.append_nil] at e
  unfold readW at hr
  split at hr
  · cases hr
  · rename_i hne
    exact ⟨_, e, hok, hne, hr, hb⟩
theorem open_file {r c : Int} {n : Nat} {f : Fl} {k : Kp} (h1 : 1 ≤ n) (h2 : n ≤ 99999998) (hr : readW f.b = some k) (hk : mayK k) (hl : k.es.length ≤ 1000000) (hroom : (f.b.length : Int) + ((waB k).length : Int) ≤ r) :
    ∃ (c' : Int) (n' : Nat) (bs : List (List UInt8)), c ≤ c' ∧ c' ≤ c + 10 ∧ 1 ≤ n' ∧ n' ≤ n + 1 ∧ Says bs k ∧ (Frame.laid bs).length ≤ f.b.length + (waB k).length ∧
      DS.wopen ⟨k0 r c, [(wName (n : Int), f)]⟩ = ((0, lgS r c' n' bs), some (⟨n', k.base, k.base + k.es.length⟩, k)) := by
  cases hw : isWhole f.b with
  | true =>
    obtain ⟨bs, e, hS⟩ := says_of hr hw hk.2.1
    refine ⟨c + 1, n, bs, by omega, by omega, h1, by omega, hS, by rw [e]; omega, ?_⟩
    rw [wopen_one h1 (by omega) hr hw]
    unfold lgS
    rw [← e]
  | false =>
    refine ⟨c + 1 + 1 + 1 + 1 + 1, n + 1, waBs k, by omega, by omega, by omega, by omega, says_new hk hl, by rw [← waB_laid]; omega, ?_⟩
    have e2 : DS.wnext ⟨k0 r c, [(wName (n : Int), f)]⟩ ⟨true, n, k, false⟩ = ((0, ⟨k0 r (c + 1 + 1 + 1 + 1 + 1), [(wName ((n + 1 : Nat) : Int), fullF (waB k))]⟩), ⟨((n + 1 : Nat) : Int), k.base, k.base + k.es.length⟩) := by
      unfold DS.wnext
      rw [if_neg (by simp)]
      exact wanew_next h1 h2 hk hroom
    have e3 : DS.wend ((0, ⟨k0 r (c + 1 + 1 + 1 + 1 + 1), [(wName ((n + 1 : Nat) : Int), fullF (waB k))]⟩), ⟨((n + 1 : Nat) : Int), k.base, k.base + k.es.length⟩) = (0, ⟨k0 r (c + 1 + 1 + 1 + 1 + 1), [(wName ((n + 1 : Nat) : Int), fullF (waB k))]⟩) := by
      unfold DS.wend
      rw [andT_ok rfl]
      exact wclear_one rfl
    unfold DS.wopen
    simp only
    rw [wScan_one h1 (by omega) hr, hw]
    simp only
    rw [if_neg (by omega), e2, e3, if_pos rfl]
    unfold lgS
    rw [← waB_laid]
end Go.Proofs.Ytebeidnmplnlpaa
end

section
set_option maxRecDepth 10000
namespace Go.Proofs.Ytebeidnmplnlpaa
set_option linter.unusedVariables false
open Go.ChangeShapes Go.WideShapes Go.ChangeAt Go.RowKit

/-- elements of k cells each lie where a slice says -/
def ListAt {α : Type} (W : World) (B k : Nat) (E : α → List Value → Prop) (A : Option Addr) (n : Nat) (l : List α) : Prop :=
  l.length = n ∧ (0 < n → ∃ x, A = some x ∧ x.block < B ∧ ∀ i a, l[i]? = some a → ∃ cs, E a cs ∧ ∀ j u, cs[j]? = some u → W.cell? (x.add (k * i + j)) = some u)
theorem add_blkO (x : Addr) (j : Nat) : (x.add j).block = x.block := by unfold Addr.add; split <;> rfl
section
variable {H : Type} {enc : TypeId × Value → H}
theorem cell_in {W : World} {x : Addr} {u : Value} (h : W.cell? x = some u) : x.block < W.heap.size := by
  unfold World.cell? at h
  cases hb : W.heap[x.block]? with
  | none => rw [hb] at h; cases h
  | some o => exact (Array.getElem?_eq_some_iff.1 hb).1
/-- bytes -/
def EBy (W : World) (l : List UInt8) (cs : List Value) : Prop := ∃ A m c, cs = [.slice A m c] ∧ m ≤ c ∧ c ≤ 140737488351232 ∧ Reads W W.heap.size 1 A m (bv l)
theorem EBy.open {W : World} {n : Nat} {cs : List Value} {y : DataW H × List MemPlace} (h : DataW.trod enc Try.prog W 0 (fun _ => true) true n 31 cs = some y) (hw : ∀ x ∈ y.1.weights Try.prog 31, x ≤ reachBytes) (hl1 : cs.length = 1) : ∃ l, EBy W l cs := by
  obtain ⟨c, rfl⟩ : ∃ c, cs = [c] := by
    match cs, hl1 with
    | [c], _ => exact ⟨c, rfl⟩
  rcases open_ints Try.underlying31 Try.underlying5 (by kernel_rfl) h with ⟨hcs, hx⟩ | ⟨x, l, c', zs, hcs, _, hl, hm, hz, hx, hcell, hwz⟩
  · simp at hcs
    obtain rfl := hcs
    exact ⟨[], none, 0, 0, rfl, Nat.le_refl _, by omega, Reads.none_⟩
  · simp at hcs
    obtain rfl := hcs
    simp only [if_true] at hz
    subst hx
    have h1 := hw _ (by simp only [DataW.weights]; rw [Try.underlying31]; exact List.mem_cons_self ..)
    simp [lits, reachBytes] at h1
    rw [show Try.prog.bytesOf 5 = 1 from by kernel_rfl] at h1
    have hb : ∀ i, i < l → ∃ b : UInt8, W.cell? (x.add i) = some (.int .u8 (b.toNat : Int)) := fun i hi => by
      have h1 := hcell i (by omega)
      have h2 := hwz (zs.getD i 0) (by
        rw [List.getD_eq_getElem?_getD, List.getElem?_eq_getElem (by omega)]
        exact List.getElem_mem _)
      obtain ⟨b, hb⟩ := u8_nat h2
      exact ⟨b, by rw [h1, hb]⟩
    obtain ⟨f, hf⟩ := Deep.choose_lt hb
    refine ⟨(List.range l).map f, some x, l, c', rfl, hl, by omega, by simp [bv], fun hn => ⟨x, rfl, ?_, fun j u hu => ?_⟩⟩
    · have := cell_in (hf 0 hn)
      rwa [show x.add 0 = x from by simp [Addr.add]] at this
    · simp only [bv, List.map_map, List.getElem?_map, Option.map_eq_some_iff] at hu
      obtain ⟨i, hi, rfl⟩ := hu
      have hj : j < l := by have := (List.getElem?_eq_some_iff.1 hi).1; simpa using this
      rw [List.getElem?_range hj] at hi
      obtain rfl := Option.some.inj hi
      exact hf j hj
end
/-- a list of bytes -/
abbrev InYss (W : World) (A : Option Addr) (n : Nat) (l : List (List UInt8)) : Prop := ListAt W W.heap.size 1 (EBy W) A n l
/-- one of them, in all later worlds -/
theorem InYss.later {W : World} {A : Option Addr} {n i : Nat} {l : List (List UInt8)} {b : List UInt8} (h : InYss W A n l) (hb : l[i]? = some b) :
    ∃ x Ab m c, A = some x ∧ m = b.length ∧ m ≤ c ∧ c ≤ 140737488351232 ∧ ∀ W', Below W.heap.size W W' → W'.cell? (x.add i) = some (.slice Ab m c) ∧ Reads W' W.heap.size 1 Ab m (bv b) := by
  have hi := (List.getElem?_eq_some_iff.1 hb).1
  have h1 := h.1
  obtain ⟨x, hA, hx, h3⟩ := h.2 (by omega)
  obtain ⟨cs, ⟨Ab, m, c, rfl, h4, h5, h6⟩, h7⟩ := h3 i b hb
  have h8 := h7 0 _ rfl
  rw [Nat.one_mul, Nat.add_zero] at h8
  refine ⟨x, Ab, m, c, hA, by have := h6.1; rw [bv_length] at this; omega, h4, h5, fun W' hB => ⟨?_, h6.below hB⟩⟩
  rw [hB.cell (by rw [add_blkO]; exact hx)]
  exact h8
end Go.Proofs.Ytebeidnmplnlpaa
end

section
set_option maxRecDepth 10000
namespace Go.Proofs.Ytebeidnmplnlpaa
set_option linter.unusedVariables false
open Go.RowKit

/-! ### behind a crash -/
theorem crash_full (ps : List Int) (i : Nat) (b : List UInt8) : crashF ps i (fullF b) = fullF b := by
  have e : keepN ps i (fullF b) = b.length := by unfold keepN fullF; simp only; omega
  unfold crashF
  rw [e]
  unfold fullF
  simp
end Go.Proofs.Ytebeidnmplnlpaa
end

section
set_option maxRecDepth 10000
namespace Go.Proofs.Ytebeidnmplnlpaa
set_option linter.unusedVariables false
open Go.RowKit

def Quiet (S : DS) : Prop := S.k.armed = false ∧ S.k.off = false
def nrm (S : DS) : DS := ⟨k0 S.k.room S.k.calls, S.t⟩
structure SimR (R R' : Int × DS) : Prop where
  e : R'.1 = R.1
  s : R'.2 = nrm R.2
  q : Quiet R.2
section
variable {S : DS} {s u b nm pre : List UInt8} {f : Fl}
theorem call_q {r c k a : Int} : (⟨r, c, false, k, a, false⟩ : Dk).call = (0, ⟨r, c + 1, false, k, a, false⟩) := rfl
theorem Quiet.form (h : Quiet S) : ∃ r c k a, S = ⟨⟨r, c, false, k, a, false⟩, S.t⟩ := by
  obtain ⟨⟨r, c, x, k, a, y⟩, t⟩ := S
  obtain ⟨h1, h2⟩ := h
  simp only at h1 h2
  subst h1 h2
  exact ⟨r, c, k, a, rfl⟩
theorem create_sim (h : Quiet S) (s : List UInt8) : SimR (S.create s) ((nrm S).create s) := by
  obtain ⟨r, c, k, a, e⟩ := h.form
  generalize S.t = T at e
  subst e
  unfold DS.create nrm
  simp only [call_q, k0_call, ne_eq, not_true_eq_false, if_false]
  split
  · exact ⟨rfl, rfl, rfl, rfl⟩
  · split
    · exact ⟨rfl, rfl, rfl, rfl⟩
    · exact ⟨rfl, rfl, rfl, rfl⟩
theorem put_yes {K : Dk} {T : PT} {x : List UInt8} (h : K.room < (used T : Int) + x.length) : DS.put ⟨K, T⟩ s f x = (18, ⟨K, T⟩) := if_pos h
theorem put_no {K : Dk} {T : PT} {x : List UInt8} (h : ¬ K.room < (used T : Int) + x.length) : DS.put ⟨K, T⟩ s f x = (0, ⟨K, tset T s ⟨f.b ++ x, f.sure⟩⟩) := if_neg h
theorem append_sim (h : Quiet S) (s b : List UInt8) : SimR (S.append s b) ((nrm S).append s b) := by
  obtain ⟨r, c, k, a, e⟩ := h.form
  generalize S.t = T at e
  subst e
  unfold DS.append nrm
  simp only [call_q, k0_call, ne_eq, not_true_eq_false, if_false]
  split
  · exact ⟨rfl, rfl, rfl, rfl⟩
  · cases tfind T s with
    | none => exact ⟨rfl, rfl, rfl, rfl⟩
    | some f =>
      simp only
      by_cases hr : r < (used T : Int) + b.length
      · rw [put_yes (K := ⟨r, c + 1, false, k, a, false⟩) hr, put_yes (K := k0 r (c + 1)) hr]; exact ⟨rfl, rfl, rfl, rfl⟩
      · rw [put_no (K := ⟨r, c + 1, false, k, a, false⟩) hr, put_no (K := k0 r (c + 1)) hr]; exact ⟨rfl, rfl, rfl, rfl⟩
theorem sync_sim (h : Quiet S) (s : List UInt8) : SimR (S.sync s) ((nrm S).sync s) := by
  obtain ⟨r, c, k, a, e⟩ := h.form
  generalize S.t = T at e
  subst e
  unfold DS.sync nrm
  simp only [call_q, k0_call, ne_eq, not_true_eq_false, if_false]
  split
  · exact ⟨rfl, rfl, rfl, rfl⟩
  · cases tfind T s with
    | none => exact ⟨rfl, rfl, rfl, rfl⟩
    | some f => exact ⟨rfl, rfl, rfl, rfl⟩
theorem rename_sim (h : Quiet S) (s u : List UInt8) : SimR (S.rename s u) ((nrm S).rename s u) := by
  obtain ⟨r, c, k, a, e⟩ := h.form
  generalize S.t = T at e
  subst e
  unfold DS.rename nrm
  simp only [call_q, k0_call, ne_eq, not_true_eq_false, if_false]
  split
  · exact ⟨rfl, rfl, rfl, rfl⟩
  · cases tfind T s with
    | none => exact ⟨rfl, rfl, rfl, rfl⟩
    | some f => exact ⟨rfl, rfl, rfl, rfl⟩
theorem remove_sim (h : Quiet S) (s : List UInt8) : SimR (S.remove s) ((nrm S).remove s) := by
  obtain ⟨r, c, k, a, e⟩ := h.form
  generalize S.t = T at e
  subst e
  unfold DS.remove nrm
  simp only [call_q, k0_call, ne_eq, not_true_eq_false, if_false]
  split
  · exact ⟨rfl, rfl, rfl, rfl⟩
  · cases tfind T s with
    | none => exact ⟨rfl, rfl, rfl, rfl⟩
    | some f => exact ⟨rfl, rfl, rfl, rfl⟩
theorem SimR.and {R R' : Int × DS} {f f' : DS → Int × DS} (h : SimR R R') (hf : ∀ S, Quiet S → SimR (f S) (f' (nrm S))) : SimR (andT R f) (andT R' f') := by
  by_cases h0 : R.1 = 0
  · rw [andT_ok h0, andT_ok (h.e.trans h0), h.s]
    exact hf _ h.q
  · rw [andT_no h0, andT_no (fun e => h0 (h.e.symm.trans e))]
    exact h
theorem clear_sim : ∀ (l : List (List UInt8)) (S : DS), Quiet S → SimR (S.clear pre nm l) ((nrm S).clear pre nm l)
  | [], S, h => ⟨rfl, rfl, h⟩
  | x :: r, S, h => by
    rw [clear_cons, clear_cons]
    split
    · exact (remove_sim h x).and (fun S' h' => clear_sim r S' h')
    · exact clear_sim r S h
theorem wrun_sim (nm b : List UInt8) : ∀ (m k : Nat) (S : DS), Quiet S → SimR (wrun nm b m k S) (wrun nm b m k (nrm S))
  | 0, k, S, h => ⟨rfl, rfl, h⟩
  | m + 1, k, S, h => by
    have h1 : SimR (wact nm b k S) (wact nm b k (nrm S)) := by
      unfold wact
      split
      · exact create_sim h _
      · exact append_sim h _ _
      · exact sync_sim h _
      · exact rename_sim h _ _
    exact h1.and (fun S' h' => wrun_sim nm b m (k + 1) S' h')
structure SimW (R R' : (Int × DS) × WlS) : Prop where
  r : SimR R.1 R'.1
  w : R'.2 = R.2
theorem wanew_sim (h : Quiet S) (w : WlS) (k : Kp) : SimW (S.wanew w k) ((nrm S).wanew w k) := by
  have h1 := wrun_sim (wName (w.n + 1)) (waB k) 4 0 S h
  unfold DS.wanew
  split
  · exact ⟨⟨rfl, rfl, h⟩, rfl⟩
  · split
    · exact ⟨⟨rfl, rfl, h⟩, rfl⟩
    · simp only
      rw [h1.e, h1.s]
      split
      · exact ⟨⟨h1.e, h1.s, h1.q⟩, rfl⟩
      · split
        · exact ⟨⟨rfl, rfl, h1.q⟩, rfl⟩
        · have h2 := remove_sim h1.q (wName w.n)
          refine ⟨⟨?_, ?_, ?_⟩, rfl⟩
          · simp only; rw [h2.e]
          · exact h2.s
          · exact h2.q
theorem wnext_sim (h : Quiet S) (c : Scn) : SimW (S.wnext c) ((nrm S).wnext c) := by
  unfold DS.wnext
  split
  · exact ⟨sync_sim h _, rfl⟩
  · exact wanew_sim h _ _
theorem wend_sim {R R' : (Int × DS) × WlS} (h : SimW R R') : SimR (DS.wend R) (DS.wend R') := by
  unfold DS.wend
  rw [h.w]
  exact h.r.and (fun S' h' => clear_sim _ S' h')
/-- a quiet disk is opened as one that nothing ails -/
theorem wopen_sim (h : Quiet S) {X : (Int × DS) × Option (WlS × Kp)} (e : (nrm S).wopen = X) : S.wopen.1.1 = X.1.1 ∧ S.wopen.2 = X.2 ∧ X.1.2 = nrm S.wopen.1.2 := by
  have h1 := wend_sim (wnext_sim h (wScan S.t))
  have h2 := (wnext_sim h (wScan S.t)).w
  have et : (nrm S).t = S.t := rfl
  subst e
  unfold DS.wopen
  rw [et]
  split
  · exact ⟨rfl, rfl, rfl⟩
  · refine ⟨h1.e.symm, ?_, h1.s⟩
    simp only
    rw [h1.e, h2]
theorem crash_q (S : DS) (ps : List Int) : Quiet (S.crash ps) := ⟨rfl, rfl⟩
/-- what is behind the sure bytes -/
theorem crash_behind (ps : List Int) (i : Nat) (a y : List UInt8) : ∃ j, j ≤ y.length ∧ crashF ps i ⟨a ++ y, a.length⟩ = fullF (a ++ y.take j) := by
  obtain ⟨j, hj, hk⟩ : ∃ j, j ≤ y.length ∧ keepN ps i ⟨a ++ y, a.length⟩ = a.length + j := by
    unfold keepN
    simp only [List.length_append]
    exact ⟨_, by omega, rfl⟩
  refine ⟨j, hj, ?_⟩
  unfold crashF fullF
  rw [hk]
  have e : (a ++ y).take (a.length + j) = a ++ y.take j := by rw [List.take_append, List.take_of_length_le (by omega)]; simp
  rw [e, List.length_append, List.length_take, Nat.min_eq_left hj]
theorem append_pre (hs : nameOk s) (hf : tfind S.t s = some f) (hsame : tset S.t s f = S.t) : ∃ j, j ≤ b.length ∧ (S.append s b).2.t = tset S.t s ⟨f.b ++ b.take j, f.sure⟩ := by
  have h0 : tset S.t s ⟨f.b ++ b.take 0, f.sure⟩ = S.t := by rw [List.take_zero, List.append_nil]; exact hsame
  have hp : ∀ (K : Dk) (i : Nat), i ≤ b.length → ∃ j, j ≤ b.length ∧ (DS.put ⟨K, S.t⟩ s f (b.take i)).2.t = tset S.t s ⟨f.b ++ b.take j, f.sure⟩ := fun K i hi => by
    unfold DS.put
    split
    · exact ⟨0, Nat.zero_le _, h0.symm⟩
    · exact ⟨i, hi, rfl⟩
  unfold DS.append
  split
  · split
    · rw [hf]
      exact hp S.k.call.2 (b.length / 2) (by omega)
    · exact ⟨0, Nat.zero_le _, h0.symm⟩
  · try rw [if_neg (not_not_intro hs)]
    rw [hf]
    have := hp S.k.call.2 b.length (Nat.le_refl _)
    rwa [List.take_length] at this
end
/-! ### what a cut log says -/
theorem cut_at (f : Nat → Nat) (K : Nat) : ∀ (d m0 : Nat), f m0 ≤ K → ∃ m, m0 ≤ m ∧ m ≤ m0 + d ∧ f m ≤ K ∧ (m = m0 + d ∨ K < f (m + 1))
  | 0, m0, h => ⟨m0, Nat.le_refl _, Nat.le_refl _, h, .inl rfl⟩
  | d + 1, m0, h => by
    by_cases h1 : f (m0 + 1) ≤ K
    · obtain ⟨m, h2, h3, h4, h5⟩ := cut_at f K d (m0 + 1) h1
      exact ⟨m, by omega, by omega, h4, by omega⟩
    · exact ⟨m0, Nat.le_refl _, by omega, h, .inr (by omega)⟩
theorem says_rest {bs : List (List UInt8)} {k : Kp} {u : List UInt8} (h : Says bs k) (hu : Frame.first u = none) : readW (Frame.laid bs ++ u) = some k := by
  unfold readW
  rw [(Frame.bodies_laid h.ok hu).1, if_neg h.ne, h.says]
theorem recB_good (kind : UInt8) (x y : Int) : 1 ≤ (recB kind [x, y]).length ∧ (recB kind [x, y]).length ≤ 2000 := by
  have := recB_len kind [x, y]
  simp only [List.length_cons, List.length_nil] at this
  omega
theorem entBs_good : ∀ (l : List En) (i : Int), (∀ e ∈ l, e.data.length ≤ 1000) → Frame.Good (entBs i l)
  | [], i, _, b, hb => by simp [entBs] at hb
  | e :: r, i, hd, b, hb => by
    unfold entBs at hb
    rcases List.mem_cons.1 hb with rfl | hb
    · have := entB_len i e
      have := hd e (by simp)
      omega
    · exact entBs_good r (i + 1) (fun x hx => hd x (List.mem_cons_of_mem _ hx)) b hb
theorem good_app {x y : List (List UInt8)} (h1 : Frame.Good x) (h2 : Frame.Good y) : Frame.Good (x ++ y) := fun b hb => by
  rcases List.mem_append.1 hb with hb | hb
  · exact h1 b hb
  · exact h2 b hb
theorem saveBs_good {set : Bool} {t v fr : Int} {l : List En} (hd : ∀ e ∈ l, e.data.length ≤ 1000) : Frame.Good (saveBs set t v fr l) := by
  unfold saveBs
  refine good_app (fun b hb => ?_) (fun b hb => ?_)
  · split at hb
    · obtain rfl : b = _ := by simpa using hb
      exact recB_good _ _ _
    · cases hb
  · split at hb
    · exact entBs_good l fr hd b hb
    · cases hb
theorem waBs_good {k : Kp} (hd : ∀ e ∈ k.es, e.data.length ≤ 1000) : Frame.Good (waBs k) := fun b hb => by
  unfold waBs at hb
  rcases List.mem_cons.1 hb with rfl | hb
  · exact recB_good _ _ _
  · rcases List.mem_cons.1 hb with rfl | hb
    · exact recB_good _ _ _
    · exact entBs_good k.es _ hd b hb
theorem saveBs_take {t v fr : Int} {l : List En} (hf : 0 < fr) (c : Nat) : (saveBs true t v fr l).take (c + 1) = saveBs true t v fr (l.take c) := by
  unfold saveBs
  rw [if_pos rfl, if_pos hf, if_pos hf, List.singleton_append, List.take_succ_cons, entBs_take]
  rfl
theorem saveBs_len {t v fr : Int} {l : List En} (hf : 0 < fr) : (saveBs true t v fr l).length = l.length + 1 := by
  unfold saveBs
  rw [if_pos rfl, if_pos hf, List.singleton_append, List.length_cons, entBs_len]
/-- a log with a part of what was saved behind it -/
theorem part_read {bs : List (List UInt8)} {k : Kp} {t v fr : Int} {l : List En} (hS : Says bs k) (hg : Frame.Good bs) (ht : inR t 1099511627776 ∧ inR v 7) (hf : 0 < fr ∧ k.base < fr ∧ fr ≤ k.base + k.es.length + 1) (hm : ∀ e ∈ l, mayE e) (hd : ∀ e ∈ l, e.data.length ≤ 1000)
    (hl : k.es.length + l.length ≤ 1000000) (j : Nat) :
    readW (Frame.laid bs ++ (Frame.laid (saveBs true t v fr l)).take j) = some k ∨ ∃ c, c ≤ l.length ∧ readW (Frame.laid bs ++ (Frame.laid (saveBs true t v fr l)).take j) = some (afterS k true t v fr (l.take c)) := by
  obtain ⟨hf0, hf1⟩ := hf
  have e0 : Frame.laid bs ++ (Frame.laid (saveBs true t v fr l)).take j = (Frame.laid (bs ++ saveBs true t v fr l)).take ((Frame.laid bs).length + j) := by
    rw [Frame.laid_append, List.take_append, List.take_of_length_le (l := Frame.laid bs) (by omega), Nat.add_sub_cancel_left]
  have hsl := saveBs_len (t := t) (v := v) (l := l) hf0
  obtain ⟨m, m1, m2, m3, m4⟩ := cut_at (fun m => (Frame.laid ((bs ++ saveBs true t v fr l).take m)).length) ((Frame.laid bs).length + j) (l.length + 1) bs.length (by
    show (Frame.laid ((bs ++ saveBs true t v fr l).take bs.length)).length ≤ _
    rw [List.take_append, List.take_of_length_le (l := bs) (Nat.le_refl _), Nat.sub_self, List.take_zero, List.append_nil]
    omega)
  obtain ⟨u, e1, hu⟩ := Frame.laid_cut (bs := bs ++ saveBs true t v fr l) (n := m) (k := (Frame.laid bs).length + j) (good_app hg (saveBs_good hd)) (by rw [List.length_append, hsl]; omega) m3 (by
    rcases m4 with m4 | m4
    · left; rw [List.length_append, hsl]; omega
    · exact .inr m4)
  rw [e0, e1]
  have e2 : (bs ++ saveBs true t v fr l).take m = bs ++ (saveBs true t v fr l).take (m - bs.length) := by rw [List.take_append, List.take_of_length_le (by omega)]
  rw [e2]
  obtain ⟨q, hq⟩ : ∃ q, m - bs.length = q := ⟨_, rfl⟩
  rw [hq]
  cases q with
  | zero =>
    left
    rw [List.take_zero, List.append_nil]
    exact says_rest hS hu
  | succ c =>
    right
    refine ⟨c, by omega, ?_⟩
    rw [saveBs_take hf0]
    exact says_rest (hS.save (set := true) (fun _ => ht) (fun _ => hf1) (fun e he => hm e (List.mem_of_mem_take he)) (by rw [List.length_take]; omega)) hu
end Go.Proofs.Ytebeidnmplnlpaa
end

section
set_option maxRecDepth 10000
namespace Go.Proofs.Ytebeidnmplnlpaa
set_option linter.unusedVariables false
open Go.RowKit

/-- a disk whose power will go -/
abbrev kp (r c n : Int) : Dk := ⟨r, c, true, 19, n, false⟩
theorem kp_go {r c n : Int} (h : 0 < n) : (kp r c n).call = (0, kp r (c + 1) (n - 1)) := by
  unfold Dk.call
  simp [h]
theorem kp_fire {r c n : Int} (h : ¬ 0 < n) : (kp r c n).call = (19, ⟨r, c + 1, false, 19, n, true⟩) := by
  unfold Dk.call
  simp [h]
theorem fire_ne {K : Dk} : ((19 : Int), K).1 ≠ 0 := by simp
theorem DS.append_k {S : DS} {s b : List UInt8} : (S.append s b).2.k = S.k.call.2 := by
  have hp : ∀ (K : Dk) (T : PT) (f : Fl) (x : List UInt8), (DS.put ⟨K, T⟩ s f x).2.k = K := fun K T f x => by
    unfold DS.put
    split <;> rfl
  unfold DS.append
  split
  · split
    · cases tfind S.t s with
      | none => rfl
      | some f => exact hp _ _ _ _
    · rfl
  · split
    · rfl
    · cases tfind S.t s with
      | none => rfl
      | some f => exact hp _ _ _ _
theorem DS.sync_k {S : DS} {s : List UInt8} : (S.sync s).2.k = S.k.call.2 := by
  unfold DS.sync
  split
  · rfl
  · split
    · rfl
    · cases tfind S.t s with
      | none => rfl
      | some f => rfl
theorem tset_one (nm : List UInt8) (f g : Fl) : tset [(nm, f)] nm g = [(nm, g)] := by rw [tset_cons, if_neg (List.lt_irrefl _), if_pos rfl]
theorem tfind_one (nm : List UInt8) (f : Fl) : tfind [(nm, f)] nm = some f := by unfold tfind; rw [if_pos rfl]
/-- a saving that the power ends, and the crash -/
theorem power_save {c n : Int} {L : List UInt8} {base last : Int} {t v fr : Int} {es : List En} (h0 : 0 ≤ n) (hb : ¬ wsBad ⟨1, base, last⟩ true t v fr) (hm : ∀ e ∈ es, mayE e) (hr : (L.length : Int) + (wsB true t v fr es).length ≤ 1048576) (ps : List Int) :
    ∀ R, DS.wsave ⟨kp 1048576 c n, [(wName 1, fullF L)]⟩ ⟨1, base, last⟩ true t v fr es = R → (R.1.1 = 0 ↔ 2 ≤ n) ∧ (R.1.2.crash ps).k.room = 1048576 ∧ (R.1.2.crash ps).k.calls ≤ c + 2 ∧
      ∃ j, (2 ≤ n → j = (wsB true t v fr es).length) ∧ (R.1.2.crash ps).t = [(wName 1, fullF (L ++ (wsB true t v fr es).take j))] := by
  intro R hR
  have hnm : nameOk (wName 1) := wName_nm (n := 1) (by decide) (by decide)
  have hne : wsB true t v fr es ≠ [] := by
    unfold wsB wsSet
    rw [if_pos rfl]
    have := Frame.put_pos (recB 1 [t, v])
    intro e
    have h5 := congrArg List.length e
    simp only [List.length_append, List.length_nil] at h5
    omega
  obtain ⟨x, hx⟩ : ∃ x, wsB true t v fr es = x := ⟨_, rfl⟩
  unfold DS.wsave at hR
  rw [if_neg (fun h => by
    rcases h with h | h
    · exact hb h
    · exact h.2 hm), if_neg hne, hx] at hR
  rw [hx] at hr ⊢
  have h1 : R.1 = DS.wapp ⟨kp 1048576 c n, [(wName 1, fullF L)]⟩ (wName 1) x := by rw [← hR]
  obtain ⟨Q, hQ⟩ : ∃ Q, R.1 = Q := ⟨_, rfl⟩
  rw [hQ] at h1 ⊢
  clear hQ hR R
  obtain ⟨S0, hS0⟩ : ∃ S0 : DS, S0 = ⟨kp 1048576 c n, [(wName 1, fullF L)]⟩ := ⟨_, rfl⟩
  rw [← hS0] at h1
  have hk0 : S0.k = kp 1048576 c n := by rw [hS0]
  have ht0 : S0.t = [(wName 1, fullF L)] := by rw [hS0]
  clear hS0
  obtain ⟨j, hj, hjt⟩ := append_pre (S := S0) (s := wName 1) (b := x) (f := fullF L) hnm (by rw [ht0]; exact tfind_one _ _) (by rw [ht0]; exact tset_one _ _ _)
  rw [ht0, tset_one] at hjt
  have hak := DS.append_k (S := S0) (s := wName 1) (b := x)
  have hsk := DS.sync_k (S := (S0.append (wName 1) x).2) (s := wName 1)
  have cr : ∀ (X : DS) (y : List UInt8), X.t = [(wName 1, ⟨L ++ y, L.length⟩)] → ∃ j', j' ≤ y.length ∧ (X.crash ps).t = [(wName 1, fullF (L ++ y.take j'))] := fun X y hX => by
    obtain ⟨j', h3, h4⟩ := crash_behind ps 0 L y
    refine ⟨j', h3, ?_⟩
    show crashT ps 0 X.t = _
    rw [hX]
    show [(wName 1, crashF ps 0 ⟨L ++ y, L.length⟩)] = _
    rw [h4]
  unfold DS.wapp at h1
  by_cases n0 : 0 < n
  case neg =>
    have hc := kp_fire (r := 1048576) (c := c) n0
    rw [← hk0] at hc
    have e1 : (S0.append (wName 1) x).1 = 19 := by unfold DS.append; rw [if_pos (by rw [hc]; exact fire_ne), hc]
    rw [andT_no (by rw [e1]; decide)] at h1
    rw [hc] at hak
    obtain ⟨j', h3, h4⟩ := cr _ _ hjt
    rw [h1]
    refine ⟨⟨fun h => (by rw [e1] at h; cases h), fun h => by omega⟩, ?_, ?_, min j' j, fun h => by omega, by rw [h4, List.take_take]⟩
    · show (S0.append (wName 1) x).2.k.crash.room = _
      rw [hak]; rfl
    · show (S0.append (wName 1) x).2.k.crash.calls ≤ _
      rw [hak]; show c + 1 ≤ c + 2; omega
  have hc := kp_go (r := 1048576) (c := c) n0
  rw [← hk0] at hc
  have e1 : S0.append (wName 1) x = (0, ⟨kp 1048576 (c + 1) (n - 1), [(wName 1, ⟨L ++ x, L.length⟩)]⟩) := by
    unfold DS.append
    rw [hc, if_neg (by simp), if_neg (not_not_intro hnm), ht0, tfind_one]
    simp only
    unfold DS.put
    rw [if_neg (by simp only [used, fullF]; omega), tset_one]
    rfl
  rw [e1, andT_ok rfl] at h1
  simp only at h1
  by_cases n1 : 0 < n - 1
  case neg =>
    have e2 : DS.sync ⟨kp 1048576 (c + 1) (n - 1), [(wName 1, ⟨L ++ x, L.length⟩)]⟩ (wName 1) = (19, ⟨⟨1048576, c + 1 + 1, false, 19, n - 1, true⟩, [(wName 1, ⟨L ++ x, L.length⟩)]⟩) := by
      unfold DS.sync
      rw [kp_fire n1, if_pos fire_ne]
    rw [e2] at h1
    obtain ⟨j', h3, h4⟩ := cr ⟨⟨1048576, c + 1 + 1, false, 19, n - 1, true⟩, [(wName 1, ⟨L ++ x, L.length⟩)]⟩ x rfl
    rw [h1]
    exact ⟨⟨fun h => (by cases h), fun h => by omega⟩, rfl, by show c + 1 + 1 ≤ c + 2; omega, j', fun h => by omega, h4⟩
  have e2 : DS.sync ⟨kp 1048576 (c + 1) (n - 1), [(wName 1, ⟨L ++ x, L.length⟩)]⟩ (wName 1) = (0, ⟨kp 1048576 (c + 1 + 1) (n - 1 - 1), [(wName 1, fullF (L ++ x))]⟩) := by
    unfold DS.sync
    rw [kp_go n1, if_neg (by simp), if_neg (not_not_intro hnm), tfind_one]
    simp only
    rw [tset_one]
    rfl
  rw [e2] at h1
  rw [h1]
  refine ⟨⟨fun _ => by omega, fun _ => rfl⟩, rfl, by show c + 1 + 1 ≤ c + 2; omega, x.length, fun _ => rfl, ?_⟩
  rw [List.take_length]
  show [(wName 1, crashF ps 0 (fullF (L ++ x)))] = _
  rw [crash_full]
/-- behind a crash a log of one file is opened -/
theorem open_quiet {S : DS} {f : Fl} {k : Kp} (hq : Quiet S) (hr0 : S.k.room = 1048576) (ht : S.t = [(wName 1, f)]) (hr : readW f.b = some k) (hk : mayK k) (hl : k.es.length ≤ 1000000) (hroom : (f.b.length : Int) + ((waB k).length : Int) ≤ 1048576) :
    S.wopen.1.1 = 0 ∧ ∃ wl, S.wopen.2 = some (wl, k) ∧ S.wopen.1.2.t.length = 1 := by
  obtain ⟨c', n', bs, b1, b2, b3, b4, b5, b6, b7⟩ := open_file (r := 1048576) (c := S.k.calls) (n := 1) (f := f) (by decide) (by decide) hr hk hl hroom
  have e : nrm S = ⟨k0 1048576 S.k.calls, [(wName 1, f)]⟩ := by unfold nrm; rw [hr0, ht]
  have e2 : (nrm S).wopen = ((0, lgS 1048576 c' n' bs), some (⟨n', k.base, k.base + k.es.length⟩, k)) := by rw [e]; exact b7
  obtain ⟨h1, h2, h3⟩ := wopen_sim hq e2
  refine ⟨h1, _, h2, ?_⟩
  have h4 := congrArg DS.t h3
  have h5 : (lgS 1048576 c' n' bs).t.length = 1 := rfl
  simp only at h4
  rw [h4] at h5
  exact h5
theorem afterS_es {k : Kp} {t v fr : Int} {l : List En} (hf : 0 < fr) : (afterS k true t v fr l) = ⟨t, v, k.base, k.bterm, if 0 < l.length then k.es.take (fr - k.base - 1).toNat ++ l else k.es⟩ := by
  unfold afterS
  simp only [if_true]
  by_cases h : 0 < l.length
  · rw [if_pos ⟨hf, h⟩, if_pos h]
  · rw [if_neg (fun e => h e.2), if_neg h]
theorem inr' {a m : Int} (h : 0 ≤ a) (h2 : a ≤ m) : inR a m := ⟨h, h2⟩
theorem keeps_open {c n : Int} {bs : List (List UInt8)} {a b : List En} {k : Nat} (h0 : 0 ≤ n) (hS : Says bs ⟨10, 1, 0, 0, a⟩) (hg : Frame.Good bs) (hbl : (Frame.laid bs).length ≤ 10000) (ha : ∀ e ∈ a, mayE e) (ha2 : ∀ e ∈ a, e.data.length ≤ 10) (hal : a.length ≤ 15)
    (hb : ∀ e ∈ b, mayE e) (hb2 : ∀ e ∈ b, e.data.length ≤ 10) (hbn : b.length ≤ 10) (hk : k ≤ a.length) (ps : List Int) :
    ∀ R, DS.wsave ⟨kp 1048576 c n, [(wName 1, fullF (Frame.laid bs))]⟩ ⟨1, 0, a.length⟩ true 11 2 (1 + (k : Int)) b = R → (R.1.1 = 0 ↔ 2 ≤ n) ∧ (R.1.2.crash ps).k.calls ≤ c + 2 ∧ (R.1.2.crash ps).wopen.1.1 = 0 ∧
      ∃ wl K, (R.1.2.crash ps).wopen.2 = some (wl, K) ∧ ((R.1.1 ≠ 0 ∧ K = ⟨10, 1, 0, 0, a⟩) ∨ ∃ q, q ≤ b.length ∧ (R.1.1 = 0 → q = b.length) ∧ K = ⟨11, 2, 0, 0, if 0 < q then a.take k ++ b.take q else a⟩) := by
  intro R hR
  have hf : 0 < 1 + (k : Int) ∧ (⟨10, 1, 0, 0, a⟩ : Kp).base < 1 + (k : Int) ∧ 1 + (k : Int) ≤ (⟨10, 1, 0, 0, a⟩ : Kp).base + (⟨10, 1, 0, 0, a⟩ : Kp).es.length + 1 := ⟨by omega, by simp only; omega, by simp only; omega⟩
  have hw := wsB_few (m := 10) (set := true) (term := 11) (vote := 2) (fr := 1 + (k : Int)) hb2
  have hbad : ¬ wsBad ⟨1, 0, a.length⟩ true 11 2 (1 + (k : Int)) := fun h => by
    rcases h with ⟨_, h⟩ | ⟨_, h⟩
    · exact h ⟨⟨by decide, by decide⟩, ⟨by decide, by decide⟩⟩
    · simp only at h
      omega
  obtain ⟨p1, p2, p3, j, p4, p5⟩ := power_save (c := c) (L := Frame.laid bs) h0 hbad hb (by omega) ps R hR
  have hin : inR (11 : Int) 1099511627776 ∧ inR (2 : Int) 7 := ⟨⟨by decide, by decide⟩, ⟨by decide, by decide⟩⟩
  have hlen : (Frame.laid bs ++ (wsB true 11 2 (1 + (k : Int)) b).take j).length ≤ 20000 := by
    rw [List.length_append, List.length_take]
    omega
  have mk : ∀ K : Kp, readW (Frame.laid bs ++ (wsB true 11 2 (1 + (k : Int)) b).take j) = some K → (∀ e ∈ K.es, mayE e) → (∀ e ∈ K.es, e.data.length ≤ 10) → K.es.length ≤ 100 → K.base = 0 → K.bterm = 0 → inR K.term 1099511627776 → inR K.vote 7 →
      (R.1.2.crash ps).wopen.1.1 = 0 ∧ ∃ wl, (R.1.2.crash ps).wopen.2 = some (wl, K) := fun K hr k1 k2 k3 k4 k5 k6 k7 => by
    have h1 := waB_len (k := K) k1
    have h2 := written_few (m := 10) k2 (K.base + 1)
    obtain ⟨g1, wl, g2, _⟩ := open_quiet (S := R.1.2.crash ps) (crash_q _ _) p2 p5 (k := K) hr ⟨k1, by rw [k4]; exact ⟨by decide, by decide⟩, by rw [k5]; exact ⟨by decide, by decide⟩, k6, k7⟩ (by omega) (by simp only [fullF]; omega)
    exact ⟨g1, wl, g2⟩
  refine ⟨p1, p3, ?_⟩
  have full : R.1.1 = 0 → readW (Frame.laid bs ++ (wsB true 11 2 (1 + (k : Int)) b).take j) = some (afterS ⟨10, 1, 0, 0, a⟩ true 11 2 (1 + (k : Int)) b) := fun h => by
    rw [p4 (p1.1 h), List.take_length, wsB_laid, ← Frame.laid_append]
    exact ((hS.save (set := true) (fun _ => hin) (fun _ => hf.2) hb (by simp only; omega)).read).1
  have aft : ∀ q, q ≤ b.length → readW (Frame.laid bs ++ (wsB true 11 2 (1 + (k : Int)) b).take j) = some (afterS ⟨10, 1, 0, 0, a⟩ true 11 2 (1 + (k : Int)) (b.take q)) →
      (R.1.2.crash ps).wopen.1.1 = 0 ∧ ∃ wl, (R.1.2.crash ps).wopen.2 = some (wl, ⟨11, 2, 0, 0, if 0 < q then a.take k ++ b.take q else a⟩) := fun q hq hr => by
    rw [afterS_es hf.1] at hr
    have e1 : (b.take q).length = q := by rw [List.length_take]; omega
    simp only at hr
    rw [e1, show (1 + (k : Int) - 0 - 1).toNat = k by omega] at hr
    refine mk _ hr ?_ ?_ ?_ rfl rfl (show inR (11 : Int) 1099511627776 from inr' (by decide) (by decide)) (show inR (2 : Int) 7 from inr' (by decide) (by decide))
    · simp only
      intro e he
      split at he
      · rcases List.mem_append.1 he with he | he
        · exact ha e (List.mem_of_mem_take he)
        · exact hb e (List.mem_of_mem_take he)
      · exact ha e he
    · simp only
      intro e he
      split at he
      · rcases List.mem_append.1 he with he | he
        · exact ha2 e (List.mem_of_mem_take he)
        · exact hb2 e (List.mem_of_mem_take he)
      · exact ha2 e he
    · simp only
      split
      · rw [List.length_append, List.length_take, List.length_take]; omega
      · omega
  by_cases h : R.1.1 = 0
  · have hr := full h
    have hr' : readW (Frame.laid bs ++ (wsB true 11 2 (1 + (k : Int)) b).take j) = some (afterS ⟨10, 1, 0, 0, a⟩ true 11 2 (1 + (k : Int)) (b.take b.length)) := by rw [List.take_length]; exact hr
    obtain ⟨g1, wl, g2⟩ := aft b.length (Nat.le_refl _) hr'
    exact ⟨g1, wl, _, g2, .inr ⟨b.length, Nat.le_refl _, fun _ => rfl, rfl⟩⟩
  · have := part_read hS hg hin hf hb (fun e he => Nat.le_trans (hb2 e he) (by decide)) (by simp only; omega) j
    rw [← wsB_laid] at this
    rcases this with hr | ⟨q, hq, hr⟩
    · obtain ⟨g1, wl, g2⟩ := mk _ hr ha ha2 (by simp only; omega) rfl rfl (show inR (10 : Int) 1099511627776 from inr' (by decide) (by decide)) (show inR (1 : Int) 7 from inr' (by decide) (by decide))
      exact ⟨g1, wl, _, g2, .inl ⟨h, rfl⟩⟩
    · obtain ⟨g1, wl, g2⟩ := aft q hq hr
      exact ⟨g1, wl, _, g2, .inr ⟨q, hq, fun e => absurd e h, rfl⟩⟩
/-! ### WalAnew -/
end Go.Proofs.Ytebeidnmplnlpaa
end

section
set_option maxRecDepth 10000
namespace Go.Proofs.Ytebeidnmplnlpaa
set_option linter.unusedVariables false
open Go.RowKit

theorem bv2 {i j : Nat} (hi : i < 256) (hj : j < 256) : bv [UInt8.ofNat i, UInt8.ofNat j] = [.int .u8 (i : Int), .int .u8 (j : Int)] := by
  unfold bv
  simp only [List.map_cons, List.map_nil, UInt8.toNat_ofNat']
  rw [Nat.mod_eq_of_lt (by omega), Nat.mod_eq_of_lt (by omega)]
end Go.Proofs.Ytebeidnmplnlpaa
end

section
set_option maxRecDepth 10000
namespace Go.Proofs.Ytebeidnmplnlpaa
set_option linter.unusedVariables false
open Go.RowKit

def aE (ts : List Int) (i : Nat) : En := ⟨1 + ts.getD i 0 % 9, decide (((i : Int) % 2) = 0), [UInt8.ofNat i]⟩
def aK (ts : List Int) (n : Nat) : List En := (List.range n).map (aE ts)
theorem aK_succ (ts : List Int) (n : Nat) : aK ts (n + 1) = aK ts n ++ [aE ts n] := by unfold aK; rw [List.range_succ, List.map_append]; rfl
theorem aK_len (ts : List Int) (n : Nat) : (aK ts n).length = n := by unfold aK; simp
theorem aK_all {ts : List Int} {n : Nat} : ∀ e ∈ aK ts n, mayE e ∧ e.data.length ≤ 10 ∧ e.term ≤ 9 := fun e he => by
  unfold aK at he
  obtain ⟨j, _, rfl⟩ := List.mem_map.1 he
  have h0 := Int.emod_nonneg (ts.getD j 0) (show (9 : Int) ≠ 0 by decide)
  have h1 := Int.emod_lt_of_pos (ts.getD j 0) (show (0 : Int) < 9 by decide)
  exact ⟨⟨by show (1 : Int) ≤ 1 + ts.getD j 0 % 9; omega, by show (1 : Int) + ts.getD j 0 % 9 ≤ _; omega, by show 1 ≤ 1048476; decide⟩, by show 1 ≤ 10; decide, by show (1 : Int) + ts.getD j 0 % 9 ≤ 9; omega⟩
def bE (ls : List Int) (i : Nat) : En := ⟨11, false, [UInt8.ofNat (ls.getD i 0 % 256).toNat, UInt8.ofNat i]⟩
def bK (ls : List Int) (n : Nat) : List En := (List.range n).map (bE ls)
theorem bK_succ (ls : List Int) (n : Nat) : bK ls (n + 1) = bK ls n ++ [bE ls n] := by unfold bK; rw [List.range_succ, List.map_append]; rfl
theorem bK_len (ls : List Int) (n : Nat) : (bK ls n).length = n := by unfold bK; simp
theorem bK_all {ls : List Int} {n : Nat} : ∀ e ∈ bK ls n, mayE e ∧ e.data.length ≤ 10 ∧ e.term = 11 := fun e he => by
  unfold bK at he
  obtain ⟨j, _, rfl⟩ := List.mem_map.1 he
  exact ⟨⟨by show (1 : Int) ≤ 11; decide, by show (11 : Int) ≤ 1099511627776; decide, by show 2 ≤ 1048476; decide⟩, by show 2 ≤ 10; decide, rfl⟩
theorem u8_wrap (z : Int) : IntKind.u8.wrap z = z % 256 := by
  unfold IntKind.wrap
  simp [IntKind.signed, IntKind.bits]
theorem bv1' {i : Nat} (hi : i < 256) : bv [UInt8.ofNat i] = [.int .u8 (i : Int)] := by
  unfold bv
  simp only [List.map_cons, List.map_nil, UInt8.toNat_ofNat']
  rw [Nat.mod_eq_of_lt (by omega)]
theorem bE_bv {z : Int} {i : Nat} (hi : i < 256) : bv [UInt8.ofNat (z % 256).toNat, UInt8.ofNat i] = [.int .u8 (z % 256), .int .u8 (i : Int)] := by
  have h0 := Int.emod_nonneg z (show (256 : Int) ≠ 0 by decide)
  have h1 := Int.emod_lt_of_pos z (show (0 : Int) < 256 by decide)
  have e : ((z % 256).toNat : Int) = z % 256 := by omega
  rw [bv2 (by omega) hi, e]
/-- what stands behind the first saving -/
theorem keeps_first {a : List En} (ha : ∀ e ∈ a, mayE e ∧ e.data.length ≤ 10 ∧ e.term ≤ 9) (hl : a.length ≤ 15) {fr : Int} (hf : (fr = 1 ∧ a ≠ []) ∨ (fr = 0 ∧ a = [])) :
    ∃ bs, DS.wsave (lgS 1048576 4 1 (waBs Kp.zero)) ⟨1, 0, 0⟩ true 10 1 fr a = ((0, lgS 1048576 6 1 bs), ⟨1, 0, a.length⟩) ∧ Says bs ⟨10, 1, 0, 0, a⟩ ∧ Frame.Good bs ∧ (Frame.laid bs).length ≤ 10000 := by
  have hz := zero_len
  rw [waB_laid] at hz
  obtain ⟨a1, a2, a3⟩ := save_says (r := 1048576) (c := 4) (n := 1) (m := 10) (set := true) (term := 10) (vote := 1) (fr := fr) (es := a) (by decide) (by decide) says_zero (fun _ => ⟨inr' (by decide) (by decide), inr' (by decide) (by decide)⟩)
    (fun h => ⟨by show (0 : Int) < fr; omega, by show fr ≤ 0 + ((0 : Nat) : Int) + 1; omega⟩) (fun e he => (ha e he).1) (by show 0 + a.length ≤ 1000000; omega) (fun e he => (ha e he).2.1) (.inl rfl) (by omega)
  have eA : afterS Kp.zero true 10 1 fr a = ⟨10, 1, 0, 0, a⟩ := by
    unfold afterS Kp.zero
    simp only [if_true, List.take_nil, List.nil_append]
    rcases hf with ⟨h1, h2⟩ | ⟨h1, h2⟩
    · rw [if_pos ⟨by omega, List.length_pos_iff.2 h2⟩]
    · rw [if_neg (by omega), h2]
  rw [eA] at a1 a2
  refine ⟨_, ?_, a2, good_app (waBs_good (by simp [Kp.zero])) (saveBs_good (fun e he => Nat.le_trans (ha e he).2.1 (by decide))), by omega⟩
  have e1 : (⟨1, Kp.zero.base, Kp.zero.base + (Kp.zero.es.length : Nat)⟩ : WlS) = ⟨1, 0, 0⟩ := rfl
  have e2 : (Kp.zero.base + (a.length : Int)) = (a.length : Int) := by show (0 : Int) + _ = _; omega
  simp only at a1
  rw [e2] at a1
  exact a1
/-- a new entry is never an old one -/
theorem keeps_new {a b : List En} (ha : ∀ e ∈ a, e.term ≤ 9) (hb : ∀ e ∈ b, e.term = 11) {k q : Nat} (hk : k ≤ a.length) (h0 : 0 < q) (hq : q ≤ b.length) : a.take k ++ b.take q ≠ a := fun e => by
  obtain ⟨x, hx⟩ : ∃ x, b[0]? = some x := ⟨_, List.getElem?_eq_getElem (by omega)⟩
  have h1 : (a.take k ++ b.take q)[k]? = some x := by
    rw [List.getElem?_append_right (by rw [List.length_take]; omega), List.length_take, Nat.min_eq_left hk, Nat.sub_self, List.getElem?_take, if_pos h0, hx]
  rw [e] at h1
  have h2 := ha x (List.mem_of_getElem? h1)
  have h3 := hb x (List.mem_of_getElem? hx)
  omega
end Go.Proofs.Ytebeidnmplnlpaa
end
