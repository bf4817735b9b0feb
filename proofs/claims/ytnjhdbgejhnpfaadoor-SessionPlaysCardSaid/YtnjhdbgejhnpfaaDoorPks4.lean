/- Texts joined: RtN, VX, RtO, RtP. No condition. -/
import Derived.Test.YtnjhdbgejhnpfaaDoorPks3
import Derived.Test.YtnjhdbgejhnpfaaDoorPks0
section
set_option maxRecDepth 10000
namespace Go.Proofs.YtnjhdbgejhnpfaaDoor
set_option linter.unusedVariables false
open Go.RowKit

/-- a table in a footprint that ends -/
structure Tb (W : World) (U : Foot) (d c : Nat) (S : SS) : Prop where
  t : Tbl W U d c S
  lt : ∀ j, U j → j < W.heap.size
section
variable {W W' W0 : World} {U V U' V' : Foot} {d c c' r g B : Nat} {S S' : SS}
theorem Tb.apart (h : Tb W U d c S) (hs : Step W V W' V') (hn : ∀ j, U j → ¬ V j) : Tb W' U d c S ∧ ∀ j, U j → ¬ V' j :=
  ⟨⟨h.t.stay (fun j hj hu => hs.out.block j hj (hn j hu)), fun j hj => Nat.lt_of_lt_of_le (h.lt j hj) hs.size⟩, fun j hj hv => by
    rcases hs.sub j hv with h' | h'
    · exact hn j hj h'
    · have := h.lt j hj; omega⟩
theorem Tb.below (h : Tb W U d c S) (hb : Below W.heap.size W W') : Tb W' U d c S :=
  ⟨h.t.below hb (Nat.le_refl _), fun j hj => Nat.lt_of_lt_of_le (h.lt j hj) hb.size⟩
theorem Tb.op (h : Tb W U d c S) (h1 : Tbl W' U d c' S') (ho : Out U W W') : Tb W' U d c' S' ∧ Step W U W' U :=
  ⟨⟨h1, fun j hj => Nat.lt_of_lt_of_le (h.lt j hj) ho.size⟩, ho, fun j hj => .inl hj⟩
theorem Tb.grow (h : Tb W U d c S) (hc : c ≤ c') : Tb W U d c' S := ⟨h.t.grow hc, h.lt⟩
/-- .. and what is new is its own -/
theorem Tb.clip (h : Tb W U d c S) (h1 : Tbl W' (fun j => U j ∨ W.heap.size ≤ j) d c' S') (ho : Out (fun j => U j ∨ W.heap.size ≤ j) W W') : ∃ U', Tb W' U' d c' S' ∧ Step W U W' U' :=
  ⟨fun j => (U j ∨ W.heap.size ≤ j) ∧ j < W'.heap.size, ⟨h1.more (fun j hj hu => ⟨hu, hj⟩), fun j hj => hj.2⟩,
    ⟨⟨ho.os, ho.tape, ho.output, ho.size, fun j hj hu => ho.block j hj (fun e => by
      rcases e with e | e
      · exact hu e
      · omega)⟩, fun j hj => hj.1⟩⟩
/-- both tables, apart -/
def Both15 (W : World) (B d r c : Nat) (S : SS) : Prop := ∃ U V : Foot, Tb W U d c S ∧ Rt W V r S ∧ (∀ j, U j → B ≤ j) ∧ (∀ j, V j → B ≤ j) ∧ ∀ j, U j → ¬ V j
theorem Both15.below (h : Both15 W B d r c S) (hb : Below W.heap.size W W') : Both15 W' B d r c S := by
  obtain ⟨U, V, h1, h2, h3, h4, h5⟩ := h
  exact ⟨U, V, h1.below hb, h2.below hb, h3, h4, h5⟩
theorem Both15.grow (h : Both15 W B d r c S) (hc : c ≤ c') : Both15 W B d r c' S := by
  obtain ⟨U, V, h1, h2, h3, h4, h5⟩ := h
  exact ⟨U, V, h1.grow hc, h2, h3, h4, h5⟩
/-- one call at each -/
theorem Both15.two {X X1 : World} {T : Nat} {cs : Array Value} (hB : B ≤ X.heap.size) (hD : Tb X U d c S) (hR : Rt X V r S) (hU : ∀ j, U j → B ≤ j) (hV : ∀ j, V j → B ≤ j) (hn : ∀ j, U j → ¬ V j)
    (hx : Blk X g T cs) (gU : ¬ U g) (gV : ¬ V g) (h1 : Tb X1 U' d c' S') (st : Step X U X1 U') :
    Rt X1 V r S ∧ (∀ j, U' j → ¬ V j) ∧ Blk X1 g T cs ∧ Below B X X1 ∧ (∀ j, U' j → B ≤ j) ∧
      ∀ X2 V', Rt X2 V' r S' → Step X1 V X2 V' → Both15 X2 B d r c' S' ∧ Blk X2 g T cs ∧ Below B X X2 := by
  obtain ⟨r1, r2⟩ := hR.apart st (fun j hj hu => hn j hu hj)
  have n1 : ∀ j, U' j → ¬ V j := fun j hj hv => r2 j hv hj
  obtain ⟨b1, b2⟩ := st.blk hx gU
  have k1 := st.below hU hB
  have u1 := st.min hU hB
  have s1 := st.size
  refine ⟨r1, n1, b1, k1, u1, fun X2 V' hR2 st2 => ?_⟩
  obtain ⟨d1, d2⟩ := h1.apart st2 n1
  have k2 := st2.below hV (by omega : B ≤ X1.heap.size)
  exact ⟨⟨U', V', d1, hR2, u1, st2.min hV (by omega), d2⟩, (st2.blk b1 gV).1, k1.trans k2⟩
end
/-- a reader while blocks without bytes turn -/
theorem Reads.outC {w w' : World} {B n : Nat} {F : Foot} {A : Option Addr} {l : List UInt8} (h : Reads w B 1 A n (bv l)) (hB : B ≤ w.heap.size) (ho : Out F w w') (hf : ∀ j, F j → j < w.heap.size → ∃ T cs, Blk w j T cs ∧ cs.toList.all notU8 = true) : Reads w' B 1 A n (bv l) := by
  refine ⟨h.1, fun hn => ?_⟩
  obtain ⟨ad, e, hlt, hc⟩ := h.2 hn
  have hl := h.1
  rw [bv_length] at hl
  have hne : ¬ F ad.block := by
    intro hF
    obtain ⟨T, cs, hk, hcs⟩ := hf _ hF (by omega)
    obtain ⟨x, l', rfl⟩ : ∃ x l', l = x :: l' := by
      cases l with
      | nil => simp at hl; omega
      | cons x l' => exact ⟨x, l', rfl⟩
    have h0 := hc 0 (.int .u8 (x.toNat : Int)) (by simp [bv])
    rw [show ad.add 0 = ad from by simp [Addr.add]] at h0
    unfold World.cell? at h0
    unfold Blk at hk
    rw [hk] at h0
    simp only at h0
    split at h0
    · cases h0
    · have hm : (Value.int .u8 (x.toNat : Int)) ∈ cs.toList := by
        rw [← Array.getElem?_toList] at h0
        exact List.mem_of_getElem? h0
      have := List.all_eq_true.1 hcs _ hm
      cases this
  exact ⟨ad, e, hlt, fun j u hu => (World.cell?_of_block (ho.block _ (by rw [block_of_add]; omega) (by rw [block_of_add]; exact hne))).trans (hc j u hu)⟩
theorem RS.outC {T : TypeId} {w w' : World} {F : Foot} {g : Nat} {s : Option (List UInt8)} (h : RS T w g s) (ho : Out F w w') (hg : ¬ F g) (hf : ∀ j, F j → j < w.heap.size → ∃ T cs, Blk w j T cs ∧ cs.toList.all notU8 = true) : RS T w' g s := by
  have hlt := h.lt
  obtain ⟨l, p, bad, ⟨A, n, c, h1, h2, h3⟩, h4⟩ := h
  exact ⟨l, p, bad, ⟨A, n, c, (ho.block g h1.lt hg).trans h1, h2.outC (by omega) ho hf, h3⟩, h4⟩
/-! ### the laws' same -/
set_option maxHeartbeats 4000000 in
theorem same15_any (W : World) (B d r c : Nat) (S : SS) (h : Both15 W B d r c S) (hok : TOk S.t) :
    Calls Tryd.prog 8 #[.pointer (some ⟨d, 0, none⟩), .pointer (some ⟨r, 0, none⟩)] W fun e W' => e = .returned (.bool true) ∧ Below W.heap.size W W' := by
  obtain ⟨U, V, hD, hR, _, _, _⟩ := h
  have hRt := hR
  obtain ⟨hwf, hlt, A, cR, hat⟩ := hR
  have hfew := hwf.few
  have hmost := hwf.most
  have hnd := hwf.ris.nd
  refine calls_vc Tryd.func8 rfl (by kernel_rfl) ?_
  ((conv => whnf); (repeat ((first | (refine VL.cons ?_) | (refine VL.nil ?_) | (refine VC.seqS rfl ?_) | (refine VC.region ?_)); (conv => whnf))))
  ((repeat ((first | (refine VL.cons ?_) | (refine VL.nil ?_) | (refine VC.seqS rfl ?_) | (refine VC.region ?_) | (refine VC.block ?_) | (refine VC.seq ?_)); (conv => whnf))))
  refine VC.loop [5, 6] [(4, 69)] (fun q vs w => ∃ (i : Nat) (A2 : Option Addr) (c2 : Nat), vs = [.slice A2 i c2, .int .i64 (i : Int)] ∧ q = S.t.length - i ∧ i ≤ S.t.length ∧ w.ownsRow W.heap.size 3 1 (.slice A2 i c2) i (iv .i64 ((S.t.take i).map (·.1))) ∧ Below W.heap.size W w) (by kernel_rfl)
    ⟨_, 0, none, 0, rfl, rfl, Nat.zero_le _, World.ownsRow_nil W _ _ _, Below.refl _ _⟩ ?_
  rintro q τ vs w ⟨i, A2, c2, rfl, rfl, hi, hO, hBw⟩
  have hw : RtAt w V r A cR S := hat.stay (fun j hj _ => hBw.block j hj)
  have hbw := hw.blk
  have hs0 := hBw.size
  by_cases hil : i < S.t.length
  case neg =>
    obtain rfl : i = S.t.length := by omega
    rw [List.take_length] at hO
    ((conv => whnf); (repeat ((fail); (conv => whnf))))
    (repeat ((first | (refine VRead.loadB hbw rfl rfl ?_) | (refine VL.cons ?_) | (refine VL.nil ?_) | (refine VC.seqS rfl ?_) | (refine VC.region ?_) | (refine VC.draw ?_) | (refine VC.cond ?_) | (refine VC.exit ?_) | (refine VBool.dF (by omega) ?_) | (refine VRead.lenS ?_) | (refine VRead.fld ?_) | (refine VC.seq ?_)); (conv => whnf)))
    refine VDraw.segW (fun _ => True) [([0, 2], 1), ([], 3), ([4, 5, 8], 6), ([7], 9)] [10, 11, 12, 13] (by kernel_rfl) (by kernel_rfl) trivial ?_
    have hB1 : Below w.heap.size w (w.drewN 1) := below_drewN (Below.refl _ _) 1
    have hD1 := (hD.t.below hBw (Nat.le_refl _)).below hB1 (Nat.le_refl _)
    have hR1 := (hRt.below hBw).below hB1
    have hO1 := rows_below hO hB1 (Nat.le_refl _)
    generalize w.drewN 1 = w1 at *
    (conv => whnf)
    ((repeat ((first | (refine VQ.cons ?_) | (refine VQ.nil ?_) | (refine VH.cons ?_)); (conv => whnf))))
    refine VCall.of (sIDs_any w1 U d c S hD1) ?_
    rintro e w2 ⟨Ai, ki, rfl, hI, hB2⟩
    refine ⟨_, rfl, ?_⟩
    have hO2 := rows_below hO1 hB2 (Nat.le_refl _)
    have hB02 := hB1.trans (hB2.mono hB1.size)
    (conv => whnf)
    refine Anew.tt ?_
    (conv => whnf)
    ((repeat ((first | (refine VQ.nil ?_) | (refine VH.cons ?_)); (conv => whnf))))
    refine VCall.of (sameInts_any Ai A2 _ ki _ c2 (S.t.map (·.1)) (S.t.map (·.1)) w2 (Reads.row hI) (Reads.row hO2) (by omega)) ?_
    rintro e w3 ⟨rfl, hB3⟩
    refine ⟨_, rfl, ?_⟩
    rw [decide_eq_true (show S.t.map (·.1) = S.t.map (·.1) from rfl)]
    have hB13 := hB2.trans (hB3.mono hB2.size)
    have hB03 := hB1.trans (hB13.mono hB1.size)
    (conv => whnf)
    refine Anew.reS hB3 ?_
    (conv => whnf)
    ((repeat ((first | (refine VQ.cons ?_) | (refine VQ.nil ?_) | (refine VH.cons ?_) | (refine VBool.t ?_)); (conv => whnf))))
    refine VCall.of (sPut_any w3 U d c S none 0 0 [] (hD1.below hB13 (Nat.le_refl _)) hok (by decide) (Nat.le_refl _) (Own.nil _ 0).reads) ?_
    rintro e w4 ⟨A4, m4, c4, rfl, hO4, hm4, hc4, hB4⟩
    refine ⟨_, rfl, ?_⟩
    rw [List.nil_append] at hO4
    have hB14 := hB13.trans (hB4.mono hB13.size)
    (conv => whnf)
    refine Anew.reS hB4 ?_
    (conv => whnf)
    (repeat (first | ((first | (refine VQ.cons ?_) | (refine VQ.nil ?_) | (refine VH.cons ?_) | (refine VBool.t ?_)); (conv => whnf)) | (refine VRead.convT (fun X hX => (Own.reads hO4).below hX) ?_; (conv => whnf))))
    refine VCall.of (tPut_any w4 V r S (hR1.below hB14) hok) ?_
    rintro e w5 ⟨A5, m5, c5, rfl, hO5, hB5⟩
    refine ⟨_, rfl, ?_⟩
    have hB15 := hB14.trans (hB5.mono hB14.size)
    (conv => whnf)
    refine Anew.reS hB5 ?_
    (conv => whnf)
    (repeat (first | ((first | (refine VC.ret ?_) | (refine VQ.cons ?_) | (refine VQ.nil ?_) | (refine VH.nil ?_) | (refine VBool.t ?_)); (conv => whnf)) | (refine VRead.convT (fun X hX => (Own.reads hO5).below hX) ?_; (conv => whnf))))
    exact ⟨congrArg (fun b => Ending.returned (Value.bool b)) (decide_eq_true (rfl : txt S.put = txt S.put)), hBw.trans ((hB1.trans (hB15.mono hB1.size)).mono hs0)⟩
  obtain ⟨p, hp⟩ : ∃ p, S.t[i]? = some p := ⟨_, List.getElem?_eq_getElem hil⟩
  obtain ⟨id, x⟩ := p
  have hmem := List.mem_of_getElem? hp
  have hpi := hwf.ids _ hmem
  have hf : tfind S.t id = some x := tfind_of hnd hmem
  have hl : S.last id = (x.seq, x.rp, true) := by unfold SS.last; rw [hf]
  obtain ⟨g0, rfl, hg0, hUg0, _⟩ := hw.cell (k := 0) hp rfl
  have kc : ∀ (j : Nat) (v : Value), (oneC (id, x)).toList[j]? = some v → w.cell? (((⟨g0, 0, none⟩ : Addr).add (i * 8)).add j) = some v := fun j v hv => by
    obtain ⟨g', e, _, _, hc⟩ := hw.cell (k := j) hp hv
    injection e with e
    injection e with e
    subst e
    exact hc
  ((conv => whnf); (repeat ((fail); (conv => whnf))))
  (repeat ((first | (refine VRead.loadB hbw rfl rfl ?_) | (refine VRead.atK hil ?_) | (refine VRead.load1 (kc 0 _ rfl) ?_) | (refine VL.cons ?_) | (refine VL.nil ?_) | (refine VC.seqS rfl ?_) | (refine VC.region ?_) | (refine VC.cond ?_) | (refine VC.block ?_) | (refine VC.skip ?_) | (refine VBool.dT (by omega) ?_) | (refine VRead.lenS ?_) | (refine VRead.fld ?_) | (refine VC.seq ?_)); (conv => whnf)))
  refine VSem.one rfl ?_
  intro w2 hr2 hB2 hz2
  have hO2 := rows_below hO hB2 (Nat.le_refl _)
  have hBw2 := hBw.trans (hB2.mono hs0)
  ((conv => whnf); (repeat ((first | (refine VL.cons ?_)); (conv => whnf))))
  ((repeat ((fail); (conv => whnf))))
  refine VSem.push int_info rfl hO2 hr2 rfl (by omega) (by decide) hBw2.size ?_
  intro A3 c3 w3 hO3 hg3
  have hBw3 := hBw2.grown hg3 hBw2.size (fun j hj => (row_cells hO2 j hj).1)
  have hg0w2 : g0 < w2.heap.size := Nat.lt_of_lt_of_le hg0 hB2.size
  have hn0 : some g0 ≠ (Value.slice A2 i c2).ownBlock := fun e => by
    obtain ⟨_, cs', hc⟩ := row_cells hO g0 e.symm
    obtain ⟨_, cs2, hc2⟩ := row_cells hw.row g0 rfl
    rw [hc] at hc2
    injection hc2 with hc2
    injection hc2 with _ h2 _
    exact absurd h2 (by decide)
  have hW3 : w3.heap[g0]? = w.heap[g0]? := (hg3.block g0 hg0w2 hn0).trans (hB2.block g0 hg0)
  have kc3 : ∀ (j : Nat) (v : Value), (oneC (id, x)).toList[j]? = some v → w3.cell? (((⟨g0, 0, none⟩ : Addr).add (i * 8)).add j) = some v := fun j v hv => (World.cell?_of_block (by rw [addO]; exact hW3)).trans (kc j v hv)
  have hb3 := (hat.stay (fun j hj _ => hBw3.block j hj)).blk
  have hs3 := hBw3.size
  ((conv => whnf); (repeat ((first | (refine VL.cons ?_) | (refine VL.nil ?_) | (refine VC.seqS rfl ?_) | (refine VC.region ?_)); (conv => whnf))))
  (repeat ((first | (refine VRead.loadB hb3 rfl rfl ?_) | (refine VRead.atK hil ?_) | (refine VRead.load1 (kc3 0 _ rfl) ?_) | (refine VL.cons ?_) | (refine VRead.fld ?_)); (conv => whnf)))
  refine VCall.of (sLast_any w3 U d c S id (hD.t.below hBw3 (Nat.le_refl _)) (by omega)) ?_
  rintro e w4 ⟨rfl, hB4⟩
  refine ⟨_, rfl, ?_⟩
  rw [hl]
  have hO4 := rows_below hO3 hB4 (Nat.le_refl _)
  have hBw4 := hBw3.trans (hB4.mono hs3)
  ((conv => whnf); (repeat ((first | (refine VL.cons ?_)); (conv => whnf))))
  ((repeat ((fail); (conv => whnf))))
  refine VSem.allocZ (z := .agg #[.int .i64 0, .int .i64 0, .int .i64 0, .int .i64 0, .string ByteArray.empty]) (by kernel_rfl) ?_
  intro w5 g8 hb5 hgb5 hlb5 hB5
  have hO5 := rows_below hO4 hB5 (Nat.le_refl _)
  have hBw5 := hBw4.trans (hB5.mono hBw4.size)
  have hs4 := hBw4.size
  ((conv => whnf); (repeat ((first | (refine VL.cons ?_)); (conv => whnf))))
  ((repeat ((fail); (conv => whnf))))
  refine VUnit.storeAB hb5 rfl rfl rfl (by simp [rpC, Value.oneCell']) ?_
  intro w6 hb6 hg6
  replace hb6 : Blk w6 g8 34 (rpC x.rp) := hb6
  have hO6 := rows_apart hO5 hg6 (fun q e hq => by
    have h1 := (World.ownsRow.lt hO4 q hq).2
    have h2 : g8 = q := by injection e
    omega)
  have hBw6 : Below W.heap.size W w6 := only_new hBw5 hg6 (by omega) hBw5.size
  have h36 : Below w3.heap.size w3 w6 := only_new (hB4.trans (hB5.mono hB4.size)) hg6 (by have := hB4.size; omega) (hB4.trans (hB5.mono hB4.size)).size
  have hb7 : Blk (w6.drewN 1) r 29 #[.slice (some ⟨g0, 0, none⟩) S.t.length cR, .int .i64 S.most] := (hat.stay (fun j hj _ => hBw6.block j hj)).blk
  have hg03 : g0 < w3.heap.size := Nat.lt_of_lt_of_le hg0w2 hg3.size
  have kc7 : ∀ (j : Nat) (v : Value), (oneC (id, x)).toList[j]? = some v → (w6.drewN 1).cell? (((⟨g0, 0, none⟩ : Addr).add (i * 8)).add j) = some v := fun j v hv => (World.cell?_of_block (by rw [addO]; exact h36.block g0 hg03)).trans (kc3 j v hv)
  have kR7 : ∀ (j : Nat) (v : Value), (rpC x.rp).toList[j]? = some v → (w6.drewN 1).cell? ((((⟨g0, 0, none⟩ : Addr).add (i * 8)).add 3).add j) = some v := fun j v hv => by
    rw [Deep.add_add ((⟨g0, 0, none⟩ : Addr).add (i * 8))]
    refine kc7 (3 + j) v ?_
    match j, hv with
    | 0, h => exact h
    | 1, h => exact h
    | 2, h => exact h
    | 3, h => exact h
    | 4, h => exact h
  have hb67 : Blk (w6.drewN 1) g8 34 (rpC x.rp) := hb6
  ((conv => whnf); (repeat ((first | (refine VL.cons ?_) | (refine VL.nil ?_)); (conv => whnf))))
  ((repeat ((first | (refine VC.draw ?_) | (refine VC.seq ?_)); (conv => whnf))))
  (refine VDraw.seg (Eq (World.drewN _ 1)) [] [0, 1, 2, 3, 4, 5, 6, 7, 8, 9, 10, 11, 12, 13, 14, 15, 16, 17, 18, 19, 20, 21, 22, 23, 24, 25] (by kernel_rfl) (by kernel_rfl) rfl ?_; (conv => whnf))
  (repeat ((first | (refine VRead.loadB hb7 rfl rfl ?_) | (refine VRead.atK hil ?_) | (refine VRead.load1 (kc7 2 _ rfl) ?_) | (refine VRead.loadAB1 hb67 rfl rfl ?_) | (refine VQ.cons ?_) | (refine VG.nil ?_) | (refine VBool.f ?_) | (refine VRead.fld ?_) | (refine VBool.nT rfl ?_)); (conv => whnf)))
  refine VRead.loadL kR7 rfl ?_
  (conv => whnf)
  ((repeat ((first | (refine VQ.cons ?_) | (refine VBool.f ?_)); (conv => whnf))))
  refine VRead.neR ?_
  (conv => whnf)
  ((repeat ((first | (refine VL.cons ?_) | (refine VL.nil ?_) | (refine VC.region ?_) | (refine VC.cond ?_) | (refine VC.skip ?_) | (refine VQ.cons ?_) | (refine VQ.nil ?_) | (refine VBool.f ?_) | (refine VWrap.i64 (by omega) (by omega) ?_)); (conv => whnf))))
  refine ⟨_, by omega, i + 1, A3, c3, rfl, rfl, by omega, ?_, below_drewN hBw6 1⟩
  rw [take_snoc hp, List.map_append]
  have hO7 := rows_below hO6 (below_drewN (Below.refl w6.heap.size w6) 1) (Nat.le_refl _)
  unfold iv at hO7 ⊢
  simpa only [List.map_append, List.map_cons, List.map_nil] using hO7
end Go.Proofs.YtnjhdbgejhnpfaaDoor
end

section
set_option maxRecDepth 10000
namespace Go.Proofs.YtnjhdbgejhnpfaaDoor
set_option linter.unusedVariables false
open Go.RowKit

end Go.Proofs.YtnjhdbgejhnpfaaDoor
end

section
set_option maxRecDepth 10000
namespace Go.Proofs.YtnjhdbgejhnpfaaDoor
set_option linter.unusedVariables false
open Go.RowKit

theorem bytes_any (A : Option Addr) (n c B : Nat) (l : List UInt8) (W : World) (hn : n ≤ 140737488355328) (hrd : Reads W B 1 A n (bv l)) :
    Calls Tryd.prog 24 #[.slice A n c] W fun e W' => ∃ A' c', e = .returned (.slice A' n c') ∧ Own W' W.heap.size (.slice A' n c') n l ∧ Below W.heap.size W W' := by
  refine calls_vc Tryd.func24 rfl (by kernel_rfl) ?_
  ((conv => whnf); (repeat ((first | (refine VL.cons ?_) | (refine VL.nil ?_) | (refine VC.seqS rfl ?_) | (refine VC.region ?_)); (conv => whnf))))
  ((repeat ((fail); (conv => whnf))))
  refine VSem.appO (Own.nil W W.heap.size) hrd (by omega) (Nat.le_refl _) ?_
  intro A' k' W1 hO1 _ hB1
  rw [Nat.zero_add, List.nil_append] at hO1
  rw [Nat.zero_add]
  ((conv => whnf); (repeat ((first | (refine VL.cons ?_) | (refine VL.nil ?_) | (refine VC.ret ?_)); (conv => whnf))))
  ((repeat ((fail); (conv => whnf))))
  exact ⟨A', k', rfl, hO1, hB1⟩
def SS.step (S : SS) (o : Op15) : SS :=
  if o.kind % 7 = 0 ∨ o.kind % 7 = 1 then (S.open o.id).2 else if o.kind % 7 = 2 then (S.use o.id o.at_).2 else if o.kind % 7 = 3 then (S.keep o.id o.at_ o.r (ROk o.r)).2
  else if o.kind % 7 = 4 ∨ o.kind % 7 = 5 then S else (S.load (some o.b)).2.1
theorem TOk.step {S : SS} (h : TOk S.t) (o : Op15) (hv : i64' o.r.vn) : TOk (S.step o).t := by
  unfold SS.step
  split
  · exact h.open _
  · split
    · exact h.use _ _
    · split
      · exact h.keep _ _ _ hv
      · split
        · exact h
        · exact h.load _
set_option maxHeartbeats 16000000 in
theorem do15_any (W0 W : World) (d r c : Nat) (S : SS) (o : Op15) (Ad : Option Addr) (m k : Nat) (hT0 : Tabs W0) (hB0 : Below W0.heap.size W0 W) (h : Both15 W W0.heap.size d r c S) (hok : TOk S.t) (ok : o.Ok W W0.heap.size Ad m k) (hc : c ≤ 1000000) (hm : m ≤ 3000) :
    Calls Tryd.prog 7 #[.pointer (some ⟨d, 0, none⟩), .pointer (some ⟨r, 0, none⟩), .agg (op15C o Ad m k)] W fun e W' => e = .returned (.bool true) ∧ Both15 W' W0.heap.size d r (c + 64) (S.step o) ∧ Below W0.heap.size W W' := by
  obtain ⟨U, V, hD, hR, hU, hV, hn⟩ := h
  have hB := hB0.size
  have h0 := Int.emod_nonneg o.kind (show (7 : Int) ≠ 0 by decide)
  have h7 := Int.emod_lt_of_pos o.kind (show (0 : Int) < 7 by decide)
  refine calls_vc Tryd.func7 rfl (by kernel_rfl) ?_
  ((conv => whnf); (repeat ((first | (refine VL.cons ?_) | (refine VC.seqS rfl ?_) | (refine VC.region ?_)); (conv => whnf))))
  refine VSem.boxB ?_
  intro W1 g hb hg1 hl1 hB1
  replace hb : Blk W1 g 37 #[.int .i64 o.kind, .int .i64 o.id, .int .i64 o.at_, .int .i64 o.r.err, .int .i64 o.r.n, .int .i64 o.r.kind, .int .i64 o.r.vn, .string (txt o.r.s), .slice Ad m k] := hb
  have hs1 := hB1.size
  have hD1 := hD.below hB1
  have hR1 := hR.below hB1
  have hB01 : Below W0.heap.size W W1 := hB1.mono hB
  have hB001 : Below W0.heap.size W0 W1 := hB0.trans hB01
  have gU : ¬ U g := fun hu => by have := hD.lt g hu; omega
  have gV : ¬ V g := fun hu => by have := hR.lt g hu; omega
  ((conv => whnf); (repeat ((first | (refine VL.cons ?_) | (refine VL.nil ?_)); (conv => whnf))))
  (repeat (first | ((first | (refine VL.cons ?_) | (refine VC.seqS rfl ?_) | (refine VC.region ?_) | (refine VRead.fld ?_) | (refine VC.seq ?_)); (conv => whnf)) | (refine VRead.loadB hb rfl rfl ?_; (conv => whnf))))
  refine VCall.of (place_any o.kind 7 W1 ok.kind (by decide) (by decide)) ?_
  rintro e W1' ⟨rfl, eW⟩
  obtain rfl := eW.symm
  refine ⟨_, rfl, ?_⟩
  obtain hq | hq | hq | hq | hq | hq | hq : o.kind % 7 = 0 ∨ o.kind % 7 = 1 ∨ o.kind % 7 = 2 ∨ o.kind % 7 = 3 ∨ o.kind % 7 = 4 ∨ o.kind % 7 = 5 ∨ o.kind % 7 = 6 := by omega
  all_goals rw [hq]
  iterate 2
    · have eS : S.step o = (S.open o.id).2 := by unfold SS.step; rw [if_pos (by omega)]
      rw [eS]
      ((conv => whnf); (repeat ((first | (refine VL.nil ?_) | (refine VC.block ?_)); (conv => whnf))))
      (repeat (first | ((first | (refine VL.cons ?_) | (refine VL.nil ?_) | (refine VC.seqS rfl ?_) | (refine VC.region ?_) | (refine VC.cond ?_) | (refine VC.skip ?_) | (refine VBool.t ?_) | (refine VBool.f ?_) | (refine VRead.fld ?_) | (refine VC.seq ?_)); (conv => whnf)) | (refine VRead.loadB hb rfl rfl ?_; (conv => whnf))))
      refine VCall.of (sOpen_any W1 U d c S o.id hD1.t (by omega) ok.id) ?_
      rintro e W2 ⟨rfl, h2, hO2⟩
      refine ⟨_, rfl, ?_⟩
      obtain ⟨t2, st2⟩ := hD1.op h2 hO2
      obtain ⟨hR2, hn2, hb2, hB2, hU2, fin⟩ := Both15.two (by omega : W0.heap.size ≤ W1.heap.size) hD1 hR1 hU hV hn hb gU gV t2 st2
      ((conv => whnf); (repeat ((first | (refine VL.cons ?_) | (refine VL.nil ?_) | (refine VC.seqS rfl ?_) | (refine VC.region ?_)); (conv => whnf))))
      (repeat (first | ((first | (refine VL.cons ?_) | (refine VRead.fld ?_)); (conv => whnf)) | (refine VRead.loadB hb2 rfl rfl ?_; (conv => whnf))))
      refine VCall.of (tOpen_any W2 V r S o.id hR2) ?_
      rintro e W3 ⟨rfl, V3, h3, st3⟩
      refine ⟨_, rfl, ?_⟩
      obtain ⟨f1, f2, f3⟩ := fin W3 V3 h3 st3
      generalize (S.open o.id).1.1 = z at *
      ((conv => whnf); (repeat ((first | (refine VL.cons ?_) | (refine VL.nil ?_) | (refine VC.seqS rfl ?_) | (refine VC.region ?_)); (conv => whnf))))
      ((repeat ((first | (refine VL.cons ?_) | (refine VL.nil ?_) | (refine VC.ret ?_) | (refine VBool.t ?_) | (refine VBool.dT (by omega) ?_) | (refine VRead.eqB ?_)); (conv => whnf))))
      exact ⟨congrArg (fun b => Ending.returned (Value.bool b)) (decide_eq_true rfl), f1.grow (by omega), hB01.trans f3⟩
  · have eS : S.step o = (S.use o.id o.at_).2 := by unfold SS.step; rw [if_neg (by omega), if_pos hq]
    rw [eS]
    have hd1 : Below W1.heap.size W1 (W1.drewN 1) := below_drewN (Below.refl _ _) 1
    have hbd : Blk (W1.drewN 1) g 37 #[.int .i64 o.kind, .int .i64 o.id, .int .i64 o.at_, .int .i64 o.r.err, .int .i64 o.r.n, .int .i64 o.r.kind, .int .i64 o.r.vn, .string (txt o.r.s), .slice Ad m k] := hb
    have hDd := hD1.below hd1
    have hRd := hR1.below hd1
    ((conv => whnf); (repeat ((first | (refine VL.nil ?_) | (refine VC.block ?_)); (conv => whnf))))
    ((repeat ((first | (refine VL.cons ?_) | (refine VL.nil ?_) | (refine VC.seqS rfl ?_) | (refine VC.region ?_) | (refine VC.draw ?_) | (refine VC.cond ?_) | (refine VBool.t ?_) | (refine VBool.f ?_) | (refine VC.seq ?_)); (conv => whnf))))
    refine VDraw.seg (fun X => Blk X g 37 #[.int .i64 o.kind, .int .i64 o.id, .int .i64 o.at_, .int .i64 o.r.err, .int .i64 o.r.n, .int .i64 o.r.kind, .int .i64 o.r.vn, .string (txt o.r.s), .slice Ad m k]) [([0, 1, 2, 3, 4, 6, 7, 8, 9, 10], 5), ([], 11)] [12, 13] (by kernel_rfl) (by kernel_rfl) hbd ?_
    (conv => whnf)
    (repeat ((first | (refine VRead.loadBS (fun _ h => h) rfl rfl ?_) | (refine VQ.cons ?_) | (refine VQ.nil ?_) | (refine VG.cons ?_) | (refine VRead.fld ?_)); (conv => whnf)))
    refine VCall.of (sUse_any (W1.drewN 1) U d c S o.id o.at_ hDd.t (by omega) ok.id) ?_
    rintro e W2 ⟨rfl, h2, hO2⟩
    refine ⟨_, rfl, ?_⟩
    obtain ⟨t2, st2⟩ := hDd.op h2 hO2
    obtain ⟨hR2, hn2, hb2, hB2, hU2, fin⟩ := Both15.two (by show W0.heap.size ≤ W1.heap.size; omega) hDd hRd hU hV hn hbd gU gV t2 st2
    (conv => whnf)
    refine Keep.mk hb2 ?_
    (conv => whnf)
    ((repeat ((first | (refine VQ.nil ?_) | (refine VG.cons ?_)); (conv => whnf))))
    refine VCall.of (tUse_any W2 V r S o.id o.at_ hR2) ?_
    rintro e W3 ⟨rfl, V3, h3, st3⟩
    refine ⟨_, rfl, ?_⟩
    obtain ⟨f1, f2, f3⟩ := fin W3 V3 h3 st3
    (conv => whnf)
    refine Keep.mk f2 ?_
    (conv => whnf)
    ((repeat ((first | (refine VC.ret ?_) | (refine VQ.cons ?_) | (refine VQ.nil ?_) | (refine VG.nil ?_) | (refine VRead.eqB ?_)); (conv => whnf))))
    exact ⟨congrArg (fun b => Ending.returned (Value.bool b)) (decide_eq_true rfl), f1.grow (by omega), (hB01.trans (hd1.mono (by omega))).trans f3⟩
  · have eS : S.step o = (S.keep o.id o.at_ o.r (ROk o.r)).2 := by unfold SS.step; rw [if_neg (by omega), if_neg (by omega), if_pos hq]
    rw [eS]
    have hd1 : Below W1.heap.size W1 (W1.drewN 1) := below_drewN (Below.refl _ _) 1
    have hbd : Blk (W1.drewN 1) g 37 #[.int .i64 o.kind, .int .i64 o.id, .int .i64 o.at_, .int .i64 o.r.err, .int .i64 o.r.n, .int .i64 o.r.kind, .int .i64 o.r.vn, .string (txt o.r.s), .slice Ad m k] := hb
    have hDd := hD1.below hd1
    have hRd := hR1.below hd1
    have hBd : Below W0.heap.size W0 (W1.drewN 1) := below_drewN hB001 1
    ((conv => whnf); (repeat ((first | (refine VL.nil ?_) | (refine VC.block ?_)); (conv => whnf))))
    ((repeat ((first | (refine VL.cons ?_) | (refine VL.nil ?_) | (refine VC.seqS rfl ?_) | (refine VC.region ?_) | (refine VC.draw ?_) | (refine VC.cond ?_) | (refine VBool.t ?_) | (refine VBool.f ?_) | (refine VC.seq ?_)); (conv => whnf))))
    refine VDraw.seg (fun X => Blk X g 37 #[.int .i64 o.kind, .int .i64 o.id, .int .i64 o.at_, .int .i64 o.r.err, .int .i64 o.r.n, .int .i64 o.r.kind, .int .i64 o.r.vn, .string (txt o.r.s), .slice Ad m k]) [([0, 1, 2, 3, 4, 5, 6, 8, 9, 10, 11, 12, 13, 14], 7), ([], 15)] [16, 17] (by kernel_rfl) (by kernel_rfl) hbd ?_
    (conv => whnf)
    (repeat ((first | (refine VRead.loadBS (fun _ h => h) rfl rfl ?_) | (refine VRead.loadABi (vs := rpC o.r) 3 (fun _ h => h) rfl rfl (by intro j hj; match j, hj with | 0, _ => rfl | 1, _ => rfl | 2, _ => rfl | 3, _ => rfl | 4, _ => rfl) ?_) | (refine VQ.cons ?_) | (refine VQ.nil ?_) | (refine VG.cons ?_) | (refine VRead.fld ?_)); (conv => whnf)))
    refine VCall.of (sKeepB_any (W1.drewN 1) U d c S o.id o.at_ o.r (ROk o.r) hDd.t (by omega) ok.id (fun X hX => ck_any o.r X (hT0.below (hBd.trans (hX.mono hBd.size))))) ?_
    rintro e W2 ⟨rfl, h2, hO2⟩
    refine ⟨_, rfl, ?_⟩
    obtain ⟨t2, st2⟩ := hDd.op h2 hO2
    obtain ⟨hR2, hn2, hb2, hB2, hU2, fin⟩ := Both15.two (by show W0.heap.size ≤ W1.heap.size; omega) hDd hRd hU hV hn hbd gU gV t2 st2
    (conv => whnf)
    refine Keep.mk hb2 ?_
    (conv => whnf)
    ((repeat ((first | (refine VQ.nil ?_) | (refine VG.cons ?_)); (conv => whnf))))
    refine VCall.of (tKeep_any W2 V r S o.id o.at_ o.r hR2) ?_
    rintro e W3 ⟨rfl, V3, h3, st3⟩
    refine ⟨_, rfl, ?_⟩
    obtain ⟨f1, f2, f3⟩ := fin W3 V3 h3 st3
    (conv => whnf)
    refine Keep.mk f2 ?_
    (conv => whnf)
    ((repeat ((first | (refine VC.ret ?_) | (refine VQ.cons ?_) | (refine VQ.nil ?_) | (refine VG.nil ?_) | (refine VRead.eqB ?_)); (conv => whnf))))
    exact ⟨congrArg (fun b => Ending.returned (Value.bool b)) (decide_eq_true rfl), f1.grow (by omega), (hB01.trans (hd1.mono (by omega))).trans f3⟩
  · have eS : S.step o = S := by unfold SS.step; rw [if_neg (by omega), if_neg (by omega), if_neg (by omega), if_pos (by omega)]
    rw [eS]
    ((conv => whnf); (repeat ((first | (refine VL.nil ?_) | (refine VC.block ?_)); (conv => whnf))))
    (repeat (first | ((first | (refine VL.cons ?_) | (refine VL.nil ?_) | (refine VC.seqS rfl ?_) | (refine VC.region ?_) | (refine VC.cond ?_) | (refine VBool.t ?_) | (refine VBool.f ?_) | (refine VRead.fld ?_) | (refine VC.seq ?_)); (conv => whnf)) | (refine VRead.loadB hb rfl rfl ?_; (conv => whnf))))
    refine VCall.of (sLast_any W1 U d c S o.id hD1.t ok.id) ?_
    rintro e W2 ⟨rfl, hB2⟩
    refine ⟨_, rfl, ?_⟩
    have hb2 := hb.below hB2 hl1
    obtain ⟨ln, hln⟩ : ∃ x, S.last o.id = x := ⟨_, rfl⟩
    rw [hln]
    obtain ⟨l1, l2, l3⟩ := ln
    ((conv => whnf); (repeat ((first | (refine VL.cons ?_)); (conv => whnf))))
    ((repeat ((fail); (conv => whnf))))
    refine VSem.allocZ (z := .agg #[.int .i64 0, .int .i64 0, .int .i64 0, .int .i64 0, .string ByteArray.empty]) (by kernel_rfl) ?_
    intro W3 g12 hb3 hgb3 hlb3 hB3
    have hb23 := hb2.below hB3 hb2.lt
    have hs2 := hB2.size
    have hs3 := hB3.size
    ((conv => whnf); (repeat ((first | (refine VL.cons ?_)); (conv => whnf))))
    ((repeat ((fail); (conv => whnf))))
    refine VUnit.storeAB hb3 rfl rfl rfl (by simp [rpC, Value.oneCell']) ?_
    intro W4 hb4 hg4
    replace hb4 : Blk W4 g12 34 (rpC l2) := hb4
    have hb24 := hb23.grown hg4 (fun e => by injection e; omega)
    have hB14 : Below W1.heap.size W1 W4 := only_new (hB2.trans (hB3.mono hs2)) hg4 (by omega) (by omega)
    have hD4 := hD1.below hB14
    have hR4 := hR1.below hB14
    have fin : ∀ X, Below W4.heap.size W4 X → Both15 X W0.heap.size d r (c + 64) S ∧ Below W0.heap.size W X := fun X hX => by
      have h14 := hB14.trans (hX.mono hB14.size)
      exact ⟨Both15.grow (c := c) ⟨U, V, hD1.below h14, hR1.below h14, hU, hV, hn⟩ (by omega), hB01.trans (h14.mono (by omega))⟩
    ((conv => whnf); (repeat ((first | (refine VL.cons ?_) | (refine VL.nil ?_) | (refine VC.seqS rfl ?_) | (refine VC.region ?_)); (conv => whnf))))
    (repeat (first | ((first | (refine VL.cons ?_) | (refine VRead.fld ?_)); (conv => whnf)) | (refine VRead.loadB hb24 rfl rfl ?_; (conv => whnf))))
    refine VCall.of (tFind_any W4 V r S o.id hR4) ?_
    rintro e W4' ⟨eW, hcase⟩
    obtain rfl := eW.symm
    rcases hcase with ⟨kk, x, hk, hf, rfl⟩ | ⟨hf, rfl⟩
    · have hl : (l1, l2, l3) = (x.seq, x.rp, true) := by rw [← hln]; unfold SS.last; rw [hf]
      simp only [Prod.mk.injEq] at hl
      obtain ⟨rfl, rfl, rfl⟩ := hl
      refine ⟨_, rfl, ?_⟩
      have hkl := (List.getElem?_eq_some_iff.1 hk).1
      obtain ⟨_, _, A, cR, hat⟩ := hR4
      have hfew := hR1.wf.few
      have hmost := hR1.wf.most
      obtain ⟨g0, rfl, hg0, hUg0, _⟩ := hat.cell (k := 0) hk rfl
      have hbr : Blk (W4.drewN 1) r 29 #[.slice (some ⟨g0, 0, none⟩) S.t.length cR, .int .i64 S.most] := hat.blk
      have kc : ∀ (j : Nat) (v : Value), (oneC (o.id, x)).toList[j]? = some v → (W4.drewN 1).cell? (((⟨g0, 0, none⟩ : Addr).add (kk * 8)).add j) = some v := fun j v hv => by
        obtain ⟨g', e, _, _, hc⟩ := hat.cell (k := j) hk hv
        injection e with e
        injection e with e
        subst e
        exact hc
      have kR : ∀ (j : Nat) (v : Value), (rpC x.rp).toList[j]? = some v → (W4.drewN 1).cell? ((((⟨g0, 0, none⟩ : Addr).add (kk * 8)).add 3).add j) = some v := fun j v hv => by
        rw [Deep.add_add ((⟨g0, 0, none⟩ : Addr).add (kk * 8))]
        refine kc (3 + j) v ?_
        match j, hv with
        | 0, h => exact h
        | 1, h => exact h
        | 2, h => exact h
        | 3, h => exact h
        | 4, h => exact h
      have hb5 : Blk (W4.drewN 1) g12 34 (rpC x.rp) := hb4
      ((conv => whnf); (repeat ((first | (refine VL.cons ?_) | (refine VL.nil ?_)); (conv => whnf))))
      ((repeat ((first | (refine VL.cons ?_) | (refine VL.nil ?_) | (refine VC.seqS rfl ?_) | (refine VC.region ?_) | (refine VC.draw ?_) | (refine VC.cond ?_) | (refine VC.skip ?_) | (refine VBool.f ?_) | (refine VC.seq ?_)); (conv => whnf))))
      (refine VDraw.seg (Eq (World.drewN _ 1)) [] [0, 1, 2, 3, 4, 5, 6, 7, 8, 9, 10, 11, 12, 13, 14, 15, 16, 17, 18, 19, 20, 21, 22, 23, 24, 25] (by kernel_rfl) (by kernel_rfl) rfl ?_; (conv => whnf))
      (repeat ((first | (refine VRead.loadB hbr rfl rfl ?_) | (refine VRead.atK hkl ?_) | (refine VRead.load1 (kc 2 _ rfl) ?_) | (refine VRead.loadAB1 hb5 rfl rfl ?_) | (refine VQ.cons ?_) | (refine VG.nil ?_) | (refine VBool.t ?_) | (refine VRead.fld ?_) | (refine VBool.dT rfl ?_)); (conv => whnf)))
      refine VRead.loadL kR rfl ?_
      (conv => whnf)
      ((repeat ((first | (refine VQ.cons ?_) | (refine VBool.t ?_)); (conv => whnf))))
      refine VRead.eqR ?_
      (conv => whnf)
      ((repeat ((first | (refine VC.ret ?_) | (refine VQ.cons ?_) | (refine VQ.nil ?_) | (refine VBool.t ?_)); (conv => whnf))))
      obtain ⟨f1, f2⟩ := fin (W4.drewN 1) (below_drewN (Below.refl _ _) 1)
      exact ⟨rfl, f1, f2⟩
    · have hl : (l1, l2, l3) = (0, Rp.zero, false) := by rw [← hln]; unfold SS.last; rw [hf]
      simp only [Prod.mk.injEq] at hl
      obtain ⟨rfl, rfl, rfl⟩ := hl
      refine ⟨_, rfl, ?_⟩
      ((conv => whnf); (repeat ((first | (refine VL.cons ?_) | (refine VL.nil ?_)); (conv => whnf))))
      (repeat ((first | (refine VRead.loadAB1 hb4 rfl rfl ?_) | (refine VL.cons ?_) | (refine VL.nil ?_) | (refine VC.seqS rfl ?_) | (refine VC.region ?_) | (refine VC.cond ?_) | (refine VBool.t ?_) | (refine VC.seq ?_)); (conv => whnf)))
      refine VRead.ofW (v := .agg (rpC Rp.zero)) (fun _ => by kernel_rfl) ?_
      (conv => whnf)
      ((repeat ((first | (refine VL.cons ?_) | (refine VBool.t ?_)); (conv => whnf))))
      refine VRead.eqR ?_
      (conv => whnf)
      ((repeat ((first | (refine VL.cons ?_) | (refine VL.nil ?_) | (refine VC.ret ?_) | (refine VBool.t ?_)); (conv => whnf))))
      obtain ⟨f1, f2⟩ := fin W4 (Below.refl _ _)
      exact ⟨rfl, f1, f2⟩
  · have eS : S.step o = S := by unfold SS.step; rw [if_neg (by omega), if_neg (by omega), if_neg (by omega), if_pos (by omega)]
    rw [eS]
    have hUd : U d := hD.t.2.choose_spec.hd
    ((conv => whnf); (repeat ((first | (refine VL.nil ?_) | (refine VC.block ?_)); (conv => whnf))))
    ((repeat ((first | (refine VL.cons ?_) | (refine VL.nil ?_) | (refine VC.seqS rfl ?_) | (refine VC.region ?_) | (refine VC.cond ?_) | (refine VBool.t ?_) | (refine VBool.f ?_) | (refine VC.seq ?_)); (conv => whnf))))
    refine VCall.of (sPut_any W1 U d c S none 0 0 [] hD1.t hok (by decide) (Nat.le_refl _) (Own.nil _ 0).reads) ?_
    rintro e W2 ⟨A2, m2, c2, rfl, hO2, hm2, hc2, hB2⟩
    refine ⟨_, rfl, ?_⟩
    rw [List.nil_append] at hO2
    have hs2 := hB2.size
    ((conv => whnf); (repeat ((first | (refine VL.cons ?_)); (conv => whnf))))
    ((repeat ((fail); (conv => whnf))))
    refine VCall.of (rNew_any A2 m2 c2 _ S.put W2 (by omega) hO2.reads) ?_
    rintro e W3 ⟨gr, rfl, hge, hR3, hB3⟩
    refine ⟨_, rfl, ?_⟩
    have hs3 := hB3.size
    have hB13 := hB2.trans (hB3.mono hs2)
    have hB03 : Below W0.heap.size W0 W3 := hB001.trans (hB13.mono (by omega))
    have hd0 := hU d hUd
    ((conv => whnf); (repeat ((first | (refine VL.cons ?_) | (refine VL.nil ?_) | (refine VC.seqS rfl ?_) | (refine VC.region ?_)); (conv => whnf))))
    ((repeat ((fail); (conv => whnf))))
    refine VCall.of (sLoad_any W0 W3 (fun j => U j ∨ W3.heap.size ≤ j) d c gr S (some S.put) hT0 hB03 (by omega) ((hD1.t.below hB13 (Nat.le_refl _)).more (fun j _ h => .inl h)) (fun j h => .inr h) hR3 hd0) ?_
    rintro e W4 ⟨rfl, h4, hR4, hO4⟩
    refine ⟨_, rfl, ?_⟩
    have eload : S.load (some S.put) = (true, S, some []) := SS.load_put hD.t.wf hok rfl
    rw [eload] at h4 hR4 ⊢
    have hs4 : W3.heap.size ≤ W4.heap.size := hO4.size
    ((conv => whnf); (repeat ((first | (refine VL.cons ?_)); (conv => whnf))))
    ((repeat ((first | (refine VL.cons ?_) | (refine VBool.t ?_)); (conv => whnf))))
    refine VCall.of (rEnd_any W4 gr _ hR4) ?_
    rintro e W5 ⟨rfl, N, rfl⟩
    refine ⟨_, rfl, ?_⟩
    rw [show Wire.endS (some []) = true from rfl]
    ((conv => whnf); (repeat ((first | (refine VL.cons ?_) | (refine VL.nil ?_) | (refine VC.ret ?_)); (conv => whnf))))
    ((repeat ((fail); (conv => whnf))))
    have hO14 : Out (fun j => U j ∨ W1.heap.size ≤ j) W1 W4 := (Out.new hB13).trans (hO4.mono (fun j hj => by
      rcases hj with rfl | rfl | hj
      · exact .inl hUd
      · exact .inr (by omega)
      · exact .inr (Nat.le_trans (by omega) hj)))
    obtain ⟨U4, t4, st4⟩ := hD1.clip (h4.more (V := fun j => U j ∨ W1.heap.size ≤ j) (fun j _ hj => hj.imp (fun h => h) (fun h => by omega))) hO14
    obtain ⟨hR4', hn4, hb4, hB4, hU4, fin⟩ := Both15.two (by omega : W0.heap.size ≤ W1.heap.size) hD1 hR1 hU hV hn hb gU gV t4 st4
    obtain ⟨f1, f2, f3⟩ := fin (W4.drewN N) V (hR4'.below (below_drewN (Below.refl _ _) N)) (Step.new (below_drewN (Below.refl _ _) N))
    exact ⟨rfl, f1, hB01.trans f3⟩
  · have eS : S.step o = (S.load (some o.b)).2.1 := by unfold SS.step; rw [if_neg (by omega), if_neg (by omega), if_neg (by omega), if_neg (by omega)]
    rw [eS]
    have hUd : U d := hD.t.2.choose_spec.hd
    have hd0 := hU d hUd
    have hdl := hD.lt d hUd
    have hVr : V r := by obtain ⟨_, _, A, cR, hat⟩ := hR; exact hat.hr
    have hrl := hR.lt r hVr
    have hmk := ok.le
    have hk := ok.k
    have hdata1 : Reads W1 W0.heap.size 1 Ad m (bv o.b) := ok.data.below hB01
    ((conv => whnf); (repeat ((first | (refine VL.nil ?_) | (refine VC.block ?_)); (conv => whnf))))
    (repeat (first | ((first | (refine VL.cons ?_) | (refine VL.nil ?_) | (refine VC.seqS rfl ?_) | (refine VC.region ?_) | (refine VC.cond ?_) | (refine VC.skip ?_) | (refine VBool.f ?_) | (refine VRead.fld ?_) | (refine VC.seq ?_)); (conv => whnf)) | (refine VRead.loadB hb rfl rfl ?_; (conv => whnf))))
    refine VCall.of (bytes_any Ad m k _ o.b W1 (by omega) hdata1) ?_
    rintro e W2 ⟨A2, c2, rfl, hO2, hB2⟩
    refine ⟨_, rfl, ?_⟩
    have hs2 := hB2.size
    ((conv => whnf); (repeat ((first | (refine VL.cons ?_)); (conv => whnf))))
    ((repeat ((fail); (conv => whnf))))
    refine VCall.of (rNew_any A2 m c2 _ o.b W2 (by omega) hO2.reads) ?_
    rintro e W3 ⟨gr, rfl, hge, hR3, hB3⟩
    refine ⟨_, rfl, ?_⟩
    have hs3 := hB3.size
    have hB13 := hB2.trans (hB3.mono hs2)
    have hb3 := hb.below hB13 hl1
    have hgr3 := hR3.lt
    ((conv => whnf); (repeat ((first | (refine VL.cons ?_) | (refine VL.nil ?_) | (refine VC.seqS rfl ?_) | (refine VC.region ?_)); (conv => whnf))))
    (repeat (first | ((first | (refine VL.cons ?_) | (refine VRead.fld ?_)); (conv => whnf)) | (refine VRead.loadB hb3 rfl rfl ?_; (conv => whnf))))
    refine VRead.ofW (v := .agg #[.slice Ad m k, .int .i64 ((0 : Nat) : Int), .bool false]) (fun _ => by kernel_rfl) ?_
    ((conv => whnf); (repeat ((first | (refine VL.cons ?_)); (conv => whnf))))
    ((repeat ((fail); (conv => whnf))))
    refine VSem.boxB ?_
    intro W4 gq hbq hgqe hgql hB4
    replace hbq : Blk W4 gq 63 #[.slice Ad m k, .int .i64 ((0 : Nat) : Int), .bool false] := hbq
    have hs4 := hB4.size
    have hB14 := hB13.trans (hB4.mono hB13.size)
    have hB04 : Below W0.heap.size W0 W4 := hB001.trans (hB14.mono (by omega))
    have hRq4 : RS 63 W4 gq (some o.b) := RS.mk hbq ((hdata1.below (hB14.mono (by omega))).more (by omega)) hmk (by omega) (by omega) (by simp)
    have hRr4 := hR3.below hB4 hgr3
    ((conv => whnf); (repeat ((first | (refine VL.cons ?_) | (refine VL.nil ?_)); (conv => whnf))))
    ((repeat ((first | (refine VC.draw ?_) | (refine VC.seq ?_)); (conv => whnf))))
    refine VDraw.segW (fun _ => True) [([0, 1, 3, 4], 2), ([], 5), ([6, 7, 8, 10, 11, 12, 13, 14], 9), ([15, 16, 17, 18, 20], 19), ([], 21)] [22, 23, 24] (by kernel_rfl) (by kernel_rfl) trivial ?_
    have hd4 : Below W4.heap.size W4 (W4.drewN 1) := below_drewN (Below.refl _ _) 1
    have hB1X : Below W1.heap.size W1 (W4.drewN 1) := below_drewN hB14 1
    have hB0X : Below W0.heap.size W0 (W4.drewN 1) := below_drewN hB04 1
    have hRqX := hRq4.below hd4 hgql
    have hRrX := hRr4.below hd4 hRr4.lt
    have hsX : (W4.drewN 1).heap.size = W4.heap.size := rfl
    generalize W4.drewN 1 = X at *
    clear hRq4 hRr4 hbq hR3 hb3
    have hDX := hD1.below hB1X
    have hRX := hR1.below hB1X
    obtain ⟨s', hs'⟩ : ∃ s', (S.load (some o.b)).2.2 = s' := ⟨_, rfl⟩
    obtain ⟨bb, hbb⟩ : ∃ bb, (S.load (some o.b)).1 = bb := ⟨_, rfl⟩
    (conv => whnf)
    ((repeat ((first | (refine VQ.cons ?_) | (refine VQ.nil ?_) | (refine VH.cons ?_)); (conv => whnf))))
    refine VCall.of (sLoad_any W0 X (fun j => U j ∨ X.heap.size ≤ j) d c gr S (some o.b) hT0 hB0X (by omega) (hDX.t.more (fun j _ h => .inl h)) (fun j h => .inr h) hRrX hd0) ?_
    rintro e W5 ⟨rfl, h5, hRr5, hO5⟩
    refine ⟨_, rfl, ?_⟩
    rw [hs'] at hRr5
    rw [hbb]
    have hs5 : X.heap.size ≤ W5.heap.size := hO5.size
    have hR5 : Rt W5 V r S := hRX.stay hs5 (fun j hj hv => hO5.block j hj (fun hh => by
      have := hR1.lt j hv
      rcases hh with rfl | rfl | hh
      · exact hn _ hUd hv
      · omega
      · omega))
    have hRq5 : RS 63 W5 gq (some o.b) := hRqX.outC hO5 (fun hh => by
      rcases hh with hh | hh | hh <;> omega) (fun j hj hjl => by
      rcases hj with rfl | rfl | hj
      · obtain ⟨_, mm, ht⟩ := hDX.t
        exact ⟨_, _, ht.blk, by rfl⟩
      · obtain ⟨a1, a2, a3, a4, a5, _⟩ := hRrX.flag
        exact ⟨_, _, a5, by rfl⟩
      · omega)
    have t5 : Tb W5 (fun j => (U j ∨ X.heap.size ≤ j) ∧ j < W5.heap.size) d (c + 64) (S.load (some o.b)).2.1 := ⟨h5.more (fun j hj hu => ⟨hu, hj⟩), fun j hj => hj.2⟩
    (conv => whnf)
    refine Anew.same trivial ?_
    (conv => whnf)
    ((repeat ((first | (refine VQ.nil ?_) | (refine VH.cons ?_)); (conv => whnf))))
    refine VCall.of (tLoad_any W5 V r gq S (some o.b) hR5 (fun hv => by have := hR1.lt gq hv; omega) hRq5) ?_
    rintro e W6 ⟨rfl, ⟨V6, hR6, hV6⟩, hRq6, hO6⟩
    refine ⟨_, rfl, ?_⟩
    rw [hs'] at hRq6
    rw [hbb]
    have hs6 : W5.heap.size ≤ W6.heap.size := hO6.size
    have hRr6 : RS 73 W6 gr s' := hRr5.outC hO6 (fun hh => by
      have := hRr5.lt
      rcases hh with hh | hh | hh <;> omega) (fun j hj hjl => by
      rcases hj with rfl | rfl | hj
      · obtain ⟨_, _, A, cR, hat⟩ := hR5
        exact ⟨_, _, hat.blk, by rfl⟩
      · obtain ⟨a1, a2, a3, a4, a5, _⟩ := hRq5.flag
        exact ⟨_, _, a5, by rfl⟩
      · omega)
    have t6 : Both15 W6 W0.heap.size d r (c + 64) (S.load (some o.b)).2.1 := by
      refine ⟨_, V6, ⟨t5.t.stay (fun j hj hu => hO6.block j hj (fun hh => ?_)), fun j hj => Nat.lt_of_lt_of_le (t5.lt j hj) hs6⟩, hR6, fun j hj => ?_, fun j hj => ?_, fun j hj hv => ?_⟩
      · have hu1 := hu.1
        rcases hh with rfl | rfl | hh
        · rcases hu1 with hu1 | hu1
          · exact hn _ hu1 hVr
          · omega
        · rcases hu1 with hu1 | hu1
          · have := hD1.lt _ hu1; omega
          · omega
        · omega
      · rcases hj.1 with hu1 | hu1
        · exact hU j hu1
        · omega
      · rcases hV6 j hj with hv | hv
        · exact hV j hv
        · omega
      · rcases hV6 j hv with hv | hv
        · rcases hj.1 with hu1 | hu1
          · exact hn j hu1 hv
          · have := hR1.lt j hv; omega
        · have := hj.2; omega
    have hB6 : Below W0.heap.size W W6 := hB01.trans ((hB1X.mono (by omega)).trans ((hO5.below (fun j hj => by
      rcases hj with rfl | rfl | hj
      · exact hd0
      · omega
      · exact Nat.le_trans (by omega) hj) (by omega)).trans (hO6.below (fun j hj => by
      rcases hj with rfl | rfl | hj
      · exact hV _ hVr
      · omega
      · omega) (by omega))))
    obtain ⟨a1, a2, a3, a4, hf, _⟩ := hRq6.flag
    have kF : ∀ Y, Below W6.heap.size W6 Y → Blk Y gq 63 #[.slice a1 a2 a3, .int .i64 (a4 : Int), .bool (s' == none)] := fun Y hY => hf.laterT hY
    have fin : ∀ Y, Below W6.heap.size W6 Y → Both15 Y W0.heap.size d r (c + 64) (S.load (some o.b)).2.1 ∧ Below W0.heap.size W Y := fun Y hY => ⟨t6.below hY, hB6.trans (hY.mono hB6.size |> fun h => h.mono (by omega))⟩
    (conv => whnf)
    refine Anew.tt ?_
    (conv => whnf)
    obtain ⟨lf, hlf⟩ : ∃ lf : Nat, Wire.leftS s' = lf := ⟨_, rfl⟩
    obtain ⟨ob, hob⟩ : ∃ b, Wire.okS s' = b := ⟨_, rfl⟩
    have hnb : (s' == none) = !ob := by
      rw [← hob]
      cases s' <;> rfl
    rw [hnb] at kF
    (repeat ((first | (refine VRead.eqB ?_) | (refine VBool.dT rfl ?_) | (refine VRead.loadBS kF rfl rfl ?_) | (refine VQ.cons ?_) | (refine VQ.nil ?_) | (refine VH.cons ?_) | (refine VBool.t ?_) | (refine VRead.fld ?_)); (conv => whnf)))
    refine VCall.of (rOk_any W6 gr s' hRr6) ?_
    rintro e _ ⟨rfl, rfl⟩
    refine ⟨_, rfl, ?_⟩
    rw [hob]
    (conv => whnf)
    refine Anew.reS (Below.refl _ _) ?_
    (conv => whnf)
    (repeat ((first | (refine VRead.eqB ?_) | (refine VBool.dT (Bool.not_not ob).symm ?_) | (refine VQ.cons ?_) | (refine VQ.nil ?_) | (refine VH.cons ?_) | (refine VBool.t ?_)); (conv => whnf)))
    refine VCall.of (rLeft_any W6 gr s' hRr6) ?_
    rintro e W7 ⟨rfl, N7, rfl⟩
    refine ⟨_, rfl, ?_⟩
    rw [hlf]
    have hB67 : Below W6.heap.size W6 (W6.drewN N7) := below_drewN (Below.refl _ _) N7
    (conv => whnf)
    refine Anew.reS hB67 ?_
    (conv => whnf)
    ((repeat ((first | (refine VQ.nil ?_) | (refine VH.cons ?_) | (refine VBool.t ?_)); (conv => whnf))))
    refine VCall.of (fLeft_any (W6.drewN N7) gq s' (hRq6.below hB67 hRq6.lt)) ?_
    rintro e W8 ⟨rfl, N8, rfl⟩
    refine ⟨_, rfl, ?_⟩
    rw [hlf]
    have hB78 : Below (W6.drewN N7).heap.size (W6.drewN N7) ((W6.drewN N7).drewN N8) := below_drewN (Below.refl _ _) N8
    (conv => whnf)
    refine Anew.reS hB78 ?_
    (conv => whnf)
    ((repeat ((first | (refine VC.ret ?_) | (refine VQ.cons ?_) | (refine VQ.nil ?_) | (refine VH.nil ?_) | (refine VBool.t ?_)); (conv => whnf))))
    obtain ⟨f1, f2⟩ := fin _ (hB67.trans hB78)
    exact ⟨congrArg (fun b => Ending.returned (Value.bool b)) (decide_eq_true rfl), f1, f2⟩
end Go.Proofs.YtnjhdbgejhnpfaaDoor
end

section
set_option maxRecDepth 10000
namespace Go.Proofs.YtnjhdbgejhnpfaaDoor
set_option linter.unusedVariables false
open Go.RowKit

set_option maxHeartbeats 4000000 in
theorem sessionPlays_walk (most : Int) (A : Option Addr) (n c : Nat) (ops : List Op15) (W : World) (hm : i64' most) (h1 : OpsAt15 W W.heap.size A n ops) (hT : Tabs W) :
    Calls Tryd.prog 3 #[.int .i64 most, .slice A n c] W fun e W' => e = .returned (.bool true) ∧ Below W.heap.size W W' := by
  have hol := h1.len
  refine calls_vc Tryd.func3 rfl (by kernel_rfl) ?_
  ((conv => whnf); (repeat ((first | (refine VL.cons ?_) | (refine VL.nil ?_) | (refine VC.seqS rfl ?_) | (refine VC.region ?_)); (conv => whnf))))
  ((repeat ((fail); (conv => whnf))))
  refine VCall.of (sNew_any W most) ?_
  rintro e W1 ⟨d, rfl, h1t, hB1⟩
  refine ⟨_, rfl, ?_⟩
  have s1 := hB1.size
  ((conv => whnf); (repeat ((first | (refine VL.cons ?_) | (refine VL.nil ?_) | (refine VC.seqS rfl ?_) | (refine VC.region ?_)); (conv => whnf))))
  ((repeat ((fail); (conv => whnf))))
  refine VCall.of (rCut_any most W1) ?_
  rintro e W1' ⟨rfl, eW⟩
  obtain rfl := eW.symm
  refine ⟨_, rfl, ?_⟩
  obtain ⟨S0, hS0⟩ : ∃ S, SS.new most = S := ⟨_, rfl⟩
  have ht0 : S0.t = [] := by rw [← hS0]; rfl
  rw [hS0] at h1t
  rw [hS0]
  ((conv => whnf); (repeat ((first | (refine VL.cons ?_)); (conv => whnf))))
  refine VRead.ofW (v := .agg #[.slice none 0 0, .int .i64 S0.most]) (fun _ => by kernel_rfl) ?_
  ((conv => whnf); (repeat ((first | (refine VL.cons ?_)); (conv => whnf))))
  ((repeat ((fail); (conv => whnf))))
  refine VSem.boxB ?_
  intro W2 r hb hge hgl hB2
  replace hb : Blk W2 r 29 #[.slice none 0 0, .int .i64 S0.most] := hb
  have s2 := hB2.size
  have hB02 := hB1.trans (hB2.mono s1)
  have hRt : Rt W2 (ftO r (.slice none 0 0)) r S0 := Rt.mk' h1t.wf (by rw [ht0]; rfl) hb (by rw [ht0]; exact World.ownsRow_nil W2 _ _ _)
  have ho : ∀ j, ftO r (.slice none 0 0) j → j = r := fun j hj => by
    rcases hj with hj | hj
    · exact hj
    · simp [Value.ownBlock] at hj
  have t2 : Both15 W2 W.heap.size d r (64 * 0) S0 := ⟨fun j => W.heap.size ≤ j ∧ j < W1.heap.size, _, ⟨(h1t.more (fun j h1 h2 => ⟨h2, h1⟩)).below hB2 (Nat.le_refl _), fun j hj => by have := hj.2; omega⟩, hRt, fun j hj => hj.1, fun j hj => by have := ho j hj; omega, fun j hj hv => by have := ho j hv; have := hj.2; omega⟩
  have ok0 : TOk S0.t := by rw [ht0]; intro p hp; simp at hp
  ((conv => whnf); (repeat ((first | (refine VL.cons ?_) | (refine VL.nil ?_)); (conv => whnf))))
  ((repeat ((first | (refine VL.cons ?_) | (refine VL.nil ?_) | (refine VC.seqS rfl ?_) | (refine VC.region ?_) | (refine VC.cond ?_) | (refine VC.block ?_) | (refine VC.skip ?_) | (refine VBool.f ?_) | (refine VRead.eqPN ?_) | (refine VC.seq ?_)); (conv => whnf))))
  refine VC.loop [7] [(4, 4), (7, 7), (16, 58)] (fun q vs w => ∃ (i : Nat) (S : SS), vs = [.int .i64 (i : Int)] ∧ q = n - i ∧ i ≤ n ∧ i ≤ 60 ∧ Both15 w W.heap.size d r (64 * i) S ∧ TOk S.t ∧ Below W.heap.size W w) (by kernel_rfl)
    ⟨_, 0, S0, rfl, rfl, by omega, by omega, t2, ok0, hB02⟩ ?_
  rintro q τ vs w ⟨i, S, rfl, rfl, hi, hi60, hT2, hok, hBw⟩
  have hsw := hBw.size
  by_cases hlt : i < n ∧ i < 60
  case neg =>
    by_cases hi2 : i < n
    · have hi3 : ¬ i < 60 := fun h => hlt ⟨hi2, h⟩
      ((conv => whnf); (repeat ((fail); (conv => whnf))))
      ((repeat ((first | (refine VL.cons ?_) | (refine VL.nil ?_) | (refine VC.seqS rfl ?_) | (refine VC.region ?_) | (refine VC.cond ?_) | (refine VC.exit ?_) | (refine VBool.t ?_) | (refine VBool.dT (by omega) ?_) | (refine VBool.dF (by omega) ?_) | (refine VRead.lenS ?_) | (refine VC.seq ?_)); (conv => whnf))))
      refine VCall.of (same15_any w _ d r _ S hT2 hok) ?_
      rintro e w2 ⟨rfl, hb2⟩
      refine ⟨_, rfl, ?_⟩
      ((conv => whnf); (repeat ((first | (refine VL.cons ?_)); (conv => whnf))))
      ((repeat ((first | (refine VBool.t ?_)); (conv => whnf))))
      refine VCall.of (awake15_any w2) ?_
      rintro e w3 ⟨rfl, hb3⟩
      refine ⟨_, rfl, ?_⟩
      ((conv => whnf); (repeat ((first | (refine VL.cons ?_) | (refine VL.nil ?_) | (refine VC.ret ?_)); (conv => whnf))))
      ((repeat ((fail); (conv => whnf))))
      exact ⟨rfl, hBw.trans ((hb2.trans (hb3.mono hb2.size)).mono hsw)⟩
    · ((conv => whnf); (repeat ((fail); (conv => whnf))))
      ((repeat ((first | (refine VL.cons ?_) | (refine VL.nil ?_) | (refine VC.seqS rfl ?_) | (refine VC.region ?_) | (refine VC.cond ?_) | (refine VC.exit ?_) | (refine VBool.f ?_) | (refine VBool.dF (by omega) ?_) | (refine VRead.lenS ?_) | (refine VC.seq ?_)); (conv => whnf))))
      refine VCall.of (same15_any w _ d r _ S hT2 hok) ?_
      rintro e w2 ⟨rfl, hb2⟩
      refine ⟨_, rfl, ?_⟩
      ((conv => whnf); (repeat ((first | (refine VL.cons ?_)); (conv => whnf))))
      ((repeat ((first | (refine VBool.t ?_)); (conv => whnf))))
      refine VCall.of (awake15_any w2) ?_
      rintro e w3 ⟨rfl, hb3⟩
      refine ⟨_, rfl, ?_⟩
      ((conv => whnf); (repeat ((first | (refine VL.cons ?_) | (refine VL.nil ?_) | (refine VC.ret ?_)); (conv => whnf))))
      ((repeat ((fail); (conv => whnf))))
      exact ⟨rfl, hBw.trans ((hb2.trans (hb3.mono hb2.size)).mono hsw)⟩
  obtain ⟨hi2, hi6⟩ := hlt
  obtain ⟨o, ho⟩ : ∃ o, ops[i]? = some o := ⟨_, List.getElem?_eq_getElem (by omega)⟩
  obtain ⟨x, Ad, m, kk, rfl, H⟩ := h1.later ho
  obtain ⟨hcell, ok⟩ := H w hBw
  have hc8 := hcell 8 _ rfl
  by_cases h3000 : 3000 < m
  · ((conv => whnf); (repeat ((fail); (conv => whnf))))
    (repeat (first | ((first | (refine VL.cons ?_) | (refine VL.nil ?_) | (refine VC.seqS rfl ?_) | (refine VC.region ?_) | (refine VC.cond ?_) | (refine VC.block ?_) | (refine VC.skip ?_) | (refine VBool.t ?_) | (refine VBool.dT (by omega) ?_) | (refine VRead.lenS ?_) | (refine VRead.fld ?_) | (refine VRead.load1 (by assumption) ?_) | (refine VC.seq ?_)); (conv => whnf)) | (refine VRead.atK hi2 ?_; (conv => whnf))))
    refine VCall.of (awake15_any w) ?_
    rintro e w2 ⟨rfl, hb2⟩
    refine ⟨_, rfl, ?_⟩
    ((conv => whnf); (repeat ((first | (refine VL.cons ?_) | (refine VL.nil ?_) | (refine VC.ret ?_)); (conv => whnf))))
    ((repeat ((fail); (conv => whnf))))
    exact ⟨rfl, hBw.trans (hb2.mono hsw)⟩
  have hc7 : w.cell? ((((x.add (i * 9)).add 3).add 2).add 2) = some (.string (txt o.r.s)) := by
    rw [Deep.add_add (x.add (i * 9)), Deep.add_add (x.add (i * 9))]
    exact hcell 7 _ rfl
  have hsz : ByteArray.size (txt o.r.s) = o.r.s.length := txt_size _
  by_cases h1000 : 1000 < o.r.s.length
  · ((conv => whnf); (repeat ((fail); (conv => whnf))))
    (repeat (first | ((first | (refine VL.cons ?_) | (refine VL.nil ?_) | (refine VC.seqS rfl ?_) | (refine VC.region ?_) | (refine VC.cond ?_) | (refine VC.block ?_) | (refine VC.skip ?_) | (refine VBool.t ?_) | (refine VBool.f ?_) | (refine VBool.dT (by omega) ?_) | (refine VBool.dF (by omega) ?_) | (refine VRead.lenS ?_) | (refine VRead.lenT ?_) | (refine VRead.fld ?_) | (refine VRead.load1 (by assumption) ?_) | (refine VC.seq ?_)); (conv => whnf)) | (refine VRead.atK hi2 ?_; (conv => whnf))))
    refine VCall.of (awake15_any w) ?_
    rintro e w2 ⟨rfl, hb2⟩
    refine ⟨_, rfl, ?_⟩
    ((conv => whnf); (repeat ((first | (refine VL.cons ?_) | (refine VL.nil ?_) | (refine VC.ret ?_)); (conv => whnf))))
    ((repeat ((fail); (conv => whnf))))
    exact ⟨rfl, hBw.trans (hb2.mono hsw)⟩
  ((conv => whnf); (repeat ((fail); (conv => whnf))))
  (repeat (first | ((first | (refine VL.cons ?_) | (refine VL.nil ?_) | (refine VC.seqS rfl ?_) | (refine VC.region ?_) | (refine VC.cond ?_) | (refine VC.block ?_) | (refine VC.skip ?_) | (refine VBool.t ?_) | (refine VBool.f ?_) | (refine VBool.dT (by omega) ?_) | (refine VBool.dF (by omega) ?_) | (refine VRead.lenS ?_) | (refine VRead.lenT ?_) | (refine VRead.fld ?_) | (refine VRead.load1 (by assumption) ?_) | (refine VC.seq ?_)); (conv => whnf)) | (refine VRead.atK hi2 ?_; (conv => whnf))))
  refine VRead.loadL hcell rfl ?_
  ((conv => whnf); (repeat ((first | (refine VL.cons ?_)); (conv => whnf))))
  ((repeat ((fail); (conv => whnf))))
  refine VCall.of (do15_any W w d r (64 * i) S o Ad m kk hT hBw hT2 hok ok (by omega) (by omega)) ?_
  rintro e w2 ⟨rfl, t3, hb2⟩
  refine ⟨_, rfl, ?_⟩
  have hok2 := hok.step o ok.r.vn
  have hBw2 := hBw.trans hb2
  generalize S.step o = S2 at *
  ((conv => whnf); (repeat ((first | (refine VL.cons ?_)); (conv => whnf))))
  ((repeat ((first | (refine VL.cons ?_) | (refine VBool.f ?_)); (conv => whnf))))
  refine VCall.of (same15_any w2 _ d r _ S2 t3 hok2) ?_
  rintro e w3 ⟨rfl, hb3⟩
  refine ⟨_, rfl, ?_⟩
  ((conv => whnf); (repeat ((first | (refine VL.cons ?_)); (conv => whnf))))
  ((repeat ((first | (refine VL.cons ?_) | (refine VL.nil ?_) | (refine VC.region ?_) | (refine VC.cond ?_) | (refine VC.skip ?_) | (refine VBool.f ?_) | (refine VWrap.i64 (by omega) (by omega) ?_)); (conv => whnf))))
  exact ⟨_, by omega, i + 1, S2, rfl, rfl, by omega, by omega, (t3.below hb3).grow (by omega), hok2, hBw2.trans (hb3.mono hBw2.size)⟩
end Go.Proofs.YtnjhdbgejhnpfaaDoor
end
