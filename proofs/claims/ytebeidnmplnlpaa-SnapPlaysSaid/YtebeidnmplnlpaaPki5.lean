/- Texts joined: SnU, RdL, SnV, Open, SnO, SnW, SnX. No condition. -/
import Derived.Test.YtebeidnmplnlpaaPki4
import Derived.Test.YtebeidnmplnlpaaPki2
import Derived.Test.YtebeidnmplnlpaaPki3
import Derived.Deep.Slices
import Derived.OpenShut
section
set_option maxRecDepth 10000
namespace Go.Proofs.Ytebeidnmplnlpaa
set_option linter.unusedVariables false
open Go.RowKit

theorem hd_i64 (h : List UInt8) : (-9223372036854775808 ≤ hA h ∧ hA h ≤ 9223372036854775807) ∧ (-9223372036854775808 ≤ hT h ∧ hT h ≤ 9223372036854775807) ∧ (-9223372036854775808 ≤ hN h ∧ hN h ≤ 9223372036854775807) := by
  have key : ∀ s : Option (List UInt8), -9223372036854775808 ≤ (Wire.intS s).1 ∧ (Wire.intS s).1 ≤ 9223372036854775807 := fun s => by
    cases s with
    | none => exact ⟨by show (-9223372036854775808 : Int) ≤ 0; decide, by show (0 : Int) ≤ 9223372036854775807; decide⟩
    | some l =>
      unfold Wire.intS
      simp only
      cases hg : Wire.getInt l with
      | none => exact ⟨by show (-9223372036854775808 : Int) ≤ 0; decide, by show (0 : Int) ≤ 9223372036854775807; decide⟩
      | some p =>
        obtain ⟨v, q⟩ := p
        exact (Wire.getInt_back hg).2
  exact ⟨key _, key _, key _⟩
theorem laid_ge' : ∀ (bs : List (List UInt8)), bs.length ≤ (Frame.laid bs).length
  | [] => by simp
  | b :: bs => by
    have h1 := laid_ge' bs
    have h2 := Frame.put_pos b
    rw [Frame.laid_cons, List.length_append, List.length_cons]
    omega
/-- what is said, against what the bytes are -/
theorem says_none {l : List UInt8} {i : Int} (hi : 1 ≤ i ∧ i ≤ 1099511627776) (h : ∀ t d, SvOk i t d → l ≠ fileB i t d) : saysS l i = none := by
  cases hs : saysS l i with
  | none => rfl
  | some y =>
    obtain ⟨h1, h2⟩ := says_back hi hs
    exact absurd h2 (h _ _ h1)
theorem file_bodies {i t : Int} {d : List UInt8} (h : SvOk i t d) : Frame.bodies (fileB i t d) = hdB i t d.length :: chunks d ∧ Frame.rest (fileB i t d) = [] := Frame.bodies_all h.bs
theorem chunks_ne {d : List UInt8} (h : 1 ≤ d.length) : 1 ≤ (chunks d).length := by
  rw [chunks_cons (fun e => by rw [e] at h; simp at h), List.length_cons]
  omega
theorem sv_i64 {i t : Int} {d : List UInt8} (h : SvOk i t d) : hA (hdB i t d.length) = i ∧ hT (hdB i t d.length) = t ∧ hN (hdB i t d.length) = (d.length : Int) ∧ hE (hdB i t d.length) = true := by
  obtain ⟨h1, h2, h3, h4, h5, h6⟩ := h
  exact hd_read (by omega) (by omega) (by omega)
set_option maxHeartbeats 4000000 in
theorem refSays_any (A : Option Addr) (n c : Nat) (l : List UInt8) (i : Int) (w : World) (hn : n ≤ 16777216) (hnc : n ≤ c) (hr : Reads w w.heap.size 1 A n (bv l)) (hi : 1 ≤ i ∧ i ≤ 1099511627776) :
    Calls Try.prog 103 #[.slice A n c, .int .i64 i] w fun e w' => (∃ (t : Int) (A' : Option Addr) (m' c' : Nat) (ok : Bool), e = .returned (.tuple #[.int .i64 t, .slice A' m' c', .bool ok]) ∧ match saysS l i with
      | none => ok = false
      | some y => ok = true ∧ t = y.1 ∧ m' = y.2.length ∧ Own w' w.heap.size (.slice A' m' c') m' y.2) ∧ Below w.heap.size w w' := by
  have hln : l.length = n := by have := hr.1; rw [bv_length] at this; omega
  obtain ⟨e0, _, hok0⟩ := Frame.bodies_spec l
  refine calls_vc Try.func103 rfl (by kernel_rfl) ?_
  ((conv => whnf); (repeat ((first | (refine VL.cons ?_) | (refine VL.nil ?_) | (refine VC.seqS rfl ?_) | (refine VC.region ?_)); (conv => whnf))))
  ((repeat ((fail); (conv => whnf))))
  refine VCall.of (refAll_any A n c l w hn hnc hr) ?_
  rintro e w1 ⟨k, A1, c1, hk1, hk2, rfl, hF, hB1⟩
  refine ⟨_, rfl, ?_⟩
  have hkb := Frame.reach_eq hk1 hk2
  have hwh := Frame.whole_iff (l := l)
  rw [← hkb, hln] at hwh
  have hpl := Frame.place_at (l := l) (i := k) (by omega)
  clear hk1 hk2
  by_cases hk : k < 2
  · rw [says_none hi (fun t d hs e => by
      subst e
      rw [(file_bodies hs).1, List.length_cons] at hkb
      have := chunks_ne hs.n1
      omega)]
    ((conv => whnf); (repeat ((first | (refine VL.cons ?_) | (refine VL.nil ?_)); (conv => whnf))))
    ((repeat ((first | (refine VL.cons ?_) | (refine VL.nil ?_) | (refine VC.seqS rfl ?_) | (refine VC.region ?_) | (refine VC.cond ?_) | (refine VC.ret ?_) | (refine VBool.t ?_) | (refine VBool.dT (by omega) ?_) | (refine VRead.lenS ?_) | (refine VC.seq ?_)); (conv => whnf))))
    exact ⟨⟨_, _, _, _, _, rfl, rfl⟩, hB1⟩
  by_cases hw : Frame.place l k = (n : Int)
  case neg =>
    rw [says_none hi (fun t d hs e => by
      subst e
      exact hw (hwh.2 (file_bodies hs).2))]
    generalize Frame.place l k = pl at *
    ((conv => whnf); (repeat ((first | (refine VL.cons ?_) | (refine VL.nil ?_)); (conv => whnf))))
    ((repeat ((first | (refine VL.cons ?_) | (refine VL.nil ?_) | (refine VC.seqS rfl ?_) | (refine VC.region ?_) | (refine VC.cond ?_) | (refine VC.ret ?_) | (refine VBool.f ?_) | (refine VBool.dF (by omega) ?_) | (refine VBool.nF (by omega) ?_) | (refine VRead.lenS ?_) | (refine VC.seq ?_)); (conv => whnf))))
    exact ⟨⟨_, _, _, _, _, rfl, rfl⟩, hB1⟩
  obtain ⟨h, cs, hbs⟩ : ∃ h cs, Frame.bodies l = h :: cs := by
    cases hb : Frame.bodies l with
    | nil => rw [hb] at hkb; simp at hkb; omega
    | cons h cs => exact ⟨h, cs, rfl⟩
  rw [hbs] at hkb hok0
  rw [List.length_cons] at hkb
  rw [hwh.1 hw, List.append_nil, hbs] at e0
  have hno : ∀ {X : Prop}, (∀ t d, SvOk i t d → h = hdB i t d.length → cs = chunks d → X) → ∀ t d, SvOk i t d → l = fileB i t d → X := fun hh t d hs e => by
    have hb2 := hbs
    rw [e, (file_bodies hs).1] at hb2
    injection hb2 with h1 h2
    exact hh t d hs h1.symm h2.symm
  obtain ⟨xs, hrow, hels⟩ := hF
  obtain ⟨Ab, mb, cb, hx0, hx1, hOb⟩ := hels 0 (by omega)
  rw [Frame.body_at (l := l) (i := 0) (b := h) (by rw [hbs]; rfl)] at hOb
  obtain ⟨x1, rfl, hx1l, hxc⟩ := (Reads.row hrow).2 (by omega)
  have hcell0 := hxc _ _ hx1
  rw [hw]
  have hmb := Own.len hOb
  have hbl := (hok0 h (by simp)).2
  ((conv => whnf); (repeat ((first | (refine VL.cons ?_) | (refine VL.nil ?_)); (conv => whnf))))
  (repeat ((first | (refine VRead.atK (j := 0) (by omega) ?_) | (refine VRead.load1 hcell0 ?_) | (refine VL.cons ?_) | (refine VL.nil ?_) | (refine VC.seqS rfl ?_) | (refine VC.region ?_) | (refine VC.cond ?_) | (refine VC.skip ?_) | (refine VBool.f ?_) | (refine VBool.dF (by omega) ?_) | (refine VBool.nT (by omega) ?_) | (refine VRead.lenS ?_) | (refine VRead.fld ?_) | (refine VC.seq ?_)); (conv => whnf)))
  refine VRead.ofW (v := .agg #[.slice Ab mb cb, .int .i64 0, .bool false]) (fun _ => by kernel_rfl) ?_
  ((conv => whnf); (repeat ((first | (refine VL.cons ?_)); (conv => whnf))))
  ((repeat ((fail); (conv => whnf))))
  refine VSem.boxB ?_
  intro w2 g hg hgg hgl hB2
  replace hg : Blk w2 g 155 #[.slice Ab mb cb, .int .i64 ((0 : Nat) : Int), .bool false] := hg
  have s1 := hB1.size
  have s2 := hB2.size
  have hR0 : RS 155 w2 g (some h) := RS.mk hg ((Own.reads hOb).below hB2 |>.more (by omega)) hOb.cap (by omega) (by omega) (by simp)
  have hB02 := hB1.trans (hB2.mono s1)
  ((conv => whnf); (repeat ((first | (refine VL.cons ?_) | (refine VL.nil ?_) | (refine VC.seqS rfl ?_) | (refine VC.region ?_)); (conv => whnf))))
  ((repeat ((fail); (conv => whnf))))
  refine VCall.of (fInt_any w2 g (some h) hR0) ?_
  rintro e w3 ⟨rfl, hR1, hg3⟩
  refine ⟨_, rfl, ?_⟩
  have hB03 : Below w.heap.size w w3 := only_new hB02 hg3 (by omega) (by omega)
  have hB13 : Below w1.heap.size w1 w3 := only_new hB2 hg3 (by omega) (by omega)
  have s3 := hg3.size
  ((conv => whnf); (repeat ((first | (refine VL.cons ?_) | (refine VL.nil ?_) | (refine VC.seqS rfl ?_) | (refine VC.region ?_)); (conv => whnf))))
  ((repeat ((fail); (conv => whnf))))
  refine VCall.of (fInt_any w3 g _ hR1) ?_
  rintro e w4 ⟨rfl, hR2, hg4⟩
  refine ⟨_, rfl, ?_⟩
  have hB04 : Below w.heap.size w w4 := only_new hB03 hg4 (by omega) (by omega)
  have hB14 : Below w1.heap.size w1 w4 := only_new hB13 hg4 (by omega) (by omega)
  have s4 := hg4.size
  ((conv => whnf); (repeat ((first | (refine VL.cons ?_) | (refine VL.nil ?_) | (refine VC.seqS rfl ?_) | (refine VC.region ?_)); (conv => whnf))))
  ((repeat ((fail); (conv => whnf))))
  refine VCall.of (fInt_any w4 g _ hR2) ?_
  rintro e w5 ⟨rfl, hR3, hg5⟩
  refine ⟨_, rfl, ?_⟩
  have hB05 : Below w.heap.size w w5 := only_new hB04 hg5 (by omega) (by omega)
  have hB15 : Below w1.heap.size w1 w5 := only_new hB14 hg5 (by omega) (by omega)
  have s5 := hg5.size
  ((conv => whnf); (repeat ((first | (refine VL.cons ?_) | (refine VL.nil ?_)); (conv => whnf))))
  ((repeat ((first | (refine VL.cons ?_) | (refine VC.seqS rfl ?_) | (refine VC.region ?_) | (refine VC.seq ?_)); (conv => whnf))))
  refine VCall.of (fEnd_any w5 g _ hR3) ?_
  rintro e w6 ⟨rfl, Nd, rfl⟩
  refine ⟨_, rfl, ?_⟩
  have hE5 : Below w5.heap.size w5 (w5.drewN Nd) := below_drewN (Below.refl _ _) Nd
  have hB06 := hB05.trans (hE5.mono (by omega))
  have hB16 := hB15.trans (hE5.mono (by omega))
  generalize w5.drewN Nd = w6 at *
  clear hR0 hR1 hR2 hR3 hB03 hB04 hB05 hB13 hB14 hB15 hE5
  obtain ⟨q1, q2, q3⟩ := hd_i64 h
  have dA : (Wire.intS (some h)).1 = hA h := rfl
  have dT : (Wire.intS (Wire.intS (some h)).2).1 = hT h := rfl
  have dN : (Wire.intS (Wire.intS (Wire.intS (some h)).2).2).1 = hN h := rfl
  have dE : Wire.endS (Wire.intS (Wire.intS (Wire.intS (some h)).2).2).2 = hE h := rfl
  rw [dA, dT, dN, dE]
  by_cases hH : HdOk h i
  case neg =>
    rw [says_none hi (fun t d hs e => hno (X := False) (fun t d hs e1 e2 => by
      obtain ⟨a1, a2, a3, a4⟩ := sv_i64 hs
      rw [← e1] at a1 a2 a3 a4
      exact hH ⟨a4, a1, by rw [a2]; exact hs.t1, by rw [a2]; exact hs.t2, by rw [a3]; have := hs.n1; omega, by rw [a3]; have := hs.n2; omega⟩) t d hs e)]
    have hcase : hE h = false ∨ (hE h = true ∧ hA h ≠ i) ∨ (hE h = true ∧ hA h = i ∧ hT h < 1) ∨ (hE h = true ∧ hA h = i ∧ 1 ≤ hT h ∧ 1099511627776 < hT h) ∨ (hE h = true ∧ hA h = i ∧ 1 ≤ hT h ∧ hT h ≤ 1099511627776 ∧ hN h < 1) ∨
        (hE h = true ∧ hA h = i ∧ 1 ≤ hT h ∧ hT h ≤ 1099511627776 ∧ 1 ≤ hN h ∧ 1048576 < hN h) := by
      cases h1 : hE h with
      | false => exact .inl rfl
      | true =>
        right
        by_cases h2 : hA h = i
        case neg => exact .inl ⟨rfl, h2⟩
        right
        by_cases h3 : hT h < 1
        · exact .inl ⟨rfl, h2, h3⟩
        right
        by_cases h4 : 1099511627776 < hT h
        · exact .inl ⟨rfl, h2, by omega, h4⟩
        right
        by_cases h5 : hN h < 1
        · exact .inl ⟨rfl, h2, by omega, by omega, h5⟩
        right
        by_cases h6 : 1048576 < hN h
        · exact ⟨rfl, h2, by omega, by omega, by omega, h6⟩
        · exact absurd ⟨h1, h2, by omega, by omega, by omega, by omega⟩ hH
    generalize hA h = a at *
    generalize hT h = t at *
    generalize hN h = m at *
    rcases hcase with hc | ⟨hc, hc2⟩ | ⟨hc, hc2, hc3⟩ | ⟨hc, hc2, hc3, hc4⟩ | ⟨hc, hc2, hc3, hc4, hc5⟩ | ⟨hc, hc2, hc3, hc4, hc5, hc6⟩
    all_goals
      rw [hc]
      ((conv => whnf); (repeat ((first | (refine VL.cons ?_)); (conv => whnf))))
      ((repeat ((first | (refine VL.cons ?_) | (refine VL.nil ?_) | (refine VC.seqS rfl ?_) | (refine VC.region ?_) | (refine VC.cond ?_) | (refine VC.ret ?_) | (refine VBool.t ?_) | (refine VBool.f ?_) | (refine VBool.dT (by omega) ?_) | (refine VBool.dF (by omega) ?_) | (refine VBool.nT (by omega) ?_) | (refine VBool.nF (by omega) ?_)); (conv => whnf))))
      exact ⟨⟨_, _, _, _, _, rfl, rfl⟩, hB06⟩
  obtain ⟨c1', c2', c3', c4', c5', c6'⟩ := id hH
  rw [c1', c2']
  obtain ⟨t, ht⟩ : ∃ t, hT h = t := ⟨_, rfl⟩
  obtain ⟨sz, hsz⟩ : ∃ sz, hN h = sz := ⟨_, rfl⟩
  rw [ht] at c3' c4' q2 ⊢
  rw [hsz] at c5' c6' q3 ⊢
  have s6 := hB16.size
  ((conv => whnf); (repeat ((first | (refine VL.cons ?_)); (conv => whnf))))
  ((repeat ((first | (refine VL.cons ?_) | (refine VL.nil ?_) | (refine VC.seqS rfl ?_) | (refine VC.region ?_) | (refine VC.cond ?_) | (refine VC.skip ?_) | (refine VBool.f ?_) | (refine VBool.dF (by omega) ?_) | (refine VBool.nT (by omega) ?_)); (conv => whnf))))
  refine VC.cut [13] [(13, 14), (68, 80)] (fun vs X => ∃ (m : Nat) (A' : Option Addr) (c' : Nat), vs = [.slice A' m c'] ∧ Own X w6.heap.size (.slice A' m c') m cs.flatten ∧ Below w6.heap.size w6 X) (by kernel_rfl) ?_ ?_
  · ((conv => whnf); (repeat ((first | (refine VL.cons ?_) | (refine VL.nil ?_) | (refine VC.seqS rfl ?_) | (refine VC.region ?_) | (refine VC.block ?_)); (conv => whnf))))
    ((repeat ((fail); (conv => whnf))))
    refine VC.loop [13, 14] [(13, 14), (68, 80)] (fun q vs X => ∃ (j m : Nat) (A' : Option Addr) (c' : Nat), vs = [.slice A' m c', .int .i64 ((1 + j : Nat) : Int)] ∧ q = k - j ∧ j ≤ cs.length ∧ m ≤ 1048576 * j ∧ Own X w6.heap.size (.slice A' m c') m (cs.take j).flatten ∧ Below w6.heap.size w6 X) (by kernel_rfl)
      ⟨_, 0, 0, none, 0, rfl, rfl, by omega, by omega, Own.nil _ _, Below.refl _ _⟩ ?_
    rintro q τ vs X ⟨j, m, A', c', rfl, rfl, hj, hm, hO, hX⟩
    have hkl : k = cs.length + 1 := hkb
    have hkn : k ≤ 16777217 := by
      have h1 := laid_ge' (h :: cs)
      rw [← e0, hln, List.length_cons] at h1
      omega
    by_cases hlt : 1 + j < k
    case neg =>
      obtain rfl : j = cs.length := by omega
      rw [List.take_length] at hO
      ((conv => whnf); (repeat ((fail); (conv => whnf))))
      ((repeat ((first | (refine VL.cons ?_) | (refine VL.nil ?_) | (refine VC.seqS rfl ?_) | (refine VC.region ?_) | (refine VC.cond ?_) | (refine VC.exit ?_) | (refine VBool.dF (by omega) ?_) | (refine VRead.lenS ?_) | (refine VC.seq ?_)); (conv => whnf))))
      exact ⟨m, A', c', rfl, hO, hX⟩
    obtain ⟨b, hb⟩ : ∃ b, cs[j]? = some b := ⟨_, List.getElem?_eq_getElem (by omega)⟩
    have hbl2 := hok0 b (List.mem_cons_of_mem _ (List.mem_of_getElem? hb))
    obtain ⟨A2, m2, c2, y0, y1, hO2⟩ := hels (1 + j) hlt
    rw [Frame.body_at (l := l) (i := 1 + j) (b := b) (by rw [hbs, Nat.add_comm, List.getElem?_cons_succ]; exact hb)] at hO2
    have hm2 := Own.len hO2
    have hB1X : Below w1.heap.size w1 X := hB16.trans (hX.mono s6)
    have hcj : X.cell? ((x1.add ((1 + j) * 3)).add 1) = some (.slice A2 m2 c2) := by
      rw [Deep.add_add, Nat.mul_comm]
      exact (World.cell?_of_block (by rw [adb]; exact hB1X.block _ hx1l)).trans (hxc _ _ y1)
    have hO2X := hO2.below hB1X (Nat.le_refl _)
    ((conv => whnf); (repeat ((fail); (conv => whnf))))
    (repeat ((first | (refine VRead.atK hlt ?_) | (refine VRead.load1 hcj ?_) | (refine VL.cons ?_) | (refine VL.nil ?_) | (refine VC.seqS rfl ?_) | (refine VC.region ?_) | (refine VC.cond ?_) | (refine VC.block ?_) | (refine VC.skip ?_) | (refine VBool.dT (by omega) ?_) | (refine VRead.lenS ?_) | (refine VRead.fld ?_) | (refine VC.seq ?_)); (conv => whnf)))
    refine VSem.appO hO (Own.reads hO2X) (by omega) hX.size ?_
    intro A3 c3 X2 hO3 _ hB3
    ((conv => whnf); (repeat ((first | (refine VL.cons ?_) | (refine VL.nil ?_) | (refine VC.region ?_)); (conv => whnf))))
    ((repeat ((first | (refine VL.cons ?_) | (refine VL.nil ?_) | (refine VWrap.i64 (by omega) (by omega) ?_)); (conv => whnf))))
    refine ⟨_, by omega, j + 1, m + m2, A3, c3, ?_, rfl, by omega, by omega, ?_, hX.trans hB3⟩
    · rw [show 1 + (j + 1) = 1 + j + 1 by omega]
      rfl
    · rw [take_snoc hb, List.flatten_append]
      simpa using hO3
  rintro τ vs X ⟨md, Ad, cd, rfl, hOd, hX⟩
  have hmd := Own.len hOd
  have hB0X := hB06.trans (hX.mono hB06.size)
  obtain ⟨D, hD⟩ : ∃ D, cs.flatten = D := ⟨_, rfl⟩
  rw [hD] at hOd hmd
  by_cases hsd : (md : Int) = sz
  case neg =>
    rw [says_none hi (fun t d hs e => hno (X := False) (fun t d hs e1 e2 => by
      obtain ⟨a1, a2, a3, a4⟩ := sv_i64 hs
      rw [← e1] at a3
      rw [e2, chunks_flat] at hD
      subst hD
      exact hsd (by rw [← hsz, a3, hmd])) t d hs e)]
    ((conv => whnf); (repeat ((fail); (conv => whnf))))
    ((repeat ((first | (refine VL.cons ?_) | (refine VL.nil ?_) | (refine VC.seqS rfl ?_) | (refine VC.region ?_) | (refine VC.cond ?_) | (refine VC.ret ?_) | (refine VBool.nF (by omega) ?_) | (refine VRead.lenS ?_) | (refine VC.seq ?_)); (conv => whnf))))
    exact ⟨⟨_, _, _, _, _, rfl, rfl⟩, hB0X⟩
  subst hsd
  have hsv : SvOk i t D := ⟨hi.1, hi.2, c3', c4', by omega, by omega⟩
  ((conv => whnf); (repeat ((fail); (conv => whnf))))
  ((repeat ((first | (refine VL.cons ?_) | (refine VL.nil ?_) | (refine VC.seqS rfl ?_) | (refine VC.region ?_) | (refine VC.cond ?_) | (refine VC.skip ?_) | (refine VBool.nT (by omega) ?_) | (refine VRead.lenS ?_) | (refine VC.seq ?_)); (conv => whnf))))
  refine VCall.of (snFrames_any i t Ad md cd D X (by omega) q2 (Own.reads hOd) (by omega) hOd.cap) ?_
  rintro e X2 ⟨Af, kf, cf, rfl, hkf, hYf, hB2X⟩
  refine ⟨_, rfl, ?_⟩
  obtain ⟨fs, hfs⟩ : ∃ fs, hdB i t md :: chunks D = fs := ⟨_, rfl⟩
  have hfl : fs.length = kf := by rw [← hfs, List.length_cons]; omega
  have hcc := chunks_count 1049 D (by omega)
  have hbf : Frame.Ok1 fs := by
    have := hsv.bs
    rw [hmd, hfs] at this
    exact this
  rw [hfs] at hYf
  have hOd2 := hOd.below hB2X (Nat.le_refl _)
  have hB02X := hB0X.trans (hB2X.mono hB0X.size)
  ((conv => whnf); (repeat ((first | (refine VL.cons ?_) | (refine VL.nil ?_) | (refine VC.seqS rfl ?_) | (refine VC.region ?_)); (conv => whnf))))
  ((repeat ((fail); (conv => whnf))))
  refine VC.cut [16] [(16, 17), (89, 100)] (fun vs Z => ∃ (m : Nat) (A' : Option Addr) (c' : Nat), vs = [.slice A' m c'] ∧ Own Z X2.heap.size (.slice A' m c') m (Frame.laid fs) ∧ Below X2.heap.size X2 Z) (by kernel_rfl) ?_ ?_
  · ((conv => whnf); (repeat ((first | (refine VL.cons ?_) | (refine VL.nil ?_) | (refine VC.seqS rfl ?_) | (refine VC.region ?_) | (refine VC.block ?_)); (conv => whnf))))
    ((repeat ((fail); (conv => whnf))))
    refine VC.loop [16, 17] [(16, 17), (89, 100)] (fun q vs Z => ∃ (j m : Nat) (A' : Option Addr) (c' : Nat), vs = [.slice A' m c', .int .i64 (j : Int)] ∧ q = kf - j ∧ j ≤ kf ∧ m ≤ 1048620 * j ∧ Own Z X2.heap.size (.slice A' m c') m (Frame.laid (fs.take j)) ∧ Below X2.heap.size X2 Z) (by kernel_rfl)
      ⟨_, 0, 0, none, 0, rfl, rfl, by omega, by omega, Own.nil _ _, Below.refl _ _⟩ ?_
    rintro q τ vs Z ⟨j, m, A', c', rfl, rfl, hj, hm, hO, hZ⟩
    by_cases hlt : j < kf
    case neg =>
      rw [List.take_of_length_le (by omega)] at hO
      ((conv => whnf); (repeat ((fail); (conv => whnf))))
      ((repeat ((first | (refine VL.cons ?_) | (refine VL.nil ?_) | (refine VC.seqS rfl ?_) | (refine VC.region ?_) | (refine VC.cond ?_) | (refine VC.exit ?_) | (refine VBool.dF (by omega) ?_) | (refine VRead.lenS ?_) | (refine VC.seq ?_)); (conv => whnf))))
      exact ⟨m, A', c', rfl, hO, hZ⟩
    obtain ⟨b, hb⟩ : ∃ b, fs[j]? = some b := ⟨_, List.getElem?_eq_getElem (by omega)⟩
    have hbl2 := hbf b (List.mem_of_getElem? hb)
    have hpl2 := Frame.put_len b
    have hpi := (Wire.int_len (b.length : Int)).2
    obtain ⟨y, A2, m2, c2, rfl, hyl, hcj, hmc, hml, hL⟩ := (hYf.below hZ).at_ (i := j) (l := Frame.put b) (by rw [List.getElem?_map, hb]; rfl)
    ((conv => whnf); (repeat ((fail); (conv => whnf))))
    (repeat ((first | (refine VRead.at1 hlt ?_) | (refine VL.cons ?_) | (refine VL.nil ?_) | (refine VC.seqS rfl ?_) | (refine VC.region ?_) | (refine VC.cond ?_) | (refine VC.block ?_) | (refine VC.skip ?_) | (refine VBool.dT (by omega) ?_) | (refine VRead.lenS ?_) | (refine VRead.load1 (by assumption) ?_) | (refine VC.seq ?_)); (conv => whnf)))
    refine VSem.appO hO hL.1 (by omega) hZ.size ?_
    intro A3 c3 Z2 hO3 _ hB3
    ((conv => whnf); (repeat ((first | (refine VL.cons ?_) | (refine VL.nil ?_) | (refine VC.region ?_)); (conv => whnf))))
    ((repeat ((first | (refine VL.cons ?_) | (refine VL.nil ?_) | (refine VWrap.i64 (by omega) (by omega) ?_)); (conv => whnf))))
    refine ⟨_, by omega, j + 1, m + m2, A3, c3, rfl, rfl, by omega, by omega, ?_, hZ.trans hB3⟩
    rw [take_snoc hb, Frame.laid_append, Frame.laid_one]
    exact hO3
  rintro τ vs Z ⟨mw, Aw, cw, rfl, hOw, hZ⟩
  have hOd3 := hOd2.below hZ (Nat.le_refl _)
  have hB0Z := hB02X.trans (hZ.mono hB02X.size)
  have efile : Frame.laid fs = fileB i t D := by unfold fileB; rw [hmd, hfs]
  rw [efile] at hOw
  have hE9 : Below Z.heap.size Z (Z.drewN 1) := below_drewN (Below.refl _ _) 1
  have hrZ := (hr.below hB0Z).more hB0Z.size
  have hrw := Own.reads hOw
  ((conv => whnf); (repeat ((fail); (conv => whnf))))
  ((repeat ((first | (refine VC.draw ?_) | (refine VC.seq ?_)); (conv => whnf))))
  refine VDraw.seg (fun V => Below Z.heap.size Z V) [] [0, 1, 2, 3, 4, 5, 6, 7, 8, 9] (by kernel_rfl) (by kernel_rfl) hE9 ?_
  (conv => whnf)
  (repeat ((first | (refine VRead.convT (fun V hV => hrw.below hV) ?_) | (refine VRead.convT (fun V hV => hrZ.below hV) ?_) | (refine VC.ret ?_) | (refine VQ.cons ?_) | (refine VQ.nil ?_) | (refine VG.nil ?_)); (conv => whnf)))
  refine ⟨⟨t, Ad, md, cd, decide (txt (fileB i t D) = txt l), rfl, ?_⟩, hB0Z.trans (hE9.mono hB0Z.size)⟩
  by_cases hfin : fileB i t D = l
  · rw [← hfin, says_file hsv]
    refine ⟨decide_eq_true rfl, rfl, hmd.symm, ?_⟩
    exact rows_more (rows_below hOd3 hE9 (Nat.le_refl _)) hB06.size
  · rw [says_none hi (fun t' d' hs e => hno (X := False) (fun t' d' hs e1 e2 => by
      obtain ⟨a1, a2, a3, a4⟩ := sv_i64 hs
      rw [← e1, ht] at a2
      rw [e2, chunks_flat] at hD
      subst a2 hD
      apply hfin
      rw [e0, e1, e2]
      rfl) t' d' hs e)]
    exact decide_eq_false (fun e => hfin (txt_inj.1 e))
set_option maxHeartbeats 4000000 in
theorem refNewest_any (W : World) (U : Foot) (r : Nat) (S : DS) (h : Rsk W U r S) :
    Calls Try.prog 71 #[.pointer (some ⟨r, 0, none⟩)] W fun e W' => (∃ i t v, e = .returned (.tuple #[.int .i64 i, .int .i64 t, v, .int .i64 (snErr (newest S.t))]) ∧ SnV W' W.heap.size (newest S.t) i t v) ∧ Below W.heap.size W W' := by
  have hfew := h.wf.t.few
  have hris := h.wf.t.ris
  have hroom := h.wf.k.room
  have hfit := h.wf.t.fit
  refine calls_vc Try.func71 rfl (by kernel_rfl) ?_
  ((conv => whnf); (repeat ((first | (refine VL.cons ?_) | (refine VL.nil ?_) | (refine VC.seqS rfl ?_) | (refine VC.region ?_)); (conv => whnf))))
  ((repeat ((fail); (conv => whnf))))
  refine VCall.of (pList W U r S h) ?_
  rintro e W1 ⟨Al, kl, rfl, hOl, hB1⟩
  refine ⟨_, rfl, ?_⟩
  have s1 := hB1.size
  ((conv => whnf); (repeat ((first | (refine VL.cons ?_) | (refine VL.nil ?_)); (conv => whnf))))
  ((repeat ((first | (refine VL.cons ?_) | (refine VL.nil ?_) | (refine VC.seqS rfl ?_) | (refine VC.region ?_) | (refine VC.block ?_) | (refine VRead.lenS ?_) | (refine VWrap.i64 (by omega) (by omega) ?_) | (refine VC.seq ?_)); (conv => whnf))))
  refine VC.loop [7] [(2, 5), (7, 14), (20, 53)] (fun q vs X => ∃ j : Nat, vs = [.int .i64 ((j : Int) - 1)] ∧ q = j ∧ j ≤ S.t.length ∧ newest S.t = newest (S.t.take j) ∧ Below W1.heap.size W1 X) (by kernel_rfl)
    ⟨_, S.t.length, rfl, rfl, Nat.le_refl _, by rw [List.take_length], Below.refl _ _⟩ ?_
  rintro j τ vs X ⟨_, rfl, rfl, hj, hnw, hB⟩
  have hB0 := hB1.trans (hB.mono s1)
  by_cases hj0 : j = 0
  · subst hj0
    have e1 : newest S.t = none := by rw [hnw]; rfl
    ((conv => whnf); (repeat ((fail); (conv => whnf))))
    ((repeat ((first | (refine VL.cons ?_) | (refine VL.nil ?_) | (refine VC.seqS rfl ?_) | (refine VC.region ?_) | (refine VC.cond ?_) | (refine VC.exit ?_) | (refine VC.ret ?_) | (refine VBool.f ?_) | (refine VC.seq ?_)); (conv => whnf))))
    refine VRes.tmp4 ?_
    rw [e1]
    exact ⟨⟨0, 0, .slice none 0 0, rfl, ⟨rfl, rfl, rfl⟩⟩, hB0⟩
  obtain ⟨i, rfl⟩ : ∃ i, j = i + 1 := ⟨j - 1, by omega⟩
  have hil : i < S.t.length := by omega
  obtain ⟨p, hp⟩ : ∃ p, S.t[i]? = some p := ⟨_, List.getElem?_eq_getElem hil⟩
  have hpm := List.mem_of_getElem? hp
  have hpn := (h.wf.t.names p hpm).2
  have hpu := len_used hpm
  obtain ⟨ad, u, rfl, _, hu, hcell⟩ := ((Reads.row hOl).below hB).at_ hil
  obtain ⟨x', hx', rfl⟩ := map_at hu
  rw [List.getElem?_map, hp] at hx'
  obtain rfl := Option.some.inj hx'
  have hcell' : X.cell? (ad.add i) = some (.string (txt p.1)) := hcell
  have e1 : ((i + 1 : Nat) : Int) - 1 = (i : Int) := by omega
  rw [e1]
  ((conv => whnf); (repeat ((fail); (conv => whnf))))
  (repeat (first | ((first | (refine VL.cons ?_) | (refine VL.nil ?_) | (refine VC.seqS rfl ?_) | (refine VC.region ?_) | (refine VC.cond ?_) | (refine VC.block ?_) | (refine VC.skip ?_) | (refine VBool.t ?_) | (refine VRead.load1 (by assumption) ?_) | (refine VRead.at1 (by omega) ?_) | (refine VC.seq ?_)); (conv => whnf)) | (refine VRead.at1 hil ?_; (conv => whnf))))
  refine VCall.of (refSnNumber_any p.1 X (by omega)) ?_
  rintro e X' ⟨rfl, eW⟩
  obtain rfl := eW.symm
  refine ⟨_, rfl, ?_⟩
  cases hN : snNum p.1 with
  | none =>
    have e2 := newest_skip hp (fun acc => by unfold newStep; rw [hN])
    ((conv => whnf); (repeat ((first | (refine VL.cons ?_) | (refine VL.nil ?_)); (conv => whnf))))
    ((repeat ((first | (refine VL.cons ?_) | (refine VL.nil ?_) | (refine VC.seqS rfl ?_) | (refine VC.region ?_) | (refine VC.cond ?_) | (refine VC.exit ?_) | (refine VBool.t ?_) | (refine VWrap.i64 (by omega) (by omega) ?_) | (refine VC.seq ?_)); (conv => whnf))))
    exact ⟨_, by omega, i, rfl, rfl, by omega, hnw.trans e2, hB⟩
  | some k =>
    obtain ⟨_, hk1, hk2⟩ := snNum_some hN
    have hX := h.below hB0
    ((conv => whnf); (repeat ((first | (refine VL.cons ?_) | (refine VL.nil ?_)); (conv => whnf))))
    (repeat (first | ((first | (refine VL.cons ?_) | (refine VL.nil ?_) | (refine VC.seqS rfl ?_) | (refine VC.region ?_) | (refine VC.cond ?_) | (refine VC.skip ?_) | (refine VBool.f ?_) | (refine VRead.load1 (by assumption) ?_) | (refine VRead.at1 (by omega) ?_) | (refine VC.seq ?_)); (conv => whnf)) | (refine VRead.at1 hil ?_; (conv => whnf))))
    refine VCall.of (pRead X U r S p.1 hX) ?_
    rintro e X2 ⟨u3, rfl, hrd, hB2⟩
    refine ⟨_, rfl, ?_⟩
    unfold readR at hrd
    rw [tfind_of hris.nd (show (p.1, p.2) ∈ S.t from hpm)] at hrd
    obtain ⟨A3, k3, rfl, hO3⟩ := hrd
    have hB02 := hB0.trans (hB2.mono hB0.size)
    have hB12 := hB.trans (hB2.mono hB.size)
    ((conv => whnf); (repeat ((first | (refine VL.cons ?_) | (refine VL.nil ?_) | (refine VC.seqS rfl ?_) | (refine VC.region ?_)); (conv => whnf))))
    ((repeat ((fail); (conv => whnf))))
    refine VCall.of (refSays_any A3 p.2.b.length k3 p.2.b (k : Int) X2 (by omega) hO3.cap hO3.reads (by omega)) ?_
    rintro e X3 ⟨⟨t, A4, m4, c4, ok, rfl, hm⟩, hB3⟩
    refine ⟨_, rfl, ?_⟩
    have hB03 := hB02.trans (hB3.mono hB02.size)
    have hB13 := hB12.trans (hB3.mono hB12.size)
    cases hs : saysS p.2.b (k : Int) with
    | none =>
      rw [hs] at hm
      simp only at hm
      subst hm
      have e2 := newest_skip hp (fun acc => by unfold newStep; rw [hN]; simp only; rw [hs])
      ((conv => whnf); (repeat ((first | (refine VL.cons ?_) | (refine VL.nil ?_) | (refine VC.seqS rfl ?_) | (refine VC.region ?_) | (refine VC.cond ?_)); (conv => whnf))))
      ((repeat ((first | (refine VL.cons ?_) | (refine VL.nil ?_) | (refine VC.region ?_) | (refine VC.skip ?_) | (refine VBool.f ?_) | (refine VWrap.i64 (by omega) (by omega) ?_)); (conv => whnf))))
      exact ⟨_, by omega, i, rfl, rfl, by omega, hnw.trans e2, hB13⟩
    | some y =>
      rw [hs] at hm
      simp only at hm
      obtain ⟨rfl, rfl, rfl, hO4⟩ := hm
      have e2 : newest S.t = some (k, y.1, y.2) := hnw.trans (newest_hit hp (fun acc => by unfold newStep; rw [hN]; simp only; rw [hs]))
      ((conv => whnf); (repeat ((first | (refine VL.cons ?_) | (refine VL.nil ?_) | (refine VC.seqS rfl ?_) | (refine VC.region ?_) | (refine VC.cond ?_)); (conv => whnf))))
      ((repeat ((first | (refine VL.cons ?_) | (refine VL.nil ?_) | (refine VC.seqS rfl ?_) | (refine VC.region ?_) | (refine VC.ret ?_) | (refine VBool.t ?_)); (conv => whnf))))
      refine VRes.tmp4 ?_
      rw [e2]
      exact ⟨⟨(k : Int), y.1, .slice A4 y.2.length c4, rfl, ⟨rfl, hk1, hk2, rfl, A4, c4, rfl, rows_more hO4 (by have := hB02.size; omega)⟩⟩, hB03⟩
end Go.Proofs.Ytebeidnmplnlpaa
end

section
set_option maxRecDepth 10000
namespace Go.Proofs.Ytebeidnmplnlpaa
set_option linter.unusedVariables false
open Go.RowKit

theorem sameTexts_any (A B : Option Addr) (n c m k : Nat) (l l2 : List (List UInt8)) (w : World) (h1 : Reads w w.heap.size 1 A n (l.map encStr)) (h2 : Reads w w.heap.size 1 B m (l2.map encStr)) (hn : n ≤ 1000000000) :
    Calls Try.prog 68 #[.slice A n c, .slice B m k] w fun e w' => e = .returned (.bool (decide (l = l2))) ∧ Below w.heap.size w w' := by
  have hl : l.length = n := by have := h1.1; simp at this; omega
  have hl2 : l2.length = m := by have := h2.1; simp at this; omega
  refine calls_vc Try.func68 rfl (by kernel_rfl) ?_
  by_cases hnm : n = m
  case neg =>
    rw [decide_eq_false (p := l = l2) (fun e => hnm (by rw [← hl, ← hl2, e]))]
    ((conv => whnf); (repeat ((first | (refine VL.cons ?_) | (refine VL.nil ?_) | (refine VC.seqS rfl ?_) | (refine VC.region ?_)); (conv => whnf))))
    ((repeat ((first | (refine VL.cons ?_) | (refine VL.nil ?_) | (refine VC.seqS rfl ?_) | (refine VC.region ?_) | (refine VC.cond ?_) | (refine VC.ret ?_) | (refine VBool.nF (by omega) ?_) | (refine VRead.lenS ?_) | (refine VC.seq ?_)); (conv => whnf))))
    exact ⟨rfl, Below.refl _ _⟩
  subst hnm
  ((conv => whnf); (repeat ((first | (refine VL.cons ?_) | (refine VL.nil ?_) | (refine VC.seqS rfl ?_) | (refine VC.region ?_)); (conv => whnf))))
  ((repeat ((first | (refine VL.cons ?_) | (refine VL.nil ?_) | (refine VC.seqS rfl ?_) | (refine VC.region ?_) | (refine VC.cond ?_) | (refine VC.block ?_) | (refine VC.skip ?_) | (refine VBool.nT (by omega) ?_) | (refine VRead.lenS ?_) | (refine VC.seq ?_)); (conv => whnf))))
  refine VC.loop [5] [(4, 5), (11, 25)] (fun q vs W => ∃ i : Nat, vs = [.int .i64 (i : Int)] ∧ q = n - i ∧ i ≤ n ∧ l.take i = l2.take i ∧ ∃ N, W = w.drewN N) (by kernel_rfl) ⟨_, 0, rfl, rfl, by omega, by simp, 0, rfl⟩ ?_
  rintro q τ vs W ⟨i, rfl, rfl, hi, heq, N, rfl⟩
  have hB : Below w.heap.size w (w.drewN N) := below_drewN (Below.refl _ _) N
  by_cases hlt : i < n
  · obtain ⟨a1, u1, rfl, _, hu1, hc1⟩ := h1.at_ hlt
    obtain ⟨a2, u2, rfl, _, hu2, hc2⟩ := h2.at_ hlt
    obtain ⟨x, hx, rfl⟩ := map_at hu1
    obtain ⟨y, hy, rfl⟩ := map_at hu2
    have hc1' : ((w.drewN N).drewN 1).cell? (a1.add i) = some (encStr x) := hc1
    have hc2' : ((w.drewN N).drewN 1).cell? (a2.add i) = some (encStr y) := hc2
    by_cases hxy : x = y
    · subst hxy
      ((conv => whnf); (repeat ((fail); (conv => whnf))))
      ((repeat ((first | (refine VL.cons ?_) | (refine VL.nil ?_) | (refine VC.seqS rfl ?_) | (refine VC.region ?_) | (refine VC.draw ?_) | (refine VC.cond ?_) | (refine VC.block ?_) | (refine VC.skip ?_) | (refine VBool.dT (by omega) ?_) | (refine VRead.lenS ?_) | (refine VC.seq ?_)); (conv => whnf))))
      (refine VDraw.seg (Eq (World.drewN _ 1)) [] [0, 1, 2, 3, 4, 5, 6, 7, 8] (by kernel_rfl) (by kernel_rfl) rfl ?_; (conv => whnf))
      ((repeat ((first | (refine VL.cons ?_) | (refine VL.nil ?_) | (refine VC.region ?_) | (refine VC.cond ?_) | (refine VC.skip ?_) | (refine VQ.cons ?_) | (refine VQ.nil ?_) | (refine VG.nil ?_) | (refine VRead.load1 (by assumption) ?_) | (refine VBool.nT rfl ?_) | (refine VWrap.i64 (by omega) (by omega) ?_) | (refine VRead.at1 (by omega) ?_)); (conv => whnf))))
      exact ⟨_, by omega, i + 1, rfl, rfl, by omega, by rw [take_snoc hx, take_snoc hy, heq], N + 1, rfl⟩
    · rw [decide_eq_false (p := l = l2) (fun e => hxy (by rw [e, hy] at hx; exact (Option.some.inj hx).symm))]
      have hne : ¬ (⟨x.toArray⟩ : ByteArray) = ⟨y.toArray⟩ := fun h => hxy (txt_inj.1 h)
      ((conv => whnf); (repeat ((fail); (conv => whnf))))
      ((repeat ((first | (refine VL.cons ?_) | (refine VL.nil ?_) | (refine VC.seqS rfl ?_) | (refine VC.region ?_) | (refine VC.draw ?_) | (refine VC.cond ?_) | (refine VC.block ?_) | (refine VC.skip ?_) | (refine VBool.dT (by omega) ?_) | (refine VRead.lenS ?_) | (refine VC.seq ?_)); (conv => whnf))))
      (refine VDraw.seg (Eq (World.drewN _ 1)) [] [0, 1, 2, 3, 4, 5, 6, 7, 8] (by kernel_rfl) (by kernel_rfl) rfl ?_; (conv => whnf))
      (repeat (first | ((first | (refine VL.cons ?_) | (refine VL.nil ?_) | (refine VC.seqS rfl ?_) | (refine VC.region ?_) | (refine VC.cond ?_) | (refine VC.ret ?_) | (refine VQ.cons ?_) | (refine VQ.nil ?_) | (refine VG.nil ?_) | (refine VBool.nF (by omega) ?_) | (refine VRead.load1 (by assumption) ?_) | (refine VRead.at1 (by omega) ?_)); (conv => whnf)) | (refine VBool.nF hne ?_; (conv => whnf))))
      exact ⟨rfl, below_drewN hB 1⟩
  · obtain rfl : i = n := by omega
    rw [List.take_of_length_le (by omega), List.take_of_length_le (by omega)] at heq
    rw [decide_eq_true (p := l = l2) heq]
    ((conv => whnf); (repeat ((fail); (conv => whnf))))
    ((repeat ((first | (refine VL.cons ?_) | (refine VL.nil ?_) | (refine VC.seqS rfl ?_) | (refine VC.region ?_) | (refine VC.cond ?_) | (refine VC.exit ?_) | (refine VC.ret ?_) | (refine VBool.dF (by omega) ?_) | (refine VRead.lenS ?_) | (refine VC.seq ?_)); (conv => whnf))))
    exact ⟨rfl, hB⟩
end Go.Proofs.Ytebeidnmplnlpaa
end

section
set_option maxRecDepth 10000
namespace Go.Proofs.Ytebeidnmplnlpaa
set_option linter.unusedVariables false
open Go.RowKit

set_option maxHeartbeats 4000000 in
theorem same19_any (W : World) (U V : Foot) (d r : Nat) (S : DS) (hD : Dsk W U d S) (hR : Rsk W V r S) :
    Calls Try.prog 34 #[.pointer (some ⟨d, 0, none⟩), .pointer (some ⟨r, 0, none⟩)] W fun e W' => e = .returned (.bool true) ∧ Below W.heap.size W W' := by
  have hfew := hD.wf.t.few
  have hris := hD.wf.t.ris
  obtain ⟨_, A, c, xs, hRA⟩ := id hR.ref
  have hb : Blk W r 98 #[.slice A S.t.length c, .int .i64 S.k.room, .int .i64 S.k.calls, .bool S.k.armed, .int .i64 S.k.kind, .int .i64 S.k.after, .bool S.k.off] := hRA.blk
  refine calls_vc Try.func34 rfl (by kernel_rfl) ?_
  ((conv => whnf); (repeat ((first | (refine VL.cons ?_) | (refine VL.nil ?_) | (refine VC.seqS rfl ?_) | (refine VC.region ?_)); (conv => whnf))))
  ((repeat ((fail); (conv => whnf))))
  refine VCall.of (oList W U d S hD) ?_
  rintro e W1 ⟨A1, k1, rfl, hO1, hB1⟩
  refine ⟨_, rfl, ?_⟩
  have hS0 : Below W.heap.size W (W1.drewN 1) := below_drewN hB1 1
  have kB : ∀ X, Below W.heap.size W X → Blk X r 98 #[.slice A S.t.length c, .int .i64 S.k.room, .int .i64 S.k.calls, .bool S.k.armed, .int .i64 S.k.kind, .int .i64 S.k.after, .bool S.k.off] := fun X hX => hb.below hX hb.lt
  have hd1 : Below W1.heap.size W1 (W1.drewN 1) := below_drewN (Below.refl _ _) 1
  replace hO1 := rows_below hO1 hd1 (Nat.le_refl _)
  ((conv => whnf); (repeat ((first | (refine VL.cons ?_) | (refine VL.nil ?_)); (conv => whnf))))
  ((repeat ((first | (refine VC.draw ?_) | (refine VC.seq ?_)); (conv => whnf))))
  refine VDraw.seg (fun X => Below W.heap.size W X) [([0, 1], 2), ([], 3), ([4, 5, 6, 8, 9, 10, 11], 7)] [12, 13] (by kernel_rfl) (by kernel_rfl) hS0 ?_
  generalize W1.drewN 1 = X1 at *
  (conv => whnf)
  ((repeat ((first | (refine VQ.cons ?_) | (refine VQ.nil ?_) | (refine VG.cons ?_)); (conv => whnf))))
  refine VCall.of (pList X1 V r S (hR.below hS0)) ?_
  rintro e X2 ⟨A2, k2, rfl, hO2, hB2⟩
  refine ⟨_, rfl, ?_⟩
  have hS2 := hS0.trans (hB2.mono hS0.size)
  have hO12 := rows_below hO1 hB2 (Nat.le_refl _)
  (conv => whnf)
  refine Keep.mk hS2 ?_
  (conv => whnf)
  ((repeat ((first | (refine VQ.nil ?_) | (refine VG.cons ?_)); (conv => whnf))))
  refine VCall.of (sameTexts_any A1 A2 _ k1 _ k2 (S.t.map (·.1)) (S.t.map (·.1)) X2 (Reads.row hO12) (Reads.row hO2) (by omega)) ?_
  rintro e X3 ⟨rfl, hB3⟩
  refine ⟨_, rfl, ?_⟩
  rw [decide_eq_true rfl]
  have hS3 := hS2.trans (hB3.mono hS2.size)
  have hO13 := rows_below hO12 hB3 (Nat.le_refl _)
  (conv => whnf)
  refine Keep.mk hS3 ?_
  (conv => whnf)
  (repeat ((first | (refine VRead.loadBS kB rfl rfl ?_) | (refine VQ.cons ?_) | (refine VQ.nil ?_) | (refine VG.cons ?_) | (refine VBool.f ?_) | (refine VRead.fld ?_)); (conv => whnf)))
  refine VCall.of (oCalls X3 U d S (hD.below hS3)) ?_
  rintro e X3' ⟨rfl, eW⟩
  obtain rfl := eW.symm
  refine ⟨_, rfl, ?_⟩
  (conv => whnf)
  refine Keep.mk hS3 ?_
  (conv => whnf)
  ((repeat ((first | (refine VC.cond ?_) | (refine VC.skip ?_) | (refine VQ.cons ?_) | (refine VQ.nil ?_) | (refine VG.nil ?_) | (refine VBool.f ?_) | (refine VBool.nT (by omega) ?_)); (conv => whnf))))
  refine VC.cut [] [(4, 4), (6, 10), (35, 63)] (fun vs X => vs = [] ∧ Below W.heap.size W X) (by kernel_rfl) ?_ ?_
  · ((conv => whnf); (repeat ((first | (refine VL.cons ?_) | (refine VL.nil ?_) | (refine VC.seqS rfl ?_) | (refine VC.region ?_) | (refine VC.block ?_)); (conv => whnf))))
    ((repeat ((fail); (conv => whnf))))
    refine VC.loop [6] [(4, 4), (6, 10), (35, 63)] (fun q vs w => ∃ i : Nat, vs = [.int .i64 (i : Int)] ∧ q = S.t.length - i ∧ i ≤ S.t.length ∧ Below W.heap.size W w ∧ w.ownsRow W.heap.size 9 1 (.slice A1 S.t.length k1) S.t.length ((S.t.map (·.1)).map encStr)) (by kernel_rfl) ⟨_, 0, rfl, rfl, by omega, hS3, hO13⟩ ?_
    rintro q τ vs w ⟨i, rfl, rfl, hi, hBw, hO⟩
    by_cases hlt : i < S.t.length
    case neg =>
      ((conv => whnf); (repeat ((fail); (conv => whnf))))
      ((repeat ((first | (refine VL.cons ?_) | (refine VL.nil ?_) | (refine VC.seqS rfl ?_) | (refine VC.region ?_) | (refine VC.cond ?_) | (refine VC.exit ?_) | (refine VBool.dF (by omega) ?_) | (refine VRead.lenS ?_) | (refine VC.seq ?_)); (conv => whnf))))
      exact ⟨rfl, hBw⟩
    obtain ⟨p, hp⟩ : ∃ p, S.t[i]? = some p := ⟨_, List.getElem?_eq_getElem hlt⟩
    have hpm := List.mem_of_getElem? hp
    have hpn := (hD.wf.t.names p hpm).2
    obtain ⟨ad, u, rfl, had, hu, hcell⟩ := (Reads.row hO).at_ hlt
    obtain ⟨x', hx', rfl⟩ := map_at hu
    rw [List.getElem?_map, hp] at hx'
    obtain rfl := Option.some.inj hx'
    have hcell' : w.cell? (ad.add i) = some (.string (txt p.1)) := hcell
    ((conv => whnf); (repeat ((fail); (conv => whnf))))
    (repeat (first | ((first | (refine VL.cons ?_) | (refine VL.nil ?_) | (refine VC.seqS rfl ?_) | (refine VC.region ?_) | (refine VC.cond ?_) | (refine VC.block ?_) | (refine VC.skip ?_) | (refine VBool.dT (by omega) ?_) | (refine VRead.lenS ?_) | (refine VRead.load1 (by assumption) ?_) | (refine VRead.at1 (by omega) ?_) | (refine VC.seq ?_)); (conv => whnf)) | (refine VRead.at1 hlt ?_; (conv => whnf))))
    refine VCall.of (oRead w U d S p.1 (hD.below hBw) (by omega)) ?_
    rintro e w2 ⟨v, rfl, hv, hb2⟩
    refine ⟨_, rfl, ?_⟩
    have hB2' := hBw.trans (hb2.mono hBw.size)
    have hc2 : w2.cell? (ad.add i) = some (.string (txt p.1)) := (World.cell?_of_block (by rw [adb]; exact hb2.block _ had)).trans hcell'
    unfold readR at hv
    rw [tfind_of hris.nd (show (p.1, p.2) ∈ S.t from hpm)] at hv
    obtain ⟨A5, k5, rfl, hO5⟩ := hv
    ((conv => whnf); (repeat ((first | (refine VL.cons ?_) | (refine VL.nil ?_) | (refine VC.seqS rfl ?_) | (refine VC.region ?_)); (conv => whnf))))
    (repeat (first | ((first | (refine VL.cons ?_) | (refine VRead.load1 (by assumption) ?_) | (refine VRead.at1 (by omega) ?_)); (conv => whnf)) | (refine VRead.at1 hlt ?_; (conv => whnf))))
    refine VCall.of (pRead w2 V r S p.1 (hR.below hB2')) ?_
    rintro e w3 ⟨v2, rfl, hv2, hb3⟩
    refine ⟨_, rfl, ?_⟩
    have hB3' := hB2'.trans (hb3.mono hB2'.size)
    unfold readR at hv2
    rw [tfind_of hris.nd (show (p.1, p.2) ∈ S.t from hpm)] at hv2
    obtain ⟨A6, k6, rfl, hO6⟩ := hv2
    have hO53 := rows_below hO5 hb3 (Nat.le_refl _)
    have hO3' := rows_below (rows_below hO hb2 (Nat.le_refl _)) hb3 (Nat.le_refl _)
    ((conv => whnf); (repeat ((first | (refine VL.cons ?_) | (refine VL.nil ?_) | (refine VC.seqS rfl ?_) | (refine VC.region ?_)); (conv => whnf))))
    ((repeat ((fail); (conv => whnf))))
    refine VSem.convT (Own.reads hO53) ?_
    ((conv => whnf); (repeat ((first | (refine VL.cons ?_)); (conv => whnf))))
    ((repeat ((fail); (conv => whnf))))
    refine VSem.convT (Own.reads hO6) ?_
    ((conv => whnf); (repeat ((first | (refine VL.cons ?_) | (refine VL.nil ?_) | (refine VC.cond ?_)); (conv => whnf))))
    ((repeat ((first | (refine VL.cons ?_) | (refine VL.nil ?_) | (refine VC.region ?_) | (refine VC.skip ?_) | (refine VBool.nT rfl ?_) | (refine VWrap.i64 (by omega) (by omega) ?_)); (conv => whnf))))
    exact ⟨_, by omega, i + 1, rfl, rfl, by omega, hB3', hO3'⟩
  rintro τ vs w ⟨rfl, hBw⟩
  ((conv => whnf); (repeat ((first | (refine VL.cons ?_) | (refine VC.seqS rfl ?_) | (refine VC.region ?_)); (conv => whnf))))
  ((repeat ((fail); (conv => whnf))))
  refine VCall.of (snapNewest_any w U d S (hD.below hBw)) ?_
  rintro e w2 ⟨⟨i4, t4, v4, rfl, hV⟩, hb2⟩
  have hB2' := hBw.trans (hb2.mono hBw.size)
  cases hn : newest S.t with
  | none =>
    rw [hn] at hV
    obtain ⟨rfl, rfl, rfl⟩ := hV
    refine ⟨_, rfl, ?_⟩
    ((conv => whnf); (repeat ((first | (refine VL.cons ?_) | (refine VL.nil ?_) | (refine VC.seqS rfl ?_) | (refine VC.region ?_)); (conv => whnf))))
    ((repeat ((fail); (conv => whnf))))
    refine VCall.of (refNewest_any w2 V r S (hR.below hB2')) ?_
    rintro e w3 ⟨⟨i5, t5, v5, rfl, hV5⟩, hb3⟩
    refine ⟨_, rfl, ?_⟩
    rw [hn] at hV5 ⊢
    obtain ⟨rfl, rfl, rfl⟩ := hV5
    have hB3' := hB2'.trans (hb3.mono hB2'.size)
    unfold snErr
    ((conv => whnf); (repeat ((first | (refine VL.cons ?_) | (refine VL.nil ?_) | (refine VC.seqS rfl ?_) | (refine VC.region ?_)); (conv => whnf))))
    ((repeat ((first | (refine VL.cons ?_) | (refine VBool.t ?_)); (conv => whnf))))
    refine VSem.convT (Own.nil w3 0).reads ?_
    ((conv => whnf); (repeat ((first | (refine VL.cons ?_)); (conv => whnf))))
    ((repeat ((first | (refine VL.cons ?_) | (refine VBool.t ?_)); (conv => whnf))))
    refine VSem.convT (Own.nil w3 0).reads ?_
    ((conv => whnf); (repeat ((first | (refine VL.cons ?_)); (conv => whnf))))
    ((repeat ((first | (refine VL.cons ?_) | (refine VL.nil ?_) | (refine VC.ret ?_) | (refine VBool.t ?_)); (conv => whnf))))
    exact ⟨rfl, hB3'⟩
  | some y =>
    rw [hn] at hV
    obtain ⟨rfl, g1, g2, rfl, A7, c7, rfl, hO7⟩ := hV
    refine ⟨_, rfl, ?_⟩
    ((conv => whnf); (repeat ((first | (refine VL.cons ?_) | (refine VL.nil ?_) | (refine VC.seqS rfl ?_) | (refine VC.region ?_)); (conv => whnf))))
    ((repeat ((fail); (conv => whnf))))
    refine VCall.of (refNewest_any w2 V r S (hR.below hB2')) ?_
    rintro e w3 ⟨⟨i5, t5, v5, rfl, hV5⟩, hb3⟩
    refine ⟨_, rfl, ?_⟩
    rw [hn] at hV5 ⊢
    obtain ⟨rfl, _, _, rfl, A8, c8, rfl, hO8⟩ := hV5
    have hB3' := hB2'.trans (hb3.mono hB2'.size)
    have hO73 := rows_below hO7 hb3 (Nat.le_refl _)
    unfold snErr
    ((conv => whnf); (repeat ((first | (refine VL.cons ?_) | (refine VL.nil ?_) | (refine VC.seqS rfl ?_) | (refine VC.region ?_)); (conv => whnf))))
    ((repeat ((first | (refine VL.cons ?_) | (refine VBool.t ?_) | (refine VBool.dT (by omega) ?_)); (conv => whnf))))
    refine VSem.convT (Own.reads hO73) ?_
    ((conv => whnf); (repeat ((first | (refine VL.cons ?_)); (conv => whnf))))
    ((repeat ((first | (refine VL.cons ?_) | (refine VBool.t ?_)); (conv => whnf))))
    refine VSem.convT (Own.reads hO8) ?_
    ((conv => whnf); (repeat ((first | (refine VL.cons ?_)); (conv => whnf))))
    ((repeat ((first | (refine VL.cons ?_) | (refine VL.nil ?_) | (refine VC.ret ?_) | (refine VBool.t ?_) | (refine VBool.dT rfl ?_)); (conv => whnf))))
    exact ⟨rfl, hB3'⟩
end Go.Proofs.Ytebeidnmplnlpaa
end

section
set_option maxRecDepth 10000
namespace Go.Proofs.Ytebeidnmplnlpaa
set_option linter.unusedVariables false
open Go.ChangeShapes Go.WideShapes Go.ChangeAt Go.RowKit

/-- elements of k cells each lie where a slice says -/
def ListAt {α : Type} (W : World) (B k : Nat) (E : α → List Value → Prop) (A : Option Addr) (n : Nat) (l : List α) : Prop :=
  l.length = n ∧ (0 < n → ∃ x, A = some x ∧ x.block < B ∧ ∀ i a, l[i]? = some a → ∃ cs, E a cs ∧ ∀ j u, cs[j]? = some u → W.cell? (x.add (k * i + j)) = some u)
theorem add_blkO (x : Addr) (j : Nat) : (x.add j).block = x.block := by unfold Addr.add; split <;> rfl
section
variable {H : Type} {enc : TypeId × Value → H}
theorem cell_in {W : World} {x : Addr} {u : Value} (h : W.cell? x = some u) : x.block < W.heap.size := by
  unfold World.cell? at h
  cases hb : W.heap[x.block]? with
  | none => rw [hb] at h; cases h
  | some o => exact (Array.getElem?_eq_some_iff.1 hb).1
theorem weights_in {P : Program} {e : TypeId} : ∀ {ds : List (DataW H)} {d : DataW H}, d ∈ ds → ∀ n ∈ d.weights P e, n ∈ DataW.weightsAll P e ds
  | d0 :: ds, d, h, n, hn => by
    simp only [DataW.weightsAll, List.mem_append]
    rcases List.mem_cons.1 h with rfl | h
    · exact .inl hn
    · exact .inr (weights_in h n hn)
/-- bytes -/
def EBy (W : World) (l : List UInt8) (cs : List Value) : Prop := ∃ A m c, cs = [.slice A m c] ∧ m ≤ c ∧ c ≤ 140737488351232 ∧ Reads W W.heap.size 1 A m (bv l)
theorem EBy.open {W : World} {n : Nat} {cs : List Value} {y : DataW H × List MemPlace} (h : DataW.trod enc Try.prog W 0 (fun _ => true) true n 31 cs = some y) (hw : ∀ x ∈ y.1.weights Try.prog 31, x ≤ reachBytes) (hl1 : cs.length = 1) : ∃ l, EBy W l cs := by
  obtain ⟨c, rfl⟩ : ∃ c, cs = [c] := by
    match cs, hl1 with
    | [c], _ => exact ⟨c, rfl⟩
  rcases open_ints Try.underlying31 Try.underlying5 (by kernel_rfl) h with ⟨hcs, hx⟩ | ⟨x, l, c', zs, hcs, _, hl, hm, hz, hx, hcell, hwz⟩
  · simp at hcs
    obtain rfl := hcs
    exact ⟨[], none, 0, 0, rfl, Nat.le_refl _, by omega, Reads.none_⟩
  · simp at hcs
    obtain rfl := hcs
    simp only [if_true] at hz
    subst hx
    have h1 := hw _ (by simp only [DataW.weights]; rw [Try.underlying31]; exact List.mem_cons_self ..)
    simp [lits, reachBytes] at h1
    rw [show Try.prog.bytesOf 5 = 1 from by kernel_rfl] at h1
    have hb : ∀ i, i < l → ∃ b : UInt8, W.cell? (x.add i) = some (.int .u8 (b.toNat : Int)) := fun i hi => by
      have h1 := hcell i (by omega)
      have h2 := hwz (zs.getD i 0) (by
        rw [List.getD_eq_getElem?_getD, List.getElem?_eq_getElem (by omega)]
        exact List.getElem_mem _)
      obtain ⟨b, hb⟩ := u8_nat h2
      exact ⟨b, by rw [h1, hb]⟩
    obtain ⟨f, hf⟩ := Deep.choose_lt hb
    refine ⟨(List.range l).map f, some x, l, c', rfl, hl, by omega, by simp [bv], fun hn => ⟨x, rfl, ?_, fun j u hu => ?_⟩⟩
    · have := cell_in (hf 0 hn)
      rwa [show x.add 0 = x from by simp [Addr.add]] at this
    · simp only [bv, List.map_map, List.getElem?_map, Option.map_eq_some_iff] at hu
      obtain ⟨i, hi, rfl⟩ := hu
      have hj : j < l := by have := (List.getElem?_eq_some_iff.1 hi).1; simpa using this
      rw [List.getElem?_range hj] at hi
      obtain rfl := Option.some.inj hi
      exact hf j hj
end
/-- a list of bytes -/
abbrev InYss (W : World) (A : Option Addr) (n : Nat) (l : List (List UInt8)) : Prop := ListAt W W.heap.size 1 (EBy W) A n l
/-- one of them, in all later worlds -/
theorem InYss.later {W : World} {A : Option Addr} {n i : Nat} {l : List (List UInt8)} {b : List UInt8} (h : InYss W A n l) (hb : l[i]? = some b) :
    ∃ x Ab m c, A = some x ∧ m = b.length ∧ m ≤ c ∧ c ≤ 140737488351232 ∧ ∀ W', Below W.heap.size W W' → W'.cell? (x.add i) = some (.slice Ab m c) ∧ Reads W' W.heap.size 1 Ab m (bv b) := by
  have hi := (List.getElem?_eq_some_iff.1 hb).1
  have h1 := h.1
  obtain ⟨x, hA, hx, h3⟩ := h.2 (by omega)
  obtain ⟨cs, ⟨Ab, m, c, rfl, h4, h5, h6⟩, h7⟩ := h3 i b hb
  have h8 := h7 0 _ rfl
  rw [Nat.one_mul, Nat.add_zero] at h8
  refine ⟨x, Ab, m, c, hA, by have := h6.1; rw [bv_length] at this; omega, h4, h5, fun W' hB => ⟨?_, h6.below hB⟩⟩
  rw [hB.cell (by rw [add_blkO]; exact hx)]
  exact h8
end Go.Proofs.Ytebeidnmplnlpaa
end

section
set_option maxRecDepth 10000
namespace Go.Proofs.Ytebeidnmplnlpaa
set_option linter.unusedVariables false
open Go.ChangeShapes Go.WideShapes Go.ChangeAt Go.RowKit

section
variable {H : Type} {enc : TypeId × Value → H}
theorem cells_op19 : Try.prog.cellsOf 54 = 6 := by kernel_rfl
theorem op_open19 {W : World} {n : Nat} {cs : List Value} {y : DataW H × List MemPlace} (h : DataW.trod enc Try.prog W 0 (fun _ => true) true n 54 cs = some y) (hw : ∀ x ∈ y.1.weights Try.prog 54, x ≤ reachBytes) :
    ∃ (o : Op17) (Ad : Option Addr) (m k : Nat) (Ap : Option Addr) (mp kp : Nat), cs = (opC o Ad m k Ap mp kp).toList ∧ o.Ok W W.heap.size Ad m k Ap mp kp := by
  obtain ⟨xs, q, _, hy, hl, hlen, hf⟩ := DataW.trod_struct Try.underlying54 h
  rw [cells_op19] at hl
  obtain ⟨c0, c1, c2, c3, c4, c5, rfl⟩ := list6 hl
  have hlen' : xs.length = 6 := hlen
  obtain ⟨y0, y1, y2, y3, y4, y5, rfl⟩ := list6 hlen'
  subst hy
  have hw' : ∀ (j : Nat) (t : TypeId) (d : DataW H), ([3, 3, 3, 3, 31, 28] : List TypeId)[j]? = some t → ([y0.1, y1.1, y2.1, y3.1, y4.1, y5.1] : List (DataW H))[j]? = some d → ∀ x ∈ d.weights Try.prog t, x ≤ reachBytes := fun j t d ht hd x hx => by
    refine hw x ?_
    simp only [DataW.weights]
    rw [Try.underlying54]
    exact DataW.weights_mem_each (j := j) ht hd x hx
  have g0 : DataW.trod enc Try.prog W 0 (fun _ => true) true q 3 ((([c0, c1, c2, c3, c4, c5] : List Value).drop 0).take (Try.prog.cellsOf 3)) = ([y0, y1, y2, y3, y4, y5] : List (DataW H × List MemPlace))[0]? := hf 0 _ rfl
  have g1 : DataW.trod enc Try.prog W 0 (fun _ => true) true q 3 ((([c0, c1, c2, c3, c4, c5] : List Value).drop 1).take (Try.prog.cellsOf 3)) = ([y0, y1, y2, y3, y4, y5] : List (DataW H × List MemPlace))[1]? := hf 1 _ rfl
  have g2 : DataW.trod enc Try.prog W 0 (fun _ => true) true q 3 ((([c0, c1, c2, c3, c4, c5] : List Value).drop 2).take (Try.prog.cellsOf 3)) = ([y0, y1, y2, y3, y4, y5] : List (DataW H × List MemPlace))[2]? := hf 2 _ rfl
  have g3 : DataW.trod enc Try.prog W 0 (fun _ => true) true q 3 ((([c0, c1, c2, c3, c4, c5] : List Value).drop 3).take (Try.prog.cellsOf 3)) = ([y0, y1, y2, y3, y4, y5] : List (DataW H × List MemPlace))[3]? := hf 3 _ rfl
  have g4 : DataW.trod enc Try.prog W 0 (fun _ => true) true q 31 ((([c0, c1, c2, c3, c4, c5] : List Value).drop 4).take (Try.prog.cellsOf 31)) = ([y0, y1, y2, y3, y4, y5] : List (DataW H × List MemPlace))[4]? := hf 4 _ rfl
  have g5 : DataW.trod enc Try.prog W 0 (fun _ => true) true q 28 ((([c0, c1, c2, c3, c4, c5] : List Value).drop 5).take (Try.prog.cellsOf 28)) = ([y0, y1, y2, y3, y4, y5] : List (DataW H × List MemPlace))[5]? := hf 5 _ rfl
  rw [cells_i] at g0 g1 g2 g3
  rw [cells_b] at g4
  rw [cells_is] at g5
  obtain ⟨z0, e0, _, v0⟩ := DataW.trod_int Try.underlying3 (show DataW.trod enc Try.prog W 0 (fun _ => true) true q 3 [c0] = some y0 from g0)
  obtain ⟨z1, e1, _, v1⟩ := DataW.trod_int Try.underlying3 (show DataW.trod enc Try.prog W 0 (fun _ => true) true q 3 [c1] = some y1 from g1)
  obtain ⟨z2, e2, _, v2⟩ := DataW.trod_int Try.underlying3 (show DataW.trod enc Try.prog W 0 (fun _ => true) true q 3 [c2] = some y2 from g2)
  obtain ⟨z3, e3, _, v3⟩ := DataW.trod_int Try.underlying3 (show DataW.trod enc Try.prog W 0 (fun _ => true) true q 3 [c3] = some y3 from g3)
  obtain ⟨Ad, m, k, l, e4, hmk, hk, hr⟩ := bytes_open (show DataW.trod enc Try.prog W 0 (fun _ => true) true q 31 [c4] = some y4 from g4) (hw' 4 _ _ rfl rfl)
  obtain ⟨Ap, mp, kp, lp, e5, hmkp, hkp, hrp, hip⟩ := ints_open (show DataW.trod enc Try.prog W 0 (fun _ => true) true q 28 [c5] = some y5 from g5) (hw' 5 _ _ rfl rfl)
  injection e0 with e0
  injection e1 with e1
  injection e2 with e2
  injection e3 with e3
  exact ⟨⟨z0, z1, z2, z3, l, lp⟩, Ad, m, k, Ap, mp, kp, by rw [e0, e1, e2, e3, e4, e5]; rfl, ⟨int_bounds v0, int_bounds v1, int_bounds v2, int_bounds v3, hmk, hk, hr, hmkp, hkp, hrp, hip⟩⟩
theorem open_ops19 {W : World} {A : Option Addr} {n c : Nat} {d : DataW H} {p : List MemPlace} (h : DataW.Trod enc Try.prog W 0 (fun _ => true) true 50 (.slice A n c) d p)
    {ts : List TypeId} {ds : List (DataW H)} (hsz : (DataW.weightsEach Try.prog ts ds).all (· ≤ reachBytes) = true) {j : Nat} (hj : ts[j]? = some 50) (hd : ds[j]? = some d) :
    ∃ ops, OpsAt W W.heap.size A n ops ∧ n ≤ c := by
  obtain ⟨fuel, hf⟩ := h
  have hwd : ∀ x ∈ d.weights Try.prog 50, x ≤ reachBytes := fun x hx => by
    have := List.all_eq_true.1 hsz x (DataW.weights_mem_each hj hd x hx)
    simpa using this
  rcases Deep.open_slice Try.underlying50 hf with ⟨hcs, hx⟩ | ⟨a, len, cap, m, q, D, Pl, hcs, _, hl, _, hm, hx, hel⟩
  · simp [Value.cells] at hcs
    obtain ⟨rfl, rfl, rfl⟩ := hcs
    exact ⟨[], ⟨rfl, fun h => absurd h (Nat.lt_irrefl 0)⟩, Nat.le_refl _⟩
  · simp [Value.cells] at hcs
    obtain ⟨rfl, rfl, rfl⟩ := hcs
    simp only [if_true] at hm
    simp only [Prod.mk.injEq] at hx
    obtain ⟨hx, _⟩ := hx
    have hb : ∀ i, i < n → ∃ o : Op17, ∃ Ad m k Ap mp kp, (∀ j u, (opC o Ad m k Ap mp kp).toList[j]? = some u → W.cell? (a.add (6 * i + j)) = some u) ∧ o.Ok W W.heap.size Ad m k Ap mp kp := fun i hi => by
      obtain ⟨cs', h1, h2⟩ := hel i (by omega)
      rw [cells_op19] at h1
      have hwi : ∀ x ∈ (D i).weights Try.prog 54, x ≤ reachBytes := fun x hx' => by
        refine hwd x ?_
        rw [hx]
        simp only [DataW.weights]
        rw [Try.underlying50]
        refine List.mem_cons_of_mem _ (List.mem_append_left _ (weights_in (d := D i) ?_ x hx'))
        exact List.mem_map_of_mem (List.mem_range.2 hi)
      obtain ⟨o, Ad, m', k, Ap, mp, kp, rfl, hok⟩ := op_open19 h2 hwi
      obtain ⟨_, hlen, hc⟩ := World.cells?_some h1
      refine ⟨o, Ad, m', k, Ap, mp, kp, fun j u hu => ?_, hok⟩
      have hj6 : j < 6 := (List.getElem?_eq_some_iff.1 hu).1
      have := hc j hj6
      rw [Deep.add_add, Nat.mul_comm] at this
      rw [this]
      exact hu
    obtain ⟨f, hf⟩ := Deep.choose_lt hb
    refine ⟨(List.range n).map f, ⟨by simp, fun hn => ⟨a, rfl, ?_, fun i o ho => ?_⟩⟩, hl⟩
    · obtain ⟨Ad, m', k', Ap, mp, kp, h1, _⟩ := hf 0 hn
      have := cell_block (h1 0 _ rfl)
      rwa [show a.add (6 * 0 + 0) = a from by simp [Addr.add]] at this
    · have hj : i < n := by have := (List.getElem?_eq_some_iff.1 ho).1; simpa using this
      rw [List.getElem?_map, List.getElem?_range hj] at ho
      obtain rfl := Option.some.inj ho
      exact hf i hj
end
end Go.Proofs.Ytebeidnmplnlpaa
end

section
set_option maxRecDepth 10000
namespace Go.Proofs.Ytebeidnmplnlpaa
set_option linter.unusedVariables false
open Go.RowKit

/-- a saving makes few calls -/
theorem save_calls {S : DS} (h : DWf S) (i t : Int) (data : List UInt8) (hd : data.length ≤ 5000) (hc : S.k.calls + 200 < 1000000) : (S.save i t data).2.k.calls ≤ S.k.calls + 100 := by
  have hcc := chunks_count 5 data (by omega)
  unfold DS.save
  split
  · simp only; omega
  have h1 : (S.create frN).2.k.calls = S.k.calls + 1 := DS.create_calls _ _
  have w1 := h.create (by omega) frN
  generalize S.create frN = R1 at *
  by_cases c1 : R1.1 = 0
  case neg => rw [andT_no c1]; omega
  rw [andT_ok c1]
  have h2 := appends_calls frN (hdB i t data.length :: chunks data) R1.2
  rw [List.length_cons] at h2
  have w2 : DWf (R1.2.appends frN (hdB i t data.length :: chunks data)).2 := by
    have key : ∀ (bs : List (List UInt8)) (Q : DS), DWf Q → Q.k.calls + bs.length < 1000000 → DWf (Q.appends frN bs).2 := fun bs => by
      induction bs with
      | nil => intro Q hQ _; exact hQ
      | cons b bs ih =>
        intro Q hQ hl
        rw [List.length_cons] at hl
        have a1 : (Q.append frN (Frame.put b)).2.k.calls = Q.k.calls + 1 := DS.append_calls
        have a2 : DWf (Q.append frN (Frame.put b)).2 := hQ.append (by omega)
        show DWf (andT (Q.append frN (Frame.put b)) (fun S' => S'.appends frN bs)).2
        by_cases c : (Q.append frN (Frame.put b)).1 = 0
        · rw [andT_ok c]; exact ih _ a2 (by omega)
        · rw [andT_no c]; exact a2
    exact key _ _ w1 (by rw [List.length_cons]; omega)
  generalize R1.2.appends frN (hdB i t data.length :: chunks data) = R2 at *
  by_cases c2 : R2.1 = 0
  case neg => rw [andT_no c2]; omega
  rw [andT_ok c2]
  have h3 : (R2.2.sync frN).2.k.calls = R2.2.k.calls + 1 := DS.sync_calls
  have w3 : DWf (R2.2.sync frN).2 := w2.sync (by omega)
  generalize R2.2.sync frN = R3 at *
  by_cases c3 : R3.1 = 0
  case neg => rw [andT_no c3]; omega
  rw [andT_ok c3]
  have h4 : (R3.2.rename frN (snName i)).2.k.calls = R3.2.k.calls + 1 := DS.rename_calls
  have w4 : DWf (R3.2.rename frN (snName i)).2 := w3.rename (by omega)
  generalize R3.2.rename frN (snName i) = R4 at *
  by_cases c4 : R4.1 = 0
  case neg => rw [andT_no c4]; omega
  rw [andT_ok c4]
  have h5 := clear_calls snPre (snName i) R4.2.keys R4.2
  have hk : R4.2.keys.length = R4.2.t.length := by unfold DS.keys; simp
  have := w4.t.few
  omega
theorem Off.old {W : World} {U : Foot} {B s n : Nat} {A : Option Addr} {l : List Value} (hr : Reads W B s A n l) (hU : ∀ j, U j → B ≤ j) : Off U A n := fun h0 => by
  obtain ⟨ad, e, hl, _⟩ := hr.2 h0
  exact ⟨ad, e, fun hv => by have := hU _ hv; omega⟩
/-- both disks, apart -/
def Both (W : World) (B d r : Nat) (S : DS) : Prop := ∃ U V : Foot, Dsk W U d S ∧ Rsk W V r S ∧ (∀ j, U j → B ≤ j) ∧ (∀ j, V j → B ≤ j) ∧ ∀ j, U j → ¬ V j
theorem Both.below {W W' : World} {B d r : Nat} {S : DS} (h : Both W B d r S) (hb : Below W.heap.size W W') : Both W' B d r S := by
  obtain ⟨U, V, h1, h2, h3, h4, h5⟩ := h
  exact ⟨U, V, h1.below hb, h2.below hb, h3, h4, h5⟩
/-- one call at each -/
theorem Both.two {X X1 : World} {B d r g T : Nat} {S S' : DS} {U U' V : Foot} {cs : Array Value} (hB : B ≤ X.heap.size) (hD : Dsk X U d S) (hR : Rsk X V r S) (hU : ∀ j, U j → B ≤ j) (hV : ∀ j, V j → B ≤ j) (hn : ∀ j, U j → ¬ V j)
    (hx : Blk X g T cs) (gU : ¬ U g) (gV : ¬ V g) (h1 : Dsk X1 U' d S') (st : Step X U X1 U') :
    Rsk X1 V r S ∧ (∀ j, U' j → ¬ V j) ∧ Blk X1 g T cs ∧ Below B X X1 ∧ (∀ j, U' j → B ≤ j) ∧
      ∀ X2 V', Rsk X2 V' r S' → Step X1 V X2 V' → Both X2 B d r S' ∧ Blk X2 g T cs ∧ Below B X X2 := by
  obtain ⟨r1, r2⟩ := hR.apart st (fun j hj hu => hn j hu hj)
  have n1 : ∀ j, U' j → ¬ V j := fun j hj hv => r2 j hv hj
  obtain ⟨b1, b2⟩ := st.blk hx gU
  have k1 := st.below hU hB
  have u1 := st.min hU hB
  have s1 := st.size
  refine ⟨r1, n1, b1, k1, u1, fun X2 V' hR2 st2 => ?_⟩
  obtain ⟨d1, d2⟩ := h1.apart st2 n1
  have k2 := st2.below hV (by omega : B ≤ X1.heap.size)
  exact ⟨⟨U', V', d1, hR2, u1, st2.min hV (by omega), d2⟩, (st2.blk b1 gV).1, k1.trans k2⟩
end Go.Proofs.Ytebeidnmplnlpaa
end

section
set_option maxRecDepth 10000
namespace Go.Proofs.Ytebeidnmplnlpaa
set_option linter.unusedVariables false
open Go.RowKit

set_option maxHeartbeats 8000000 in
theorem snapPlays_walk (room : Int) (A2 : Option Addr) (n2 c2 : Nat) (ops : List Op17) (W : World) (hroom : i64 room) (hops : OpsAt W W.heap.size A2 n2 ops) :
    Calls Try.prog 7 #[.int .i64 room, .slice A2 n2 c2] W fun e W' => e = .returned (.bool true) ∧ Below W.heap.size W W' := by
  have hol := hops.len
  refine calls_vc Try.func7 rfl (by kernel_rfl) ?_
  ((conv => whnf); (repeat ((first | (refine VL.cons ?_) | (refine VL.nil ?_) | (refine VC.seqS rfl ?_) | (refine VC.region ?_)); (conv => whnf))))
  ((repeat ((fail); (conv => whnf))))
  refine VCall.of (oNew W room) ?_
  rintro e W1 ⟨d, U1, rfl, hd1, hU1, hB1⟩
  refine ⟨_, rfl, ?_⟩
  ((conv => whnf); (repeat ((first | (refine VL.cons ?_) | (refine VL.nil ?_) | (refine VC.seqS rfl ?_) | (refine VC.region ?_)); (conv => whnf))))
  ((repeat ((fail); (conv => whnf))))
  refine VCall.of (pNew W1 room) ?_
  rintro e W2 ⟨r, V1, rfl, hr1, hV1, hB2⟩
  refine ⟨_, rfl, ?_⟩
  have hB02 := hB1.trans (hB2.mono hB1.size)
  have s1 := hB1.size
  have b2 : Both W2 W.heap.size d r (DS.new room) := ⟨U1, V1, hd1.below hB2, hr1, hU1, fun j hj => by have := hV1 j hj; omega, fun j hj hv => by have := hV1 j hv; have := hd1.lt j hj; omega⟩
  ((conv => whnf); (repeat ((first | (refine VL.cons ?_) | (refine VL.nil ?_)); (conv => whnf))))
  ((repeat ((first | (refine VL.cons ?_) | (refine VL.nil ?_) | (refine VC.seqS rfl ?_) | (refine VC.region ?_) | (refine VC.cond ?_) | (refine VC.block ?_) | (refine VC.skip ?_) | (refine VBool.f ?_) | (refine VRead.eqPN ?_) | (refine VC.seq ?_)); (conv => whnf))))
  refine VC.loop [7] [(4, 4), (7, 9), (16, 88)] (fun q vs w => ∃ (i : Nat) (S : DS), vs = [.int .i64 (i : Int)] ∧ q = n2 - i ∧ i ≤ n2 ∧ i ≤ 30 ∧ Both w W.heap.size d r S ∧ S.k.calls ≤ 200 * i ∧ Below W.heap.size W w) (by kernel_rfl)
    ⟨_, 0, DS.new room, rfl, rfl, by omega, by omega, b2, by simp [DS.new, Dk.new], hB02⟩ ?_
  clear b2 hd1 hr1 hB1 hB2 hB02 hU1 hV1
  rintro q τ vs w ⟨i, S, rfl, rfl, hi, hi30, hBo, hcalls, hBw⟩
  by_cases hlt : i < n2 ∧ i < 30
  case neg =>
    have fin : Calls Try.prog 34 #[.pointer (some ⟨d, 0, none⟩), .pointer (some ⟨r, 0, none⟩)] w fun e W' => e = .returned (.bool true) ∧ Below w.heap.size w W' := by
      obtain ⟨U, V, h1, h2, _⟩ := hBo
      exact same19_any w U V d r S h1 h2
    have hcase : ¬ i < n2 ∨ (i < n2 ∧ ¬ i < 30) := by omega
    rcases hcase with hh | ⟨ha, hh⟩
    all_goals
      ((conv => whnf); (repeat ((fail); (conv => whnf))))
      ((repeat ((first | (refine VL.cons ?_) | (refine VL.nil ?_) | (refine VC.seqS rfl ?_) | (refine VC.region ?_) | (refine VC.cond ?_) | (refine VC.exit ?_) | (refine VBool.t ?_) | (refine VBool.f ?_) | (refine VBool.dT (by omega) ?_) | (refine VBool.dF (by omega) ?_) | (refine VRead.lenS ?_) | (refine VC.seq ?_)); (conv => whnf))))
      refine VCall.of fin ?_
      rintro e w2 ⟨rfl, hb2⟩
      refine ⟨_, rfl, ?_⟩
      have hBw2 := hBw.trans (hb2.mono hBw.size)
      ((conv => whnf); (repeat ((first | (refine VL.cons ?_)); (conv => whnf))))
      ((repeat ((first | (refine VBool.t ?_)); (conv => whnf))))
      refine VCall.of (awake19_any w2) ?_
      rintro e w3 ⟨rfl, hb3⟩
      refine ⟨_, rfl, ?_⟩
      ((conv => whnf); (repeat ((first | (refine VL.cons ?_) | (refine VL.nil ?_) | (refine VC.ret ?_)); (conv => whnf))))
      ((repeat ((fail); (conv => whnf))))
      exact ⟨rfl, hBw2.trans (hb3.mono hBw2.size)⟩
  obtain ⟨hi2, hi3⟩ := hlt
  obtain ⟨o, ho⟩ : ∃ o, ops[i]? = some o := ⟨_, List.getElem?_eq_getElem (by omega)⟩
  obtain ⟨x, Ad, m, k, Ap, mp, kp, rfl, H⟩ := hops.later ho
  obtain ⟨hcell, _⟩ := H w hBw
  have hs := hBw.size
  ((conv => whnf); (repeat ((fail); (conv => whnf))))
  (repeat ((first | (refine VRead.atK hi2 ?_) | (refine VL.cons ?_) | (refine VL.nil ?_) | (refine VC.seqS rfl ?_) | (refine VC.region ?_) | (refine VC.cond ?_) | (refine VC.block ?_) | (refine VC.skip ?_) | (refine VBool.t ?_) | (refine VBool.dT (by omega) ?_) | (refine VRead.lenS ?_) | (refine VC.seq ?_)); (conv => whnf)))
  refine VRead.loadL hcell rfl ?_
  ((conv => whnf); (repeat ((first | (refine VL.cons ?_)); (conv => whnf))))
  ((repeat ((fail); (conv => whnf))))
  refine VSem.allocZ (z := .agg #[.int .i64 0, .int .i64 0, .int .i64 0, .int .i64 0, .slice none 0 0, .slice none 0 0]) (by kernel_rfl) ?_
  intro w1 g hg hge hgl hB1
  ((conv => whnf); (repeat ((first | (refine VL.cons ?_)); (conv => whnf))))
  ((repeat ((fail); (conv => whnf))))
  refine VUnit.storeAB hg rfl rfl rfl (by simp [opC, Value.oneCell']) ?_
  intro w2 hg2 hgg
  replace hg2 : Blk w2 g 54 (opC o Ad m k Ap mp kp) := hg2
  have hB2 : Below w.heap.size w w2 := only_new hB1 hgg (by omega) (by omega)
  have hBw2 := hBw.trans (hB2.mono hs)
  obtain ⟨U, V, hD, hR, hU, hV, hn⟩ := hBo
  have gU : ¬ U g := fun hu => by have := hD.lt g hu; omega
  have gV : ¬ V g := fun hu => by have := hR.lt g hu; omega
  replace hD := hD.below hB2
  replace hR := hR.below hB2
  have hs2 := hBw2.size
  have hS := hD.wf
  obtain ⟨_, ok⟩ := H w2 hBw2
  have odl : o.data.length = m := by have := ok.data.1; rw [bv_length] at this; omega
  clear hg hge hgl hB1 hgg hcell hB2 hBw
  by_cases h5 : 5000 < m
  · ((conv => whnf); (repeat ((first | (refine VL.nil ?_)); (conv => whnf))))
    (repeat (first | ((first | (refine VL.cons ?_) | (refine VL.nil ?_) | (refine VC.seqS rfl ?_) | (refine VC.region ?_) | (refine VC.cond ?_) | (refine VBool.dT (by omega) ?_) | (refine VRead.lenS ?_) | (refine VRead.fld ?_) | (refine VC.seq ?_)); (conv => whnf)) | (refine VRead.loadB hg2 rfl rfl ?_; (conv => whnf))))
    refine VCall.of (awake19_any w2) ?_
    rintro e w3 ⟨rfl, hb3⟩
    refine ⟨_, rfl, ?_⟩
    ((conv => whnf); (repeat ((first | (refine VL.cons ?_) | (refine VL.nil ?_) | (refine VC.ret ?_)); (conv => whnf))))
    ((repeat ((fail); (conv => whnf))))
    exact ⟨rfl, hBw2.trans (hb3.mono hs2)⟩
  have k0' := Int.emod_nonneg o.kind (show (5 : Int) ≠ 0 by decide)
  have k1' := Int.emod_lt_of_pos o.kind (show (0 : Int) < 5 by decide)
  ((conv => whnf); (repeat ((first | (refine VL.nil ?_)); (conv => whnf))))
  (repeat ((fail); (conv => whnf)))
  ((refine VC.seq ?_; (conv => whnf)))
  (repeat ((first | (refine VRead.loadB hg2 rfl rfl ?_) | (refine VL.cons ?_) | (refine VL.nil ?_) | (refine VC.seqS rfl ?_) | (refine VC.region ?_) | (refine VC.cond ?_) | (refine VC.skip ?_) | (refine VBool.dF (by omega) ?_) | (refine VRead.lenS ?_) | (refine VRead.fld ?_)); (conv => whnf)))
  refine VC.cut [] [(4, 4), (9, 9), (35, 84)] (fun vs Y => vs = [] ∧ ∃ S' : DS, Both Y W.heap.size d r S' ∧ S'.k.calls ≤ S.k.calls + 100 ∧ Below W.heap.size W Y) (by kernel_rfl) ?_ ?_
  · ((conv => whnf); (repeat ((first | (refine VL.cons ?_) | (refine VC.seqS rfl ?_) | (refine VC.region ?_)); (conv => whnf))))
    (repeat (first | ((first | (refine VL.cons ?_) | (refine VRead.fld ?_)); (conv => whnf)) | (refine VRead.loadB hg2 rfl rfl ?_; (conv => whnf))))
    refine VCall.of (place_any o.kind 5 w2 ok.kind (by decide) (by decide)) ?_
    rintro e w2' ⟨rfl, eW⟩
    obtain rfl := eW.symm
    refine ⟨_, rfl, ?_⟩
    generalize o.kind % 5 = kd at *
    by_cases q3 : kd = 3
    · subst q3
      have e0 := Int.emod_nonneg o.b (show (2 : Int) ≠ 0 by decide)
      have e1 := Int.emod_lt_of_pos o.b (show (0 : Int) < 2 by decide)
      ((conv => whnf); (repeat ((first | (refine VL.cons ?_) | (refine VL.nil ?_) | (refine VC.seqS rfl ?_) | (refine VC.region ?_) | (refine VC.cond ?_) | (refine VC.block ?_)); (conv => whnf))))
      ((repeat ((first | (refine VL.cons ?_) | (refine VC.seqS rfl ?_) | (refine VC.region ?_) | (refine VBool.t ?_)); (conv => whnf))))
      refine VRead.ofW (v := .agg #[.int .i64 18, .int .i64 19]) (fun _ => by kernel_rfl) ?_
      ((conv => whnf); (repeat ((first | (refine VL.cons ?_)); (conv => whnf))))
      (repeat (first | ((first | (refine VL.cons ?_) | (refine VRead.fld ?_)); (conv => whnf)) | (refine VRead.loadB hg2 rfl rfl ?_; (conv => whnf))))
      refine VCall.of (place_any o.b 2 w2 ok.b (by decide) (by decide)) ?_
      rintro e w2' ⟨rfl, eW⟩
      obtain rfl := eW.symm
      refine ⟨_, rfl, ?_⟩
      have hE2 : Below w2.heap.size w2 (w2.drewN 1) := below_drewN (Below.refl _ _) 1
      obtain hz | hz : o.b % 2 = 0 ∨ o.b % 2 = 1 := by omega
      all_goals rw [hz]
      · ((conv => whnf); (repeat ((first | (refine VL.cons ?_)); (conv => whnf))))
        refine VRead.ofW (v := .int .i64 (([18, 19] : List Int).getD (0 : Int).toNat 1)) (fun _ => by kernel_rfl) ?_
        generalize ([18, 19] : List Int).getD (0 : Int).toNat 1 = ak
        (conv => whnf)
        ((repeat ((first | (refine VL.cons ?_) | (refine VL.nil ?_) | (refine VC.draw ?_) | (refine VC.seq ?_)); (conv => whnf))))
        refine VDraw.seg (fun X => Blk X g 54 (opC o Ad m k Ap mp kp)) [([0, 1, 2, 3, 5, 6, 7, 8], 4), ([], 9)] [10] (by kernel_rfl) (by kernel_rfl) (hg2.later hE2) ?_
        (conv => whnf)
        (repeat ((first | (refine VRead.loadBS (fun _ h => h) rfl rfl ?_) | (refine VQ.cons ?_) | (refine VQ.nil ?_) | (refine VG.cons ?_) | (refine VRead.fld ?_)); (conv => whnf)))
        refine VCall.of (oArm (w2.drewN 1) U d S ak o.n (hD.below hE2) ok.n.2) ?_
        rintro e w3 ⟨rfl, U', hD3, st3⟩
        refine ⟨_, rfl, ?_⟩
        obtain ⟨hR3, n3, hg3, hb3, hU3, fin⟩ := Both.two (X := w2.drewN 1) hs2 (hD.below hE2) (hR.below hE2) hU hV hn (hg2.later hE2) gU gV hD3 st3
        (conv => whnf)
        refine Keep.mk hg3 ?_
        (conv => whnf)
        ((repeat ((first | (refine VQ.nil ?_) | (refine VG.cons ?_)); (conv => whnf))))
        refine VCall.of (pArm w3 V r S ak o.n hR3 ok.n.2) ?_
        rintro e w4 ⟨rfl, V', hR4, st4⟩
        refine ⟨_, rfl, ?_⟩
        obtain ⟨bo, hg4, hb4⟩ := fin w4 V' hR4 st4
        (conv => whnf)
        refine Keep.mk hg4 ?_
        (conv => whnf)
        ((repeat ((first | (refine VC.cond ?_) | (refine VC.skip ?_) | (refine VQ.cons ?_) | (refine VQ.nil ?_) | (refine VG.nil ?_) | (refine VBool.nT (by omega) ?_)); (conv => whnf))))
        exact ⟨rfl, _, bo, by show (S.k.arm _ _).2.calls ≤ _; rw [Dk.arm_calls]; omega, (hBw2.trans (hE2.mono hs2)).trans hb4⟩
      · ((conv => whnf); (repeat ((first | (refine VL.cons ?_)); (conv => whnf))))
        refine VRead.ofW (v := .int .i64 (([18, 19] : List Int).getD (1 : Int).toNat 1)) (fun _ => by kernel_rfl) ?_
        generalize ([18, 19] : List Int).getD (1 : Int).toNat 1 = ak
        (conv => whnf)
        ((repeat ((first | (refine VL.cons ?_) | (refine VL.nil ?_) | (refine VC.draw ?_) | (refine VC.seq ?_)); (conv => whnf))))
        refine VDraw.seg (fun X => Blk X g 54 (opC o Ad m k Ap mp kp)) [([0, 1, 2, 3, 5, 6, 7, 8], 4), ([], 9)] [10] (by kernel_rfl) (by kernel_rfl) (hg2.later hE2) ?_
        (conv => whnf)
        (repeat ((first | (refine VRead.loadBS (fun _ h => h) rfl rfl ?_) | (refine VQ.cons ?_) | (refine VQ.nil ?_) | (refine VG.cons ?_) | (refine VRead.fld ?_)); (conv => whnf)))
        refine VCall.of (oArm (w2.drewN 1) U d S ak o.n (hD.below hE2) ok.n.2) ?_
        rintro e w3 ⟨rfl, U', hD3, st3⟩
        refine ⟨_, rfl, ?_⟩
        obtain ⟨hR3, n3, hg3, hb3, hU3, fin⟩ := Both.two (X := w2.drewN 1) hs2 (hD.below hE2) (hR.below hE2) hU hV hn (hg2.later hE2) gU gV hD3 st3
        (conv => whnf)
        refine Keep.mk hg3 ?_
        (conv => whnf)
        ((repeat ((first | (refine VQ.nil ?_) | (refine VG.cons ?_)); (conv => whnf))))
        refine VCall.of (pArm w3 V r S ak o.n hR3 ok.n.2) ?_
        rintro e w4 ⟨rfl, V', hR4, st4⟩
        refine ⟨_, rfl, ?_⟩
        obtain ⟨bo, hg4, hb4⟩ := fin w4 V' hR4 st4
        (conv => whnf)
        refine Keep.mk hg4 ?_
        (conv => whnf)
        ((repeat ((first | (refine VC.cond ?_) | (refine VC.skip ?_) | (refine VQ.cons ?_) | (refine VQ.nil ?_) | (refine VG.nil ?_) | (refine VBool.nT (by omega) ?_)); (conv => whnf))))
        exact ⟨rfl, _, bo, by show (S.k.arm _ _).2.calls ≤ _; rw [Dk.arm_calls]; omega, (hBw2.trans (hE2.mono hs2)).trans hb4⟩
    by_cases q4 : kd = 4
    · subst q4
      ((conv => whnf); (repeat ((first | (refine VL.cons ?_) | (refine VL.nil ?_) | (refine VC.seqS rfl ?_) | (refine VC.region ?_) | (refine VC.cond ?_) | (refine VC.block ?_)); (conv => whnf))))
      (repeat (first | ((first | (refine VL.cons ?_) | (refine VL.nil ?_) | (refine VC.seqS rfl ?_) | (refine VC.region ?_) | (refine VC.cond ?_) | (refine VBool.t ?_) | (refine VBool.f ?_) | (refine VRead.fld ?_)); (conv => whnf)) | (refine VRead.loadB hg2 rfl rfl ?_; (conv => whnf))))
      refine VCall.of (ints_any Ap mp kp _ o.picks w2 (by have := ok.lep; have := ok.kp; omega) ok.picks) ?_
      rintro e w3 ⟨Ac, cc, rfl, hOp, hB3⟩
      refine ⟨_, rfl, ?_⟩
      have hBw3 := hBw2.trans (hB3.mono hs2)
      ((conv => whnf); (repeat ((first | (refine VL.cons ?_)); (conv => whnf))))
      ((repeat ((fail); (conv => whnf))))
      refine VCall.of (oCrash w3 U d S mp cc Ac o.picks (hD.below hB3) (Reads.row hOp) (fun h0 => ?_) (by have := ok.lep; have := ok.kp; omega)) ?_
      · obtain ⟨ad, hAd, _, _⟩ := (Reads.row hOp).2 h0
        subst hAd
        exact ⟨ad, rfl, Free.new hOp hD.lt _ rfl⟩
      rintro e w4 ⟨rfl, U', hD4, st4⟩
      refine ⟨_, rfl, ?_⟩
      obtain ⟨hR4, n4, hg4, hb4, hU4, fin⟩ := Both.two hBw3.size (hD.below hB3) (hR.below hB3) hU hV hn (hg2.later hB3) gU gV hD4 st4
      have hBw4 := hBw3.trans hb4
      obtain ⟨_, ok4⟩ := H w4 hBw4
      ((conv => whnf); (repeat ((first | (refine VL.cons ?_) | (refine VL.nil ?_) | (refine VC.region ?_)); (conv => whnf))))
      (repeat (first | ((first | (refine VL.cons ?_) | (refine VRead.fld ?_)); (conv => whnf)) | (refine VRead.loadB hg4 rfl rfl ?_; (conv => whnf))))
      refine VCall.of (pCrash w4 V r S mp kp Ap o.picks hR4 (ok4.picks.more hBw4.size) (Off.old ok4.picks hV) (by have := ok.lep; have := ok.kp; omega)) ?_
      rintro e w5 ⟨rfl, V', hR5, st5⟩
      refine ⟨_, rfl, ?_⟩
      obtain ⟨bo, hg5, hb5⟩ := fin w5 V' hR5 st5
      ((conv => whnf); (repeat ((first | (refine VL.nil ?_)); (conv => whnf))))
      ((repeat ((fail); (conv => whnf))))
      exact ⟨rfl, _, bo, by show S.k.calls ≤ _; omega, hBw3.trans hb5⟩
    have hE2 : Below w2.heap.size w2 (w2.drewN 1) := below_drewN (Below.refl _ _) 1
    have hsc := save_calls hS o.a o.b o.data (by omega) (by omega)
    replace hg2 := hg2.later hE2
    replace hD := hD.below hE2
    replace hR := hR.below hE2
    replace hBw2 := hBw2.trans (hE2.mono hs2)
    ((conv => whnf); (repeat ((first | (refine VL.cons ?_) | (refine VL.nil ?_) | (refine VC.seqS rfl ?_) | (refine VC.region ?_) | (refine VC.cond ?_) | (refine VC.block ?_)); (conv => whnf))))
    ((repeat ((first | (refine VL.cons ?_) | (refine VL.nil ?_) | (refine VC.seqS rfl ?_) | (refine VC.region ?_) | (refine VC.draw ?_) | (refine VC.cond ?_) | (refine VBool.dF (by omega) ?_) | (refine VC.seq ?_)); (conv => whnf))))
    refine VDraw.seg (fun X => Blk X g 54 (opC o Ad m k Ap mp kp)) [([0, 1, 2, 3, 4, 5, 6, 9, 10, 11, 12, 13, 14, 15], 7), ([], 8), ([], 16)] [17] (by kernel_rfl) (by kernel_rfl) hg2 ?_
    clear hE2
    generalize w2.drewN 1 = w3 at *
    obtain ⟨_, ok3⟩ := H w3 hBw2
    (conv => whnf)
    (repeat ((first | (refine VRead.loadBS (fun _ h => h) rfl rfl ?_) | (refine VQ.cons ?_) | (refine VQ.nil ?_) | (refine VG.cons ?_) | (refine VRead.fld ?_)); (conv => whnf)))
    refine VCall.of (bytes_any Ad m k _ o.data w3 (by omega) ok3.data) ?_
    rintro e w4 ⟨Ac, cc, rfl, hOc, hB4⟩
    refine ⟨_, rfl, ?_⟩
    have hBw4 := hBw2.trans (hB4.mono hBw2.size)
    (conv => whnf)
    refine Keep.mk (hg2.later hB4) ?_
    (conv => whnf)
    ((repeat ((first | (refine VQ.nil ?_) | (refine VG.cons ?_)); (conv => whnf))))
    refine VCall.of (snapSave_any w4 U d S o.a o.b m cc Ac o.data (hD.below hB4) (Own.reads hOc) (Off.of_own hOc (Free.new hOc hD.lt)) hOc.cap (by omega) ok.a ok.b (by omega)) ?_
    rintro e w5 ⟨rfl, U', hD5, st5⟩
    refine ⟨_, rfl, ?_⟩
    obtain ⟨hR5, n5, hg5, hb5, hU5, fin⟩ := Both.two hBw4.size (hD.below hB4) (hR.below hB4) hU hV hn (hg2.later hB4) gU gV hD5 st5
    have hBw5 := hBw4.trans hb5
    obtain ⟨_, ok5⟩ := H w5 hBw5
    (conv => whnf)
    refine Keep.mk hg5 ?_
    (conv => whnf)
    ((repeat ((first | (refine VQ.nil ?_) | (refine VG.cons ?_)); (conv => whnf))))
    refine VCall.of (refSave_any w5 V r S o.a o.b m k Ad o.data hR5 (ok5.data.more hBw5.size) (Off.old ok5.data hV) ok.le (by omega) ok.a ok.b (by omega)) ?_
    rintro e w6 ⟨rfl, V', hR6, st6⟩
    refine ⟨_, rfl, ?_⟩
    obtain ⟨bo, hg6, hb6⟩ := fin w6 V' hR6 st6
    (conv => whnf)
    refine Keep.mk hg6 ?_
    (conv => whnf)
    ((repeat ((first | (refine VC.cond ?_) | (refine VC.skip ?_) | (refine VQ.cons ?_) | (refine VQ.nil ?_) | (refine VG.nil ?_) | (refine VBool.nT (by omega) ?_)); (conv => whnf))))
    exact ⟨rfl, _, bo, hsc, hBw4.trans hb6⟩
  rintro τ2 vs Y ⟨rfl, S', hBo', hc', hBY⟩
  ((conv => whnf); (repeat ((first | (refine VL.cons ?_) | (refine VC.seqS rfl ?_) | (refine VC.region ?_)); (conv => whnf))))
  ((repeat ((fail); (conv => whnf))))
  have hsame : Calls Try.prog 34 #[.pointer (some ⟨d, 0, none⟩), .pointer (some ⟨r, 0, none⟩)] Y fun e W' => e = .returned (.bool true) ∧ Below Y.heap.size Y W' := by
    obtain ⟨U, V, h1, h2, _⟩ := hBo'
    exact same19_any Y U V d r S' h1 h2
  refine VCall.of hsame ?_
  rintro e Y2 ⟨rfl, hb2⟩
  refine ⟨_, rfl, ?_⟩
  ((conv => whnf); (repeat ((first | (refine VL.cons ?_) | (refine VL.nil ?_) | (refine VC.cond ?_)); (conv => whnf))))
  ((repeat ((first | (refine VL.cons ?_) | (refine VL.nil ?_) | (refine VC.region ?_) | (refine VC.skip ?_) | (refine VBool.f ?_) | (refine VWrap.i64 (by omega) (by omega) ?_)); (conv => whnf))))
  exact ⟨_, by omega, i + 1, S', rfl, rfl, by omega, by omega, hBo'.below hb2, by omega, hBY.trans (hb2.mono hBY.size)⟩
end Go.Proofs.Ytebeidnmplnlpaa
end
