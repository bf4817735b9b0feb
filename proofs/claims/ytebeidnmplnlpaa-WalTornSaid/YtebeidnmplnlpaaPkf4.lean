/- Texts joined: WalI, SnapE, SnapF, SnapG, WalJ, WalK, WalL, SnapH, WalM, WalO, WalQ, WalR, WalU, WalV, WalS, Open, SnapK, WalW, WalX. No condition. -/
import Derived.Test.YtebeidnmplnlpaaPkf3
import Derived.Test.YtebeidnmplnlpaaPkf2
import Derived.Deep.Slices
import Derived.OpenShut
section
set_option maxRecDepth 10000
namespace Go.Proofs.Ytebeidnmplnlpaa
set_option linter.unusedVariables false
open Go.RowKit

theorem VRes.op3 {P : Program} {w : World} {a b c t T1 g1 k : Nat} {σ : Env} {cs : Array Value} {R : Ending → World → Prop} [i : TAgg P t k]
    (ha : σ b = .pointer (some ⟨g1, 0, none⟩)) (h1 : Blk w g1 T1 cs) (hs : Nat.beq cs.size k = true)
    (h : R (.returned (.tuple #[σ a, .agg cs, σ c])) w) : VRes P [.tmp a, .cell b t, .tmp c] σ w R := by
  have k1 := run_load_agg (P := P) i h1 (Nat.eq_of_beq_eq_true hs)
  unfold Instr.loadAt Instr.sureAddr at k1
  simp only [Sem.run_bind, Sem.run_pure, Result.andThen_ok] at k1
  exact ⟨⟨_, by simp [resE, ha, asAddr, k1], h⟩⟩
/-! ### plain -/
structure Scn where
  some_ : Bool
  n : Nat
  k : Kp
  whole : Bool
def woStep (acc : Scn) (p : List UInt8 × Fl) : Scn := match wNum p.1 with
  | none => acc
  | some n => match readW p.2.b with
    | some k => ⟨true, n, k, isWhole p.2.b⟩
    | none => { acc with some_ := true }
def wScan (T : PT) : Scn := T.foldl woStep ⟨false, 0, Kp.zero, false⟩
def Scn.wl (c : Scn) : WlS := ⟨c.n, c.k.base, c.k.base + c.k.es.length⟩
def DS.wnext (S : DS) (c : Scn) : (Int × DS) × WlS := if c.whole = true then (S.sync (wName c.n), c.wl) else S.wanew c.wl c.k
def DS.wend (R : (Int × DS) × WlS) : Int × DS := andT R.1 fun S1 => S1.clear wPre (wName R.2.n) S1.keys
def DS.wopen (S : DS) : (Int × DS) × Option (WlS × Kp) :=
  if (wScan S.t).some_ = true ∧ (wScan S.t).n = 0 then ((23, S), none) else
  (DS.wend (S.wnext (wScan S.t)), if (DS.wend (S.wnext (wScan S.t))).1 = 0 then some ((S.wnext (wScan S.t)).2, (wScan S.t).k) else none)
theorem takesA_ok : ∀ {cs : List (List UInt8)} {st : Bool} {k k' : Kp}, takesA st k cs = some k' → inR k.base 1099511627776 → inR k'.base 1099511627776 ∧ k'.es.length ≤ k.es.length + cs.length
  | [], st, k, k', h, hb => by
    injection h with h; subst h; exact ⟨hb, by simp⟩
  | c :: cs, st, k, k', h, hb => by
    unfold takesA at h
    cases ht : takes k c st with
    | none => rw [ht] at h; cases h
    | some k1 =>
      rw [ht] at h
      obtain ⟨h1, h2⟩ := takes_in ht hb
      obtain ⟨h3, h4⟩ := takesA_ok h h1
      exact ⟨h3, by rw [List.length_cons]; omega⟩
theorem laid_ge : ∀ (bs : List (List UInt8)), bs.length ≤ (Frame.laid bs).length
  | [] => by simp
  | b :: bs => by
    have h1 := laid_ge bs
    have h2 := Frame.put_pos b
    rw [Frame.laid_cons, List.length_append, List.length_cons]
    omega
theorem readW_ok {l : List UInt8} {k : Kp} (h : readW l = some k) : inR k.base 1099511627776 ∧ k.es.length ≤ l.length := by
  unfold readW at h
  split at h
  · cases h
  · obtain ⟨h1, h2⟩ := takesA_ok h ⟨by decide, by decide⟩
    have h3 := laid_ge (Frame.bodies l)
    have h4 := congrArg List.length (Frame.bodies_spec l).1
    rw [List.length_append] at h4
    have : Kp.zero.es.length = 0 := rfl
    exact ⟨h1, by omega⟩
structure ScnOk (c : Scn) : Prop where
  n : c.n ≤ 99999999
  b : inR c.k.base 1099511627776
  l : c.k.es.length ≤ 16777216
theorem ScnOk.wl {c : Scn} (h : ScnOk c) : WlOk c.wl := by
  obtain ⟨h1, ⟨h2, h3⟩, h4⟩ := h
  have e1 : c.wl.n = (c.n : Int) := rfl
  have e2 : c.wl.base = c.k.base := rfl
  have e3 : c.wl.last = c.k.base + c.k.es.length := rfl
  exact ⟨by omega, by omega, by omega, by omega, by omega, by omega⟩
theorem wrun_calls (nm b : List UInt8) : ∀ (m k : Nat) (S : DS), (wrun nm b m k S).2.k.calls ≤ S.k.calls + m
  | 0, k, S => by show S.k.calls ≤ S.k.calls + ((0 : Nat) : Int); omega
  | m + 1, k, S => by
    unfold wrun
    have h1 := wact_calls nm b k S
    by_cases h : (wact nm b k S).1 = 0
    · rw [andT_ok h]
      have := wrun_calls nm b m (k + 1) (wact nm b k S).2
      omega
    · rw [andT_no h]
      omega
theorem wanew_calls (S : DS) (w : WlS) (k : Kp) : (S.wanew w k).1.2.k.calls ≤ S.k.calls + 5 ∧ ((S.wanew w k).2.n = w.n ∨ (S.wanew w k).2.n = w.n + 1) := by
  unfold DS.wanew
  split
  · exact ⟨by simp only; omega, .inl rfl⟩
  · split
    · exact ⟨by simp only; omega, .inl rfl⟩
    · have h1 := wrun_calls (wName (w.n + 1)) (waB k) 4 0 S
      simp only
      split
      · exact ⟨by simp only; omega, .inl rfl⟩
      · split
        · exact ⟨by simp only; omega, .inr rfl⟩
        · have h2 : ((wrun (wName (w.n + 1)) (waB k) 4 0 S).2.remove (wName w.n)).2.k.calls = (wrun (wName (w.n + 1)) (waB k) 4 0 S).2.k.calls + 1 := DS.remove_calls
          exact ⟨by simp only; omega, .inr rfl⟩
theorem wnext_calls (S : DS) (c : Scn) : (S.wnext c).1.2.k.calls ≤ S.k.calls + 5 ∧ ((S.wnext c).2.n = c.n ∨ (S.wnext c).2.n = (c.n : Int) + 1) := by
  unfold DS.wnext
  split
  · have h2 : (S.sync (wName c.n)).2.k.calls = S.k.calls + 1 := DS.sync_calls
    exact ⟨by simp only; omega, .inl rfl⟩
  · have := wanew_calls S c.wl c.k
    exact this
theorem Lies.ne {W : World} {V : Foot} {A : Option Addr} {m g T : Nat} {l : List UInt8} {cs : Array Value} (h : Lies W V A m l) (hb : Blk W g T cs) (hT : 5 ≠ T) : Lies W (fun j => V j ∧ j ≠ g) A m l :=
  ⟨h.1, fun hm => by
    obtain ⟨ad, cs', fr, e, h1, h2⟩ := h.2 hm
    refine ⟨ad, cs', fr, e, ⟨h1, fun e' => ?_⟩, h2⟩
    unfold Blk at hb
    rw [← e', h2] at hb
    injection hb with hb
    injection hb with _ h3 _
    exact hT h3⟩
theorem ERow.ne {W : World} {V : Foot} {B g T : Nat} {v : Value} {es : List En} {cs : Array Value} (h : ERow W V B v es) (hb : Blk W g T cs) (hT : 5 ≠ T) (hT2 : 67 ≠ T) : ERow W (fun j => V j ∧ j ≠ g) B v es := by
  have hn := h.notBlk hb hT2
  obtain ⟨xs, h1, h2, h3⟩ := h
  refine ⟨xs, h1, fun q hq => ⟨h2 q hq, fun e => hn (by rw [hq, e])⟩, fun i e he => ?_⟩
  obtain ⟨A', m, k, e1, e2, e3, e4, e5⟩ := h3 i e he
  exact ⟨A', m, k, e1, e2, e3, e4, e5.ne hb hT⟩
theorem ERow.addU {W : World} {U : Foot} {B g T : Nat} {v : Value} {es : List En} {cs : Array Value} (h : ERow W (NotU U) B v es) (hb : Blk W g T cs) (hT : 5 ≠ T) (hT2 : 67 ≠ T) : ERow W (NotU (addF U g)) B v es :=
  (h.ne hb hT hT2).more (Nat.le_refl _) (fun j _ hj hu => by
    rcases hu with hu | hu
    · exact hj.1 hu
    · exact hj.2 hu)
theorem ERow.unU {W : World} {U : Foot} {B g : Nat} {v : Value} {es : List En} (h : ERow W (NotU (addF U g)) B v es) : ERow W (NotU U) B v es := h.more (Nat.le_refl _) (fun j _ hj hu => hj (.inl hu))
theorem Step.pastG {W X X' : World} {U U' : Foot} {q : Nat} (h : Step W U X U') (hg : X.grownBy X' (some q)) (hq : W.heap.size ≤ q) : Step W U X' U' := ⟨h.out.newG hg (.inl hq), h.sub⟩
theorem Step.past {W Y X : World} {U U' : Foot} {g : Nat} (hB : Below W.heap.size W Y) (h : Step Y (addF U g) X (addF U' g)) (hg : W.heap.size ≤ g) : Step W U X U' := by
  have hs := hB.size
  refine ⟨⟨h.out.os.trans hB.os, h.out.tape.trans hB.tape, h.out.output.trans hB.output, Nat.le_trans hs h.out.size, fun j hj hu => ?_⟩, fun j hj => ?_⟩
  · rw [h.out.block j (by omega) (fun h' => by
      rcases h' with h' | h'
      · exact hu h'
      · omega), hB.block j hj]
  · rcases h.sub j (.inl hj) with h' | h'
    · rcases h' with h' | h'
      · exact .inl h'
      · right; omega
    · right; omega
/-- what Open gives -/
def OpV (W W' : World) (U' : Foot) (d : Nat) (r : Int) (o : Option (WlS × Kp)) (e : Ending) : Prop := match o with
  | none => e = .returned (.tuple #[.pointer none, .agg (kC Kp.zero none 0 0), .int .i64 r])
  | some y => ∃ g A n c, e = .returned (.tuple #[.pointer (some ⟨g, 0, none⟩), .agg (kC y.2 A n c), .int .i64 0]) ∧ Blk W' g 105 (wlC d y.1) ∧ ¬ U' g ∧ W.heap.size ≤ g ∧ ERow W' (NotU U') W.heap.size (.slice A n c) y.2.es
set_option maxHeartbeats 4000000 in
theorem walOpen_any (W : World) (U : Foot) (d : Nat) (S : DS) (h : Dsk W U d S) (hc : S.k.calls + 200 < 1000000) :
    Calls Try.prog 40 #[.pointer (some ⟨d, 0, none⟩)] W fun e W' => ∃ U', Dsk W' U' d (S.wopen).1.2 ∧ Step W U W' U' ∧ OpV W W' U' d (S.wopen).1.1 (S.wopen).2 e := by
  have hfew := h.wf.t.few
  have hris := h.wf.t.ris
  have hroom := h.wf.k.room
  have hfit := h.wf.t.fit
  refine calls_vc Try.func40 rfl (by kernel_rfl) ?_
  ((conv => whnf); (repeat ((first | (refine VL.cons ?_) | (refine VC.seqS rfl ?_) | (refine VC.region ?_)); (conv => whnf))))
  ((repeat ((fail); (conv => whnf))))
  refine VSem.allocZ (z := .agg (kC Kp.zero none 0 0)) (by kernel_rfl) ?_
  intro w1 g3 hb3 hg3 hl3 hB1
  replace hb3 : Blk w1 g3 63 (kC Kp.zero none 0 0) := hb3
  ((conv => whnf); (repeat ((first | (refine VL.cons ?_) | (refine VL.nil ?_) | (refine VC.seqS rfl ?_) | (refine VC.region ?_)); (conv => whnf))))
  ((repeat ((fail); (conv => whnf))))
  refine VRead.ofW (v := .agg (wlC d ⟨0, 0, 0⟩)) (fun _ => by kernel_rfl) ?_
  ((conv => whnf); (repeat ((first | (refine VL.cons ?_)); (conv => whnf))))
  ((repeat ((fail); (conv => whnf))))
  refine VSem.boxB ?_
  intro w2 g5 hb5 hg5 hl5 hB2
  replace hb5 : Blk w2 g5 105 (wlC d ⟨0, 0, 0⟩) := hb5
  ((conv => whnf); (repeat ((first | (refine VL.cons ?_) | (refine VL.nil ?_) | (refine VC.seqS rfl ?_) | (refine VC.region ?_)); (conv => whnf))))
  ((repeat ((fail); (conv => whnf))))
  refine VRead.ofW (v := .agg (kC Kp.zero none 0 0)) (fun _ => by kernel_rfl) ?_
  ((conv => whnf); (repeat ((first | (refine VL.cons ?_)); (conv => whnf))))
  ((repeat ((fail); (conv => whnf))))
  refine VSem.allocZ (z := .agg (kC Kp.zero none 0 0)) (by kernel_rfl) ?_
  intro w3 g6 hb6 hg6 hl6 hB3
  replace hb6 : Blk w3 g6 63 (kC Kp.zero none 0 0) := hb6
  ((conv => whnf); (repeat ((first | (refine VL.cons ?_)); (conv => whnf))))
  ((repeat ((fail); (conv => whnf))))
  refine VUnit.storeAB hb6 rfl rfl rfl (by simp [kC, Kp.zero, Value.oneCell']) ?_
  intro w4 hb6' hg6'
  rw [setFrom_allW rfl] at hb6'
  have s1 := hB1.size
  have s2 := hB2.size
  have s3 := hB3.size
  have s4 := hg6'.size
  replace hb3 := ((hb3.later hB2).later hB3).only hg6' (by omega)
  replace hb5 := (hb5.later hB3).only hg6' (by omega)
  have hB04 : Below W.heap.size W w4 := only_new ((hB1.trans (hB2.mono s1)).trans (hB3.mono (Nat.le_trans s1 s2))) hg6' (by omega) (by omega)
  clear hb6 hB1 hB2 hB3 hg6'
  ((conv => whnf); (repeat ((first | (refine VL.cons ?_) | (refine VL.nil ?_)); (conv => whnf))))
  ((repeat ((first | (refine VL.cons ?_) | (refine VC.seqS rfl ?_) | (refine VC.region ?_) | (refine VC.seq ?_)); (conv => whnf))))
  refine VCall.of (oList w4 U d S (h.below hB04)) ?_
  rintro e w5 ⟨Al, kl, rfl, hOl, hB5⟩
  refine ⟨_, rfl, ?_⟩
  replace hb3 := hb3.later hB5
  replace hb5 := hb5.later hB5
  replace hb6' := hb6'.later hB5
  have hB05 := hB04.trans (hB5.mono hB04.size)
  have s5 := hB5.size
  obtain ⟨o1, o2, o3, o4⟩ : W.heap.size ≤ g3 ∧ g3 < g5 ∧ g5 < g6 ∧ g6 < w4.heap.size := by omega
  ((conv => whnf); (repeat ((first | (refine VL.cons ?_)); (conv => whnf))))
  ((repeat ((first | (refine VL.cons ?_) | (refine VL.nil ?_) | (refine VC.block ?_) | (refine VRead.lenS ?_)); (conv => whnf))))
  refine VC.loop [7, 8, 26] [(7, 8), (10, 17), (26, 56)] (fun q vs X => ∃ (j : Nat) (acc : Scn) (A : Option Addr) (n c : Nat), vs = [.bool acc.whole, .bool acc.some_, .int .i64 (j : Int)] ∧ q = S.t.length - j ∧ j ≤ S.t.length ∧ (S.t.take j).foldl woStep ⟨false, 0, Kp.zero, false⟩ = acc ∧ ScnOk acc ∧
      Blk X g3 63 (kC Kp.zero none 0 0) ∧ Blk X g5 105 (wlC d ⟨acc.n, 0, 0⟩) ∧ Blk X g6 63 (kC acc.k A n c) ∧ ERow X (fun j => W.heap.size ≤ j) W.heap.size (.slice A n c) acc.k.es ∧
      X.ownsRow w4.heap.size 9 1 (.slice Al S.t.length kl) S.t.length ((S.t.map (·.1)).map encStr) ∧ Below W.heap.size W X) (by kernel_rfl)
    ⟨_, 0, ⟨false, 0, Kp.zero, false⟩, none, 0, 0, rfl, rfl, by omega, rfl, ⟨by decide, ⟨by decide, by decide⟩, by decide⟩, hb3, hb5, hb6', ERow.nil _ _ _, hOl, hB05⟩ ?_
  clear hb3 hb5 hb6' hOl hB05 hB5 hB04
  rintro q τ vs X ⟨j, acc, A, n, c, rfl, rfl, hj, hacc, hok, hb3, hb5, hb6, hE, hO, hB⟩
  by_cases hjn : j < S.t.length
  case neg =>
    obtain rfl : j = S.t.length := by omega
    rw [List.take_length] at hacc
    have hscan : wScan S.t = acc := hacc
    unfold DS.wopen
    rw [hscan]
    have hd := h.below hB
    obtain ⟨hn9, hbase, hlen⟩ := id hok
    obtain ⟨hbase1, hbase2⟩ := hbase
    have hkl := hE.at_.2.2
    by_cases hcor : acc.some_ = true ∧ acc.n = 0
    · rw [if_pos hcor]
      obtain ⟨h1, h2⟩ := hcor
      have h2' : (acc.n : Int) = 0 := by omega
      ((conv => whnf); (repeat ((first | (refine VL.cons ?_) | (refine VL.nil ?_) | (refine VC.seqS rfl ?_) | (refine VC.region ?_)); (conv => whnf))))
      (repeat (first | ((first | (refine VL.cons ?_) | (refine VL.nil ?_) | (refine VC.seqS rfl ?_) | (refine VC.region ?_) | (refine VC.cond ?_) | (refine VC.exit ?_) | (refine VBool.t ?_) | (refine VBool.dT (by omega) ?_) | (refine VBool.dF (by omega) ?_) | (refine VRead.fld ?_) | (refine VC.seq ?_)); (conv => whnf)) | (refine VBool.yes h1 ?_; (conv => whnf)) | (refine VRead.loadB hb5 rfl rfl ?_; (conv => whnf))))
      refine VRead.ofW (v := .agg (kC Kp.zero none 0 0)) (fun _ => by kernel_rfl) ?_
      ((conv => whnf); (repeat ((first | (refine VL.cons ?_)); (conv => whnf))))
      ((repeat ((fail); (conv => whnf))))
      refine VUnit.storeAB hb3 rfl rfl rfl (by simp [kC, Kp.zero, Value.oneCell']) ?_
      intro X2 hb32 hg2
      rw [setFrom_allW rfl] at hb32
      ((conv => whnf); (repeat ((first | (refine VL.cons ?_) | (refine VL.nil ?_) | (refine VC.ret ?_)); (conv => whnf))))
      ((repeat ((fail); (conv => whnf))))
      refine VRes.op3 rfl hb32 rfl ?_
      have hB2 : Below W.heap.size W X2 := only_new hB hg2 (by omega) hB.size
      exact ⟨U, h.below hB2, Step.new hB2, rfl⟩
    rw [if_neg hcor]
    (conv => whnf)
    (iterate 8 ((first | (refine VL.cons ?_) | (refine VL.nil ?_) | (refine VC.seqS rfl ?_) | (refine VC.region ?_) | (refine VC.cond ?_) | (refine VC.exit ?_) | (refine VBool.dF (by omega) ?_) | (refine VC.seq ?_)); (conv => whnf)))
    refine VC.cut [2, 4] [(2, 2), (4, 4), (57, 65)] (fun vs Y => vs = [.pointer none, .int .i64 0] ∧ Y = X) (by kernel_rfl) ?_ ?_
    · cases hsm : acc.some_ with
      | false =>
        ((conv => whnf); (repeat ((first | (refine VL.cons ?_) | (refine VC.seqS rfl ?_) | (refine VC.region ?_)); (conv => whnf))))
        (repeat (first | ((first | (refine VL.cons ?_) | (refine VL.nil ?_) | (refine VC.cond ?_) | (refine VC.skip ?_) | (refine VBool.f ?_)); (conv => whnf)) | (refine VBool.no hsm ?_; (conv => whnf))))
        exact ⟨rfl, rfl⟩
      | true =>
        have h2' : ¬ (acc.n : Int) = 0 := fun e => hcor ⟨hsm, by omega⟩
        ((conv => whnf); (repeat ((first | (refine VL.cons ?_) | (refine VC.seqS rfl ?_) | (refine VC.region ?_)); (conv => whnf))))
        (repeat (first | ((first | (refine VL.cons ?_) | (refine VL.nil ?_) | (refine VC.cond ?_) | (refine VC.skip ?_) | (refine VBool.t ?_) | (refine VBool.dF (by omega) ?_) | (refine VRead.fld ?_)); (conv => whnf)) | (refine VBool.yes hsm ?_; (conv => whnf)) | (refine VRead.loadB hb5 rfl rfl ?_; (conv => whnf))))
        exact ⟨rfl, rfl⟩
    rintro τ2 vs Y ⟨rfl, hYX⟩
    have hB' : Below W.heap.size W Y := by rw [hYX]; exact hB
    rw [← hYX] at hb3 hb5 hb6 hE hd
    clear hYX hB hO
    have g5l := hb5.lt
    have g6l := hb6.lt
    have hE7 : Below Y.heap.size Y (Y.drewN 1) := below_drewN (Below.refl _ _) 1
    replace hb3 := hb3.later hE7
    replace hb5 := hb5.later hE7
    replace hb6 := hb6.later hE7
    replace hE := hE.below hE7
    have hB7 := hB'.trans (hE7.mono hB'.size)
    ((conv => whnf); (repeat ((fail); (conv => whnf))))
    ((repeat ((first | (refine VC.draw ?_) | (refine VC.seq ?_)); (conv => whnf))))
    refine VDraw.seg (fun Z => Blk Z g6 63 (kC acc.k A n c)) [([0, 1, 2, 3, 4, 5, 6, 7, 8, 9, 10, 11], 12), ([13, 14], 15)] [] (by kernel_rfl) (by kernel_rfl) hb6 ?_
    generalize Y.drewN 1 = Y1 at *
    (conv => whnf)
    (repeat ((first | (refine VRead.loadBS (fun Z hZ => hZ) rfl rfl ?_) | (refine VQ.cons ?_) | (refine VQ.nil ?_) | (refine VG.cons ?_) | (refine VRead.lenS ?_) | (refine VRead.fld ?_) | (refine VWrap.i64 (by omega) (by omega) ?_)); (conv => whnf)))
    refine VUnit.storeB hb5 rfl rfl rfl ?_
    intro Y2 hb52 hg2
    replace hE := hE.keepG hb5 hg2 (by decide) (hE.notBlk hb5 (by decide))
    replace hb3 := hb3.only hg2 (by omega)
    replace hb6 := hb6.only hg2 (by omega)
    have hB8 : Below W.heap.size W Y2 := only_new hB7 hg2 (by omega) hB7.size
    (conv => whnf)
    refine Keep.mk hb6 ?_
    (conv => whnf)
    ((repeat ((first | (refine VQ.cons ?_) | (refine VQ.nil ?_) | (refine VG.cons ?_) | (refine VRead.fld ?_)); (conv => whnf))))
    refine VUnit.storeB hb52 rfl rfl rfl ?_
    intro Y3 hb53 hg3'
    replace hE := hE.keepG hb52 hg3' (by decide) (hE.notBlk hb52 (by decide))
    replace hb3 := hb3.only hg3' (by omega)
    replace hb6 := hb6.only hg3' (by omega)
    have hB9 : Below W.heap.size W Y3 := only_new hB8 hg3' (by omega) hB8.size
    have hw3 : Blk Y3 g5 105 (wlC d acc.wl) := by
      have e1 : acc.wl = ⟨acc.n, acc.k.base, acc.k.base + n⟩ := by unfold Scn.wl; rw [hkl]
      rw [e1]; exact hb53
    clear hb5 hb52 hb53 hg2 hg3' hB7 hB8 hE7 hB' hd
    (conv => whnf)
    refine Keep.mk hb6 ?_
    have hd := h.below hB9
    have hU := h.lt
    have n3 : ¬ U g3 := fun hu => by have := hU g3 hu; omega
    have n5 : ¬ U g5 := fun hu => by have := hU g5 hu; omega
    have n6 : ¬ U g6 := fun hu => by have := hU g6 hu; omega
    replace hE : ERow Y3 (NotU U) W.heap.size (.slice A n c) acc.k.es := hE.more (Nat.le_refl _) (fun j _ hj hu => by have : W.heap.size ≤ j := hj; have := hU j hu; omega)
    have st := Step.new (U := U) hB9
    have hwlok := hok.wl
    have hwn : acc.wl.n = (acc.n : Int) := rfl
    obtain ⟨R, hR⟩ : ∃ R, S.wnext acc = R := ⟨_, rfl⟩
    rw [hR]
    (conv => whnf)
    (iterate 6 ((first | (refine VL.cons ?_) | (refine VL.nil ?_) | (refine VC.seqS rfl ?_) | (refine VC.region ?_) | (refine VQ.nil ?_) | (refine VG.nil ?_)); (conv => whnf)))
    have hRc := wnext_calls S acc
    rw [hR] at hRc
    refine VC.cut [18] [(18, 18), (80, 90)] (fun vs X => vs = [.int .i64 R.1.1] ∧ ∃ U', Dsk X U' d R.1.2 ∧ Blk X g5 105 (wlC d R.2) ∧ ¬ U' g5 ∧ Step Y3 (addF U g5) X (addF U' g5)) (by kernel_rfl) ?_ ?_
    · cases hwh : acc.whole with
      | true =>
        have e1 : S.wnext acc = (S.sync (wName acc.n), acc.wl) := by unfold DS.wnext; rw [if_pos hwh]
        rw [e1] at hR
        subst hR
        ((conv => whnf); (repeat ((first | (refine VL.cons ?_) | (refine VL.nil ?_) | (refine VC.seqS rfl ?_) | (refine VC.region ?_) | (refine VC.cond ?_)); (conv => whnf))))
        (repeat (first | ((first | (refine VL.cons ?_) | (refine VC.region ?_) | (refine VBool.t ?_) | (refine VRead.fld ?_)); (conv => whnf)) | (refine VBool.yes hwh ?_; (conv => whnf)) | (refine VRead.loadB hw3 rfl rfl ?_; (conv => whnf))))
        refine VCall.of (walName_any (acc.n : Int) Y3 (by omega)) ?_
        rintro e Z1 ⟨rfl, hZ1⟩
        refine ⟨_, rfl, ?_⟩
        ((conv => whnf); (repeat ((first | (refine VL.cons ?_)); (conv => whnf))))
        ((repeat ((fail); (conv => whnf))))
        refine VCall.of (oSync Z1 U d S (wName acc.n) (hd.below hZ1) (by omega) (by have := wName_le (acc.n : Int); omega)) ?_
        rintro e Z2 ⟨rfl, U2, hd2, st2⟩
        refine ⟨_, rfl, ?_⟩
        obtain ⟨hw4, n52⟩ := ((Step.new (U := U) hZ1).trans st2).blk hw3 n5
        ((conv => whnf); (repeat ((first | (refine VL.cons ?_) | (refine VL.nil ?_)); (conv => whnf))))
        ((repeat ((fail); (conv => whnf))))
        exact ⟨rfl, U2, hd2, hw4, n52, ((Step.new (U := U) hZ1).trans st2).add g5⟩
      | false =>
        have e1 : S.wnext acc = S.wanew acc.wl acc.k := by unfold DS.wnext; rw [if_neg (by rw [hwh]; simp)]
        rw [e1] at hR
        subst hR
        ((conv => whnf); (repeat ((first | (refine VL.cons ?_) | (refine VL.nil ?_) | (refine VC.seqS rfl ?_) | (refine VC.region ?_) | (refine VC.cond ?_)); (conv => whnf))))
        (repeat (first | ((first | (refine VL.cons ?_) | (refine VC.region ?_) | (refine VBool.f ?_)); (conv => whnf)) | (refine VBool.no hwh ?_; (conv => whnf)) | (refine VRead.loadAB1 hb6 rfl rfl ?_; (conv => whnf))))
        refine VCall.of (walAnew_any Y3 U g5 d S acc.wl acc.k A n c hd hw3 n5 hwlok (hE.at_.1.more (fun j hj _ => hj)) (by omega) (by omega) (by omega)) ?_
        rintro e Z2 ⟨rfl, U2, hd2, hw4, n52, st2⟩
        refine ⟨_, rfl, ?_⟩
        ((conv => whnf); (repeat ((first | (refine VL.cons ?_) | (refine VL.nil ?_)); (conv => whnf))))
        ((repeat ((fail); (conv => whnf))))
        exact ⟨rfl, U2, hd2, hw4, n52, st2⟩
    rintro τ3 vs X2 ⟨rfl, U2, hd2, hw4, n52, st2⟩
    obtain ⟨hRc1, hRn⟩ := hRc
    refine VC.cut [18] [(18, 18), (91, 94)] (fun vs X => vs = [.int .i64 (DS.wend R).1] ∧ ∃ U', Dsk X U' d (DS.wend R).2 ∧ Blk X g5 105 (wlC d R.2) ∧ ¬ U' g5 ∧ Step Y3 (addF U g5) X (addF U' g5)) (by kernel_rfl) ?_ ?_
    · by_cases cr : R.1.1 = 0
      case neg =>
        have e1 : DS.wend R = R.1 := by unfold DS.wend; rw [andT_no cr]
        rw [e1]
        ((conv => whnf); (repeat ((first | (refine VL.cons ?_) | (refine VL.nil ?_) | (refine VC.seqS rfl ?_) | (refine VC.region ?_) | (refine VC.cond ?_)); (conv => whnf))))
        (repeat (first | ((first | (refine VC.skip ?_) | (refine VBool.dF (by omega) ?_)); (conv => whnf)) | (refine VBool.dF cr ?_; (conv => whnf))))
        exact ⟨rfl, U2, hd2, hw4, n52, st2⟩
      have e1 : DS.wend R = R.1.2.clear wPre (wName R.2.n) R.1.2.keys := by unfold DS.wend; rw [andT_ok cr]
      rw [e1]
      ((conv => whnf); (repeat ((first | (refine VL.cons ?_) | (refine VL.nil ?_) | (refine VC.seqS rfl ?_) | (refine VC.region ?_) | (refine VC.cond ?_)); (conv => whnf))))
      (repeat (first | ((first | (refine VL.cons ?_) | (refine VC.region ?_) | (refine VBool.dT (by omega) ?_)); (conv => whnf)) | (refine VBool.dT cr ?_; (conv => whnf))))
      refine VCall.of (walClears_any X2 U2 g5 d R.1.2 R.2 hd2 hw4 n52 (by omega) (by omega)) ?_
      rintro e X3 ⟨rfl, U3, hd3, st3⟩
      refine ⟨_, rfl, ?_⟩
      obtain ⟨hw5, n53⟩ := st3.blk hw4 n52
      ((conv => whnf); (repeat ((first | (refine VL.cons ?_) | (refine VL.nil ?_)); (conv => whnf))))
      ((repeat ((fail); (conv => whnf))))
      exact ⟨rfl, U3, hd3, hw5, n53, st2.trans (st3.add g5)⟩
    clear hd2 hw4 n52 st2
    rintro τ4 vs X3 ⟨rfl, U3, hd3, hw5, n53, st3⟩
    obtain ⟨E, hEe⟩ : ∃ E, DS.wend R = E := ⟨_, rfl⟩
    rw [hEe] at hd3 ⊢
    obtain ⟨hb33, n33⟩ := st3.blk hb3 (fun h => by
      rcases h with h | h
      · exact n3 h
      · omega)
    obtain ⟨hb63, n63⟩ := st3.blk hb6 (fun h => by
      rcases h with h | h
      · exact n6 h
      · omega)
    have hE3 := ((hE.addU hw3 (by decide) (by decide)).step st3).unU
    have stW := Step.past hB9 st3 (by omega)
    have hg3n : ¬ U3 g3 := fun hu => n33 (.inl hu)
    have hg6n : ¬ U3 g6 := fun hu => n63 (.inl hu)
    clear hb3 hb6 hE hw3 st3 st hd
    by_cases cE : E.1 = 0
    case neg =>
      rw [if_neg cE]
      ((conv => whnf); (repeat ((fail); (conv => whnf))))
      (repeat (first | ((first | (refine VL.cons ?_) | (refine VL.nil ?_) | (refine VC.seqS rfl ?_) | (refine VC.region ?_) | (refine VC.cond ?_) | (refine VBool.nF (by omega) ?_) | (refine VC.seq ?_)); (conv => whnf)) | (refine VBool.nF cE ?_; (conv => whnf))))
      refine VRead.ofW (v := .agg (kC Kp.zero none 0 0)) (fun _ => by kernel_rfl) ?_
      ((conv => whnf); (repeat ((first | (refine VL.cons ?_)); (conv => whnf))))
      ((repeat ((fail); (conv => whnf))))
      refine VUnit.storeAB hb33 rfl rfl rfl (by simp [kC, Kp.zero, Value.oneCell']) ?_
      intro X4 hb34 hg4
      rw [setFrom_allW rfl] at hb34
      ((conv => whnf); (repeat ((first | (refine VL.cons ?_) | (refine VL.nil ?_) | (refine VC.ret ?_)); (conv => whnf))))
      ((repeat ((fail); (conv => whnf))))
      refine VRes.op3 rfl hb34 rfl ?_
      exact ⟨U3, hd3.cell hg4 hg3n, stW.pastG hg4 (by omega), rfl⟩
    rw [if_pos cE]
    ((conv => whnf); (repeat ((fail); (conv => whnf))))
    (repeat (first | ((first | (refine VL.cons ?_) | (refine VL.nil ?_) | (refine VC.seqS rfl ?_) | (refine VC.region ?_) | (refine VC.draw ?_) | (refine VC.cond ?_) | (refine VC.skip ?_) | (refine VBool.nT (by omega) ?_) | (refine VC.seq ?_)); (conv => whnf)) | (refine VBool.nT cE ?_; (conv => whnf))))
    have hE4 : Below X3.heap.size X3 (X3.drewN 1) := below_drewN (Below.refl _ _) 1
    replace hb33 := hb33.later hE4
    replace hb63 := hb63.later hE4
    replace hw5 := hw5.later hE4
    replace hE3 := hE3.below hE4
    replace hd3 := hd3.below hE4
    replace stW := stW.trans (Step.new (U := U3) hE4)
    refine VDraw.seg (fun Z => Blk Z g6 63 (kC acc.k A n c)) [([0, 1, 2], 3)] [4] (by kernel_rfl) (by kernel_rfl) hb63 ?_
    generalize X3.drewN 1 = X5 at *
    (conv => whnf)
    (repeat ((first | (refine VRead.loadAB (fun Z hZ => hZ) rfl rfl ?_) | (refine VQ.cons ?_) | (refine VQ.nil ?_) | (refine VG.cons ?_)); (conv => whnf)))
    refine VUnit.storeAB hb33 rfl rfl rfl (by simp [kC, Value.oneCell']) ?_
    intro X6 hb36 hg6'
    rw [setFrom_allW (vs := kC acc.k A n c) (by rfl)] at hb36
    replace hE3 := hE3.keepG hb33 hg6' (by decide) (hE3.notBlk hb33 (by decide))
    replace hb63 := hb63.only hg6' (by omega)
    replace hw5 := hw5.only hg6' (by omega)
    (conv => whnf)
    refine Keep.mk hb63 ?_
    ((conv => whnf); (repeat ((first | (refine VC.ret ?_) | (refine VQ.cons ?_) | (refine VQ.nil ?_) | (refine VG.nil ?_)); (conv => whnf))))
    ((repeat ((fail); (conv => whnf))))
    refine VRes.op3 rfl hb36 rfl ?_
    exact ⟨U3, hd3.cell hg6' hg3n, stW.pastG hg6' (by omega), g5, A, n, c, rfl, hw5, n53, by omega, hE3⟩
  obtain ⟨p, hp⟩ : ∃ p, S.t[j]? = some p := ⟨_, List.getElem?_eq_getElem hjn⟩
  have hpm := List.mem_of_getElem? hp
  have hpn := (h.wf.t.names p hpm).2
  have htk : (S.t.take (j + 1)).foldl woStep ⟨false, 0, Kp.zero, false⟩ = woStep acc p := by rw [take_snoc hp, List.foldl_append, hacc]; rfl
  have hpu := len_used hpm
  obtain ⟨ad, u, rfl, _, hu, hcell⟩ := (Reads.row hO).at_ hjn
  obtain ⟨x', hx', rfl⟩ := map_at hu
  rw [List.getElem?_map, hp] at hx'
  obtain rfl := Option.some.inj hx'
  have hcell' : X.cell? (ad.add j) = some (.string (txt p.1)) := hcell
  ((conv => whnf); (repeat ((first | (refine VL.cons ?_) | (refine VL.nil ?_) | (refine VC.seqS rfl ?_) | (refine VC.region ?_)); (conv => whnf))))
  (repeat (first | ((first | (refine VL.cons ?_) | (refine VL.nil ?_) | (refine VC.seqS rfl ?_) | (refine VC.region ?_) | (refine VC.cond ?_) | (refine VC.block ?_) | (refine VC.skip ?_) | (refine VBool.dT (by omega) ?_) | (refine VRead.load1 (by assumption) ?_) | (refine VRead.at1 (by omega) ?_) | (refine VC.seq ?_)); (conv => whnf)) | (refine VRead.at1 hjn ?_; (conv => whnf))))
  refine VCall.of (walNumber_any p.1 X (by omega)) ?_
  rintro e X2 ⟨rfl, hB2⟩
  refine ⟨_, rfl, ?_⟩
  have hB02 := hB.trans (hB2.mono hB.size)
  replace hb3 := hb3.later hB2
  replace hb5 := hb5.later hB2
  replace hb6 := hb6.later hB2
  replace hE := hE.below hB2
  replace hO := rows_below hO hB2 (Nat.le_refl _)
  cases hN : wNum p.1 with
  | none =>
    have e1 : woStep acc p = acc := by unfold woStep; rw [hN]
    ((conv => whnf); (repeat ((first | (refine VL.cons ?_) | (refine VL.nil ?_)); (conv => whnf))))
    ((repeat ((first | (refine VL.cons ?_) | (refine VL.nil ?_) | (refine VC.seqS rfl ?_) | (refine VC.region ?_) | (refine VC.cond ?_) | (refine VC.exit ?_) | (refine VBool.t ?_) | (refine VWrap.i64 (by omega) (by omega) ?_) | (refine VC.seq ?_)); (conv => whnf))))
    exact ⟨_, by omega, j + 1, acc, A, n, c, rfl, rfl, by omega, by rw [htk, e1], hok, hb3, hb5, hb6, hE, hO, hB02⟩
  | some nn =>
    obtain ⟨_, hk1, hk2⟩ := wNum_some hN
    have hd2 := h.below hB02
    ((conv => whnf); (repeat ((first | (refine VL.cons ?_) | (refine VL.nil ?_)); (conv => whnf))))
    ((repeat ((first | (refine VL.cons ?_) | (refine VL.nil ?_) | (refine VC.seqS rfl ?_) | (refine VC.region ?_) | (refine VC.cond ?_) | (refine VC.skip ?_) | (refine VBool.f ?_) | (refine VC.seq ?_)); (conv => whnf))))
    refine VCall.of (oRead X2 U d S p.1 hd2 (by omega)) ?_
    rintro e X3 ⟨u3, rfl, hrd, hB3⟩
    refine ⟨_, rfl, ?_⟩
    unfold readR at hrd
    rw [tfind_of hris.nd (show (p.1, p.2) ∈ S.t from hpm)] at hrd
    obtain ⟨A3, k3, rfl, hO3⟩ := hrd
    ((conv => whnf); (repeat ((first | (refine VL.cons ?_) | (refine VL.nil ?_) | (refine VC.seqS rfl ?_) | (refine VC.region ?_)); (conv => whnf))))
    ((repeat ((fail); (conv => whnf))))
    refine VCall.of (walRead_any A3 p.2.b.length k3 p.2.b X3 (by omega) hO3.cap hO3.reads) ?_
    rintro e X4 ⟨⟨v4, rfl, hV4⟩, hB4⟩
    refine ⟨_, rfl, ?_⟩
    have hB24 : Below X2.heap.size X2 X4 := hB3.trans (hB4.mono hB3.size)
    have hB04 := hB02.trans (hB24.mono hB02.size)
    have u24 := hB24.size
    have u02 := hB02.size
    have hX3 : W.heap.size ≤ X3.heap.size := Nat.le_trans hB02.size hB3.size
    have u23 := hB3.size
    have g5l := hb5.lt
    have g6l := hb6.lt
    replace hb3 := hb3.later hB24
    replace hb5 := hb5.later hB24
    replace hb6 := hb6.later hB24
    replace hE := hE.below hB24
    replace hO := rows_below hO hB24 (Nat.le_refl _)
    cases hs : readW p.2.b with
    | none =>
      have e1 : woStep acc p = { acc with some_ := true } := by unfold woStep; rw [hN]; simp only; rw [hs]
      rw [hs] at hV4
      have hv4 : v4 = .tuple #[.agg (kC Kp.zero none 0 0), .bool false, .bool false] := hV4
      subst hv4
      ((conv => whnf); (repeat ((first | (refine VL.cons ?_)); (conv => whnf))))
      ((repeat ((fail); (conv => whnf))))
      refine VSem.allocZ (z := .agg (kC Kp.zero none 0 0)) (by kernel_rfl) ?_
      intro X5 q hq hqe hql hB5
      ((conv => whnf); (repeat ((first | (refine VL.cons ?_)); (conv => whnf))))
      ((repeat ((fail); (conv => whnf))))
      refine VUnit.storeAB hq rfl rfl rfl (by simp [kC, Kp.zero, Value.oneCell']) ?_
      intro X6 hq6 hg6
      have hB46 : Below X4.heap.size X4 X6 := only_new hB5 hg6 (by omega) (by omega)
      have hB06 := hB04.trans (hB46.mono hB04.size)
      ((conv => whnf); (repeat ((first | (refine VL.cons ?_) | (refine VL.nil ?_) | (refine VC.seqS rfl ?_) | (refine VC.region ?_) | (refine VC.cond ?_)); (conv => whnf))))
      ((repeat ((first | (refine VL.cons ?_) | (refine VL.nil ?_) | (refine VC.region ?_) | (refine VC.skip ?_) | (refine VBool.f ?_) | (refine VWrap.i64 (by omega) (by omega) ?_)); (conv => whnf))))
      exact ⟨_, by omega, j + 1, { acc with some_ := true }, A, n, c, rfl, rfl, by omega, by rw [htk, e1], ⟨hok.n, hok.b, hok.l⟩, hb3.later hB46, hb5.later hB46, hb6.later hB46, hE.below hB46, rows_below hO hB46 (Nat.le_refl _), hB06⟩
    | some kp =>
      rw [hs] at hV4
      obtain ⟨A5, n5, c5, rfl, hE5⟩ := hV4
      obtain ⟨hbk, hlk⟩ := readW_ok hs
      have e1 : woStep acc p = ⟨true, nn, kp, isWhole p.2.b⟩ := by unfold woStep; rw [hN]; simp only; rw [hs]
      ((conv => whnf); (repeat ((first | (refine VL.cons ?_)); (conv => whnf))))
      ((repeat ((fail); (conv => whnf))))
      refine VSem.allocZ (z := .agg (kC Kp.zero none 0 0)) (by kernel_rfl) ?_
      intro X5 q hq hqe hql hB5
      ((conv => whnf); (repeat ((first | (refine VL.cons ?_)); (conv => whnf))))
      ((repeat ((fail); (conv => whnf))))
      refine VUnit.storeAB hq rfl rfl rfl (by simp [kC, Value.oneCell']) ?_
      intro X6 hq6 hg6
      rw [setFrom_allW (vs := kC kp A5 n5 c5) (by rfl)] at hq6
      replace hq6 : Blk X6 q 63 (kC kp A5 n5 c5) := hq6
      have hB46 : Below X4.heap.size X4 X6 := only_new hB5 hg6 (by omega) (by omega)
      have hB06 := hB04.trans (hB46.mono hB04.size)
      have hb5l := hb5.lt
      have hb6l := hb6.lt
      have hb3l := hb3.lt
      replace hb3 := hb3.later hB46
      replace hb5 := hb5.later hB46
      replace hb6 := hb6.later hB46
      replace hO := rows_below hO hB46 (Nat.le_refl _)
      replace hE5 := hE5.below hB46
      have hE7 : Below X6.heap.size X6 (X6.drewN 1) := below_drewN (Below.refl _ _) 1
      replace hb3 := hb3.later hE7
      replace hb5 := hb5.later hE7
      replace hb6 := hb6.later hE7
      replace hq6 := hq6.later hE7
      replace hO := rows_below hO hE7 (Nat.le_refl _)
      replace hE5 := hE5.below hE7
      have hB07 := hB06.trans (hE7.mono hB06.size)
      ((conv => whnf); (repeat ((first | (refine VL.cons ?_) | (refine VL.nil ?_) | (refine VC.seqS rfl ?_) | (refine VC.region ?_) | (refine VC.cond ?_)); (conv => whnf))))
      ((repeat ((first | (refine VC.draw ?_) | (refine VBool.t ?_)); (conv => whnf))))
      refine VDraw.seg (fun Y => Blk Y q 63 (kC kp A5 n5 c5)) [([0, 1, 2, 3, 4, 5], 6), ([], 7)] [8] (by kernel_rfl) (by kernel_rfl) hq6 ?_
      generalize X6.drewN 1 = X7 at *
      (conv => whnf)
      (repeat ((first | (refine VRead.loadAB (fun Y hY => hY) rfl rfl ?_) | (refine VQ.cons ?_) | (refine VQ.nil ?_) | (refine VG.cons ?_) | (refine VRead.fld ?_)); (conv => whnf)))
      refine VUnit.storeB hb5 rfl rfl rfl ?_
      intro X8 hb58 hg8
      replace hb58 : Blk X8 g5 105 (wlC d ⟨nn, 0, 0⟩) := hb58
      replace hO := rows_apart hO hg8 (fun q' e hq' => by have h1 := (World.ownsRow.lt hO q' hq').1; have h2 : g5 = q' := by { injection e }; omega)
      replace hE5 := hE5.keepG hb5 hg8 (by decide) (fun e => by have := (hE5.lt e).2; omega)
      replace hb3 := hb3.only hg8 (by omega)
      replace hb6 := hb6.only hg8 (by omega)
      replace hq6 := hq6.only hg8 (by omega)
      have hB08 : Below W.heap.size W X8 := only_new hB07 hg8 (by omega) hB07.size
      (conv => whnf)
      refine Keep.mk hq6 ?_
      (conv => whnf)
      ((repeat ((first | (refine VQ.nil ?_) | (refine VG.cons ?_)); (conv => whnf))))
      refine VUnit.storeAB hb6 rfl rfl rfl (by simp [kC, Value.oneCell']) ?_
      intro X9 hb69 hg9
      rw [setFrom_allW (vs := kC kp A5 n5 c5) (by rfl)] at hb69
      replace hO := rows_apart hO hg9 (fun q' e hq' => by have h1 := (World.ownsRow.lt hO q' hq').1; have h2 : g6 = q' := by { injection e }; omega)
      replace hE5 := hE5.keepG hb6 hg9 (by decide) (fun e => by have := (hE5.lt e).2; omega)
      replace hb3 := hb3.only hg9 (by omega)
      replace hb58 := hb58.only hg9 (by omega)
      replace hq6 := hq6.only hg9 (by omega)
      have hB09 : Below W.heap.size W X9 := only_new hB08 hg9 (by omega) hB08.size
      (conv => whnf)
      refine Keep.mk hq6 ?_
      (conv => whnf)
      ((repeat ((first | (refine VL.cons ?_) | (refine VL.nil ?_) | (refine VC.region ?_) | (refine VQ.cons ?_) | (refine VQ.nil ?_) | (refine VG.nil ?_) | (refine VWrap.i64 (by omega) (by omega) ?_)); (conv => whnf))))
      exact ⟨_, by omega, j + 1, ⟨true, nn, kp, isWhole p.2.b⟩, A5, n5, c5, rfl, rfl, by omega, by rw [htk, e1], ⟨by omega, hbk, by simp only; omega⟩, hb3, hb58, hb69, hE5.more (by omega) (fun j _ hj => by have : X3.heap.size ≤ j := hj; show W.heap.size ≤ j; omega), hO, hB09⟩
end Go.Proofs.Ytebeidnmplnlpaa
end

section
set_option maxRecDepth 10000
namespace Go.Proofs.Ytebeidnmplnlpaa
set_option linter.unusedVariables false
open Go.RowKit

abbrev Sn := Nat × Int × List UInt8
def SnV (W : World) (B : Nat) (o : Option Sn) (i t : Int) (v : Value) : Prop := match o with
  | some y => i = (y.1 : Int) ∧ 1 ≤ y.1 ∧ y.1 ≤ 1099511627776 ∧ t = y.2.1 ∧ ∃ A c, v = .slice A y.2.2.length c ∧ Own W B (.slice A y.2.2.length c) y.2.2.length y.2.2
  | none => i = 0 ∧ t = 0 ∧ v = .slice none 0 0
theorem SnV.below {W W' : World} {B : Nat} {o : Option Sn} {i t : Int} {v : Value} (h : SnV W B o i t v) (hb : Below W.heap.size W W') : SnV W' B o i t v := by
  unfold SnV at *
  cases o with
  | none => exact h
  | some y =>
    obtain ⟨h1, h2, h3, h4, A, c, h5, h6⟩ := h
    exact ⟨h1, h2, h3, h4, A, c, h5, rows_below h6 hb (Nat.le_refl _)⟩
end Go.Proofs.Ytebeidnmplnlpaa
end

section
set_option maxRecDepth 10000
namespace Go.Proofs.Ytebeidnmplnlpaa
set_option linter.unusedVariables false
open Go.RowKit

/-! ### what is in a file -/
def fullF (b : List UInt8) : Fl := ⟨b, b.length⟩
theorem chunks_ind {P : List UInt8 → Prop} (h0 : P []) (h1 : ∀ l, l ≠ [] → P (l.drop 1000) → P l) : ∀ (n : Nat) (l : List UInt8), l.length ≤ n → P l
  | 0, l, h => by
    obtain rfl : l = [] := List.eq_nil_of_length_eq_zero (by omega)
    exact h0
  | n + 1, l, h => by
    by_cases hl : l = []
    · subst hl; exact h0
    · have : 0 < l.length := List.length_pos_iff.2 hl
      exact h1 l hl (chunks_ind h0 h1 n _ (by rw [List.length_drop]; omega))
theorem chunks_ok (l : List UInt8) : Frame.Ok1 (chunks l) :=
  chunks_ind (P := fun l => Frame.Ok1 (chunks l)) (fun b hb => by simp [chunks_nil] at hb) (fun l hl ih b hb => by
    have : 0 < l.length := List.length_pos_iff.2 hl
    rw [chunks_cons hl] at hb
    rcases List.mem_cons.1 hb with rfl | hb
    · rw [List.length_take]; omega
    · exact ih b hb) l.length l (Nat.le_refl _)
theorem intS_put' {v : Int} (h : -9223372036854775808 ≤ v ∧ v ≤ 9223372036854775807) (t : List UInt8) : Wire.intS (some (Wire.int v ++ t)) = (v, some t) := by
  unfold Wire.intS
  simp only
  rw [Wire.getInt_int h]
theorem hd_read {i t : Int} {n : Nat} (hi : -9223372036854775808 ≤ i ∧ i ≤ 9223372036854775807) (ht : -9223372036854775808 ≤ t ∧ t ≤ 9223372036854775807) (hn : n ≤ 9223372036854775807) :
    hA (hdB i t n) = i ∧ hT (hdB i t n) = t ∧ hN (hdB i t n) = (n : Int) ∧ hE (hdB i t n) = true := by
  have e0 : hdB i t n = Wire.int i ++ (Wire.int t ++ (Wire.int (n : Int) ++ [])) := by unfold hdB; simp
  have e1 : Wire.intS (some (hdB i t n)) = (i, some (Wire.int t ++ (Wire.int (n : Int) ++ []))) := by rw [e0]; exact intS_put' hi _
  have e2 : Wire.intS (some (Wire.int t ++ (Wire.int (n : Int) ++ []))) = (t, some (Wire.int (n : Int) ++ [])) := intS_put' ht _
  have e3 : Wire.intS (some (Wire.int (n : Int) ++ [])) = ((n : Int), some []) := intS_put' (by omega) _
  refine ⟨?_, ?_, ?_, ?_⟩
  · unfold hA; rw [e1]
  · unfold hT; rw [e1]; simp only; rw [e2]
  · unfold hN; rw [e1]; simp only; rw [e2]; simp only; rw [e3]
  · unfold hE; rw [e1]; simp only; rw [e2]; simp only; rw [e3]; rfl
theorem hd_len (i t : Int) (n : Nat) : 3 ≤ (hdB i t n).length ∧ (hdB i t n).length ≤ 30 := by
  have a1 := Wire.int_len i
  have a2 := Wire.int_len t
  have a3 := Wire.int_len (n : Int)
  unfold hdB
  simp only [List.length_append]
  omega
structure SvOk (i t : Int) (data : List UInt8) : Prop where
  i1 : 1 ≤ i
  i2 : i ≤ 1099511627776
  t1 : 1 ≤ t
  t2 : t ≤ 1099511627776
  n1 : 1 ≤ data.length
  n2 : data.length ≤ 1048576
theorem SvOk.hd {i t : Int} {data : List UInt8} (h : SvOk i t data) : HdOk (hdB i t data.length) i := by
  obtain ⟨h1, h2, h3, h4, h5, h6⟩ := h
  obtain ⟨e1, e2, e3, e4⟩ := hd_read (i := i) (t := t) (n := data.length) (by omega) (by omega) (by omega)
  exact ⟨e4, e1, by rw [e2]; exact h3, by rw [e2]; exact h4, by rw [e3]; omega, by rw [e3]; omega⟩
theorem SvOk.bs {i t : Int} {data : List UInt8} (h : SvOk i t data) : Frame.Ok1 (hdB i t data.length :: chunks data) := fun b hb => by
  rcases List.mem_cons.1 hb with rfl | hb
  · have := hd_len i t data.length; omega
  · exact chunks_ok data b hb
/-! ### tables of few files -/
section
variable {T : PT} {s : List UInt8} {f g : Fl}
theorem tset_cons (j : List UInt8) (y : Fl) (r : PT) (i : List UInt8) (x : Fl) : tset ((j, y) :: r) i x = if i < j then (i, x) :: (j, y) :: r else if j = i then (i, x) :: r else (j, y) :: tset r i x := rfl
theorem tset_nil (i : List UInt8) (x : Fl) : tset ([] : PT) i x = [(i, x)] := rfl
theorem tset_tset : ∀ {T : PT}, tset (tset T s f) s g = tset T s g
  | [] => by rw [tset_nil, tset_cons, if_neg (List.lt_irrefl _), if_pos rfl, tset_nil]
  | (j, y) :: T => by
    rw [tset_cons, tset_cons]
    by_cases h1 : s < j
    · rw [if_pos h1, if_pos h1, tset_cons, if_neg (List.lt_irrefl _), if_pos rfl]
    · rw [if_neg h1, if_neg h1]
      by_cases h2 : j = s
      · rw [if_pos h2, if_pos h2, tset_cons, if_neg (List.lt_irrefl _), if_pos rfl]
      · rw [if_neg h2, if_neg h2, tset_cons, if_neg h1, if_neg h2, tset_tset]
theorem tset_last (hT : ∀ p ∈ T, p.1 < s) : tset T s f = T ++ [(s, f)] := by
  induction T with
  | nil => rfl
  | cons q T ih =>
    obtain ⟨j, y⟩ := q
    have hq : j < s := hT (j, y) (by simp)
    rw [tset_cons, if_neg (fun h => List.lt_irrefl _ (List.lt_trans hq h)), if_neg (fun e => by subst e; exact List.lt_irrefl _ hq), ih (fun p hp => hT p (List.mem_cons_of_mem _ hp))]
    rfl
theorem tfind_last (hT : ∀ p ∈ T, p.1 < s) : tfind (T ++ [(s, f)]) s = some f := by
  induction T with
  | nil => simp [tfind]
  | cons q T ih =>
    obtain ⟨j, y⟩ := q
    have hq : j < s := hT (j, y) (by simp)
    rw [List.cons_append]
    unfold tfind
    rw [if_neg (fun e => by subst e; exact List.lt_irrefl _ hq)]
    exact ih (fun p hp => hT p (List.mem_cons_of_mem _ hp))
theorem tdel_low (hT : ∀ p ∈ T, p.1 < s) : tdel T s = T := tdel_not (fun h => by
  obtain ⟨p, hp, rfl⟩ := List.mem_map.1 h
  exact List.lt_irrefl _ (hT p hp))
theorem tdel_last (hT : ∀ p ∈ T, p.1 < s) : tdel (T ++ [(s, f)]) s = T := by
  unfold tdel
  rw [List.filter_append]
  have h1 := tdel_low hT
  unfold tdel at h1
  rw [h1]
  simp
theorem tset_lastA (hT : ∀ p ∈ T, p.1 < s) : tset (T ++ [(s, f)]) s g = T ++ [(s, g)] := by rw [← tset_last (f := f) hT, tset_tset, tset_last hT]
end
end Go.Proofs.Ytebeidnmplnlpaa
end

section
set_option maxRecDepth 10000
namespace Go.Proofs.Ytebeidnmplnlpaa
set_option linter.unusedVariables false
open Go.RowKit

section
variable {S : DS} {s u b : List UInt8} {f : Fl}
end
theorem clear_cons (S : DS) (pre nm x : List UInt8) (r : List (List UInt8)) : S.clear pre nm (x :: r) = if isPre pre x = true ∧ x ≠ nm then andT (S.remove x) fun S' => DS.clear S' pre nm r else DS.clear S pre nm r := rfl
/-! ### a disk that nothing ails -/
theorem used_append (A B : PT) : used (A ++ B) = used A + used B := by
  induction A with
  | nil => simp [used]
  | cons p A ih => rw [List.cons_append, show used (p :: (A ++ B)) = p.2.b.length + used (A ++ B) from rfl, show used (p :: A) = p.2.b.length + used A from rfl, ih]; omega
end Go.Proofs.Ytebeidnmplnlpaa
end

section
set_option maxRecDepth 10000
namespace Go.Proofs.Ytebeidnmplnlpaa
set_option linter.unusedVariables false
open Go.RowKit

def entBs (i : Int) : List En → List (List UInt8)
  | [] => []
  | e :: r => entB i e :: entBs (i + 1) r
theorem entBs_len : ∀ (es : List En) (i : Int), (entBs i es).length = es.length
  | [], i => rfl
  | e :: r, i => by unfold entBs; rw [List.length_cons, entBs_len, List.length_cons]
theorem entBs_app (es fs : List En) (i : Int) : entBs i (es ++ fs) = entBs i es ++ entBs (i + es.length) fs := by
  induction es generalizing i with
  | nil => simp [entBs]
  | cons e es ih =>
    show entB i e :: entBs (i + 1) (es ++ fs) = entB i e :: (entBs (i + 1) es ++ _)
    rw [ih, List.length_cons]
    rw [show i + 1 + (es.length : Int) = i + ((es.length + 1 : Nat) : Int) by omega]
theorem entBs_take (es : List En) (i : Int) (m : Nat) : (entBs i es).take m = entBs i (es.take m) := by
  induction es generalizing i m with
  | nil => simp [entBs]
  | cons e es ih =>
    cases m with
    | zero => simp [entBs]
    | succ m =>
      show (entB i e :: entBs (i + 1) es).take (m + 1) = entB i e :: entBs (i + 1) (es.take m)
      rw [List.take_succ_cons, ih]
theorem written_laid (es : List En) (i : Int) : written i es = Frame.laid (entBs i es) := by
  induction es generalizing i with
  | nil => rfl
  | cons e es ih =>
    rw [written_cons, ih, show entBs i (e :: es) = entB i e :: entBs (i + 1) es from rfl, Frame.laid_cons]
theorem entBs_ok {es : List En} (h : ∀ e ∈ es, mayE e) (i : Int) : Frame.Ok1 (entBs i es) := by
  induction es generalizing i with
  | nil => intro b hb; simp [entBs] at hb
  | cons e es ih =>
    intro b hb
    unfold entBs at hb
    rcases List.mem_cons.1 hb with rfl | hb
    · have h1 := entB_len i e
      have h2 := (h e (by simp)).2.2
      omega
    · exact ih (fun x hx => h x (List.mem_cons_of_mem _ hx)) (i + 1) b hb
def inI (v : Int) : Prop := -9223372036854775808 ≤ v ∧ v ≤ 9223372036854775807
theorem boolS_put (t : Bool) (r : List UInt8) : Wire.boolS (some (Wire.bool t ++ r)) = (t, some r) := by
  cases t <;> simp [Wire.boolS, Wire.bool]
theorem takes_first {k : Kp} {a b : Int} (ha : inR a 1099511627776) (hb : inR b 1099511627776) : takes k (recB 0 [a, b]) true = some { k with base := a, bterm := b } := by
  obtain ⟨a1, a2⟩ := id ha
  obtain ⟨b1, b2⟩ := id hb
  have e0 : numB [a, b] = Wire.int a ++ (Wire.int b ++ []) := by simp [numB]
  have e1 : Wire.intS (some (numB [a, b])) = (a, some (Wire.int b ++ [])) := by rw [e0]; exact intS_put' ⟨by omega, by omega⟩ _
  have e2 : Wire.intS (some (Wire.int b ++ [])) = (b, some []) := intS_put' ⟨by omega, by omega⟩ _
  unfold takes recB
  simp only
  rw [if_pos (by decide), if_pos (by decide)]
  unfold tk0
  rw [e1]; simp only; rw [e2]; simp only
  rw [if_pos ⟨rfl, ha, hb⟩]
theorem takes_hard {k : Kp} {a b : Int} (ha : inR a 1099511627776) (hb : inR b 7) : takes k (recB 1 [a, b]) false = some { k with term := a, vote := b } := by
  obtain ⟨a1, a2⟩ := id ha
  obtain ⟨b1, b2⟩ := id hb
  have e0 : numB [a, b] = Wire.int a ++ (Wire.int b ++ []) := by simp [numB]
  have e1 : Wire.intS (some (numB [a, b])) = (a, some (Wire.int b ++ [])) := by rw [e0]; exact intS_put' ⟨by omega, by omega⟩ _
  have e2 : Wire.intS (some (Wire.int b ++ [])) = (b, some []) := intS_put' ⟨by omega, by omega⟩ _
  unfold takes recB
  simp only
  rw [if_pos (by decide), if_neg (by decide), if_pos (by decide)]
  unfold tk1
  rw [e1]; simp only; rw [e2]; simp only
  rw [if_pos ⟨rfl, ha, hb⟩]
theorem takes_ent {k : Kp} {i : Int} {e : En} (he : mayE e) (h1 : k.base < i) (h2 : i ≤ k.base + k.es.length + 1) (hi : inI i) : takes k (entB i e) false = some { k with es := k.es.take (i - k.base - 1).toNat ++ [e] } := by
  obtain ⟨t1, t2, t3⟩ := id he
  have e0 : entB i e = 2 :: (Wire.int i ++ (Wire.int e.term ++ (Wire.bool e.cmd ++ (Wire.text e.data ++ [])))) := by simp [entB, recB, numB]
  rw [e0]
  have i1 : eI (Wire.int i ++ (Wire.int e.term ++ (Wire.bool e.cmd ++ (Wire.text e.data ++ [])))) = (i, some (Wire.int e.term ++ (Wire.bool e.cmd ++ (Wire.text e.data ++ [])))) := intS_put' hi _
  have i2 : eT (Wire.int i ++ (Wire.int e.term ++ (Wire.bool e.cmd ++ (Wire.text e.data ++ [])))) = (e.term, some (Wire.bool e.cmd ++ (Wire.text e.data ++ []))) := by unfold eT; rw [i1]; exact intS_put' ⟨by omega, by omega⟩ _
  have i3 : eC (Wire.int i ++ (Wire.int e.term ++ (Wire.bool e.cmd ++ (Wire.text e.data ++ [])))) = (e.cmd, some (Wire.text e.data ++ [])) := by unfold eC; rw [i2]; exact boolS_put _ _
  have i4 : eD (Wire.int i ++ (Wire.int e.term ++ (Wire.bool e.cmd ++ (Wire.text e.data ++ [])))) = (e.data, some []) := by unfold eD; rw [i3]; exact Wire.textS_text _ _ (by omega) (by omega)
  have i5 : eE (Wire.int i ++ (Wire.int e.term ++ (Wire.bool e.cmd ++ (Wire.text e.data ++ [])))) = e := by unfold eE; rw [i2, i3, i4]
  generalize Wire.int i ++ (Wire.int e.term ++ (Wire.bool e.cmd ++ (Wire.text e.data ++ []))) = r at *
  unfold takes
  simp only
  rw [if_pos (by decide), if_neg (by decide), if_neg (by decide), if_pos (by decide)]
  unfold tk2
  rw [i4, i5, i1]
  simp only
  rw [if_pos ⟨rfl, he, h1, h2⟩]
theorem takesA_cons {st : Bool} {k k' : Kp} {b : List UInt8} {r : List (List UInt8)} (h : takes k b st = some k') : takesA st k (b :: r) = takesA false k' r := by
  show (match takes k b st with | some k' => takesA false k' r | none => none) = _
  rw [h]
/-- entries from an index on -/
theorem takesA_ents : ∀ {es : List En} {k : Kp} {m : Nat}, (∀ e ∈ es, mayE e) → es ≠ [] → m ≤ k.es.length → inR k.base 1099511627776 → k.es.length + es.length ≤ 1000000000 →
    takesA false k (entBs (k.base + m + 1) es) = some { k with es := k.es.take m ++ es }
  | [], k, m, h, h0, hm, hb, hl => absurd rfl h0
  | [e], k, m, h, h0, hm, ⟨hb1, hb2⟩, hl => by
    have h1 := takes_ent (k := k) (i := k.base + m + 1) (h e (by simp)) (by omega) (by omega) ⟨by omega, by omega⟩
    rw [show (k.base + m + 1 - k.base - 1).toNat = m by omega] at h1
    exact takesA_cons h1
  | e :: f :: es, k, m, h, h0, hm, ⟨hb1, hb2⟩, hl => by
    have hl' : k.es.length + (es.length + 1 + 1) ≤ 1000000000 := hl
    have h1 := takes_ent (k := k) (i := k.base + m + 1) (h e (by simp)) (by omega) (by omega) ⟨by omega, by omega⟩
    rw [show (k.base + m + 1 - k.base - 1).toNat = m by omega] at h1
    have e1 : entBs (k.base + m + 1) (e :: f :: es) = entB (k.base + m + 1) e :: entBs (k.base + m + 1 + 1) (f :: es) := rfl
    have hml : (k.es.take m ++ [e]).length = m + 1 := by rw [List.length_append, List.length_take]; simp; omega
    rw [e1, takesA_cons h1]
    have h2 := takesA_ents (es := f :: es) (k := { k with es := k.es.take m ++ [e] }) (m := m + 1) (fun x hx => h x (List.mem_cons_of_mem _ hx)) (by simp) (by simp only; omega) ⟨hb1, hb2⟩ (by simp only [List.length_cons]; omega)
    simp only at h2
    rw [show k.base + ((m + 1 : Nat) : Int) + 1 = k.base + m + 1 + 1 by omega] at h2
    rw [h2, List.take_of_length_le (by omega), List.append_assoc]
    rfl
/-! ### whole files -/
def waBs (k : Kp) : List (List UInt8) := recB 0 [k.base, k.bterm] :: recB 1 [k.term, k.vote] :: entBs (k.base + 1) k.es
theorem waB_laid (k : Kp) : waB k = Frame.laid (waBs k) := by
  unfold waB waBs
  rw [written_laid, Frame.laid_cons, Frame.laid_cons, List.append_assoc]
theorem rec_ok1 (kind : UInt8) (a b : Int) : 1 ≤ (recB kind [a, b]).length ∧ (recB kind [a, b]).length ≤ 1048576 := by
  have := recB_len kind [a, b]
  simp only [List.length_cons, List.length_nil] at this
  omega
theorem waBs_ok {k : Kp} (h : mayK k) : Frame.Ok1 (waBs k) := fun b hb => by
  unfold waBs at hb
  rcases List.mem_cons.1 hb with rfl | hb
  · exact rec_ok1 0 _ _
  · rcases List.mem_cons.1 hb with rfl | hb
    · exact rec_ok1 1 _ _
    · exact entBs_ok h.1 _ b hb
theorem takesA_waBs {k : Kp} (h : mayK k) (hl : k.es.length ≤ 1000000) : takesA true Kp.zero (waBs k) = some k := by
  obtain ⟨h1, h2, h3, h4, h5⟩ := h
  unfold waBs
  rw [takesA_cons (takes_first h2 h3), takesA_cons (takes_hard h4 h5)]
  cases hes : k.es with
  | nil =>
    cases k; simp only at hes; subst hes; rfl
  | cons e r =>
    have := takesA_ents (es := e :: r) (k := ⟨k.term, k.vote, k.base, k.bterm, []⟩) (m := 0) (fun x hx => h1 x (by rw [hes]; exact hx)) (by simp) (by simp) h2 (by rw [hes] at hl; simp only [List.length_nil]; omega)
    simp only at this
    rw [show k.base + ((0 : Nat) : Int) + 1 = k.base + 1 by omega] at this
    show takesA false ⟨k.term, k.vote, k.base, k.bterm, []⟩ (entBs (k.base + 1) (e :: r)) = some k
    rw [this]
    cases k; simp only at hes; subst hes; rfl
theorem readW_laid {bs : List (List UInt8)} (h : Frame.Ok1 bs) (h0 : bs ≠ []) : readW (Frame.laid bs) = takesA true Kp.zero bs ∧ isWhole (Frame.laid bs) = true := by
  obtain ⟨b1, b2⟩ := Frame.bodies_all h
  unfold readW isWhole
  rw [b1, b2, if_neg h0]
  exact ⟨rfl, rfl⟩
end Go.Proofs.Ytebeidnmplnlpaa
end

section
set_option maxRecDepth 10000
namespace Go.Proofs.Ytebeidnmplnlpaa
set_option linter.unusedVariables false
open Go.RowKit

theorem wTmp_ok : nameOk wTmp := by decide
theorem wName_nm {n : Nat} (h1 : 1 ≤ n) (h2 : n ≤ 99999999) : nameOk (wName (n : Int)) := by
  have := wName_len h1 h2
  exact ⟨by omega, by omega⟩
theorem w_lt_tmp {n : Nat} (h1 : 1 ≤ n) (h2 : n ≤ 99999999) : wName (n : Int) < wTmp := by
  rw [wName_of h1 h2]
  show wPre ++ dgs 8 n < wPre ++ [116, 109, 112]
  refine append_lt.2 ?_
  have hl := dgs_len 8 n
  have ha := dgs_all 8 n
  cases hd : dgs 8 n with
  | nil => rw [hd] at hl; cases hl
  | cons x r =>
    rw [hd] at ha
    have hx : isDig x = true := List.all_eq_true.1 ha x (by simp)
    unfold isDig at hx
    simp at hx
    rw [List.cons_lt_cons_iff]
    left
    rw [UInt8.lt_iff_toNat_lt]
    have : (116 : UInt8).toNat = 116 := rfl
    omega
theorem w_lt {n m : Nat} (h1 : 1 ≤ n) (h : n < m) (h2 : m ≤ 99999999) : wName (n : Int) < wName (m : Int) := by
  rw [wName_of h1 (by omega), wName_of (by omega) h2]
  exact nameN_lt h (by have : (10 : Nat) ^ 8 = 100000000 := by decide
                       omega)
theorem wName_ne {n : Nat} (h1 : 1 ≤ n) (h2 : n ≤ 99999999) : wName (n : Int) ≠ [] := fun e => by
  have := wName_len h1 h2
  rw [e] at this; cases this
theorem wrun_k0 {r c : Int} {T : PT} {nm b : List UInt8} (hnm : nameOk nm) (hT : ∀ p ∈ T, p.1 < wTmp) (hl : T.length < 64) (hr : (used T : Int) + b.length ≤ r) :
    wrun nm b 4 0 ⟨k0 r c, T⟩ = (0, ⟨k0 r (c + 1 + 1 + 1 + 1), tset T nm (fullF b)⟩) := by
  show andT (DS.create ⟨k0 r c, T⟩ wTmp) (fun S1 => andT (S1.append wTmp b) fun S2 => andT (S2.sync wTmp) fun S3 => andT (S3.rename wTmp nm) fun S4 => (0, S4)) = _
  rw [k0_create wTmp_ok (by omega), andT_ok rfl, tset_last hT]
  simp only
  have hu : used (T ++ [(wTmp, (⟨[], 0⟩ : Fl))]) = used T := by rw [used_append]; simp [used]
  rw [k0_append wTmp_ok (tfind_last hT) (by rw [hu]; exact hr), andT_ok rfl, tset_lastA hT]
  simp only
  rw [k0_sync wTmp_ok (tfind_last hT), andT_ok rfl, tset_lastA hT]
  simp only
  rw [k0_rename wTmp_ok hnm (tfind_last hT), andT_ok rfl, tdel_last hT]
  rfl
theorem wanew_new {r c : Int} {k : Kp} (hk : mayK k) (hr : ((waB k).length : Int) ≤ r) : DS.wanew ⟨k0 r c, []⟩ ⟨0, k.base, k.base + k.es.length⟩ k = ((0, ⟨k0 r (c + 1 + 1 + 1 + 1), [(wName 1, fullF (waB k))]⟩), ⟨1, k.base, k.base + k.es.length⟩) := by
  have h1 : wrun (wName 1) (waB k) 4 0 ⟨k0 r c, []⟩ = (0, ⟨k0 r (c + 1 + 1 + 1 + 1), [(wName 1, fullF (waB k))]⟩) := wrun_k0 (wName_nm (n := 1) (by decide) (by decide)) (by simp) (by decide) (by simpa [used] using hr)
  unfold DS.wanew
  have w1 : ¬ wName 1 = [] := wName_ne (n := 1) (by decide) (by decide)
  rw [if_neg (fun h => h hk), show ((0 : Int) + 1) = 1 from rfl, if_neg w1, h1]
  simp only
  rw [if_neg (by decide), if_pos (by decide)]
theorem wanew_next {r c : Int} {k : Kp} {n : Nat} {f : Fl} {b0 l0 : Int} (hn : 1 ≤ n) (hn2 : n ≤ 99999998) (hk : mayK k) (hr : (f.b.length : Int) + ((waB k).length : Int) ≤ r) :
    DS.wanew ⟨k0 r c, [(wName (n : Int), f)]⟩ ⟨n, b0, l0⟩ k = ((0, ⟨k0 r (c + 1 + 1 + 1 + 1 + 1), [(wName ((n + 1 : Nat) : Int), fullF (waB k))]⟩), ⟨((n + 1 : Nat) : Int), k.base, k.base + k.es.length⟩) := by
  have hlt : wName (n : Int) < wName ((n + 1 : Nat) : Int) := w_lt hn (by omega) (by omega)
  have hn1 : nameOk (wName ((n + 1 : Nat) : Int)) := wName_nm (by omega) (by omega)
  have hn0 : nameOk (wName (n : Int)) := wName_nm hn (by omega)
  have h1 : wrun (wName ((n + 1 : Nat) : Int)) (waB k) 4 0 ⟨k0 r c, [(wName (n : Int), f)]⟩ = (0, ⟨k0 r (c + 1 + 1 + 1 + 1), [(wName (n : Int), f), (wName ((n + 1 : Nat) : Int), fullF (waB k))]⟩) := by
    rw [wrun_k0 hn1 (by intro p hp; simp at hp; rw [hp]; exact w_lt_tmp hn (by omega)) (by show 1 < 64; decide) (by simpa [used] using hr)]
    rw [tset_last (by intro p hp; simp at hp; rw [hp]; exact hlt)]
    rfl
  have hne : wName ((n + 1 : Nat) : Int) ≠ wName (n : Int) := fun e => by rw [e] at hlt; exact List.lt_irrefl _ hlt
  have h2 : DS.remove ⟨k0 r (c + 1 + 1 + 1 + 1), [(wName (n : Int), f), (wName ((n + 1 : Nat) : Int), fullF (waB k))]⟩ (wName (n : Int)) = (0, ⟨k0 r (c + 1 + 1 + 1 + 1 + 1), [(wName ((n + 1 : Nat) : Int), fullF (waB k))]⟩) := by
    rw [k0_remove hn0 (f := f) (by simp [tfind])]
    congr 3
    exact tdel_eq (A := []) (B := [(wName ((n + 1 : Nat) : Int), fullF (waB k))]) (i := wName (n : Int)) (y := f) (by simpa using fun e => hne e.symm)
  unfold DS.wanew
  rw [if_neg (fun h => h hk)]
  simp only
  rw [show (n : Int) + 1 = ((n + 1 : Nat) : Int) by omega, if_neg (wName_ne (by omega) (by omega)), h1]
  simp only
  rw [if_neg (by decide), if_neg (wName_ne hn (by omega)), h2]
  simp only
  rw [if_neg (by decide)]
theorem wclear_one {S : DS} {n : Nat} {f : Fl} (h : S.t = [(wName (n : Int), f)]) : S.clear wPre (wName (n : Int)) S.keys = (0, S) := by
  unfold DS.keys
  rw [h]
  show DS.clear S wPre (wName (n : Int)) [wName (n : Int)] = _
  rw [clear_cons, if_neg (fun e => e.2 rfl)]
  rfl
theorem wScan_one {n : Nat} (h1 : 1 ≤ n) (h2 : n ≤ 99999999) {f : Fl} {k : Kp} (hr : readW f.b = some k) : wScan [(wName (n : Int), f)] = ⟨true, n, k, isWhole f.b⟩ := by
  show woStep ⟨false, 0, Kp.zero, false⟩ (wName (n : Int), f) = _
  unfold woStep
  simp only
  rw [wNum_name h1 h2]
  simp only
  rw [hr]
/-- a new disk is opened -/
theorem wopen_new {room : Int} (h0 : 0 ≤ room) (h2 : room ≤ 16777216) (hr : ((waB Kp.zero).length : Int) ≤ room) :
    DS.wopen (DS.new room) = ((0, ⟨k0 room 4, [(wName 1, fullF (waB Kp.zero))]⟩), some (⟨1, 0, 0⟩, Kp.zero)) := by
  rw [new_k0 h0 h2]
  have e1 : wScan ([] : PT) = ⟨false, 0, Kp.zero, false⟩ := rfl
  have hk : mayK Kp.zero := by decide
  have e2 : DS.wnext ⟨k0 room 0, []⟩ ⟨false, 0, Kp.zero, false⟩ = ((0, ⟨k0 room 4, [(wName 1, fullF (waB Kp.zero))]⟩), ⟨1, 0, 0⟩) := by
    unfold DS.wnext
    rw [if_neg (by decide)]
    exact wanew_new hk hr
  have e3 : DS.wend ((0, ⟨k0 room 4, [(wName 1, fullF (waB Kp.zero))]⟩), ⟨1, 0, 0⟩) = (0, ⟨k0 room 4, [(wName 1, fullF (waB Kp.zero))]⟩) := by
    unfold DS.wend
    rw [andT_ok rfl]
    exact wclear_one (n := 1) rfl
  unfold DS.wopen
  simp only
  rw [e1]
  simp only
  rw [if_neg (by decide), e2, e3, if_pos rfl]
/-- a log that is whole is opened -/
theorem wopen_one {r c : Int} {n : Nat} (h1 : 1 ≤ n) (h2 : n ≤ 99999999) {f : Fl} {k : Kp} (hr : readW f.b = some k) (hw : isWhole f.b = true) :
    DS.wopen ⟨k0 r c, [(wName (n : Int), f)]⟩ = ((0, ⟨k0 r (c + 1), [(wName (n : Int), fullF f.b)]⟩), some (⟨n, k.base, k.base + k.es.length⟩, k)) := by
  have e2 : DS.wnext ⟨k0 r c, [(wName (n : Int), f)]⟩ ⟨true, n, k, true⟩ = ((0, ⟨k0 r (c + 1), [(wName (n : Int), fullF f.b)]⟩), ⟨n, k.base, k.base + k.es.length⟩) := by
    unfold DS.wnext
    rw [if_pos rfl]
    simp only
    rw [k0_sync (wName_nm h1 h2) (f := f) (by simp [tfind])]
    rw [tset_cons, if_neg (List.lt_irrefl _), if_pos rfl]
    rfl
  have e3 : DS.wend ((0, ⟨k0 r (c + 1), [(wName (n : Int), fullF f.b)]⟩), ⟨n, k.base, k.base + k.es.length⟩) = (0, ⟨k0 r (c + 1), [(wName (n : Int), fullF f.b)]⟩) := by
    unfold DS.wend
    rw [andT_ok rfl]
    exact wclear_one rfl
  unfold DS.wopen
  simp only
  rw [wScan_one h1 h2 hr, hw]
  simp only
  rw [if_neg (by omega), e2, e3, if_pos rfl]
/-- what is saved in a log -/
theorem wsave_one {r c : Int} {n : Nat} (h1 : 1 ≤ n) (h2 : n ≤ 99999999) {b : List UInt8} {base last : Int} {set : Bool} {term vote fr : Int} {es : List En} (hb : ¬ wsBad ⟨n, base, last⟩ set term vote fr) (hm : ∀ e ∈ es, mayE e) (hne : wsB set term vote fr es ≠ [])
    (hr : (b.length : Int) + (wsB set term vote fr es).length ≤ r) :
    DS.wsave ⟨k0 r c, [(wName (n : Int), fullF b)]⟩ ⟨n, base, last⟩ set term vote fr es = ((0, ⟨k0 r (c + 1 + 1), [(wName (n : Int), fullF (b ++ wsB set term vote fr es))]⟩), wlast ⟨n, base, last⟩ fr es) := by
  have e1 : DS.wapp ⟨k0 r c, [(wName (n : Int), fullF b)]⟩ (wName (n : Int)) (wsB set term vote fr es) = (0, ⟨k0 r (c + 1 + 1), [(wName (n : Int), fullF (b ++ wsB set term vote fr es))]⟩) := by
    unfold DS.wapp
    rw [k0_append (wName_nm h1 h2) (f := fullF b) (by simp [tfind]) (by simpa [used, fullF] using hr), andT_ok rfl, tset_cons, if_neg (List.lt_irrefl _), if_pos rfl]
    simp only
    rw [k0_sync (wName_nm h1 h2) (f := ⟨(fullF b).b ++ wsB set term vote fr es, (fullF b).sure⟩) (by simp [tfind]), tset_cons, if_neg (List.lt_irrefl _), if_pos rfl]
    rfl
  unfold DS.wsave
  rw [if_neg (fun h => by
    rcases h with h | h
    · exact hb h
    · exact h.2 hm), if_neg hne, e1]
  rfl
end Go.Proofs.Ytebeidnmplnlpaa
end

section
set_option maxRecDepth 10000
namespace Go.Proofs.Ytebeidnmplnlpaa
set_option linter.unusedVariables false
open Go.RowKit

def saveBs (set : Bool) (term vote fr : Int) (es : List En) : List (List UInt8) := (if set = true then [recB 1 [term, vote]] else []) ++ (if 0 < fr then entBs fr es else [])
theorem wsB_laid (set : Bool) (term vote fr : Int) (es : List En) : wsB set term vote fr es = Frame.laid (saveBs set term vote fr es) := by
  unfold wsB wsSet saveBs
  rw [Frame.laid_append]
  congr 1
  · split
    · exact (Frame.laid_one _).symm
    · rfl
  · split
    · exact written_laid es fr
    · rfl
theorem saveBs_ok {set : Bool} {term vote fr : Int} {es : List En} (hm : ∀ e ∈ es, mayE e) : Frame.Ok1 (saveBs set term vote fr es) := fun b hb => by
  unfold saveBs at hb
  rcases List.mem_append.1 hb with hb | hb
  · split at hb
    · obtain rfl : b = _ := by simpa using hb
      exact rec_ok1 1 _ _
    · cases hb
  · split at hb
    · exact entBs_ok hm _ b hb
    · cases hb
def afterS (k : Kp) (set : Bool) (term vote fr : Int) (es : List En) : Kp :=
  ⟨if set = true then term else k.term, if set = true then vote else k.vote, k.base, k.bterm, if 0 < fr ∧ 0 < es.length then k.es.take (fr - k.base - 1).toNat ++ es else k.es⟩
theorem takesA_save {k : Kp} {set : Bool} {term vote fr : Int} {es : List En} (hs : set = true → inR term 1099511627776 ∧ inR vote 7) (hf : 0 < fr → k.base < fr ∧ fr ≤ k.base + k.es.length + 1) (hm : ∀ e ∈ es, mayE e) (hb : inR k.base 1099511627776) (hl : k.es.length + es.length ≤ 1000000000) :
    takesA false k (saveBs set term vote fr es) = some (afterS k set term vote fr es) := by
  have h2 : ∀ k1 : Kp, k1.base = k.base → k1.es = k.es → takesA false k1 (if 0 < fr then entBs fr es else []) = some { k1 with es := if 0 < fr ∧ 0 < es.length then k.es.take (fr - k.base - 1).toNat ++ es else k.es } := fun k1 e1 e2 => by
    by_cases h0 : 0 < fr
    · rw [if_pos h0]
      by_cases h1 : 0 < es.length
      · rw [if_pos ⟨h0, h1⟩]
        obtain ⟨f1, f2⟩ := hf h0
        have h3 := takesA_ents (es := es) (k := k1) (m := (fr - k.base - 1).toNat) hm (fun e => by rw [e] at h1; simp at h1) (by rw [e2]; omega) (by rw [e1]; exact hb) (by rw [e2]; exact hl)
        rw [e1, show k.base + ((fr - k.base - 1).toNat : Int) + 1 = fr by omega, e2] at h3
        rw [h3, ← e1]
      · rw [if_neg (fun h => h1 h.2)]
        obtain rfl : es = [] := List.eq_nil_of_length_eq_zero (by omega)
        rw [← e2]
        rfl
    · rw [if_neg h0, if_neg (fun h => h0 h.1), ← e2]
      rfl
  unfold saveBs afterS
  cases set with
  | false => exact h2 k rfl rfl
  | true =>
    obtain ⟨s1, s2⟩ := hs rfl
    simp only [if_true]
    rw [List.singleton_append, takesA_cons (takes_hard s1 s2)]
    exact h2 _ rfl rfl
/-- a file of bodies that says k -/
structure Says (bs : List (List UInt8)) (k : Kp) : Prop where
  ok : Frame.Ok1 bs
  ne : bs ≠ []
  says : takesA true Kp.zero bs = some k
  b : inR k.base 1099511627776
theorem Says.read {bs : List (List UInt8)} {k : Kp} (h : Says bs k) : readW (Frame.laid bs) = some k ∧ isWhole (Frame.laid bs) = true := by
  have := readW_laid h.ok h.ne
  rw [h.says] at this
  exact this
theorem Says.save {bs : List (List UInt8)} {k : Kp} (h : Says bs k) {set : Bool} {term vote fr : Int} {es : List En} (hs : set = true → inR term 1099511627776 ∧ inR vote 7) (hf : 0 < fr → k.base < fr ∧ fr ≤ k.base + k.es.length + 1) (hm : ∀ e ∈ es, mayE e) (hl : k.es.length + es.length ≤ 1000000000) :
    Says (bs ++ saveBs set term vote fr es) (afterS k set term vote fr es) := by
  refine ⟨fun b hb => ?_, fun e => h.ne (List.append_eq_nil_iff.1 e).1, ?_, h.b⟩
  · rcases List.mem_append.1 hb with hb | hb
    · exact h.ok b hb
    · exact saveBs_ok hm b hb
  · rw [takesA_app, h.says]
    simp only
    have : bs.isEmpty = false := by cases hbs : bs with
      | nil => exact absurd hbs h.ne
      | cons x y => rfl
    rw [this]
    exact takesA_save hs hf hm h.b hl
theorem says_new {k : Kp} (hk : mayK k) (hl : k.es.length ≤ 1000000) : Says (waBs k) k := ⟨waBs_ok hk, by simp [waBs], takesA_waBs hk hl, hk.2.1⟩
theorem waB_len {k : Kp} (hk : ∀ e ∈ k.es, mayE e) : (waB k).length ≤ 200 + (written (k.base + 1) k.es).length := by
  have h1 := put_le (recB 0 [k.base, k.bterm])
  have h2 := put_le (recB 1 [k.term, k.vote])
  have h3 := (recB_len 0 [k.base, k.bterm]).1
  have h4 := (recB_len 1 [k.term, k.vote]).1
  simp only [List.length_cons, List.length_nil] at h3 h4
  unfold waB
  rw [List.length_append, List.length_append]
  omega
theorem wsSet_len (set : Bool) (term vote : Int) : (wsSet set term vote).length ≤ 100 := by
  have h2 := put_le (recB 1 [term, vote])
  have h4 := (recB_len 1 [term, vote]).1
  simp only [List.length_cons, List.length_nil] at h4
  unfold wsSet
  split
  · omega
  · simp
/-- entries of few bytes -/
theorem written_few {m : Nat} {es : List En} (h : ∀ e ∈ es, e.data.length ≤ m) (i : Int) : (written i es).length ≤ (m + 62) * es.length := by
  induction es generalizing i with
  | nil => simp [written]
  | cons e es ih =>
    have h1 := (entB_len i e).2
    have h2 := h e (by simp)
    have h3 := put_le (entB i e)
    have h4 := ih (fun x hx => h x (List.mem_cons_of_mem _ hx)) (i + 1)
    rw [written_cons, List.length_append, List.length_cons, Nat.mul_succ]
    omega
theorem wsB_few {m : Nat} {set : Bool} {term vote fr : Int} {es : List En} (h : ∀ e ∈ es, e.data.length ≤ m) : (wsB set term vote fr es).length ≤ 100 + (m + 62) * es.length := by
  have h1 := wsSet_len set term vote
  have h2 := written_few h fr
  unfold wsB
  rw [List.length_append]
  split
  · omega
  · simp; omega
theorem zero_len : (waB Kp.zero).length ≤ 200 := by
  have := waB_len (k := Kp.zero) (by simp [Kp.zero])
  have e : (written (Kp.zero.base + 1) Kp.zero.es).length = 0 := rfl
  omega
end Go.Proofs.Ytebeidnmplnlpaa
end

section
set_option maxRecDepth 10000
namespace Go.Proofs.Ytebeidnmplnlpaa
set_option linter.unusedVariables false
open Go.RowKit

end Go.Proofs.Ytebeidnmplnlpaa
end

section
set_option maxRecDepth 10000
namespace Go.Proofs.Ytebeidnmplnlpaa
set_option linter.unusedVariables false
open Go.RowKit

def e18 : En := ⟨3, true, [120]⟩
def k18 : Kp := ⟨3, 2, 0, 0, [e18]⟩
def f18 : List UInt8 := Frame.laid (waBs Kp.zero ++ saveBs true 3 2 1 [e18])
theorem f18_eq : waB Kp.zero ++ wsB true 3 2 1 [e18] = f18 := by rw [waB_laid, wsB_laid, ← Frame.laid_append]; rfl
theorem e18_ok : ∀ e ∈ [e18], mayE e := by decide
theorem says18 : Says (waBs Kp.zero ++ saveBs true 3 2 1 [e18]) k18 := (says_new (k := Kp.zero) (by decide) (by decide)).save (set := true) (term := 3) (vote := 2) (fr := 1) (es := [e18]) (fun _ => by decide) (fun _ => by decide) e18_ok (by decide)
theorem open18 : DS.wopen (DS.new 10000) = ((0, ⟨k0 10000 4, [(wName 1, fullF (waB Kp.zero))]⟩), some (⟨1, 0, 0⟩, Kp.zero)) := wopen_new (by decide) (by decide) (by have := zero_len; omega)
theorem entBs_pos {fr : Int} {e : En} {es : List En} {set : Bool} {term vote : Int} (h : 0 < fr) : wsB set term vote fr (e :: es) ≠ [] := by
  unfold wsB
  rw [if_pos h, written_cons]
  intro e1
  have := Frame.put_pos (entB fr e)
  have h2 := congrArg List.length e1
  simp only [List.length_append, List.length_nil] at h2
  omega
theorem save18 : DS.wsave ⟨k0 10000 4, [(wName 1, fullF (waB Kp.zero))]⟩ ⟨1, 0, 0⟩ true 3 2 1 [e18] = ((0, ⟨k0 10000 6, [(wName 1, fullF f18)]⟩), ⟨1, 0, 1⟩) := by
  have h := wsave_one (r := 10000) (c := 4) (n := 1) (by decide) (by decide) (b := waB Kp.zero) (base := 0) (last := 0) (set := true) (term := 3) (vote := 2) (fr := 1) (es := [e18]) (by decide) e18_ok (entBs_pos (by decide)) (by
    have h1 := zero_len
    have h2 := wsB_few (m := 1) (set := true) (term := 3) (vote := 2) (fr := 1) (es := [e18]) (by decide)
    have h3 : [e18].length = 1 := rfl
    omega)
  rw [f18_eq] at h
  exact h
theorem reopen18 : DS.wopen ⟨k0 10000 6, [(wName 1, fullF f18)]⟩ = ((0, ⟨k0 10000 7, [(wName 1, fullF f18)]⟩), some (⟨1, 0, 1⟩, k18)) := by
  obtain ⟨h1, h2⟩ := says18.read
  exact wopen_one (r := 10000) (c := 6) (n := 1) (by decide) (by decide) (f := fullF f18) h1 h2
set_option maxHeartbeats 2000000 in
theorem awake18_any (W : World) : Calls Try.prog 39 #[] W fun e W' => e = .returned (.bool true) ∧ Below W.heap.size W W' := by
  refine calls_vc Try.func39 rfl (by kernel_rfl) ?_
  ((conv => whnf); (repeat ((first | (refine VL.cons ?_) | (refine VL.nil ?_) | (refine VC.seqS rfl ?_) | (refine VC.region ?_)); (conv => whnf))))
  ((repeat ((fail); (conv => whnf))))
  refine VCall.of (oNew W 10000) ?_
  rintro e W1 ⟨d, U, rfl, hd1, hUB, hB1⟩
  refine ⟨_, rfl, ?_⟩
  ((conv => whnf); (repeat ((first | (refine VL.cons ?_) | (refine VL.nil ?_) | (refine VC.seqS rfl ?_) | (refine VC.region ?_)); (conv => whnf))))
  ((repeat ((fail); (conv => whnf))))
  refine VCall.of (walOpen_any W1 U d (DS.new 10000) hd1 (by decide)) ?_
  rw [open18]
  rintro e W2 ⟨U2, hd2, st2, g, A, n, c, rfl, hw2, hg2, hgl2, hE2⟩
  refine ⟨_, rfl, ?_⟩
  simp only at hd2 hw2 hE2 ⊢
  have hUB2 := st2.min hUB hB1.size
  have hB2 : Below W.heap.size W W2 := hB1.trans (st2.below hUB hB1.size)
  ((conv => whnf); (repeat ((first | (refine VL.cons ?_)); (conv => whnf))))
  ((repeat ((fail); (conv => whnf))))
  refine VSem.allocZ (z := .agg (kC Kp.zero none 0 0)) (by kernel_rfl) ?_
  intro W3 q hq hqe hql hB3
  ((conv => whnf); (repeat ((first | (refine VL.cons ?_)); (conv => whnf))))
  ((repeat ((fail); (conv => whnf))))
  refine VUnit.storeAB hq rfl rfl rfl (by simp [kC, Kp.zero, Value.oneCell']) ?_
  intro W4 hq4 hg4
  rw [setFrom_allW (vs := kC Kp.zero A n c) (by rfl)] at hq4
  have hB24 : Below W2.heap.size W2 W4 := only_new hB3 hg4 (by omega) (by omega)
  have hd4 := hd2.below hB24
  have hw4 := hw2.later hB24
  have hB4 := hB2.trans (hB24.mono hB2.size)
  have nq : ¬ U2 q := fun hu => by have := hd2.lt q hu; omega
  ((conv => whnf); (repeat ((first | (refine VL.cons ?_) | (refine VL.nil ?_)); (conv => whnf))))
  (repeat (first | ((first | (refine VL.cons ?_) | (refine VC.seqS rfl ?_) | (refine VC.region ?_) | (refine VBool.f ?_) | (refine VRead.fld ?_) | (refine VRead.eqPN ?_) | (refine VC.seq ?_)); (conv => whnf)) | (refine VRead.loadB hq4 rfl rfl ?_; (conv => whnf))))
  refine VCall.of (oCalls W4 U2 d _ hd4) ?_
  rintro e W5 ⟨rfl, eW5⟩
  obtain rfl := eW5.symm
  refine ⟨_, rfl, ?_⟩
  (conv => whnf)
  (repeat ((first | (refine VBool.nT rfl ?_) | (refine VL.cons ?_) | (refine VBool.f ?_)); (conv => whnf)))
  refine VSem.buildS rfl rfl (by simp [zipP, Value.oneCell']) (by omega) ?_
  ((conv => whnf); (repeat ((first | (refine VL.cons ?_)); (conv => whnf))))
  ((repeat ((first | (refine VBool.f ?_)); (conv => whnf))))
  refine VSem.of (w' := W4.alloc (.cells (bv [120]).toArray 5 (1, 2))) (Lib.run_convert_bytes_const (P := Try.prog) W4 31 5 _ 1 1 Try.underlying31 Try.underlying5) ?_
  have hr6 : Reads (W4.alloc (.cells (bv [120]).toArray 5 (1, 2))) (W4.alloc (.cells (bv [120]).toArray 5 (1, 2))).heap.size 1 (some ⟨W4.heap.size, 0, none⟩) 1 (bv [120]) := (reads_new W4 [120] 5 (1, 2) _ rfl 1 rfl).more (by simp)
  have hL6 : Lies (W4.alloc (.cells (bv [120]).toArray 5 (1, 2))) (fun j => W4.heap.size ≤ j) (some ⟨W4.heap.size, 0, none⟩) 1 [120] := ⟨hr6, fun _ => ⟨_, _, _, rfl, Nat.le_refl _, World.alloc_heap_new W4 _⟩⟩
  have hB6 := (Below.refl W4.heap.size W4).alloc (Nat.le_refl _) (.cells (bv [120]).toArray 5 (1, 2))
  generalize W4.alloc (.cells (bv [120]).toArray 5 (1, 2)) = W6 at *
  ((conv => whnf); (repeat ((first | (refine VL.cons ?_)); (conv => whnf))))
  ((repeat ((first | (refine VBool.f ?_)); (conv => whnf))))
  refine VRead.ofW (v := .agg #[.int .i64 3, .bool true, .slice (some ⟨W4.heap.size, 0, none⟩) 1 1]) (fun _ => by kernel_rfl) ?_
  ((conv => whnf); (repeat ((first | (refine VL.cons ?_)); (conv => whnf))))
  ((repeat ((first | (refine VBool.f ?_)); (conv => whnf))))
  refine VSem.of (v := .slice (some ⟨W6.heap.size, 0, none⟩) 1 1) (w' := W6.alloc (.cells #[.int .i64 3, .bool true, .slice (some ⟨W4.heap.size, 0, none⟩) 1 1] 67)) (by kernel_rfl) ?_
  have hnew := Blk.new W6 67 #[.int .i64 3, .bool true, .slice (some ⟨W4.heap.size, 0, none⟩) 1 1]
  have hB7 : Below W6.heap.size W6 (W6.alloc (.cells #[.int .i64 3, .bool true, .slice (some ⟨W4.heap.size, 0, none⟩) 1 1] 67)) := (Below.refl _ W6).alloc (Nat.le_refl _) _
  generalize W6.alloc (.cells #[.int .i64 3, .bool true, .slice (some ⟨W4.heap.size, 0, none⟩) 1 1] 67) = W7 at *
  have hB47 := hB6.trans (hB7.mono hB6.size)
  have z7 := hB47.size
  have hen : EnAt W7 (fun _ => True) (some ⟨W6.heap.size, 0, none⟩) 1 [e18] := EnAt.one (e := e18) hnew trivial (Nat.le_refl _) ((hL6.below hB7 (Nat.le_refl _)).more (fun _ _ _ => trivial))
  have hen2 : EnAt W7 (fun j => j < W7.heap.size) (some ⟨W6.heap.size, 0, none⟩) 1 [e18] := hen.more (fun j h _ => h)
  ((conv => whnf); (repeat ((first | (refine VL.cons ?_)); (conv => whnf))))
  ((repeat ((first | (refine VBool.f ?_)); (conv => whnf))))
  refine VCall.of (walSave_any W7 U2 g d _ ⟨1, 0, 0⟩ true 3 2 1 _ 1 1 [e18] (hd4.below hB47) (hw4.later hB47) hg2 ⟨by decide, by decide, by decide, by decide, by decide, by decide⟩ hen2 (by decide) (by decide) (by decide) (by decide)) ?_
  rw [save18]
  rintro e W8 ⟨rfl, U8, hd8, hw8, hg8, st8⟩
  refine ⟨_, rfl, ?_⟩
  simp only at hd8 hw8 ⊢
  have hUa : ∀ j, addF U2 g j → W.heap.size ≤ j := fun j hj => by
    rcases hj with hj | hj
    · exact hUB2 j hj
    · have := hB1.size; omega
  have hB47' := hB4.trans (hB47.mono hB4.size)
  have hB8 := hB47'.trans (st8.below hUa hB47'.size)
  have hUB8 := st8.min hUa hB47'.size
  have nqa : ¬ addF U2 g q := fun h => by
    rcases h with h | h
    · exact nq h
    · have := hw2.lt; omega
  obtain ⟨hq8, nq8⟩ := st8.blk (hq4.later hB47) nqa
  ((conv => whnf); (repeat ((first | (refine VL.cons ?_)); (conv => whnf))))
  ((repeat ((first | (refine VL.cons ?_) | (refine VL.nil ?_) | (refine VC.seqS rfl ?_) | (refine VC.region ?_) | (refine VC.cond ?_) | (refine VC.skip ?_) | (refine VBool.f ?_)); (conv => whnf))))
  refine VCall.of (walOpen_any W8 U8 d _ hd8 (by decide)) ?_
  rw [reopen18]
  rintro e W9 ⟨U9, hd9, st9, g9, A9, n9, c9, rfl, hw9, hg9, hgl9, hE9⟩
  refine ⟨_, rfl, ?_⟩
  simp only at hd9 hw9 hE9 ⊢
  obtain ⟨hq9, nq9⟩ := st9.blk hq8 (fun h => nq8 (.inl h))
  have hB9 := hB8.trans (st9.below (fun j hj => hUB8 j (.inl hj)) hB8.size)
  have hn9 : n9 = 1 := hE9.at_.2.2.symm
  subst hn9
  ((conv => whnf); (repeat ((first | (refine VL.cons ?_)); (conv => whnf))))
  ((repeat ((fail); (conv => whnf))))
  refine VUnit.storeAB hq9 rfl rfl rfl (by simp [kC, Value.oneCell']) ?_
  intro W10 hq10 hg10
  rw [setFrom_allW (vs := kC k18 A9 1 c9) (by rfl)] at hq10
  have hqW : W.heap.size ≤ q := by have := hB2.size; omega
  have hB10 : Below W.heap.size W W10 := only_new hB9 hg10 hqW hB9.size
  ((conv => whnf); (repeat ((first | (refine VL.cons ?_) | (refine VL.nil ?_) | (refine VC.seqS rfl ?_) | (refine VC.region ?_)); (conv => whnf))))
  (repeat (first | ((first | (refine VL.cons ?_) | (refine VBool.t ?_) | (refine VRead.lenS ?_) | (refine VRead.fld ?_)); (conv => whnf)) | (refine VRead.loadB hq10 rfl rfl ?_; (conv => whnf))))
  refine VCall.of (walName_any 7 W10 (by decide)) ?_
  rintro e W11 ⟨rfl, hB11⟩
  refine ⟨_, rfl, ?_⟩
  ((conv => whnf); (repeat ((first | (refine VL.cons ?_)); (conv => whnf))))
  ((repeat ((first | (refine VL.cons ?_) | (refine VL.nil ?_) | (refine VC.ret ?_) | (refine VBool.t ?_)); (conv => whnf))))
  refine ⟨?_, hB10.trans (hB11.mono hB10.size)⟩
  congr 2
end Go.Proofs.Ytebeidnmplnlpaa
end

section
set_option maxRecDepth 10000
namespace Go.Proofs.Ytebeidnmplnlpaa
set_option linter.unusedVariables false
open Go.RowKit

end Go.Proofs.Ytebeidnmplnlpaa
end

section
set_option maxRecDepth 10000
namespace Go.Proofs.Ytebeidnmplnlpaa
set_option linter.unusedVariables false
open Go.RowKit

theorem VRead.load3WS {P : Program} {S : World → Prop} {t : Nat} {p : Addr} {u v z : Value} {K : Value → Prop} [a : TAgg P t 3] (h : ∀ X, S X → X.cell? (p.add 0) = some u ∧ X.cell? (p.add 1) = some v ∧ X.cell? (p.add 2) = some z) (hk : K (.agg #[u, v, z])) : VRead P S (Instr.loadAt t (.pointer (some p))) K :=
  .of (fun X hX => run_load_listW (cs := [u, v, z]) a (fun j x hj => by
    obtain ⟨h0, h1, h2⟩ := h X hX
    match j, hj with
    | 0, hj => rw [h0]; simpa using hj
    | 1, hj => rw [h1]; simpa using hj
    | 2, hj => rw [h2]; simpa using hj) rfl) hk
theorem EnAt.later {w : World} {A : Option Addr} {n i : Nat} {es : List En} {e : En} (h : EnAt w (fun j => j < w.heap.size) A n es) (he : es[i]? = some e) :
    ∃ x D m k, A = some x ∧ e.data.length = m ∧ ∀ X, Below w.heap.size w X → X.cell? ((x.add (i * 3)).add 0) = some (.int .i64 e.term) ∧ X.cell? ((x.add (i * 3)).add 1) = some (.bool e.cmd) ∧ X.cell? ((x.add (i * 3)).add 2) = some (.slice D m k) ∧ Reads X w.heap.size 1 D m (bv e.data) := by
  have hi := (List.getElem?_eq_some_iff.1 he).1
  have h1 := h.1
  obtain ⟨x, hA, hx, hv, h3⟩ := h.2 (by omega)
  obtain ⟨D, m, k, e1, e2, e3, e4, e5⟩ := h3 i e he
  refine ⟨x, D, m, k, hA, e5.len, fun X hX => ?_⟩
  have key : ∀ j u, w.cell? (x.add j) = some u → X.cell? (x.add j) = some u := fun j u hu => (World.cell?_of_block (by rw [adb]; exact hX.block _ hx)).trans hu
  refine ⟨?_, ?_, ?_, e5.1.below hX⟩
  all_goals rw [Deep.add_add, Nat.mul_comm i 3]
  · exact key _ _ e1
  · exact key _ _ e2
  · exact key _ _ e3
theorem En.eq_iff {a b : En} : a = b ↔ a.term = b.term ∧ a.cmd = b.cmd ∧ a.data = b.data := by
  cases a; cases b; simp
set_option maxHeartbeats 1000000 in
theorem sameEntryW_any (a b : En) (A1 A2 : Option Addr) (n1 c1 n2 c2 : Nat) (w : World) (h1 : Reads w w.heap.size 1 A1 n1 (bv a.data)) (h2 : Reads w w.heap.size 1 A2 n2 (bv b.data)) :
    Calls Try.prog 78 #[.agg #[.int .i64 a.term, .bool a.cmd, .slice A1 n1 c1], .agg #[.int .i64 b.term, .bool b.cmd, .slice A2 n2 c2]] w fun e w' => e = .returned (.bool (decide (a = b))) ∧ Below w.heap.size w w' := by
  refine calls_vc Try.func78 rfl (by kernel_rfl) ?_
  ((conv => whnf); (repeat ((first | (refine VL.cons ?_) | (refine VC.seqS rfl ?_) | (refine VC.region ?_)); (conv => whnf))))
  ((repeat ((fail); (conv => whnf))))
  refine VSem.boxB ?_
  intro w1 g1 hb1 hg1 hl1 hB1
  replace hb1 : Blk w1 g1 67 #[.int .i64 a.term, .bool a.cmd, .slice A1 n1 c1] := hb1
  ((conv => whnf); (repeat ((first | (refine VL.cons ?_)); (conv => whnf))))
  ((repeat ((fail); (conv => whnf))))
  refine VSem.boxB ?_
  intro w2 g2 hb2 hg2 hl2 hB2
  replace hb2 : Blk w2 g2 67 #[.int .i64 b.term, .bool b.cmd, .slice A2 n2 c2] := hb2
  have hb1' := hb1.below hB2 hl1
  have hB12 := hB1.trans (hB2.mono hB1.size)
  by_cases ht : a.term = b.term
  case neg =>
    rw [decide_eq_false (fun e => ht (En.eq_iff.1 e).1)]
    ((conv => whnf); (repeat ((first | (refine VL.cons ?_) | (refine VL.nil ?_) | (refine VC.seqS rfl ?_) | (refine VC.region ?_)); (conv => whnf))))
    (repeat (first | ((first | (refine VL.cons ?_) | (refine VL.nil ?_) | (refine VC.ret ?_) | (refine VBool.f ?_) | (refine VBool.dF (by omega) ?_) | (refine VRead.fld ?_)); (conv => whnf)) | (refine VRead.loadB hb1' rfl rfl ?_; (conv => whnf)) | (refine VRead.loadB hb2 rfl rfl ?_; (conv => whnf))))
    exact ⟨rfl, hB12⟩
  by_cases hk : a.cmd = b.cmd
  case neg =>
    rw [decide_eq_false (fun e => hk (En.eq_iff.1 e).2.1)]
    ((conv => whnf); (repeat ((first | (refine VL.cons ?_) | (refine VL.nil ?_) | (refine VC.seqS rfl ?_) | (refine VC.region ?_)); (conv => whnf))))
    (repeat (first | ((first | (refine VL.cons ?_) | (refine VL.nil ?_) | (refine VC.ret ?_) | (refine VBool.t ?_) | (refine VBool.f ?_) | (refine VBool.dT (by omega) ?_) | (refine VBool.dF (by omega) ?_) | (refine VRead.fld ?_) | (refine VRead.eqB ?_)); (conv => whnf)) | (refine VRead.loadB hb1' rfl rfl ?_; (conv => whnf)) | (refine VRead.loadB hb2 rfl rfl ?_; (conv => whnf)) | (refine VBool.dF hk ?_; (conv => whnf))))
    exact ⟨rfl, hB12⟩
  ((conv => whnf); (repeat ((first | (refine VL.cons ?_) | (refine VL.nil ?_) | (refine VC.seqS rfl ?_) | (refine VC.region ?_)); (conv => whnf))))
  (repeat (first | ((first | (refine VL.cons ?_) | (refine VBool.t ?_) | (refine VBool.dT (by omega) ?_) | (refine VRead.fld ?_) | (refine VRead.eqB ?_)); (conv => whnf)) | (refine VRead.loadB hb1' rfl rfl ?_; (conv => whnf)) | (refine VRead.loadB hb2 rfl rfl ?_; (conv => whnf)) | (refine VBool.dT hk ?_; (conv => whnf))))
  refine VSem.convT ((h1.below hB12).more hB12.size) ?_
  ((conv => whnf); (repeat ((first | (refine VL.cons ?_)); (conv => whnf))))
  (repeat (first | ((first | (refine VL.cons ?_) | (refine VBool.t ?_) | (refine VRead.fld ?_)); (conv => whnf)) | (refine VRead.loadB hb1' rfl rfl ?_; (conv => whnf)) | (refine VRead.loadB hb2 rfl rfl ?_; (conv => whnf))))
  refine VSem.convT ((h2.below hB12).more hB12.size) ?_
  ((conv => whnf); (repeat ((first | (refine VL.cons ?_)); (conv => whnf))))
  ((repeat ((first | (refine VL.cons ?_) | (refine VL.nil ?_) | (refine VC.ret ?_) | (refine VBool.t ?_)); (conv => whnf))))
  refine ⟨?_, hB12⟩
  rw [show decide (a = b) = decide (txt a.data = txt b.data) from decide_eq_decide.2 ⟨fun e => by rw [e], fun e => En.eq_iff.2 ⟨ht, hk, txt_inj.1 e⟩⟩]
  rfl
set_option maxHeartbeats 1000000 in
theorem sameEntriesW_any (es fs : List En) (A1 A2 : Option Addr) (n1 c1 n2 c2 : Nat) (V1 V2 : Foot) (w : World) (h1 : EnAt w V1 A1 n1 es) (h2 : EnAt w V2 A2 n2 fs) (hn : n1 ≤ 100000000) :
    Calls Try.prog 44 #[.slice A1 n1 c1, .slice A2 n2 c2] w fun e w' => e = .returned (.bool (decide (es = fs))) ∧ Below w.heap.size w w' := by
  replace h1 : EnAt w (fun j => j < w.heap.size) A1 n1 es := h1.more (fun j hj _ => hj)
  replace h2 : EnAt w (fun j => j < w.heap.size) A2 n2 fs := h2.more (fun j hj _ => hj)
  have l1 := h1.1
  have l2 := h2.1
  refine calls_vc Try.func44 rfl (by kernel_rfl) ?_
  by_cases hl : n1 = n2
  case neg =>
    rw [decide_eq_false (fun e => hl (by rw [← l1, ← l2, e]))]
    ((conv => whnf); (repeat ((first | (refine VL.cons ?_) | (refine VL.nil ?_) | (refine VC.seqS rfl ?_) | (refine VC.region ?_)); (conv => whnf))))
    ((repeat ((first | (refine VL.cons ?_) | (refine VL.nil ?_) | (refine VC.seqS rfl ?_) | (refine VC.region ?_) | (refine VC.cond ?_) | (refine VC.ret ?_) | (refine VBool.nF (by omega) ?_) | (refine VRead.lenS ?_) | (refine VC.seq ?_)); (conv => whnf))))
    exact ⟨rfl, Below.refl _ _⟩
  ((conv => whnf); (repeat ((first | (refine VL.cons ?_) | (refine VL.nil ?_) | (refine VC.seqS rfl ?_) | (refine VC.region ?_)); (conv => whnf))))
  ((repeat ((first | (refine VL.cons ?_) | (refine VL.nil ?_) | (refine VC.seqS rfl ?_) | (refine VC.region ?_) | (refine VC.cond ?_) | (refine VC.block ?_) | (refine VC.skip ?_) | (refine VBool.nT (by omega) ?_) | (refine VRead.lenS ?_) | (refine VC.seq ?_)); (conv => whnf))))
  refine VC.loop [5] [(4, 5), (11, 26)] (fun q vs W => ∃ k : Nat, vs = [.int .i64 (k : Int)] ∧ q = n1 - k ∧ k ≤ n1 ∧ es.take k = fs.take k ∧ Below w.heap.size w W) (by kernel_rfl)
    ⟨_, 0, rfl, rfl, by omega, rfl, Below.refl _ _⟩ ?_
  rintro q τ vs W ⟨k, rfl, rfl, hk, hsame, hB⟩
  by_cases hlt : k < n1
  case neg =>
    have e1 : es = fs := by rwa [List.take_of_length_le (by omega), List.take_of_length_le (by omega)] at hsame
    rw [decide_eq_true e1]
    ((conv => whnf); (repeat ((fail); (conv => whnf))))
    ((repeat ((first | (refine VL.cons ?_) | (refine VL.nil ?_) | (refine VC.seqS rfl ?_) | (refine VC.region ?_) | (refine VC.cond ?_) | (refine VC.exit ?_) | (refine VC.ret ?_) | (refine VBool.dF (by omega) ?_) | (refine VRead.lenS ?_) | (refine VC.seq ?_)); (conv => whnf))))
    exact ⟨rfl, hB⟩
  have hlt2 : k < n2 := by omega
  obtain ⟨a, ha⟩ : ∃ e, es[k]? = some e := ⟨_, List.getElem?_eq_getElem (by omega)⟩
  obtain ⟨b, hb⟩ : ∃ e, fs[k]? = some e := ⟨_, List.getElem?_eq_getElem (by omega)⟩
  obtain ⟨x, D, m, j, rfl, hml, H1⟩ := h1.later ha
  obtain ⟨y, E, p, r, rfl, hpl, H2⟩ := h2.later hb
  have hS : Below w.heap.size w (W.drewN 1) := below_drewN hB 1
  ((conv => whnf); (repeat ((fail); (conv => whnf))))
  ((repeat ((first | (refine VL.cons ?_) | (refine VL.nil ?_) | (refine VC.seqS rfl ?_) | (refine VC.region ?_) | (refine VC.draw ?_) | (refine VC.cond ?_) | (refine VC.block ?_) | (refine VC.skip ?_) | (refine VBool.dT (by omega) ?_) | (refine VRead.lenS ?_) | (refine VC.seq ?_)); (conv => whnf))))
  refine VDraw.seg (fun X => Below w.heap.size w X) [([0, 1, 2, 3, 4, 5, 6, 7], 8)] [9] (by kernel_rfl) (by kernel_rfl) hS ?_
  generalize W.drewN 1 = W1 at *
  (conv => whnf)
  (repeat ((first | (refine VRead.atK hlt ?_) | (refine VRead.atK hlt2 ?_) | (refine VRead.load3WS (fun X hX => ⟨(H1 X hX).1, (H1 X hX).2.1, (H1 X hX).2.2.1⟩) ?_) | (refine VRead.load3WS (fun X hX => ⟨(H2 X hX).1, (H2 X hX).2.1, (H2 X hX).2.2.1⟩) ?_) | (refine VQ.cons ?_) | (refine VQ.nil ?_) | (refine VG.cons ?_)); (conv => whnf)))
  refine VCall.of (sameEntryW_any a b D E m j p r W1 ((H1 W1 hS).2.2.2.more hS.size) ((H2 W1 hS).2.2.2.more hS.size)) ?_
  rintro e W2 ⟨rfl, hB2⟩
  refine ⟨_, rfl, ?_⟩
  have hS2 := hS.trans (hB2.mono hS.size)
  (conv => whnf)
  refine Keep.mk hS2 ?_
  by_cases hab : a = b
  · rw [decide_eq_true hab]
    ((conv => whnf); (repeat ((first | (refine VC.cond ?_) | (refine VQ.cons ?_) | (refine VQ.nil ?_) | (refine VG.nil ?_)); (conv => whnf))))
    ((repeat ((first | (refine VL.cons ?_) | (refine VL.nil ?_) | (refine VC.region ?_) | (refine VC.skip ?_) | (refine VBool.f ?_) | (refine VWrap.i64 (by omega) (by omega) ?_)); (conv => whnf))))
    exact ⟨_, by omega, k + 1, rfl, rfl, by omega, by rw [take_snoc ha, take_snoc hb, hsame, hab], hS2⟩
  · rw [decide_eq_false hab, decide_eq_false (fun e => hab (by rw [e] at ha; rw [ha] at hb; exact Option.some.inj hb))]
    ((conv => whnf); (repeat ((first | (refine VC.cond ?_) | (refine VQ.cons ?_) | (refine VQ.nil ?_) | (refine VG.nil ?_)); (conv => whnf))))
    ((repeat ((first | (refine VL.cons ?_) | (refine VL.nil ?_) | (refine VC.seqS rfl ?_) | (refine VC.region ?_) | (refine VC.ret ?_) | (refine VBool.t ?_)); (conv => whnf))))
    exact ⟨rfl, hS2⟩
end Go.Proofs.Ytebeidnmplnlpaa
end

section
set_option maxRecDepth 10000
namespace Go.Proofs.Ytebeidnmplnlpaa
set_option linter.unusedVariables false
open Go.RowKit

/-- the state of a disk whose only file is a log of bodies -/
def lgS (r c : Int) (n : Nat) (bs : List (List UInt8)) : DS := ⟨k0 r c, [(wName (n : Int), fullF (Frame.laid bs))]⟩
theorem save_says {r c : Int} {n m : Nat} {bs : List (List UInt8)} {k : Kp} {set : Bool} {term vote fr : Int} {es : List En} (h1 : 1 ≤ n) (h2 : n ≤ 99999999) (h : Says bs k) (hs : set = true → inR term 1099511627776 ∧ inR vote 7)
    (hf : 0 < fr → k.base < fr ∧ fr ≤ k.base + k.es.length + 1) (hm : ∀ e ∈ es, mayE e) (hl : k.es.length + es.length ≤ 1000000) (hd : ∀ e ∈ es, e.data.length ≤ m) (hne : set = true ∨ (0 < fr ∧ es ≠ []))
    (hr : ((Frame.laid bs).length : Int) + 100 + ((m + 62) * es.length : Nat) ≤ r) :
    DS.wsave (lgS r c n bs) ⟨n, k.base, k.base + k.es.length⟩ set term vote fr es = ((0, lgS r (c + 2) n (bs ++ saveBs set term vote fr es)), ⟨n, k.base, k.base + (afterS k set term vote fr es).es.length⟩) ∧
      Says (bs ++ saveBs set term vote fr es) (afterS k set term vote fr es) ∧ (Frame.laid (bs ++ saveBs set term vote fr es)).length ≤ (Frame.laid bs).length + 100 + (m + 62) * es.length := by
  have hw := wsB_few (set := set) (term := term) (vote := vote) (fr := fr) hd
  have hbad : ¬ wsBad ⟨n, k.base, k.base + k.es.length⟩ set term vote fr := fun hb => by
    rcases hb with ⟨h3, h4⟩ | ⟨h3, h4⟩
    · exact h4 (hs h3)
    · have := hf h3
      simp only at h4
      omega
  have hnn : wsB set term vote fr es ≠ [] := by
    rcases hne with rfl | ⟨h3, h4⟩
    · unfold wsB wsSet
      rw [if_pos rfl]
      have := Frame.put_pos (recB 1 [term, vote])
      intro e
      have h5 := congrArg List.length e
      simp only [List.length_append, List.length_nil] at h5
      omega
    · cases es with
      | nil => exact absurd rfl h4
      | cons e r => exact entBs_pos h3
  have hsv := wsave_one (r := r) (c := c) h1 h2 (b := Frame.laid bs) hbad hm hnn (by omega)
  have e1 : Frame.laid bs ++ wsB set term vote fr es = Frame.laid (bs ++ saveBs set term vote fr es) := by rw [wsB_laid, Frame.laid_append]
  have e2 : wlast ⟨n, k.base, k.base + k.es.length⟩ fr es = ⟨n, k.base, k.base + (afterS k set term vote fr es).es.length⟩ := by
    unfold wlast afterS
    by_cases h3 : 0 < fr ∧ 0 < es.length
    · rw [if_pos h3, if_pos h3]
      obtain ⟨f1, f2⟩ := hf h3.1
      simp only [List.length_append, List.length_take]
      congr 1
      omega
    · rw [if_neg h3, if_neg h3]
  refine ⟨?_, h.save hs hf hm (by omega), ?_⟩
  · rw [e1, e2] at hsv
    have e3 : c + 1 + 1 = c + 2 := by omega
    rw [e3] at hsv
    exact hsv
  · rw [← e1, List.length_append]
    omega
/-- it is opened -/
theorem open_says {r c : Int} {n : Nat} {bs : List (List UInt8)} {k : Kp} (h1 : 1 ≤ n) (h2 : n ≤ 99999999) (h : Says bs k) : DS.wopen (lgS r c n bs) = ((0, lgS r (c + 1) n bs), some (⟨n, k.base, k.base + k.es.length⟩, k)) := by
  obtain ⟨a, b⟩ := h.read
  exact wopen_one h1 h2 (f := fullF (Frame.laid bs)) a b
theorem lgS_new {room : Int} (h0 : 0 ≤ room) (h2 : room ≤ 16777216) (hr : 200 ≤ room) : DS.wopen (DS.new room) = ((0, lgS room 4 1 (waBs Kp.zero)), some (⟨1, 0, 0⟩, Kp.zero)) := by
  rw [wopen_new h0 h2 (by have := zero_len; omega)]
  unfold lgS
  rw [← waB_laid]
  rfl
theorem says_zero : Says (waBs Kp.zero) Kp.zero := says_new (by decide) (by decide)
end Go.Proofs.Ytebeidnmplnlpaa
end

section
set_option maxRecDepth 10000
namespace Go.Proofs.Ytebeidnmplnlpaa
set_option linter.unusedVariables false
open Go.RowKit

theorem says_of {b : List UInt8} {k : Kp} (hr : readW b = some k) (hw : isWhole b = true) (hb : inR k.base 1099511627776) : ∃ bs, b = Frame.laid bs ∧ Says bs k := by
  obtain ⟨e, _, hok⟩ := Frame.bodies_spec b
  have h0 : Frame.rest b = [] := of_decide_eq_true hw
  rw [h0, List.append_nil] at e
  unfold readW at hr
  split at hr
  · cases hr
  · rename_i hne
    exact ⟨_, e, hok, hne, hr, hb⟩
theorem open_file {r c : Int} {n : Nat} {f : Fl} {k : Kp} (h1 : 1 ≤ n) (h2 : n ≤ 99999998) (hr : readW f.b = some k) (hk : mayK k) (hl : k.es.length ≤ 1000000) (hroom : (f.b.length : Int) + ((waB k).length : Int) ≤ r) :
    ∃ (c' : Int) (n' : Nat) (bs : List (List UInt8)), c ≤ c' ∧ c' ≤ c + 10 ∧ 1 ≤ n' ∧ n' ≤ n + 1 ∧ Says bs k ∧ (Frame.laid bs).length ≤ f.b.length + (waB k).length ∧
      DS.wopen ⟨k0 r c, [(wName (n : Int), f)]⟩ = ((0, lgS r c' n' bs), some (⟨n', k.base, k.base + k.es.length⟩, k)) := by
  cases hw : isWhole f.b with
  | true =>
    obtain ⟨bs, e, hS⟩ := says_of hr hw hk.2.1
    refine ⟨c + 1, n, bs, by omega, by omega, h1, by omega, hS, by rw [e]; omega, ?_⟩
    rw [wopen_one h1 (by omega) hr hw]
    unfold lgS
    rw [← e]
  | false =>
    refine ⟨c + 1 + 1 + 1 + 1 + 1, n + 1, waBs k, by omega, by omega, by omega, by omega, says_new hk hl, by rw [← waB_laid]; omega, ?_⟩
    have e2 : DS.wnext ⟨k0 r c, [(wName (n : Int), f)]⟩ ⟨true, n, k, false⟩ = ((0, ⟨k0 r (c + 1 + 1 + 1 + 1 + 1), [(wName ((n + 1 : Nat) : Int), fullF (waB k))]⟩), ⟨((n + 1 : Nat) : Int), k.base, k.base + k.es.length⟩) := by
      unfold DS.wnext
      rw [if_neg (by simp)]
      exact wanew_next h1 h2 hk hroom
    have e3 : DS.wend ((0, ⟨k0 r (c + 1 + 1 + 1 + 1 + 1), [(wName ((n + 1 : Nat) : Int), fullF (waB k))]⟩), ⟨((n + 1 : Nat) : Int), k.base, k.base + k.es.length⟩) = (0, ⟨k0 r (c + 1 + 1 + 1 + 1 + 1), [(wName ((n + 1 : Nat) : Int), fullF (waB k))]⟩) := by
      unfold DS.wend
      rw [andT_ok rfl]
      exact wclear_one rfl
    unfold DS.wopen
    simp only
    rw [wScan_one h1 (by omega) hr, hw]
    simp only
    rw [if_neg (by omega), e2, e3, if_pos rfl]
    unfold lgS
    rw [← waB_laid]
end Go.Proofs.Ytebeidnmplnlpaa
end

section
set_option maxRecDepth 10000
namespace Go.Proofs.Ytebeidnmplnlpaa
set_option linter.unusedVariables false
open Go.RowKit

def tBs (l : List En) : List (List UInt8) := waBs Kp.zero ++ entBs 1 l
theorem tBs_take (l : List En) (m : Nat) : (tBs l).take (2 + m) = tBs (l.take m) := by
  have h : (waBs Kp.zero).length = 2 := rfl
  unfold tBs
  rw [List.take_append, h, show 2 + m - 2 = m by omega, entBs_take, List.take_of_length_le (by omega)]
theorem says_t {l : List En} (hm : ∀ e ∈ l, mayE e) (hl : l.length ≤ 1000000) : Says (tBs l) ⟨0, 0, 0, 0, l⟩ := by
  have h0 := says_zero
  refine ⟨fun b hb => ?_, by simp [tBs, waBs], ?_, ⟨by show (0 : Int) ≤ 0; decide, by show (0 : Int) ≤ 1099511627776; decide⟩⟩
  · rcases List.mem_append.1 hb with hb | hb
    · exact h0.ok b hb
    · exact entBs_ok hm 1 b hb
  · unfold tBs
    rw [takesA_app, h0.says]
    simp only
    rw [show (true && (waBs Kp.zero).isEmpty) = false from rfl]
    cases l with
    | nil => rfl
    | cons e r =>
      have := takesA_ents (es := e :: r) (k := Kp.zero) (m := 0) hm (by simp) (by simp) ⟨by decide, by decide⟩ (by show 0 + _ ≤ _; omega)
      exact this
theorem torn_read {l : List En} {k m : Nat} (hm : ∀ e ∈ l, mayE e) (hg : Frame.Good (tBs l)) (hl : l.length ≤ 1000000) (hml : m ≤ l.length) (h1 : (Frame.laid (tBs (l.take m))).length ≤ k) (h2 : m = l.length ∨ k < (Frame.laid (tBs (l.take (m + 1)))).length) :
    readW ((Frame.laid (tBs l)).take k) = some ⟨0, 0, 0, 0, l.take m⟩ := by
  have hlen : (tBs l).length = 2 + l.length := by unfold tBs; rw [List.length_append, entBs_len]; rfl
  obtain ⟨u, e, hu⟩ := Frame.laid_cut (bs := tBs l) (n := 2 + m) (k := k) hg (by omega) (by rw [tBs_take]; exact h1) (by
    rcases h2 with h2 | h2
    · exact .inl (by omega)
    · exact .inr (by rw [show 2 + m + 1 = 2 + (m + 1) by omega, tBs_take]; exact h2))
  rw [tBs_take] at e
  have hS := says_t (l := l.take m) (fun x hx => hm x (List.mem_of_mem_take hx)) (by rw [List.length_take]; omega)
  unfold readW
  rw [e, (Frame.bodies_laid hS.ok hu).1, if_neg hS.ne, hS.says]
end Go.Proofs.Ytebeidnmplnlpaa
end

section
set_option maxRecDepth 10000
namespace Go.Proofs.Ytebeidnmplnlpaa
set_option linter.unusedVariables false
open Go.RowKit

theorem walLast_any (W : World) (g d : Nat) (wl : WlS) (hw : Blk W g 105 (wlC d wl)) : Calls Try.prog 43 #[.pointer (some ⟨g, 0, none⟩)] W fun e W' => e = .returned (.int .i64 wl.last) ∧ W' = W := by
  refine calls_vc Try.func43 rfl (by kernel_rfl) ?_
  ((conv => whnf); (repeat ((first | (refine VL.cons ?_) | (refine VL.nil ?_) | (refine VC.seqS rfl ?_) | (refine VC.region ?_)); (conv => whnf))))
  (repeat (first | ((first | (refine VL.cons ?_) | (refine VL.nil ?_) | (refine VC.ret ?_) | (refine VRead.fld ?_)); (conv => whnf)) | (refine VRead.loadB hw rfl rfl ?_; (conv => whnf))))
  exact ⟨rfl, rfl⟩
end Go.Proofs.Ytebeidnmplnlpaa
end

section
set_option maxRecDepth 10000
namespace Go.Proofs.Ytebeidnmplnlpaa
set_option linter.unusedVariables false
open Go.ChangeShapes Go.WideShapes Go.ChangeAt Go.RowKit

/-- elements of k cells each lie where a slice says -/
def ListAt {α : Type} (W : World) (B k : Nat) (E : α → List Value → Prop) (A : Option Addr) (n : Nat) (l : List α) : Prop :=
  l.length = n ∧ (0 < n → ∃ x, A = some x ∧ x.block < B ∧ ∀ i a, l[i]? = some a → ∃ cs, E a cs ∧ ∀ j u, cs[j]? = some u → W.cell? (x.add (k * i + j)) = some u)
theorem add_blkO (x : Addr) (j : Nat) : (x.add j).block = x.block := by unfold Addr.add; split <;> rfl
section
variable {H : Type} {enc : TypeId × Value → H}
theorem cell_in {W : World} {x : Addr} {u : Value} (h : W.cell? x = some u) : x.block < W.heap.size := by
  unfold World.cell? at h
  cases hb : W.heap[x.block]? with
  | none => rw [hb] at h; cases h
  | some o => exact (Array.getElem?_eq_some_iff.1 hb).1
/-- bytes -/
def EBy (W : World) (l : List UInt8) (cs : List Value) : Prop := ∃ A m c, cs = [.slice A m c] ∧ m ≤ c ∧ c ≤ 140737488351232 ∧ Reads W W.heap.size 1 A m (bv l)
theorem EBy.open {W : World} {n : Nat} {cs : List Value} {y : DataW H × List MemPlace} (h : DataW.trod enc Try.prog W 0 (fun _ => true) true n 31 cs = some y) (hw : ∀ x ∈ y.1.weights Try.prog 31, x ≤ reachBytes) (hl1 : cs.length = 1) : ∃ l, EBy W l cs := by
  obtain ⟨c, rfl⟩ : ∃ c, cs = [c] := by
    match cs, hl1 with
    | [c], _ => exact ⟨c, rfl⟩
  rcases open_ints Try.underlying31 Try.underlying5 (by kernel_rfl) h with ⟨hcs, hx⟩ | ⟨x, l, c', zs, hcs, _, hl, hm, hz, hx, hcell, hwz⟩
  · simp at hcs
    obtain rfl := hcs
    exact ⟨[], none, 0, 0, rfl, Nat.le_refl _, by omega, Reads.none_⟩
  · simp at hcs
    obtain rfl := hcs
    simp only [if_true] at hz
    subst hx
    have h1 := hw _ (by simp only [DataW.weights]; rw [Try.underlying31]; exact List.mem_cons_self ..)
    simp [lits, reachBytes] at h1
    rw [show Try.prog.bytesOf 5 = 1 from by kernel_rfl] at h1
    have hb : ∀ i, i < l → ∃ b : UInt8, W.cell? (x.add i) = some (.int .u8 (b.toNat : Int)) := fun i hi => by
      have h1 := hcell i (by omega)
      have h2 := hwz (zs.getD i 0) (by
        rw [List.getD_eq_getElem?_getD, List.getElem?_eq_getElem (by omega)]
        exact List.getElem_mem _)
      obtain ⟨b, hb⟩ := u8_nat h2
      exact ⟨b, by rw [h1, hb]⟩
    obtain ⟨f, hf⟩ := Deep.choose_lt hb
    refine ⟨(List.range l).map f, some x, l, c', rfl, hl, by omega, by simp [bv], fun hn => ⟨x, rfl, ?_, fun j u hu => ?_⟩⟩
    · have := cell_in (hf 0 hn)
      rwa [show x.add 0 = x from by simp [Addr.add]] at this
    · simp only [bv, List.map_map, List.getElem?_map, Option.map_eq_some_iff] at hu
      obtain ⟨i, hi, rfl⟩ := hu
      have hj : j < l := by have := (List.getElem?_eq_some_iff.1 hi).1; simpa using this
      rw [List.getElem?_range hj] at hi
      obtain rfl := Option.some.inj hi
      exact hf j hj
end
/-- a list of bytes -/
abbrev InYss (W : World) (A : Option Addr) (n : Nat) (l : List (List UInt8)) : Prop := ListAt W W.heap.size 1 (EBy W) A n l
/-- one of them, in all later worlds -/
theorem InYss.later {W : World} {A : Option Addr} {n i : Nat} {l : List (List UInt8)} {b : List UInt8} (h : InYss W A n l) (hb : l[i]? = some b) :
    ∃ x Ab m c, A = some x ∧ m = b.length ∧ m ≤ c ∧ c ≤ 140737488351232 ∧ ∀ W', Below W.heap.size W W' → W'.cell? (x.add i) = some (.slice Ab m c) ∧ Reads W' W.heap.size 1 Ab m (bv b) := by
  have hi := (List.getElem?_eq_some_iff.1 hb).1
  have h1 := h.1
  obtain ⟨x, hA, hx, h3⟩ := h.2 (by omega)
  obtain ⟨cs, ⟨Ab, m, c, rfl, h4, h5, h6⟩, h7⟩ := h3 i b hb
  have h8 := h7 0 _ rfl
  rw [Nat.one_mul, Nat.add_zero] at h8
  refine ⟨x, Ab, m, c, hA, by have := h6.1; rw [bv_length] at this; omega, h4, h5, fun W' hB => ⟨?_, h6.below hB⟩⟩
  rw [hB.cell (by rw [add_blkO]; exact hx)]
  exact h8
end Go.Proofs.Ytebeidnmplnlpaa
end

section
set_option maxRecDepth 10000
namespace Go.Proofs.Ytebeidnmplnlpaa
set_option linter.unusedVariables false
open Go.RowKit

/-! ### behind a crash -/
theorem crash_full (ps : List Int) (i : Nat) (b : List UInt8) : crashF ps i (fullF b) = fullF b := by
  have e : keepN ps i (fullF b) = b.length := by unfold keepN fullF; simp only; omega
  unfold crashF
  rw [e]
  unfold fullF
  simp
end Go.Proofs.Ytebeidnmplnlpaa
end

section
set_option maxRecDepth 10000
namespace Go.Proofs.Ytebeidnmplnlpaa
set_option linter.unusedVariables false
open Go.RowKit

theorem lgS_crash {r c : Int} {n : Nat} {bs : List (List UInt8)} (ps : List Int) : (lgS r c n bs).crash ps = lgS r c n bs := by
  unfold lgS DS.crash
  show (⟨k0 r c, [(wName (n : Int), crashF ps 0 (fullF (Frame.laid bs)))]⟩ : DS) = _
  rw [crash_full]
def enT (i : Nat) : En := ⟨1 + (i / 3 : Nat), false, [UInt8.ofNat i]⟩
def lT (n : Nat) : List En := (List.range n).map enT
theorem lT_succ (n : Nat) : lT (n + 1) = lT n ++ [enT n] := by unfold lT; rw [List.range_succ, List.map_append]; rfl
theorem lT_len (n : Nat) : (lT n).length = n := by unfold lT; simp
theorem lT_may {n : Nat} (h : n ≤ 1000) : ∀ e ∈ lT n, mayE e := fun e he => by
  unfold lT at he
  obtain ⟨j, hj, rfl⟩ := List.mem_map.1 he
  have := List.mem_range.1 hj
  exact ⟨by show (1 : Int) ≤ 1 + (j / 3 : Nat); omega, by show (1 : Int) + (j / 3 : Nat) ≤ _; omega, by show 1 ≤ 1048476; decide⟩
theorem lT_take {n m : Nat} (h : m ≤ n) : (lT n).take m = lT m := by
  unfold lT
  rw [← List.map_take, List.take_range, Nat.min_eq_left h]
theorem bv1 {i : Nat} (hi : i < 256) : bv [UInt8.ofNat i] = [.int .u8 (i : Int)] := by
  unfold bv
  simp only [List.map_cons, List.map_nil, UInt8.toNat_ofNat']
  rw [Nat.mod_eq_of_lt (by omega)]
def endT (i : Nat) : Int := ((Frame.laid (tBs (lT i))).length : Int)
def endsT (i : Nat) : List Int := (List.range i).map fun j => endT (j + 1)
theorem endsT_succ (i : Nat) : endsT (i + 1) = endsT i ++ [endT (i + 1)] := by unfold endsT; rw [List.range_succ, List.map_append]; rfl
theorem endsT_get {i j : Nat} (h : j < i) : (endsT i)[j]? = some (endT (j + 1)) := by unfold endsT; simp [h]
theorem tBs_succ (i : Nat) : tBs (lT i) ++ saveBs false 0 0 ((i : Int) + 1) [enT i] = tBs (lT (i + 1)) := by
  have h : saveBs false 0 0 ((i : Int) + 1) [enT i] = entBs ((i : Int) + 1) [enT i] := by
    unfold saveBs
    rw [if_neg (by decide), if_pos (by omega)]
    rfl
  unfold tBs
  rw [h, lT_succ, entBs_app, lT_len, List.append_assoc, show (1 : Int) + (i : Int) = i + 1 by omega]
theorem readR_lg {W : World} {B n : Nat} {r c : Int} {bs : List (List UInt8)} {v : Value} (h : readR W B (lgS r c n bs).t (wName (n : Int)) v) : ∃ A k, v = .tuple #[.slice A (Frame.laid bs).length k, .int .i64 0] ∧ Own W B (.slice A (Frame.laid bs).length k) (Frame.laid bs).length (Frame.laid bs) := by
  unfold readR lgS at h
  have e : tfind [(wName (n : Int), fullF (Frame.laid bs))] (wName (n : Int)) = some (fullF (Frame.laid bs)) := by simp [tfind]
  simp only [e] at h
  exact h
theorem tBs_good {l : List En} (hd : ∀ e ∈ l, e.data.length ≤ 1000) : Frame.Good (tBs l) := fun b hb => by
  have h2 : ∀ (kind : UInt8) (x y : Int), 1 ≤ (recB kind [x, y]).length ∧ (recB kind [x, y]).length ≤ 2000 := fun kind x y => by
    have := recB_len kind [x, y]
    simp only [List.length_cons, List.length_nil] at this
    omega
  have h3 : ∀ (l : List En) (i : Int), (∀ e ∈ l, e.data.length ≤ 1000) → ∀ b ∈ entBs i l, 1 ≤ b.length ∧ b.length ≤ 2000 := fun l => by
    induction l with
    | nil => intro i _ b hb; simp [entBs] at hb
    | cons e r ih =>
      intro i hd b hb
      unfold entBs at hb
      rcases List.mem_cons.1 hb with rfl | hb
      · have := entB_len i e
        have := hd e (by simp)
        omega
      · exact ih (i + 1) (fun x hx => hd x (List.mem_cons_of_mem _ hx)) b hb
  unfold tBs waBs at hb
  rcases List.mem_append.1 hb with hb | hb
  · rcases List.mem_cons.1 hb with rfl | hb
    · exact h2 _ _ _
    · rcases List.mem_cons.1 hb with rfl | hb
      · exact h2 _ _ _
      · cases hb
  · exact h3 l 1 hd b hb
theorem lT_data {n : Nat} : ∀ e ∈ lT n, e.data.length ≤ 1 := fun e he => by
  unfold lT at he
  obtain ⟨j, _, rfl⟩ := List.mem_map.1 he
  exact Nat.le_refl 1
theorem waB_lT {n : Nat} (hn : n ≤ 12) : (waB ⟨0, 0, 0, 0, lT n⟩).length ≤ 1000 := by
  have h1 := waB_len (k := ⟨0, 0, 0, 0, lT n⟩) (lT_may (by omega))
  have h2 := written_few (m := 1) (es := lT n) lT_data (0 + 1)
  rw [lT_len] at h2
  simp only at h1
  omega
theorem zin {m : Int} (h : 0 ≤ m) : inR 0 m := ⟨Int.le_refl 0, h⟩
/-- a new disk with a log that was cut is opened -/
theorem torn_open {n m k : Nat} (hn : n ≤ 12) (hm : m ≤ n) (hlen : (Frame.laid (tBs (lT n))).length ≤ 10000) (h1 : (Frame.laid (tBs (lT m))).length ≤ k) (h2 : m = n ∨ k < (Frame.laid (tBs (lT (m + 1)))).length) :
    ∃ (c' : Int) (n' : Nat) (bs : List (List UInt8)), 0 ≤ c' ∧ c' ≤ 20 ∧ 1 ≤ n' ∧ n' ≤ 2 ∧ Says bs ⟨0, 0, 0, 0, lT m⟩ ∧ (Frame.laid bs).length ≤ 11000 ∧
      DS.wopen ⟨k0 1048576 2, [(wName 1, ⟨(Frame.laid (tBs (lT n))).take k, 0⟩)]⟩ = ((0, lgS 1048576 c' n' bs), some (⟨n', 0, m⟩, ⟨0, 0, 0, 0, lT m⟩)) := by
  have hr : readW ((Frame.laid (tBs (lT n))).take k) = some ⟨0, 0, 0, 0, (lT n).take m⟩ := torn_read (m := m) (lT_may (by omega)) (tBs_good (fun e he => Nat.le_trans (lT_data e he) (by decide))) (by rw [lT_len]; omega) (by rw [lT_len]; exact hm)
    (by rw [lT_take hm]; exact h1) (by
      rw [lT_len]
      by_cases h : m = n
      · exact .inl h
      · right
        rw [lT_take (by omega)]
        rcases h2 with h2 | h2
        · exact absurd h2 h
        · exact h2)
  rw [lT_take hm] at hr
  have hw := waB_lT (n := m) (by omega)
  have htk : ((Frame.laid (tBs (lT n))).take k).length ≤ 10000 := by rw [List.length_take]; omega
  obtain ⟨c', n', bs, b1, b2, b3, b4, b5, b6, b7⟩ := open_file (r := 1048576) (c := 2) (n := 1) (f := ⟨(Frame.laid (tBs (lT n))).take k, 0⟩) (by decide) (by decide) hr
    ⟨lT_may (by omega), zin (by decide), zin (by decide), zin (by decide), zin (by decide)⟩ (by simp only; rw [lT_len]; omega) (by simp only; omega)
  simp only at b6
  refine ⟨c', n', bs, by omega, by omega, b3, by omega, b5, by omega, ?_⟩
  have e1 : (0 : Int) + ((lT m).length : Nat) = (m : Int) := by rw [lT_len]; omega
  simp only at b7
  rw [e1] at b7
  exact b7
/-- and saved in -/
theorem torn_save {m n' : Nat} {c' : Int} {bs : List (List UInt8)} (hm : m ≤ 12) (h1 : 1 ≤ n') (h2 : n' ≤ 2) (hS : Says bs ⟨0, 0, 0, 0, lT m⟩) (hl : (Frame.laid bs).length ≤ 11000) :
    ∃ bs', DS.wsave (lgS 1048576 c' n' bs) ⟨n', 0, m⟩ true 50 1 ((m : Int) + 1) [⟨50, false, []⟩] = ((0, lgS 1048576 (c' + 2) n' bs'), ⟨n', 0, (m : Int) + 1⟩) ∧ Says bs' ⟨50, 1, 0, 0, lT m ++ [⟨50, false, []⟩]⟩ := by
  have hlm := lT_len m
  obtain ⟨a1, a2, _⟩ := save_says (r := 1048576) (c := c') (n := n') (m := 0) (set := true) (term := 50) (vote := 1) (fr := (m : Int) + 1) (es := [⟨50, false, []⟩]) h1 (by omega) hS (fun _ => ⟨⟨by decide, by decide⟩, ⟨by decide, by decide⟩⟩)
    (fun _ => ⟨by simp only; omega, by simp only; rw [hlm]; omega⟩) (fun e he => by
      obtain rfl : e = _ := by simpa using he
      exact ⟨by decide, by decide, by decide⟩) (by simp only; rw [hlm]; simp; omega) (fun e he => by
      obtain rfl : e = _ := by simpa using he
      exact Nat.le_refl 0) (.inl rfl) (by simp; omega)
  have eA : afterS ⟨0, 0, 0, 0, lT m⟩ true 50 1 ((m : Int) + 1) [⟨50, false, []⟩] = ⟨50, 1, 0, 0, lT m ++ [⟨50, false, []⟩]⟩ := by
    unfold afterS
    simp only [if_true]
    rw [if_pos ⟨by omega, by simp⟩, show ((m : Int) + 1 - 0 - 1).toNat = m by omega, List.take_of_length_le (by omega)]
  rw [eA] at a1 a2
  simp only at a1
  have e1 : (0 : Int) + ((lT m).length : Nat) = (m : Int) := by rw [hlm]; omega
  have e2 : (0 : Int) + ((lT m ++ [(⟨50, false, []⟩ : En)]).length : Nat) = (m : Int) + 1 := by rw [List.length_append, hlm]; simp
  rw [e1, e2] at a1
  exact ⟨_, a1, a2⟩
/-- one more entry is saved -/
theorem torn_more {i : Nat} {c : Int} (hi : i < 12) (hl : (Frame.laid (tBs (lT i))).length ≤ 200 + 200 * i) :
    DS.wsave (lgS 1048576 c 1 (tBs (lT i))) ⟨1, 0, i⟩ false 0 0 ((i : Int) + 1) [enT i] = ((0, lgS 1048576 (c + 2) 1 (tBs (lT (i + 1)))), ⟨1, 0, (i : Int) + 1⟩) ∧ (Frame.laid (tBs (lT (i + 1)))).length ≤ 200 + 200 * (i + 1) := by
  have hlm := lT_len i
  have hS := says_t (l := lT i) (lT_may (by omega)) (by rw [hlm]; omega)
  obtain ⟨a1, a2, a3⟩ := save_says (r := 1048576) (c := c) (n := 1) (m := 1) (set := false) (term := 0) (vote := 0) (fr := (i : Int) + 1) (es := [enT i]) (by decide) (by decide) hS (fun h => by cases h)
    (fun _ => ⟨by simp only; omega, by simp only; rw [hlm]; omega⟩) (fun e he => by
      obtain rfl : e = _ := by simpa using he
      exact lT_may (n := i + 1) (by omega) _ (by rw [lT_succ]; simp)) (by simp only; rw [hlm]; simp; omega) (fun e he => by
      obtain rfl : e = _ := by simpa using he
      exact Nat.le_refl 1) (.inr ⟨by omega, by simp⟩) (by simp; omega)
  have eA : afterS ⟨0, 0, 0, 0, lT i⟩ false 0 0 ((i : Int) + 1) [enT i] = ⟨0, 0, 0, 0, lT (i + 1)⟩ := by
    unfold afterS
    simp only [Bool.false_eq_true, if_false]
    rw [if_pos ⟨by omega, by simp⟩, show ((i : Int) + 1 - 0 - 1).toNat = i by omega, List.take_of_length_le (by omega), lT_succ]
  rw [eA] at a1
  simp only at a1
  rw [tBs_succ] at a1 a3
  have e1 : (0 : Int) + ((lT i).length : Nat) = (i : Int) := by rw [hlm]; omega
  have e2 : (0 : Int) + ((lT (i + 1)).length : Nat) = (i : Int) + 1 := by rw [lT_len]; omega
  rw [e1, e2] at a1
  refine ⟨a1, ?_⟩
  simp at a3
  omega
end Go.Proofs.Ytebeidnmplnlpaa
end

section
set_option maxRecDepth 10000
namespace Go.Proofs.Ytebeidnmplnlpaa
set_option linter.unusedVariables false
open Go.RowKit

theorem rows_ne {W : World} {B1 e1 s1 n1 B2 e2 s2 n2 : Nat} {v1 v2 : Value} {xs1 xs2 : List Value} (h1 : W.ownsRow B1 e1 s1 v1 n1 xs1) (h2 : W.ownsRow B2 e2 s2 v2 n2 xs2) (hne : e1 ≠ e2) : ∀ g, v2.ownBlock = some g → v1.ownBlock ≠ some g := by
  intro g hg hg'
  rcases h1.2 with ⟨rfl, _⟩ | ⟨k, cap, cur, rfl, _, hk, _⟩
  · simp [Value.ownBlock] at hg'
  · rcases h2.2 with ⟨rfl, _⟩ | ⟨k2, cap2, cur2, rfl, _, hk2, _⟩
    · simp [Value.ownBlock] at hg
    · simp [Value.ownBlock] at hg hg'
      subst hg hg'
      rw [hk] at hk2
      injection hk2 with e
      injection e with _ e _
      exact hne e
theorem ERow.rowI {W W' : World} {V : Foot} {B B2 n : Nat} {v v2 : Value} {es : List En} {xs : List Value} (h : ERow W V B v es) (hr : W.ownsRow B2 3 1 v2 n xs) (hg : W.grownBy W' v2.ownBlock) : ERow W' V B v es := by
  obtain ⟨ys, h1, h2, h3⟩ := h
  refine ⟨ys, rows_apart h1 hg (rows_ne h1 hr (by decide)), h2, fun i e he => ?_⟩
  obtain ⟨A', m, k, e1, e2, e3, e4, e5⟩ := h3 i e he
  exact ⟨A', m, k, e1, e2, e3, e4, e5.row hr hg (by decide)⟩
theorem ERow.inV {W : World} {V : Foot} {B q : Nat} {v : Value} {es : List En} (h : ERow W V B v es) (hq : v.ownBlock = some q) : V q := by
  obtain ⟨_, _, h2, _⟩ := h
  exact h2 q hq
theorem Dsk.grownF {W W' : World} {U : Foot} {d : Nat} {S : DS} {row : Option Nat} (h : Dsk W U d S) (hg : W.grownBy W' row) (hf : ∀ g, row = some g → ¬ U g) : Dsk W' U d S :=
  ⟨h.disk.stay hg.size (fun j hj hu => hg.block j hj (fun e => hf j (by first | exact e | exact e.symm) hu)), fun j hj => Nat.lt_of_lt_of_le (h.lt j hj) hg.size⟩
theorem Lies.step {W W' : World} {U U' : Foot} {A : Option Addr} {m : Nat} {l : List UInt8} (h : Lies W (NotU U) A m l) (hs : Step W U W' U') : Lies W' (NotU U') A m l :=
  ((h.more (V := fun j => ¬ U j ∧ j < W.heap.size) (fun j h1 h2 => ⟨h2, h1⟩)).stay hs.size (fun j h1 h2 => hs.out.block j h1 h2.1)).more (fun j h1 h2 hu => by
    rcases hs.sub j hu with h' | h'
    · exact h2.1 h'
    · have := h2.2; omega)
theorem VSem.appI3 {w : World} {ty : TypeId} {B C n m c : Nat} {v : Value} {A : Option Addr} {l news : List Int} {K : Value → World → Prop} (hown : w.ownsRow B 3 1 v n (iv .i64 l)) (hr : Reads w C 1 A m (iv .i64 news)) (hn : n + m ≤ 17592186044416) (hB : B ≤ w.heap.size)
    (h : ∀ A' c' w', w'.ownsRow B 3 1 (.slice A' (n + m) c') (n + m) (iv .i64 (l ++ news)) → w.grownBy w' v.ownBlock → ((Value.slice A' (n + m) c').ownBlock = v.ownBlock ∨ (Value.slice A' (n + m) c').ownBlock = some w.heap.size) → K (.slice A' (n + m) c') w') :
    VSem Try.prog (Builtin.append_ #[28, 28] ty [v, .slice A m c].toArray) w K := by
  obtain ⟨i0, hi0, hz0, hz1, hz2⟩ := info_parts int_info
  refine VSem.appR (t := 28) (e := 3) Try.underlying28 hi0 hz0 hz1 hz2 rfl (by decide) hown hr (iv_one news) (by simp only [maxLen]; omega) (by omega) hB fun A' c' w' k1 k2 k3 => ?_
  have e : iv .i64 l ++ iv .i64 news = iv .i64 (l ++ news) := by unfold iv; rw [List.map_append]
  rw [e] at k1
  exact h A' c' w' k1 k2 k3
theorem wN1_ok : nameOk (wName 1) := wName_nm (n := 1) (by decide) (by decide)
theorem torn_create : DS.create (DS.new 1048576) (wName 1) = (0, ⟨k0 1048576 1, [(wName 1, ⟨[], 0⟩)]⟩) := by
  rw [new_k0 (by decide) (by decide), k0_create wN1_ok (by simp)]
  rfl
theorem torn_append {x : List UInt8} (h : x.length ≤ 1000000) : DS.append ⟨k0 1048576 1, [(wName 1, ⟨[], 0⟩)]⟩ (wName 1) x = (0, ⟨k0 1048576 2, [(wName 1, ⟨x, 0⟩)]⟩) := by
  rw [k0_append wN1_ok (f := ⟨[], 0⟩) (by simp [tfind]) (by simp only [used, List.length_nil]; omega), tset_cons, if_neg (List.lt_irrefl _), if_pos rfl]
  rfl
theorem wName1_len : (wName 1).length ≤ 1000 := by decide
set_option maxHeartbeats 4000000 in
theorem walTorn_walk (n at_ : Int) (W : World) (hn : -9223372036854775808 ≤ n ∧ n ≤ 9223372036854775807) (hat : -9223372036854775808 ≤ at_ ∧ at_ ≤ 9223372036854775807) :
    Calls Try.prog 10 #[.int .i64 n, .int .i64 at_] W fun e W' => e = .returned (.bool true) ∧ Below W.heap.size W W' := by
  refine calls_vc Try.func10 rfl (by kernel_rfl) ?_
  have p0 := Int.emod_nonneg n (show (12 : Int) ≠ 0 by decide)
  have p1 := Int.emod_lt_of_pos n (show (0 : Int) < 12 by decide)
  obtain ⟨N, hN⟩ : ∃ N : Nat, n % 12 = (N : Int) := ⟨(n % 12).toNat, by omega⟩
  rw [hN] at p0 p1
  have hz0 : tBs (lT 0) = waBs Kp.zero := by simp [tBs, lT, entBs]
  obtain ⟨F0, hF0⟩ : ∃ F0 : Nat, (Frame.laid (tBs (lT 0))).length = F0 := ⟨_, rfl⟩
  have hF1 : F0 ≤ 200 := by rw [← hF0, hz0, ← waB_laid]; exact zero_len
  have hF2 : 1 ≤ F0 := by
    have := laid_ge (tBs (lT 0))
    rw [hF0, hz0] at this
    exact Nat.le_trans (by decide) this
  ((conv => whnf); (repeat ((first | (refine VL.cons ?_) | (refine VL.nil ?_) | (refine VC.seqS rfl ?_) | (refine VC.region ?_)); (conv => whnf))))
  ((repeat ((fail); (conv => whnf))))
  refine VCall.of (oNew W 1048576) ?_
  rintro e W1 ⟨d, U, rfl, hd1, hUB, hB1⟩
  refine ⟨_, rfl, ?_⟩
  ((conv => whnf); (repeat ((first | (refine VL.cons ?_) | (refine VL.nil ?_) | (refine VC.seqS rfl ?_) | (refine VC.region ?_)); (conv => whnf))))
  ((repeat ((fail); (conv => whnf))))
  refine VCall.of (walOpen_any W1 U d (DS.new 1048576) hd1 (by decide)) ?_
  rw [lgS_new (room := 1048576) (by decide) (by decide) (by decide)]
  rintro e W2 ⟨U2, hd2, st2, g, Ak, nk, ck, rfl, hw2, hg2, hgl2, hE2⟩
  refine ⟨_, rfl, ?_⟩
  simp only at hd2 hw2 hE2 ⊢
  rw [← hz0] at hd2
  have hUB2 := st2.min hUB hB1.size
  have hB2 : Below W.heap.size W W2 := hB1.trans (st2.below hUB hB1.size)
  ((conv => whnf); (repeat ((first | (refine VL.cons ?_)); (conv => whnf))))
  ((repeat ((fail); (conv => whnf))))
  refine VSem.allocZ (z := .agg (kC Kp.zero none 0 0)) (by kernel_rfl) ?_
  intro W3 q hq hqe hql hB3
  ((conv => whnf); (repeat ((first | (refine VL.cons ?_)); (conv => whnf))))
  ((repeat ((fail); (conv => whnf))))
  refine VUnit.storeAB hq rfl rfl rfl (by simp [kC, Kp.zero, Value.oneCell']) ?_
  intro W4 hq4 hg4
  have hB24 : Below W2.heap.size W2 W4 := only_new hB3 hg4 (by omega) (by omega)
  have hd4 := hd2.below hB24
  have hw4 := hw2.later hB24
  have hB4 := hB2.trans (hB24.mono hB2.size)
  clear hq hqe hql hB3 hq4 hg4 hB24 hE2 hd2 hw2 hB2
  have hgW : W.heap.size ≤ g := by have := hB1.size; omega
  ((conv => whnf); (repeat ((first | (refine VL.cons ?_) | (refine VL.nil ?_)); (conv => whnf))))
  ((repeat ((first | (refine VL.cons ?_) | (refine VL.nil ?_) | (refine VC.seqS rfl ?_) | (refine VC.region ?_) | (refine VC.cond ?_) | (refine VC.skip ?_) | (refine VBool.f ?_) | (refine VRead.eqPN ?_) | (refine VC.seq ?_)); (conv => whnf))))
  refine VCall.of (walName_any 1 W4 (by decide)) ?_
  rintro e W5 ⟨rfl, hB5⟩
  refine ⟨_, rfl, ?_⟩
  ((conv => whnf); (repeat ((first | (refine VL.cons ?_)); (conv => whnf))))
  ((repeat ((fail); (conv => whnf))))
  refine VCall.of (oRead W5 U2 d _ (wName 1) (hd4.below hB5) wName1_len) ?_
  rintro e W6 ⟨v6, rfl, hrd, hB6⟩
  refine ⟨_, rfl, ?_⟩
  obtain ⟨Af, cf, rfl, _⟩ := readR_lg (n := 1) hrd
  rw [hF0]
  have hB46 := hB5.trans (hB6.mono hB5.size)
  replace hd4 := hd4.below hB46
  replace hw4 := hw4.later hB46
  replace hB4 := hB4.trans (hB46.mono hB4.size)
  clear hB5 hB6 hB46 hrd
  ((conv => whnf); (repeat ((first | (refine VL.cons ?_) | (refine VL.nil ?_) | (refine VC.seqS rfl ?_) | (refine VC.region ?_)); (conv => whnf))))
  ((repeat ((first | (refine VL.cons ?_) | (refine VL.nil ?_) | (refine VC.seqS rfl ?_) | (refine VC.region ?_) | (refine VC.block ?_) | (refine VC.seq ?_)); (conv => whnf))))
  refine VC.loop [11, 12, 13] [(4, 4), (11, 16), (47, 81)] (fun m vs X => ∃ (i : Nat) (U' : Foot) (Al Ae : Option Addr) (cl ce : Nat) (cc : Int), vs = [.slice Al i cl, .slice Ae i ce, .int .i64 (i : Int)] ∧ m = 12 - i ∧ i ≤ N ∧
      Dsk X U' d (lgS 1048576 cc 1 (tBs (lT i))) ∧ 4 ≤ cc ∧ cc ≤ 4 + 2 * i ∧ (Frame.laid (tBs (lT i))).length ≤ 200 + 200 * i ∧ F0 ≤ (Frame.laid (tBs (lT i))).length ∧ Blk X g 105 (wlC d ⟨1, 0, i⟩) ∧ ¬ U' g ∧ (∀ j, U' j → W.heap.size ≤ j) ∧
      ERow X (NotU (addF U' g)) W.heap.size (.slice Al i cl) (lT i) ∧ X.ownsRow W.heap.size 3 1 (.slice Ae i ce) i (iv .i64 (endsT i)) ∧ Free (addF U' g) (.slice Ae i ce) ∧ Below W.heap.size W X) (by kernel_rfl)
    ⟨_, 0, U2, none, none, 0, 0, 4, rfl, rfl, by omega, hd4, by omega, by omega, by omega, by omega, hw4, hg2, hUB2, ERow.nil _ _ _, World.ownsRow_nil _ _ _ _, fun g hg => by simp [Value.ownBlock] at hg, hB4⟩ ?_
  clear hd4 hw4 hg2 hUB2 hB4 st2 hd1 hUB
  rintro m τ vs X ⟨i, U', Al, Ae, cl, ce, cc, rfl, rfl, hi, hd, hc1, hc2, hbl, hbf, hw, hg, hU, hE, hO, hF, hB⟩
  have hXs := hB.size
  ((conv => whnf); (repeat ((fail); (conv => whnf))))
  ((repeat ((first | (refine VL.cons ?_) | (refine VC.seqS rfl ?_) | (refine VC.region ?_) | (refine VC.seq ?_)); (conv => whnf))))
  refine VCall.of (place_any n 12 X hn (by decide) (by decide)) ?_
  rintro e X' ⟨rfl, eW⟩
  obtain rfl := eW.symm
  refine ⟨_, rfl, ?_⟩
  rw [hN]
  by_cases hlt : i < N
  case neg =>
    obtain rfl : i = N := by omega
    ((conv => whnf); (repeat ((first | (refine VL.cons ?_) | (refine VL.nil ?_) | (refine VC.cond ?_)); (conv => whnf))))
    ((repeat ((first | (refine VL.cons ?_) | (refine VC.seqS rfl ?_) | (refine VC.region ?_) | (refine VC.exit ?_) | (refine VBool.dF (by omega) ?_)); (conv => whnf))))
    refine VCall.of (walName_any 1 X (by decide)) ?_
    rintro e X1 ⟨rfl, hX1⟩
    refine ⟨_, rfl, ?_⟩
    ((conv => whnf); (repeat ((first | (refine VL.cons ?_)); (conv => whnf))))
    ((repeat ((fail); (conv => whnf))))
    refine VCall.of (oRead X1 U' d _ (wName 1) (hd.below hX1) wName1_len) ?_
    rintro e X2 ⟨v2, rfl, hrd, hX2⟩
    refine ⟨_, rfl, ?_⟩
    obtain ⟨Ab, cb, rfl, hOb⟩ := readR_lg (n := 1) hrd
    have hX02 := hX1.trans (hX2.mono hX1.size)
    obtain ⟨L, hL⟩ : ∃ L, Frame.laid (tBs (lT i)) = L := ⟨_, rfl⟩
    rw [hL] at hOb hbl hbf ⊢
    have hcap := hOb.cap
    have q0 := Int.emod_nonneg at_ (show ((L.length : Int) - F0 + 1) ≠ 0 by omega)
    have q1 := Int.emod_lt_of_pos at_ (show (0 : Int) < (L.length : Int) - F0 + 1 by omega)
    obtain ⟨r, hr⟩ : ∃ r : Nat, at_ % ((L.length : Int) - F0 + 1) = (r : Int) := ⟨(at_ % ((L.length : Int) - F0 + 1)).toNat, by omega⟩
    rw [hr] at q0 q1
    ((conv => whnf); (repeat ((first | (refine VL.cons ?_) | (refine VL.nil ?_)); (conv => whnf))))
    ((repeat ((first | (refine VL.cons ?_) | (refine VL.nil ?_) | (refine VC.seqS rfl ?_) | (refine VC.region ?_) | (refine VC.cond ?_) | (refine VC.skip ?_) | (refine VBool.f ?_) | (refine VBool.dF (by omega) ?_) | (refine VRead.lenS ?_) | (refine VWrap.i64 (by omega) (by omega) ?_) | (refine VC.seq ?_)); (conv => whnf))))
    refine VCall.of (place_any at_ ((L.length : Int) - F0 + 1) X2 hat (by omega) (by omega)) ?_
    rintro e X2' ⟨rfl, eW⟩
    obtain rfl := eW.symm
    refine ⟨_, rfl, ?_⟩
    rw [hr]
    ((conv => whnf); (repeat ((first | (refine VL.cons ?_)); (conv => whnf))))
    ((repeat ((first | (refine VL.cons ?_) | (refine VL.nil ?_) | (refine VC.seqS rfl ?_) | (refine VC.region ?_) | (refine VWrap.i64 (by omega) (by omega) ?_)); (conv => whnf))))
    refine VC.cut [20] [(20, 20), (109, 122)] (fun vs Y => ∃ m : Nat, vs = [.int .i64 (m : Int)] ∧ m ≤ i ∧ (Frame.laid (tBs (lT m))).length ≤ F0 + r ∧ (m = i ∨ F0 + r < (Frame.laid (tBs (lT (m + 1)))).length) ∧ Y = X2) (by kernel_rfl) ?_ ?_
    · have hOe := rows_below hO hX02 (Nat.le_refl _)
      refine VC.block ?_
      ((conv => whnf); (repeat ((fail); (conv => whnf))))
      ((repeat ((fail); (conv => whnf))))
      refine VC.loop [20] [(20, 20), (109, 122)] (fun q vs Y => ∃ m : Nat, vs = [.int .i64 (m : Int)] ∧ q = i - m ∧ m ≤ i ∧ (Frame.laid (tBs (lT m))).length ≤ F0 + r ∧ Y = X2) (by kernel_rfl)
        ⟨_, 0, rfl, rfl, by omega, by omega, rfl⟩ ?_
      rintro q τ2 vs Y ⟨m, rfl, rfl, hm, hml, eY⟩
      subst eY
      by_cases hmn : m < i
      case neg =>
        ((conv => whnf); (repeat ((fail); (conv => whnf))))
        ((repeat ((first | (refine VL.cons ?_) | (refine VL.nil ?_) | (refine VC.seqS rfl ?_) | (refine VC.region ?_) | (refine VC.cond ?_) | (refine VC.exit ?_) | (refine VBool.f ?_) | (refine VBool.dF (by omega) ?_) | (refine VRead.lenS ?_) | (refine VC.seq ?_)); (conv => whnf))))
        exact ⟨m, rfl, hm, hml, .inl (by omega), rfl⟩
      obtain ⟨ad, u, rfl, _, hu, hcell⟩ := (Reads.row hOe).at_ hmn
      obtain ⟨x', hx', rfl⟩ := map_at hu
      rw [endsT_get hmn] at hx'
      obtain rfl := Option.some.inj hx'
      unfold endT at hcell
      by_cases hmx : (Frame.laid (tBs (lT (m + 1)))).length ≤ F0 + r
      case neg =>
        ((conv => whnf); (repeat ((fail); (conv => whnf))))
        ((repeat ((first | (refine VL.cons ?_) | (refine VL.nil ?_) | (refine VC.seqS rfl ?_) | (refine VC.region ?_) | (refine VC.cond ?_) | (refine VC.exit ?_) | (refine VBool.t ?_) | (refine VBool.dT (by omega) ?_) | (refine VBool.dF (by omega) ?_) | (refine VRead.lenS ?_) | (refine VRead.load1 (by assumption) ?_) | (refine VRead.at1 (by omega) ?_) | (refine VC.seq ?_)); (conv => whnf))))
        exact ⟨m, rfl, hm, hml, .inr (by omega), rfl⟩
      ((conv => whnf); (repeat ((fail); (conv => whnf))))
      ((repeat ((first | (refine VL.cons ?_) | (refine VL.nil ?_) | (refine VC.seqS rfl ?_) | (refine VC.region ?_) | (refine VC.cond ?_) | (refine VC.block ?_) | (refine VC.skip ?_) | (refine VBool.t ?_) | (refine VBool.dT (by omega) ?_) | (refine VRead.lenS ?_) | (refine VRead.load1 (by assumption) ?_) | (refine VWrap.i64 (by omega) (by omega) ?_) | (refine VRead.at1 (by omega) ?_) | (refine VC.seq ?_)); (conv => whnf))))
      exact ⟨_, by omega, m + 1, rfl, rfl, by omega, hmx, rfl⟩
    rintro τ2 vs Y ⟨m, rfl, hm, hml, hmx, eY⟩
    subst eY
    obtain ⟨c', n', bs, b1, b2, b3, b4, b5, b6, b7⟩ := torn_open (n := i) (m := m) (k := F0 + r) (by omega) hm (by rw [hL]; omega) hml hmx
    rw [hL] at b7
    obtain ⟨bs', s1, s2⟩ := torn_save (by omega) b3 b4 b5 b6 (c' := c')
    have hY := hB.trans (hX02.mono hXs)
    have hEY := hE.below hX02
    have hrb := (Reads.row hOb).take (k := F0 + r) (by omega)
    have hlm := lT_len m
    have zY := hY.size
    ((conv => whnf); (repeat ((first | (refine VL.cons ?_) | (refine VC.seqS rfl ?_) | (refine VC.region ?_)); (conv => whnf))))
    ((repeat ((fail); (conv => whnf))))
    refine VCall.of (oNew Y 1048576) ?_
    rintro e Z1 ⟨f, Uf, rfl, hf1, hUf, hZ1⟩
    refine ⟨_, rfl, ?_⟩
    ((conv => whnf); (repeat ((first | (refine VL.cons ?_) | (refine VL.nil ?_)); (conv => whnf))))
    ((repeat ((first | (refine VC.draw ?_) | (refine VC.seq ?_)); (conv => whnf))))
    refine VDraw.seg (fun _ => True) [([0], 1), ([], 2), ([3, 4, 5, 7, 8, 9], 6), ([], 10), ([], 11)] [12, 13] (by kernel_rfl) (by kernel_rfl) trivial ?_
    have hE1 : Below Z1.heap.size Z1 (Z1.drewN 1) := below_drewN (Below.refl _ _) 1
    replace hf1 := hf1.below hE1
    replace hZ1 := hZ1.trans (hE1.mono hZ1.size)
    generalize Z1.drewN 1 = Z2 at *
    clear hE1
    (conv => whnf)
    ((repeat ((first | (refine VQ.cons ?_) | (refine VQ.nil ?_) | (refine VG.cons ?_)); (conv => whnf))))
    refine VCall.of (walName_any 1 Z2 (by decide)) ?_
    rintro e Z3 ⟨rfl, hZ3⟩
    refine ⟨_, rfl, ?_⟩
    have hf3 := hf1.below hZ3
    have hY3 := hZ1.trans (hZ3.mono hZ1.size)
    (conv => whnf)
    refine Keep.mk trivial ?_
    (conv => whnf)
    ((repeat ((first | (refine VQ.nil ?_) | (refine VG.cons ?_)); (conv => whnf))))
    refine VCall.of (oCreate Z3 Uf f _ (wName 1) hf3 (by decide) wName1_len) ?_
    rw [torn_create]
    rintro e Z4 ⟨rfl, U4, hf4, st4⟩
    refine ⟨_, rfl, ?_⟩
    simp only at hf4
    have hU4 := st4.min hUf hY3.size
    have hY4 := hY3.trans (st4.below hUf hY3.size)
    (conv => whnf)
    refine Keep.mk trivial ?_
    (conv => whnf)
    (repeat ((first | (refine VRead.cutKH (F0 + r) (by omega) (by omega) ?_) | (refine VQ.cons ?_) | (refine VQ.nil ?_) | (refine VG.cons ?_) | (refine VBool.f ?_)); (conv => whnf)))
    refine VCall.of (walName_any 1 Z4 (by decide)) ?_
    rintro e Z5 ⟨rfl, hZ5⟩
    refine ⟨_, rfl, ?_⟩
    have hf5 := hf4.below hZ5
    have hY5 := hY4.trans (hZ5.mono hY4.size)
    (conv => whnf)
    refine Keep.mk trivial ?_
    (conv => whnf)
    ((repeat ((first | (refine VQ.nil ?_) | (refine VG.cons ?_) | (refine VBool.f ?_)); (conv => whnf))))
    refine VCall.of (bytes_any Ab (F0 + r) cb _ (L.take (F0 + r)) Z5 (by omega) (hrb.below hY5)) ?_
    rintro e Z6 ⟨Ax, cx, rfl, hOx, hZ6⟩
    refine ⟨_, rfl, ?_⟩
    have hf6 := hf5.below hZ6
    have hY6 := hY5.trans (hZ6.mono hY5.size)
    (conv => whnf)
    refine Keep.mk trivial ?_
    (conv => whnf)
    ((repeat ((first | (refine VQ.nil ?_) | (refine VG.cons ?_) | (refine VBool.f ?_)); (conv => whnf))))
    refine VCall.of (oAppend Z6 U4 f _ (wName 1) (F0 + r) cx Ax (L.take (F0 + r)) hf6 (by decide) wName1_len (Src.of_own hOx) (by omega) hOx.cap) ?_
    rw [torn_append (by rw [List.length_take]; omega)]
    rintro e Z7 ⟨rfl, U7, hf7, st7⟩
    refine ⟨_, rfl, ?_⟩
    simp only at hf7
    have hU7 := st7.min hU4 hY6.size
    have hY7 := hY6.trans (st7.below hU4 hY6.size)
    clear hf1 hf3 hf4 hf5 hf6 hOx st4 st7 hZ1 hZ3 hZ5 hZ6
    (conv => whnf)
    refine Keep.mk trivial ?_
    (conv => whnf)
    ((repeat ((first | (refine VL.cons ?_) | (refine VC.seqS rfl ?_) | (refine VC.region ?_) | (refine VC.cond ?_) | (refine VC.skip ?_) | (refine VQ.cons ?_) | (refine VQ.nil ?_) | (refine VG.nil ?_) | (refine VBool.f ?_)); (conv => whnf))))
    refine VCall.of (walOpen_any Z7 U7 f _ hf7 (by show (2 : Int) + 200 < 1000000; decide)) ?_
    rw [b7]
    rintro e Z8 ⟨U8, hf8, st8, gv, Av, nv, cv, rfl, hv8, hgv8, hglv, hEv⟩
    refine ⟨_, rfl, ?_⟩
    simp only at hf8 hv8 hEv ⊢
    have hU8 := st8.min hU7 hY7.size
    have hY8 := hY7.trans (st8.below hU7 hY7.size)
    have hnv : m = nv := by rw [← hEv.at_.2.2]; exact hlm.symm
    subst hnv
    ((conv => whnf); (repeat ((first | (refine VL.cons ?_)); (conv => whnf))))
    ((repeat ((fail); (conv => whnf))))
    refine VSem.allocZ (z := .agg (kC Kp.zero none 0 0)) (by kernel_rfl) ?_
    intro Z9 q hq hqe hql hZ9
    ((conv => whnf); (repeat ((first | (refine VL.cons ?_)); (conv => whnf))))
    ((repeat ((fail); (conv => whnf))))
    refine VUnit.storeAB hq rfl rfl rfl (by simp [kC, Value.oneCell']) ?_
    intro Z10 hq10 hg10
    rw [setFrom_allW (vs := kC ⟨0, 0, 0, 0, lT m⟩ Av m cv) (by rfl)] at hq10
    have hZ810 : Below Z8.heap.size Z8 Z10 := only_new hZ9 hg10 (by omega) (by omega)
    have hf10 := hf8.below hZ810
    have hv10 := hv8.later hZ810
    have hE10 := hEv.below hZ810
    have hY10 := hY8.trans (hZ810.mono hY8.size)
    clear hq hqe hql hZ9 hg10
    have hE11 : Below Z10.heap.size Z10 (Z10.drewN 1) := below_drewN (Below.refl _ _) 1
    replace hf10 := hf10.below hE11
    replace hv10 := hv10.later hE11
    replace hE10 := hE10.below hE11
    replace hq10 := hq10.later hE11
    replace hY10 := hY10.trans (hE11.mono hY10.size)
    ((conv => whnf); (repeat ((first | (refine VL.cons ?_) | (refine VL.nil ?_)); (conv => whnf))))
    ((repeat ((first | (refine VC.draw ?_) | (refine VC.seq ?_)); (conv => whnf))))
    refine VDraw.seg (fun Z => Blk Z q 63 (kC ⟨0, 0, 0, 0, lT m⟩ Av m cv)) [([0, 1, 2, 3, 4, 5, 6, 7, 8, 9, 10, 11], 12), ([13, 14, 15, 16, 18], 17)] [19, 20] (by kernel_rfl) (by kernel_rfl) hq10 ?_
    generalize Z10.drewN 1 = Z11 at *
    clear hE11 hZ810
    (conv => whnf)
    (repeat ((first | (refine VRead.loadBS (fun Z hZ => hZ) rfl rfl ?_) | (refine VRead.cutKH m (by omega) (by have := hE.at_.2.1; omega) ?_) | (refine VQ.cons ?_) | (refine VQ.nil ?_) | (refine VG.cons ?_) | (refine VBool.f ?_) | (refine VRead.fld ?_) | (refine VRead.eqPN ?_)); (conv => whnf)))
    refine VCall.of (sameEntriesW_any (lT m) ((lT i).take m) Av Al m cv m cl _ _ Z11 hE10.at_.1 ((hEY.below hY10).at_.1.take hm) (by omega)) ?_
    rintro e Z12 ⟨rfl, hZ12⟩
    refine ⟨_, rfl, ?_⟩
    rw [lT_take hm, decide_eq_true rfl]
    have hf12 := hf10.below hZ12
    have hv12 := hv10.later hZ12
    have hq12 := hq10.later hZ12
    have hY12 := hY10.trans (hZ12.mono hY10.size)
    (conv => whnf)
    refine Keep.mk hq12 ?_
    (conv => whnf)
    ((repeat ((first | (refine VQ.cons ?_) | (refine VQ.nil ?_) | (refine VG.cons ?_) | (refine VBool.f ?_) | (refine VBool.nT rfl ?_)); (conv => whnf))))
    refine VCall.of (walLast_any Z12 gv f _ hv12) ?_
    rintro e Z12' ⟨rfl, eZ⟩
    obtain rfl := eZ.symm
    refine ⟨_, rfl, ?_⟩
    simp only
    (conv => whnf)
    refine Keep.mk hq12 ?_
    (conv => whnf)
    ((repeat ((first | (refine VL.cons ?_) | (refine VC.seqS rfl ?_) | (refine VC.region ?_) | (refine VC.cond ?_) | (refine VC.skip ?_) | (refine VQ.cons ?_) | (refine VQ.nil ?_) | (refine VG.nil ?_) | (refine VBool.f ?_) | (refine VBool.nT (by omega) ?_) | (refine VWrap.i64 (by omega) (by omega) ?_) | (refine VC.seq ?_)); (conv => whnf))))
    refine VRead.ofW (v := .agg #[.int .i64 50, .bool false, .slice none 0 0]) (fun _ => by kernel_rfl) ?_
    ((conv => whnf); (repeat ((first | (refine VL.cons ?_)); (conv => whnf))))
    ((repeat ((fail); (conv => whnf))))
    refine VSem.of (v := .slice (some ⟨Z12.heap.size, 0, none⟩) 1 1) (w' := Z12.alloc (.cells #[.int .i64 50, .bool false, .slice none 0 0] 67)) (by kernel_rfl) ?_
    have hnew := Blk.new Z12 67 #[.int .i64 50, .bool false, .slice none 0 0]
    have hZ13 : Below Z12.heap.size Z12 (Z12.alloc (.cells #[.int .i64 50, .bool false, .slice none 0 0] 67)) := (Below.refl _ Z12).alloc (Nat.le_refl _) _
    generalize Z12.alloc (.cells #[.int .i64 50, .bool false, .slice none 0 0] 67) = Z13 at *
    have hen : EnAt Z13 (fun j => j < Z13.heap.size) (some ⟨Z12.heap.size, 0, none⟩) 1 [⟨50, false, []⟩] := EnAt.one (e := ⟨50, false, []⟩) hnew hnew.lt (Nat.le_refl 0) (Lies.nil _ _ _)
    have hf13 := hf12.below hZ13
    have hv13 := hv12.later hZ13
    have hY13 := hY12.trans (hZ13.mono hY12.size)
    have zY8 := hY7.size
    ((conv => whnf); (repeat ((first | (refine VL.cons ?_)); (conv => whnf))))
    ((repeat ((fail); (conv => whnf))))
    refine VCall.of (walSave_any Z13 U8 gv f (lgS 1048576 c' n' bs) ⟨n', 0, m⟩ true 50 1 ((m : Int) + 1) _ 1 1 [⟨50, false, []⟩] hf13 hv13 hgv8 ⟨by show (0 : Int) ≤ n'; omega, by show (n' : Int) ≤ 99999999; omega, by show (0 : Int) ≤ 0; decide, by show (0 : Int) ≤ 1099511627776; decide, by show (0 : Int) ≤ m; omega, by show (m : Int) ≤ 1100000000000000; omega⟩
      hen (by decide) (by decide) (by decide) (by show c' + 10 < 1000000; omega)) ?_
    rw [s1]
    rintro e Z14 ⟨rfl, U14, hf14, hv14, hg14, st14⟩
    refine ⟨_, rfl, ?_⟩
    simp only at hf14 hv14 ⊢
    have hU8' : ∀ j, addF U8 gv j → Y.heap.size ≤ j := fun j hj => by
      rcases hj with hj | hj
      · exact hU8 j hj
      · omega
    have hU14 := st14.min hU8' hY13.size
    have hY14 := hY13.trans (st14.below hU8' hY13.size)
    ((conv => whnf); (repeat ((first | (refine VL.cons ?_) | (refine VL.nil ?_) | (refine VC.cond ?_)); (conv => whnf))))
    ((repeat ((first | (refine VL.cons ?_) | (refine VC.seqS rfl ?_) | (refine VC.region ?_) | (refine VC.skip ?_) | (refine VBool.f ?_)); (conv => whnf))))
    refine VCall.of (oCrash Z14 U14 f _ 0 0 none [] hf14 Reads.none_ (fun h => absurd h (Nat.lt_irrefl 0)) (by omega)) ?_
    rw [lgS_crash]
    rintro e Z15 ⟨rfl, U15, hf15, st15⟩
    refine ⟨_, rfl, ?_⟩
    have hU14a : ∀ j, U14 j → Y.heap.size ≤ j := fun j hj => hU14 j (.inl hj)
    have hU15 := st15.min hU14a hY14.size
    have hY15 := hY14.trans (st15.below hU14a hY14.size)
    ((conv => whnf); (repeat ((first | (refine VL.cons ?_) | (refine VL.nil ?_) | (refine VC.seqS rfl ?_) | (refine VC.region ?_)); (conv => whnf))))
    ((repeat ((fail); (conv => whnf))))
    refine VCall.of (walOpen_any Z15 U15 f _ hf15 (by show c' + 2 + 200 < 1000000; omega)) ?_
    rw [open_says b3 (by omega) s2]
    rintro e Z16 ⟨U16, hf16, st16, gy, Ay, ny, cy, rfl, hy16, hgy, hgly, hEy⟩
    refine ⟨_, rfl, ?_⟩
    simp only at hEy ⊢
    have hY16 := hY15.trans (st16.below hU15 hY15.size)
    have hny : m + 1 = ny := by
      have h9 := hEy.at_.2.2
      rw [List.length_append, hlm] at h9
      exact h9
    subst hny
    ((conv => whnf); (repeat ((first | (refine VL.cons ?_)); (conv => whnf))))
    ((repeat ((fail); (conv => whnf))))
    refine VSem.allocZ (z := .agg (kC Kp.zero none 0 0)) (by kernel_rfl) ?_
    intro Z17 p hp hpe hpl hZ17
    ((conv => whnf); (repeat ((first | (refine VL.cons ?_)); (conv => whnf))))
    ((repeat ((fail); (conv => whnf))))
    refine VUnit.storeAB hp rfl rfl rfl (by simp [kC, Value.oneCell']) ?_
    intro Z18 hp18 hg18
    rw [setFrom_allW (vs := kC ⟨50, 1, 0, 0, lT m ++ [(⟨50, false, []⟩ : En)]⟩ Ay (m + 1) cy) (by rfl)] at hp18
    have hZ18 : Below Z16.heap.size Z16 Z18 := only_new hZ17 hg18 (by omega) (by omega)
    have hY18 := hY16.trans (hZ18.mono hY16.size)
    ((conv => whnf); (repeat ((first | (refine VL.cons ?_) | (refine VL.nil ?_) | (refine VC.seqS rfl ?_) | (refine VC.region ?_)); (conv => whnf))))
    (repeat (first | ((first | (refine VL.cons ?_) | (refine VBool.t ?_) | (refine VBool.dT (by omega) ?_) | (refine VRead.lenS ?_) | (refine VRead.fld ?_) | (refine VWrap.i64 (by omega) (by omega) ?_)); (conv => whnf)) | (refine VRead.loadB hp18 rfl rfl ?_; (conv => whnf))))
    refine VCall.of (awake18_any Z18) ?_
    rintro e Z19 ⟨rfl, hZ19⟩
    refine ⟨_, rfl, ?_⟩
    ((conv => whnf); (repeat ((first | (refine VL.cons ?_) | (refine VL.nil ?_) | (refine VC.ret ?_)); (conv => whnf))))
    ((repeat ((fail); (conv => whnf))))
    exact ⟨rfl, hY.trans ((hY18.trans (hZ19.mono hY18.size)).mono zY)⟩
  have hll := lT_len i
  obtain ⟨t1, t2⟩ := torn_more (i := i) (c := cc) (by omega) hbl
  ((conv => whnf); (repeat ((first | (refine VL.cons ?_) | (refine VL.nil ?_) | (refine VC.cond ?_)); (conv => whnf))))
  (repeat ((first | (refine VRead.quo64 (by omega) (by omega) (by omega) ?_) | (refine VWrap.u8 (by omega) (by omega) ?_) | (refine VL.cons ?_) | (refine VC.seqS rfl ?_) | (refine VC.region ?_) | (refine VC.block ?_) | (refine VC.skip ?_) | (refine VBool.dT (by omega) ?_) | (refine VWrap.i64 (by omega) (by omega) ?_) | (refine VSem.convI ?_) | (refine VC.seq ?_)); (conv => whnf)))
  refine VSem.buildR (ps := [(0, .int .u8 (i : Int))]) rfl rfl (by simp [Value.oneCell']) (by omega) ?_
  intro Y1 hO1 hB1' hz1
  replace hO1 : Own Y1 X.heap.size (.slice (some ⟨X.heap.size, 0, none⟩) 1 1) 1 (enT i).data := by
    show Y1.ownsRow _ _ _ _ _ (bv [UInt8.ofNat i])
    rw [bv1 (by omega)]
    exact hO1
  ((conv => whnf); (repeat ((first | (refine VL.cons ?_)); (conv => whnf))))
  ((repeat ((fail); (conv => whnf))))
  refine VRead.ofW (v := .agg #[.int .i64 (1 + (i : Int) / 3), .bool false, .slice (some ⟨X.heap.size, 0, none⟩) 1 1]) (fun _ => by kernel_rfl) ?_
  ((conv => whnf); (repeat ((first | (refine VL.cons ?_)); (conv => whnf))))
  ((repeat ((fail); (conv => whnf))))
  refine VSem.allocZ (z := .agg #[.int .i64 0, .bool false, .slice none 0 0]) (by kernel_rfl) ?_
  intro Y2 xb hx hxe hxl hB2'
  ((conv => whnf); (repeat ((first | (refine VL.cons ?_)); (conv => whnf))))
  ((repeat ((fail); (conv => whnf))))
  refine VUnit.storeAB hx rfl rfl rfl (by simp [Value.oneCell']) ?_
  intro Y3 hx3 hg3
  replace hx3 : Blk Y3 xb 67 #[.int .i64 (enT i).term, .bool (enT i).cmd, .slice (some ⟨X.heap.size, 0, none⟩) 1 1] := hx3
  have hB13 : Below Y1.heap.size Y1 Y3 := only_new hB2' hg3 (by omega) (by omega)
  have hX3 := hB1'.trans (hB13.mono hB1'.size)
  have z3 := hX3.size
  have hO3 := hO1.below hB13 (Nat.le_refl _)
  have hxX : X.heap.size ≤ xb := by omega
  ((conv => whnf); (repeat ((first | (refine VL.nil ?_)); (conv => whnf))))
  ((repeat ((first | (refine VL.cons ?_) | (refine VC.seqS rfl ?_) | (refine VC.region ?_) | (refine VWrap.i64 (by omega) (by omega) ?_) | (refine VC.seq ?_)); (conv => whnf))))
  refine VRead.loadAB1 hx3 rfl rfl ?_
  ((conv => whnf); (repeat ((first | (refine VL.cons ?_)); (conv => whnf))))
  ((repeat ((fail); (conv => whnf))))
  refine VSem.of (v := .slice (some ⟨Y3.heap.size, 0, none⟩) 1 1) (w' := Y3.alloc (.cells #[.int .i64 (enT i).term, .bool (enT i).cmd, .slice (some ⟨X.heap.size, 0, none⟩) 1 1] 67)) (by kernel_rfl) ?_
  have hnew := Blk.new Y3 67 #[.int .i64 (enT i).term, .bool (enT i).cmd, .slice (some ⟨X.heap.size, 0, none⟩) 1 1]
  have hB34 : Below Y3.heap.size Y3 (Y3.alloc (.cells #[.int .i64 (enT i).term, .bool (enT i).cmd, .slice (some ⟨X.heap.size, 0, none⟩) 1 1] 67)) := (Below.refl _ Y3).alloc (Nat.le_refl _) _
  generalize Y3.alloc (.cells #[.int .i64 (enT i).term, .bool (enT i).cmd, .slice (some ⟨X.heap.size, 0, none⟩) 1 1] 67) = Y4 at *
  have hX4 := hX3.trans (hB34.mono z3)
  have hO4 := hO3.below hB34 (Nat.le_refl _)
  have z34 := hB34.size
  have hUl := hd.lt
  have hgl := hw.lt
  have hUa : ∀ j, addF U' g j → W.heap.size ≤ j := fun j hj => by
    rcases hj with hj | hj
    · exact hU j hj
    · omega
  have nU : ∀ j, X.heap.size ≤ j → NotU (addF U' g) j := fun j hj hu => by
    rcases hu with hu | hu
    · have := hUl j hu; omega
    · omega
  have hL4 : Lies Y4 (NotU (addF U' g)) (some ⟨X.heap.size, 0, none⟩) 1 (enT i).data := (Lies.of_own (U := fun j => X.heap.size ≤ j) hO4 (fun j h => h)).more (fun j _ hj => nU j hj)
  have hen : EnAt Y4 (fun j => j < Y4.heap.size) (some ⟨Y3.heap.size, 0, none⟩) 1 [enT i] := (EnAt.one (V := fun _ => True) (e := enT i) hnew trivial (Nat.le_refl 1) (hL4.more (fun _ _ _ => trivial))).more (fun j h _ => h)
  have hok : WlOk ⟨1, 0, (i : Int)⟩ := ⟨by show (0 : Int) ≤ 1; decide, by show (1 : Int) ≤ 99999999; decide, by show (0 : Int) ≤ 0; decide, by show (0 : Int) ≤ 1099511627776; decide, by show (0 : Int) ≤ i; omega, by show (i : Int) ≤ 1100000000000000; omega⟩
  ((conv => whnf); (repeat ((first | (refine VL.cons ?_)); (conv => whnf))))
  ((repeat ((fail); (conv => whnf))))
  refine VCall.of (walSave_any Y4 U' g d (lgS 1048576 cc 1 (tBs (lT i))) ⟨1, 0, i⟩ false 0 0 ((i : Int) + 1) _ 1 1 [enT i] (hd.below hX4) (hw.later hX4) hg hok hen (by decide) (by decide) (by decide) (by show cc + 10 < 1000000; omega)) ?_
  rw [t1]
  rintro e Y5 ⟨rfl, U3, hd5, hw5, hg5, st5⟩
  refine ⟨_, rfl, ?_⟩
  simp only at hd5 hw5 ⊢
  have h04 := hB.trans (hX4.mono hXs)
  have h05 := h04.trans (st5.below hUa h04.size)
  have hU5 := st5.min hUa h04.size
  obtain ⟨hx5, _⟩ := st5.blk (hx3.later hB34) (nU xb hxX)
  have hL5 := hL4.step st5
  have hE5 := (hE.below hX4).step st5
  obtain ⟨hOe5, hFe5⟩ := st5.rows (rows_below hO hX4 (Nat.le_refl _)) hF
  have z45 := st5.size
  clear hnew hen hO4 hO3 hO1
  ((conv => whnf); (repeat ((first | (refine VL.cons ?_) | (refine VL.nil ?_) | (refine VC.cond ?_)); (conv => whnf))))
  ((repeat ((first | (refine VL.cons ?_) | (refine VC.seqS rfl ?_) | (refine VC.region ?_) | (refine VC.skip ?_) | (refine VBool.f ?_)); (conv => whnf))))
  refine VRead.loadAB1 hx5 rfl rfl ?_
  ((conv => whnf); (repeat ((first | (refine VL.cons ?_)); (conv => whnf))))
  ((repeat ((fail); (conv => whnf))))
  refine VSem.of (v := .slice (some ⟨Y5.heap.size, 0, none⟩) 1 1) (w' := Y5.alloc (.cells #[.int .i64 (enT i).term, .bool (enT i).cmd, .slice (some ⟨X.heap.size, 0, none⟩) 1 1] 67)) (by kernel_rfl) ?_
  have hnew := Blk.new Y5 67 #[.int .i64 (enT i).term, .bool (enT i).cmd, .slice (some ⟨X.heap.size, 0, none⟩) 1 1]
  have hB56 : Below Y5.heap.size Y5 (Y5.alloc (.cells #[.int .i64 (enT i).term, .bool (enT i).cmd, .slice (some ⟨X.heap.size, 0, none⟩) 1 1] 67)) := (Below.refl _ Y5).alloc (Nat.le_refl _) _
  generalize Y5.alloc (.cells #[.int .i64 (enT i).term, .bool (enT i).cmd, .slice (some ⟨X.heap.size, 0, none⟩) 1 1] 67) = Y6 at *
  have z56 := hB56.size
  have nU5 : ∀ j, Y5.heap.size ≤ j → NotU (addF U3 g) j := fun j hj hu => by
    rcases hu with hu | hu
    · have := hd5.lt j hu; omega
    · omega
  have hen6 : EnAt Y6 (NotU (addF U3 g)) (some ⟨Y5.heap.size, 0, none⟩) 1 [enT i] := EnAt.one (e := enT i) hnew (nU5 _ (Nat.le_refl _)) (Nat.le_refl 1) (hL5.below hB56 (Nat.le_refl _))
  have hE6 := hE5.below hB56
  have hOe6 := rows_below hOe5 hB56 (Nat.le_refl _)
  have hd6 := hd5.below hB56
  have hw6 := hw5.later hB56
  have h06 := h05.trans (hB56.mono h05.size)
  ((conv => whnf); (repeat ((first | (refine VL.cons ?_)); (conv => whnf))))
  ((repeat ((fail); (conv => whnf))))
  refine ERow.app hE6 hen6 (by omega) h06.size (fun j hj => nU5 j (by omega)) ?_
  intro A7 c7 Y7 hE7 hg7
  rw [← lT_succ] at hE7
  have hd7 := hd6.grownF hg7 (fun q hq hu => hE6.inV hq (.inl hu))
  have hw7 : Blk Y7 g 105 (wlC d ⟨1, 0, (i : Int) + 1⟩) := hw6.grown hg7 (fun e => hE6.inV e.symm (.inr rfl))
  have hOe7 : Y7.ownsRow W.heap.size 3 1 (.slice Ae i ce) i (iv .i64 (endsT i)) := by
    obtain ⟨ys, k1, _⟩ := hE6
    exact rows_apart hOe6 hg7 (rows_ne hOe6 k1 (by decide))
  have h07 := h06.grown hg7 h06.size (fun j hj => (hE6.lt hj).2)
  clear hd5 hw5 hd6 hw6 hOe5 hOe6 hE5 hE6 hen6 hnew hx5 hx3 hL5 hL4
  ((conv => whnf); (repeat ((first | (refine VL.cons ?_) | (refine VL.nil ?_) | (refine VC.seqS rfl ?_) | (refine VC.region ?_)); (conv => whnf))))
  ((repeat ((fail); (conv => whnf))))
  refine VCall.of (walName_any 1 Y7 (by decide)) ?_
  rintro e Y8 ⟨rfl, hB8⟩
  refine ⟨_, rfl, ?_⟩
  ((conv => whnf); (repeat ((first | (refine VL.cons ?_)); (conv => whnf))))
  ((repeat ((fail); (conv => whnf))))
  refine VCall.of (oRead Y8 U3 d _ (wName 1) (hd7.below hB8) wName1_len) ?_
  rintro e Y9 ⟨v9, rfl, hrd, hB9⟩
  refine ⟨_, rfl, ?_⟩
  obtain ⟨Ab, cb, rfl, _⟩ := readR_lg (n := 1) hrd
  clear hrd
  have hB79 := hB8.trans (hB9.mono hB8.size)
  have z79 := hB79.size
  ((conv => whnf); (repeat ((first | (refine VL.cons ?_) | (refine VL.nil ?_) | (refine VC.region ?_)); (conv => whnf))))
  ((repeat ((first | (refine VL.cons ?_) | (refine VRead.lenS ?_)); (conv => whnf))))
  refine VSem.one (v := .int .i64 ((Frame.laid (tBs (lT (i + 1)))).length : Int)) rfl ?_
  intro Z1 hrZ hBZ hzZ
  have hB7Z := hB79.trans (hBZ.mono z79)
  have hOeZ := rows_below hOe7 hB7Z (Nat.le_refl _)
  have h0Z := h07.trans (hB7Z.mono h07.size)
  have zZ := h0Z.size
  ((conv => whnf); (repeat ((first | (refine VL.cons ?_)); (conv => whnf))))
  ((repeat ((fail); (conv => whnf))))
  refine VSem.appI3 (news := [((Frame.laid (tBs (lT (i + 1)))).length : Int)]) hOeZ hrZ (by omega) zZ ?_
  intro Ae' ce' Z2 hO2 hg2' hk3
  have hdZ := (hd7.below hB7Z).grownF hg2' (fun q hq hu => hFe5 q hq (.inl hu))
  have hwZ : Blk Z2 g 105 (wlC d ⟨1, 0, (i : Int) + 1⟩) := (hw7.later hB7Z).grown hg2' (fun e => hFe5 g e.symm (.inr rfl))
  have hEZ := (hE7.below hB7Z).rowI hOeZ hg2'
  have h02 := h0Z.grown hg2' zZ (fun j hj => (World.ownsRow.lt hOeZ j hj).1)
  have hF2' : Free (addF U3 g) (.slice Ae' (i + 1) ce') := fun q hq hu => by
    rcases hk3 with e | e
    · exact hFe5 q (e.symm.trans hq) hu
    · rw [e] at hq
      injection hq with hq
      refine nU5 q ?_ hu
      have := hB7Z.size
      have := hg7.size
      omega
  ((conv => whnf); (repeat ((first | (refine VL.cons ?_) | (refine VL.nil ?_) | (refine VC.region ?_)); (conv => whnf))))
  ((repeat ((first | (refine VL.cons ?_) | (refine VL.nil ?_) | (refine VWrap.i64 (by omega) (by omega) ?_)); (conv => whnf))))
  exact ⟨_, by omega, i + 1, U3, A7, Ae', c7, ce', cc + 2, rfl, rfl, by omega, hdZ, by omega, by omega, t2, by
    have := hbf
    have h8 : (Frame.laid (tBs (lT i))).length ≤ (Frame.laid (tBs (lT (i + 1)))).length := by
      rw [← tBs_succ, Frame.laid_append, List.length_append]; omega
    omega, hwZ, hg5, fun j hj => hU5 j (.inl hj), hEZ, by rw [endsT_succ]; exact hO2, hF2', h02⟩
end Go.Proofs.Ytebeidnmplnlpaa
end
