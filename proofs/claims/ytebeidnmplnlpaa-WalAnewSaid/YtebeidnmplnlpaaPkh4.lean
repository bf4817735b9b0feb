/- Texts joined: WalI, SnapE, SnapF, SnapG, WalJ, WalK, WalL, SnapH, WalM, WalO, WalQ, WalR, WalU, Open, SnapK, WalY, WalZ, WalS, WkA, WaA, WaB. No condition. -/
import Derived.Test.YtebeidnmplnlpaaPkh3
import Derived.Test.YtebeidnmplnlpaaPkh2
import Derived.Deep.Slices
import Derived.OpenShut
section
set_option maxRecDepth 10000
namespace Go.Proofs.Ytebeidnmplnlpaa
set_option linter.unusedVariables false
open Go.RowKit

theorem VRes.op3 {P : Program} {w : World} {a b c t T1 g1 k : Nat} {σ : Env} {cs : Array Value} {R : Ending → World → Prop} [i : TAgg P t k]
    (ha : σ b = .pointer (some ⟨g1, 0, none⟩)) (h1 : Blk w g1 T1 cs) (hs : Nat.beq cs.size k = true)
    (h : R (.returned (.tuple #[σ a, .agg cs, σ c])) w) : VRes P [.tmp a, .cell b t, .tmp c] σ w R := by
  have k1 := run_load_agg (P := P) i h1 (Nat.eq_of_beq_eq_true hs)
  unfold Instr.loadAt Instr.sureAddr at k1
  simp only [Sem.run_bind, Sem.run_pure, Result.andThen_ok] at k1
  exact ⟨⟨_, by simp [resE, ha, asAddr, k1], h⟩⟩
/-! ### plain -/
structure Scn where
  some_ : Bool
  n : Nat
  k : Kp
  whole : Bool
def woStep (acc : Scn) (p : List UInt8 × Fl) : Scn := match wNum p.1 with
  | none => acc
  | some n => match readW p.2.b with
    | some k => ⟨true, n, k, isWhole p.2.b⟩
    | none => { acc with some_ := true }
def wScan (T : PT) : Scn := T.foldl woStep ⟨false, 0, Kp.zero, false⟩
def Scn.wl (c : Scn) : WlS := ⟨c.n, c.k.base, c.k.base + c.k.es.length⟩
def DS.wnext (S : DS) (c : Scn) : (Int × DS) × WlS := if c.whole = true then (S.sync (wName c.n), c.wl) else S.wanew c.wl c.k
def DS.wend (R : (Int × DS) × WlS) : Int × DS := andT R.1 fun S1 => S1.clear wPre (wName R.2.n) S1.keys
def DS.wopen (S : DS) : (Int × DS) × Option (WlS × Kp) :=
  if (wScan S.t).some_ = true ∧ (wScan S.t).n = 0 then ((23, S), none) else
  (DS.wend (S.wnext (wScan S.t)), if (DS.wend (S.wnext (wScan S.t))).1 = 0 then some ((S.wnext (wScan S.t)).2, (wScan S.t).k) else none)
theorem takesA_ok : ∀ {cs : List (List UInt8)} {st : Bool} {k k' : Kp}, takesA st k cs = some k' → inR k.base 1099511627776 → inR k'.base 1099511627776 ∧ k'.es.length ≤ k.es.length + cs.length
  | [], st, k, k', h, hb => by
    injection h with h; subst h; exact ⟨hb, by simp⟩
  | c :: cs, st, k, k', h, hb => by
    unfold takesA at h
    cases ht : takes k c st with
    | none => rw [ht] at h; cases h
    | some k1 =>
      rw [ht] at h
      obtain ⟨h1, h2⟩ := takes_in ht hb
      obtain ⟨h3, h4⟩ := takesA_ok h h1
      exact ⟨h3, by rw [List.length_cons]; omega⟩
theorem laid_ge : ∀ (bs : List (List UInt8)), bs.length ≤ (Frame.laid bs).length
  | [] => by simp
  | b :: bs => by
    have h1 := laid_ge bs
    have h2 := Frame.put_pos b
    rw [Frame.laid_cons, List.length_append, List.length_cons]
    omega
theorem readW_ok {l : List UInt8} {k : Kp} (h : readW l = some k) : inR k.base 1099511627776 ∧ k.es.length ≤ l.length := by
  unfold readW at h
  split at h
  · cases h
  · obtain ⟨h1, h2⟩ := takesA_ok h ⟨by decide, by decide⟩
    have h3 := laid_ge (Frame.bodies l)
    have h4 := congrArg List.length (Frame.bodies_spec l).1
    rw [List.length_append] at h4
    have : Kp.zero.es.length = 0 := rfl
    exact ⟨h1, by omega⟩
structure ScnOk (c : Scn) : Prop where
  n : c.n ≤ 99999999
  b : inR c.k.base 1099511627776
  l : c.k.es.length ≤ 16777216
theorem ScnOk.wl {c : Scn} (h : ScnOk c) : WlOk c.wl := by
  obtain ⟨h1, ⟨h2, h3⟩, h4⟩ := h
  have e1 : c.wl.n = (c.n : Int) := rfl
  have e2 : c.wl.base = c.k.base := rfl
  have e3 : c.wl.last = c.k.base + c.k.es.length := rfl
  exact ⟨by omega, by omega, by omega, by omega, by omega, by omega⟩
theorem wrun_calls (nm b : List UInt8) : ∀ (m k : Nat) (S : DS), (wrun nm b m k S).2.k.calls ≤ S.k.calls + m
  | 0, k, S => by show S.k.calls ≤ S.k.calls + ((0 : Nat) : Int); omega
  | m + 1, k, S => by
    unfold wrun
    have h1 := wact_calls nm b k S
    by_cases h : (wact nm b k S).1 = 0
    · rw [andT_ok h]
      have := wrun_calls nm b m (k + 1) (wact nm b k S).2
      omega
    · rw [andT_no h]
      omega
theorem wanew_calls (S : DS) (w : WlS) (k : Kp) : (S.wanew w k).1.2.k.calls ≤ S.k.calls + 5 ∧ ((S.wanew w k).2.n = w.n ∨ (S.wanew w k).2.n = w.n + 1) := by
  unfold DS.wanew
  split
  · exact ⟨by simp only; omega, .inl rfl⟩
  · split
    · exact ⟨by simp only; omega, .inl rfl⟩
    · have h1 := wrun_calls (wName (w.n + 1)) (waB k) 4 0 S
      simp only
      split
      · exact ⟨by simp only; omega, .inl rfl⟩
      · split
        · exact ⟨by simp only; omega, .inr rfl⟩
        · have h2 : ((wrun (wName (w.n + 1)) (waB k) 4 0 S).2.remove (wName w.n)).2.k.calls = (wrun (wName (w.n + 1)) (waB k) 4 0 S).2.k.calls + 1 := DS.remove_calls
          exact ⟨by simp only; omega, .inr rfl⟩
theorem wnext_calls (S : DS) (c : Scn) : (S.wnext c).1.2.k.calls ≤ S.k.calls + 5 ∧ ((S.wnext c).2.n = c.n ∨ (S.wnext c).2.n = (c.n : Int) + 1) := by
  unfold DS.wnext
  split
  · have h2 : (S.sync (wName c.n)).2.k.calls = S.k.calls + 1 := DS.sync_calls
    exact ⟨by simp only; omega, .inl rfl⟩
  · have := wanew_calls S c.wl c.k
    exact this
theorem Lies.ne {W : World} {V : Foot} {A : Option Addr} {m g T : Nat} {l : List UInt8} {cs : Array Value} (h : Lies W V A m l) (hb : Blk W g T cs) (hT : 5 ≠ T) : Lies W (fun j => V j ∧ j ≠ g) A m l :=
  ⟨h.1, fun hm => by
    obtain ⟨ad, cs', fr, e, h1, h2⟩ := h.2 hm
    refine ⟨ad, cs', fr, e, ⟨h1, fun e' => ?_⟩, h2⟩
    unfold Blk at hb
    rw [← e', h2] at hb
    injection hb with hb
    injection hb with _ h3 _
    exact hT h3⟩
theorem ERow.ne {W : World} {V : Foot} {B g T : Nat} {v : Value} {es : List En} {cs : Array Value} (h : ERow W V B v es) (hb : Blk W g T cs) (hT : 5 ≠ T) (hT2 : 67 ≠ T) : ERow W (fun j => V j ∧ j ≠ g) B v es := by
  have hn := h.notBlk hb hT2
  obtain ⟨xs, h1, h2, h3⟩ := h
  refine ⟨xs, h1, fun q hq => ⟨h2 q hq, fun e => hn (by rw [hq, e])⟩, fun i e he => ?_⟩
  obtain ⟨A', m, k, e1, e2, e3, e4, e5⟩ := h3 i e he
  exact ⟨A', m, k, e1, e2, e3, e4, e5.ne hb hT⟩
theorem ERow.addU {W : World} {U : Foot} {B g T : Nat} {v : Value} {es : List En} {cs : Array Value} (h : ERow W (NotU U) B v es) (hb : Blk W g T cs) (hT : 5 ≠ T) (hT2 : 67 ≠ T) : ERow W (NotU (addF U g)) B v es :=
  (h.ne hb hT hT2).more (Nat.le_refl _) (fun j _ hj hu => by
    rcases hu with hu | hu
    · exact hj.1 hu
    · exact hj.2 hu)
theorem ERow.unU {W : World} {U : Foot} {B g : Nat} {v : Value} {es : List En} (h : ERow W (NotU (addF U g)) B v es) : ERow W (NotU U) B v es := h.more (Nat.le_refl _) (fun j _ hj hu => hj (.inl hu))
theorem Step.pastG {W X X' : World} {U U' : Foot} {q : Nat} (h : Step W U X U') (hg : X.grownBy X' (some q)) (hq : W.heap.size ≤ q) : Step W U X' U' := ⟨h.out.newG hg (.inl hq), h.sub⟩
theorem Step.past {W Y X : World} {U U' : Foot} {g : Nat} (hB : Below W.heap.size W Y) (h : Step Y (addF U g) X (addF U' g)) (hg : W.heap.size ≤ g) : Step W U X U' := by
  have hs := hB.size
  refine ⟨⟨h.out.os.trans hB.os, h.out.tape.trans hB.tape, h.out.output.trans hB.output, Nat.le_trans hs h.out.size, fun j hj hu => ?_⟩, fun j hj => ?_⟩
  · rw [h.out.block j (by omega) (fun h' => by
      rcases h' with h' | h'
      · exact hu h'
      · omega), hB.block j hj]
  · rcases h.sub j (.inl hj) with h' | h'
    · rcases h' with h' | h'
      · exact .inl h'
      · right; omega
    · right; omega
/-- what Open gives -/
def OpV (W W' : World) (U' : Foot) (d : Nat) (r : Int) (o : Option (WlS × Kp)) (e : Ending) : Prop := match o with
  | none => e = .returned (.tuple #[.pointer none, .agg (kC Kp.zero none 0 0), .int .i64 r])
  | some y => ∃ g A n c, e = .returned (.tuple #[.pointer (some ⟨g, 0, none⟩), .agg (kC y.2 A n c), .int .i64 0]) ∧ Blk W' g 105 (wlC d y.1) ∧ ¬ U' g ∧ W.heap.size ≤ g ∧ ERow W' (NotU U') W.heap.size (.slice A n c) y.2.es
set_option maxHeartbeats 4000000 in
theorem walOpen_any (W : World) (U : Foot) (d : Nat) (S : DS) (h : Dsk W U d S) (hc : S.k.calls + 200 < 1000000) :
    Calls Try.prog 40 #[.pointer (some ⟨d, 0, none⟩)] W fun e W' => ∃ U', Dsk W' U' d (S.wopen).1.2 ∧ Step W U W' U' ∧ OpV W W' U' d (S.wopen).1.1 (S.wopen).2 e := by
  have hfew := h.wf.t.few
  have hris := h.wf.t.ris
  have hroom := h.wf.k.room
  have hfit := h.wf.t.fit
  refine calls_vc Try.func40 rfl (by kernel_rfl) ?_
  ((conv => whnf); (repeat ((first | (refine VL.cons ?_) | (refine VC.seqS rfl ?_) | (refine VC.region ?_)); (conv => whnf))))
  ((repeat ((fail); (conv => whnf))))
  refine VSem.allocZ (z := .agg (kC Kp.zero none 0 0)) (by kernel_rfl) ?_
  intro w1 g3 hb3 hg3 hl3 hB1
  replace hb3 : Blk w1 g3 63 (kC Kp.zero none 0 0) := hb3
  ((conv => whnf); (repeat ((first | (refine VL.cons ?_) | (refine VL.nil ?_) | (refine VC.seqS rfl ?_) | (refine VC.region ?_)); (conv => whnf))))
  ((repeat ((fail); (conv => whnf))))
  refine VRead.ofW (v := .agg (wlC d ⟨0, 0, 0⟩)) (fun _ => by kernel_rfl) ?_
  ((conv => whnf); (repeat ((first | (refine VL.cons ?_)); (conv => whnf))))
  ((repeat ((fail); (conv => whnf))))
  refine VSem.boxB ?_
  intro w2 g5 hb5 hg5 hl5 hB2
  replace hb5 : Blk w2 g5 105 (wlC d ⟨0, 0, 0⟩) := hb5
  ((conv => whnf); (repeat ((first | (refine VL.cons ?_) | (refine VL.nil ?_) | (refine VC.seqS rfl ?_) | (refine VC.region ?_)); (conv => whnf))))
  ((repeat ((fail); (conv => whnf))))
  refine VRead.ofW (v := .agg (kC Kp.zero none 0 0)) (fun _ => by kernel_rfl) ?_
  ((conv => whnf); (repeat ((first | (refine VL.cons ?_)); (conv => whnf))))
  ((repeat ((fail); (conv => whnf))))
  refine VSem.allocZ (z := .agg (kC Kp.zero none 0 0)) (by kernel_rfl) ?_
  intro w3 g6 hb6 hg6 hl6 hB3
  replace hb6 : Blk w3 g6 63 (kC Kp.zero none 0 0) := hb6
  ((conv => whnf); (repeat ((first | (refine VL.cons ?_)); (conv => whnf))))
  ((repeat ((fail); (conv => whnf))))
  refine VUnit.storeAB hb6 rfl rfl rfl (by simp [kC, Kp.zero, Value.oneCell']) ?_
  intro w4 hb6' hg6'
  rw [setFrom_allW rfl] at hb6'
  have s1 := hB1.size
  have s2 := hB2.size
  have s3 := hB3.size
  have s4 := hg6'.size
  replace hb3 := ((hb3.later hB2).later hB3).only hg6' (by omega)
  replace hb5 := (hb5.later hB3).only hg6' (by omega)
  have hB04 : Below W.heap.size W w4 := only_new ((hB1.trans (hB2.mono s1)).trans (hB3.mono (Nat.le_trans s1 s2))) hg6' (by omega) (by omega)
  clear hb6 hB1 hB2 hB3 hg6'
  ((conv => whnf); (repeat ((first | (refine VL.cons ?_) | (refine VL.nil ?_)); (conv => whnf))))
  ((repeat ((first | (refine VL.cons ?_) | (refine VC.seqS rfl ?_) | (refine VC.region ?_) | (refine VC.seq ?_)); (conv => whnf))))
  refine VCall.of (oList w4 U d S (h.below hB04)) ?_
  rintro e w5 ⟨Al, kl, rfl, hOl, hB5⟩
  refine ⟨_, rfl, ?_⟩
  replace hb3 := hb3.later hB5
  replace hb5 := hb5.later hB5
  replace hb6' := hb6'.later hB5
  have hB05 := hB04.trans (hB5.mono hB04.size)
  have s5 := hB5.size
  obtain ⟨o1, o2, o3, o4⟩ : W.heap.size ≤ g3 ∧ g3 < g5 ∧ g5 < g6 ∧ g6 < w4.heap.size := by omega
  ((conv => whnf); (repeat ((first | (refine VL.cons ?_)); (conv => whnf))))
  ((repeat ((first | (refine VL.cons ?_) | (refine VL.nil ?_) | (refine VC.block ?_) | (refine VRead.lenS ?_)); (conv => whnf))))
  refine VC.loop [7, 8, 26] [(7, 8), (10, 17), (26, 56)] (fun q vs X => ∃ (j : Nat) (acc : Scn) (A : Option Addr) (n c : Nat), vs = [.bool acc.whole, .bool acc.some_, .int .i64 (j : Int)] ∧ q = S.t.length - j ∧ j ≤ S.t.length ∧ (S.t.take j).foldl woStep ⟨false, 0, Kp.zero, false⟩ = acc ∧ ScnOk acc ∧
      Blk X g3 63 (kC Kp.zero none 0 0) ∧ Blk X g5 105 (wlC d ⟨acc.n, 0, 0⟩) ∧ Blk X g6 63 (kC acc.k A n c) ∧ ERow X (fun j => W.heap.size ≤ j) W.heap.size (.slice A n c) acc.k.es ∧
      X.ownsRow w4.heap.size 9 1 (.slice Al S.t.length kl) S.t.length ((S.t.map (·.1)).map encStr) ∧ Below W.heap.size W X) (by kernel_rfl)
    ⟨_, 0, ⟨false, 0, Kp.zero, false⟩, none, 0, 0, rfl, rfl, by omega, rfl, ⟨by decide, ⟨by decide, by decide⟩, by decide⟩, hb3, hb5, hb6', ERow.nil _ _ _, hOl, hB05⟩ ?_
  clear hb3 hb5 hb6' hOl hB05 hB5 hB04
  rintro q τ vs X ⟨j, acc, A, n, c, rfl, rfl, hj, hacc, hok, hb3, hb5, hb6, hE, hO, hB⟩
  by_cases hjn : j < S.t.length
  case neg =>
    obtain rfl : j = S.t.length := by omega
    rw [List.take_length] at hacc
    have hscan : wScan S.t = acc := hacc
    unfold DS.wopen
    rw [hscan]
    have hd := h.below hB
    obtain ⟨hn9, hbase, hlen⟩ := id hok
    obtain ⟨hbase1, hbase2⟩ := hbase
    have hkl := hE.at_.2.2
    by_cases hcor : acc.some_ = true ∧ acc.n = 0
    · rw [if_pos hcor]
      obtain ⟨h1, h2⟩ := hcor
      have h2' : (acc.n : Int) = 0 := by omega
      ((conv => whnf); (repeat ((first | (refine VL.cons ?_) | (refine VL.nil ?_) | (refine VC.seqS rfl ?_) | (refine VC.region ?_)); (conv => whnf))))
      (repeat (first | ((first | (refine VL.cons ?_) | (refine VL.nil ?_) | (refine VC.seqS rfl ?_) | (refine VC.region ?_) | (refine VC.cond ?_) | (refine VC.exit ?_) | (refine VBool.t ?_) | (refine VBool.dT (by omega) ?_) | (refine VBool.dF (by omega) ?_) | (refine VRead.fld ?_) | (refine VC.seq ?_)); (conv => whnf)) | (refine VBool.yes h1 ?_; (conv => whnf)) | (refine VRead.loadB hb5 rfl rfl ?_; (conv => whnf))))
      refine VRead.ofW (v := .agg (kC Kp.zero none 0 0)) (fun _ => by kernel_rfl) ?_
      ((conv => whnf); (repeat ((first | (refine VL.cons ?_)); (conv => whnf))))
      ((repeat ((fail); (conv => whnf))))
      refine VUnit.storeAB hb3 rfl rfl rfl (by simp [kC, Kp.zero, Value.oneCell']) ?_
      intro X2 hb32 hg2
      rw [setFrom_allW rfl] at hb32
      ((conv => whnf); (repeat ((first | (refine VL.cons ?_) | (refine VL.nil ?_) | (refine VC.ret ?_)); (conv => whnf))))
      ((repeat ((fail); (conv => whnf))))
      refine VRes.op3 rfl hb32 rfl ?_
      have hB2 : Below W.heap.size W X2 := only_new hB hg2 (by omega) hB.size
      exact ⟨U, h.below hB2, Step.new hB2, rfl⟩
    rw [if_neg hcor]
    (conv => whnf)
    (iterate 8 ((first | (refine VL.cons ?_) | (refine VL.nil ?_) | (refine VC.seqS rfl ?_) | (refine VC.region ?_) | (refine VC.cond ?_) | (refine VC.exit ?_) | (refine VBool.dF (by omega) ?_) | (refine VC.seq ?_)); (conv => whnf)))
    refine VC.cut [2, 4] [(2, 2), (4, 4), (57, 65)] (fun vs Y => vs = [.pointer none, .int .i64 0] ∧ Y = X) (by kernel_rfl) ?_ ?_
    · cases hsm : acc.some_ with
      | false =>
        ((conv => whnf); (repeat ((first | (refine VL.cons ?_) | (refine VC.seqS rfl ?_) | (refine VC.region ?_)); (conv => whnf))))
        (repeat (first | ((first | (refine VL.cons ?_) | (refine VL.nil ?_) | (refine VC.cond ?_) | (refine VC.skip ?_) | (refine VBool.f ?_)); (conv => whnf)) | (refine VBool.no hsm ?_; (conv => whnf))))
        exact ⟨rfl, rfl⟩
      | true =>
        have h2' : ¬ (acc.n : Int) = 0 := fun e => hcor ⟨hsm, by omega⟩
        ((conv => whnf); (repeat ((first | (refine VL.cons ?_) | (refine VC.seqS rfl ?_) | (refine VC.region ?_)); (conv => whnf))))
        (repeat (first | ((first | (refine VL.cons ?_) | (refine VL.nil ?_) | (refine VC.cond ?_) | (refine VC.skip ?_) | (refine VBool.t ?_) | (refine VBool.dF (by omega) ?_) | (refine VRead.fld ?_)); (conv => whnf)) | (refine VBool.yes hsm ?_; (conv => whnf)) | (refine VRead.loadB hb5 rfl rfl ?_; (conv => whnf))))
        exact ⟨rfl, rfl⟩
    rintro τ2 vs Y ⟨rfl, hYX⟩
    have hB' : Below W.heap.size W Y := by rw [hYX]; exact hB
    rw [← hYX] at hb3 hb5 hb6 hE hd
    clear hYX hB hO
    have g5l := hb5.lt
    have g6l := hb6.lt
    have hE7 : Below Y.heap.size Y (Y.drewN 1) := below_drewN (Below.refl _ _) 1
    replace hb3 := hb3.later hE7
    replace hb5 := hb5.later hE7
    replace hb6 := hb6.later hE7
    replace hE := hE.below hE7
    have hB7 := hB'.trans (hE7.mono hB'.size)
    ((conv => whnf); (repeat ((fail); (conv => whnf))))
    ((repeat ((first | (refine VC.draw ?_) | (refine VC.seq ?_)); (conv => whnf))))
    refine VDraw.seg (fun Z => Blk Z g6 63 (kC acc.k A n c)) [([0, 1, 2, 3, 4, 5, 6, 7, 8, 9, 10, 11], 12), ([13, 14], 15)] [] (by kernel_rfl) (by kernel_rfl) hb6 ?_
    generalize Y.drewN 1 = Y1 at *
    (conv => whnf)
    (repeat ((first | (refine VRead.loadBS (fun Z hZ => hZ) rfl rfl ?_) | (refine VQ.cons ?_) | (refine VQ.nil ?_) | (refine VG.cons ?_) | (refine VRead.lenS ?_) | (refine VRead.fld ?_) | (refine VWrap.i64 (by omega) (by omega) ?_)); (conv => whnf)))
    refine VUnit.storeB hb5 rfl rfl rfl ?_
    intro Y2 hb52 hg2
    replace hE := hE.keepG hb5 hg2 (by decide) (hE.notBlk hb5 (by decide))
    replace hb3 := hb3.only hg2 (by omega)
    replace hb6 := hb6.only hg2 (by omega)
    have hB8 : Below W.heap.size W Y2 := only_new hB7 hg2 (by omega) hB7.size
    (conv => whnf)
    refine Keep.mk hb6 ?_
    (conv => whnf)
    ((repeat ((first | (refine VQ.cons ?_) | (refine VQ.nil ?_) | (refine VG.cons ?_) | (refine VRead.fld ?_)); (conv => whnf))))
    refine VUnit.storeB hb52 rfl rfl rfl ?_
    intro Y3 hb53 hg3'
    replace hE := hE.keepG hb52 hg3' (by decide) (hE.notBlk hb52 (by decide))
    replace hb3 := hb3.only hg3' (by omega)
    replace hb6 := hb6.only hg3' (by omega)
    have hB9 : Below W.heap.size W Y3 := only_new hB8 hg3' (by omega) hB8.size
    have hw3 : Blk Y3 g5 105 (wlC d acc.wl) := by
      have e1 : acc.wl = ⟨acc.n, acc.k.base, acc.k.base + n⟩ := by unfold Scn.wl; rw [hkl]
      rw [e1]; exact hb53
    clear hb5 hb52 hb53 hg2 hg3' hB7 hB8 hE7 hB' hd
    (conv => whnf)
    refine Keep.mk hb6 ?_
    have hd := h.below hB9
    have hU := h.lt
    have n3 : ¬ U g3 := fun hu => by have := hU g3 hu; omega
    have n5 : ¬ U g5 := fun hu => by have := hU g5 hu; omega
    have n6 : ¬ U g6 := fun hu => by have := hU g6 hu; omega
    replace hE : ERow Y3 (NotU U) W.heap.size (.slice A n c) acc.k.es := hE.more (Nat.le_refl _) (fun j _ hj hu => by have : W.heap.size ≤ j := hj; have := hU j hu; omega)
    have st := Step.new (U := U) hB9
    have hwlok := hok.wl
    have hwn : acc.wl.n = (acc.n : Int) := rfl
    obtain ⟨R, hR⟩ : ∃ R, S.wnext acc = R := ⟨_, rfl⟩
    rw [hR]
    (conv => whnf)
    (iterate 6 ((first | (refine VL.cons ?_) | (refine VL.nil ?_) | (refine VC.seqS rfl ?_) | (refine VC.region ?_) | (refine VQ.nil ?_) | (refine VG.nil ?_)); (conv => whnf)))
    have hRc := wnext_calls S acc
    rw [hR] at hRc
    refine VC.cut [18] [(18, 18), (80, 90)] (fun vs X => vs = [.int .i64 R.1.1] ∧ ∃ U', Dsk X U' d R.1.2 ∧ Blk X g5 105 (wlC d R.2) ∧ ¬ U' g5 ∧ Step Y3 (addF U g5) X (addF U' g5)) (by kernel_rfl) ?_ ?_
    · cases hwh : acc.whole with
      | true =>
        have e1 : S.wnext acc = (S.sync (wName acc.n), acc.wl) := by unfold DS.wnext; rw [if_pos hwh]
        rw [e1] at hR
        subst hR
        ((conv => whnf); (repeat ((first | (refine VL.cons ?_) | (refine VL.nil ?_) | (refine VC.seqS rfl ?_) | (refine VC.region ?_) | (refine VC.cond ?_)); (conv => whnf))))
        (repeat (first | ((first | (refine VL.cons ?_) | (refine VC.region ?_) | (refine VBool.t ?_) | (refine VRead.fld ?_)); (conv => whnf)) | (refine VBool.yes hwh ?_; (conv => whnf)) | (refine VRead.loadB hw3 rfl rfl ?_; (conv => whnf))))
        refine VCall.of (walName_any (acc.n : Int) Y3 (by omega)) ?_
        rintro e Z1 ⟨rfl, hZ1⟩
        refine ⟨_, rfl, ?_⟩
        ((conv => whnf); (repeat ((first | (refine VL.cons ?_)); (conv => whnf))))
        ((repeat ((fail); (conv => whnf))))
        refine VCall.of (oSync Z1 U d S (wName acc.n) (hd.below hZ1) (by omega) (by have := wName_le (acc.n : Int); omega)) ?_
        rintro e Z2 ⟨rfl, U2, hd2, st2⟩
        refine ⟨_, rfl, ?_⟩
        obtain ⟨hw4, n52⟩ := ((Step.new (U := U) hZ1).trans st2).blk hw3 n5
        ((conv => whnf); (repeat ((first | (refine VL.cons ?_) | (refine VL.nil ?_)); (conv => whnf))))
        ((repeat ((fail); (conv => whnf))))
        exact ⟨rfl, U2, hd2, hw4, n52, ((Step.new (U := U) hZ1).trans st2).add g5⟩
      | false =>
        have e1 : S.wnext acc = S.wanew acc.wl acc.k := by unfold DS.wnext; rw [if_neg (by rw [hwh]; simp)]
        rw [e1] at hR
        subst hR
        ((conv => whnf); (repeat ((first | (refine VL.cons ?_) | (refine VL.nil ?_) | (refine VC.seqS rfl ?_) | (refine VC.region ?_) | (refine VC.cond ?_)); (conv => whnf))))
        (repeat (first | ((first | (refine VL.cons ?_) | (refine VC.region ?_) | (refine VBool.f ?_)); (conv => whnf)) | (refine VBool.no hwh ?_; (conv => whnf)) | (refine VRead.loadAB1 hb6 rfl rfl ?_; (conv => whnf))))
        refine VCall.of (walAnew_any Y3 U g5 d S acc.wl acc.k A n c hd hw3 n5 hwlok (hE.at_.1.more (fun j hj _ => hj)) (by omega) (by omega) (by omega)) ?_
        rintro e Z2 ⟨rfl, U2, hd2, hw4, n52, st2⟩
        refine ⟨_, rfl, ?_⟩
        ((conv => whnf); (repeat ((first | (refine VL.cons ?_) | (refine VL.nil ?_)); (conv => whnf))))
        ((repeat ((fail); (conv => whnf))))
        exact ⟨rfl, U2, hd2, hw4, n52, st2⟩
    rintro τ3 vs X2 ⟨rfl, U2, hd2, hw4, n52, st2⟩
    obtain ⟨hRc1, hRn⟩ := hRc
    refine VC.cut [18] [(18, 18), (91, 94)] (fun vs X => vs = [.int .i64 (DS.wend R).1] ∧ ∃ U', Dsk X U' d (DS.wend R).2 ∧ Blk X g5 105 (wlC d R.2) ∧ ¬ U' g5 ∧ Step Y3 (addF U g5) X (addF U' g5)) (by kernel_rfl) ?_ ?_
    · by_cases cr : R.1.1 = 0
      case neg =>
        have e1 : DS.wend R = R.1 := by unfold DS.wend; rw [andT_no cr]
        rw [e1]
        ((conv => whnf); (repeat ((first | (refine VL.cons ?_) | (refine VL.nil ?_) | (refine VC.seqS rfl ?_) | (refine VC.region ?_) | (refine VC.cond ?_)); (conv => whnf))))
        (repeat (first | ((first | (refine VC.skip ?_) | (refine VBool.dF (by omega) ?_)); (conv => whnf)) | (refine VBool.dF cr ?_; (conv => whnf))))
        exact ⟨rfl, U2, hd2, hw4, n52, st2⟩
      have e1 : DS.wend R = R.1.2.clear wPre (wName R.2.n) R.1.2.keys := by unfold DS.wend; rw [andT_ok cr]
      rw [e1]
      ((conv => whnf); (repeat ((first | (refine VL.cons ?_) | (refine VL.nil ?_) | (refine VC.seqS rfl ?_) | (refine VC.region ?_) | (refine VC.cond ?_)); (conv => whnf))))
      (repeat (first | ((first | (refine VL.cons ?_) | (refine VC.region ?_) | (refine VBool.dT (by omega) ?_)); (conv => whnf)) | (refine VBool.dT cr ?_; (conv => whnf))))
      refine VCall.of (walClears_any X2 U2 g5 d R.1.2 R.2 hd2 hw4 n52 (by omega) (by omega)) ?_
      rintro e X3 ⟨rfl, U3, hd3, st3⟩
      refine ⟨_, rfl, ?_⟩
      obtain ⟨hw5, n53⟩ := st3.blk hw4 n52
      ((conv => whnf); (repeat ((first | (refine VL.cons ?_) | (refine VL.nil ?_)); (conv => whnf))))
      ((repeat ((fail); (conv => whnf))))
      exact ⟨rfl, U3, hd3, hw5, n53, st2.trans (st3.add g5)⟩
    clear hd2 hw4 n52 st2
    rintro τ4 vs X3 ⟨rfl, U3, hd3, hw5, n53, st3⟩
    obtain ⟨E, hEe⟩ : ∃ E, DS.wend R = E := ⟨_, rfl⟩
    rw [hEe] at hd3 ⊢
    obtain ⟨hb33, n33⟩ := st3.blk hb3 (fun h => by
      rcases h with h | h
      · exact n3 h
      · omega)
    obtain ⟨hb63, n63⟩ := st3.blk hb6 (fun h => by
      rcases h with h | h
      · exact n6 h
      · omega)
    have hE3 := ((hE.addU hw3 (by decide) (by decide)).step st3).unU
    have stW := Step.past hB9 st3 (by omega)
    have hg3n : ¬ U3 g3 := fun hu => n33 (.inl hu)
    have hg6n : ¬ U3 g6 := fun hu => n63 (.inl hu)
    clear hb3 hb6 hE hw3 st3 st hd
    by_cases cE : E.1 = 0
    case neg =>
      rw [if_neg cE]
      ((conv => whnf); (repeat ((fail); (conv => whnf))))
      (repeat (first | ((first | (refine VL.cons ?_) | (refine VL.nil ?_) | (refine VC.seqS rfl ?_) | (refine VC.region ?_) | (refine VC.cond ?_) | (refine VBool.nF (by omega) ?_) | (refine VC.seq ?_)); (conv => whnf)) | (refine VBool.nF cE ?_; (conv => whnf))))
      refine VRead.ofW (v := .agg (kC Kp.zero none 0 0)) (fun _ => by kernel_rfl) ?_
      ((conv => whnf); (repeat ((first | (refine VL.cons ?_)); (conv => whnf))))
      ((repeat ((fail); (conv => whnf))))
      refine VUnit.storeAB hb33 rfl rfl rfl (by simp [kC, Kp.zero, Value.oneCell']) ?_
      intro X4 hb34 hg4
      rw [setFrom_allW rfl] at hb34
      ((conv => whnf); (repeat ((first | (refine VL.cons ?_) | (refine VL.nil ?_) | (refine VC.ret ?_)); (conv => whnf))))
      ((repeat ((fail); (conv => whnf))))
      refine VRes.op3 rfl hb34 rfl ?_
      exact ⟨U3, hd3.cell hg4 hg3n, stW.pastG hg4 (by omega), rfl⟩
    rw [if_pos cE]
    ((conv => whnf); (repeat ((fail); (conv => whnf))))
    (repeat (first | ((first | (refine VL.cons ?_) | (refine VL.nil ?_) | (refine VC.seqS rfl ?_) | (refine VC.region ?_) | (refine VC.draw ?_) | (refine VC.cond ?_) | (refine VC.skip ?_) | (refine VBool.nT (by omega) ?_) | (refine VC.seq ?_)); (conv => whnf)) | (refine VBool.nT cE ?_; (conv => whnf))))
    have hE4 : Below X3.heap.size X3 (X3.drewN 1) := below_drewN (Below.refl _ _) 1
    replace hb33 := hb33.later hE4
    replace hb63 := hb63.later hE4
    replace hw5 := hw5.later hE4
    replace hE3 := hE3.below hE4
    replace hd3 := hd3.below hE4
    replace stW := stW.trans (Step.new (U := U3) hE4)
    refine VDraw.seg (fun Z => Blk Z g6 63 (kC acc.k A n c)) [([0, 1, 2], 3)] [4] (by kernel_rfl) (by kernel_rfl) hb63 ?_
    generalize X3.drewN 1 = X5 at *
    (conv => whnf)
    (repeat ((first | (refine VRead.loadAB (fun Z hZ => hZ) rfl rfl ?_) | (refine VQ.cons ?_) | (refine VQ.nil ?_) | (refine VG.cons ?_)); (conv => whnf)))
    refine VUnit.storeAB hb33 rfl rfl rfl (by simp [kC, Value.oneCell']) ?_
    intro X6 hb36 hg6'
    rw [setFrom_allW (vs := kC acc.k A n c) (by rfl)] at hb36
    replace hE3 := hE3.keepG hb33 hg6' (by decide) (hE3.notBlk hb33 (by decide))
    replace hb63 := hb63.only hg6' (by omega)
    replace hw5 := hw5.only hg6' (by omega)
    (conv => whnf)
    refine Keep.mk hb63 ?_
    ((conv => whnf); (repeat ((first | (refine VC.ret ?_) | (refine VQ.cons ?_) | (refine VQ.nil ?_) | (refine VG.nil ?_)); (conv => whnf))))
    ((repeat ((fail); (conv => whnf))))
    refine VRes.op3 rfl hb36 rfl ?_
    exact ⟨U3, hd3.cell hg6' hg3n, stW.pastG hg6' (by omega), g5, A, n, c, rfl, hw5, n53, by omega, hE3⟩
  obtain ⟨p, hp⟩ : ∃ p, S.t[j]? = some p := ⟨_, List.getElem?_eq_getElem hjn⟩
  have hpm := List.mem_of_getElem? hp
  have hpn := (h.wf.t.names p hpm).2
  have htk : (S.t.take (j + 1)).foldl woStep ⟨false, 0, Kp.zero, false⟩ = woStep acc p := by rw [take_snoc hp, List.foldl_append, hacc]; rfl
  have hpu := len_used hpm
  obtain ⟨ad, u, rfl, _, hu, hcell⟩ := (Reads.row hO).at_ hjn
  obtain ⟨x', hx', rfl⟩ := map_at hu
  rw [List.getElem?_map, hp] at hx'
  obtain rfl := Option.some.inj hx'
  have hcell' : X.cell? (ad.add j) = some (.string (txt p.1)) := hcell
  ((conv => whnf); (repeat ((first | (refine VL.cons ?_) | (refine VL.nil ?_) | (refine VC.seqS rfl ?_) | (refine VC.region ?_)); (conv => whnf))))
  (repeat (first | ((first | (refine VL.cons ?_) | (refine VL.nil ?_) | (refine VC.seqS rfl ?_) | (refine VC.region ?_) | (refine VC.cond ?_) | (refine VC.block ?_) | (refine VC.skip ?_) | (refine VBool.dT (by omega) ?_) | (refine VRead.load1 (by assumption) ?_) | (refine VRead.at1 (by omega) ?_) | (refine VC.seq ?_)); (conv => whnf)) | (refine VRead.at1 hjn ?_; (conv => whnf))))
  refine VCall.of (walNumber_any p.1 X (by omega)) ?_
  rintro e X2 ⟨rfl, hB2⟩
  refine ⟨_, rfl, ?_⟩
  have hB02 := hB.trans (hB2.mono hB.size)
  replace hb3 := hb3.later hB2
  replace hb5 := hb5.later hB2
  replace hb6 := hb6.later hB2
  replace hE := hE.below hB2
  replace hO := rows_below hO hB2 (Nat.le_refl _)
  cases hN : wNum p.1 with
  | none =>
    have e1 : woStep acc p = acc := by unfold woStep; rw [hN]
    ((conv => whnf); (repeat ((first | (refine VL.cons ?_) | (refine VL.nil ?_)); (conv => whnf))))
    ((repeat ((first | (refine VL.cons ?_) | (refine VL.nil ?_) | (refine VC.seqS rfl ?_) | (refine VC.region ?_) | (refine VC.cond ?_) | (refine VC.exit ?_) | (refine VBool.t ?_) | (refine VWrap.i64 (by omega) (by omega) ?_) | (refine VC.seq ?_)); (conv => whnf))))
    exact ⟨_, by omega, j + 1, acc, A, n, c, rfl, rfl, by omega, by rw [htk, e1], hok, hb3, hb5, hb6, hE, hO, hB02⟩
  | some nn =>
    obtain ⟨_, hk1, hk2⟩ := wNum_some hN
    have hd2 := h.below hB02
    ((conv => whnf); (repeat ((first | (refine VL.cons ?_) | (refine VL.nil ?_)); (conv => whnf))))
    ((repeat ((first | (refine VL.cons ?_) | (refine VL.nil ?_) | (refine VC.seqS rfl ?_) | (refine VC.region ?_) | (refine VC.cond ?_) | (refine VC.skip ?_) | (refine VBool.f ?_) | (refine VC.seq ?_)); (conv => whnf))))
    refine VCall.of (oRead X2 U d S p.1 hd2 (by omega)) ?_
    rintro e X3 ⟨u3, rfl, hrd, hB3⟩
    refine ⟨_, rfl, ?_⟩
    unfold readR at hrd
    rw [tfind_of hris.nd (show (p.1, p.2) ∈ S.t from hpm)] at hrd
    obtain ⟨A3, k3, rfl, hO3⟩ := hrd
    ((conv => whnf); (repeat ((first | (refine VL.cons ?_) | (refine VL.nil ?_) | (refine VC.seqS rfl ?_) | (refine VC.region ?_)); (conv => whnf))))
    ((repeat ((fail); (conv => whnf))))
    refine VCall.of (walRead_any A3 p.2.b.length k3 p.2.b X3 (by omega) hO3.cap hO3.reads) ?_
    rintro e X4 ⟨⟨v4, rfl, hV4⟩, hB4⟩
    refine ⟨_, rfl, ?_⟩
    have hB24 : Below X2.heap.size X2 X4 := hB3.trans (hB4.mono hB3.size)
    have hB04 := hB02.trans (hB24.mono hB02.size)
    have u24 := hB24.size
    have u02 := hB02.size
    have hX3 : W.heap.size ≤ X3.heap.size := Nat.le_trans hB02.size hB3.size
    have u23 := hB3.size
    have g5l := hb5.lt
    have g6l := hb6.lt
    replace hb3 := hb3.later hB24
    replace hb5 := hb5.later hB24
    replace hb6 := hb6.later hB24
    replace hE := hE.below hB24
    replace hO := rows_below hO hB24 (Nat.le_refl _)
    cases hs : readW p.2.b with
    | none =>
      have e1 : woStep acc p = { acc with some_ := true } := by unfold woStep; rw [hN]; simp only; rw [hs]
      rw [hs] at hV4
      have hv4 : v4 = .tuple #[.agg (kC Kp.zero none 0 0), .bool false, .bool false] := hV4
      subst hv4
      ((conv => whnf); (repeat ((first | (refine VL.cons ?_)); (conv => whnf))))
      ((repeat ((fail); (conv => whnf))))
      refine VSem.allocZ (z := .agg (kC Kp.zero none 0 0)) (by kernel_rfl) ?_
      intro X5 q hq hqe hql hB5
      ((conv => whnf); (repeat ((first | (refine VL.cons ?_)); (conv => whnf))))
      ((repeat ((fail); (conv => whnf))))
      refine VUnit.storeAB hq rfl rfl rfl (by simp [kC, Kp.zero, Value.oneCell']) ?_
      intro X6 hq6 hg6
      have hB46 : Below X4.heap.size X4 X6 := only_new hB5 hg6 (by omega) (by omega)
      have hB06 := hB04.trans (hB46.mono hB04.size)
      ((conv => whnf); (repeat ((first | (refine VL.cons ?_) | (refine VL.nil ?_) | (refine VC.seqS rfl ?_) | (refine VC.region ?_) | (refine VC.cond ?_)); (conv => whnf))))
      ((repeat ((first | (refine VL.cons ?_) | (refine VL.nil ?_) | (refine VC.region ?_) | (refine VC.skip ?_) | (refine VBool.f ?_) | (refine VWrap.i64 (by omega) (by omega) ?_)); (conv => whnf))))
      exact ⟨_, by omega, j + 1, { acc with some_ := true }, A, n, c, rfl, rfl, by omega, by rw [htk, e1], ⟨hok.n, hok.b, hok.l⟩, hb3.later hB46, hb5.later hB46, hb6.later hB46, hE.below hB46, rows_below hO hB46 (Nat.le_refl _), hB06⟩
    | some kp =>
      rw [hs] at hV4
      obtain ⟨A5, n5, c5, rfl, hE5⟩ := hV4
      obtain ⟨hbk, hlk⟩ := readW_ok hs
      have e1 : woStep acc p = ⟨true, nn, kp, isWhole p.2.b⟩ := by unfold woStep; rw [hN]; simp only; rw [hs]
      ((conv => whnf); (repeat ((first | (refine VL.cons ?_)); (conv => whnf))))
      ((repeat ((fail); (conv => whnf))))
      refine VSem.allocZ (z := .agg (kC Kp.zero none 0 0)) (by kernel_rfl) ?_
      intro X5 q hq hqe hql hB5
      ((conv => whnf); (repeat ((first | (refine VL.cons ?_)); (conv => whnf))))
      ((repeat ((fail); (conv => whnf))))
      refine VUnit.storeAB hq rfl rfl rfl (by simp [kC, Value.oneCell']) ?_
      intro X6 hq6 hg6
      rw [setFrom_allW (vs := kC kp A5 n5 c5) (by rfl)] at hq6
      replace hq6 : Blk X6 q 63 (kC kp A5 n5 c5) := hq6
      have hB46 : Below X4.heap.size X4 X6 := only_new hB5 hg6 (by omega) (by omega)
      have hB06 := hB04.trans (hB46.mono hB04.size)
      have hb5l := hb5.lt
      have hb6l := hb6.lt
      have hb3l := hb3.lt
      replace hb3 := hb3.later hB46
      replace hb5 := hb5.later hB46
      replace hb6 := hb6.later hB46
      replace hO := rows_below hO hB46 (Nat.le_refl _)
      replace hE5 := hE5.below hB46
      have hE7 : Below X6.heap.size X6 (X6.drewN 1) := below_drewN (Below.refl _ _) 1
      replace hb3 := hb3.later hE7
      replace hb5 := hb5.later hE7
      replace hb6 := hb6.later hE7
      replace hq6 := hq6.later hE7
      replace hO := rows_below hO hE7 (Nat.le_refl _)
      replace hE5 := hE5.below hE7
      have hB07 := hB06.trans (hE7.mono hB06.size)
      ((conv => whnf); (repeat ((first | (refine VL.cons ?_) | (refine VL.nil ?_) | (refine VC.seqS rfl ?_) | (refine VC.region ?_) | (refine VC.cond ?_)); (conv => whnf))))
      ((repeat ((first | (refine VC.draw ?_) | (refine VBool.t ?_)); (conv => whnf))))
      refine VDraw.seg (fun Y => Blk Y q 63 (kC kp A5 n5 c5)) [([0, 1, 2, 3, 4, 5], 6), ([], 7)] [8] (by kernel_rfl) (by kernel_rfl) hq6 ?_
      generalize X6.drewN 1 = X7 at *
      (conv => whnf)
      (repeat ((first | (refine VRead.loadAB (fun Y hY => hY) rfl rfl ?_) | (refine VQ.cons ?_) | (refine VQ.nil ?_) | (refine VG.cons ?_) | (refine VRead.fld ?_)); (conv => whnf)))
      refine VUnit.storeB hb5 rfl rfl rfl ?_
      intro X8 hb58 hg8
      replace hb58 : Blk X8 g5 105 (wlC d ⟨nn, 0, 0⟩) := hb58
      replace hO := rows_apart hO hg8 (fun q' e hq' => by have h1 := (World.ownsRow.lt hO q' hq').1; have h2 : g5 = q' := by { injection e }; omega)
      replace hE5 := hE5.keepG hb5 hg8 (by decide) (fun e => by have := (hE5.lt e).2; omega)
      replace hb3 := hb3.only hg8 (by omega)
      replace hb6 := hb6.only hg8 (by omega)
      replace hq6 := hq6.only hg8 (by omega)
      have hB08 : Below W.heap.size W X8 := only_new hB07 hg8 (by omega) hB07.size
      (conv => whnf)
      refine Keep.mk hq6 ?_
      (conv => whnf)
      ((repeat ((first | (refine VQ.nil ?_) | (refine VG.cons ?_)); (conv => whnf))))
      refine VUnit.storeAB hb6 rfl rfl rfl (by simp [kC, Value.oneCell']) ?_
      intro X9 hb69 hg9
      rw [setFrom_allW (vs := kC kp A5 n5 c5) (by rfl)] at hb69
      replace hO := rows_apart hO hg9 (fun q' e hq' => by have h1 := (World.ownsRow.lt hO q' hq').1; have h2 : g6 = q' := by { injection e }; omega)
      replace hE5 := hE5.keepG hb6 hg9 (by decide) (fun e => by have := (hE5.lt e).2; omega)
      replace hb3 := hb3.only hg9 (by omega)
      replace hb58 := hb58.only hg9 (by omega)
      replace hq6 := hq6.only hg9 (by omega)
      have hB09 : Below W.heap.size W X9 := only_new hB08 hg9 (by omega) hB08.size
      (conv => whnf)
      refine Keep.mk hq6 ?_
      (conv => whnf)
      ((repeat ((first | (refine VL.cons ?_) | (refine VL.nil ?_) | (refine VC.region ?_) | (refine VQ.cons ?_) | (refine VQ.nil ?_) | (refine VG.nil ?_) | (refine VWrap.i64 (by omega) (by omega) ?_)); (conv => whnf))))
      exact ⟨_, by omega, j + 1, ⟨true, nn, kp, isWhole p.2.b⟩, A5, n5, c5, rfl, rfl, by omega, by rw [htk, e1], ⟨by omega, hbk, by simp only; omega⟩, hb3, hb58, hb69, hE5.more (by omega) (fun j _ hj => by have : X3.heap.size ≤ j := hj; show W.heap.size ≤ j; omega), hO, hB09⟩
end Go.Proofs.Ytebeidnmplnlpaa
end

section
set_option maxRecDepth 10000
namespace Go.Proofs.Ytebeidnmplnlpaa
set_option linter.unusedVariables false
open Go.RowKit

abbrev Sn := Nat × Int × List UInt8
def SnV (W : World) (B : Nat) (o : Option Sn) (i t : Int) (v : Value) : Prop := match o with
  | some y => i = (y.1 : Int) ∧ 1 ≤ y.1 ∧ y.1 ≤ 1099511627776 ∧ t = y.2.1 ∧ ∃ A c, v = .slice A y.2.2.length c ∧ Own W B (.slice A y.2.2.length c) y.2.2.length y.2.2
  | none => i = 0 ∧ t = 0 ∧ v = .slice none 0 0
theorem SnV.below {W W' : World} {B : Nat} {o : Option Sn} {i t : Int} {v : Value} (h : SnV W B o i t v) (hb : Below W.heap.size W W') : SnV W' B o i t v := by
  unfold SnV at *
  cases o with
  | none => exact h
  | some y =>
    obtain ⟨h1, h2, h3, h4, A, c, h5, h6⟩ := h
    exact ⟨h1, h2, h3, h4, A, c, h5, rows_below h6 hb (Nat.le_refl _)⟩
end Go.Proofs.Ytebeidnmplnlpaa
end

section
set_option maxRecDepth 10000
namespace Go.Proofs.Ytebeidnmplnlpaa
set_option linter.unusedVariables false
open Go.RowKit

/-! ### what is in a file -/
def fullF (b : List UInt8) : Fl := ⟨b, b.length⟩
theorem chunks_ind {P : List UInt8 → Prop} (h0 : P []) (h1 : ∀ l, l ≠ [] → P (l.drop 1000) → P l) : ∀ (n : Nat) (l : List UInt8), l.length ≤ n → P l
  | 0, l, h => by
    obtain rfl : l = [] := List.eq_nil_of_length_eq_zero (by omega)
    exact h0
  | n + 1, l, h => by
    by_cases hl : l = []
    · subst hl; exact h0
    · have : 0 < l.length := List.length_pos_iff.2 hl
      exact h1 l hl (chunks_ind h0 h1 n _ (by rw [List.length_drop]; omega))
theorem chunks_ok (l : List UInt8) : Frame.Ok1 (chunks l) :=
  chunks_ind (P := fun l => Frame.Ok1 (chunks l)) (fun b hb => by simp [chunks_nil] at hb) (fun l hl ih b hb => by
    have : 0 < l.length := List.length_pos_iff.2 hl
    rw [chunks_cons hl] at hb
    rcases List.mem_cons.1 hb with rfl | hb
    · rw [List.length_take]; omega
    · exact ih b hb) l.length l (Nat.le_refl _)
theorem intS_put' {v : Int} (h : -9223372036854775808 ≤ v ∧ v ≤ 9223372036854775807) (t : List UInt8) : Wire.intS (some (Wire.int v ++ t)) = (v, some t) := by
  unfold Wire.intS
  simp only
  rw [Wire.getInt_int h]
theorem hd_read {i t : Int} {n : Nat} (hi : -9223372036854775808 ≤ i ∧ i ≤ 9223372036854775807) (ht : -9223372036854775808 ≤ t ∧ t ≤ 9223372036854775807) (hn : n ≤ 9223372036854775807) :
    hA (hdB i t n) = i ∧ hT (hdB i t n) = t ∧ hN (hdB i t n) = (n : Int) ∧ hE (hdB i t n) = true := by
  have e0 : hdB i t n = Wire.int i ++ (Wire.int t ++ (Wire.int (n : Int) ++ [])) := by unfold hdB; simp
  have e1 : Wire.intS (some (hdB i t n)) = (i, some (Wire.int t ++ (Wire.int (n : Int) ++ []))) := by rw [e0]; exact intS_put' hi _
  have e2 : Wire.intS (some (Wire.int t ++ (Wire.int (n : Int) ++ []))) = (t, some (Wire.int (n : Int) ++ [])) := intS_put' ht _
  have e3 : Wire.intS (some (Wire.int (n : Int) ++ [])) = ((n : Int), some []) := intS_put' (by omega) _
  refine ⟨?_, ?_, ?_, ?_⟩
  · unfold hA; rw [e1]
  · unfold hT; rw [e1]; simp only; rw [e2]
  · unfold hN; rw [e1]; simp only; rw [e2]; simp only; rw [e3]
  · unfold hE; rw [e1]; simp only; rw [e2]; simp only; rw [e3]; rfl
theorem hd_len (i t : Int) (n : Nat) : 3 ≤ (hdB i t n).length ∧ (hdB i t n).length ≤ 30 := by
  have a1 := Wire.int_len i
  have a2 := Wire.int_len t
  have a3 := Wire.int_len (n : Int)
  unfold hdB
  simp only [List.length_append]
  omega
structure SvOk (i t : Int) (data : List UInt8) : Prop where
  i1 : 1 ≤ i
  i2 : i ≤ 1099511627776
  t1 : 1 ≤ t
  t2 : t ≤ 1099511627776
  n1 : 1 ≤ data.length
  n2 : data.length ≤ 1048576
theorem SvOk.hd {i t : Int} {data : List UInt8} (h : SvOk i t data) : HdOk (hdB i t data.length) i := by
  obtain ⟨h1, h2, h3, h4, h5, h6⟩ := h
  obtain ⟨e1, e2, e3, e4⟩ := hd_read (i := i) (t := t) (n := data.length) (by omega) (by omega) (by omega)
  exact ⟨e4, e1, by rw [e2]; exact h3, by rw [e2]; exact h4, by rw [e3]; omega, by rw [e3]; omega⟩
theorem SvOk.bs {i t : Int} {data : List UInt8} (h : SvOk i t data) : Frame.Ok1 (hdB i t data.length :: chunks data) := fun b hb => by
  rcases List.mem_cons.1 hb with rfl | hb
  · have := hd_len i t data.length; omega
  · exact chunks_ok data b hb
/-! ### tables of few files -/
section
variable {T : PT} {s : List UInt8} {f g : Fl}
theorem tset_cons (j : List UInt8) (y : Fl) (r : PT) (i : List UInt8) (x : Fl) : tset ((j, y) :: r) i x = if i < j then (i, x) :: (j, y) :: r else if j = i then (i, x) :: r else (j, y) :: tset r i x := rfl
theorem tset_nil (i : List UInt8) (x : Fl) : tset ([] : PT) i x = [(i, x)] := rfl
theorem tset_tset : ∀ {T : PT}, tset (tset T s f) s g = tset T s g
  | [] => by rw [tset_nil, tset_cons, if_neg (List.lt_irrefl _), if_pos rfl, tset_nil]
  | (j, y) :: T => by
    rw [tset_cons, tset_cons]
    by_cases h1 : s < j
    · rw [if_pos h1, if_pos h1, tset_cons, if_neg (List.lt_irrefl _), if_pos rfl]
    · rw [if_neg h1, if_neg h1]
      by_cases h2 : j = s
      · rw [if_pos h2, if_pos h2, tset_cons, if_neg (List.lt_irrefl _), if_pos rfl]
      · rw [if_neg h2, if_neg h2, tset_cons, if_neg h1, if_neg h2, tset_tset]
theorem tset_last (hT : ∀ p ∈ T, p.1 < s) : tset T s f = T ++ [(s, f)] := by
  induction T with
  | nil => rfl
  | cons q T ih =>
    obtain ⟨j, y⟩ := q
    have hq : j < s := hT (j, y) (by simp)
    rw [tset_cons, if_neg (fun h => List.lt_irrefl _ (List.lt_trans hq h)), if_neg (fun e => by subst e; exact List.lt_irrefl _ hq), ih (fun p hp => hT p (List.mem_cons_of_mem _ hp))]
    rfl
theorem tfind_last (hT : ∀ p ∈ T, p.1 < s) : tfind (T ++ [(s, f)]) s = some f := by
  induction T with
  | nil => simp [tfind]
  | cons q T ih =>
    obtain ⟨j, y⟩ := q
    have hq : j < s := hT (j, y) (by simp)
    rw [List.cons_append]
    unfold tfind
    rw [if_neg (fun e => by subst e; exact List.lt_irrefl _ hq)]
    exact ih (fun p hp => hT p (List.mem_cons_of_mem _ hp))
theorem tdel_low (hT : ∀ p ∈ T, p.1 < s) : tdel T s = T := tdel_not (fun h => by
  obtain ⟨p, hp, rfl⟩ := List.mem_map.1 h
  exact List.lt_irrefl _ (hT p hp))
theorem tdel_last (hT : ∀ p ∈ T, p.1 < s) : tdel (T ++ [(s, f)]) s = T := by
  unfold tdel
  rw [List.filter_append]
  have h1 := tdel_low hT
  unfold tdel at h1
  rw [h1]
  simp
theorem tset_lastA (hT : ∀ p ∈ T, p.1 < s) : tset (T ++ [(s, f)]) s g = T ++ [(s, g)] := by rw [← tset_last (f := f) hT, tset_tset, tset_last hT]
end
end Go.Proofs.Ytebeidnmplnlpaa
end

section
set_option maxRecDepth 10000
namespace Go.Proofs.Ytebeidnmplnlpaa
set_option linter.unusedVariables false
open Go.RowKit

section
variable {S : DS} {s u b : List UInt8} {f : Fl}
theorem create_or (hs : nameOk s) (hf : S.t.length < 64) : ((S.create s).1 = 0 ∧ (S.create s).2.t = tset S.t s ⟨[], 0⟩) ∨ ((S.create s).1 ≠ 0 ∧ (S.create s).2.t = S.t) := by
  unfold DS.create
  split
  · rename_i h; exact .inr ⟨h, rfl⟩
  · try rw [if_neg (not_not_intro hs)]
    rw [if_neg (by omega)]; exact .inl ⟨rfl, rfl⟩
theorem append_or (hs : nameOk s) (hf : tfind S.t s = some f) (hsame : tset S.t s f = S.t) : ∃ f', (S.append s b).2.t = tset S.t s f' ∧ f'.sure = f.sure ∧ ((S.append s b).1 = 0 → f'.b = f.b ++ b) := by
  have hp : ∀ (K : Dk) (x : List UInt8), ∃ f', (DS.put ⟨K, S.t⟩ s f x).2.t = tset S.t s f' ∧ f'.sure = f.sure ∧ ((DS.put ⟨K, S.t⟩ s f x).1 = 0 → f'.b = f.b ++ x) := fun K x => by
    unfold DS.put
    split
    · exact ⟨f, hsame.symm, rfl, fun h => by cases h⟩
    · exact ⟨_, rfl, rfl, fun _ => rfl⟩
  unfold DS.append
  split
  · rename_i h
    split
    · rw [hf]
      obtain ⟨f', h1, h2, _⟩ := hp S.k.call.2 (b.take (b.length / 2))
      exact ⟨f', h1, h2, fun e => absurd e h⟩
    · exact ⟨f, hsame.symm, rfl, fun e => absurd e h⟩
  · try rw [if_neg (not_not_intro hs)]
    rw [hf]
    exact hp S.k.call.2 b
theorem sync_or (hs : nameOk s) (hf : tfind S.t s = some f) : ((S.sync s).1 = 0 ∧ (S.sync s).2.t = tset S.t s ⟨f.b, f.b.length⟩) ∨ ((S.sync s).1 ≠ 0 ∧ (S.sync s).2.t = S.t) := by
  unfold DS.sync
  split
  · rename_i h; exact .inr ⟨h, rfl⟩
  · try rw [if_neg (not_not_intro hs)]
    rw [hf]; exact .inl ⟨rfl, rfl⟩
theorem rename_or (hs : nameOk s) (hu : nameOk u) (hf : tfind S.t s = some f) : ((S.rename s u).1 = 0 ∧ (S.rename s u).2.t = tset (tdel S.t s) u f) ∨ ((S.rename s u).1 ≠ 0 ∧ (S.rename s u).2.t = S.t) := by
  unfold DS.rename
  split
  · rename_i h; exact .inr ⟨h, rfl⟩
  · try rw [if_neg (not_not_intro ⟨hs, hu⟩)]
    rw [hf]; exact .inl ⟨rfl, rfl⟩
theorem remove_or (hs : nameOk s) (hf : tfind S.t s = some f) : ((S.remove s).1 = 0 ∧ (S.remove s).2.t = tdel S.t s) ∨ ((S.remove s).1 ≠ 0 ∧ (S.remove s).2.t = S.t) := by
  unfold DS.remove
  split
  · rename_i h; exact .inr ⟨h, rfl⟩
  · try rw [if_neg (not_not_intro hs)]
    rw [hf]; exact .inl ⟨rfl, rfl⟩
end
theorem clear_cons (S : DS) (pre nm x : List UInt8) (r : List (List UInt8)) : S.clear pre nm (x :: r) = if isPre pre x = true ∧ x ≠ nm then andT (S.remove x) fun S' => DS.clear S' pre nm r else DS.clear S pre nm r := rfl
/-! ### a disk that nothing ails -/
theorem used_append (A B : PT) : used (A ++ B) = used A + used B := by
  induction A with
  | nil => simp [used]
  | cons p A ih => rw [List.cons_append, show used (p :: (A ++ B)) = p.2.b.length + used (A ++ B) from rfl, show used (p :: A) = p.2.b.length + used A from rfl, ih]; omega
end Go.Proofs.Ytebeidnmplnlpaa
end

section
set_option maxRecDepth 10000
namespace Go.Proofs.Ytebeidnmplnlpaa
set_option linter.unusedVariables false
open Go.RowKit

def entBs (i : Int) : List En → List (List UInt8)
  | [] => []
  | e :: r => entB i e :: entBs (i + 1) r
theorem written_laid (es : List En) (i : Int) : written i es = Frame.laid (entBs i es) := by
  induction es generalizing i with
  | nil => rfl
  | cons e es ih =>
    rw [written_cons, ih, show entBs i (e :: es) = entB i e :: entBs (i + 1) es from rfl, Frame.laid_cons]
theorem entBs_ok {es : List En} (h : ∀ e ∈ es, mayE e) (i : Int) : Frame.Ok1 (entBs i es) := by
  induction es generalizing i with
  | nil => intro b hb; simp [entBs] at hb
  | cons e es ih =>
    intro b hb
    unfold entBs at hb
    rcases List.mem_cons.1 hb with rfl | hb
    · have h1 := entB_len i e
      have h2 := (h e (by simp)).2.2
      omega
    · exact ih (fun x hx => h x (List.mem_cons_of_mem _ hx)) (i + 1) b hb
def inI (v : Int) : Prop := -9223372036854775808 ≤ v ∧ v ≤ 9223372036854775807
theorem boolS_put (t : Bool) (r : List UInt8) : Wire.boolS (some (Wire.bool t ++ r)) = (t, some r) := by
  cases t <;> simp [Wire.boolS, Wire.bool]
theorem takes_first {k : Kp} {a b : Int} (ha : inR a 1099511627776) (hb : inR b 1099511627776) : takes k (recB 0 [a, b]) true = some { k with base := a, bterm := b } := by
  obtain ⟨a1, a2⟩ := id ha
  obtain ⟨b1, b2⟩ := id hb
  have e0 : numB [a, b] = Wire.int a ++ (Wire.int b ++ []) := by simp [numB]
  have e1 : Wire.intS (some (numB [a, b])) = (a, some (Wire.int b ++ [])) := by rw [e0]; exact intS_put' ⟨by omega, by omega⟩ _
  have e2 : Wire.intS (some (Wire.int b ++ [])) = (b, some []) := intS_put' ⟨by omega, by omega⟩ _
  unfold takes recB
  simp only
  rw [if_pos (by decide), if_pos (by decide)]
  unfold tk0
  rw [e1]; simp only; rw [e2]; simp only
  rw [if_pos ⟨rfl, ha, hb⟩]
theorem takes_hard {k : Kp} {a b : Int} (ha : inR a 1099511627776) (hb : inR b 7) : takes k (recB 1 [a, b]) false = some { k with term := a, vote := b } := by
  obtain ⟨a1, a2⟩ := id ha
  obtain ⟨b1, b2⟩ := id hb
  have e0 : numB [a, b] = Wire.int a ++ (Wire.int b ++ []) := by simp [numB]
  have e1 : Wire.intS (some (numB [a, b])) = (a, some (Wire.int b ++ [])) := by rw [e0]; exact intS_put' ⟨by omega, by omega⟩ _
  have e2 : Wire.intS (some (Wire.int b ++ [])) = (b, some []) := intS_put' ⟨by omega, by omega⟩ _
  unfold takes recB
  simp only
  rw [if_pos (by decide), if_neg (by decide), if_pos (by decide)]
  unfold tk1
  rw [e1]; simp only; rw [e2]; simp only
  rw [if_pos ⟨rfl, ha, hb⟩]
theorem takes_ent {k : Kp} {i : Int} {e : En} (he : mayE e) (h1 : k.base < i) (h2 : i ≤ k.base + k.es.length + 1) (hi : inI i) : takes k (entB i e) false = some { k with es := k.es.take (i - k.base - 1).toNat ++ [e] } := by
  obtain ⟨t1, t2, t3⟩ := id he
  have e0 : entB i e = 2 :: (Wire.int i ++ (Wire.int e.term ++ (Wire.bool e.cmd ++ (Wire.text e.data ++ [])))) := by simp [entB, recB, numB]
  rw [e0]
  have i1 : eI (Wire.int i ++ (Wire.int e.term ++ (Wire.bool e.cmd ++ (Wire.text e.data ++ [])))) = (i, some (Wire.int e.term ++ (Wire.bool e.cmd ++ (Wire.text e.data ++ [])))) := intS_put' hi _
  have i2 : eT (Wire.int i ++ (Wire.int e.term ++ (Wire.bool e.cmd ++ (Wire.text e.data ++ [])))) = (e.term, some (Wire.bool e.cmd ++ (Wire.text e.data ++ []))) := by unfold eT; rw [i1]; exact intS_put' ⟨by omega, by omega⟩ _
  have i3 : eC (Wire.int i ++ (Wire.int e.term ++ (Wire.bool e.cmd ++ (Wire.text e.data ++ [])))) = (e.cmd, some (Wire.text e.data ++ [])) := by unfold eC; rw [i2]; exact boolS_put _ _
  have i4 : eD (Wire.int i ++ (Wire.int e.term ++ (Wire.bool e.cmd ++ (Wire.text e.data ++ [])))) = (e.data, some []) := by unfold eD; rw [i3]; exact Wire.textS_text _ _ (by omega) (by omega)
  have i5 : eE (Wire.int i ++ (Wire.int e.term ++ (Wire.bool e.cmd ++ (Wire.text e.data ++ [])))) = e := by unfold eE; rw [i2, i3, i4]
  generalize Wire.int i ++ (Wire.int e.term ++ (Wire.bool e.cmd ++ (Wire.text e.data ++ []))) = r at *
  unfold takes
  simp only
  rw [if_pos (by decide), if_neg (by decide), if_neg (by decide), if_pos (by decide)]
  unfold tk2
  rw [i4, i5, i1]
  simp only
  rw [if_pos ⟨rfl, he, h1, h2⟩]
theorem takesA_cons {st : Bool} {k k' : Kp} {b : List UInt8} {r : List (List UInt8)} (h : takes k b st = some k') : takesA st k (b :: r) = takesA false k' r := by
  show (match takes k b st with | some k' => takesA false k' r | none => none) = _
  rw [h]
/-- entries from an index on -/
theorem takesA_ents : ∀ {es : List En} {k : Kp} {m : Nat}, (∀ e ∈ es, mayE e) → es ≠ [] → m ≤ k.es.length → inR k.base 1099511627776 → k.es.length + es.length ≤ 1000000000 →
    takesA false k (entBs (k.base + m + 1) es) = some { k with es := k.es.take m ++ es }
  | [], k, m, h, h0, hm, hb, hl => absurd rfl h0
  | [e], k, m, h, h0, hm, ⟨hb1, hb2⟩, hl => by
    have h1 := takes_ent (k := k) (i := k.base + m + 1) (h e (by simp)) (by omega) (by omega) ⟨by omega, by omega⟩
    rw [show (k.base + m + 1 - k.base - 1).toNat = m by omega] at h1
    exact takesA_cons h1
  | e :: f :: es, k, m, h, h0, hm, ⟨hb1, hb2⟩, hl => by
    have hl' : k.es.length + (es.length + 1 + 1) ≤ 1000000000 := hl
    have h1 := takes_ent (k := k) (i := k.base + m + 1) (h e (by simp)) (by omega) (by omega) ⟨by omega, by omega⟩
    rw [show (k.base + m + 1 - k.base - 1).toNat = m by omega] at h1
    have e1 : entBs (k.base + m + 1) (e :: f :: es) = entB (k.base + m + 1) e :: entBs (k.base + m + 1 + 1) (f :: es) := rfl
    have hml : (k.es.take m ++ [e]).length = m + 1 := by rw [List.length_append, List.length_take]; simp; omega
    rw [e1, takesA_cons h1]
    have h2 := takesA_ents (es := f :: es) (k := { k with es := k.es.take m ++ [e] }) (m := m + 1) (fun x hx => h x (List.mem_cons_of_mem _ hx)) (by simp) (by simp only; omega) ⟨hb1, hb2⟩ (by simp only [List.length_cons]; omega)
    simp only at h2
    rw [show k.base + ((m + 1 : Nat) : Int) + 1 = k.base + m + 1 + 1 by omega] at h2
    rw [h2, List.take_of_length_le (by omega), List.append_assoc]
    rfl
/-! ### whole files -/
def waBs (k : Kp) : List (List UInt8) := recB 0 [k.base, k.bterm] :: recB 1 [k.term, k.vote] :: entBs (k.base + 1) k.es
theorem waB_laid (k : Kp) : waB k = Frame.laid (waBs k) := by
  unfold waB waBs
  rw [written_laid, Frame.laid_cons, Frame.laid_cons, List.append_assoc]
theorem rec_ok1 (kind : UInt8) (a b : Int) : 1 ≤ (recB kind [a, b]).length ∧ (recB kind [a, b]).length ≤ 1048576 := by
  have := recB_len kind [a, b]
  simp only [List.length_cons, List.length_nil] at this
  omega
theorem waBs_ok {k : Kp} (h : mayK k) : Frame.Ok1 (waBs k) := fun b hb => by
  unfold waBs at hb
  rcases List.mem_cons.1 hb with rfl | hb
  · exact rec_ok1 0 _ _
  · rcases List.mem_cons.1 hb with rfl | hb
    · exact rec_ok1 1 _ _
    · exact entBs_ok h.1 _ b hb
theorem takesA_waBs {k : Kp} (h : mayK k) (hl : k.es.length ≤ 1000000) : takesA true Kp.zero (waBs k) = some k := by
  obtain ⟨h1, h2, h3, h4, h5⟩ := h
  unfold waBs
  rw [takesA_cons (takes_first h2 h3), takesA_cons (takes_hard h4 h5)]
  cases hes : k.es with
  | nil =>
    cases k; simp only at hes; subst hes; rfl
  | cons e r =>
    have := takesA_ents (es := e :: r) (k := ⟨k.term, k.vote, k.base, k.bterm, []⟩) (m := 0) (fun x hx => h1 x (by rw [hes]; exact hx)) (by simp) (by simp) h2 (by rw [hes] at hl; simp only [List.length_nil]; omega)
    simp only at this
    rw [show k.base + ((0 : Nat) : Int) + 1 = k.base + 1 by omega] at this
    show takesA false ⟨k.term, k.vote, k.base, k.bterm, []⟩ (entBs (k.base + 1) (e :: r)) = some k
    rw [this]
    cases k; simp only at hes; subst hes; rfl
theorem readW_laid {bs : List (List UInt8)} (h : Frame.Ok1 bs) (h0 : bs ≠ []) : readW (Frame.laid bs) = takesA true Kp.zero bs ∧ isWhole (Frame.laid bs) = true := by
  obtain ⟨b1, b2⟩ := Frame.bodies_all h
  unfold readW isWhole
  rw [b1, b2, if_neg h0]
  exact ⟨rfl, rfl⟩
end Go.Proofs.Ytebeidnmplnlpaa
end

section
set_option maxRecDepth 10000
namespace Go.Proofs.Ytebeidnmplnlpaa
set_option linter.unusedVariables false
open Go.RowKit

theorem wTmp_ok : nameOk wTmp := by decide
theorem wName_nm {n : Nat} (h1 : 1 ≤ n) (h2 : n ≤ 99999999) : nameOk (wName (n : Int)) := by
  have := wName_len h1 h2
  exact ⟨by omega, by omega⟩
theorem w_lt_tmp {n : Nat} (h1 : 1 ≤ n) (h2 : n ≤ 99999999) : wName (n : Int) < wTmp := by
  rw [wName_of h1 h2]
  show wPre ++ dgs 8 n < wPre ++ [116, 109, 112]
  refine append_lt.2 ?_
  have hl := dgs_len 8 n
  have ha := dgs_all 8 n
  cases hd : dgs 8 n with
  | nil => rw [hd] at hl; cases hl
  | cons x r =>
    rw [hd] at ha
    have hx : isDig x = true := List.all_eq_true.1 ha x (by simp)
    unfold isDig at hx
    simp at hx
    rw [List.cons_lt_cons_iff]
    left
    rw [UInt8.lt_iff_toNat_lt]
    have : (116 : UInt8).toNat = 116 := rfl
    omega
theorem w_lt {n m : Nat} (h1 : 1 ≤ n) (h : n < m) (h2 : m ≤ 99999999) : wName (n : Int) < wName (m : Int) := by
  rw [wName_of h1 (by omega), wName_of (by omega) h2]
  exact nameN_lt h (by have : (10 : Nat) ^ 8 = 100000000 := by decide
                       omega)
theorem isPre_w {n : Nat} (h1 : 1 ≤ n) (h2 : n ≤ 99999999) : isPre wPre (wName (n : Int)) = true := by
  rw [wName_of h1 h2]
  unfold isPre nameN
  simp
theorem wName_ne {n : Nat} (h1 : 1 ≤ n) (h2 : n ≤ 99999999) : wName (n : Int) ≠ [] := fun e => by
  have := wName_len h1 h2
  rw [e] at this; cases this
theorem wrun_k0 {r c : Int} {T : PT} {nm b : List UInt8} (hnm : nameOk nm) (hT : ∀ p ∈ T, p.1 < wTmp) (hl : T.length < 64) (hr : (used T : Int) + b.length ≤ r) :
    wrun nm b 4 0 ⟨k0 r c, T⟩ = (0, ⟨k0 r (c + 1 + 1 + 1 + 1), tset T nm (fullF b)⟩) := by
  show andT (DS.create ⟨k0 r c, T⟩ wTmp) (fun S1 => andT (S1.append wTmp b) fun S2 => andT (S2.sync wTmp) fun S3 => andT (S3.rename wTmp nm) fun S4 => (0, S4)) = _
  rw [k0_create wTmp_ok (by omega), andT_ok rfl, tset_last hT]
  simp only
  have hu : used (T ++ [(wTmp, (⟨[], 0⟩ : Fl))]) = used T := by rw [used_append]; simp [used]
  rw [k0_append wTmp_ok (tfind_last hT) (by rw [hu]; exact hr), andT_ok rfl, tset_lastA hT]
  simp only
  rw [k0_sync wTmp_ok (tfind_last hT), andT_ok rfl, tset_lastA hT]
  simp only
  rw [k0_rename wTmp_ok hnm (tfind_last hT), andT_ok rfl, tdel_last hT]
  rfl
theorem wanew_new {r c : Int} {k : Kp} (hk : mayK k) (hr : ((waB k).length : Int) ≤ r) : DS.wanew ⟨k0 r c, []⟩ ⟨0, k.base, k.base + k.es.length⟩ k = ((0, ⟨k0 r (c + 1 + 1 + 1 + 1), [(wName 1, fullF (waB k))]⟩), ⟨1, k.base, k.base + k.es.length⟩) := by
  have h1 : wrun (wName 1) (waB k) 4 0 ⟨k0 r c, []⟩ = (0, ⟨k0 r (c + 1 + 1 + 1 + 1), [(wName 1, fullF (waB k))]⟩) := wrun_k0 (wName_nm (n := 1) (by decide) (by decide)) (by simp) (by decide) (by simpa [used] using hr)
  unfold DS.wanew
  have w1 : ¬ wName 1 = [] := wName_ne (n := 1) (by decide) (by decide)
  rw [if_neg (fun h => h hk), show ((0 : Int) + 1) = 1 from rfl, if_neg w1, h1]
  simp only
  rw [if_neg (by decide), if_pos (by decide)]
theorem wclear_one {S : DS} {n : Nat} {f : Fl} (h : S.t = [(wName (n : Int), f)]) : S.clear wPre (wName (n : Int)) S.keys = (0, S) := by
  unfold DS.keys
  rw [h]
  show DS.clear S wPre (wName (n : Int)) [wName (n : Int)] = _
  rw [clear_cons, if_neg (fun e => e.2 rfl)]
  rfl
theorem wScan_one {n : Nat} (h1 : 1 ≤ n) (h2 : n ≤ 99999999) {f : Fl} {k : Kp} (hr : readW f.b = some k) : wScan [(wName (n : Int), f)] = ⟨true, n, k, isWhole f.b⟩ := by
  show woStep ⟨false, 0, Kp.zero, false⟩ (wName (n : Int), f) = _
  unfold woStep
  simp only
  rw [wNum_name h1 h2]
  simp only
  rw [hr]
/-- a new disk is opened -/
theorem wopen_new {room : Int} (h0 : 0 ≤ room) (h2 : room ≤ 16777216) (hr : ((waB Kp.zero).length : Int) ≤ room) :
    DS.wopen (DS.new room) = ((0, ⟨k0 room 4, [(wName 1, fullF (waB Kp.zero))]⟩), some (⟨1, 0, 0⟩, Kp.zero)) := by
  rw [new_k0 h0 h2]
  have e1 : wScan ([] : PT) = ⟨false, 0, Kp.zero, false⟩ := rfl
  have hk : mayK Kp.zero := by decide
  have e2 : DS.wnext ⟨k0 room 0, []⟩ ⟨false, 0, Kp.zero, false⟩ = ((0, ⟨k0 room 4, [(wName 1, fullF (waB Kp.zero))]⟩), ⟨1, 0, 0⟩) := by
    unfold DS.wnext
    rw [if_neg (by decide)]
    exact wanew_new hk hr
  have e3 : DS.wend ((0, ⟨k0 room 4, [(wName 1, fullF (waB Kp.zero))]⟩), ⟨1, 0, 0⟩) = (0, ⟨k0 room 4, [(wName 1, fullF (waB Kp.zero))]⟩) := by
    unfold DS.wend
    rw [andT_ok rfl]
    exact wclear_one (n := 1) rfl
  unfold DS.wopen
  simp only
  rw [e1]
  simp only
  rw [if_neg (by decide), e2, e3, if_pos rfl]
/-- a log that is whole is opened -/
theorem wopen_one {r c : Int} {n : Nat} (h1 : 1 ≤ n) (h2 : n ≤ 99999999) {f : Fl} {k : Kp} (hr : readW f.b = some k) (hw : isWhole f.b = true) :
    DS.wopen ⟨k0 r c, [(wName (n : Int), f)]⟩ = ((0, ⟨k0 r (c + 1), [(wName (n : Int), fullF f.b)]⟩), some (⟨n, k.base, k.base + k.es.length⟩, k)) := by
  have e2 : DS.wnext ⟨k0 r c, [(wName (n : Int), f)]⟩ ⟨true, n, k, true⟩ = ((0, ⟨k0 r (c + 1), [(wName (n : Int), fullF f.b)]⟩), ⟨n, k.base, k.base + k.es.length⟩) := by
    unfold DS.wnext
    rw [if_pos rfl]
    simp only
    rw [k0_sync (wName_nm h1 h2) (f := f) (by simp [tfind])]
    rw [tset_cons, if_neg (List.lt_irrefl _), if_pos rfl]
    rfl
  have e3 : DS.wend ((0, ⟨k0 r (c + 1), [(wName (n : Int), fullF f.b)]⟩), ⟨n, k.base, k.base + k.es.length⟩) = (0, ⟨k0 r (c + 1), [(wName (n : Int), fullF f.b)]⟩) := by
    unfold DS.wend
    rw [andT_ok rfl]
    exact wclear_one rfl
  unfold DS.wopen
  simp only
  rw [wScan_one h1 h2 hr, hw]
  simp only
  rw [if_neg (by omega), e2, e3, if_pos rfl]
/-- what is saved in a log -/
theorem wsave_one {r c : Int} {n : Nat} (h1 : 1 ≤ n) (h2 : n ≤ 99999999) {b : List UInt8} {base last : Int} {set : Bool} {term vote fr : Int} {es : List En} (hb : ¬ wsBad ⟨n, base, last⟩ set term vote fr) (hm : ∀ e ∈ es, mayE e) (hne : wsB set term vote fr es ≠ [])
    (hr : (b.length : Int) + (wsB set term vote fr es).length ≤ r) :
    DS.wsave ⟨k0 r c, [(wName (n : Int), fullF b)]⟩ ⟨n, base, last⟩ set term vote fr es = ((0, ⟨k0 r (c + 1 + 1), [(wName (n : Int), fullF (b ++ wsB set term vote fr es))]⟩), wlast ⟨n, base, last⟩ fr es) := by
  have e1 : DS.wapp ⟨k0 r c, [(wName (n : Int), fullF b)]⟩ (wName (n : Int)) (wsB set term vote fr es) = (0, ⟨k0 r (c + 1 + 1), [(wName (n : Int), fullF (b ++ wsB set term vote fr es))]⟩) := by
    unfold DS.wapp
    rw [k0_append (wName_nm h1 h2) (f := fullF b) (by simp [tfind]) (by simpa [used, fullF] using hr), andT_ok rfl, tset_cons, if_neg (List.lt_irrefl _), if_pos rfl]
    simp only
    rw [k0_sync (wName_nm h1 h2) (f := ⟨(fullF b).b ++ wsB set term vote fr es, (fullF b).sure⟩) (by simp [tfind]), tset_cons, if_neg (List.lt_irrefl _), if_pos rfl]
    rfl
  unfold DS.wsave
  rw [if_neg (fun h => by
    rcases h with h | h
    · exact hb h
    · exact h.2 hm), if_neg hne, e1]
  rfl
end Go.Proofs.Ytebeidnmplnlpaa
end

section
set_option maxRecDepth 10000
namespace Go.Proofs.Ytebeidnmplnlpaa
set_option linter.unusedVariables false
open Go.RowKit

def saveBs (set : Bool) (term vote fr : Int) (es : List En) : List (List UInt8) := (if set = true then [recB 1 [term, vote]] else []) ++ (if 0 < fr then entBs fr es else [])
theorem wsB_laid (set : Bool) (term vote fr : Int) (es : List En) : wsB set term vote fr es = Frame.laid (saveBs set term vote fr es) := by
  unfold wsB wsSet saveBs
  rw [Frame.laid_append]
  congr 1
  · split
    · exact (Frame.laid_one _).symm
    · rfl
  · split
    · exact written_laid es fr
    · rfl
theorem saveBs_ok {set : Bool} {term vote fr : Int} {es : List En} (hm : ∀ e ∈ es, mayE e) : Frame.Ok1 (saveBs set term vote fr es) := fun b hb => by
  unfold saveBs at hb
  rcases List.mem_append.1 hb with hb | hb
  · split at hb
    · obtain rfl : b = _ := by simpa using hb
      exact rec_ok1 1 _ _
    · cases hb
  · split at hb
    · exact entBs_ok hm _ b hb
    · cases hb
def afterS (k : Kp) (set : Bool) (term vote fr : Int) (es : List En) : Kp :=
  ⟨if set = true then term else k.term, if set = true then vote else k.vote, k.base, k.bterm, if 0 < fr ∧ 0 < es.length then k.es.take (fr - k.base - 1).toNat ++ es else k.es⟩
theorem takesA_save {k : Kp} {set : Bool} {term vote fr : Int} {es : List En} (hs : set = true → inR term 1099511627776 ∧ inR vote 7) (hf : 0 < fr → k.base < fr ∧ fr ≤ k.base + k.es.length + 1) (hm : ∀ e ∈ es, mayE e) (hb : inR k.base 1099511627776) (hl : k.es.length + es.length ≤ 1000000000) :
    takesA false k (saveBs set term vote fr es) = some (afterS k set term vote fr es) := by
  have h2 : ∀ k1 : Kp, k1.base = k.base → k1.es = k.es → takesA false k1 (if 0 < fr then entBs fr es else []) = some { k1 with es := if 0 < fr ∧ 0 < es.length then k.es.take (fr - k.base - 1).toNat ++ es else k.es } := fun k1 e1 e2 => by
    by_cases h0 : 0 < fr
    · rw [if_pos h0]
      by_cases h1 : 0 < es.length
      · rw [if_pos ⟨h0, h1⟩]
        obtain ⟨f1, f2⟩ := hf h0
        have h3 := takesA_ents (es := es) (k := k1) (m := (fr - k.base - 1).toNat) hm (fun e => by rw [e] at h1; simp at h1) (by rw [e2]; omega) (by rw [e1]; exact hb) (by rw [e2]; exact hl)
        rw [e1, show k.base + ((fr - k.base - 1).toNat : Int) + 1 = fr by omega, e2] at h3
        rw [h3, ← e1]
      · rw [if_neg (fun h => h1 h.2)]
        obtain rfl : es = [] := List.eq_nil_of_length_eq_zero (by omega)
        rw [← e2]
        rfl
    · rw [if_neg h0, if_neg (fun h => h0 h.1), ← e2]
      rfl
  unfold saveBs afterS
  cases set with
  | false => exact h2 k rfl rfl
  | true =>
    obtain ⟨s1, s2⟩ := hs rfl
    simp only [if_true]
    rw [List.singleton_append, takesA_cons (takes_hard s1 s2)]
    exact h2 _ rfl rfl
/-- a file of bodies that says k -/
structure Says (bs : List (List UInt8)) (k : Kp) : Prop where
  ok : Frame.Ok1 bs
  ne : bs ≠ []
  says : takesA true Kp.zero bs = some k
  b : inR k.base 1099511627776
theorem Says.read {bs : List (List UInt8)} {k : Kp} (h : Says bs k) : readW (Frame.laid bs) = some k ∧ isWhole (Frame.laid bs) = true := by
  have := readW_laid h.ok h.ne
  rw [h.says] at this
  exact this
theorem Says.save {bs : List (List UInt8)} {k : Kp} (h : Says bs k) {set : Bool} {term vote fr : Int} {es : List En} (hs : set = true → inR term 1099511627776 ∧ inR vote 7) (hf : 0 < fr → k.base < fr ∧ fr ≤ k.base + k.es.length + 1) (hm : ∀ e ∈ es, mayE e) (hl : k.es.length + es.length ≤ 1000000000) :
    Says (bs ++ saveBs set term vote fr es) (afterS k set term vote fr es) := by
  refine ⟨fun b hb => ?_, fun e => h.ne (List.append_eq_nil_iff.1 e).1, ?_, h.b⟩
  · rcases List.mem_append.1 hb with hb | hb
    · exact h.ok b hb
    · exact saveBs_ok hm b hb
  · rw [takesA_app, h.says]
    simp only
    have : bs.isEmpty = false := by cases hbs : bs with
      | nil => exact absurd hbs h.ne
      | cons x y => rfl
    rw [this]
    exact takesA_save hs hf hm h.b hl
theorem says_new {k : Kp} (hk : mayK k) (hl : k.es.length ≤ 1000000) : Says (waBs k) k := ⟨waBs_ok hk, by simp [waBs], takesA_waBs hk hl, hk.2.1⟩
theorem waB_len {k : Kp} (hk : ∀ e ∈ k.es, mayE e) : (waB k).length ≤ 200 + (written (k.base + 1) k.es).length := by
  have h1 := put_le (recB 0 [k.base, k.bterm])
  have h2 := put_le (recB 1 [k.term, k.vote])
  have h3 := (recB_len 0 [k.base, k.bterm]).1
  have h4 := (recB_len 1 [k.term, k.vote]).1
  simp only [List.length_cons, List.length_nil] at h3 h4
  unfold waB
  rw [List.length_append, List.length_append]
  omega
theorem wsSet_len (set : Bool) (term vote : Int) : (wsSet set term vote).length ≤ 100 := by
  have h2 := put_le (recB 1 [term, vote])
  have h4 := (recB_len 1 [term, vote]).1
  simp only [List.length_cons, List.length_nil] at h4
  unfold wsSet
  split
  · omega
  · simp
/-- entries of few bytes -/
theorem written_few {m : Nat} {es : List En} (h : ∀ e ∈ es, e.data.length ≤ m) (i : Int) : (written i es).length ≤ (m + 62) * es.length := by
  induction es generalizing i with
  | nil => simp [written]
  | cons e es ih =>
    have h1 := (entB_len i e).2
    have h2 := h e (by simp)
    have h3 := put_le (entB i e)
    have h4 := ih (fun x hx => h x (List.mem_cons_of_mem _ hx)) (i + 1)
    rw [written_cons, List.length_append, List.length_cons, Nat.mul_succ]
    omega
theorem wsB_few {m : Nat} {set : Bool} {term vote fr : Int} {es : List En} (h : ∀ e ∈ es, e.data.length ≤ m) : (wsB set term vote fr es).length ≤ 100 + (m + 62) * es.length := by
  have h1 := wsSet_len set term vote
  have h2 := written_few h fr
  unfold wsB
  rw [List.length_append]
  split
  · omega
  · simp; omega
theorem zero_len : (waB Kp.zero).length ≤ 200 := by
  have := waB_len (k := Kp.zero) (by simp [Kp.zero])
  have e : (written (Kp.zero.base + 1) Kp.zero.es).length = 0 := rfl
  omega
end Go.Proofs.Ytebeidnmplnlpaa
end

section
set_option maxRecDepth 10000
namespace Go.Proofs.Ytebeidnmplnlpaa
set_option linter.unusedVariables false
open Go.RowKit

end Go.Proofs.Ytebeidnmplnlpaa
end

section
set_option maxRecDepth 10000
namespace Go.Proofs.Ytebeidnmplnlpaa
set_option linter.unusedVariables false
open Go.RowKit

def e18 : En := ⟨3, true, [120]⟩
def k18 : Kp := ⟨3, 2, 0, 0, [e18]⟩
def f18 : List UInt8 := Frame.laid (waBs Kp.zero ++ saveBs true 3 2 1 [e18])
theorem f18_eq : waB Kp.zero ++ wsB true 3 2 1 [e18] = f18 := by rw [waB_laid, wsB_laid, ← Frame.laid_append]; rfl
theorem e18_ok : ∀ e ∈ [e18], mayE e := by decide
theorem says18 : Says (waBs Kp.zero ++ saveBs true 3 2 1 [e18]) k18 := (says_new (k := Kp.zero) (by decide) (by decide)).save (set := true) (term := 3) (vote := 2) (fr := 1) (es := [e18]) (fun _ => by decide) (fun _ => by decide) e18_ok (by decide)
theorem open18 : DS.wopen (DS.new 10000) = ((0, ⟨k0 10000 4, [(wName 1, fullF (waB Kp.zero))]⟩), some (⟨1, 0, 0⟩, Kp.zero)) := wopen_new (by decide) (by decide) (by have := zero_len; omega)
theorem entBs_pos {fr : Int} {e : En} {es : List En} {set : Bool} {term vote : Int} (h : 0 < fr) : wsB set term vote fr (e :: es) ≠ [] := by
  unfold wsB
  rw [if_pos h, written_cons]
  intro e1
  have := Frame.put_pos (entB fr e)
  have h2 := congrArg List.length e1
  simp only [List.length_append, List.length_nil] at h2
  omega
theorem save18 : DS.wsave ⟨k0 10000 4, [(wName 1, fullF (waB Kp.zero))]⟩ ⟨1, 0, 0⟩ true 3 2 1 [e18] = ((0, ⟨k0 10000 6, [(wName 1, fullF f18)]⟩), ⟨1, 0, 1⟩) := by
  have h := wsave_one (r := 10000) (c := 4) (n := 1) (by decide) (by decide) (b := waB Kp.zero) (base := 0) (last := 0) (set := true) (term := 3) (vote := 2) (fr := 1) (es := [e18]) (by decide) e18_ok (entBs_pos (by decide)) (by
    have h1 := zero_len
    have h2 := wsB_few (m := 1) (set := true) (term := 3) (vote := 2) (fr := 1) (es := [e18]) (by decide)
    have h3 : [e18].length = 1 := rfl
    omega)
  rw [f18_eq] at h
  exact h
theorem reopen18 : DS.wopen ⟨k0 10000 6, [(wName 1, fullF f18)]⟩ = ((0, ⟨k0 10000 7, [(wName 1, fullF f18)]⟩), some (⟨1, 0, 1⟩, k18)) := by
  obtain ⟨h1, h2⟩ := says18.read
  exact wopen_one (r := 10000) (c := 6) (n := 1) (by decide) (by decide) (f := fullF f18) h1 h2
set_option maxHeartbeats 2000000 in
theorem awake18_any (W : World) : Calls Try.prog 39 #[] W fun e W' => e = .returned (.bool true) ∧ Below W.heap.size W W' := by
  refine calls_vc Try.func39 rfl (by kernel_rfl) ?_
  ((conv => whnf); (repeat ((first | (refine VL.cons ?_) | (refine VL.nil ?_) | (refine VC.seqS rfl ?_) | (refine VC.region ?_)); (conv => whnf))))
  ((repeat ((fail); (conv => whnf))))
  refine VCall.of (oNew W 10000) ?_
  rintro e W1 ⟨d, U, rfl, hd1, hUB, hB1⟩
  refine ⟨_, rfl, ?_⟩
  ((conv => whnf); (repeat ((first | (refine VL.cons ?_) | (refine VL.nil ?_) | (refine VC.seqS rfl ?_) | (refine VC.region ?_)); (conv => whnf))))
  ((repeat ((fail); (conv => whnf))))
  refine VCall.of (walOpen_any W1 U d (DS.new 10000) hd1 (by decide)) ?_
  rw [open18]
  rintro e W2 ⟨U2, hd2, st2, g, A, n, c, rfl, hw2, hg2, hgl2, hE2⟩
  refine ⟨_, rfl, ?_⟩
  simp only at hd2 hw2 hE2 ⊢
  have hUB2 := st2.min hUB hB1.size
  have hB2 : Below W.heap.size W W2 := hB1.trans (st2.below hUB hB1.size)
  ((conv => whnf); (repeat ((first | (refine VL.cons ?_)); (conv => whnf))))
  ((repeat ((fail); (conv => whnf))))
  refine VSem.allocZ (z := .agg (kC Kp.zero none 0 0)) (by kernel_rfl) ?_
  intro W3 q hq hqe hql hB3
  ((conv => whnf); (repeat ((first | (refine VL.cons ?_)); (conv => whnf))))
  ((repeat ((fail); (conv => whnf))))
  refine VUnit.storeAB hq rfl rfl rfl (by simp [kC, Kp.zero, Value.oneCell']) ?_
  intro W4 hq4 hg4
  rw [setFrom_allW (vs := kC Kp.zero A n c) (by rfl)] at hq4
  have hB24 : Below W2.heap.size W2 W4 := only_new hB3 hg4 (by omega) (by omega)
  have hd4 := hd2.below hB24
  have hw4 := hw2.later hB24
  have hB4 := hB2.trans (hB24.mono hB2.size)
  have nq : ¬ U2 q := fun hu => by have := hd2.lt q hu; omega
  ((conv => whnf); (repeat ((first | (refine VL.cons ?_) | (refine VL.nil ?_)); (conv => whnf))))
  (repeat (first | ((first | (refine VL.cons ?_) | (refine VC.seqS rfl ?_) | (refine VC.region ?_) | (refine VBool.f ?_) | (refine VRead.fld ?_) | (refine VRead.eqPN ?_) | (refine VC.seq ?_)); (conv => whnf)) | (refine VRead.loadB hq4 rfl rfl ?_; (conv => whnf))))
  refine VCall.of (oCalls W4 U2 d _ hd4) ?_
  rintro e W5 ⟨rfl, eW5⟩
  obtain rfl := eW5.symm
  refine ⟨_, rfl, ?_⟩
  (conv => whnf)
  (repeat ((first | (refine VBool.nT rfl ?_) | (refine VL.cons ?_) | (refine VBool.f ?_)); (conv => whnf)))
  refine VSem.buildS rfl rfl (by simp [zipP, Value.oneCell']) (by omega) ?_
  ((conv => whnf); (repeat ((first | (refine VL.cons ?_)); (conv => whnf))))
  ((repeat ((first | (refine VBool.f ?_)); (conv => whnf))))
  refine VSem.of (w' := W4.alloc (.cells (bv [120]).toArray 5 (1, 2))) (Lib.run_convert_bytes_const (P := Try.prog) W4 31 5 _ 1 1 Try.underlying31 Try.underlying5) ?_
  have hr6 : Reads (W4.alloc (.cells (bv [120]).toArray 5 (1, 2))) (W4.alloc (.cells (bv [120]).toArray 5 (1, 2))).heap.size 1 (some ⟨W4.heap.size, 0, none⟩) 1 (bv [120]) := (reads_new W4 [120] 5 (1, 2) _ rfl 1 rfl).more (by simp)
  have hL6 : Lies (W4.alloc (.cells (bv [120]).toArray 5 (1, 2))) (fun j => W4.heap.size ≤ j) (some ⟨W4.heap.size, 0, none⟩) 1 [120] := ⟨hr6, fun _ => ⟨_, _, _, rfl, Nat.le_refl _, World.alloc_heap_new W4 _⟩⟩
  have hB6 := (Below.refl W4.heap.size W4).alloc (Nat.le_refl _) (.cells (bv [120]).toArray 5 (1, 2))
  generalize W4.alloc (.cells (bv [120]).toArray 5 (1, 2)) = W6 at *
  ((conv => whnf); (repeat ((first | (refine VL.cons ?_)); (conv => whnf))))
  ((repeat ((first | (refine VBool.f ?_)); (conv => whnf))))
  refine VRead.ofW (v := .agg #[.int .i64 3, .bool true, .slice (some ⟨W4.heap.size, 0, none⟩) 1 1]) (fun _ => by kernel_rfl) ?_
  ((conv => whnf); (repeat ((first | (refine VL.cons ?_)); (conv => whnf))))
  ((repeat ((first | (refine VBool.f ?_)); (conv => whnf))))
  refine VSem.of (v := .slice (some ⟨W6.heap.size, 0, none⟩) 1 1) (w' := W6.alloc (.cells #[.int .i64 3, .bool true, .slice (some ⟨W4.heap.size, 0, none⟩) 1 1] 67)) (by kernel_rfl) ?_
  have hnew := Blk.new W6 67 #[.int .i64 3, .bool true, .slice (some ⟨W4.heap.size, 0, none⟩) 1 1]
  have hB7 : Below W6.heap.size W6 (W6.alloc (.cells #[.int .i64 3, .bool true, .slice (some ⟨W4.heap.size, 0, none⟩) 1 1] 67)) := (Below.refl _ W6).alloc (Nat.le_refl _) _
  generalize W6.alloc (.cells #[.int .i64 3, .bool true, .slice (some ⟨W4.heap.size, 0, none⟩) 1 1] 67) = W7 at *
  have hB47 := hB6.trans (hB7.mono hB6.size)
  have z7 := hB47.size
  have hen : EnAt W7 (fun _ => True) (some ⟨W6.heap.size, 0, none⟩) 1 [e18] := EnAt.one (e := e18) hnew trivial (Nat.le_refl _) ((hL6.below hB7 (Nat.le_refl _)).more (fun _ _ _ => trivial))
  have hen2 : EnAt W7 (fun j => j < W7.heap.size) (some ⟨W6.heap.size, 0, none⟩) 1 [e18] := hen.more (fun j h _ => h)
  ((conv => whnf); (repeat ((first | (refine VL.cons ?_)); (conv => whnf))))
  ((repeat ((first | (refine VBool.f ?_)); (conv => whnf))))
  refine VCall.of (walSave_any W7 U2 g d _ ⟨1, 0, 0⟩ true 3 2 1 _ 1 1 [e18] (hd4.below hB47) (hw4.later hB47) hg2 ⟨by decide, by decide, by decide, by decide, by decide, by decide⟩ hen2 (by decide) (by decide) (by decide) (by decide)) ?_
  rw [save18]
  rintro e W8 ⟨rfl, U8, hd8, hw8, hg8, st8⟩
  refine ⟨_, rfl, ?_⟩
  simp only at hd8 hw8 ⊢
  have hUa : ∀ j, addF U2 g j → W.heap.size ≤ j := fun j hj => by
    rcases hj with hj | hj
    · exact hUB2 j hj
    · have := hB1.size; omega
  have hB47' := hB4.trans (hB47.mono hB4.size)
  have hB8 := hB47'.trans (st8.below hUa hB47'.size)
  have hUB8 := st8.min hUa hB47'.size
  have nqa : ¬ addF U2 g q := fun h => by
    rcases h with h | h
    · exact nq h
    · have := hw2.lt; omega
  obtain ⟨hq8, nq8⟩ := st8.blk (hq4.later hB47) nqa
  ((conv => whnf); (repeat ((first | (refine VL.cons ?_)); (conv => whnf))))
  ((repeat ((first | (refine VL.cons ?_) | (refine VL.nil ?_) | (refine VC.seqS rfl ?_) | (refine VC.region ?_) | (refine VC.cond ?_) | (refine VC.skip ?_) | (refine VBool.f ?_)); (conv => whnf))))
  refine VCall.of (walOpen_any W8 U8 d _ hd8 (by decide)) ?_
  rw [reopen18]
  rintro e W9 ⟨U9, hd9, st9, g9, A9, n9, c9, rfl, hw9, hg9, hgl9, hE9⟩
  refine ⟨_, rfl, ?_⟩
  simp only at hd9 hw9 hE9 ⊢
  obtain ⟨hq9, nq9⟩ := st9.blk hq8 (fun h => nq8 (.inl h))
  have hB9 := hB8.trans (st9.below (fun j hj => hUB8 j (.inl hj)) hB8.size)
  have hn9 : n9 = 1 := hE9.at_.2.2.symm
  subst hn9
  ((conv => whnf); (repeat ((first | (refine VL.cons ?_)); (conv => whnf))))
  ((repeat ((fail); (conv => whnf))))
  refine VUnit.storeAB hq9 rfl rfl rfl (by simp [kC, Value.oneCell']) ?_
  intro W10 hq10 hg10
  rw [setFrom_allW (vs := kC k18 A9 1 c9) (by rfl)] at hq10
  have hqW : W.heap.size ≤ q := by have := hB2.size; omega
  have hB10 : Below W.heap.size W W10 := only_new hB9 hg10 hqW hB9.size
  ((conv => whnf); (repeat ((first | (refine VL.cons ?_) | (refine VL.nil ?_) | (refine VC.seqS rfl ?_) | (refine VC.region ?_)); (conv => whnf))))
  (repeat (first | ((first | (refine VL.cons ?_) | (refine VBool.t ?_) | (refine VRead.lenS ?_) | (refine VRead.fld ?_)); (conv => whnf)) | (refine VRead.loadB hq10 rfl rfl ?_; (conv => whnf))))
  refine VCall.of (walName_any 7 W10 (by decide)) ?_
  rintro e W11 ⟨rfl, hB11⟩
  refine ⟨_, rfl, ?_⟩
  ((conv => whnf); (repeat ((first | (refine VL.cons ?_)); (conv => whnf))))
  ((repeat ((first | (refine VL.cons ?_) | (refine VL.nil ?_) | (refine VC.ret ?_) | (refine VBool.t ?_)); (conv => whnf))))
  refine ⟨?_, hB10.trans (hB11.mono hB10.size)⟩
  congr 2
end Go.Proofs.Ytebeidnmplnlpaa
end

section
set_option maxRecDepth 10000
namespace Go.Proofs.Ytebeidnmplnlpaa
set_option linter.unusedVariables false
open Go.RowKit

set_option maxHeartbeats 1000000 in
theorem entriesW_any (es : List En) (A : Option Addr) (n c : Nat) (V0 : Foot) (w : World) (h0 : EnAt w V0 A n es) (hn : n ≤ 1000000) (hd : ∀ e ∈ es, e.data.length ≤ 100000000) :
    Calls Try.prog 42 #[.slice A n c] w fun e w' => ∃ A' c', e = .returned (.slice A' n c') ∧ ERow w' (fun j => w.heap.size ≤ j) w.heap.size (.slice A' n c') es ∧ Below w.heap.size w w' := by
  have h : EnAt w (fun j => j < w.heap.size) A n es := h0.more (fun j hj _ => hj)
  have hne := h.1
  refine calls_vc Try.func42 rfl (by kernel_rfl) ?_
  ((conv => whnf); (repeat ((first | (refine VL.cons ?_) | (refine VL.nil ?_) | (refine VC.seqS rfl ?_) | (refine VC.region ?_)); (conv => whnf))))
  ((repeat ((first | (refine VL.cons ?_) | (refine VL.nil ?_) | (refine VC.seqS rfl ?_) | (refine VC.region ?_) | (refine VC.block ?_) | (refine VC.seq ?_)); (conv => whnf))))
  refine VC.loop [3, 4] [(3, 23)] (fun q vs W => ∃ (k c' : Nat) (A' : Option Addr), vs = [.slice A' k c', .int .i64 (k : Int)] ∧ q = n - k ∧ k ≤ n ∧ ERow W (fun j => w.heap.size ≤ j) w.heap.size (.slice A' k c') (es.take k) ∧ Below w.heap.size w W) (by kernel_rfl)
    ⟨_, 0, 0, none, rfl, rfl, by omega, ERow.nil _ _ _, Below.refl _ _⟩ ?_
  rintro q τ vs W ⟨k, c', A', rfl, rfl, hk, hE, hB⟩
  by_cases hlt : k < n
  case neg =>
    obtain rfl : k = n := by omega
    rw [List.take_of_length_le (by omega)] at hE
    ((conv => whnf); (repeat ((fail); (conv => whnf))))
    ((repeat ((first | (refine VL.cons ?_) | (refine VL.nil ?_) | (refine VC.seqS rfl ?_) | (refine VC.region ?_) | (refine VC.cond ?_) | (refine VC.exit ?_) | (refine VC.ret ?_) | (refine VBool.dF (by omega) ?_) | (refine VRead.lenS ?_) | (refine VC.seq ?_)); (conv => whnf))))
    exact ⟨A', c', rfl, hE, hB⟩
  obtain ⟨e, he⟩ : ∃ e, es[k]? = some e := ⟨_, List.getElem?_eq_getElem (by omega)⟩
  obtain ⟨x, D, m, j, rfl, f0, f1, f2, hmj, hml, hr⟩ := (h.belowB hB).at_ he
  have hdl := hd e (List.mem_of_getElem? he)
  ((conv => whnf); (repeat ((fail); (conv => whnf))))
  (repeat ((first | (refine VRead.atK hlt ?_) | (refine VRead.load3W f0 f1 f2 ?_) | (refine VL.cons ?_) | (refine VL.nil ?_) | (refine VC.seqS rfl ?_) | (refine VC.region ?_) | (refine VC.cond ?_) | (refine VC.block ?_) | (refine VC.skip ?_) | (refine VBool.dT (by omega) ?_) | (refine VRead.lenS ?_) | (refine VC.seq ?_)); (conv => whnf)))
  refine VSem.allocZ (z := .agg #[.int .i64 0, .bool false, .slice none 0 0]) (by kernel_rfl) ?_
  intro W2 b hb hgb hlb hB2
  ((conv => whnf); (repeat ((first | (refine VL.cons ?_)); (conv => whnf))))
  ((repeat ((fail); (conv => whnf))))
  refine VUnit.storeAB hb rfl rfl rfl (by simp [Value.oneCell']) ?_
  intro W3 hb3 hg3
  replace hb3 : Blk W3 b 67 #[.int .i64 e.term, .bool e.cmd, .slice D m j] := hb3
  have hB13 : Below W.heap.size W W3 := only_new hB2 hg3 (by omega) (by omega)
  have hB3 := hB.trans (hB13.mono hB.size)
  have hz := hB.size
  have hr3 := hr.below hB13 (Nat.le_refl _)
  have hE3 := hE.below hB13
  ((conv => whnf); (repeat ((first | (refine VL.cons ?_) | (refine VL.nil ?_) | (refine VC.seqS rfl ?_) | (refine VC.region ?_)); (conv => whnf))))
  (repeat (first | ((first | (refine VL.cons ?_) | (refine VRead.fld ?_)); (conv => whnf)) | (refine VRead.loadB hb3 rfl rfl ?_; (conv => whnf))))
  refine VCall.of (bytes_anyS D m j W3.heap.size e.data W3 (by omega) hr3.1) ?_
  rintro e' W4 ⟨D', j', rfl, hO4, hB4⟩
  refine ⟨_, rfl, ?_⟩
  have hb4 := hb3.later hB4
  have hz3 := hB13.size
  have hE4 := hE3.below hB4
  have hB04 := hB3.trans (hB4.mono hB3.size)
  ((conv => whnf); (repeat ((first | (refine VL.cons ?_)); (conv => whnf))))
  ((repeat ((first | (refine VL.cons ?_) | (refine VRead.fld ?_)); (conv => whnf))))
  refine VUnit.storeB hb4 rfl rfl rfl ?_
  intro W5 hb5 hg5
  replace hb5 : Blk W5 b 67 #[.int .i64 e.term, .bool e.cmd, .slice D' m j'] := hb5
  have hO5 := hO4.storeApart hg5 (hO4.notBlkW hb4 (by decide))
  have hbn : ∀ v : Value, ∀ es', ERow W (fun j => w.heap.size ≤ j) w.heap.size v es' → v.ownBlock ≠ some b := fun v es' hh e => by have := (hh.lt e).1; omega
  have hE5 := hE4.keepG hb4 hg5 (by decide) (hbn _ _ hE)
  have hB5 : Below w.heap.size w W5 := only_new hB04 hg5 (by omega) hB04.size
  ((conv => whnf); (repeat ((first | (refine VL.cons ?_) | (refine VL.nil ?_) | (refine VC.region ?_)); (conv => whnf))))
  ((repeat ((fail); (conv => whnf))))
  refine VRead.loadAB1 hb5 rfl rfl ?_
  ((conv => whnf); (repeat ((first | (refine VL.cons ?_)); (conv => whnf))))
  ((repeat ((fail); (conv => whnf))))
  refine VSem.of (v := .slice (some ⟨W5.heap.size, 0, none⟩) 1 1) (w' := W5.alloc (.cells #[.int .i64 e.term, .bool e.cmd, .slice D' m j'] 67)) (by kernel_rfl) ?_
  have hnew := Blk.new W5 67 #[.int .i64 e.term, .bool e.cmd, .slice D' m j']
  have hB6 : Below W5.heap.size W5 (W5.alloc (.cells #[.int .i64 e.term, .bool e.cmd, .slice D' m j'] 67)) := (Below.refl _ W5).alloc (Nat.le_refl _) _
  generalize W5.alloc (.cells #[.int .i64 e.term, .bool e.cmd, .slice D' m j'] 67) = W6 at *
  have hE6 := hE5.below hB6
  have hO6 := hO5.below hB6 (Nat.le_refl _)
  have hB06 := hB5.trans (hB6.mono hB5.size)
  have z5 := hB5.size
  have z6 := hB06.size
  ((conv => whnf); (repeat ((first | (refine VL.cons ?_)); (conv => whnf))))
  ((repeat ((fail); (conv => whnf))))
  refine ERow.app hE6 (EnAt.one hnew z5 hO6.cap (Lies.of_own (B := w.heap.size) (hO6.more (B' := w.heap.size) (by omega)) (fun j hj => hj))) (by omega) (by omega) (fun j hj => by show w.heap.size ≤ j; omega) ?_
  intro A7 c7 W7 hE7 hg7
  rw [← take_snoc he] at hE7
  ((conv => whnf); (repeat ((first | (refine VL.cons ?_) | (refine VL.nil ?_) | (refine VC.region ?_)); (conv => whnf))))
  ((repeat ((first | (refine VL.cons ?_) | (refine VL.nil ?_) | (refine VWrap.i64 (by omega) (by omega) ?_)); (conv => whnf))))
  exact ⟨_, by omega, k + 1, c7, A7, rfl, rfl, by omega, hE7, hB06.grown hg7 (by omega) (fun j hj => (hE6.lt hj).2)⟩
end Go.Proofs.Ytebeidnmplnlpaa
end

section
set_option maxRecDepth 10000
namespace Go.Proofs.Ytebeidnmplnlpaa
set_option linter.unusedVariables false
open Go.RowKit

theorem VRead.load3WS {P : Program} {S : World → Prop} {t : Nat} {p : Addr} {u v z : Value} {K : Value → Prop} [a : TAgg P t 3] (h : ∀ X, S X → X.cell? (p.add 0) = some u ∧ X.cell? (p.add 1) = some v ∧ X.cell? (p.add 2) = some z) (hk : K (.agg #[u, v, z])) : VRead P S (Instr.loadAt t (.pointer (some p))) K :=
  .of (fun X hX => run_load_listW (cs := [u, v, z]) a (fun j x hj => by
    obtain ⟨h0, h1, h2⟩ := h X hX
    match j, hj with
    | 0, hj => rw [h0]; simpa using hj
    | 1, hj => rw [h1]; simpa using hj
    | 2, hj => rw [h2]; simpa using hj) rfl) hk
theorem EnAt.later {w : World} {A : Option Addr} {n i : Nat} {es : List En} {e : En} (h : EnAt w (fun j => j < w.heap.size) A n es) (he : es[i]? = some e) :
    ∃ x D m k, A = some x ∧ e.data.length = m ∧ ∀ X, Below w.heap.size w X → X.cell? ((x.add (i * 3)).add 0) = some (.int .i64 e.term) ∧ X.cell? ((x.add (i * 3)).add 1) = some (.bool e.cmd) ∧ X.cell? ((x.add (i * 3)).add 2) = some (.slice D m k) ∧ Reads X w.heap.size 1 D m (bv e.data) := by
  have hi := (List.getElem?_eq_some_iff.1 he).1
  have h1 := h.1
  obtain ⟨x, hA, hx, hv, h3⟩ := h.2 (by omega)
  obtain ⟨D, m, k, e1, e2, e3, e4, e5⟩ := h3 i e he
  refine ⟨x, D, m, k, hA, e5.len, fun X hX => ?_⟩
  have key : ∀ j u, w.cell? (x.add j) = some u → X.cell? (x.add j) = some u := fun j u hu => (World.cell?_of_block (by rw [adb]; exact hX.block _ hx)).trans hu
  refine ⟨?_, ?_, ?_, e5.1.below hX⟩
  all_goals rw [Deep.add_add, Nat.mul_comm i 3]
  · exact key _ _ e1
  · exact key _ _ e2
  · exact key _ _ e3
theorem En.eq_iff {a b : En} : a = b ↔ a.term = b.term ∧ a.cmd = b.cmd ∧ a.data = b.data := by
  cases a; cases b; simp
set_option maxHeartbeats 1000000 in
theorem sameEntryW_any (a b : En) (A1 A2 : Option Addr) (n1 c1 n2 c2 : Nat) (w : World) (h1 : Reads w w.heap.size 1 A1 n1 (bv a.data)) (h2 : Reads w w.heap.size 1 A2 n2 (bv b.data)) :
    Calls Try.prog 78 #[.agg #[.int .i64 a.term, .bool a.cmd, .slice A1 n1 c1], .agg #[.int .i64 b.term, .bool b.cmd, .slice A2 n2 c2]] w fun e w' => e = .returned (.bool (decide (a = b))) ∧ Below w.heap.size w w' := by
  refine calls_vc Try.func78 rfl (by kernel_rfl) ?_
  ((conv => whnf); (repeat ((first | (refine VL.cons ?_) | (refine VC.seqS rfl ?_) | (refine VC.region ?_)); (conv => whnf))))
  ((repeat ((fail); (conv => whnf))))
  refine VSem.boxB ?_
  intro w1 g1 hb1 hg1 hl1 hB1
  replace hb1 : Blk w1 g1 67 #[.int .i64 a.term, .bool a.cmd, .slice A1 n1 c1] := hb1
  ((conv => whnf); (repeat ((first | (refine VL.cons ?_)); (conv => whnf))))
  ((repeat ((fail); (conv => whnf))))
  refine VSem.boxB ?_
  intro w2 g2 hb2 hg2 hl2 hB2
  replace hb2 : Blk w2 g2 67 #[.int .i64 b.term, .bool b.cmd, .slice A2 n2 c2] := hb2
  have hb1' := hb1.below hB2 hl1
  have hB12 := hB1.trans (hB2.mono hB1.size)
  by_cases ht : a.term = b.term
  case neg =>
    rw [decide_eq_false (fun e => ht (En.eq_iff.1 e).1)]
    ((conv => whnf); (repeat ((first | (refine VL.cons ?_) | (refine VL.nil ?_) | (refine VC.seqS rfl ?_) | (refine VC.region ?_)); (conv => whnf))))
    (repeat (first | ((first | (refine VL.cons ?_) | (refine VL.nil ?_) | (refine VC.ret ?_) | (refine VBool.f ?_) | (refine VBool.dF (by omega) ?_) | (refine VRead.fld ?_)); (conv => whnf)) | (refine VRead.loadB hb1' rfl rfl ?_; (conv => whnf)) | (refine VRead.loadB hb2 rfl rfl ?_; (conv => whnf))))
    exact ⟨rfl, hB12⟩
  by_cases hk : a.cmd = b.cmd
  case neg =>
    rw [decide_eq_false (fun e => hk (En.eq_iff.1 e).2.1)]
    ((conv => whnf); (repeat ((first | (refine VL.cons ?_) | (refine VL.nil ?_) | (refine VC.seqS rfl ?_) | (refine VC.region ?_)); (conv => whnf))))
    (repeat (first | ((first | (refine VL.cons ?_) | (refine VL.nil ?_) | (refine VC.ret ?_) | (refine VBool.t ?_) | (refine VBool.f ?_) | (refine VBool.dT (by omega) ?_) | (refine VBool.dF (by omega) ?_) | (refine VRead.fld ?_) | (refine VRead.eqB ?_)); (conv => whnf)) | (refine VRead.loadB hb1' rfl rfl ?_; (conv => whnf)) | (refine VRead.loadB hb2 rfl rfl ?_; (conv => whnf)) | (refine VBool.dF hk ?_; (conv => whnf))))
    exact ⟨rfl, hB12⟩
  ((conv => whnf); (repeat ((first | (refine VL.cons ?_) | (refine VL.nil ?_) | (refine VC.seqS rfl ?_) | (refine VC.region ?_)); (conv => whnf))))
  (repeat (first | ((first | (refine VL.cons ?_) | (refine VBool.t ?_) | (refine VBool.dT (by omega) ?_) | (refine VRead.fld ?_) | (refine VRead.eqB ?_)); (conv => whnf)) | (refine VRead.loadB hb1' rfl rfl ?_; (conv => whnf)) | (refine VRead.loadB hb2 rfl rfl ?_; (conv => whnf)) | (refine VBool.dT hk ?_; (conv => whnf))))
  refine VSem.convT ((h1.below hB12).more hB12.size) ?_
  ((conv => whnf); (repeat ((first | (refine VL.cons ?_)); (conv => whnf))))
  (repeat (first | ((first | (refine VL.cons ?_) | (refine VBool.t ?_) | (refine VRead.fld ?_)); (conv => whnf)) | (refine VRead.loadB hb1' rfl rfl ?_; (conv => whnf)) | (refine VRead.loadB hb2 rfl rfl ?_; (conv => whnf))))
  refine VSem.convT ((h2.below hB12).more hB12.size) ?_
  ((conv => whnf); (repeat ((first | (refine VL.cons ?_)); (conv => whnf))))
  ((repeat ((first | (refine VL.cons ?_) | (refine VL.nil ?_) | (refine VC.ret ?_) | (refine VBool.t ?_)); (conv => whnf))))
  refine ⟨?_, hB12⟩
  rw [show decide (a = b) = decide (txt a.data = txt b.data) from decide_eq_decide.2 ⟨fun e => by rw [e], fun e => En.eq_iff.2 ⟨ht, hk, txt_inj.1 e⟩⟩]
  rfl
set_option maxHeartbeats 1000000 in
theorem sameEntriesW_any (es fs : List En) (A1 A2 : Option Addr) (n1 c1 n2 c2 : Nat) (V1 V2 : Foot) (w : World) (h1 : EnAt w V1 A1 n1 es) (h2 : EnAt w V2 A2 n2 fs) (hn : n1 ≤ 100000000) :
    Calls Try.prog 44 #[.slice A1 n1 c1, .slice A2 n2 c2] w fun e w' => e = .returned (.bool (decide (es = fs))) ∧ Below w.heap.size w w' := by
  replace h1 : EnAt w (fun j => j < w.heap.size) A1 n1 es := h1.more (fun j hj _ => hj)
  replace h2 : EnAt w (fun j => j < w.heap.size) A2 n2 fs := h2.more (fun j hj _ => hj)
  have l1 := h1.1
  have l2 := h2.1
  refine calls_vc Try.func44 rfl (by kernel_rfl) ?_
  by_cases hl : n1 = n2
  case neg =>
    rw [decide_eq_false (fun e => hl (by rw [← l1, ← l2, e]))]
    ((conv => whnf); (repeat ((first | (refine VL.cons ?_) | (refine VL.nil ?_) | (refine VC.seqS rfl ?_) | (refine VC.region ?_)); (conv => whnf))))
    ((repeat ((first | (refine VL.cons ?_) | (refine VL.nil ?_) | (refine VC.seqS rfl ?_) | (refine VC.region ?_) | (refine VC.cond ?_) | (refine VC.ret ?_) | (refine VBool.nF (by omega) ?_) | (refine VRead.lenS ?_) | (refine VC.seq ?_)); (conv => whnf))))
    exact ⟨rfl, Below.refl _ _⟩
  ((conv => whnf); (repeat ((first | (refine VL.cons ?_) | (refine VL.nil ?_) | (refine VC.seqS rfl ?_) | (refine VC.region ?_)); (conv => whnf))))
  ((repeat ((first | (refine VL.cons ?_) | (refine VL.nil ?_) | (refine VC.seqS rfl ?_) | (refine VC.region ?_) | (refine VC.cond ?_) | (refine VC.block ?_) | (refine VC.skip ?_) | (refine VBool.nT (by omega) ?_) | (refine VRead.lenS ?_) | (refine VC.seq ?_)); (conv => whnf))))
  refine VC.loop [5] [(4, 5), (11, 26)] (fun q vs W => ∃ k : Nat, vs = [.int .i64 (k : Int)] ∧ q = n1 - k ∧ k ≤ n1 ∧ es.take k = fs.take k ∧ Below w.heap.size w W) (by kernel_rfl)
    ⟨_, 0, rfl, rfl, by omega, rfl, Below.refl _ _⟩ ?_
  rintro q τ vs W ⟨k, rfl, rfl, hk, hsame, hB⟩
  by_cases hlt : k < n1
  case neg =>
    have e1 : es = fs := by rwa [List.take_of_length_le (by omega), List.take_of_length_le (by omega)] at hsame
    rw [decide_eq_true e1]
    ((conv => whnf); (repeat ((fail); (conv => whnf))))
    ((repeat ((first | (refine VL.cons ?_) | (refine VL.nil ?_) | (refine VC.seqS rfl ?_) | (refine VC.region ?_) | (refine VC.cond ?_) | (refine VC.exit ?_) | (refine VC.ret ?_) | (refine VBool.dF (by omega) ?_) | (refine VRead.lenS ?_) | (refine VC.seq ?_)); (conv => whnf))))
    exact ⟨rfl, hB⟩
  have hlt2 : k < n2 := by omega
  obtain ⟨a, ha⟩ : ∃ e, es[k]? = some e := ⟨_, List.getElem?_eq_getElem (by omega)⟩
  obtain ⟨b, hb⟩ : ∃ e, fs[k]? = some e := ⟨_, List.getElem?_eq_getElem (by omega)⟩
  obtain ⟨x, D, m, j, rfl, hml, H1⟩ := h1.later ha
  obtain ⟨y, E, p, r, rfl, hpl, H2⟩ := h2.later hb
  have hS : Below w.heap.size w (W.drewN 1) := below_drewN hB 1
  ((conv => whnf); (repeat ((fail); (conv => whnf))))
  ((repeat ((first | (refine VL.cons ?_) | (refine VL.nil ?_) | (refine VC.seqS rfl ?_) | (refine VC.region ?_) | (refine VC.draw ?_) | (refine VC.cond ?_) | (refine VC.block ?_) | (refine VC.skip ?_) | (refine VBool.dT (by omega) ?_) | (refine VRead.lenS ?_) | (refine VC.seq ?_)); (conv => whnf))))
  refine VDraw.seg (fun X => Below w.heap.size w X) [([0, 1, 2, 3, 4, 5, 6, 7], 8)] [9] (by kernel_rfl) (by kernel_rfl) hS ?_
  generalize W.drewN 1 = W1 at *
  (conv => whnf)
  (repeat ((first | (refine VRead.atK hlt ?_) | (refine VRead.atK hlt2 ?_) | (refine VRead.load3WS (fun X hX => ⟨(H1 X hX).1, (H1 X hX).2.1, (H1 X hX).2.2.1⟩) ?_) | (refine VRead.load3WS (fun X hX => ⟨(H2 X hX).1, (H2 X hX).2.1, (H2 X hX).2.2.1⟩) ?_) | (refine VQ.cons ?_) | (refine VQ.nil ?_) | (refine VG.cons ?_)); (conv => whnf)))
  refine VCall.of (sameEntryW_any a b D E m j p r W1 ((H1 W1 hS).2.2.2.more hS.size) ((H2 W1 hS).2.2.2.more hS.size)) ?_
  rintro e W2 ⟨rfl, hB2⟩
  refine ⟨_, rfl, ?_⟩
  have hS2 := hS.trans (hB2.mono hS.size)
  (conv => whnf)
  refine Keep.mk hS2 ?_
  by_cases hab : a = b
  · rw [decide_eq_true hab]
    ((conv => whnf); (repeat ((first | (refine VC.cond ?_) | (refine VQ.cons ?_) | (refine VQ.nil ?_) | (refine VG.nil ?_)); (conv => whnf))))
    ((repeat ((first | (refine VL.cons ?_) | (refine VL.nil ?_) | (refine VC.region ?_) | (refine VC.skip ?_) | (refine VBool.f ?_) | (refine VWrap.i64 (by omega) (by omega) ?_)); (conv => whnf))))
    exact ⟨_, by omega, k + 1, rfl, rfl, by omega, by rw [take_snoc ha, take_snoc hb, hsame, hab], hS2⟩
  · rw [decide_eq_false hab, decide_eq_false (fun e => hab (by rw [e] at ha; rw [ha] at hb; exact Option.some.inj hb))]
    ((conv => whnf); (repeat ((first | (refine VC.cond ?_) | (refine VQ.cons ?_) | (refine VQ.nil ?_) | (refine VG.nil ?_)); (conv => whnf))))
    ((repeat ((first | (refine VL.cons ?_) | (refine VL.nil ?_) | (refine VC.seqS rfl ?_) | (refine VC.region ?_) | (refine VC.ret ?_) | (refine VBool.t ?_)); (conv => whnf))))
    exact ⟨rfl, hS2⟩
end Go.Proofs.Ytebeidnmplnlpaa
end

section
set_option maxRecDepth 10000
namespace Go.Proofs.Ytebeidnmplnlpaa
set_option linter.unusedVariables false
open Go.RowKit

/-- the state of a disk whose only file is a log of bodies -/
def lgS (r c : Int) (n : Nat) (bs : List (List UInt8)) : DS := ⟨k0 r c, [(wName (n : Int), fullF (Frame.laid bs))]⟩
theorem save_says {r c : Int} {n m : Nat} {bs : List (List UInt8)} {k : Kp} {set : Bool} {term vote fr : Int} {es : List En} (h1 : 1 ≤ n) (h2 : n ≤ 99999999) (h : Says bs k) (hs : set = true → inR term 1099511627776 ∧ inR vote 7)
    (hf : 0 < fr → k.base < fr ∧ fr ≤ k.base + k.es.length + 1) (hm : ∀ e ∈ es, mayE e) (hl : k.es.length + es.length ≤ 1000000) (hd : ∀ e ∈ es, e.data.length ≤ m) (hne : set = true ∨ (0 < fr ∧ es ≠ []))
    (hr : ((Frame.laid bs).length : Int) + 100 + ((m + 62) * es.length : Nat) ≤ r) :
    DS.wsave (lgS r c n bs) ⟨n, k.base, k.base + k.es.length⟩ set term vote fr es = ((0, lgS r (c + 2) n (bs ++ saveBs set term vote fr es)), ⟨n, k.base, k.base + (afterS k set term vote fr es).es.length⟩) ∧
      Says (bs ++ saveBs set term vote fr es) (afterS k set term vote fr es) ∧ (Frame.laid (bs ++ saveBs set term vote fr es)).length ≤ (Frame.laid bs).length + 100 + (m + 62) * es.length := by
  have hw := wsB_few (set := set) (term := term) (vote := vote) (fr := fr) hd
  have hbad : ¬ wsBad ⟨n, k.base, k.base + k.es.length⟩ set term vote fr := fun hb => by
    rcases hb with ⟨h3, h4⟩ | ⟨h3, h4⟩
    · exact h4 (hs h3)
    · have := hf h3
      simp only at h4
      omega
  have hnn : wsB set term vote fr es ≠ [] := by
    rcases hne with rfl | ⟨h3, h4⟩
    · unfold wsB wsSet
      rw [if_pos rfl]
      have := Frame.put_pos (recB 1 [term, vote])
      intro e
      have h5 := congrArg List.length e
      simp only [List.length_append, List.length_nil] at h5
      omega
    · cases es with
      | nil => exact absurd rfl h4
      | cons e r => exact entBs_pos h3
  have hsv := wsave_one (r := r) (c := c) h1 h2 (b := Frame.laid bs) hbad hm hnn (by omega)
  have e1 : Frame.laid bs ++ wsB set term vote fr es = Frame.laid (bs ++ saveBs set term vote fr es) := by rw [wsB_laid, Frame.laid_append]
  have e2 : wlast ⟨n, k.base, k.base + k.es.length⟩ fr es = ⟨n, k.base, k.base + (afterS k set term vote fr es).es.length⟩ := by
    unfold wlast afterS
    by_cases h3 : 0 < fr ∧ 0 < es.length
    · rw [if_pos h3, if_pos h3]
      obtain ⟨f1, f2⟩ := hf h3.1
      simp only [List.length_append, List.length_take]
      congr 1
      omega
    · rw [if_neg h3, if_neg h3]
  refine ⟨?_, h.save hs hf hm (by omega), ?_⟩
  · rw [e1, e2] at hsv
    have e3 : c + 1 + 1 = c + 2 := by omega
    rw [e3] at hsv
    exact hsv
  · rw [← e1, List.length_append]
    omega
theorem lgS_new {room : Int} (h0 : 0 ≤ room) (h2 : room ≤ 16777216) (hr : 200 ≤ room) : DS.wopen (DS.new room) = ((0, lgS room 4 1 (waBs Kp.zero)), some (⟨1, 0, 0⟩, Kp.zero)) := by
  rw [wopen_new h0 h2 (by have := zero_len; omega)]
  unfold lgS
  rw [← waB_laid]
  rfl
theorem says_zero : Says (waBs Kp.zero) Kp.zero := says_new (by decide) (by decide)
end Go.Proofs.Ytebeidnmplnlpaa
end

section
set_option maxRecDepth 10000
namespace Go.Proofs.Ytebeidnmplnlpaa
set_option linter.unusedVariables false
open Go.RowKit

end Go.Proofs.Ytebeidnmplnlpaa
end

section
set_option maxRecDepth 10000
namespace Go.Proofs.Ytebeidnmplnlpaa
set_option linter.unusedVariables false
open Go.ChangeShapes Go.WideShapes Go.ChangeAt Go.RowKit

/-- elements of k cells each lie where a slice says -/
def ListAt {α : Type} (W : World) (B k : Nat) (E : α → List Value → Prop) (A : Option Addr) (n : Nat) (l : List α) : Prop :=
  l.length = n ∧ (0 < n → ∃ x, A = some x ∧ x.block < B ∧ ∀ i a, l[i]? = some a → ∃ cs, E a cs ∧ ∀ j u, cs[j]? = some u → W.cell? (x.add (k * i + j)) = some u)
theorem add_blkO (x : Addr) (j : Nat) : (x.add j).block = x.block := by unfold Addr.add; split <;> rfl
section
variable {H : Type} {enc : TypeId × Value → H}
theorem cell_in {W : World} {x : Addr} {u : Value} (h : W.cell? x = some u) : x.block < W.heap.size := by
  unfold World.cell? at h
  cases hb : W.heap[x.block]? with
  | none => rw [hb] at h; cases h
  | some o => exact (Array.getElem?_eq_some_iff.1 hb).1
/-- bytes -/
def EBy (W : World) (l : List UInt8) (cs : List Value) : Prop := ∃ A m c, cs = [.slice A m c] ∧ m ≤ c ∧ c ≤ 140737488351232 ∧ Reads W W.heap.size 1 A m (bv l)
theorem EBy.open {W : World} {n : Nat} {cs : List Value} {y : DataW H × List MemPlace} (h : DataW.trod enc Try.prog W 0 (fun _ => true) true n 31 cs = some y) (hw : ∀ x ∈ y.1.weights Try.prog 31, x ≤ reachBytes) (hl1 : cs.length = 1) : ∃ l, EBy W l cs := by
  obtain ⟨c, rfl⟩ : ∃ c, cs = [c] := by
    match cs, hl1 with
    | [c], _ => exact ⟨c, rfl⟩
  rcases open_ints Try.underlying31 Try.underlying5 (by kernel_rfl) h with ⟨hcs, hx⟩ | ⟨x, l, c', zs, hcs, _, hl, hm, hz, hx, hcell, hwz⟩
  · simp at hcs
    obtain rfl := hcs
    exact ⟨[], none, 0, 0, rfl, Nat.le_refl _, by omega, Reads.none_⟩
  · simp at hcs
    obtain rfl := hcs
    simp only [if_true] at hz
    subst hx
    have h1 := hw _ (by simp only [DataW.weights]; rw [Try.underlying31]; exact List.mem_cons_self ..)
    simp [lits, reachBytes] at h1
    rw [show Try.prog.bytesOf 5 = 1 from by kernel_rfl] at h1
    have hb : ∀ i, i < l → ∃ b : UInt8, W.cell? (x.add i) = some (.int .u8 (b.toNat : Int)) := fun i hi => by
      have h1 := hcell i (by omega)
      have h2 := hwz (zs.getD i 0) (by
        rw [List.getD_eq_getElem?_getD, List.getElem?_eq_getElem (by omega)]
        exact List.getElem_mem _)
      obtain ⟨b, hb⟩ := u8_nat h2
      exact ⟨b, by rw [h1, hb]⟩
    obtain ⟨f, hf⟩ := Deep.choose_lt hb
    refine ⟨(List.range l).map f, some x, l, c', rfl, hl, by omega, by simp [bv], fun hn => ⟨x, rfl, ?_, fun j u hu => ?_⟩⟩
    · have := cell_in (hf 0 hn)
      rwa [show x.add 0 = x from by simp [Addr.add]] at this
    · simp only [bv, List.map_map, List.getElem?_map, Option.map_eq_some_iff] at hu
      obtain ⟨i, hi, rfl⟩ := hu
      have hj : j < l := by have := (List.getElem?_eq_some_iff.1 hi).1; simpa using this
      rw [List.getElem?_range hj] at hi
      obtain rfl := Option.some.inj hi
      exact hf j hj
end
/-- a list of bytes -/
abbrev InYss (W : World) (A : Option Addr) (n : Nat) (l : List (List UInt8)) : Prop := ListAt W W.heap.size 1 (EBy W) A n l
/-- one of them, in all later worlds -/
theorem InYss.later {W : World} {A : Option Addr} {n i : Nat} {l : List (List UInt8)} {b : List UInt8} (h : InYss W A n l) (hb : l[i]? = some b) :
    ∃ x Ab m c, A = some x ∧ m = b.length ∧ m ≤ c ∧ c ≤ 140737488351232 ∧ ∀ W', Below W.heap.size W W' → W'.cell? (x.add i) = some (.slice Ab m c) ∧ Reads W' W.heap.size 1 Ab m (bv b) := by
  have hi := (List.getElem?_eq_some_iff.1 hb).1
  have h1 := h.1
  obtain ⟨x, hA, hx, h3⟩ := h.2 (by omega)
  obtain ⟨cs, ⟨Ab, m, c, rfl, h4, h5, h6⟩, h7⟩ := h3 i b hb
  have h8 := h7 0 _ rfl
  rw [Nat.one_mul, Nat.add_zero] at h8
  refine ⟨x, Ab, m, c, hA, by have := h6.1; rw [bv_length] at this; omega, h4, h5, fun W' hB => ⟨?_, h6.below hB⟩⟩
  rw [hB.cell (by rw [add_blkO]; exact hx)]
  exact h8
end Go.Proofs.Ytebeidnmplnlpaa
end

section
set_option maxRecDepth 10000
namespace Go.Proofs.Ytebeidnmplnlpaa
set_option linter.unusedVariables false
open Go.RowKit

/-! ### behind a crash -/
theorem crash_full (ps : List Int) (i : Nat) (b : List UInt8) : crashF ps i (fullF b) = fullF b := by
  have e : keepN ps i (fullF b) = b.length := by unfold keepN fullF; simp only; omega
  unfold crashF
  rw [e]
  unfold fullF
  simp
end Go.Proofs.Ytebeidnmplnlpaa
end

section
set_option maxRecDepth 10000
namespace Go.Proofs.Ytebeidnmplnlpaa
set_option linter.unusedVariables false
open Go.RowKit

def Quiet (S : DS) : Prop := S.k.armed = false ∧ S.k.off = false
def nrm (S : DS) : DS := ⟨k0 S.k.room S.k.calls, S.t⟩
structure SimR (R R' : Int × DS) : Prop where
  e : R'.1 = R.1
  s : R'.2 = nrm R.2
  q : Quiet R.2
section
variable {S : DS} {s u b nm pre : List UInt8} {f : Fl}
theorem call_q {r c k a : Int} : (⟨r, c, false, k, a, false⟩ : Dk).call = (0, ⟨r, c + 1, false, k, a, false⟩) := rfl
theorem Quiet.form (h : Quiet S) : ∃ r c k a, S = ⟨⟨r, c, false, k, a, false⟩, S.t⟩ := by
  obtain ⟨⟨r, c, x, k, a, y⟩, t⟩ := S
  obtain ⟨h1, h2⟩ := h
  simp only at h1 h2
  subst h1 h2
  exact ⟨r, c, k, a, rfl⟩
theorem create_sim (h : Quiet S) (s : List UInt8) : SimR (S.create s) ((nrm S).create s) := by
  obtain ⟨r, c, k, a, e⟩ := h.form
  generalize S.t = T at e
  subst e
  unfold DS.create nrm
  simp only [call_q, k0_call, ne_eq, not_true_eq_false, if_false]
  split
  · exact ⟨rfl, rfl, rfl, rfl⟩
  · split
    · exact ⟨rfl, rfl, rfl, rfl⟩
    · exact ⟨rfl, rfl, rfl, rfl⟩
theorem put_yes {K : Dk} {T : PT} {x : List UInt8} (h : K.room < (used T : Int) + x.length) : DS.put ⟨K, T⟩ s f x = (18, ⟨K, T⟩) := if_pos h
theorem put_no {K : Dk} {T : PT} {x : List UInt8} (h : ¬ K.room < (used T : Int) + x.length) : DS.put ⟨K, T⟩ s f x = (0, ⟨K, tset T s ⟨f.b ++ x, f.sure⟩⟩) := if_neg h
theorem append_sim (h : Quiet S) (s b : List UInt8) : SimR (S.append s b) ((nrm S).append s b) := by
  obtain ⟨r, c, k, a, e⟩ := h.form
  generalize S.t = T at e
  subst e
  unfold DS.append nrm
  simp only [call_q, k0_call, ne_eq, not_true_eq_false, if_false]
  split
  · exact ⟨rfl, rfl, rfl, rfl⟩
  · cases tfind T s with
    | none => exact ⟨rfl, rfl, rfl, rfl⟩
    | some f =>
      simp only
      by_cases hr : r < (used T : Int) + b.length
      · rw [put_yes (K := ⟨r, c + 1, false, k, a, false⟩) hr, put_yes (K := k0 r (c + 1)) hr]; exact ⟨rfl, rfl, rfl, rfl⟩
      · rw [put_no (K := ⟨r, c + 1, false, k, a, false⟩) hr, put_no (K := k0 r (c + 1)) hr]; exact ⟨rfl, rfl, rfl, rfl⟩
theorem sync_sim (h : Quiet S) (s : List UInt8) : SimR (S.sync s) ((nrm S).sync s) := by
  obtain ⟨r, c, k, a, e⟩ := h.form
  generalize S.t = T at e
  subst e
  unfold DS.sync nrm
  simp only [call_q, k0_call, ne_eq, not_true_eq_false, if_false]
  split
  · exact ⟨rfl, rfl, rfl, rfl⟩
  · cases tfind T s with
    | none => exact ⟨rfl, rfl, rfl, rfl⟩
    | some f => exact ⟨rfl, rfl, rfl, rfl⟩
theorem rename_sim (h : Quiet S) (s u : List UInt8) : SimR (S.rename s u) ((nrm S).rename s u) := by
  obtain ⟨r, c, k, a, e⟩ := h.form
  generalize S.t = T at e
  subst e
  unfold DS.rename nrm
  simp only [call_q, k0_call, ne_eq, not_true_eq_false, if_false]
  split
  · exact ⟨rfl, rfl, rfl, rfl⟩
  · cases tfind T s with
    | none => exact ⟨rfl, rfl, rfl, rfl⟩
    | some f => exact ⟨rfl, rfl, rfl, rfl⟩
theorem remove_sim (h : Quiet S) (s : List UInt8) : SimR (S.remove s) ((nrm S).remove s) := by
  obtain ⟨r, c, k, a, e⟩ := h.form
  generalize S.t = T at e
  subst e
  unfold DS.remove nrm
  simp only [call_q, k0_call, ne_eq, not_true_eq_false, if_false]
  split
  · exact ⟨rfl, rfl, rfl, rfl⟩
  · cases tfind T s with
    | none => exact ⟨rfl, rfl, rfl, rfl⟩
    | some f => exact ⟨rfl, rfl, rfl, rfl⟩
theorem SimR.and {R R' : Int × DS} {f f' : DS → Int × DS} (h : SimR R R') (hf : ∀ S, Quiet S → SimR (f S) (f' (nrm S))) : SimR (andT R f) (andT R' f') := by
  by_cases h0 : R.1 = 0
  · rw [andT_ok h0, andT_ok (h.e.trans h0), h.s]
    exact hf _ h.q
  · rw [andT_no h0, andT_no (fun e => h0 (h.e.symm.trans e))]
    exact h
theorem clear_sim : ∀ (l : List (List UInt8)) (S : DS), Quiet S → SimR (S.clear pre nm l) ((nrm S).clear pre nm l)
  | [], S, h => ⟨rfl, rfl, h⟩
  | x :: r, S, h => by
    rw [clear_cons, clear_cons]
    split
    · exact (remove_sim h x).and (fun S' h' => clear_sim r S' h')
    · exact clear_sim r S h
theorem wrun_sim (nm b : List UInt8) : ∀ (m k : Nat) (S : DS), Quiet S → SimR (wrun nm b m k S) (wrun nm b m k (nrm S))
  | 0, k, S, h => ⟨rfl, rfl, h⟩
  | m + 1, k, S, h => by
    have h1 : SimR (wact nm b k S) (wact nm b k (nrm S)) := by
      unfold wact
      split
      · exact create_sim h _
      · exact append_sim h _ _
      · exact sync_sim h _
      · exact rename_sim h _ _
    exact h1.and (fun S' h' => wrun_sim nm b m (k + 1) S' h')
structure SimW (R R' : (Int × DS) × WlS) : Prop where
  r : SimR R.1 R'.1
  w : R'.2 = R.2
theorem wanew_sim (h : Quiet S) (w : WlS) (k : Kp) : SimW (S.wanew w k) ((nrm S).wanew w k) := by
  have h1 := wrun_sim (wName (w.n + 1)) (waB k) 4 0 S h
  unfold DS.wanew
  split
  · exact ⟨⟨rfl, rfl, h⟩, rfl⟩
  · split
    · exact ⟨⟨rfl, rfl, h⟩, rfl⟩
    · simp only
      rw [h1.e, h1.s]
      split
      · exact ⟨⟨h1.e, h1.s, h1.q⟩, rfl⟩
      · split
        · exact ⟨⟨rfl, rfl, h1.q⟩, rfl⟩
        · have h2 := remove_sim h1.q (wName w.n)
          refine ⟨⟨?_, ?_, ?_⟩, rfl⟩
          · simp only; rw [h2.e]
          · exact h2.s
          · exact h2.q
theorem wnext_sim (h : Quiet S) (c : Scn) : SimW (S.wnext c) ((nrm S).wnext c) := by
  unfold DS.wnext
  split
  · exact ⟨sync_sim h _, rfl⟩
  · exact wanew_sim h _ _
theorem wend_sim {R R' : (Int × DS) × WlS} (h : SimW R R') : SimR (DS.wend R) (DS.wend R') := by
  unfold DS.wend
  rw [h.w]
  exact h.r.and (fun S' h' => clear_sim _ S' h')
/-- a quiet disk is opened as one that nothing ails -/
theorem wopen_sim (h : Quiet S) {X : (Int × DS) × Option (WlS × Kp)} (e : (nrm S).wopen = X) : S.wopen.1.1 = X.1.1 ∧ S.wopen.2 = X.2 ∧ X.1.2 = nrm S.wopen.1.2 := by
  have h1 := wend_sim (wnext_sim h (wScan S.t))
  have h2 := (wnext_sim h (wScan S.t)).w
  have et : (nrm S).t = S.t := rfl
  subst e
  unfold DS.wopen
  rw [et]
  split
  · exact ⟨rfl, rfl, rfl⟩
  · refine ⟨h1.e.symm, ?_, h1.s⟩
    simp only
    rw [h1.e, h2]
theorem crash_q (S : DS) (ps : List Int) : Quiet (S.crash ps) := ⟨rfl, rfl⟩
theorem nrm_crash (S : DS) (ps : List Int) : nrm (S.crash ps) = ⟨k0 S.k.room S.k.calls, crashT ps 0 S.t⟩ := rfl
end
/-! ### what a cut log says -/
end Go.Proofs.Ytebeidnmplnlpaa
end

section
set_option maxRecDepth 10000
namespace Go.Proofs.Ytebeidnmplnlpaa
set_option linter.unusedVariables false
open Go.RowKit

/-- a disk whose power will go -/
abbrev kp (r c n : Int) : Dk := ⟨r, c, true, 19, n, false⟩
theorem tset_one (nm : List UInt8) (f g : Fl) : tset [(nm, f)] nm g = [(nm, g)] := by rw [tset_cons, if_neg (List.lt_irrefl _), if_pos rfl]
theorem inr' {a m : Int} (h : 0 ≤ a) (h2 : a ≤ m) : inR a m := ⟨h, h2⟩
/-! ### WalAnew -/
theorem wtmp_none : wNum wTmp = none := by decide
theorem wrun_or {S : DS} {nm b : List UInt8} {T0 : PT} (hnm : nameOk nm) (ht : S.t = T0) (hl : T0.length < 64) (hT : ∀ p ∈ T0, p.1 < wTmp) :
    ((wrun nm b 4 0 S).1 = 0 ∧ (wrun nm b 4 0 S).2.t = tset T0 nm (fullF b)) ∨ ((wrun nm b 4 0 S).1 ≠ 0 ∧ ((wrun nm b 4 0 S).2.t = T0 ∨ ∃ f, f.sure ≤ f.b.length ∧ (wrun nm b 4 0 S).2.t = T0 ++ [(wTmp, f)])) := by
  show ((andT (S.create wTmp) (fun S1 => andT (S1.append wTmp b) fun S2 => andT (S2.sync wTmp) fun S3 => andT (S3.rename wTmp nm) fun S4 => (0, S4))).1 = 0 ∧ (andT (S.create wTmp) (fun S1 => andT (S1.append wTmp b) fun S2 => andT (S2.sync wTmp) fun S3 => andT (S3.rename wTmp nm) fun S4 => (0, S4))).2.t = _) ∨
    ((andT (S.create wTmp) (fun S1 => andT (S1.append wTmp b) fun S2 => andT (S2.sync wTmp) fun S3 => andT (S3.rename wTmp nm) fun S4 => (0, S4))).1 ≠ 0 ∧ ((andT (S.create wTmp) (fun S1 => andT (S1.append wTmp b) fun S2 => andT (S2.sync wTmp) fun S3 => andT (S3.rename wTmp nm) fun S4 => (0, S4))).2.t = T0 ∨ ∃ f, f.sure ≤ f.b.length ∧ (andT (S.create wTmp) (fun S1 => andT (S1.append wTmp b) fun S2 => andT (S2.sync wTmp) fun S3 => andT (S3.rename wTmp nm) fun S4 => (0, S4))).2.t = T0 ++ [(wTmp, f)]))
  rcases create_or (S := S) wTmp_ok (by rw [ht]; exact hl) with ⟨c1, c2⟩ | ⟨c1, c2⟩
  case inr => rw [andT_no c1]; exact .inr ⟨c1, .inl (c2.trans ht)⟩
  rw [andT_ok c1]
  rw [ht, tset_last hT] at c2
  obtain ⟨f1, a1, a2, a3⟩ := append_or (S := (S.create wTmp).2) (b := b) wTmp_ok (f := ⟨[], 0⟩) (by rw [c2]; exact tfind_last hT) (by rw [c2]; exact tset_lastA hT)
  rw [c2, tset_lastA hT] at a1
  generalize (S.create wTmp).2.append wTmp b = X at *
  by_cases c3 : X.1 = 0
  case neg => rw [andT_no c3]; exact .inr ⟨c3, .inr ⟨f1, by rw [a2]; exact Nat.zero_le _, a1⟩⟩
  rw [andT_ok c3]
  have e1 : f1.b = b := by rw [a3 c3]; rfl
  rcases sync_or (S := X.2) wTmp_ok (f := f1) (by rw [a1]; exact tfind_last hT) with ⟨d1, d2⟩ | ⟨d1, d2⟩
  case inr => rw [andT_no d1]; exact .inr ⟨d1, .inr ⟨f1, by rw [a2]; exact Nat.zero_le _, d2.trans a1⟩⟩
  rw [andT_ok d1]
  rw [a1, tset_lastA hT] at d2
  generalize X.2.sync wTmp = Y at *
  rcases rename_or (S := Y.2) wTmp_ok hnm (f := ⟨f1.b, f1.b.length⟩) (by rw [d2]; exact tfind_last hT) with ⟨g1, g2⟩ | ⟨g1, g2⟩
  case inr => rw [andT_no g1]; exact .inr ⟨g1, .inr ⟨_, Nat.le_refl _, g2.trans d2⟩⟩
  rw [andT_ok g1]
  rw [d2, tdel_last hT, e1] at g2
  exact .inl ⟨rfl, g2⟩
theorem wName12 : wName 1 < wName 2 := w_lt (n := 1) (m := 2) (by decide) (by decide) (by decide)
theorem wname_nm1 : nameOk (wName 1) := wName_nm (n := 1) (by decide) (by decide)
theorem wname_nm2 : nameOk (wName 2) := wName_nm (n := 2) (by decide) (by decide)
theorem wName_12 : wName 1 ≠ wName 2 := fun e => List.lt_irrefl _ (e ▸ wName12)
theorem wName1_tmp : wName 1 ≠ wTmp := fun e => List.lt_irrefl (wName 1) (by
  have := w_lt_tmp (n := 1) (by decide) (by decide)
  rw [← e] at this
  exact this)
/-- a log laid anew over a log of one file, whatever ails the disk -/
theorem wanew_or {S : DS} {f : Fl} {base last : Int} {k : Kp} (ht : S.t = [(wName 1, f)]) (hk : mayK k) : ∀ R, DS.wanew S ⟨1, base, last⟩ k = R →
    (R.1.1 ≠ 0 ∧ (R.1.2.t = [(wName 1, f)] ∨ ∃ g, g.sure ≤ g.b.length ∧ R.1.2.t = [(wName 1, f), (wTmp, g)])) ∨ R.1.2.t = [(wName 1, f), (wName 2, fullF (waB k))] ∨ R.1.2.t = [(wName 2, fullF (waB k))] := by
  intro R hR
  have w2 : ¬ wName 2 = [] := wName_ne (n := 2) (by decide) (by decide)
  have w1 : ¬ wName 1 = [] := wName_ne (n := 1) (by decide) (by decide)
  unfold DS.wanew at hR
  rw [if_neg (fun h => h hk)] at hR
  simp only at hR
  rw [show (1 : Int) + 1 = 2 from rfl, if_neg w2] at hR
  have h1 := wrun_or (S := S) (nm := wName 2) (b := waB k) wname_nm2 ht (by simp) (fun p hp => by
    obtain rfl : p = _ := by simpa using hp
    exact w_lt_tmp (n := 1) (by decide) (by decide))
  generalize wrun (wName 2) (waB k) 4 0 S = Q at *
  rcases h1 with ⟨q1, q2⟩ | ⟨q1, q2⟩
  case inr =>
    rw [if_pos q1] at hR
    subst hR
    exact .inl ⟨q1, q2⟩
  rw [if_neg (not_not_intro q1), if_neg w1] at hR
  rw [tset_cons, if_neg (fun h => List.lt_irrefl _ (List.lt_trans h wName12)), if_neg wName_12, tset_nil] at q2
  right
  rcases remove_or (S := Q.2) (s := wName 1) wname_nm1 (f := f) (by rw [q2]; unfold tfind; rw [if_pos rfl]) with ⟨r1, r2⟩ | ⟨r1, r2⟩
  · right
    subst hR
    show (Q.2.remove (wName 1)).2.t = _
    rw [r2, q2]
    exact tdel_eq (A := []) (B := [(wName 2, fullF (waB k))]) (by simpa using wName_12)
  · left
    subst hR
    exact r2.trans q2
theorem open_wtmp {r c : Int} {f g : Fl} {k : Kp} (hr : readW f.b = some k) (hw : isWhole f.b = true) :
    DS.wopen ⟨k0 r c, [(wName 1, f), (wTmp, g)]⟩ = ((0, ⟨k0 r (c + 1 + 1), [(wName 1, fullF f.b)]⟩), some (⟨1, k.base, k.base + k.es.length⟩, k)) := by
  have hsc : wScan [(wName 1, f), (wTmp, g)] = ⟨true, 1, k, true⟩ := by
    show woStep (woStep ⟨false, 0, Kp.zero, false⟩ (wName 1, f)) (wTmp, g) = _
    have h1 : woStep ⟨false, 0, Kp.zero, false⟩ (wName 1, f) = ⟨true, 1, k, true⟩ := by
      have := wScan_one (n := 1) (f := f) (by decide) (by decide) hr
      rw [hw] at this
      exact this
    rw [h1]
    unfold woStep
    simp only
    rw [wtmp_none]
  have e2 : DS.wnext ⟨k0 r c, [(wName 1, f), (wTmp, g)]⟩ ⟨true, 1, k, true⟩ = ((0, ⟨k0 r (c + 1), [(wName 1, fullF f.b), (wTmp, g)]⟩), ⟨1, k.base, k.base + k.es.length⟩) := by
    unfold DS.wnext
    rw [if_pos rfl]
    simp only
    have hs := k0_sync (r := r) (c := c) (T := [(wName 1, f), (wTmp, g)]) wname_nm1 (f := f) (by unfold tfind; rw [if_pos rfl])
    rw [tset_cons, if_neg (List.lt_irrefl _), if_pos rfl] at hs
    show (DS.sync _ (wName 1), _) = _
    rw [hs]
    rfl
  have e3 : DS.wend ((0, ⟨k0 r (c + 1), [(wName 1, fullF f.b), (wTmp, g)]⟩), ⟨1, k.base, k.base + k.es.length⟩) = (0, ⟨k0 r (c + 1 + 1), [(wName 1, fullF f.b)]⟩) := by
    unfold DS.wend
    rw [andT_ok rfl]
    show DS.clear ⟨k0 r (c + 1), [(wName 1, fullF f.b), (wTmp, g)]⟩ wPre (wName 1) [wName 1, wTmp] = _
    rw [clear_cons, if_neg (fun e => e.2 rfl), clear_cons, if_pos ⟨by decide, fun e => wName1_tmp e.symm⟩, k0_remove wTmp_ok (f := g) (by unfold tfind; rw [if_neg wName1_tmp]; unfold tfind; rw [if_pos rfl]), andT_ok rfl]
    simp only
    rw [show tdel [(wName 1, fullF f.b), (wTmp, g)] wTmp = [(wName 1, fullF f.b)] from tdel_eq (A := [(wName 1, fullF f.b)]) (B := []) (by simpa using wName1_tmp)]
    rfl
  unfold DS.wopen
  simp only
  rw [hsc]
  simp only
  rw [if_neg (by omega), e2, e3, if_pos rfl]
theorem open_two {r c : Int} {f g : Fl} {k k' : Kp} (hr1 : readW f.b = some k') (hr : readW g.b = some k) (hw : isWhole g.b = true) :
    DS.wopen ⟨k0 r c, [(wName 1, f), (wName 2, g)]⟩ = ((0, ⟨k0 r (c + 1 + 1), [(wName 2, fullF g.b)]⟩), some (⟨2, k.base, k.base + k.es.length⟩, k)) := by
  have hn2 : wNum (wName 2) = some 2 := wNum_name (n := 2) (by decide) (by decide)
  have hsc : wScan [(wName 1, f), (wName 2, g)] = ⟨true, 2, k, true⟩ := by
    show woStep (woStep ⟨false, 0, Kp.zero, false⟩ (wName 1, f)) (wName 2, g) = _
    unfold woStep
    simp only
    rw [hn2]
    simp only
    rw [hr, hw]
  have e2 : DS.wnext ⟨k0 r c, [(wName 1, f), (wName 2, g)]⟩ ⟨true, 2, k, true⟩ = ((0, ⟨k0 r (c + 1), [(wName 1, f), (wName 2, fullF g.b)]⟩), ⟨2, k.base, k.base + k.es.length⟩) := by
    unfold DS.wnext
    rw [if_pos rfl]
    simp only
    have hs := k0_sync (r := r) (c := c) (T := [(wName 1, f), (wName 2, g)]) wname_nm2 (f := g) (by unfold tfind; rw [if_neg wName_12]; unfold tfind; rw [if_pos rfl])
    rw [tset_cons, if_neg (fun h => List.lt_irrefl _ (List.lt_trans h wName12)), if_neg wName_12, tset_one] at hs
    show (DS.sync _ (wName 2), _) = _
    rw [hs]
    rfl
  have e3 : DS.wend ((0, ⟨k0 r (c + 1), [(wName 1, f), (wName 2, fullF g.b)]⟩), ⟨2, k.base, k.base + k.es.length⟩) = (0, ⟨k0 r (c + 1 + 1), [(wName 2, fullF g.b)]⟩) := by
    unfold DS.wend
    rw [andT_ok rfl]
    show DS.clear ⟨k0 r (c + 1), [(wName 1, f), (wName 2, fullF g.b)]⟩ wPre (wName 2) [wName 1, wName 2] = _
    rw [clear_cons, if_pos ⟨isPre_w (n := 1) (by decide) (by decide), wName_12⟩, k0_remove wname_nm1 (f := f) (by unfold tfind; rw [if_pos rfl]), andT_ok rfl]
    simp only
    rw [show tdel [(wName 1, f), (wName 2, fullF g.b)] (wName 1) = [(wName 2, fullF g.b)] from tdel_eq (A := []) (B := [(wName 2, fullF g.b)]) (by simpa using wName_12), clear_cons, if_neg (fun e => e.2 rfl)]
    rfl
  unfold DS.wopen
  simp only
  rw [hsc]
  simp only
  rw [if_neg (by omega), e2, e3, if_pos rfl]
theorem anew_open {S : DS} {bs : List (List UInt8)} {a k : Kp} {base last : Int} (ht : S.t = [(wName 1, fullF (Frame.laid bs))]) (hS : Says bs a) (hk : mayK k) (hl : k.es.length ≤ 1000000) (ps : List Int) :
    ∀ R, DS.wanew S ⟨1, base, last⟩ k = R → (R.1.2.crash ps).wopen.1.1 = 0 ∧ (R.1.2.crash ps).wopen.1.2.t.length = 1 ∧ ∃ wl K, (R.1.2.crash ps).wopen.2 = some (wl, K) ∧ (K = k ∨ (R.1.1 ≠ 0 ∧ K = a)) := by
  intro R hR
  obtain ⟨r1, r2⟩ := hS.read
  obtain ⟨n1, n2⟩ := (says_new hk hl).read
  rw [← waB_laid] at n1 n2
  have hq := crash_q R.1.2 ps
  have go : ∀ {T : PT} {c' : Int} {nm b : List UInt8} {wl : WlS} {K : Kp}, crashT ps 0 R.1.2.t = T → DS.wopen ⟨k0 R.1.2.k.room R.1.2.k.calls, T⟩ = ((0, ⟨k0 R.1.2.k.room c', [(nm, fullF b)]⟩), some (wl, K)) →
      (R.1.2.crash ps).wopen.1.1 = 0 ∧ (R.1.2.crash ps).wopen.1.2.t.length = 1 ∧ (R.1.2.crash ps).wopen.2 = some (wl, K) := fun {T c' nm b wl K} e h => by
    have e2 := nrm_crash R.1.2 ps
    rw [e] at e2
    have h' : (nrm (R.1.2.crash ps)).wopen = ((0, ⟨k0 R.1.2.k.room c', [(nm, fullF b)]⟩), some (wl, K)) := by rw [e2]; exact h
    obtain ⟨h1, h2, h3⟩ := wopen_sim hq h'
    refine ⟨h1, ?_, h2⟩
    have h4 : ([(nm, fullF b)] : PT) = _ := congrArg DS.t h3
    have h5 := congrArg List.length h4
    exact h5.symm
  rcases wanew_or ht hk R hR with ⟨e0, e1 | ⟨g, hg, e1⟩⟩ | e1 | e1
  · have e2 : crashT ps 0 R.1.2.t = [(wName 1, fullF (Frame.laid bs))] := by rw [e1]; show [(wName 1, crashF ps 0 (fullF (Frame.laid bs)))] = _; rw [crash_full]
    obtain ⟨h1, h2, h3⟩ := go e2 (wopen_one (r := R.1.2.k.room) (c := R.1.2.k.calls) (n := 1) (f := fullF (Frame.laid bs)) (by decide) (by decide) r1 r2)
    exact ⟨h1, h2, _, _, h3, .inr ⟨e0, rfl⟩⟩
  · have e2 : crashT ps 0 R.1.2.t = [(wName 1, fullF (Frame.laid bs)), (wTmp, crashF ps 1 g)] := by rw [e1]; show [(wName 1, crashF ps 0 (fullF (Frame.laid bs))), (wTmp, crashF ps 1 g)] = _; rw [crash_full]
    obtain ⟨h1, h2, h3⟩ := go e2 (open_wtmp (r := R.1.2.k.room) (c := R.1.2.k.calls) (f := fullF (Frame.laid bs)) r1 r2)
    exact ⟨h1, h2, _, _, h3, .inr ⟨e0, rfl⟩⟩
  · have e2 : crashT ps 0 R.1.2.t = [(wName 1, fullF (Frame.laid bs)), (wName 2, fullF (waB k))] := by rw [e1]; show [(wName 1, crashF ps 0 (fullF (Frame.laid bs))), (wName 2, crashF ps 1 (fullF (waB k)))] = _; rw [crash_full, crash_full]
    obtain ⟨h1, h2, h3⟩ := go e2 (open_two (r := R.1.2.k.room) (c := R.1.2.k.calls) (f := fullF (Frame.laid bs)) (g := fullF (waB k)) r1 n1 n2)
    exact ⟨h1, h2, _, _, h3, .inl rfl⟩
  · have e2 : crashT ps 0 R.1.2.t = [(wName 2, fullF (waB k))] := by rw [e1]; show [(wName 2, crashF ps 0 (fullF (waB k)))] = _; rw [crash_full]
    obtain ⟨h1, h2, h3⟩ := go e2 (wopen_one (r := R.1.2.k.room) (c := R.1.2.k.calls) (n := 2) (f := fullF (waB k)) (by decide) (by decide) n1 n2)
    exact ⟨h1, h2, _, _, h3, .inl rfl⟩
end Go.Proofs.Ytebeidnmplnlpaa
end

section
set_option maxRecDepth 10000
namespace Go.Proofs.Ytebeidnmplnlpaa
set_option linter.unusedVariables false
open Go.RowKit

theorem bv2 {i j : Nat} (hi : i < 256) (hj : j < 256) : bv [UInt8.ofNat i, UInt8.ofNat j] = [.int .u8 (i : Int), .int .u8 (j : Int)] := by
  unfold bv
  simp only [List.map_cons, List.map_nil, UInt8.toNat_ofNat']
  rw [Nat.mod_eq_of_lt (by omega), Nat.mod_eq_of_lt (by omega)]
end Go.Proofs.Ytebeidnmplnlpaa
end

section
set_option maxRecDepth 10000
namespace Go.Proofs.Ytebeidnmplnlpaa
set_option linter.unusedVariables false
open Go.RowKit

theorem bv1' {i : Nat} (hi : i < 256) : bv [UInt8.ofNat i] = [.int .u8 (i : Int)] := by
  unfold bv
  simp only [List.map_cons, List.map_nil, UInt8.toNat_ofNat']
  rw [Nat.mod_eq_of_lt (by omega)]
end Go.Proofs.Ytebeidnmplnlpaa
end

section
set_option maxRecDepth 10000
namespace Go.Proofs.Ytebeidnmplnlpaa
set_option linter.unusedVariables false
open Go.RowKit

def xE (i : Nat) : En := ⟨2, false, [UInt8.ofNat i]⟩
def xK (n : Nat) : List En := (List.range n).map xE
theorem xK_succ (n : Nat) : xK (n + 1) = xK n ++ [xE n] := by unfold xK; rw [List.range_succ, List.map_append]; rfl
theorem xK_len (n : Nat) : (xK n).length = n := by unfold xK; simp
theorem xK_all {n : Nat} : ∀ e ∈ xK n, mayE e ∧ e.data.length ≤ 10 := fun e he => by
  unfold xK at he
  obtain ⟨j, _, rfl⟩ := List.mem_map.1 he
  exact ⟨⟨by show (1 : Int) ≤ 2; decide, by show (2 : Int) ≤ 1099511627776; decide, by show 1 ≤ 1048476; decide⟩, by show 1 ≤ 10; decide⟩
def yE (i : Nat) : En := ⟨5, true, [9, UInt8.ofNat i]⟩
def yK (n : Nat) : List En := (List.range n).map yE
theorem yK_succ (n : Nat) : yK (n + 1) = yK n ++ [yE n] := by unfold yK; rw [List.range_succ, List.map_append]; rfl
theorem yK_len (n : Nat) : (yK n).length = n := by unfold yK; simp
theorem yK_all {n : Nat} : ∀ e ∈ yK n, mayE e ∧ e.data.length ≤ 10 := fun e he => by
  unfold yK at he
  obtain ⟨j, _, rfl⟩ := List.mem_map.1 he
  exact ⟨⟨by show (1 : Int) ≤ 5; decide, by show (5 : Int) ≤ 1099511627776; decide, by show 2 ≤ 1048476; decide⟩, by show 2 ≤ 10; decide⟩
theorem bv9 {i : Nat} (hi : i < 256) : bv [9, UInt8.ofNat i] = [.int .u8 9, .int .u8 (i : Int)] := by
  have := bv2 (i := 9) (j := i) (by decide) hi
  exact this
theorem anew_first {a : List En} (ha : ∀ e ∈ a, mayE e ∧ e.data.length ≤ 10) (hl : a.length ≤ 15) :
    ∃ bs, DS.wsave (lgS 1048576 4 1 (waBs Kp.zero)) ⟨1, 0, 0⟩ true 4 3 1 a = ((0, lgS 1048576 6 1 bs), ⟨1, 0, a.length⟩) ∧ Says bs ⟨4, 3, 0, 0, a⟩ := by
  have hz := zero_len
  rw [waB_laid] at hz
  obtain ⟨a1, a2, a3⟩ := save_says (r := 1048576) (c := 4) (n := 1) (m := 10) (set := true) (term := 4) (vote := 3) (fr := 1) (es := a) (by decide) (by decide) says_zero (fun _ => ⟨inr' (by decide) (by decide), inr' (by decide) (by decide)⟩)
    (fun h => ⟨by show (0 : Int) < 1; decide, by show (1 : Int) ≤ 0 + ((0 : Nat) : Int) + 1; decide⟩) (fun e he => (ha e he).1) (by show 0 + a.length ≤ 1000000; omega) (fun e he => (ha e he).2) (.inl rfl) (by omega)
  have eA : afterS Kp.zero true 4 3 1 a = ⟨4, 3, 0, 0, a⟩ := by
    unfold afterS Kp.zero
    simp only [if_true, List.take_nil, List.nil_append]
    by_cases h : 0 < a.length
    · rw [if_pos ⟨by omega, h⟩]
    · rw [if_neg (fun e => h e.2), List.eq_nil_of_length_eq_zero (l := a) (by omega)]
  rw [eA] at a1 a2
  refine ⟨_, ?_, a2⟩
  have e2 : (Kp.zero.base + (a.length : Int)) = (a.length : Int) := by show (0 : Int) + _ = _; omega
  simp only at a1
  rw [e2] at a1
  exact a1
end Go.Proofs.Ytebeidnmplnlpaa
end

section
set_option maxRecDepth 10000
namespace Go.Proofs.Ytebeidnmplnlpaa
set_option linter.unusedVariables false
open Go.RowKit

set_option maxHeartbeats 4000000 in
theorem walAnew_walk (n base m after : Int) (A3 : Option Addr) (n3 c3 : Nat) (ps : List Int) (W : World)
    (hn : -9223372036854775808 ≤ n ∧ n ≤ 9223372036854775807) (hbase : -9223372036854775808 ≤ base ∧ base ≤ 9223372036854775807) (hm : -9223372036854775808 ≤ m ∧ m ≤ 9223372036854775807) (haf : -9223372036854775808 ≤ after ∧ after ≤ 9223372036854775807) (h3 : InInts W A3 n3 c3 ps) :
    Calls Try.prog 12 #[.int .i64 n, .int .i64 base, .int .i64 m, .int .i64 after, .slice A3 n3 c3] W fun e W' => e = .returned (.bool true) ∧ Below W.heap.size W W' := by
  obtain ⟨hr3, hnc3, hcc3, hzs3⟩ := h3
  have p0 := Int.emod_nonneg n (show (10 : Int) ≠ 0 by decide)
  have p1 := Int.emod_lt_of_pos n (show (0 : Int) < 10 by decide)
  obtain ⟨N, hN⟩ : ∃ N : Nat, n % 10 = (N : Int) := ⟨(n % 10).toNat, by omega⟩
  rw [hN] at p0 p1
  have m0 := Int.emod_nonneg m (show (6 : Int) ≠ 0 by decide)
  have m1 := Int.emod_lt_of_pos m (show (0 : Int) < 6 by decide)
  obtain ⟨M, hM⟩ : ∃ M : Nat, m % 6 = (M : Int) := ⟨(m % 6).toNat, by omega⟩
  rw [hM] at m0 m1
  have b0 := Int.emod_nonneg base (show (1073741824 : Int) ≠ 0 by decide)
  have b1 := Int.emod_lt_of_pos base (show (0 : Int) < 1073741824 by decide)
  obtain ⟨B, hBe⟩ : ∃ B : Int, base % 1073741824 = B := ⟨_, rfl⟩
  rw [hBe] at b0 b1
  have r0 := Int.emod_nonneg after (show (7 : Int) ≠ 0 by decide)
  have r1 := Int.emod_lt_of_pos after (show (0 : Int) < 7 by decide)
  obtain ⟨t, ht⟩ : ∃ t : Int, after % 7 = t := ⟨_, rfl⟩
  rw [ht] at r0 r1
  refine calls_vc Try.func12 rfl (by kernel_rfl) ?_
  ((conv => whnf); (repeat ((first | (refine VL.cons ?_) | (refine VL.nil ?_) | (refine VC.seqS rfl ?_) | (refine VC.region ?_)); (conv => whnf))))
  ((repeat ((fail); (conv => whnf))))
  refine VCall.of (oNew W 1048576) ?_
  rintro e W1 ⟨d, U, rfl, hd1, hUB, hB1⟩
  refine ⟨_, rfl, ?_⟩
  ((conv => whnf); (repeat ((first | (refine VL.cons ?_) | (refine VL.nil ?_) | (refine VC.seqS rfl ?_) | (refine VC.region ?_)); (conv => whnf))))
  ((repeat ((fail); (conv => whnf))))
  refine VCall.of (walOpen_any W1 U d (DS.new 1048576) hd1 (by decide)) ?_
  rw [lgS_new (room := 1048576) (by decide) (by decide) (by decide)]
  rintro e W2 ⟨U2, hd2, st2, g, Ak, nk, ck, rfl, hw2, hg2, hgl2, hE2⟩
  refine ⟨_, rfl, ?_⟩
  simp only at hd2 hw2 hE2 ⊢
  have hUB2 := st2.min hUB hB1.size
  have hB2 : Below W.heap.size W W2 := hB1.trans (st2.below hUB hB1.size)
  ((conv => whnf); (repeat ((first | (refine VL.cons ?_)); (conv => whnf))))
  ((repeat ((fail); (conv => whnf))))
  refine VSem.allocZ (z := .agg (kC Kp.zero none 0 0)) (by kernel_rfl) ?_
  intro W3 q hq hqe hql hB3
  ((conv => whnf); (repeat ((first | (refine VL.cons ?_)); (conv => whnf))))
  ((repeat ((fail); (conv => whnf))))
  refine VUnit.storeAB hq rfl rfl rfl (by simp [kC, Kp.zero, Value.oneCell']) ?_
  intro X hq4 hg4
  have hB24 : Below W2.heap.size W2 X := only_new hB3 hg4 (by omega) (by omega)
  have hd := hd2.below hB24
  have hw := hw2.later hB24
  have hX := hB2.trans (hB24.mono hB2.size)
  have hgW : W.heap.size ≤ g := by have := hB1.size; omega
  have zX := hX.size
  clear hq hqe hql hB3 hq4 hg4 hB24 hE2 hd2 hw2 hB2 st2 hUB hd1 hgl2 hB1
  ((conv => whnf); (repeat ((first | (refine VL.cons ?_) | (refine VL.nil ?_)); (conv => whnf))))
  ((repeat ((fail); (conv => whnf))))
  ((refine VC.seq ?_; (conv => whnf)))
  ((repeat ((first | (refine VL.cons ?_) | (refine VL.nil ?_) | (refine VC.seqS rfl ?_) | (refine VC.region ?_) | (refine VC.cond ?_) | (refine VC.skip ?_) | (refine VBool.f ?_) | (refine VRead.eqPN ?_)); (conv => whnf))))
  refine VC.cut [15] [(15, 16), (37, 49)] (fun vs Y => ∃ (Al : Option Addr) (cl : Nat), vs = [.slice Al N cl] ∧ ERow Y (fun q => X.heap.size ≤ q) X.heap.size (.slice Al N cl) (xK N) ∧ Below X.heap.size X Y) (by kernel_rfl) ?_ ?_
  · ((conv => whnf); (repeat ((first | (refine VL.cons ?_) | (refine VL.nil ?_) | (refine VC.seqS rfl ?_) | (refine VC.region ?_) | (refine VC.block ?_)); (conv => whnf))))
    ((repeat ((fail); (conv => whnf))))
    refine VC.loop [15, 16] [(15, 16), (37, 49)] (fun m vs Y => ∃ (j : Nat) (Al : Option Addr) (cl : Nat), vs = [.slice Al j cl, .int .i64 (j : Int)] ∧ m = 15 - j ∧ j ≤ N ∧ ERow Y (fun q => X.heap.size ≤ q) X.heap.size (.slice Al j cl) (xK j) ∧ Below X.heap.size X Y) (by kernel_rfl)
      ⟨_, 0, none, 0, rfl, rfl, by omega, ERow.nil _ _ _, Below.refl _ _⟩ ?_
    rintro m' τ vs Y ⟨j, Al, cl, rfl, rfl, hj, hE, hY⟩
    ((conv => whnf); (repeat ((fail); (conv => whnf))))
    ((repeat ((first | (refine VL.cons ?_) | (refine VC.seqS rfl ?_) | (refine VC.region ?_) | (refine VC.seq ?_)); (conv => whnf))))
    refine VCall.of (place_any n 10 Y hn (by decide) (by decide)) ?_
    rintro e Y' ⟨rfl, eW⟩
    obtain rfl := eW.symm
    refine ⟨_, rfl, ?_⟩
    rw [hN]
    by_cases hlt : j < N
    case neg =>
      obtain rfl : j = N := by omega
      ((conv => whnf); (repeat ((first | (refine VL.cons ?_) | (refine VL.nil ?_) | (refine VC.cond ?_)); (conv => whnf))))
      ((repeat ((first | (refine VC.exit ?_) | (refine VBool.dF (by omega) ?_)); (conv => whnf))))
      exact ⟨Al, cl, rfl, hE, hY⟩
    have zY := hY.size
    ((conv => whnf); (repeat ((first | (refine VL.cons ?_) | (refine VL.nil ?_) | (refine VC.cond ?_)); (conv => whnf))))
    (repeat ((first | (refine VWrap.u8 (by omega) (by omega) ?_) | (refine VL.cons ?_) | (refine VC.region ?_) | (refine VC.block ?_) | (refine VC.skip ?_) | (refine VBool.dT (by omega) ?_) | (refine VSem.convI ?_) | (refine VC.seq ?_)); (conv => whnf)))
    refine VSem.buildR (ps := [(0, .int .u8 (j : Int))]) rfl rfl (by simp [Value.oneCell']) (by omega) ?_
    intro Y1 hO1 hB1' hz1
    replace hO1 : Own Y1 Y.heap.size (.slice (some ⟨Y.heap.size, 0, none⟩) 1 1) 1 (xE j).data := by
      show Y1.ownsRow _ _ _ _ _ (bv [UInt8.ofNat j])
      rw [bv1' (by omega)]
      exact hO1
    ((conv => whnf); (repeat ((first | (refine VL.cons ?_)); (conv => whnf))))
    ((repeat ((fail); (conv => whnf))))
    refine VRead.ofW (v := .agg #[.int .i64 2, .bool false, .slice (some ⟨Y.heap.size, 0, none⟩) 1 1]) (fun _ => by kernel_rfl) ?_
    ((conv => whnf); (repeat ((first | (refine VL.cons ?_)); (conv => whnf))))
    ((repeat ((fail); (conv => whnf))))
    refine VSem.of (v := .slice (some ⟨Y1.heap.size, 0, none⟩) 1 1) (w' := Y1.alloc (.cells #[.int .i64 2, .bool false, .slice (some ⟨Y.heap.size, 0, none⟩) 1 1] 67)) (by kernel_rfl) ?_
    have hnew := Blk.new Y1 67 #[.int .i64 2, .bool false, .slice (some ⟨Y.heap.size, 0, none⟩) 1 1]
    have hB2' : Below Y1.heap.size Y1 (Y1.alloc (.cells #[.int .i64 2, .bool false, .slice (some ⟨Y.heap.size, 0, none⟩) 1 1] 67)) := (Below.refl _ Y1).alloc (Nat.le_refl _) _
    generalize Y1.alloc (.cells #[.int .i64 2, .bool false, .slice (some ⟨Y.heap.size, 0, none⟩) 1 1] 67) = Y2 at *
    have hYY := hB1'.trans (hB2'.mono hB1'.size)
    have hX2 := hY.trans (hYY.mono zY)
    have z2 := hX2.size
    have hO2 := hO1.below hB2' (Nat.le_refl _)
    have hE2 := hE.below hYY
    ((conv => whnf); (repeat ((first | (refine VL.cons ?_)); (conv => whnf))))
    ((repeat ((fail); (conv => whnf))))
    refine ERow.app hE2 (EnAt.one (e := xE j) hnew (by show X.heap.size ≤ Y1.heap.size; omega) (Nat.le_refl 1) (Lies.of_own (B := X.heap.size) (hO2.more (B' := X.heap.size) zY) (fun j hj => hj))) (by omega) (by omega) (fun j hj => by show X.heap.size ≤ j; omega) ?_
    intro A7 c7 Y3 hE3 hg3
    rw [← xK_succ] at hE3
    ((conv => whnf); (repeat ((first | (refine VL.cons ?_) | (refine VL.nil ?_) | (refine VC.region ?_)); (conv => whnf))))
    ((repeat ((first | (refine VL.cons ?_) | (refine VL.nil ?_) | (refine VWrap.i64 (by omega) (by omega) ?_)); (conv => whnf))))
    exact ⟨_, by omega, j + 1, A7, c7, rfl, rfl, by omega, hE3, hX2.grown hg3 z2 (fun j hj => (hE2.lt hj).2)⟩
  rintro τ vs Y ⟨Aa, ca, rfl, hEa0, hXY⟩
  have hal := xK_len N
  have haA := xK_all (n := N)
  have hd' := hd.below hXY
  have hw' := hw.later hXY
  have hWY := hX.trans (hXY.mono zX)
  have hUl := hd.lt
  have hgl := hw.lt
  have hEa : ERow Y (NotU (addF U2 g)) X.heap.size (.slice Aa N ca) (xK N) := hEa0.more (Nat.le_refl _) (fun j _ hj hu => by
    have hj' : X.heap.size ≤ j := hj
    rcases hu with hu | hu
    · have := hUl j hu; omega
    · omega)
  have hUg : ∀ j, addF U2 g j → W.heap.size ≤ j := fun j hj => by
    rcases hj with hj | hj
    · exact hUB2 j hj
    · omega
  clear hEa0 hd hw
  generalize xK N = a at *
  obtain ⟨bs, s1, hS⟩ := anew_first haA (by omega)
  ((conv => whnf); (repeat ((fail); (conv => whnf))))
  ((repeat ((first | (refine VL.cons ?_) | (refine VC.seqS rfl ?_) | (refine VC.region ?_) | (refine VC.seq ?_)); (conv => whnf))))
  refine VCall.of (walSave_any Y U2 g d (lgS 1048576 4 1 (waBs Kp.zero)) ⟨1, 0, 0⟩ true 4 3 1 Aa N ca a hd' hw' hg2 ⟨by decide, by decide, by decide, by decide, by decide, by decide⟩ (hEa.at_.1.more (fun j hj _ => hj)) (by omega) (by decide) (by decide) (by show (4 : Int) + 10 < 1000000; decide)) ?_
  rw [s1]
  rintro e Z ⟨rfl, U3, hd3, hw3, hg3, st3⟩
  refine ⟨_, rfl, ?_⟩
  simp only at hd3 hw3 ⊢
  have hU3 := st3.min hUg hWY.size
  have hWZ := hWY.trans (st3.below hUg hWY.size)
  have hEa3 := hEa.step st3
  clear hEa hd' hw' hg2 hUg hUB2 hXY hUl
  ((conv => whnf); (repeat ((first | (refine VL.cons ?_) | (refine VL.nil ?_) | (refine VC.cond ?_)); (conv => whnf))))
  ((repeat ((first | (refine VL.cons ?_) | (refine VC.seqS rfl ?_) | (refine VC.region ?_) | (refine VC.skip ?_) | (refine VBool.f ?_)); (conv => whnf))))
  refine VCall.of (place_any base 1073741824 Z hbase (by decide) (by decide)) ?_
  rintro e Z' ⟨rfl, eW⟩
  obtain rfl := eW.symm
  refine ⟨_, rfl, ?_⟩
  rw [hBe]
  ((conv => whnf); (repeat ((first | (refine VL.cons ?_)); (conv => whnf))))
  ((repeat ((fail); (conv => whnf))))
  refine VRead.ofW (v := .agg (kC ⟨5, 0, B, 4, []⟩ none 0 0)) (fun _ => by kernel_rfl) ?_
  ((conv => whnf); (repeat ((first | (refine VL.cons ?_)); (conv => whnf))))
  ((repeat ((fail); (conv => whnf))))
  refine VSem.allocZ (z := .agg (kC Kp.zero none 0 0)) (by kernel_rfl) ?_
  intro Z1 p hp hpe hpl hZ1
  ((conv => whnf); (repeat ((first | (refine VL.cons ?_)); (conv => whnf))))
  ((repeat ((fail); (conv => whnf))))
  refine VUnit.storeAB hp rfl rfl rfl (by simp [kC, Kp.zero, Value.oneCell']) ?_
  intro Z2 hp2 hg2'
  rw [setFrom_allW (vs := kC ⟨5, 0, B, 4, []⟩ none 0 0) (by rfl)] at hp2
  replace hp2 : Blk Z2 p 63 (kC ⟨5, 0, B, 4, []⟩ none 0 0) := hp2
  have hZ02 : Below Z.heap.size Z Z2 := only_new hZ1 hg2' (by omega) (by omega)
  have hW2 := hWZ.trans (hZ02.mono hWZ.size)
  have hpZ : Z.heap.size ≤ p := by omega
  have z02 := hZ02.size
  have hpl2 := hp2.lt
  clear hp hpl hZ1 hg2' hpe
  ((conv => whnf); (repeat ((first | (refine VL.nil ?_)); (conv => whnf))))
  ((repeat ((fail); (conv => whnf))))
  refine VC.cut [] [(18, 18), (57, 71)] (fun vs V => vs = [] ∧ ∃ (Al : Option Addr) (cl : Nat), Blk V p 63 (kC ⟨5, 0, B, 4, []⟩ Al M cl) ∧ ERow V (fun q => Z2.heap.size ≤ q) Z2.heap.size (.slice Al M cl) (yK M) ∧ Below Z.heap.size Z V ∧ Z2.heap.size ≤ V.heap.size) (by kernel_rfl) ?_ ?_
  · ((conv => whnf); (repeat ((first | (refine VL.cons ?_) | (refine VL.nil ?_) | (refine VC.seqS rfl ?_) | (refine VC.region ?_) | (refine VC.block ?_)); (conv => whnf))))
    ((repeat ((fail); (conv => whnf))))
    refine VC.loop [18] [(18, 18), (57, 71)] (fun m vs V => ∃ (j : Nat) (Al : Option Addr) (cl : Nat), vs = [.int .i64 (j : Int)] ∧ m = M - j ∧ j ≤ M ∧ Blk V p 63 (kC ⟨5, 0, B, 4, []⟩ Al j cl) ∧ ERow V (fun q => Z2.heap.size ≤ q) Z2.heap.size (.slice Al j cl) (yK j) ∧ Below Z.heap.size Z V ∧ Z2.heap.size ≤ V.heap.size) (by kernel_rfl)
      ⟨_, 0, none, 0, rfl, rfl, by omega, hp2, ERow.nil _ _ _, hZ02, Nat.le_refl _⟩ ?_
    rintro m' τ vs V ⟨j, Al, cl, rfl, rfl, hj, hpV, hE, hV, hV2⟩
    ((conv => whnf); (repeat ((fail); (conv => whnf))))
    ((repeat ((first | (refine VL.cons ?_) | (refine VC.seqS rfl ?_) | (refine VC.region ?_) | (refine VC.seq ?_)); (conv => whnf))))
    refine VCall.of (place_any m 6 V hm (by decide) (by decide)) ?_
    rintro e V' ⟨rfl, eW⟩
    obtain rfl := eW.symm
    refine ⟨_, rfl, ?_⟩
    rw [hM]
    by_cases hlt : j < M
    case neg =>
      obtain rfl : j = M := by omega
      ((conv => whnf); (repeat ((first | (refine VL.cons ?_) | (refine VL.nil ?_) | (refine VC.cond ?_)); (conv => whnf))))
      ((repeat ((first | (refine VC.exit ?_) | (refine VBool.dF (by omega) ?_)); (conv => whnf))))
      exact ⟨rfl, Al, cl, hpV, hE, hV, hV2⟩
    have zV := hV.size
    ((conv => whnf); (repeat ((first | (refine VL.cons ?_) | (refine VL.nil ?_) | (refine VC.cond ?_)); (conv => whnf))))
    (repeat ((first | (refine VRead.loadB hpV rfl rfl ?_) | (refine VWrap.u8 (by omega) (by omega) ?_) | (refine VL.cons ?_) | (refine VC.region ?_) | (refine VC.block ?_) | (refine VC.skip ?_) | (refine VBool.dT (by omega) ?_) | (refine VRead.fld ?_) | (refine VSem.convI ?_) | (refine VC.seq ?_)); (conv => whnf)))
    refine VSem.buildR (ps := [(0, .int .u8 9), (1, .int .u8 (j : Int))]) rfl rfl (by simp [Value.oneCell']) (by omega) ?_
    intro Y1 hO1 hB1' hz1
    replace hO1 : Own Y1 V.heap.size (.slice (some ⟨V.heap.size, 0, none⟩) 2 2) 2 (yE j).data := by
      show Y1.ownsRow _ _ _ _ _ (bv [9, UInt8.ofNat j])
      rw [bv9 (by omega)]
      exact hO1
    ((conv => whnf); (repeat ((first | (refine VL.cons ?_)); (conv => whnf))))
    ((repeat ((fail); (conv => whnf))))
    refine VRead.ofW (v := .agg #[.int .i64 5, .bool true, .slice (some ⟨V.heap.size, 0, none⟩) 2 2]) (fun _ => by kernel_rfl) ?_
    ((conv => whnf); (repeat ((first | (refine VL.cons ?_)); (conv => whnf))))
    ((repeat ((fail); (conv => whnf))))
    refine VSem.of (v := .slice (some ⟨Y1.heap.size, 0, none⟩) 1 1) (w' := Y1.alloc (.cells #[.int .i64 5, .bool true, .slice (some ⟨V.heap.size, 0, none⟩) 2 2] 67)) (by kernel_rfl) ?_
    have hnew := Blk.new Y1 67 #[.int .i64 5, .bool true, .slice (some ⟨V.heap.size, 0, none⟩) 2 2]
    have hB2' : Below Y1.heap.size Y1 (Y1.alloc (.cells #[.int .i64 5, .bool true, .slice (some ⟨V.heap.size, 0, none⟩) 2 2] 67)) := (Below.refl _ Y1).alloc (Nat.le_refl _) _
    generalize Y1.alloc (.cells #[.int .i64 5, .bool true, .slice (some ⟨V.heap.size, 0, none⟩) 2 2] 67) = Y2 at *
    have hYY := hB1'.trans (hB2'.mono hB1'.size)
    have hX2 := hV.trans (hYY.mono zV)
    have z2 := hX2.size
    have zYY := hYY.size
    have hO2 := hO1.below hB2' (Nat.le_refl _)
    have hE2 := hE.below hYY
    have hp3 := hpV.later hYY
    ((conv => whnf); (repeat ((first | (refine VL.cons ?_)); (conv => whnf))))
    ((repeat ((fail); (conv => whnf))))
    refine ERow.app hE2 (EnAt.one (e := yE j) hnew (by show Z2.heap.size ≤ Y1.heap.size; omega) (Nat.le_refl 2) (Lies.of_own (B := Z2.heap.size) (hO2.more (B' := Z2.heap.size) hV2) (fun j hj => hj))) (by omega) (by omega) (fun j hj => by show Z2.heap.size ≤ j; omega) ?_
    intro A7 c7 Y3 hE3 hg3
    rw [← yK_succ] at hE3
    have hp4 : Blk Y3 p 63 (kC ⟨5, 0, B, 4, []⟩ Al j cl) := hp3.grown hg3 (fun e => hE2.notBlk hp3 (by decide) e.symm)
    have hX3 := hX2.grown hg3 z2 (fun j hj => by have := (hE2.lt hj).2; omega)
    have zY3 := hg3.size
    ((conv => whnf); (repeat ((first | (refine VL.cons ?_)); (conv => whnf))))
    ((repeat ((first | (refine VL.cons ?_) | (refine VRead.fld ?_)); (conv => whnf))))
    refine VUnit.storeB hp4 rfl rfl rfl ?_
    intro Y4 hp5 hg4
    replace hp5 : Blk Y4 p 63 (kC ⟨5, 0, B, 4, []⟩ A7 (j + 1) c7) := hp5
    have hE4 := hE3.keepG hp4 hg4 (by decide) (hE3.notBlk hp4 (by decide))
    have zY4 := hg4.size
    ((conv => whnf); (repeat ((first | (refine VL.cons ?_) | (refine VL.nil ?_) | (refine VC.region ?_)); (conv => whnf))))
    ((repeat ((first | (refine VL.cons ?_) | (refine VL.nil ?_) | (refine VWrap.i64 (by omega) (by omega) ?_)); (conv => whnf))))
    exact ⟨_, by omega, j + 1, A7, c7, rfl, rfl, by omega, hp5, hE4, only_new hX3 hg4 hpZ (by omega), by omega⟩
  rintro τ vs V ⟨rfl, Ay, cy, hpV, hEy0, hZV, hV2⟩
  have hyl := yK_len M
  have hyA := yK_all (n := M)
  have hdV := hd3.below hZV
  have hwV := hw3.later hZV
  have hWV := hWZ.trans (hZV.mono hWZ.size)
  have hEa4 := hEa3.below hZV
  have hUl := hd3.lt
  have hgl' := hw3.lt
  have hEy : ERow V (NotU (addF U3 g)) Z2.heap.size (.slice Ay M cy) (yK M) := hEy0.more (Nat.le_refl _) (fun j _ hj hu => by
    have hj' : Z2.heap.size ≤ j := hj
    rcases hu with hu | hu
    · have := hUl j hu; omega
    · omega)
  have np : ¬ addF U3 g p := fun hu => by
    rcases hu with hu | hu
    · have := hUl p hu; omega
    · omega
  clear hEy0 hd3 hw3 hp2 hEa3 hUl hgl'
  generalize yK M = ys at *
  ((conv => whnf); (repeat ((fail); (conv => whnf))))
  ((repeat ((first | (refine VL.cons ?_) | (refine VC.seqS rfl ?_) | (refine VC.region ?_) | (refine VC.seq ?_)); (conv => whnf))))
  refine VCall.of (place_any after 7 V haf (by decide) (by decide)) ?_
  rintro e V' ⟨rfl, eW⟩
  obtain rfl := eW.symm
  refine ⟨_, rfl, ?_⟩
  rw [ht]
  ((conv => whnf); (repeat ((first | (refine VL.cons ?_)); (conv => whnf))))
  ((repeat ((fail); (conv => whnf))))
  refine VCall.of (oArm V U3 d _ 19 t hdV (by omega)) ?_
  have earm : DS.arm (lgS 1048576 6 1 bs) 19 t = (0, ⟨kp 1048576 6 t, [(wName 1, fullF (Frame.laid bs))]⟩) := by
    unfold DS.arm Dk.arm
    rw [if_neg (by omega)]
    rfl
  rw [earm]
  rintro e Y1 ⟨rfl, U4, hd4, st4⟩
  refine ⟨_, rfl, ?_⟩
  simp only at hd4 ⊢
  have hU3' : ∀ j, U3 j → W.heap.size ≤ j := fun j hj => hU3 j (.inl hj)
  have hU4 := st4.min hU3' hWV.size
  have hW1 := hWV.trans (st4.below hU3' hWV.size)
  obtain ⟨hw4, hg4⟩ := st4.blk hwV hg3
  obtain ⟨hp4, np4⟩ := (st4.add g).blk hpV np
  have hEa5 := hEa4.step (st4.add g)
  have hEy5 := hEy.step (st4.add g)
  clear hEa4 hEy hdV hwV hg3 hpV np
  have hE1 : Below Y1.heap.size Y1 (Y1.drewN 1) := below_drewN (Below.refl _ _) 1
  replace hEa5 := hEa5.below hE1
  replace hEy5 := hEy5.below hE1
  replace hd4 := hd4.below hE1
  replace hw4 := hw4.later hE1
  replace hp4 := hp4.later hE1
  replace hW1 := hW1.trans (hE1.mono hW1.size)
  ((conv => whnf); (repeat ((first | (refine VL.cons ?_) | (refine VL.nil ?_) | (refine VC.cond ?_)); (conv => whnf))))
  ((repeat ((first | (refine VC.draw ?_) | (refine VC.skip ?_) | (refine VBool.f ?_) | (refine VC.seq ?_)); (conv => whnf))))
  refine VDraw.seg (fun T => Blk T p 63 (kC ⟨5, 0, B, 4, []⟩ Ay M cy)) [([0, 1, 2, 3, 4, 5, 6, 7, 8], 9), ([10], 11)] [12] (by kernel_rfl) (by kernel_rfl) hp4 ?_
  generalize Y1.drewN 1 = Y2 at *
  (conv => whnf)
  (repeat ((first | (refine VRead.loadBS (fun T hT => hT) rfl rfl ?_) | (refine VQ.cons ?_) | (refine VQ.nil ?_) | (refine VG.cons ?_) | (refine VRead.fld ?_)); (conv => whnf)))
  refine VCall.of (entriesW_any ys Ay M cy _ Y2 hEy5.at_.1 (by omega) (fun e he => Nat.le_trans (hyA e he).2 (by decide))) ?_
  rintro e Y3 ⟨Ac, cc, rfl, hEc, hB3⟩
  refine ⟨_, rfl, ?_⟩
  have hp5 := hp4.later hB3
  have hW3 := hW1.trans (hB3.mono hW1.size)
  (conv => whnf)
  refine Keep.mk hp5 ?_
  (conv => whnf)
  ((repeat ((first | (refine VQ.cons ?_) | (refine VG.cons ?_)); (conv => whnf))))
  refine VRead.ofW (v := .agg (kC ⟨5, 0, B, 4, ys⟩ Ac M cc)) (fun _ => by kernel_rfl) ?_
  (conv => whnf)
  ((repeat ((first | (refine VQ.nil ?_)); (conv => whnf))))
  obtain ⟨R, hR⟩ : ∃ R, DS.wanew ⟨kp 1048576 6 t, [(wName 1, fullF (Frame.laid bs))]⟩ ⟨1, 0, a.length⟩ ⟨5, 0, B, 4, ys⟩ = R := ⟨_, rfl⟩
  have hmay : mayK ⟨5, 0, B, 4, ys⟩ := ⟨fun e he => (hyA e he).1, inr' b0 (by show B ≤ _; omega), inr' (by show (0 : Int) ≤ 4; decide) (by show (4 : Int) ≤ _; decide), inr' (by show (0 : Int) ≤ 5; decide) (by show (5 : Int) ≤ _; decide), inr' (by show (0 : Int) ≤ 0; decide) (by show (0 : Int) ≤ _; decide)⟩
  obtain ⟨key1, key2, wl, K, key3, key4⟩ := anew_open (S := ⟨kp 1048576 6 t, [(wName 1, fullF (Frame.laid bs))]⟩) rfl hS hmay (by show ys.length ≤ _; omega) ps R hR
  have hcl : R.1.2.k.calls ≤ 6 + 5 := by
    have := (wanew_calls ⟨kp 1048576 6 t, [(wName 1, fullF (Frame.laid bs))]⟩ ⟨1, 0, a.length⟩ ⟨5, 0, B, 4, ys⟩).1
    rw [hR] at this
    exact this
  refine VCall.of (walAnew_any Y3 U4 g d ⟨kp 1048576 6 t, [(wName 1, fullF (Frame.laid bs))]⟩ ⟨1, 0, a.length⟩ ⟨5, 0, B, 4, ys⟩ Ac M cc (hd4.below hB3) (hw4.later hB3) hg4 ⟨by show (0 : Int) ≤ 1; decide, by show (1 : Int) ≤ 99999999; decide, by show (0 : Int) ≤ 0; decide, by show (0 : Int) ≤ 1099511627776; decide, by show (0 : Int) ≤ a.length; omega, by show (a.length : Int) ≤ 1100000000000000; omega⟩
    (hEc.at_.1.more (fun j hj _ => hj)) (by omega) (by show (6 : Int) + 20 < 1000000; decide) (by show -9223372036854775808 ≤ B ∧ B ≤ 9223372036854775807; omega)) ?_
  rw [hR]
  rintro e Y4 ⟨rfl, U5, hd5, hw5, hg5, st5⟩
  refine ⟨_, rfl, ?_⟩
  have hU4a : ∀ j, addF U4 g j → W.heap.size ≤ j := fun j hj => by
    rcases hj with hj | hj
    · exact hU4 j hj
    · omega
  have hU5 := st5.min hU4a hW3.size
  have hW4 := hW3.trans (st5.below hU4a hW3.size)
  obtain ⟨hp6, np6⟩ := st5.blk hp5 np4
  have hEa6 := (hEa5.below hB3).step st5
  have hEy6 := (hEy5.below hB3).step st5
  clear hEa5 hEy5 hEc hd4 hw4 hp4 hp5
  (conv => whnf)
  refine Keep.mk hp6 ?_
  (conv => whnf)
  ((repeat ((first | (refine VL.cons ?_) | (refine VC.seqS rfl ?_) | (refine VC.region ?_) | (refine VQ.cons ?_) | (refine VQ.nil ?_) | (refine VG.nil ?_)); (conv => whnf))))
  refine VCall.of (ints_any A3 n3 c3 _ ps Y4 (by omega) (hr3.below hW4)) ?_
  rintro e Y5 ⟨Ap, cp, rfl, hOp, hB5⟩
  refine ⟨_, rfl, ?_⟩
  have hW5 := hW4.trans (hB5.mono hW4.size)
  ((conv => whnf); (repeat ((first | (refine VL.cons ?_)); (conv => whnf))))
  ((repeat ((fail); (conv => whnf))))
  refine VCall.of (oCrash Y5 U5 d R.1.2 n3 cp Ap ps (hd5.below hB5) (Reads.row hOp) (fun h0 => ?_) (by omega)) ?_
  · obtain ⟨ad, hAd, _, _⟩ := (Reads.row hOp).2 h0
    subst hAd
    exact ⟨ad, rfl, Free.new hOp hd5.lt _ rfl⟩
  rintro e Y6 ⟨rfl, U6, hd6, st6⟩
  refine ⟨_, rfl, ?_⟩
  have hU5' : ∀ j, U5 j → W.heap.size ≤ j := fun j hj => hU5 j (.inl hj)
  have hU6 := st6.min hU5' hW5.size
  have hW6 := hW5.trans (st6.below hU5' hW5.size)
  obtain ⟨hp7, np7⟩ := (st6.add g).blk (hp6.later hB5) np6
  have hEa7 := (hEa6.below hB5).step (st6.add g)
  have hEy7 := (hEy6.below hB5).step (st6.add g)
  clear hEa6 hEy6 hOp hd5 hp6
  ((conv => whnf); (repeat ((first | (refine VL.cons ?_) | (refine VL.nil ?_) | (refine VC.seqS rfl ?_) | (refine VC.region ?_)); (conv => whnf))))
  ((repeat ((fail); (conv => whnf))))
  refine VCall.of (walOpen_any Y6 U6 d (R.1.2.crash ps) hd6 (by show R.1.2.k.calls + 200 < 1000000; omega)) ?_
  rw [key1, key3]
  rintro e Y7 ⟨U7, hd7, st7, gv, Av, nv, cv, rfl, hv7, hgv, hgly, hEv⟩
  refine ⟨_, rfl, ?_⟩
  have hW7 := hW6.trans (st7.below hU6 hW6.size)
  obtain ⟨hp8, _⟩ := (st7.add g).blk hp7 np7
  have hEa8 := (hEa7.step (st7.add g)).unU
  have hEy8 := (hEy7.step (st7.add g)).unU
  have hnv := hEv.at_.2.2
  simp only at hnv hEv ⊢
  ((conv => whnf); (repeat ((first | (refine VL.cons ?_)); (conv => whnf))))
  ((repeat ((fail); (conv => whnf))))
  refine VSem.allocZ (z := .agg (kC Kp.zero none 0 0)) (by kernel_rfl) ?_
  intro Y8 o ho hoe hol hB8
  ((conv => whnf); (repeat ((first | (refine VL.cons ?_)); (conv => whnf))))
  ((repeat ((fail); (conv => whnf))))
  refine VUnit.storeAB ho rfl rfl rfl (by simp [kC, Value.oneCell']) ?_
  intro Y9 ho9 hg9
  rw [setFrom_allW (vs := kC K Av nv cv) (by rfl)] at ho9
  have hB79 : Below Y7.heap.size Y7 Y9 := only_new hB8 hg9 (by omega) (by omega)
  have hW9 := hW7.trans (hB79.mono hW7.size)
  have hEa9 := hEa8.below hB79
  have hEy9 := hEy8.below hB79
  have hEv9 := hEv.below hB79
  have hp9 := hp8.later hB79
  have hd9 := hd7.below hB79
  clear ho hoe hol hB8 hg9 hEa7 hEy7 hEa8 hEy8 hEv hB79 hd7 hv7 hp7 hp8
  ((conv => whnf); (repeat ((first | (refine VL.cons ?_) | (refine VL.nil ?_)); (conv => whnf))))
  ((repeat ((first | (refine VL.cons ?_) | (refine VC.seqS rfl ?_) | (refine VC.region ?_) | (refine VBool.f ?_) | (refine VC.seq ?_)); (conv => whnf))))
  refine VCall.of (oList Y9 U7 d _ hd9) ?_
  rintro e Y10 ⟨Al, kl, rfl, _, hB10⟩
  refine ⟨_, rfl, ?_⟩
  rw [key2]
  have hW10 := hW9.trans (hB10.mono hW9.size)
  have hEa10 := hEa9.below hB10
  have hEy10 := hEy9.below hB10
  have hEv10 := hEv9.below hB10
  have hp10 := hp9.later hB10
  have ho10 := ho9.later hB10
  rcases key4 with rfl | ⟨hR0, rfl⟩
  · simp only at hnv hEv10 ho10 ⊢
    obtain rfl : nv = M := by omega
    ((conv => whnf); (repeat ((first | (refine VL.cons ?_)); (conv => whnf))))
    (repeat (first | ((first | (refine VL.cons ?_) | (refine VL.nil ?_) | (refine VC.seqS rfl ?_) | (refine VC.region ?_) | (refine VC.cond ?_) | (refine VC.skip ?_) | (refine VBool.t ?_) | (refine VBool.f ?_) | (refine VRead.lenS ?_) | (refine VRead.fld ?_) | (refine VBool.dT rfl ?_)); (conv => whnf)) | (refine VRead.loadB ho10 rfl rfl ?_; (conv => whnf)) | (refine VRead.loadB hp10 rfl rfl ?_; (conv => whnf))))
    refine VCall.of (sameEntriesW_any ys ys Av Ay nv cv nv cy _ _ Y10 hEv10.at_.1 hEy10.at_.1 (by omega)) ?_
    rintro e Y11 ⟨rfl, hB11⟩
    refine ⟨_, rfl, ?_⟩
    rw [decide_eq_true rfl]
    have hW11 := hW10.trans (hB11.mono hW10.size)
    have hp11 := hp10.later hB11
    have ho11 := ho10.later hB11
    ((conv => whnf); (repeat ((first | (refine VL.cons ?_) | (refine VL.nil ?_) | (refine VC.seqS rfl ?_) | (refine VC.region ?_)); (conv => whnf))))
    (repeat (first | ((first | (refine VL.cons ?_) | (refine VL.nil ?_) | (refine VC.seqS rfl ?_) | (refine VC.region ?_) | (refine VBool.t ?_) | (refine VBool.f ?_) | (refine VRead.fld ?_) | (refine VBool.dT rfl ?_)); (conv => whnf)) | (refine VRead.loadB ho11 rfl rfl ?_; (conv => whnf)) | (refine VRead.loadB hp11 rfl rfl ?_; (conv => whnf))))
    refine VCall.of (awake18_any Y11) ?_
    rintro e Y12 ⟨rfl, hB12⟩
    refine ⟨_, rfl, ?_⟩
    ((conv => whnf); (repeat ((first | (refine VL.cons ?_) | (refine VL.nil ?_) | (refine VC.ret ?_)); (conv => whnf))))
    ((repeat ((fail); (conv => whnf))))
    exact ⟨rfl, hW11.trans (hB12.mono hW11.size)⟩
  · simp only at hnv hEv10 ho10 ⊢
    obtain rfl : nv = N := by omega
    ((conv => whnf); (repeat ((first | (refine VL.cons ?_)); (conv => whnf))))
    (repeat (first | ((first | (refine VL.cons ?_) | (refine VL.nil ?_) | (refine VC.seqS rfl ?_) | (refine VC.region ?_) | (refine VC.cond ?_) | (refine VC.skip ?_) | (refine VBool.t ?_) | (refine VBool.f ?_) | (refine VRead.lenS ?_) | (refine VRead.fld ?_)); (conv => whnf)) | (refine VRead.loadB ho10 rfl rfl ?_; (conv => whnf)) | (refine VRead.loadB hp10 rfl rfl ?_; (conv => whnf))))
    refine VCall.of (sameEntriesW_any a a Av Aa nv cv nv ca _ _ Y10 hEv10.at_.1 hEa10.at_.1 (by omega)) ?_
    rintro e Y11 ⟨rfl, hB11⟩
    refine ⟨_, rfl, ?_⟩
    rw [decide_eq_true rfl]
    have hW11 := hW10.trans (hB11.mono hW10.size)
    ((conv => whnf); (repeat ((first | (refine VL.cons ?_) | (refine VL.nil ?_) | (refine VC.seqS rfl ?_) | (refine VC.region ?_)); (conv => whnf))))
    (repeat (first | ((first | (refine VL.cons ?_) | (refine VBool.t ?_) | (refine VBool.f ?_) | (refine VBool.nF (by omega) ?_) | (refine VBool.dT rfl ?_)); (conv => whnf)) | (refine VBool.nT hR0 ?_; (conv => whnf))))
    refine VCall.of (awake18_any Y11) ?_
    rintro e Y12 ⟨rfl, hB12⟩
    refine ⟨_, rfl, ?_⟩
    ((conv => whnf); (repeat ((first | (refine VL.cons ?_) | (refine VL.nil ?_) | (refine VC.ret ?_)); (conv => whnf))))
    ((repeat ((fail); (conv => whnf))))
    exact ⟨rfl, hW11.trans (hB12.mono hW11.size)⟩
end Go.Proofs.Ytebeidnmplnlpaa
end
