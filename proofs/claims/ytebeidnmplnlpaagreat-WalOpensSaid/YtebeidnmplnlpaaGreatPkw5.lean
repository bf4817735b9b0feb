/- Texts joined: WalI, FrameW, FrameS, RwC, RwD, RdE, RdF, RdG, RdH, RdI, RdJ, RdK, RskO, SnapE, SnapF, SnapG, WalJ, WalK, WalL, SnapH. No condition. -/
import Derived.Test.YtebeidnmplnlpaaGreatPkw4
import Derived.Test.YtebeidnmplnlpaaGreatPkw3
import Derived.Test.YtebeidnmplnlpaaGreatPkw0
import Derived.Test.YtebeidnmplnlpaaGreatPkw2
import Derived.Great.BuildSlice
section
set_option maxRecDepth 10000
namespace Go.Proofs.YtebeidnmplnlpaaGreat
set_option linter.unusedVariables false
open Go.RowKit

theorem VRes.op3 {P : Program} {w : World} {a b c t T1 g1 k : Nat} {σ : Env} {cs : Array Value} {R : Ending → World → Prop} [i : TAgg P t k]
    (ha : σ b = .pointer (some ⟨g1, 0, none⟩)) (h1 : Blk w g1 T1 cs) (hs : Nat.beq cs.size k = true)
    (h : R (.returned (.tuple #[σ a, .agg cs, σ c])) w) : VRes P [.tmp a, .cell b t, .tmp c] σ w R := by
  have k1 := run_load_agg (P := P) i h1 (Nat.eq_of_beq_eq_true hs)
  unfold Instr.loadAt Instr.sureAddr at k1
  simp only [Sem.run_bind, Sem.run_pure, Result.andThen_ok] at k1
  exact ⟨⟨_, by simp [resE, ha, asAddr, k1], h⟩⟩
/-! ### plain -/
structure Scn where
  some_ : Bool
  n : Nat
  k : Kp
  whole : Bool
def woStep (acc : Scn) (p : List UInt8 × Fl) : Scn := match wNum p.1 with
  | none => acc
  | some n => match readW p.2.b with
    | some k => ⟨true, n, k, isWhole p.2.b⟩
    | none => { acc with some_ := true }
def wScan (T : PT) : Scn := T.foldl woStep ⟨false, 0, Kp.zero, false⟩
def Scn.wl (c : Scn) : WlS := ⟨c.n, c.k.base, c.k.base + c.k.es.length⟩
def DS.wnext (S : DS) (c : Scn) : (Int × DS) × WlS := if c.whole = true then (S.sync (wName c.n), c.wl) else S.wanew c.wl c.k
def DS.wend (R : (Int × DS) × WlS) : Int × DS := andT R.1 fun S1 => S1.clear wPre (wName R.2.n) S1.keys
def DS.wopen (S : DS) : (Int × DS) × Option (WlS × Kp) :=
  if (wScan S.t).some_ = true ∧ (wScan S.t).n = 0 then ((23, S), none) else
  (DS.wend (S.wnext (wScan S.t)), if (DS.wend (S.wnext (wScan S.t))).1 = 0 then some ((S.wnext (wScan S.t)).2, (wScan S.t).k) else none)
theorem takesA_ok : ∀ {cs : List (List UInt8)} {st : Bool} {k k' : Kp}, takesA st k cs = some k' → inR k.base 1099511627776 → inR k'.base 1099511627776 ∧ k'.es.length ≤ k.es.length + cs.length
  | [], st, k, k', h, hb => by
    injection h with h; subst h; exact ⟨hb, by simp⟩
  | c :: cs, st, k, k', h, hb => by
    unfold takesA at h
    cases ht : takes k c st with
    | none => rw [ht] at h; cases h
    | some k1 =>
      rw [ht] at h
      obtain ⟨h1, h2⟩ := takes_in ht hb
      obtain ⟨h3, h4⟩ := takesA_ok h h1
      exact ⟨h3, by rw [List.length_cons]; omega⟩
theorem laid_ge : ∀ (bs : List (List UInt8)), bs.length ≤ (Frame.laid bs).length
  | [] => by simp
  | b :: bs => by
    have h1 := laid_ge bs
    have h2 := Frame.put_pos b
    rw [Frame.laid_cons, List.length_append, List.length_cons]
    omega
theorem readW_ok {l : List UInt8} {k : Kp} (h : readW l = some k) : inR k.base 1099511627776 ∧ k.es.length ≤ l.length := by
  unfold readW at h
  split at h
  · cases h
  · obtain ⟨h1, h2⟩ := takesA_ok h ⟨by decide, by decide⟩
    have h3 := laid_ge (Frame.bodies l)
    have h4 := congrArg List.length (Frame.bodies_spec l).1
    rw [List.length_append] at h4
    have : Kp.zero.es.length = 0 := rfl
    exact ⟨h1, by omega⟩
structure ScnOk (c : Scn) : Prop where
  n : c.n ≤ 99999999
  b : inR c.k.base 1099511627776
  l : c.k.es.length ≤ 16777216
theorem ScnOk.wl {c : Scn} (h : ScnOk c) : WlOk c.wl := by
  obtain ⟨h1, ⟨h2, h3⟩, h4⟩ := h
  have e1 : c.wl.n = (c.n : Int) := rfl
  have e2 : c.wl.base = c.k.base := rfl
  have e3 : c.wl.last = c.k.base + c.k.es.length := rfl
  exact ⟨by omega, by omega, by omega, by omega, by omega, by omega⟩
theorem wrun_calls (nm b : List UInt8) : ∀ (m k : Nat) (S : DS), (wrun nm b m k S).2.k.calls ≤ S.k.calls + m
  | 0, k, S => by show S.k.calls ≤ S.k.calls + ((0 : Nat) : Int); omega
  | m + 1, k, S => by
    unfold wrun
    have h1 := wact_calls nm b k S
    by_cases h : (wact nm b k S).1 = 0
    · rw [andT_ok h]
      have := wrun_calls nm b m (k + 1) (wact nm b k S).2
      omega
    · rw [andT_no h]
      omega
theorem wanew_calls (S : DS) (w : WlS) (k : Kp) : (S.wanew w k).1.2.k.calls ≤ S.k.calls + 5 ∧ ((S.wanew w k).2.n = w.n ∨ (S.wanew w k).2.n = w.n + 1) := by
  unfold DS.wanew
  split
  · exact ⟨by simp only; omega, .inl rfl⟩
  · split
    · exact ⟨by simp only; omega, .inl rfl⟩
    · have h1 := wrun_calls (wName (w.n + 1)) (waB k) 4 0 S
      simp only
      split
      · exact ⟨by simp only; omega, .inl rfl⟩
      · split
        · exact ⟨by simp only; omega, .inr rfl⟩
        · have h2 : ((wrun (wName (w.n + 1)) (waB k) 4 0 S).2.remove (wName w.n)).2.k.calls = (wrun (wName (w.n + 1)) (waB k) 4 0 S).2.k.calls + 1 := DS.remove_calls
          exact ⟨by simp only; omega, .inr rfl⟩
theorem wnext_calls (S : DS) (c : Scn) : (S.wnext c).1.2.k.calls ≤ S.k.calls + 5 ∧ ((S.wnext c).2.n = c.n ∨ (S.wnext c).2.n = (c.n : Int) + 1) := by
  unfold DS.wnext
  split
  · have h2 : (S.sync (wName c.n)).2.k.calls = S.k.calls + 1 := DS.sync_calls
    exact ⟨by simp only; omega, .inl rfl⟩
  · have := wanew_calls S c.wl c.k
    exact this
theorem Lies.ne {W : World} {V : Foot} {A : Option Addr} {m g T : Nat} {l : List UInt8} {cs : Array Value} (h : Lies W V A m l) (hb : Blk W g T cs) (hT : 5 ≠ T) : Lies W (fun j => V j ∧ j ≠ g) A m l :=
  ⟨h.1, fun hm => by
    obtain ⟨ad, cs', fr, e, h1, h2⟩ := h.2 hm
    refine ⟨ad, cs', fr, e, ⟨h1, fun e' => ?_⟩, h2⟩
    unfold Blk at hb
    rw [← e', h2] at hb
    injection hb with hb
    injection hb with _ h3 _
    exact hT h3⟩
theorem ERow.ne {W : World} {V : Foot} {B g T : Nat} {v : Value} {es : List En} {cs : Array Value} (h : ERow W V B v es) (hb : Blk W g T cs) (hT : 5 ≠ T) (hT2 : 56 ≠ T) : ERow W (fun j => V j ∧ j ≠ g) B v es := by
  have hn := h.notBlk hb hT2
  obtain ⟨xs, h1, h2, h3⟩ := h
  refine ⟨xs, h1, fun q hq => ⟨h2 q hq, fun e => hn (by rw [hq, e])⟩, fun i e he => ?_⟩
  obtain ⟨A', m, k, e1, e2, e3, e4, e5⟩ := h3 i e he
  exact ⟨A', m, k, e1, e2, e3, e4, e5.ne hb hT⟩
theorem ERow.addU {W : World} {U : Foot} {B g T : Nat} {v : Value} {es : List En} {cs : Array Value} (h : ERow W (NotU U) B v es) (hb : Blk W g T cs) (hT : 5 ≠ T) (hT2 : 56 ≠ T) : ERow W (NotU (addF U g)) B v es :=
  (h.ne hb hT hT2).more (Nat.le_refl _) (fun j _ hj hu => by
    rcases hu with hu | hu
    · exact hj.1 hu
    · exact hj.2 hu)
theorem ERow.unU {W : World} {U : Foot} {B g : Nat} {v : Value} {es : List En} (h : ERow W (NotU (addF U g)) B v es) : ERow W (NotU U) B v es := h.more (Nat.le_refl _) (fun j _ hj hu => hj (.inl hu))
theorem Step.pastG {W X X' : World} {U U' : Foot} {q : Nat} (h : Step W U X U') (hg : X.grownBy X' (some q)) (hq : W.heap.size ≤ q) : Step W U X' U' := ⟨h.out.newG hg (.inl hq), h.sub⟩
theorem Step.past {W Y X : World} {U U' : Foot} {g : Nat} (hB : Below W.heap.size W Y) (h : Step Y (addF U g) X (addF U' g)) (hg : W.heap.size ≤ g) : Step W U X U' := by
  have hs := hB.size
  refine ⟨⟨h.out.os.trans hB.os, h.out.tape.trans hB.tape, h.out.output.trans hB.output, Nat.le_trans hs h.out.size, fun j hj hu => ?_⟩, fun j hj => ?_⟩
  · rw [h.out.block j (by omega) (fun h' => by
      rcases h' with h' | h'
      · exact hu h'
      · omega), hB.block j hj]
  · rcases h.sub j (.inl hj) with h' | h'
    · rcases h' with h' | h'
      · exact .inl h'
      · right; omega
    · right; omega
/-- what Open gives -/
def OpV (W W' : World) (U' : Foot) (d : Nat) (r : Int) (o : Option (WlS × Kp)) (e : Ending) : Prop := match o with
  | none => e = .returned (.tuple #[.pointer none, .agg (kC Kp.zero none 0 0), .int .i64 r])
  | some y => ∃ g A n c, e = .returned (.tuple #[.pointer (some ⟨g, 0, none⟩), .agg (kC y.2 A n c), .int .i64 0]) ∧ Blk W' g 82 (wlC d y.1) ∧ ¬ U' g ∧ W.heap.size ≤ g ∧ ERow W' (NotU U') W.heap.size (.slice A n c) y.2.es
set_option maxHeartbeats 4000000 in
theorem walOpen_any (W : World) (U : Foot) (d : Nat) (S : DS) (h : Dsk W U d S) (hc : S.k.calls + 200 < 1000000) :
    Calls Tryz.prog 18 #[.pointer (some ⟨d, 0, none⟩)] W fun e W' => ∃ U', Dsk W' U' d (S.wopen).1.2 ∧ Step W U W' U' ∧ OpV W W' U' d (S.wopen).1.1 (S.wopen).2 e := by
  have hfew := h.wf.t.few
  have hris := h.wf.t.ris
  have hroom := h.wf.k.room
  have hfit := h.wf.t.fit
  refine calls_vc Tryz.func18 rfl (by kernel_rfl) ?_
  ((conv => whnf); (repeat ((first | (refine VL.cons ?_) | (refine VC.seqS rfl ?_) | (refine VC.region ?_)); (conv => whnf))))
  ((repeat ((fail); (conv => whnf))))
  refine VSem.allocZ (z := .agg (kC Kp.zero none 0 0)) (by kernel_rfl) ?_
  intro w1 g3 hb3 hg3 hl3 hB1
  replace hb3 : Blk w1 g3 50 (kC Kp.zero none 0 0) := hb3
  ((conv => whnf); (repeat ((first | (refine VL.cons ?_) | (refine VL.nil ?_) | (refine VC.seqS rfl ?_) | (refine VC.region ?_)); (conv => whnf))))
  ((repeat ((fail); (conv => whnf))))
  refine VRead.ofW (v := .agg (wlC d ⟨0, 0, 0⟩)) (fun _ => by kernel_rfl) ?_
  ((conv => whnf); (repeat ((first | (refine VL.cons ?_)); (conv => whnf))))
  ((repeat ((fail); (conv => whnf))))
  refine VSem.boxB ?_
  intro w2 g5 hb5 hg5 hl5 hB2
  replace hb5 : Blk w2 g5 82 (wlC d ⟨0, 0, 0⟩) := hb5
  ((conv => whnf); (repeat ((first | (refine VL.cons ?_) | (refine VL.nil ?_) | (refine VC.seqS rfl ?_) | (refine VC.region ?_)); (conv => whnf))))
  ((repeat ((fail); (conv => whnf))))
  refine VRead.ofW (v := .agg (kC Kp.zero none 0 0)) (fun _ => by kernel_rfl) ?_
  ((conv => whnf); (repeat ((first | (refine VL.cons ?_)); (conv => whnf))))
  ((repeat ((fail); (conv => whnf))))
  refine VSem.allocZ (z := .agg (kC Kp.zero none 0 0)) (by kernel_rfl) ?_
  intro w3 g6 hb6 hg6 hl6 hB3
  replace hb6 : Blk w3 g6 50 (kC Kp.zero none 0 0) := hb6
  ((conv => whnf); (repeat ((first | (refine VL.cons ?_)); (conv => whnf))))
  ((repeat ((fail); (conv => whnf))))
  refine VUnit.storeAB hb6 rfl rfl rfl (by simp [kC, Kp.zero, Value.oneCell']) ?_
  intro w4 hb6' hg6'
  rw [setFrom_allW rfl] at hb6'
  have s1 := hB1.size
  have s2 := hB2.size
  have s3 := hB3.size
  have s4 := hg6'.size
  replace hb3 := ((hb3.later hB2).later hB3).only hg6' (by omega)
  replace hb5 := (hb5.later hB3).only hg6' (by omega)
  have hB04 : Below W.heap.size W w4 := only_new ((hB1.trans (hB2.mono s1)).trans (hB3.mono (Nat.le_trans s1 s2))) hg6' (by omega) (by omega)
  clear hb6 hB1 hB2 hB3 hg6'
  ((conv => whnf); (repeat ((first | (refine VL.cons ?_) | (refine VL.nil ?_)); (conv => whnf))))
  ((repeat ((first | (refine VL.cons ?_) | (refine VC.seqS rfl ?_) | (refine VC.region ?_) | (refine VC.seq ?_)); (conv => whnf))))
  refine VCall.of (oList w4 U d S (h.below hB04)) ?_
  rintro e w5 ⟨Al, kl, rfl, hOl, hB5⟩
  refine ⟨_, rfl, ?_⟩
  replace hb3 := hb3.later hB5
  replace hb5 := hb5.later hB5
  replace hb6' := hb6'.later hB5
  have hB05 := hB04.trans (hB5.mono hB04.size)
  have s5 := hB5.size
  obtain ⟨o1, o2, o3, o4⟩ : W.heap.size ≤ g3 ∧ g3 < g5 ∧ g5 < g6 ∧ g6 < w4.heap.size := by omega
  ((conv => whnf); (repeat ((first | (refine VL.cons ?_)); (conv => whnf))))
  ((repeat ((first | (refine VL.cons ?_) | (refine VL.nil ?_) | (refine VC.block ?_) | (refine VRead.lenS ?_)); (conv => whnf))))
  refine VC.loop [7, 8, 26] [(7, 8), (10, 17), (26, 56)] (fun q vs X => ∃ (j : Nat) (acc : Scn) (A : Option Addr) (n c : Nat), vs = [.bool acc.whole, .bool acc.some_, .int .i64 (j : Int)] ∧ q = S.t.length - j ∧ j ≤ S.t.length ∧ (S.t.take j).foldl woStep ⟨false, 0, Kp.zero, false⟩ = acc ∧ ScnOk acc ∧
      Blk X g3 50 (kC Kp.zero none 0 0) ∧ Blk X g5 82 (wlC d ⟨acc.n, 0, 0⟩) ∧ Blk X g6 50 (kC acc.k A n c) ∧ ERow X (fun j => W.heap.size ≤ j) W.heap.size (.slice A n c) acc.k.es ∧
      X.ownsRow w4.heap.size 9 1 (.slice Al S.t.length kl) S.t.length ((S.t.map (·.1)).map encStr) ∧ Below W.heap.size W X) (by kernel_rfl)
    ⟨_, 0, ⟨false, 0, Kp.zero, false⟩, none, 0, 0, rfl, rfl, by omega, rfl, ⟨by decide, ⟨by decide, by decide⟩, by decide⟩, hb3, hb5, hb6', ERow.nil _ _ _, hOl, hB05⟩ ?_
  clear hb3 hb5 hb6' hOl hB05 hB5 hB04
  rintro q τ vs X ⟨j, acc, A, n, c, rfl, rfl, hj, hacc, hok, hb3, hb5, hb6, hE, hO, hB⟩
  by_cases hjn : j < S.t.length
  case neg =>
    obtain rfl : j = S.t.length := by omega
    rw [List.take_length] at hacc
    have hscan : wScan S.t = acc := hacc
    unfold DS.wopen
    rw [hscan]
    have hd := h.below hB
    obtain ⟨hn9, hbase, hlen⟩ := id hok
    obtain ⟨hbase1, hbase2⟩ := hbase
    have hkl := hE.at_.2.2
    by_cases hcor : acc.some_ = true ∧ acc.n = 0
    · rw [if_pos hcor]
      obtain ⟨h1, h2⟩ := hcor
      have h2' : (acc.n : Int) = 0 := by omega
      ((conv => whnf); (repeat ((first | (refine VL.cons ?_) | (refine VL.nil ?_) | (refine VC.seqS rfl ?_) | (refine VC.region ?_)); (conv => whnf))))
      (repeat (first | ((first | (refine VL.cons ?_) | (refine VL.nil ?_) | (refine VC.seqS rfl ?_) | (refine VC.region ?_) | (refine VC.cond ?_) | (refine VC.exit ?_) | (refine VBool.t ?_) | (refine VBool.dT (by omega) ?_) | (refine VBool.dF (by omega) ?_) | (refine VRead.fld ?_) | (refine VC.seq ?_)); (conv => whnf)) | (refine VBool.yes h1 ?_; (conv => whnf)) | (refine VRead.loadB hb5 rfl rfl ?_; (conv => whnf))))
      refine VRead.ofW (v := .agg (kC Kp.zero none 0 0)) (fun _ => by kernel_rfl) ?_
      ((conv => whnf); (repeat ((first | (refine VL.cons ?_)); (conv => whnf))))
      ((repeat ((fail); (conv => whnf))))
      refine VUnit.storeAB hb3 rfl rfl rfl (by simp [kC, Kp.zero, Value.oneCell']) ?_
      intro X2 hb32 hg2
      rw [setFrom_allW rfl] at hb32
      ((conv => whnf); (repeat ((first | (refine VL.cons ?_) | (refine VL.nil ?_) | (refine VC.ret ?_)); (conv => whnf))))
      ((repeat ((fail); (conv => whnf))))
      refine VRes.op3 rfl hb32 rfl ?_
      have hB2 : Below W.heap.size W X2 := only_new hB hg2 (by omega) hB.size
      exact ⟨U, h.below hB2, Step.new hB2, rfl⟩
    rw [if_neg hcor]
    (conv => whnf)
    (iterate 8 ((first | (refine VL.cons ?_) | (refine VL.nil ?_) | (refine VC.seqS rfl ?_) | (refine VC.region ?_) | (refine VC.cond ?_) | (refine VC.exit ?_) | (refine VBool.dF (by omega) ?_) | (refine VC.seq ?_)); (conv => whnf)))
    refine VC.cut [2, 4] [(2, 2), (4, 4), (57, 65)] (fun vs Y => vs = [.pointer none, .int .i64 0] ∧ Y = X) (by kernel_rfl) ?_ ?_
    · cases hsm : acc.some_ with
      | false =>
        ((conv => whnf); (repeat ((first | (refine VL.cons ?_) | (refine VC.seqS rfl ?_) | (refine VC.region ?_)); (conv => whnf))))
        (repeat (first | ((first | (refine VL.cons ?_) | (refine VL.nil ?_) | (refine VC.cond ?_) | (refine VC.skip ?_) | (refine VBool.f ?_)); (conv => whnf)) | (refine VBool.no hsm ?_; (conv => whnf))))
        exact ⟨rfl, rfl⟩
      | true =>
        have h2' : ¬ (acc.n : Int) = 0 := fun e => hcor ⟨hsm, by omega⟩
        ((conv => whnf); (repeat ((first | (refine VL.cons ?_) | (refine VC.seqS rfl ?_) | (refine VC.region ?_)); (conv => whnf))))
        (repeat (first | ((first | (refine VL.cons ?_) | (refine VL.nil ?_) | (refine VC.cond ?_) | (refine VC.skip ?_) | (refine VBool.t ?_) | (refine VBool.dF (by omega) ?_) | (refine VRead.fld ?_)); (conv => whnf)) | (refine VBool.yes hsm ?_; (conv => whnf)) | (refine VRead.loadB hb5 rfl rfl ?_; (conv => whnf))))
        exact ⟨rfl, rfl⟩
    rintro τ2 vs Y ⟨rfl, hYX⟩
    have hB' : Below W.heap.size W Y := by rw [hYX]; exact hB
    rw [← hYX] at hb3 hb5 hb6 hE hd
    clear hYX hB hO
    have g5l := hb5.lt
    have g6l := hb6.lt
    have hE7 : Below Y.heap.size Y (Y.drewN 1) := below_drewN (Below.refl _ _) 1
    replace hb3 := hb3.later hE7
    replace hb5 := hb5.later hE7
    replace hb6 := hb6.later hE7
    replace hE := hE.below hE7
    have hB7 := hB'.trans (hE7.mono hB'.size)
    ((conv => whnf); (repeat ((fail); (conv => whnf))))
    ((repeat ((first | (refine VC.draw ?_) | (refine VC.seq ?_)); (conv => whnf))))
    refine VDraw.seg (fun Z => Blk Z g6 50 (kC acc.k A n c)) [([0, 1, 2, 3, 4, 5, 6, 7, 8, 9, 10, 11], 12), ([13, 14], 15)] [] (by kernel_rfl) (by kernel_rfl) hb6 ?_
    generalize Y.drewN 1 = Y1 at *
    (conv => whnf)
    (repeat ((first | (refine VRead.loadBS (fun Z hZ => hZ) rfl rfl ?_) | (refine VQ.cons ?_) | (refine VQ.nil ?_) | (refine VG.cons ?_) | (refine VRead.lenS ?_) | (refine VRead.fld ?_) | (refine VWrap.i64 (by omega) (by omega) ?_)); (conv => whnf)))
    refine VUnit.storeB hb5 rfl rfl rfl ?_
    intro Y2 hb52 hg2
    replace hE := hE.keepG hb5 hg2 (by decide) (hE.notBlk hb5 (by decide))
    replace hb3 := hb3.only hg2 (by omega)
    replace hb6 := hb6.only hg2 (by omega)
    have hB8 : Below W.heap.size W Y2 := only_new hB7 hg2 (by omega) hB7.size
    (conv => whnf)
    refine Keep.mk hb6 ?_
    (conv => whnf)
    ((repeat ((first | (refine VQ.cons ?_) | (refine VQ.nil ?_) | (refine VG.cons ?_) | (refine VRead.fld ?_)); (conv => whnf))))
    refine VUnit.storeB hb52 rfl rfl rfl ?_
    intro Y3 hb53 hg3'
    replace hE := hE.keepG hb52 hg3' (by decide) (hE.notBlk hb52 (by decide))
    replace hb3 := hb3.only hg3' (by omega)
    replace hb6 := hb6.only hg3' (by omega)
    have hB9 : Below W.heap.size W Y3 := only_new hB8 hg3' (by omega) hB8.size
    have hw3 : Blk Y3 g5 82 (wlC d acc.wl) := by
      have e1 : acc.wl = ⟨acc.n, acc.k.base, acc.k.base + n⟩ := by unfold Scn.wl; rw [hkl]
      rw [e1]; exact hb53
    clear hb5 hb52 hb53 hg2 hg3' hB7 hB8 hE7 hB' hd
    (conv => whnf)
    refine Keep.mk hb6 ?_
    have hd := h.below hB9
    have hU := h.lt
    have n3 : ¬ U g3 := fun hu => by have := hU g3 hu; omega
    have n5 : ¬ U g5 := fun hu => by have := hU g5 hu; omega
    have n6 : ¬ U g6 := fun hu => by have := hU g6 hu; omega
    replace hE : ERow Y3 (NotU U) W.heap.size (.slice A n c) acc.k.es := hE.more (Nat.le_refl _) (fun j _ hj hu => by have : W.heap.size ≤ j := hj; have := hU j hu; omega)
    have st := Step.new (U := U) hB9
    have hwlok := hok.wl
    have hwn : acc.wl.n = (acc.n : Int) := rfl
    obtain ⟨R, hR⟩ : ∃ R, S.wnext acc = R := ⟨_, rfl⟩
    rw [hR]
    (conv => whnf)
    (iterate 6 ((first | (refine VL.cons ?_) | (refine VL.nil ?_) | (refine VC.seqS rfl ?_) | (refine VC.region ?_) | (refine VQ.nil ?_) | (refine VG.nil ?_)); (conv => whnf)))
    have hRc := wnext_calls S acc
    rw [hR] at hRc
    refine VC.cut [18] [(18, 18), (80, 90)] (fun vs X => vs = [.int .i64 R.1.1] ∧ ∃ U', Dsk X U' d R.1.2 ∧ Blk X g5 82 (wlC d R.2) ∧ ¬ U' g5 ∧ Step Y3 (addF U g5) X (addF U' g5)) (by kernel_rfl) ?_ ?_
    · cases hwh : acc.whole with
      | true =>
        have e1 : S.wnext acc = (S.sync (wName acc.n), acc.wl) := by unfold DS.wnext; rw [if_pos hwh]
        rw [e1] at hR
        subst hR
        ((conv => whnf); (repeat ((first | (refine VL.cons ?_) | (refine VL.nil ?_) | (refine VC.seqS rfl ?_) | (refine VC.region ?_) | (refine VC.cond ?_)); (conv => whnf))))
        (repeat (first | ((first | (refine VL.cons ?_) | (refine VC.region ?_) | (refine VBool.t ?_) | (refine VRead.fld ?_)); (conv => whnf)) | (refine VBool.yes hwh ?_; (conv => whnf)) | (refine VRead.loadB hw3 rfl rfl ?_; (conv => whnf))))
        refine VCall.of (walName_any (acc.n : Int) Y3 (by omega)) ?_
        rintro e Z1 ⟨rfl, hZ1⟩
        refine ⟨_, rfl, ?_⟩
        ((conv => whnf); (repeat ((first | (refine VL.cons ?_)); (conv => whnf))))
        ((repeat ((fail); (conv => whnf))))
        refine VCall.of (oSync Z1 U d S (wName acc.n) (hd.below hZ1) (by omega) (by have := wName_le (acc.n : Int); omega)) ?_
        rintro e Z2 ⟨rfl, U2, hd2, st2⟩
        refine ⟨_, rfl, ?_⟩
        obtain ⟨hw4, n52⟩ := ((Step.new (U := U) hZ1).trans st2).blk hw3 n5
        ((conv => whnf); (repeat ((first | (refine VL.cons ?_) | (refine VL.nil ?_)); (conv => whnf))))
        ((repeat ((fail); (conv => whnf))))
        exact ⟨rfl, U2, hd2, hw4, n52, ((Step.new (U := U) hZ1).trans st2).add g5⟩
      | false =>
        have e1 : S.wnext acc = S.wanew acc.wl acc.k := by unfold DS.wnext; rw [if_neg (by rw [hwh]; simp)]
        rw [e1] at hR
        subst hR
        ((conv => whnf); (repeat ((first | (refine VL.cons ?_) | (refine VL.nil ?_) | (refine VC.seqS rfl ?_) | (refine VC.region ?_) | (refine VC.cond ?_)); (conv => whnf))))
        (repeat (first | ((first | (refine VL.cons ?_) | (refine VC.region ?_) | (refine VBool.f ?_)); (conv => whnf)) | (refine VBool.no hwh ?_; (conv => whnf)) | (refine VRead.loadAB1 hb6 rfl rfl ?_; (conv => whnf))))
        refine VCall.of (walAnew_any Y3 U g5 d S acc.wl acc.k A n c hd hw3 n5 hwlok (hE.at_.1.more (fun j hj _ => hj)) (by omega) (by omega) (by omega)) ?_
        rintro e Z2 ⟨rfl, U2, hd2, hw4, n52, st2⟩
        refine ⟨_, rfl, ?_⟩
        ((conv => whnf); (repeat ((first | (refine VL.cons ?_) | (refine VL.nil ?_)); (conv => whnf))))
        ((repeat ((fail); (conv => whnf))))
        exact ⟨rfl, U2, hd2, hw4, n52, st2⟩
    rintro τ3 vs X2 ⟨rfl, U2, hd2, hw4, n52, st2⟩
    obtain ⟨hRc1, hRn⟩ := hRc
    refine VC.cut [18] [(18, 18), (91, 94)] (fun vs X => vs = [.int .i64 (DS.wend R).1] ∧ ∃ U', Dsk X U' d (DS.wend R).2 ∧ Blk X g5 82 (wlC d R.2) ∧ ¬ U' g5 ∧ Step Y3 (addF U g5) X (addF U' g5)) (by kernel_rfl) ?_ ?_
    · by_cases cr : R.1.1 = 0
      case neg =>
        have e1 : DS.wend R = R.1 := by unfold DS.wend; rw [andT_no cr]
        rw [e1]
        ((conv => whnf); (repeat ((first | (refine VL.cons ?_) | (refine VL.nil ?_) | (refine VC.seqS rfl ?_) | (refine VC.region ?_) | (refine VC.cond ?_)); (conv => whnf))))
        (repeat (first | ((first | (refine VC.skip ?_) | (refine VBool.dF (by omega) ?_)); (conv => whnf)) | (refine VBool.dF cr ?_; (conv => whnf))))
        exact ⟨rfl, U2, hd2, hw4, n52, st2⟩
      have e1 : DS.wend R = R.1.2.clear wPre (wName R.2.n) R.1.2.keys := by unfold DS.wend; rw [andT_ok cr]
      rw [e1]
      ((conv => whnf); (repeat ((first | (refine VL.cons ?_) | (refine VL.nil ?_) | (refine VC.seqS rfl ?_) | (refine VC.region ?_) | (refine VC.cond ?_)); (conv => whnf))))
      (repeat (first | ((first | (refine VL.cons ?_) | (refine VC.region ?_) | (refine VBool.dT (by omega) ?_)); (conv => whnf)) | (refine VBool.dT cr ?_; (conv => whnf))))
      refine VCall.of (walClears_any X2 U2 g5 d R.1.2 R.2 hd2 hw4 n52 (by omega) (by omega)) ?_
      rintro e X3 ⟨rfl, U3, hd3, st3⟩
      refine ⟨_, rfl, ?_⟩
      obtain ⟨hw5, n53⟩ := st3.blk hw4 n52
      ((conv => whnf); (repeat ((first | (refine VL.cons ?_) | (refine VL.nil ?_)); (conv => whnf))))
      ((repeat ((fail); (conv => whnf))))
      exact ⟨rfl, U3, hd3, hw5, n53, st2.trans (st3.add g5)⟩
    clear hd2 hw4 n52 st2
    rintro τ4 vs X3 ⟨rfl, U3, hd3, hw5, n53, st3⟩
    obtain ⟨E, hEe⟩ : ∃ E, DS.wend R = E := ⟨_, rfl⟩
    rw [hEe] at hd3 ⊢
    obtain ⟨hb33, n33⟩ := st3.blk hb3 (fun h => by
      rcases h with h | h
      · exact n3 h
      · omega)
    obtain ⟨hb63, n63⟩ := st3.blk hb6 (fun h => by
      rcases h with h | h
      · exact n6 h
      · omega)
    have hE3 := ((hE.addU hw3 (by decide) (by decide)).step st3).unU
    have stW := Step.past hB9 st3 (by omega)
    have hg3n : ¬ U3 g3 := fun hu => n33 (.inl hu)
    have hg6n : ¬ U3 g6 := fun hu => n63 (.inl hu)
    clear hb3 hb6 hE hw3 st3 st hd
    by_cases cE : E.1 = 0
    case neg =>
      rw [if_neg cE]
      ((conv => whnf); (repeat ((fail); (conv => whnf))))
      (repeat (first | ((first | (refine VL.cons ?_) | (refine VL.nil ?_) | (refine VC.seqS rfl ?_) | (refine VC.region ?_) | (refine VC.cond ?_) | (refine VBool.nF (by omega) ?_) | (refine VC.seq ?_)); (conv => whnf)) | (refine VBool.nF cE ?_; (conv => whnf))))
      refine VRead.ofW (v := .agg (kC Kp.zero none 0 0)) (fun _ => by kernel_rfl) ?_
      ((conv => whnf); (repeat ((first | (refine VL.cons ?_)); (conv => whnf))))
      ((repeat ((fail); (conv => whnf))))
      refine VUnit.storeAB hb33 rfl rfl rfl (by simp [kC, Kp.zero, Value.oneCell']) ?_
      intro X4 hb34 hg4
      rw [setFrom_allW rfl] at hb34
      ((conv => whnf); (repeat ((first | (refine VL.cons ?_) | (refine VL.nil ?_) | (refine VC.ret ?_)); (conv => whnf))))
      ((repeat ((fail); (conv => whnf))))
      refine VRes.op3 rfl hb34 rfl ?_
      exact ⟨U3, hd3.cell hg4 hg3n, stW.pastG hg4 (by omega), rfl⟩
    rw [if_pos cE]
    ((conv => whnf); (repeat ((fail); (conv => whnf))))
    (repeat (first | ((first | (refine VL.cons ?_) | (refine VL.nil ?_) | (refine VC.seqS rfl ?_) | (refine VC.region ?_) | (refine VC.draw ?_) | (refine VC.cond ?_) | (refine VC.skip ?_) | (refine VBool.nT (by omega) ?_) | (refine VC.seq ?_)); (conv => whnf)) | (refine VBool.nT cE ?_; (conv => whnf))))
    have hE4 : Below X3.heap.size X3 (X3.drewN 1) := below_drewN (Below.refl _ _) 1
    replace hb33 := hb33.later hE4
    replace hb63 := hb63.later hE4
    replace hw5 := hw5.later hE4
    replace hE3 := hE3.below hE4
    replace hd3 := hd3.below hE4
    replace stW := stW.trans (Step.new (U := U3) hE4)
    refine VDraw.seg (fun Z => Blk Z g6 50 (kC acc.k A n c)) [([0, 1, 2], 3)] [4] (by kernel_rfl) (by kernel_rfl) hb63 ?_
    generalize X3.drewN 1 = X5 at *
    (conv => whnf)
    (repeat ((first | (refine VRead.loadAB (fun Z hZ => hZ) rfl rfl ?_) | (refine VQ.cons ?_) | (refine VQ.nil ?_) | (refine VG.cons ?_)); (conv => whnf)))
    refine VUnit.storeAB hb33 rfl rfl rfl (by simp [kC, Value.oneCell']) ?_
    intro X6 hb36 hg6'
    rw [setFrom_allW (vs := kC acc.k A n c) (by rfl)] at hb36
    replace hE3 := hE3.keepG hb33 hg6' (by decide) (hE3.notBlk hb33 (by decide))
    replace hb63 := hb63.only hg6' (by omega)
    replace hw5 := hw5.only hg6' (by omega)
    (conv => whnf)
    refine Keep.mk hb63 ?_
    ((conv => whnf); (repeat ((first | (refine VC.ret ?_) | (refine VQ.cons ?_) | (refine VQ.nil ?_) | (refine VG.nil ?_)); (conv => whnf))))
    ((repeat ((fail); (conv => whnf))))
    refine VRes.op3 rfl hb36 rfl ?_
    exact ⟨U3, hd3.cell hg6' hg3n, stW.pastG hg6' (by omega), g5, A, n, c, rfl, hw5, n53, by omega, hE3⟩
  obtain ⟨p, hp⟩ : ∃ p, S.t[j]? = some p := ⟨_, List.getElem?_eq_getElem hjn⟩
  have hpm := List.mem_of_getElem? hp
  have hpn := (h.wf.t.names p hpm).2
  have htk : (S.t.take (j + 1)).foldl woStep ⟨false, 0, Kp.zero, false⟩ = woStep acc p := by rw [take_snoc hp, List.foldl_append, hacc]; rfl
  have hpu := len_used hpm
  obtain ⟨ad, u, rfl, _, hu, hcell⟩ := (Reads.row hO).at_ hjn
  obtain ⟨x', hx', rfl⟩ := map_at hu
  rw [List.getElem?_map, hp] at hx'
  obtain rfl := Option.some.inj hx'
  have hcell' : X.cell? (ad.add j) = some (.string (txt p.1)) := hcell
  ((conv => whnf); (repeat ((first | (refine VL.cons ?_) | (refine VL.nil ?_) | (refine VC.seqS rfl ?_) | (refine VC.region ?_)); (conv => whnf))))
  (repeat (first | ((first | (refine VL.cons ?_) | (refine VL.nil ?_) | (refine VC.seqS rfl ?_) | (refine VC.region ?_) | (refine VC.cond ?_) | (refine VC.block ?_) | (refine VC.skip ?_) | (refine VBool.dT (by omega) ?_) | (refine VRead.load1 (by assumption) ?_) | (refine VRead.at1 (by omega) ?_) | (refine VC.seq ?_)); (conv => whnf)) | (refine VRead.at1 hjn ?_; (conv => whnf))))
  refine VCall.of (walNumber_any p.1 X (by omega)) ?_
  rintro e X2 ⟨rfl, hB2⟩
  refine ⟨_, rfl, ?_⟩
  have hB02 := hB.trans (hB2.mono hB.size)
  replace hb3 := hb3.later hB2
  replace hb5 := hb5.later hB2
  replace hb6 := hb6.later hB2
  replace hE := hE.below hB2
  replace hO := rows_below hO hB2 (Nat.le_refl _)
  cases hN : wNum p.1 with
  | none =>
    have e1 : woStep acc p = acc := by unfold woStep; rw [hN]
    ((conv => whnf); (repeat ((first | (refine VL.cons ?_) | (refine VL.nil ?_)); (conv => whnf))))
    ((repeat ((first | (refine VL.cons ?_) | (refine VL.nil ?_) | (refine VC.seqS rfl ?_) | (refine VC.region ?_) | (refine VC.cond ?_) | (refine VC.exit ?_) | (refine VBool.t ?_) | (refine VWrap.i64 (by omega) (by omega) ?_) | (refine VC.seq ?_)); (conv => whnf))))
    exact ⟨_, by omega, j + 1, acc, A, n, c, rfl, rfl, by omega, by rw [htk, e1], hok, hb3, hb5, hb6, hE, hO, hB02⟩
  | some nn =>
    obtain ⟨_, hk1, hk2⟩ := wNum_some hN
    have hd2 := h.below hB02
    ((conv => whnf); (repeat ((first | (refine VL.cons ?_) | (refine VL.nil ?_)); (conv => whnf))))
    ((repeat ((first | (refine VL.cons ?_) | (refine VL.nil ?_) | (refine VC.seqS rfl ?_) | (refine VC.region ?_) | (refine VC.cond ?_) | (refine VC.skip ?_) | (refine VBool.f ?_) | (refine VC.seq ?_)); (conv => whnf))))
    refine VCall.of (oRead X2 U d S p.1 hd2 (by omega)) ?_
    rintro e X3 ⟨u3, rfl, hrd, hB3⟩
    refine ⟨_, rfl, ?_⟩
    unfold readR at hrd
    rw [tfind_of hris.nd (show (p.1, p.2) ∈ S.t from hpm)] at hrd
    obtain ⟨A3, k3, rfl, hO3⟩ := hrd
    ((conv => whnf); (repeat ((first | (refine VL.cons ?_) | (refine VL.nil ?_) | (refine VC.seqS rfl ?_) | (refine VC.region ?_)); (conv => whnf))))
    ((repeat ((fail); (conv => whnf))))
    refine VCall.of (walRead_any A3 p.2.b.length k3 p.2.b X3 (by omega) hO3.cap hO3.reads) ?_
    rintro e X4 ⟨⟨v4, rfl, hV4⟩, hB4⟩
    refine ⟨_, rfl, ?_⟩
    have hB24 : Below X2.heap.size X2 X4 := hB3.trans (hB4.mono hB3.size)
    have hB04 := hB02.trans (hB24.mono hB02.size)
    have u24 := hB24.size
    have u02 := hB02.size
    have hX3 : W.heap.size ≤ X3.heap.size := Nat.le_trans hB02.size hB3.size
    have u23 := hB3.size
    have g5l := hb5.lt
    have g6l := hb6.lt
    replace hb3 := hb3.later hB24
    replace hb5 := hb5.later hB24
    replace hb6 := hb6.later hB24
    replace hE := hE.below hB24
    replace hO := rows_below hO hB24 (Nat.le_refl _)
    cases hs : readW p.2.b with
    | none =>
      have e1 : woStep acc p = { acc with some_ := true } := by unfold woStep; rw [hN]; simp only; rw [hs]
      rw [hs] at hV4
      have hv4 : v4 = .tuple #[.agg (kC Kp.zero none 0 0), .bool false, .bool false] := hV4
      subst hv4
      ((conv => whnf); (repeat ((first | (refine VL.cons ?_)); (conv => whnf))))
      ((repeat ((fail); (conv => whnf))))
      refine VSem.allocZ (z := .agg (kC Kp.zero none 0 0)) (by kernel_rfl) ?_
      intro X5 q hq hqe hql hB5
      ((conv => whnf); (repeat ((first | (refine VL.cons ?_)); (conv => whnf))))
      ((repeat ((fail); (conv => whnf))))
      refine VUnit.storeAB hq rfl rfl rfl (by simp [kC, Kp.zero, Value.oneCell']) ?_
      intro X6 hq6 hg6
      have hB46 : Below X4.heap.size X4 X6 := only_new hB5 hg6 (by omega) (by omega)
      have hB06 := hB04.trans (hB46.mono hB04.size)
      ((conv => whnf); (repeat ((first | (refine VL.cons ?_) | (refine VL.nil ?_) | (refine VC.seqS rfl ?_) | (refine VC.region ?_) | (refine VC.cond ?_)); (conv => whnf))))
      ((repeat ((first | (refine VL.cons ?_) | (refine VL.nil ?_) | (refine VC.region ?_) | (refine VC.skip ?_) | (refine VBool.f ?_) | (refine VWrap.i64 (by omega) (by omega) ?_)); (conv => whnf))))
      exact ⟨_, by omega, j + 1, { acc with some_ := true }, A, n, c, rfl, rfl, by omega, by rw [htk, e1], ⟨hok.n, hok.b, hok.l⟩, hb3.later hB46, hb5.later hB46, hb6.later hB46, hE.below hB46, rows_below hO hB46 (Nat.le_refl _), hB06⟩
    | some kp =>
      rw [hs] at hV4
      obtain ⟨A5, n5, c5, rfl, hE5⟩ := hV4
      obtain ⟨hbk, hlk⟩ := readW_ok hs
      have e1 : woStep acc p = ⟨true, nn, kp, isWhole p.2.b⟩ := by unfold woStep; rw [hN]; simp only; rw [hs]
      ((conv => whnf); (repeat ((first | (refine VL.cons ?_)); (conv => whnf))))
      ((repeat ((fail); (conv => whnf))))
      refine VSem.allocZ (z := .agg (kC Kp.zero none 0 0)) (by kernel_rfl) ?_
      intro X5 q hq hqe hql hB5
      ((conv => whnf); (repeat ((first | (refine VL.cons ?_)); (conv => whnf))))
      ((repeat ((fail); (conv => whnf))))
      refine VUnit.storeAB hq rfl rfl rfl (by simp [kC, Value.oneCell']) ?_
      intro X6 hq6 hg6
      rw [setFrom_allW (vs := kC kp A5 n5 c5) (by rfl)] at hq6
      replace hq6 : Blk X6 q 50 (kC kp A5 n5 c5) := hq6
      have hB46 : Below X4.heap.size X4 X6 := only_new hB5 hg6 (by omega) (by omega)
      have hB06 := hB04.trans (hB46.mono hB04.size)
      have hb5l := hb5.lt
      have hb6l := hb6.lt
      have hb3l := hb3.lt
      replace hb3 := hb3.later hB46
      replace hb5 := hb5.later hB46
      replace hb6 := hb6.later hB46
      replace hO := rows_below hO hB46 (Nat.le_refl _)
      replace hE5 := hE5.below hB46
      have hE7 : Below X6.heap.size X6 (X6.drewN 1) := below_drewN (Below.refl _ _) 1
      replace hb3 := hb3.later hE7
      replace hb5 := hb5.later hE7
      replace hb6 := hb6.later hE7
      replace hq6 := hq6.later hE7
      replace hO := rows_below hO hE7 (Nat.le_refl _)
      replace hE5 := hE5.below hE7
      have hB07 := hB06.trans (hE7.mono hB06.size)
      ((conv => whnf); (repeat ((first | (refine VL.cons ?_) | (refine VL.nil ?_) | (refine VC.seqS rfl ?_) | (refine VC.region ?_) | (refine VC.cond ?_)); (conv => whnf))))
      ((repeat ((first | (refine VC.draw ?_) | (refine VBool.t ?_)); (conv => whnf))))
      refine VDraw.seg (fun Y => Blk Y q 50 (kC kp A5 n5 c5)) [([0, 1, 2, 3, 4, 5], 6), ([], 7)] [8] (by kernel_rfl) (by kernel_rfl) hq6 ?_
      generalize X6.drewN 1 = X7 at *
      (conv => whnf)
      (repeat ((first | (refine VRead.loadAB (fun Y hY => hY) rfl rfl ?_) | (refine VQ.cons ?_) | (refine VQ.nil ?_) | (refine VG.cons ?_) | (refine VRead.fld ?_)); (conv => whnf)))
      refine VUnit.storeB hb5 rfl rfl rfl ?_
      intro X8 hb58 hg8
      replace hb58 : Blk X8 g5 82 (wlC d ⟨nn, 0, 0⟩) := hb58
      replace hO := rows_apart hO hg8 (fun q' e hq' => by have h1 := (World.ownsRow.lt hO q' hq').1; have h2 : g5 = q' := by { injection e }; omega)
      replace hE5 := hE5.keepG hb5 hg8 (by decide) (fun e => by have := (hE5.lt e).2; omega)
      replace hb3 := hb3.only hg8 (by omega)
      replace hb6 := hb6.only hg8 (by omega)
      replace hq6 := hq6.only hg8 (by omega)
      have hB08 : Below W.heap.size W X8 := only_new hB07 hg8 (by omega) hB07.size
      (conv => whnf)
      refine Keep.mk hq6 ?_
      (conv => whnf)
      ((repeat ((first | (refine VQ.nil ?_) | (refine VG.cons ?_)); (conv => whnf))))
      refine VUnit.storeAB hb6 rfl rfl rfl (by simp [kC, Value.oneCell']) ?_
      intro X9 hb69 hg9
      rw [setFrom_allW (vs := kC kp A5 n5 c5) (by rfl)] at hb69
      replace hO := rows_apart hO hg9 (fun q' e hq' => by have h1 := (World.ownsRow.lt hO q' hq').1; have h2 : g6 = q' := by { injection e }; omega)
      replace hE5 := hE5.keepG hb6 hg9 (by decide) (fun e => by have := (hE5.lt e).2; omega)
      replace hb3 := hb3.only hg9 (by omega)
      replace hb58 := hb58.only hg9 (by omega)
      replace hq6 := hq6.only hg9 (by omega)
      have hB09 : Below W.heap.size W X9 := only_new hB08 hg9 (by omega) hB08.size
      (conv => whnf)
      refine Keep.mk hq6 ?_
      (conv => whnf)
      ((repeat ((first | (refine VL.cons ?_) | (refine VL.nil ?_) | (refine VC.region ?_) | (refine VQ.cons ?_) | (refine VQ.nil ?_) | (refine VG.nil ?_) | (refine VWrap.i64 (by omega) (by omega) ?_)); (conv => whnf))))
      exact ⟨_, by omega, j + 1, ⟨true, nn, kp, isWhole p.2.b⟩, A5, n5, c5, rfl, rfl, by omega, by rw [htk, e1], ⟨by omega, hbk, by simp only; omega⟩, hb3, hb58, hb69, hE5.more (by omega) (fun j _ hj => by have : X3.heap.size ≤ j := hj; show W.heap.size ≤ j; omega), hO, hB09⟩
end Go.Proofs.YtebeidnmplnlpaaGreat
end

section
namespace Go.Proofs.YtebeidnmplnlpaaGreat
set_option linter.unusedVariables false
open Go.RowKit

namespace Frame
theorem get_end (l : List UInt8) : get l l.length = ([], 0, 3) := by
  unfold get
  rw [if_neg (by omega), if_pos rfl]
end Frame
end Go.Proofs.YtebeidnmplnlpaaGreat
end

section
namespace Go.Proofs.YtebeidnmplnlpaaGreat
set_option linter.unusedVariables false
open Go.RowKit

theorem f_info : (Tryz.prog.info? 122).map (fun i => (i.zero, i.size, i.bytes)) = some (some (.agg #[.int .i64 0, .slice none 0 0, .int .i64 0]), 3, 40) := by kernel_rfl
/-- the frames that have come, as the reference keeps them -/
def FmRow (l : List UInt8) (B : Nat) (v : Value) (k : Nat) (W : World) : Prop := ∃ xs : List Value, W.ownsRow B 122 3 v k xs ∧
  ∀ i, i < k → ∃ A m c, xs[3 * i]? = some (.int .i64 (Frame.place l i)) ∧ xs[3 * i + 1]? = some (.slice A m c) ∧ Own W B (.slice A m c) m (Frame.body l i)
theorem FmRow.below {l : List UInt8} {B C : Nat} {v : Value} {k : Nat} {W W' : World} (h : FmRow l B v k W) (hb : Below C W W') (hC : W.heap.size ≤ C) : FmRow l B v k W' := by
  obtain ⟨xs, h1, h2⟩ := h
  exact ⟨xs, rows_below h1 hb hC, fun i hi => by obtain ⟨A, m, c, e1, e2, e3⟩ := h2 i hi; exact ⟨A, m, c, e1, e2, e3.below hb hC⟩⟩
theorem Frame.one_ok {l : List UInt8} {k a : Nat} (hp : Frame.place l k = (a : Int)) (ha : a < l.length) : match Frame.first (l.drop a) with
    | none => ¬ Frame.okAt l k
    | some (b, _) => Frame.okAt l k ∧ Frame.body l k = b ∧ Frame.place l (k + 1) = (a : Int) + (Frame.put b).length := by
  have hG : Frame.get l (a : Int) = match Frame.first (l.drop a) with
      | none => ([], 0, 4)
      | some (body, r) => (body, (a : Int) + (Frame.put body).length, 0) := by
    unfold Frame.get
    rw [if_neg (by omega), if_neg (by omega), Int.toNat_natCast]
    all_goals (cases Frame.first (l.drop a) <;> rfl)
  have e : Frame.place l (k + 1) = (Frame.get l (Frame.place l k)).2.1 := rfl
  unfold Frame.okAt Frame.body
  rw [e, hp, hG]
  cases Frame.first (l.drop a) with
  | none => simp
  | some br => exact ⟨rfl, rfl, rfl⟩
theorem Frame.end_ok {l : List UInt8} {k : Nat} (hp : Frame.place l k = (l.length : Int)) : ¬ Frame.okAt l k := by
  unfold Frame.okAt; rw [hp, Frame.get_end]; decide
theorem Frame.place_six {l : List UInt8} : ∀ {k : Nat}, (∀ i, i < k → Frame.okAt l i) → (6 * k : Int) ≤ Frame.place l k
  | 0, _ => by unfold Frame.place; omega
  | k + 1, h => by
    have h1 := Frame.place_six (k := k) (fun i hi => h i (by omega))
    have h2 := Frame.place_ok (h k (by omega))
    omega
set_option maxRecDepth 10000 in
theorem refAll_any (A : Option Addr) (n c : Nat) (l : List UInt8) (w : World) (hn : n ≤ 16777216) (hnc : n ≤ c) (hr : Reads w w.heap.size 1 A n (bv l)) :
    Calls Tryz.prog 76 #[.slice A n c] w fun e w' => ∃ k A' c', (∀ i, i < k → Frame.okAt l i) ∧ ¬ Frame.okAt l k ∧ e = .returned (.tuple #[.slice A' k c', .int .i64 (Frame.place l k)]) ∧
      FmRow l w.heap.size (.slice A' k c') k w' ∧ Below w.heap.size w w' := by
  have hln : l.length = n := by have := hr.1; rw [bv_length] at this; omega
  refine calls_vc Tryz.func76 rfl (by kernel_rfl) ?_
  ((conv => whnf); (repeat ((first | (refine VL.cons ?_) | (refine VL.nil ?_) | (refine VC.seqS rfl ?_) | (refine VC.region ?_)); (conv => whnf))))
  ((repeat ((fail); (conv => whnf))))
  refine VC.cut [4, 5] [(4, 25)] (fun vs W => ∃ k A' c', vs = [.slice A' k c', .int .i64 (Frame.place l k)] ∧ (∀ i, i < k → Frame.okAt l i) ∧ ¬ Frame.okAt l k ∧ FmRow l w.heap.size (.slice A' k c') k W ∧ Below w.heap.size w W) (by kernel_rfl) ?_ ?_
  · refine VC.block ?_
    refine VC.loop [4, 5] [(4, 25)] (fun q vs W => ∃ k A' c', vs = [.slice A' k c', .int .i64 (Frame.place l k)] ∧ q = (n - Frame.place l k).toNat ∧ (∀ i, i < k → Frame.okAt l i) ∧ FmRow l w.heap.size (.slice A' k c') k W ∧ Below w.heap.size w W) (by kernel_rfl)
      ⟨_, 0, none, 0, rfl, rfl, fun i hi => absurd hi (Nat.not_lt_zero i), ⟨[], World.ownsRow_nil w _ _ _, fun i hi => absurd hi (Nat.not_lt_zero i)⟩, Below.refl _ _⟩ ?_
    rintro q τ vs W ⟨k, A1, c1, rfl, rfl, hk, hF, hB⟩
    have hp := Frame.place_le hk
    obtain ⟨a, ha⟩ : ∃ a : Nat, Frame.place l k = (a : Int) := ⟨(Frame.place l k).toNat, by omega⟩
    by_cases hend : a < n
    · have hone := Frame.one_ok ha (by omega)
      rw [ha]
      ((conv => whnf); (repeat ((fail); (conv => whnf))))
      ((repeat ((first | (refine VL.cons ?_) | (refine VL.nil ?_) | (refine VC.seqS rfl ?_) | (refine VC.region ?_) | (refine VC.cond ?_) | (refine VC.block ?_) | (refine VC.skip ?_) | (refine VBool.dT (by omega) ?_) | (refine VRead.lenS ?_) | (refine VC.seq ?_)); (conv => whnf))))
      refine VCall.of (refOne_any A n c l a W (by omega) hnc (by omega) ((hr.below hB).more hB.size)) ?_
      rintro e W1 ⟨A2, m2, c2, rfl, hO2, hB2⟩
      refine ⟨_, rfl, ?_⟩
      unfold oneV
      unfold oneB at hO2
      cases hfst : Frame.first (l.drop a) with
      | none =>
        rw [hfst] at hone
        ((conv => whnf); (repeat ((first | (refine VL.cons ?_)); (conv => whnf))))
        ((repeat ((fail); (conv => whnf))))
        refine VSem.allocZ (z := .agg #[.int .i64 0, .slice none 0 0, .int .i64 0]) (by kernel_rfl) ?_
        intro W2 g hb hg hl hB3
        have hB3' := (hB.trans (hB2.mono hB.size)).trans (hB3.mono (hB.trans (hB2.mono hB.size)).size)
        have hF3 := (hF.below hB2 (Nat.le_refl _)).below hB3 (Nat.le_refl _)
        have hg0 : W.heap.size ≤ g := by have := hB2.size; omega
        ((conv => whnf); (repeat ((first | (refine VL.cons ?_)); (conv => whnf))))
        ((repeat ((fail); (conv => whnf))))
        refine VUnit.storeAB hb rfl rfl rfl (by simp [Value.oneCell']) ?_
        intro W3 hb3 hg3
        have hB13 : Below W1.heap.size W1 W3 := only_new hB3 hg3 (by omega) (by omega)
        have hB03 := hB2.trans (hB13.mono hB2.size)
        ((conv => whnf); (repeat ((first | (refine VL.cons ?_) | (refine VL.nil ?_)); (conv => whnf))))
        ((repeat ((first | (refine VL.cons ?_) | (refine VL.nil ?_) | (refine VC.seqS rfl ?_) | (refine VC.region ?_) | (refine VC.cond ?_) | (refine VC.exit ?_) | (refine VBool.t ?_) | (refine VC.seq ?_)); (conv => whnf))))
        exact ⟨k, A1, c1, by rw [ha]; rfl, hk, hone, hF.below hB03 (Nat.le_refl _), hB.trans (hB03.mono hB.size)⟩
      | some br =>
        obtain ⟨body, r⟩ := br
        rw [hfst] at hone hO2
        obtain ⟨hok, hbd, hpl⟩ := hone
        ((conv => whnf); (repeat ((first | (refine VL.cons ?_)); (conv => whnf))))
        ((repeat ((fail); (conv => whnf))))
        refine VSem.allocZ (z := .agg #[.int .i64 0, .slice none 0 0, .int .i64 0]) (by kernel_rfl) ?_
        intro W2 g hb hg hl hB3
        ((conv => whnf); (repeat ((first | (refine VL.cons ?_)); (conv => whnf))))
        ((repeat ((fail); (conv => whnf))))
        refine VUnit.storeAB hb rfl rfl rfl (by simp [Value.oneCell']) ?_
        intro W3 hb3 hg3
        have hB13 : Below W1.heap.size W1 W3 := only_new hB3 hg3 (by omega) (by omega)
        have hB03 := hB2.trans (hB13.mono hB2.size)
        ((conv => whnf); (repeat ((first | (refine VL.cons ?_) | (refine VL.nil ?_)); (conv => whnf))))
        ((repeat ((first | (refine VL.cons ?_) | (refine VL.nil ?_) | (refine VC.seqS rfl ?_) | (refine VC.region ?_) | (refine VC.cond ?_) | (refine VC.skip ?_) | (refine VBool.f ?_) | (refine VC.seq ?_)); (conv => whnf))))
        refine VRead.loadAB1 hb3 rfl rfl ?_
        ((conv => whnf); (repeat ((first | (refine VL.cons ?_)); (conv => whnf))))
        ((repeat ((fail); (conv => whnf))))
        refine VSem.of (v := .slice (some ⟨W3.heap.size, 0, none⟩) 1 1) (w' := W3.alloc (.cells #[.int .i64 (a : Int), .slice A2 m2 c2, .int .i64 ((a : Int) + (Frame.put body).length)] 122)) (by kernel_rfl) ?_
        ((conv => whnf); (repeat ((first | (refine VL.cons ?_)); (conv => whnf))))
        ((repeat ((fail); (conv => whnf))))
        obtain ⟨xs, hrow0, hels0⟩ := hF
        have hB4 : Below W.heap.size W (W3.alloc (.cells #[.int .i64 (a : Int), .slice A2 m2 c2, .int .i64 ((a : Int) + (Frame.put body).length)] 122)) := hB03.alloc hB03.size _
        have hO4 := (hO2.below hB13 (Nat.le_refl _)).alloc (.cells #[.int .i64 (a : Int), .slice A2 m2 c2, .int .i64 ((a : Int) + (Frame.put body).length)] 122)
        have hb4 := hb3.alloc (.cells #[.int .i64 (a : Int), .slice A2 m2 c2, .int .i64 ((a : Int) + (Frame.put body).length)] 122)
        have hnew := Blk.new W3 122 #[.int .i64 (a : Int), .slice A2 m2 c2, .int .i64 ((a : Int) + (Frame.put body).length)]
        have hsz : (W3.alloc (.cells #[.int .i64 (a : Int), .slice A2 m2 c2, .int .i64 ((a : Int) + (Frame.put body).length)] 122)).heap.size = W3.heap.size + 1 := by simp
        generalize W3.alloc (.cells #[.int .i64 (a : Int), .slice A2 m2 c2, .int .i64 ((a : Int) + (Frame.put body).length)] 122) = W4 at *
        have hrow4 := rows_below hrow0 hB4 (Nat.le_refl _)
        have hwB : w.heap.size ≤ W.heap.size := hB.size
        have hReads : Reads W4 W4.heap.size 3 (some ⟨W3.heap.size, 0, none⟩) 1 [.int .i64 (a : Int), .slice A2 m2 c2, .int .i64 ((a : Int) + (Frame.put body).length)] := by
          refine ⟨rfl, fun _ => ⟨_, rfl, by show W3.heap.size < _; omega, fun j u hu => ?_⟩⟩
          rw [show (⟨W3.heap.size, 0, none⟩ : Addr).add j = ⟨W3.heap.size, j, none⟩ from by unfold Addr.add; split <;> simp_all, hnew.cell j]
          simpa using hu
        obtain ⟨i0, hi0, hz0, hz1, hz2⟩ := info_parts f_info
        have h6 := Frame.place_six hk
        refine VSem.appR (base := w.heap.size) Tryz.underlying118 hi0 hz0 hz1 hz2 rfl (by decide) hrow4 hReads (by simp [Value.oneCell']) (by simp only [maxLen]; omega) (by omega) (by have := hB4.size; omega) ?_
        intro A6 c6 W6 hrow6 hg6 _
        have hlt := World.ownsRow.lt hrow0
        have hb6 := hb4.grown hg6 (fun e => by have := (hlt g e.symm).2; have := hB2.size; omega)
        have hB6 : Below w.heap.size w W6 := (hB.trans (hB4.mono hB.size)).grown hg6 (by have := hB4.size; omega) (fun j hj => (hlt j hj).1)
        have hxl := hrow0.1
        have hF6 : FmRow l w.heap.size (.slice A6 (k + 1) c6) (k + 1) W6 := by
          refine ⟨_, hrow6, fun i hi => ?_⟩
          rcases Nat.lt_or_ge i k with h | h
          · obtain ⟨A', m', c', e1, e2, e3⟩ := hels0 i h
            refine ⟨A', m', c', ?_, ?_, (e3.below hB4 (Nat.le_refl _)).apartG hg6 (own_apart (e3.below hB4 (Nat.le_refl _)) hrow4 (by decide))⟩
            · rw [List.getElem?_append_left (by omega)]; exact e1
            · rw [List.getElem?_append_left (by omega)]; exact e2
          · obtain rfl : i = k := by omega
            refine ⟨A2, m2, c2, ?_, ?_, ?_⟩
            · rw [List.getElem?_append_right (by omega), show 3 * i - xs.length = 0 by omega, ha]; rfl
            · rw [List.getElem?_append_right (by omega), show 3 * i + 1 - xs.length = 1 by omega]; rfl
            · rw [hbd]
              exact (Own.apartG hO4 hg6 (own_apart hO4 hrow4 (by decide))).more hwB
        have hlp := Frame.put_len body
        ((conv => whnf); (repeat ((first | (refine VL.cons ?_) | (refine VL.nil ?_) | (refine VC.region ?_)); (conv => whnf))))
        ((repeat ((first | (refine VL.cons ?_) | (refine VRead.fld ?_)); (conv => whnf))))
        refine VRead.loadB hb6 rfl rfl ?_
        ((conv => whnf); (repeat ((first | (refine VL.cons ?_) | (refine VL.nil ?_)); (conv => whnf))))
        ((repeat ((fail); (conv => whnf))))
        refine ⟨_, ?_, k + 1, A6, c6, by rw [hpl]; rfl, by rw [hpl], fun i hi => ?_, hF6, hB6⟩
        · omega
        · rcases Nat.lt_or_ge i k with h | h
          · exact hk i h
          · obtain rfl : i = k := by omega
            exact hok
    · have hn2 : a = n := by omega
      rw [ha]
      ((conv => whnf); (repeat ((fail); (conv => whnf))))
      ((repeat ((first | (refine VL.cons ?_) | (refine VL.nil ?_) | (refine VC.seqS rfl ?_) | (refine VC.region ?_) | (refine VC.cond ?_) | (refine VC.exit ?_) | (refine VBool.dF (by omega) ?_) | (refine VRead.lenS ?_) | (refine VC.seq ?_)); (conv => whnf))))
      exact ⟨k, A1, c1, by rw [ha]; rfl, hk, Frame.end_ok (by rw [ha]; omega), hF, hB⟩
  · rintro τ vs W ⟨k, A1, c1, rfl, hk, hno, hF, hB⟩
    ((conv => whnf); (repeat ((first | (refine VL.cons ?_) | (refine VL.nil ?_) | (refine VC.seqS rfl ?_) | (refine VC.region ?_) | (refine VC.ret ?_)); (conv => whnf))))
    ((repeat ((fail); (conv => whnf))))
    exact ⟨k, A1, c1, hk, hno, rfl, hF, hB⟩
end Go.Proofs.YtebeidnmplnlpaaGreat
end

section
set_option maxRecDepth 10000
namespace Go.Proofs.YtebeidnmplnlpaaGreat
set_option linter.unusedVariables false
open Go.RowKit

theorem VRes.c1t2 {P : Program} {w : World} {a b c t T1 g1 k : Nat} {σ : Env} {cs : Array Value} {R : Ending → World → Prop} [i : TAgg P t k]
    (ha : σ a = .pointer (some ⟨g1, 0, none⟩)) (h1 : Blk w g1 T1 cs) (hs : Nat.beq cs.size k = true)
    (h : R (.returned (.tuple #[.agg cs, σ b, σ c])) w) : VRes P [.cell a t, .tmp b, .tmp c] σ w R := by
  have k1 := run_load_agg (P := P) i h1 (Nat.eq_of_beq_eq_true hs)
  unfold Instr.loadAt Instr.sureAddr at k1
  simp only [Sem.run_bind, Sem.run_pure, Result.andThen_ok] at k1
  exact ⟨⟨_, by simp [resE, ha, asAddr, k1], h⟩⟩
theorem laid_geC : ∀ (bs : List (List UInt8)), bs.length ≤ (Frame.laid bs).length
  | [] => by simp
  | b :: bs => by
    have h1 := laid_geC bs
    have h2 := Frame.put_pos b
    rw [Frame.laid_cons, List.length_append, List.length_cons]
    omega
set_option maxHeartbeats 4000000 in
theorem r18Says_any (A : Option Addr) (n c : Nat) (l : List UInt8) (w : World) (hn : n ≤ 16777216) (hnc : n ≤ c) (hr : Reads w w.heap.size 1 A n (bv l)) :
    Calls Tryz.prog 54 #[.slice A n c] w fun e w' => (∃ (K : Kp) (A' : Option Addr) (n' c' : Nat) (rt wh : Bool), e = .returned (.tuple #[.agg (kC K A' n' c'), .bool rt, .bool wh]) ∧ match readW l with
      | none => rt = false
      | some kp => K = kp ∧ rt = true ∧ wh = isWhole l ∧ ERow w' (fun j => w.heap.size ≤ j) w.heap.size (.slice A' n' c') kp.es) ∧ Below w.heap.size w w' := by
  have hln : l.length = n := by have := hr.1; rw [bv_length] at this; omega
  obtain ⟨e0, _, hok0⟩ := Frame.bodies_spec l
  refine calls_vc Tryz.func54 rfl (by kernel_rfl) ?_
  ((conv => whnf); (repeat ((first | (refine VL.cons ?_) | (refine VC.seqS rfl ?_) | (refine VC.region ?_)); (conv => whnf))))
  ((repeat ((fail); (conv => whnf))))
  refine VSem.allocZ (z := .agg (kC Kp.zero none 0 0)) (by kernel_rfl) ?_
  intro w1 g2 hb2 hg2 hl2 hB1
  replace hb2 : Blk w1 g2 72 (kC Kp.zero none 0 0) := hb2
  have s1 := hB1.size
  ((conv => whnf); (repeat ((first | (refine VL.cons ?_) | (refine VL.nil ?_) | (refine VC.seqS rfl ?_) | (refine VC.region ?_)); (conv => whnf))))
  ((repeat ((fail); (conv => whnf))))
  refine VCall.of (refAll_any A n c l w1 hn hnc ((hr.below hB1).more s1)) ?_
  rintro e w2 ⟨kf, A1, c1, hk1, hk2, rfl, hF, hB2⟩
  refine ⟨_, rfl, ?_⟩
  have hkb := Frame.reach_eq hk1 hk2
  have hwh : decide (Frame.place l kf = (n : Int)) = isWhole l := by
    unfold isWhole
    rw [← hln, hkb]
    exact decide_eq_decide.2 Frame.whole_iff
  have hB02 := hB1.trans (hB2.mono s1)
  replace hb2 := hb2.later hB2
  have s2 := hB2.size
  clear hk1 hk2
  ((conv => whnf); (repeat ((first | (refine VL.cons ?_) | (refine VL.nil ?_) | (refine VC.seqS rfl ?_) | (refine VC.region ?_)); (conv => whnf))))
  ((repeat ((fail); (conv => whnf))))
  refine VRead.ofW (v := .agg (kC Kp.zero none 0 0)) (fun _ => by kernel_rfl) ?_
  ((conv => whnf); (repeat ((first | (refine VL.cons ?_)); (conv => whnf))))
  ((repeat ((fail); (conv => whnf))))
  refine VSem.allocZ (z := .agg (kC Kp.zero none 0 0)) (by kernel_rfl) ?_
  intro w3 g7 hb7 hg7 hl7 hB3
  ((conv => whnf); (repeat ((first | (refine VL.cons ?_)); (conv => whnf))))
  ((repeat ((fail); (conv => whnf))))
  refine VUnit.storeAB hb7 rfl rfl rfl (by simp [kC, Kp.zero, Value.oneCell']) ?_
  intro w4 hb7' hg7'
  rw [setFrom_allW (vs := kC Kp.zero none 0 0) (by rfl)] at hb7'
  have hB24 : Below w2.heap.size w2 w4 := only_new hB3 hg7' (by omega) (by omega)
  have hB04 := hB02.trans (hB24.mono hB02.size)
  replace hb2 := hb2.later hB24
  have s4 := hB24.size
  obtain ⟨bs, hbs⟩ : ∃ bs, Frame.bodies l = bs := ⟨_, rfl⟩
  have eS : readW l = if bs = [] then none else takesA true Kp.zero bs := by rw [← hbs]; rfl
  rw [hbs] at hkb hok0 e0
  have hbn : bs.length ≤ 16777216 := by
    have h1 := laid_geC bs
    have h2 := congrArg List.length e0
    rw [List.length_append] at h2
    omega
  have hg2l : g2 < w2.heap.size := by omega
  have hg27 : g2 ≠ g7 := by omega
  clear hb7 hl7 hB3 hg7' hl2
  ((conv => whnf); (repeat ((first | (refine VL.nil ?_)); (conv => whnf))))
  ((repeat ((first | (refine VL.cons ?_) | (refine VL.nil ?_) | (refine VC.seqS rfl ?_) | (refine VC.region ?_) | (refine VC.block ?_) | (refine VC.seq ?_)); (conv => whnf))))
  refine VC.loop [8] [(3, 4), (8, 8), (15, 30)] (fun q vs X => ∃ (j : Nat) (K : Kp) (A' : Option Addr) (n' c' : Nat), vs = [.int .i64 (j : Int)] ∧ q = kf - j ∧ j ≤ kf ∧ takesA true Kp.zero (bs.take j) = some K ∧ inR K.base 1099511627776 ∧ K.es.length ≤ j ∧
      Blk X g7 72 (kC K A' n' c') ∧ ERow X (fun q => w.heap.size ≤ q) w.heap.size (.slice A' n' c') K.es ∧ Blk X g2 72 (kC Kp.zero none 0 0) ∧ Below w2.heap.size w2 X) (by kernel_rfl)
    ⟨_, 0, Kp.zero, none, 0, 0, rfl, rfl, by omega, rfl, ⟨by decide, by decide⟩, by simp [Kp.zero], hb7', ERow.nil _ _ _, hb2, hB24⟩ ?_
  clear hb7' hb2 hB24 hB04
  rintro q τ vs X ⟨j, K, A', n', c', rfl, rfl, hj, hK, hKb, hKl, hb7, hE, hb2, hX⟩
  have hB0X := hB02.trans (hX.mono hB02.size)
  have hn' := hE.at_.2.2
  by_cases hlt : j < kf
  case neg =>
    obtain rfl : j = kf := by omega
    rw [List.take_of_length_le (by omega)] at hK
    ((conv => whnf); (repeat ((fail); (conv => whnf))))
    (repeat (first | ((first | (refine VL.cons ?_) | (refine VL.nil ?_) | (refine VC.seqS rfl ?_) | (refine VC.region ?_) | (refine VC.cond ?_) | (refine VC.exit ?_) | (refine VBool.dF (by omega) ?_) | (refine VRead.lenS ?_) | (refine VC.seq ?_)); (conv => whnf)) | (refine VRead.loadAB1 hb7 rfl rfl ?_; (conv => whnf))))
    refine VUnit.storeAB hb2 rfl rfl rfl (by simp [kC, Value.oneCell']) ?_
    intro X2 hb22 hg22
    rw [setFrom_allW (vs := kC K A' n' c') (by rfl)] at hb22
    have hE2 := hE.keepG hb2 hg22 (by decide) (hE.notBlk hb2 (by decide))
    have hB2' : Below w.heap.size w X2 := only_new hB0X hg22 (by omega) hB0X.size
    ((conv => whnf); (repeat ((first | (refine VL.cons ?_) | (refine VL.nil ?_) | (refine VC.ret ?_)); (conv => whnf))))
    ((repeat ((fail); (conv => whnf))))
    refine VRes.c1t2 rfl hb22 rfl ?_
    refine ⟨⟨K, A', n', c', decide (0 < (j : Int)), decide (Frame.place l j = (n : Int)), rfl, ?_⟩, hB2'⟩
    rw [eS]
    by_cases hb : bs = []
    · rw [if_pos hb]
      rw [hb] at hkb
      exact decide_eq_false (by simp at hkb; omega)
    · rw [if_neg hb, hK]
      have : 0 < bs.length := List.length_pos_iff.2 hb
      exact ⟨rfl, decide_eq_true (by omega), hwh, hE2⟩
  obtain ⟨b, hb⟩ : ∃ b, bs[j]? = some b := ⟨_, List.getElem?_eq_getElem (by omega)⟩
  have hbl := hok0 b (List.mem_of_getElem? hb)
  obtain ⟨xs, hrow, hels⟩ := hF
  obtain ⟨Ab, mb, cb, y0, y1, hOb⟩ := hels j hlt
  rw [Frame.body_at (l := l) (i := j) (b := b) (by rw [hbs]; exact hb)] at hOb
  have hmb := Own.len hOb
  obtain ⟨x1, rfl, hx1l, hxc⟩ := (Reads.row hrow).2 (by omega)
  have hcj : X.cell? ((x1.add (j * 3)).add 1) = some (.slice Ab mb cb) := by
    rw [Deep.add_add, Nat.mul_comm]
    exact (World.cell?_of_block (by rw [adb]; exact hX.block _ hx1l)).trans (hxc _ _ y1)
  have hObX := hOb.below hX (Nat.le_refl _)
  have hstep : takesA true Kp.zero (bs.take (j + 1)) = takes K b (decide ((j : Int) = 0)) := by
    rw [take_snoc hb, takesA_snoc, hK]
    simp only
    congr 1
    cases j with
    | zero => rfl
    | succ j =>
      cases bs with
      | nil => simp at hb
      | cons z zs => rfl
  ((conv => whnf); (repeat ((fail); (conv => whnf))))
  (repeat ((first | (refine VRead.atK hlt ?_) | (refine VRead.load1 hcj ?_) | (refine VL.cons ?_) | (refine VL.nil ?_) | (refine VC.seqS rfl ?_) | (refine VC.region ?_) | (refine VC.cond ?_) | (refine VC.block ?_) | (refine VC.skip ?_) | (refine VBool.dT (by omega) ?_) | (refine VRead.lenS ?_) | (refine VRead.fld ?_) | (refine VC.seq ?_)); (conv => whnf)))
  refine VCall.of (r18Record_any (fun q => w.heap.size ≤ q) w.heap.size g7 K A' Ab n' c' mb cb b _ X hb7 hE (Own.reads hObX) (by omega) hObX.cap (by omega) hB0X.size (fun j h => h) (by omega) hKb) ?_
  rintro e X2 ⟨hO, hm⟩
  have hB2X : Below w2.heap.size w2 X2 := hX.trans (hO.below (fun j hj => by omega) hX.size)
  have hb22 : Blk X2 g2 72 (kC Kp.zero none 0 0) := (hO.block g2 hb2.lt (fun h => hg27 h)).trans hb2
  rw [← hstep] at hm
  cases ht : takesA true Kp.zero (bs.take (j + 1)) with
  | none =>
    rw [ht] at hm
    obtain ⟨rfl, cs, _, _⟩ := hm
    refine ⟨_, rfl, ?_⟩
    have hno := takesA_none ht
    ((conv => whnf); (repeat ((first | (refine VL.cons ?_) | (refine VL.nil ?_) | (refine VC.cond ?_)); (conv => whnf))))
    ((repeat ((first | (refine VL.cons ?_) | (refine VC.seqS rfl ?_) | (refine VC.region ?_) | (refine VBool.t ?_)); (conv => whnf))))
    refine VRead.ofW (v := .agg (kC Kp.zero none 0 0)) (fun _ => by kernel_rfl) ?_
    ((conv => whnf); (repeat ((first | (refine VL.cons ?_)); (conv => whnf))))
    ((repeat ((fail); (conv => whnf))))
    refine VUnit.storeAB hb22 rfl rfl rfl (by simp [kC, Kp.zero, Value.oneCell']) ?_
    intro X3 hb23 hg23
    rw [setFrom_allW (vs := kC Kp.zero none 0 0) (by rfl)] at hb23
    have hB3' : Below w.heap.size w X3 := only_new (hB02.trans (hB2X.mono hB02.size)) hg23 (by omega) (hB02.trans (hB2X.mono hB02.size)).size
    ((conv => whnf); (repeat ((first | (refine VL.cons ?_) | (refine VL.nil ?_) | (refine VC.ret ?_)); (conv => whnf))))
    ((repeat ((fail); (conv => whnf))))
    refine VRes.c1t2 rfl hb23 rfl ?_
    refine ⟨⟨Kp.zero, none, 0, 0, false, false, rfl, ?_⟩, hB3'⟩
    rw [eS, hno]
    split
    · rename_i heq
      split at heq <;> rfl
    · rename_i heq
      split at heq <;> cases heq
  | some K2 =>
    rw [ht] at hm
    obtain ⟨rfl, A2, n2, c2, hb72, hE2⟩ := hm
    refine ⟨_, rfl, ?_⟩
    rw [hstep] at ht
    obtain ⟨hKb2, hKl2⟩ := takes_in ht hKb
    ((conv => whnf); (repeat ((first | (refine VL.cons ?_) | (refine VL.nil ?_) | (refine VC.cond ?_)); (conv => whnf))))
    ((repeat ((first | (refine VL.cons ?_) | (refine VL.nil ?_) | (refine VC.region ?_) | (refine VC.skip ?_) | (refine VBool.f ?_) | (refine VWrap.i64 (by omega) (by omega) ?_)); (conv => whnf))))
    exact ⟨_, by omega, j + 1, K2, A2, n2, c2, rfl, rfl, by omega, by rw [hstep]; exact ht, hKb2, by omega, hb72, hE2, hb22, hB2X⟩
end Go.Proofs.YtebeidnmplnlpaaGreat
end

section
set_option maxRecDepth 10000
namespace Go.Proofs.YtebeidnmplnlpaaGreat
set_option linter.unusedVariables false
open Go.RowKit

theorem recB_two (kind : UInt8) (a b : Int) : [kind] ++ Wire.int a ++ Wire.int b = recB kind [a, b] := by simp [recB, numB]
set_option maxHeartbeats 2000000 in
theorem r18Hard_any (t v : Int) (w : World) (ht : -9223372036854775808 ≤ t ∧ t ≤ 9223372036854775807) (hv : -9223372036854775808 ≤ v ∧ v ≤ 9223372036854775807) :
    Calls Tryz.prog 80 #[.int .i64 t, .int .i64 v] w fun e w' => ∃ A' m c', e = .returned (.slice A' m c') ∧ Own w' w.heap.size (.slice A' m c') m (Frame.put (recB 1 [t, v])) ∧ Below w.heap.size w w' := by
  have l1 := Wire.int_len t
  have l2 := Wire.int_len v
  refine calls_vc Tryz.func80 rfl (by kernel_rfl) ?_
  ((conv => whnf); (repeat ((first | (refine VL.cons ?_) | (refine VL.nil ?_) | (refine VC.seqS rfl ?_) | (refine VC.region ?_)); (conv => whnf))))
  ((repeat ((fail); (conv => whnf))))
  refine VSem.buildR (ps := [(0, .int .u8 1)]) rfl rfl (by simp [Value.oneCell']) (by omega) ?_
  intro w1 hO1 hB1 hz1
  replace hO1 : Own w1 w.heap.size (.slice (some ⟨w.heap.size, 0, none⟩) 1 1) 1 [1] := hO1
  have s1 := hB1.size
  ((conv => whnf); (repeat ((first | (refine VL.cons ?_)); (conv => whnf))))
  ((repeat ((fail); (conv => whnf))))
  refine VCall.of (refInt_any t w1 ht) ?_
  rintro e w2 ⟨A2, m2, c2, rfl, hO2, hB2⟩
  refine ⟨_, rfl, ?_⟩
  have h2 := Own.len hO2
  have hB02 := hB1.trans (hB2.mono s1)
  ((conv => whnf); (repeat ((first | (refine VL.cons ?_)); (conv => whnf))))
  ((repeat ((fail); (conv => whnf))))
  refine VSem.appO (hO1.below hB2 (Nat.le_refl _)) (Own.reads hO2) (by omega) hB02.size ?_
  intro A3 c3 w3 hO3 _ hB3
  have hB03 := hB02.trans hB3
  have s3 := hB03.size
  ((conv => whnf); (repeat ((first | (refine VL.cons ?_)); (conv => whnf))))
  ((repeat ((fail); (conv => whnf))))
  refine VCall.of (refInt_any v w3 hv) ?_
  rintro e w4 ⟨A4, m4, c4, rfl, hO4, hB4⟩
  refine ⟨_, rfl, ?_⟩
  have h4 := Own.len hO4
  have hB04 := hB03.trans (hB4.mono s3)
  ((conv => whnf); (repeat ((first | (refine VL.cons ?_)); (conv => whnf))))
  ((repeat ((fail); (conv => whnf))))
  refine VSem.appO (hO3.below hB4 (Nat.le_refl _)) (Own.reads hO4) (by omega) hB04.size ?_
  intro A5 c5 w5 hO5 _ hB5
  rw [recB_two] at hO5
  have hB05 := hB04.trans hB5
  ((conv => whnf); (repeat ((first | (refine VL.cons ?_)); (conv => whnf))))
  ((repeat ((fail); (conv => whnf))))
  refine VCall.of (refPut_any A5 _ c5 _ w5 (by omega) (Own.reads hO5)) ?_
  rintro e w6 ⟨A6, m6, c6, rfl, hO6, hB6⟩
  refine ⟨_, rfl, ?_⟩
  ((conv => whnf); (repeat ((first | (refine VL.cons ?_) | (refine VL.nil ?_) | (refine VC.ret ?_)); (conv => whnf))))
  ((repeat ((fail); (conv => whnf))))
  exact ⟨A6, m6, c6, rfl, rows_more hO6 hB05.size, hB05.trans (hB6.mono hB05.size)⟩
set_option maxHeartbeats 2000000 in
theorem r18Base_any (k : Kp) (A : Option Addr) (n c : Nat) (w : World) (h1' : -9223372036854775808 ≤ k.base ∧ k.base ≤ 9223372036854775807) (h2' : -9223372036854775808 ≤ k.bterm ∧ k.bterm ≤ 9223372036854775807) :
    Calls Tryz.prog 79 #[.agg (kC k A n c)] w fun e w' => ∃ A' m c', e = .returned (.slice A' m c') ∧ Own w' w.heap.size (.slice A' m c') m (Frame.put (recB 0 [k.base, k.bterm])) ∧ Below w.heap.size w w' := by
  have l1 := Wire.int_len k.base
  have l2 := Wire.int_len k.bterm
  refine calls_vc Tryz.func79 rfl (by kernel_rfl) ?_
  ((conv => whnf); (repeat ((first | (refine VL.cons ?_) | (refine VC.seqS rfl ?_) | (refine VC.region ?_)); (conv => whnf))))
  ((repeat ((fail); (conv => whnf))))
  refine VSem.boxB ?_
  intro w1 g hb hg hl hB1
  replace hb : Blk w1 g 72 (kC k A n c) := hb
  have s1 := hB1.size
  have hS : Below w1.heap.size w1 (w1.drewN 1) := below_drewN (Below.refl _ _) 1
  have kB : ∀ X, Below w1.heap.size w1 X → Blk X g 72 (kC k A n c) := fun X hX => hb.later hX
  ((conv => whnf); (repeat ((first | (refine VL.cons ?_) | (refine VL.nil ?_)); (conv => whnf))))
  ((repeat ((first | (refine VC.draw ?_) | (refine VC.seq ?_)); (conv => whnf))))
  refine VDraw.plan (fun X => Below w1.heap.size w1 X) (.two [1, 2, 5, 6] 0 (.one [] 3 (.one [] 4 (.one [] 7 (.one [] 8 (.one [] 9 (.done [10])))))) 3 (.one [] 0 (.one [] 4 (.one [] 7 (.one [] 8 (.one [] 9 (.done [10]))))))) (by kernel_rfl) (by kernel_rfl) hS ?_
  generalize w1.drewN 1 = w2 at *
  (conv => whnf)
  (repeat ((first | (refine VRead.loadBS kB rfl rfl ?_) | (refine VQ.cons ?_) | (refine VQ.nil ?_) | (refine VP.two ?_) | (refine VRead.fld ?_)); (conv => whnf)))
  refine ⟨?_, ?_⟩
  · (conv => whnf)
    ((repeat ((fail); (conv => whnf))))
    refine VSem.buildR (ps := [(0, .int .u8 0)]) rfl rfl (by simp [Value.oneCell']) (by omega) ?_
    intro w3 hO3 hB3 hz3
    replace hO3 : Own w3 w2.heap.size (.slice (some ⟨w2.heap.size, 0, none⟩) 1 1) 1 [0] := hO3
    have hS3 := hS.trans (hB3.mono hS.size)
    (conv => whnf)
    refine Keep.mk hS3 ?_
    (conv => whnf)
    ((repeat ((first | (refine VQ.nil ?_) | (refine VP.one ?_)); (conv => whnf))))
    refine VCall.of (refInt_any k.base w3 h1') ?_
    rintro e w4 ⟨A4, m4, c4, rfl, hO4, hB4⟩
    refine ⟨_, rfl, ?_⟩
    have hm4 := Own.len hO4
    have hS4 := hS3.trans (hB4.mono hS3.size)
    have hO34 : Own w4 w1.heap.size _ 1 [0] := rows_more (hO3.below hB4 (Nat.le_refl _)) hS.size
    have hr4 := Own.reads hO4
    (conv => whnf)
    refine Keep.mk hS4 ?_
    (conv => whnf)
    ((repeat ((first | (refine VQ.nil ?_) | (refine VP.one ?_)); (conv => whnf))))
    refine VSem.appO hO34 hr4 (by omega) hS4.size ?_
    intro A5 c5 w5 hO5 _ hB5
    have hS5 := hS4.trans hB5
    (conv => whnf)
    refine Keep.mk hS5 ?_
    (conv => whnf)
    ((repeat ((first | (refine VQ.nil ?_) | (refine VP.one ?_)); (conv => whnf))))
    refine VCall.of (refInt_any k.bterm w5 h2') ?_
    rintro e w6 ⟨A6, m6, c6, rfl, hO6, hB6⟩
    refine ⟨_, rfl, ?_⟩
    have hm6 := Own.len hO6
    have hS6 := hS5.trans (hB6.mono hS5.size)
    (conv => whnf)
    refine Keep.mk hS6 ?_
    (conv => whnf)
    ((repeat ((first | (refine VQ.nil ?_) | (refine VP.one ?_)); (conv => whnf))))
    refine VSem.appO (hO5.below hB6 (Nat.le_refl _)) (Own.reads hO6) (by omega) hS6.size ?_
    intro A7 c7 w7 hO7 _ hB7
    rw [recB_two] at hO7
    have hS7 := hS6.trans hB7
    (conv => whnf)
    refine Keep.mk hS7 ?_
    (conv => whnf)
    ((repeat ((first | (refine VQ.nil ?_) | (refine VP.one ?_)); (conv => whnf))))
    refine VCall.of (refPut_any A7 _ c7 _ w7 (by omega) (Own.reads hO7)) ?_
    rintro e w8 ⟨A8, m8, c8, rfl, hO8, hB8⟩
    refine ⟨_, rfl, ?_⟩
    have hS8 := hS7.trans (hB8.mono hS7.size)
    (conv => whnf)
    refine Keep.mk hS8 ?_
    (conv => whnf)
    ((repeat ((first | (refine VC.ret ?_) | (refine VQ.cons ?_) | (refine VQ.nil ?_) | (refine VP.done ?_)); (conv => whnf))))
    exact ⟨A8, m8, c8, rfl, rows_more hO8 (by have := hS7.size; omega), hB1.trans (hS8.mono s1)⟩
  · (conv => whnf)
    ((repeat ((fail); (conv => whnf))))
    refine VCall.of (refInt_any k.base w2 h1') ?_
    rintro e w3 ⟨A4, m4, c4, rfl, hO4, hB4⟩
    refine ⟨_, rfl, ?_⟩
    have hm4 := Own.len hO4
    have hS3 := hS.trans (hB4.mono hS.size)
    (conv => whnf)
    refine Keep.mk hS3 ?_
    (conv => whnf)
    ((repeat ((first | (refine VQ.nil ?_) | (refine VP.one ?_)); (conv => whnf))))
    refine VSem.buildR (ps := [(0, .int .u8 0)]) rfl rfl (by simp [Value.oneCell']) (by omega) ?_
    intro w4 hO3 hB3 hz3
    replace hO3 : Own w4 w3.heap.size (.slice (some ⟨w3.heap.size, 0, none⟩) 1 1) 1 [0] := hO3
    have hS4 := hS3.trans (hB3.mono hS3.size)
    have hO34 : Own w4 w1.heap.size _ 1 [0] := rows_more hO3 hS3.size
    have hr4 := Own.reads (hO4.below hB3 (Nat.le_refl _))
    (conv => whnf)
    refine Keep.mk hS4 ?_
    (conv => whnf)
    ((repeat ((first | (refine VQ.nil ?_) | (refine VP.one ?_)); (conv => whnf))))
    refine VSem.appO hO34 hr4 (by omega) hS4.size ?_
    intro A5 c5 w5 hO5 _ hB5
    have hS5 := hS4.trans hB5
    (conv => whnf)
    refine Keep.mk hS5 ?_
    (conv => whnf)
    ((repeat ((first | (refine VQ.nil ?_) | (refine VP.one ?_)); (conv => whnf))))
    refine VCall.of (refInt_any k.bterm w5 h2') ?_
    rintro e w6 ⟨A6, m6, c6, rfl, hO6, hB6⟩
    refine ⟨_, rfl, ?_⟩
    have hm6 := Own.len hO6
    have hS6 := hS5.trans (hB6.mono hS5.size)
    (conv => whnf)
    refine Keep.mk hS6 ?_
    (conv => whnf)
    ((repeat ((first | (refine VQ.nil ?_) | (refine VP.one ?_)); (conv => whnf))))
    refine VSem.appO (hO5.below hB6 (Nat.le_refl _)) (Own.reads hO6) (by omega) hS6.size ?_
    intro A7 c7 w7 hO7 _ hB7
    rw [recB_two] at hO7
    have hS7 := hS6.trans hB7
    (conv => whnf)
    refine Keep.mk hS7 ?_
    (conv => whnf)
    ((repeat ((first | (refine VQ.nil ?_) | (refine VP.one ?_)); (conv => whnf))))
    refine VCall.of (refPut_any A7 _ c7 _ w7 (by omega) (Own.reads hO7)) ?_
    rintro e w8 ⟨A8, m8, c8, rfl, hO8, hB8⟩
    refine ⟨_, rfl, ?_⟩
    have hS8 := hS7.trans (hB8.mono hS7.size)
    (conv => whnf)
    refine Keep.mk hS8 ?_
    (conv => whnf)
    ((repeat ((first | (refine VC.ret ?_) | (refine VQ.cons ?_) | (refine VQ.nil ?_) | (refine VP.done ?_)); (conv => whnf))))
    exact ⟨A8, m8, c8, rfl, rows_more hO8 (by have := hS7.size; omega), hB1.trans (hS8.mono s1)⟩
set_option maxHeartbeats 2000000 in
theorem r18Entry_any (i : Int) (e : En) (D : Option Addr) (m kk : Nat) (w : World) (h1' : -9223372036854775808 ≤ i ∧ i ≤ 9223372036854775807) (h2' : -9223372036854775808 ≤ e.term ∧ e.term ≤ 9223372036854775807) (hr : Reads w w.heap.size 1 D m (bv e.data)) (hd : e.data.length ≤ 1048476) :
    Calls Tryz.prog 81 #[.int .i64 i, .agg #[.int .i64 e.term, .bool e.cmd, .slice D m kk]] w fun E w' => ∃ A' m' c', E = .returned (.slice A' m' c') ∧ Own w' w.heap.size (.slice A' m' c') m' (Frame.put (entB i e)) ∧ Below w.heap.size w w' := by
  have l1 := Wire.int_len i
  have l2 := Wire.int_len e.term
  have l3 := text_len e.data
  refine calls_vc Tryz.func81 rfl (by kernel_rfl) ?_
  ((conv => whnf); (repeat ((first | (refine VL.cons ?_) | (refine VC.seqS rfl ?_) | (refine VC.region ?_)); (conv => whnf))))
  ((repeat ((fail); (conv => whnf))))
  refine VSem.boxB ?_
  intro w1 g hb hg hl hB1
  replace hb : Blk w1 g 56 #[.int .i64 e.term, .bool e.cmd, .slice D m kk] := hb
  have s1 := hB1.size
  have hS : Below w1.heap.size w1 (w1.drewN 1) := below_drewN (Below.refl _ _) 1
  have kB : ∀ X, Below w1.heap.size w1 X → Blk X g 56 #[.int .i64 e.term, .bool e.cmd, .slice D m kk] := fun X hX => hb.later hX
  ((conv => whnf); (repeat ((first | (refine VL.cons ?_) | (refine VL.nil ?_)); (conv => whnf))))
  ((repeat ((first | (refine VC.draw ?_) | (refine VC.seq ?_)); (conv => whnf))))
  refine VDraw.plan (fun X => Below w1.heap.size w1 X) (.two [1, 4, 5] 0 (.one [] 2 (.one [] 3 (.one [] 6 (.one [] 7 (.done [8]))))) 2 (.one [] 0 (.one [] 3 (.one [] 6 (.one [] 7 (.done [8])))))) (by kernel_rfl) (by kernel_rfl) hS ?_
  generalize w1.drewN 1 = w2 at *
  (conv => whnf)
  (repeat ((first | (refine VRead.loadBS kB rfl rfl ?_) | (refine VQ.cons ?_) | (refine VQ.nil ?_) | (refine VP.two ?_) | (refine VRead.fld ?_)); (conv => whnf)))
  refine ⟨?_, ?_⟩
  · (conv => whnf)
    ((repeat ((fail); (conv => whnf))))
    refine VSem.buildR (ps := [(0, .int .u8 2)]) rfl rfl (by simp [Value.oneCell']) (by omega) ?_
    intro w3 hO3 hB3 hz3
    replace hO3 : Own w3 w2.heap.size (.slice (some ⟨w2.heap.size, 0, none⟩) 1 1) 1 [2] := hO3
    have hS3 := hS.trans (hB3.mono hS.size)
    (conv => whnf)
    refine Keep.mk hS3 ?_
    (conv => whnf)
    ((repeat ((first | (refine VQ.nil ?_) | (refine VP.one ?_)); (conv => whnf))))
    refine VCall.of (refInt_any i w3 h1') ?_
    rintro e w4 ⟨A4, m4, c4, rfl, hO4, hB4⟩
    refine ⟨_, rfl, ?_⟩
    have hm4 := Own.len hO4
    have hS4 := hS3.trans (hB4.mono hS3.size)
    have hO34 : Own w4 w1.heap.size _ 1 [2] := rows_more (hO3.below hB4 (Nat.le_refl _)) hS.size
    have hr4 := Own.reads hO4
    (conv => whnf)
    refine Keep.mk hS4 ?_
    (conv => whnf)
    ((repeat ((first | (refine VQ.nil ?_) | (refine VP.one ?_)); (conv => whnf))))
    refine VSem.appO hO34 hr4 (by omega) hS4.size ?_
    intro A5 c5 w5 hO5 _ hB5
    have hS5 := hS4.trans hB5
    (conv => whnf)
    refine Keep.mk hS5 ?_
    (conv => whnf)
    ((repeat ((first | (refine VQ.nil ?_) | (refine VP.one ?_)); (conv => whnf))))
    refine VCall.of (refInt_any e.term w5 h2') ?_
    rintro e' w6 ⟨A6, m6, c6, rfl, hO6, hB6⟩
    refine ⟨_, rfl, ?_⟩
    have hm6 := Own.len hO6
    have hS6 := hS5.trans (hB6.mono hS5.size)
    (conv => whnf)
    refine Keep.mk hS6 ?_
    (conv => whnf)
    ((repeat ((first | (refine VQ.nil ?_) | (refine VP.one ?_)); (conv => whnf))))
    refine VSem.appO (hO5.below hB6 (Nat.le_refl _)) (Own.reads hO6) (by omega) hS6.size ?_
    intro A7 c7 w7 hO7 _ hB7
    rw [recB_two] at hO7
    have hS7 := hS6.trans hB7
    have hb7 := kB w7 hS7
    (conv => whnf)
    refine Keep.mk hS7 ?_
    (conv => whnf)
    (repeat ((first | (refine VRead.loadB hb7 rfl rfl ?_) | (refine VL.cons ?_) | (refine VC.seqS rfl ?_) | (refine VC.region ?_) | (refine VQ.cons ?_) | (refine VQ.nil ?_) | (refine VP.done ?_) | (refine VRead.fld ?_)); (conv => whnf)))
    refine VCall.of (refBool_any e.cmd w7) ?_
    rintro e' w8 ⟨A8, c8, rfl, hO8, hB8⟩
    refine ⟨_, rfl, ?_⟩
    have hS8 := hS7.trans (hB8.mono hS7.size)
    ((conv => whnf); (repeat ((first | (refine VL.cons ?_)); (conv => whnf))))
    ((repeat ((fail); (conv => whnf))))
    refine VSem.appO (hO7.below hB8 (Nat.le_refl _)) (Own.reads hO8) (by omega) hS8.size ?_
    intro A9 c9 w9 hO9 _ hB9
    have hS9 := hS8.trans hB9
    have hb9 := kB w9 hS9
    have hr9 := (hr.below (hB1.trans (hS9.mono s1)))
    ((conv => whnf); (repeat ((first | (refine VL.cons ?_) | (refine VL.nil ?_) | (refine VC.seqS rfl ?_) | (refine VC.region ?_)); (conv => whnf))))
    (repeat ((first | (refine VRead.loadB hb9 rfl rfl ?_) | (refine VL.cons ?_) | (refine VRead.fld ?_)); (conv => whnf)))
    refine VSem.convT hr9 ?_
    ((conv => whnf); (repeat ((first | (refine VL.cons ?_)); (conv => whnf))))
    ((repeat ((fail); (conv => whnf))))
    refine VCall.of (refText_any (txt e.data) w9 (by rw [txt_size]; omega)) ?_
    rintro e' wa ⟨Aa, ma, ca, rfl, hOa, hBa⟩
    refine ⟨_, rfl, ?_⟩
    replace hOa : Own wa w9.heap.size (.slice Aa ma ca) ma (Wire.text e.data) := hOa
    have hma := Own.len hOa
    have hSa := hS9.trans (hBa.mono hS9.size)
    ((conv => whnf); (repeat ((first | (refine VL.cons ?_)); (conv => whnf))))
    ((repeat ((fail); (conv => whnf))))
    refine VSem.appO (hO9.below hBa (Nat.le_refl _)) (Own.reads hOa) (by omega) hSa.size ?_
    intro Ab cb wb hOb _ hBb
    have hSb := hSa.trans hBb
    ((conv => whnf); (repeat ((first | (refine VL.cons ?_)); (conv => whnf))))
    ((repeat ((fail); (conv => whnf))))
    refine VCall.of (refPut_any Ab _ cb _ wb (by omega) (Own.reads hOb)) ?_
    rintro e' wc ⟨Ac, mc, cc, rfl, hOc, hBc⟩
    refine ⟨_, rfl, ?_⟩
    ((conv => whnf); (repeat ((first | (refine VL.cons ?_) | (refine VL.nil ?_) | (refine VC.ret ?_)); (conv => whnf))))
    ((repeat ((fail); (conv => whnf))))
    exact ⟨Ac, mc, cc, rfl, rows_more hOc (by have := hSb.size; omega), hB1.trans ((hSb.trans (hBc.mono hSb.size)).mono s1)⟩
  · (conv => whnf)
    ((repeat ((fail); (conv => whnf))))
    refine VCall.of (refInt_any i w2 h1') ?_
    rintro e w3 ⟨A4, m4, c4, rfl, hO4, hB4⟩
    refine ⟨_, rfl, ?_⟩
    have hm4 := Own.len hO4
    have hS3 := hS.trans (hB4.mono hS.size)
    (conv => whnf)
    refine Keep.mk hS3 ?_
    (conv => whnf)
    ((repeat ((first | (refine VQ.nil ?_) | (refine VP.one ?_)); (conv => whnf))))
    refine VSem.buildR (ps := [(0, .int .u8 2)]) rfl rfl (by simp [Value.oneCell']) (by omega) ?_
    intro w4 hO3 hB3 hz3
    replace hO3 : Own w4 w3.heap.size (.slice (some ⟨w3.heap.size, 0, none⟩) 1 1) 1 [2] := hO3
    have hS4 := hS3.trans (hB3.mono hS3.size)
    have hO34 : Own w4 w1.heap.size _ 1 [2] := rows_more hO3 hS3.size
    have hr4 := Own.reads (hO4.below hB3 (Nat.le_refl _))
    (conv => whnf)
    refine Keep.mk hS4 ?_
    (conv => whnf)
    ((repeat ((first | (refine VQ.nil ?_) | (refine VP.one ?_)); (conv => whnf))))
    refine VSem.appO hO34 hr4 (by omega) hS4.size ?_
    intro A5 c5 w5 hO5 _ hB5
    have hS5 := hS4.trans hB5
    (conv => whnf)
    refine Keep.mk hS5 ?_
    (conv => whnf)
    ((repeat ((first | (refine VQ.nil ?_) | (refine VP.one ?_)); (conv => whnf))))
    refine VCall.of (refInt_any e.term w5 h2') ?_
    rintro e' w6 ⟨A6, m6, c6, rfl, hO6, hB6⟩
    refine ⟨_, rfl, ?_⟩
    have hm6 := Own.len hO6
    have hS6 := hS5.trans (hB6.mono hS5.size)
    (conv => whnf)
    refine Keep.mk hS6 ?_
    (conv => whnf)
    ((repeat ((first | (refine VQ.nil ?_) | (refine VP.one ?_)); (conv => whnf))))
    refine VSem.appO (hO5.below hB6 (Nat.le_refl _)) (Own.reads hO6) (by omega) hS6.size ?_
    intro A7 c7 w7 hO7 _ hB7
    rw [recB_two] at hO7
    have hS7 := hS6.trans hB7
    have hb7 := kB w7 hS7
    (conv => whnf)
    refine Keep.mk hS7 ?_
    (conv => whnf)
    (repeat ((first | (refine VRead.loadB hb7 rfl rfl ?_) | (refine VL.cons ?_) | (refine VC.seqS rfl ?_) | (refine VC.region ?_) | (refine VQ.cons ?_) | (refine VQ.nil ?_) | (refine VP.done ?_) | (refine VRead.fld ?_)); (conv => whnf)))
    refine VCall.of (refBool_any e.cmd w7) ?_
    rintro e' w8 ⟨A8, c8, rfl, hO8, hB8⟩
    refine ⟨_, rfl, ?_⟩
    have hS8 := hS7.trans (hB8.mono hS7.size)
    ((conv => whnf); (repeat ((first | (refine VL.cons ?_)); (conv => whnf))))
    ((repeat ((fail); (conv => whnf))))
    refine VSem.appO (hO7.below hB8 (Nat.le_refl _)) (Own.reads hO8) (by omega) hS8.size ?_
    intro A9 c9 w9 hO9 _ hB9
    have hS9 := hS8.trans hB9
    have hb9 := kB w9 hS9
    have hr9 := (hr.below (hB1.trans (hS9.mono s1)))
    ((conv => whnf); (repeat ((first | (refine VL.cons ?_) | (refine VL.nil ?_) | (refine VC.seqS rfl ?_) | (refine VC.region ?_)); (conv => whnf))))
    (repeat ((first | (refine VRead.loadB hb9 rfl rfl ?_) | (refine VL.cons ?_) | (refine VRead.fld ?_)); (conv => whnf)))
    refine VSem.convT hr9 ?_
    ((conv => whnf); (repeat ((first | (refine VL.cons ?_)); (conv => whnf))))
    ((repeat ((fail); (conv => whnf))))
    refine VCall.of (refText_any (txt e.data) w9 (by rw [txt_size]; omega)) ?_
    rintro e' wa ⟨Aa, ma, ca, rfl, hOa, hBa⟩
    refine ⟨_, rfl, ?_⟩
    replace hOa : Own wa w9.heap.size (.slice Aa ma ca) ma (Wire.text e.data) := hOa
    have hma := Own.len hOa
    have hSa := hS9.trans (hBa.mono hS9.size)
    ((conv => whnf); (repeat ((first | (refine VL.cons ?_)); (conv => whnf))))
    ((repeat ((fail); (conv => whnf))))
    refine VSem.appO (hO9.below hBa (Nat.le_refl _)) (Own.reads hOa) (by omega) hSa.size ?_
    intro Ab cb wb hOb _ hBb
    have hSb := hSa.trans hBb
    ((conv => whnf); (repeat ((first | (refine VL.cons ?_)); (conv => whnf))))
    ((repeat ((fail); (conv => whnf))))
    refine VCall.of (refPut_any Ab _ cb _ wb (by omega) (Own.reads hOb)) ?_
    rintro e' wc ⟨Ac, mc, cc, rfl, hOc, hBc⟩
    refine ⟨_, rfl, ?_⟩
    ((conv => whnf); (repeat ((first | (refine VL.cons ?_) | (refine VL.nil ?_) | (refine VC.ret ?_)); (conv => whnf))))
    ((repeat ((fail); (conv => whnf))))
    exact ⟨Ac, mc, cc, rfl, rows_more hOc (by have := hSb.size; omega), hB1.trans ((hSb.trans (hBc.mono hSb.size)).mono s1)⟩
end Go.Proofs.YtebeidnmplnlpaaGreat
end

section
set_option maxRecDepth 10000
namespace Go.Proofs.YtebeidnmplnlpaaGreat
set_option linter.unusedVariables false
open Go.RowKit

section
variable {U : Foot} {r c : Nat} {A : Option Addr} {xs : List Value} {K : Dk} {T : PT}
theorem FEls.two {W : World} {T0 T1 : PT} (h : FEls W U (T0 ++ T1) xs) : ∃ x0 x1, xs = x0 ++ x1 ∧ x0.length = T0.length * 3 ∧ x1.length = T1.length * 3 ∧ FEls W U T0 x0 ∧ FEls W U T1 x1 := by
  obtain ⟨h1, h2⟩ := h.split
  exact ⟨_, _, (List.take_append_drop _ _).symm, h1.len, h2.len, h1, h2⟩
set_option maxHeartbeats 1000000 in
theorem rWithout_at (W : World) {T0 T1 : PT} {p : List UInt8 × Fl} (h : RefAt W U r A c xs K T) (hT : T = T0 ++ p :: T1) (hU : Up U W) (hfew : T.length ≤ 1000) :
    Calls Tryz.prog 51 #[.pointer (some ⟨r, 0, none⟩), .int .i64 (T0.length : Int)] W fun e W' => e = .returned (.tuple #[]) ∧ (∃ A' c' xs', RefAt W' U r A' c' xs' K (T0 ++ T1)) ∧ Out U W W' ∧ ∀ (A : Option Addr) (m : Nat) (l : List UInt8), Lies W U A m l → Lies W' U A m l := by
  have hb : Blk W r 47 (rC K A T.length c) := h.blk
  have hTl : T.length = T0.length + (T1.length + 1) := by rw [hT]; simp
  have hc := h.fr.cap
  have hr := Reads.row h.fr.row
  have hels := h.fr.els
  rw [hT] at hels
  obtain ⟨x0, a, b, d, x1, hxs, hx0, he0, _, he1⟩ := hels.at_
  have hr0 := hr.takeK (z := T0.length) (by omega)
  have hr1 := hr.cut (k := T0.length + 1) (cap := c) (by omega) hc
  rw [show xs.take (T0.length * 3) = x0 by rw [hxs, ← hx0, List.take_left]] at hr0
  rw [show xs.drop ((T0.length + 1) * 3) = x1 by rw [hxs, show (T0.length + 1) * 3 = x0.length + 3 by omega, ← List.drop_drop, List.drop_left]; rfl, show T.length - (T0.length + 1) = T1.length by omega] at hr1
  replace hr1 : Reads W W.heap.size 3 (cutK A c (T0.length + 1) 3) T1.length x1 := hr1
  refine calls_vc Tryz.func51 rfl (by kernel_rfl) ?_
  have hS : Below W.heap.size W (W.drewN 1) := below_drewN (Below.refl _ _) 1
  have kB : ∀ X, Below W.heap.size W X → Blk X r 47 (rC K A T.length c) := fun X hX => hb.below hX hb.lt
  have kB' : ∀ X, Below W.heap.size W X → Blk X r 47 #[.slice A T.length c, .int .i64 K.room, .int .i64 K.calls, .bool K.armed, .int .i64 K.kind, .int .i64 K.after, .bool K.off] := kB
  ((conv => whnf); (repeat ((first | (refine VC.draw ?_)); (conv => whnf))))
  ((repeat ((fail); (conv => whnf))))
  refine VDraw.lasts (fun X => Below W.heap.size W X) [([0, 1, 2, 3, 4, 5, 6, 8, 9, 10, 11, 12, 13, 14], 7), ([], 15)] [16, 17] 18 (by kernel_rfl) (by kernel_rfl) hS ?_
  (conv => whnf)
  (repeat ((first | (refine VRead.loadBS kB' rfl rfl ?_) | (refine VQ.cons ?_) | (refine VE.cons ?_) | (refine VRead.fld ?_)); (conv => whnf)))
  refine VRead.cutKH T0.length (by omega) (by omega) ?_
  (conv => whnf)
  (repeat ((first | (refine VRead.loadBS kB' rfl rfl ?_) | (refine VQ.cons ?_) | (refine VRead.fld ?_) | (refine VWrap.i64 (by omega) (by omega) ?_)); (conv => whnf)))
  refine VRead.cutKL (T0.length + 1) (by omega) (by omega) ?_
  (conv => whnf)
  ((repeat ((first | (refine VQ.nil ?_)); (conv => whnf))))
  refine VSem.appF (FRow.nil _ U) rfl (hU.grow hS.size) (hr0.below hS) (he0.stay (fun _ _ _ hl => hl.below hS (Nat.le_refl _))) rfl (by omega) hS.size (fun g h => by simp [Value.ownBlock] at h) ?_
  intro A2 c2 W2 hF2 hB2 ho2
  rw [Nat.zero_add] at hF2 ho2 ⊢
  rw [List.nil_append, List.nil_append] at hF2
  have hS2 := hS.trans hB2
  (conv => whnf)
  refine Keep.mk hS2 ?_
  (conv => whnf)
  (repeat ((first | (refine VQ.nil ?_) | (refine VE.cons ?_)); (conv => whnf)))
  rw [show T.length - (T0.length + 1) = T1.length by omega]
  refine VSem.appF hF2 rfl (hU.grow hS2.size) (hr1.below hS2) (he1.stay (fun _ _ _ hl => hl.below hS2 (Nat.le_refl _))) rfl (by omega) hS2.size ho2 ?_
  intro A3 c3 W3 hF3 hB3 ho3
  have hS3 := hS2.trans hB3
  have hb3 := kB W3 hS3
  (conv => whnf)
  refine Keep.mk hS3 ?_
  (conv => whnf)
  (repeat ((first | (refine VQ.cons ?_) | (refine VQ.nil ?_) | (refine VE.nil ?_) | (refine VRead.fld ?_)); (conv => whnf)))
  refine VUnit.storeB hb3 rfl rfl rfl ?_
  intro W4 hb4 hg4
  (conv => whnf)
  refine Keep.mk trivial ?_
  (conv => whnf)
  ((repeat ((fail); (conv => whnf))))
  have hl : (T0 ++ T1).length = T0.length + T1.length := List.length_append
  rw [← hl] at hF3
  have h3 := h.below hS3 (Nat.le_refl _)
  refine ⟨rfl, ⟨A3, c3, _, h3.turn hF3 (K' := K) ?_ hg4⟩, (Out.new hS3).trans (Out.grown hg4 h.hr), fun A m l hl => (hl.below hS3 (Nat.le_refl _)).blk hb3 hg4 (by decide)⟩
  rw [hl]
  exact hb4
end
/-- a row of one file -/
theorem VSem.oneF {w : World} {a b d : Value} {Q : Value → World → Prop}
    (h : ∀ w', Reads w' w'.heap.size 3 (some ⟨w.heap.size, 0, none⟩) 1 [a, b, d] → Below w.heap.size w w' → Q (.slice (some ⟨w.heap.size, 0, none⟩) 1 1) w') :
    VSem Tryz.prog (Instr.buildSlice 45 1 [(0, .agg #[a, b, d])].toArray) w Q := by
  obtain ⟨i0, hi0, hz0, hz1, hz2⟩ := info_parts F_info
  have hrun := run_buildSlice (P := Tryz.prog) w 45 67 1 #[(0, .agg #[a, b, d])] #[a, b, d] i0 _ Tryz.underlying45 hi0 hz0 (by rw [hz1]; decide) (by rw [hz1]; decide) (by rw [hz1]; simp [Instr.fill, Value.cells, show Array.range 3 = #[0, 1, 2] from by decide])
  refine VSem.of hrun ?_
  have hsz : (w.alloc (.cells #[a, b, d] 67)).heap.size = w.heap.size + 1 := by simp
  have hnew := Blk.new w 67 #[a, b, d]
  refine h _ ⟨rfl, fun _ => ⟨_, rfl, by show w.heap.size < _; rw [hsz]; omega, fun j u hu => ?_⟩⟩ ((Below.refl w.heap.size w).alloc (Nat.le_refl _) _)
  rw [add0, hnew.cell j]
  simpa using hu
end Go.Proofs.YtebeidnmplnlpaaGreat
end

section
set_option maxRecDepth 10000
namespace Go.Proofs.YtebeidnmplnlpaaGreat
set_option linter.unusedVariables false
open Go.RowKit

/-- a cut at a small part whose rest waits -/
theorem VC.cutT {P : Program} {n : Nat} {a : Code} {R : Env → World → Prop} {Q : Post} {σ : Env} {w : World} (slots : List Nat) (D : List (Nat × Nat)) (J : List Value → World → Prop) (hD : inB (writes a) D = true)
    (h1 : VC P n a (thenP (fun σ' w' => J (slots.map σ') w') Q) σ w) (h2 : ∀ τ vs w', J vs w' → R (setAll slots vs (hav D τ σ)) w') : VC P n a (thenP R Q) σ w := by
  refine ⟨vc_mf a _ _ σ w h1.out fun e σ' w' hq hF => ?_⟩
  cases e with
  | normal =>
    have := h2 σ' (slots.map σ') w' hq
    rwa [hav_fr (hF.sub hD), setAll_self] at this
  | _ => exact hq
theorem VRead.atKZ {P : Program} {S : World → Prop} {t e k : Nat} {a : Addr} {n c : Nat} {Z : Int} {kk : IntKind} {K : Value → Prop} [i : TSlice P t e k] (j : Nat) (hz : Z = (j : Int)) (h : j < n) (hk : K (.pointer (some (a.add (j * k))))) : VRead P S (Instr.indexAt t (.slice (some a) n c) (.int kk Z)) K := by
  subst hz; exact VRead.atK h hk
theorem VSem.appF' {U : Foot} {n c c' : Nat} {A A' : Option Addr} {xs : List Value} {T : PT} {w : World} {ty : TypeId} {C m B : Nat} {xs' : List Value} {T' : PT} {Q : Value → World → Prop} (h : FRow w U A n c xs T) (hn : T.length = n) (hU : Up U w) (hr : Reads w C 3 A' m xs') (he : FEls w U T' xs') (hm : T'.length = m) (hfew : n + m ≤ 100000)
    (hB : B ≤ w.heap.size) (hown : ∀ g, (Value.slice A n c).ownBlock = some g → B ≤ g) (k : Nat) (hnk : n + m = k) (hk : ∀ A2 c2 w', FRow w' U A2 k c2 (xs ++ xs') (T ++ T') → Below B w w' → (∀ g, (Value.slice A2 k c2).ownBlock = some g → B ≤ g) → Q (.slice A2 k c2) w') :
    VSem Tryz.prog (Builtin.append_ #[45, 45] ty [.slice A n c, .slice A' m c'].toArray) w Q := by
  subst hnk
  exact VSem.appF h hn hU hr he hm hfew hB hown hk
section
variable {U : Foot} {r c : Nat} {A : Option Addr} {xs : List Value} {K : Dk} {T : PT}
theorem FEl.below {W W' : World} {C : Nat} {p : List UInt8 × Fl} {a b d : Value} (h : FEl W U p a b d) (hb : Below C W W') (hC : W.heap.size ≤ C) : FEl W' U p a b d := h.stay (fun _ _ _ hl => hl.below hb hC)
theorem FEls.below {W W' : World} {C : Nat} {T : PT} {xs : List Value} (h : FEls W U T xs) (hb : Below C W W') (hC : W.heap.size ≤ C) : FEls W' U T xs := h.stay (fun _ _ _ hl => hl.below hb hC)
set_option maxHeartbeats 2000000 in
theorem rPut_at (W : World) {s : List UInt8} {f : Fl} {x y z : Value} (h : RefAt W U r A c xs K T) (hR : Rising T) (hx : FEl W U (s, f) x y z) (hU : Up U W) (hfew : T.length ≤ 900) :
    Calls Tryz.prog 28 #[.pointer (some ⟨r, 0, none⟩), .agg #[x, y, z]] W fun e W' => e = .returned (.tuple #[]) ∧ (∃ A' c' xs', RefAt W' U r A' c' xs' K (tset T s f)) ∧ Out U W W' := by
  obtain ⟨As, cs, Ap, cp, rfl, rfl, rfl⟩ : ∃ As cs Ap cp, x = encStr s ∧ y = .slice As f.sure cs ∧ z = .slice Ap (f.b.length - f.sure) cp := by
    obtain ⟨rfl, ⟨As, cs, rfl, _⟩, Ap, cp, rfl, _⟩ := hx
    exact ⟨As, cs, Ap, cp, rfl, rfl, rfl⟩
  refine calls_vc Tryz.func28 rfl (by kernel_rfl) ?_
  ((conv => whnf); (repeat ((first | (refine VL.cons ?_) | (refine VC.seqS rfl ?_) | (refine VC.region ?_)); (conv => whnf))))
  refine VSem.boxB ?_
  intro W1 g hbg hg1 hl1 hB1
  replace hbg : Blk W1 g 67 #[encStr s, .slice As f.sure cs, .slice Ap (f.b.length - f.sure) cp] := hbg
  obtain ⟨V, hV⟩ : ∃ V : Foot, V = fun j => U j ∧ j ≠ g := ⟨_, rfl⟩
  have hVU : ∀ j, V j → U j := fun j hj => by rw [hV] at hj; exact hj.1
  have hUV : ∀ j, j < W.heap.size → U j → V j := fun j h1 h2 => by rw [hV]; exact ⟨h2, by omega⟩
  have hVg : ¬ V g := fun hj => by rw [hV] at hj; exact hj.2 rfl
  have hUpV : Up V W1 := fun j hj => by rw [hV]; exact ⟨hU j (by have := hB1.size; omega), by omega⟩
  have h1 := (h.more hUV).below hB1 (Nat.le_refl _)
  have hx1 : FEl W1 V (s, f) (encStr s) (.slice As f.sure cs) (.slice Ap (f.b.length - f.sure) cp) := hx.stay (fun _ _ _ hl => (hl.more hUV).below hB1 (Nat.le_refl _))
  clear hV h hx
  ((conv => whnf); (repeat ((first | (refine VL.nil ?_)); (conv => whnf))))
  (repeat (first | ((first | (refine VL.cons ?_) | (refine VC.seqS rfl ?_) | (refine VC.region ?_) | (refine VRead.fld ?_) | (refine VC.seq ?_)); (conv => whnf)) | (refine VRead.loadB hbg rfl rfl ?_; (conv => whnf))))
  refine VCall.of (rFind_at W1 s h1 hR (by omega)) ?_
  rintro e W1' ⟨⟨k, rfl, hst⟩, eW⟩
  obtain rfl := eW.symm
  refine ⟨_, rfl, ?_⟩
  (conv => whnf)
  (iterate 2 ((first | (refine VL.cons ?_) | (refine VL.nil ?_)); (conv => whnf)))
  refine VC.cutT [] [(11, 15)] (fun vs w => vs = [] ∧ (∃ A' c' xs', RefAt w V r A' c' xs' K (tdel T s)) ∧ Out V W1 w ∧ Blk w g 67 #[encStr s, .slice As f.sure cs, .slice Ap (f.b.length - f.sure) cp] ∧ FEl w V (s, f) (encStr s) (.slice As f.sure cs) (.slice Ap (f.b.length - f.sure) cp)) (by kernel_rfl) ?_ ?_
  · rcases hst with ⟨hf, rfl⟩ | ⟨T0, f0, T1, hT, hf, rfl⟩
    · ((conv => whnf); (repeat ((first | (refine VL.cons ?_) | (refine VL.nil ?_) | (refine VC.seqS rfl ?_) | (refine VC.region ?_) | (refine VC.cond ?_)); (conv => whnf))))
      ((repeat ((first | (refine VC.skip ?_) | (refine VBool.f ?_)); (conv => whnf))))
      refine ⟨rfl, ⟨A, c, xs, ?_⟩, Out.refl _ _, hbg, hx1⟩
      rw [tdel_not (tfind_none hf)]
      exact h1
    · ((conv => whnf); (repeat ((first | (refine VL.cons ?_) | (refine VL.nil ?_) | (refine VC.seqS rfl ?_) | (refine VC.region ?_) | (refine VC.cond ?_)); (conv => whnf))))
      ((repeat ((first | (refine VL.cons ?_) | (refine VC.region ?_) | (refine VBool.t ?_)); (conv => whnf))))
      refine VCall.of (rWithout_at W1 h1 hT hUpV (by omega)) ?_
      rintro e W2 ⟨rfl, h2, hO2, hl2⟩
      refine ⟨_, rfl, ?_⟩
      ((conv => whnf); (repeat ((first | (refine VL.nil ?_)); (conv => whnf))))
      ((repeat ((fail); (conv => whnf))))
      refine ⟨rfl, ?_, hO2, ?_, hx1.stay hl2⟩
      · rw [hT, tdel_eq (by rw [← hT]; exact hR.nd)]
        exact h2
      · exact (hO2.block g hl1 hVg).trans hbg
  rintro τ2 vs2 w2 ⟨rfl, ⟨A2, c2, xs2, h2⟩, hO2, hb2, hx2⟩
  have hR' : Rising (tdel T s) := hR.del
  have hs' : s ∉ (tdel T s).map (·.1) := fun hm => by
    obtain ⟨p, hp, e⟩ := List.mem_map.1 hm
    exact (mem_tdel hp).2 e
  have hl' := tdel_le (L := T) s
  rw [← tset_del hR]
  clear hst h1 hx1 hR hbg
  generalize tdel T s = T' at *
  have hbr : Blk w2 r 47 #[.slice A2 T'.length c2, .int .i64 K.room, .int .i64 K.calls, .bool K.armed, .int .i64 K.kind, .int .i64 K.after, .bool K.off] := h2.blk
  refine VC.seq ?_
  (conv => whnf)
  ((repeat ((first | (refine VL.cons ?_) | (refine VC.region ?_) | (refine VRead.fld ?_)); (conv => whnf))))
  refine VRead.loadB hbr rfl rfl ?_
  (conv => whnf)
  ((repeat ((first | (refine VL.cons ?_) | (refine VL.nil ?_) | (refine VRead.lenS ?_)); (conv => whnf))))
  refine VC.cut [5] [(5, 5), (21, 38)] (fun vs w => ∃ T0 T1 : PT, vs = [.int .i64 (T0.length : Int)] ∧ T' = T0 ++ T1 ∧ (∀ p ∈ T0, p.1 < s) ∧ (∀ p ∈ T1, s < p.1) ∧ Below w2.heap.size w2 w) (by kernel_rfl) ?_ ?_
  · ((conv => whnf); (repeat ((first | (refine VC.block ?_)); (conv => whnf))))
    refine VC.loop [5] [(5, 5), (21, 38)] (fun q vs w => ∃ T0 T1 : PT, vs = [.int .i64 (T0.length : Int)] ∧ q = T0.length ∧ T' = T0 ++ T1 ∧ (∀ p ∈ T1, s < p.1) ∧ Below w2.heap.size w2 w) (by kernel_rfl) ⟨_, T', [], rfl, rfl, by simp, by simp, Below.refl _ _⟩ ?_
    rintro q τ3 vs3 w ⟨T0, T1, rfl, rfl, hT, hgt, hB⟩
    have hb3 := hb2.below hB hb2.lt
    have hbr3 := hbr.below hB hbr.lt
    have hTl : T'.length = T0.length + T1.length := by rw [hT]; simp
    rcases List.eq_nil_or_concat T0 with rfl | ⟨T0, p, rfl⟩
    · ((conv => whnf); (repeat ((fail); (conv => whnf))))
      ((repeat ((first | (refine VC.draw ?_) | (refine VC.seq ?_)); (conv => whnf))))
      (refine VDraw.seg (Eq (World.drewN _ 1)) [] [0, 1, 2, 3, 4, 5, 6, 7, 8, 9, 10, 11, 12, 13, 14, 15] (by kernel_rfl) (by kernel_rfl) rfl ?_; (conv => whnf))
      ((repeat ((first | (refine VC.cond ?_) | (refine VC.exit ?_) | (refine VQ.cons ?_) | (refine VQ.nil ?_) | (refine VG.nil ?_) | (refine VBool.f ?_)); (conv => whnf))))
      exact ⟨[], T1, rfl, hT, by simp, hgt, below_drewN hB 1⟩
    · rw [List.concat_eq_append] at hT hTl ⊢
      have hTl2 : (T0 ++ [p]).length = T0.length + 1 := by simp
      rw [hTl2] at hTl ⊢
      rw [List.append_assoc] at hT
      obtain ⟨g', As', cs', Ap', cp', rfl, hgl, c0, _, _, _, _, _, _⟩ := rCell (h2.below hB (Nat.le_refl _)).fr hT
      ((conv => whnf); (repeat ((fail); (conv => whnf))))
      ((repeat ((first | (refine VC.draw ?_) | (refine VC.seq ?_)); (conv => whnf))))
      (refine VDraw.seg (Eq (World.drewN _ 1)) [] [0, 1, 2, 3, 4, 5, 6, 7, 8, 9, 10, 11, 12, 13, 14, 15] (by kernel_rfl) (by kernel_rfl) rfl ?_; (conv => whnf))
      ((repeat ((first | (refine VQ.cons ?_) | (refine VG.nil ?_) | (refine VBool.t ?_) | (refine VBool.dT (by omega) ?_) | (refine VRead.fld ?_)); (conv => whnf))))
      refine VRead.loadB hb3 rfl rfl ?_
      (conv => whnf)
      ((repeat ((first | (refine VQ.cons ?_) | (refine VBool.t ?_) | (refine VRead.fld ?_)); (conv => whnf))))
      refine VRead.loadB hbr3 rfl rfl ?_
      (conv => whnf)
      ((repeat ((first | (refine VQ.cons ?_) | (refine VBool.t ?_) | (refine VWrap.i64 (by omega) (by omega) ?_)); (conv => whnf))))
      refine VRead.atKZ T0.length (by omega) (by omega) ?_
      (conv => whnf)
      ((repeat ((first | (refine VQ.cons ?_) | (refine VBool.t ?_) | (refine VRead.fld ?_) | (refine VRead.load1 (by assumption) ?_)); (conv => whnf))))
      refine VRead.sLt ?_
      (conv => whnf)
      by_cases hlt : s < p.1
      · (repeat (first | ((first | (refine VL.cons ?_) | (refine VL.nil ?_) | (refine VC.region ?_) | (refine VC.cond ?_) | (refine VC.block ?_) | (refine VC.skip ?_) | (refine VQ.cons ?_) | (refine VQ.nil ?_) | (refine VBool.dT (by omega) ?_) | (refine VWrap.i64 (by omega) (by omega) ?_)); (conv => whnf)) | (refine VBool.dT hlt ?_; (conv => whnf))))
        exact ⟨_, by omega, T0, p :: T1, by show [Value.int .i64 (((T0.length + 1 : Nat) : Int) - 1)] = _; rw [show (((T0.length + 1 : Nat) : Int) - 1) = (T0.length : Int) by omega], rfl, hT, fun q hq => by
          rcases List.mem_cons.1 hq with e | hq
          · rw [e]; exact hlt
          · exact hgt q hq, below_drewN hB 1⟩
      · (repeat (first | ((first | (refine VC.cond ?_) | (refine VC.exit ?_) | (refine VQ.cons ?_) | (refine VQ.nil ?_) | (refine VBool.dF (by omega) ?_)); (conv => whnf)) | (refine VBool.dF hlt ?_; (conv => whnf))))
        refine ⟨T0 ++ [p], T1, by rw [hTl2]; rfl, by rw [hT]; simp, ?_, hgt, below_drewN hB 1⟩
        exact rising_last (B := T1) (by have := hR'; rw [hT] at this; simpa using this) (by have := hs'; rw [hT] at this; simpa using this) hlt
  · rintro τ3 vs3 w3 ⟨T0, T1, rfl, hT, hlo, hhi, hB3⟩
    have hTl : T'.length = T0.length + T1.length := by rw [hT]; simp
    have h3 := h2.below hB3 (Nat.le_refl _)
    have hbg3 := hb2.below hB3 hb2.lt
    have hbr3 := hbr.below hB3 hbr.lt
    have hx3 := hx2.below hB3 (Nat.le_refl _)
    have hc := h3.fr.cap
    have hUp3 : Up V w3 := hUpV.grow (Nat.le_trans hO2.size hB3.size)
    have hr := Reads.row h3.fr.row
    have hels := h3.fr.els
    rw [hT] at hels
    obtain ⟨x0, x1, hxs, hx0, hxl, he0, he1⟩ := hels.two
    have hr0 := hr.takeK (z := T0.length) (by omega)
    have hr1 := hr.cut (k := T0.length) (cap := c2) (by omega) hc
    rw [show xs2.take (T0.length * 3) = x0 by rw [hxs, ← hx0, List.take_left]] at hr0
    rw [show xs2.drop (T0.length * 3) = x1 by rw [hxs, ← hx0, List.drop_left], show T'.length - T0.length = T1.length by omega] at hr1
    replace hr1 : Reads w3 w3.heap.size 3 (cutK A2 c2 T0.length 3) T1.length x1 := hr1
    ((conv => whnf); (repeat ((first | (refine VL.cons ?_) | (refine VL.nil ?_) | (refine VC.seqS rfl ?_) | (refine VC.region ?_)); (conv => whnf))))
    (repeat (first | ((first | (refine VL.cons ?_) | (refine VRead.fld ?_)); (conv => whnf)) | (refine VRead.loadB hbr3 rfl rfl ?_; (conv => whnf))))
    refine VRead.cutKH T0.length (by omega) (by omega) ?_
    (conv => whnf)
    ((repeat ((first | (refine VL.cons ?_)); (conv => whnf))))
    refine VSem.appF' (FRow.nil _ V) rfl hUp3 hr0 he0 rfl (by omega) (Nat.le_refl _) (fun g h => by simp [Value.ownBlock] at h) T0.length (by omega) ?_
    intro A4 c4 w4 hF4 hB4 ho4
    rw [List.nil_append, List.nil_append] at hF4
    have hbg4 := hbg3.below hB4 hbg3.lt
    ((conv => whnf); (repeat ((first | (refine VL.cons ?_) | (refine VL.nil ?_) | (refine VC.seqS rfl ?_) | (refine VC.region ?_)); (conv => whnf))))
    ((repeat ((fail); (conv => whnf))))
    refine VRead.loadAB1 hbg4 rfl rfl ?_
    (conv => whnf)
    ((repeat ((first | (refine VL.cons ?_)); (conv => whnf))))
    refine VSem.oneF ?_
    intro w5 hr5 hB5
    have hB35 := hB4.trans (hB5.mono hB4.size)
    ((conv => whnf); (repeat ((first | (refine VL.cons ?_)); (conv => whnf))))
    ((repeat ((fail); (conv => whnf))))
    refine VSem.appF' (T' := [(s, f)]) (hF4.below hB5 (Nat.le_refl _)) rfl (hUp3.grow hB35.size) hr5 (show FEls w5 V [(s, f)] _ from ⟨hx3.below hB35 (Nat.le_refl _), trivial⟩) rfl (by omega) hB35.size ho4 (T0.length + 1) rfl ?_
    intro A6 c6 w6 hF6 hB6 ho6
    have hB36 := hB35.trans hB6
    have hbr6 := hbr3.below hB36 hbr3.lt
    ((conv => whnf); (repeat ((first | (refine VL.cons ?_) | (refine VL.nil ?_) | (refine VC.region ?_)); (conv => whnf))))
    (repeat (first | ((first | (refine VL.cons ?_) | (refine VRead.fld ?_)); (conv => whnf)) | (refine VRead.loadB hbr6 rfl rfl ?_; (conv => whnf))))
    refine VRead.cutKL T0.length (by omega) (by omega) ?_
    rw [show T'.length - T0.length = T1.length by omega]
    (conv => whnf)
    ((repeat ((first | (refine VL.cons ?_)); (conv => whnf))))
    refine VSem.appF' hF6 (by simp) (hUp3.grow hB36.size) (hr1.below hB36) (he1.below hB36 (Nat.le_refl _)) rfl (by omega) hB36.size ho6 (T0.length + 1 + T1.length) rfl ?_
    intro A7 c7 w7 hF7 hB7 ho7
    have hB37 := hB36.trans hB7
    have hbr7 := hbr3.below hB37 hbr3.lt
    ((conv => whnf); (repeat ((first | (refine VL.cons ?_)); (conv => whnf))))
    ((repeat ((first | (refine VL.cons ?_) | (refine VRead.fld ?_)); (conv => whnf))))
    refine VUnit.storeB hbr7 rfl rfl rfl ?_
    intro w8 hb8 hg8
    ((conv => whnf); (repeat ((first | (refine VL.nil ?_)); (conv => whnf))))
    ((repeat ((fail); (conv => whnf))))
    have e : tset T' s f = T0 ++ (s, f) :: T1 := by rw [hT]; exact tset_mid hlo hhi
    have e2 : T0 ++ [(s, f)] ++ T1 = tset T' s f := by rw [e]; simp
    have el : (tset T' s f).length = T0.length + 1 + T1.length := by rw [e]; simp; omega
    rw [e2, ← el] at hF7
    refine ⟨rfl, ⟨A7, c7, _, ((h3.below hB37 (Nat.le_refl _)).turn hF7 (K' := K) ?_ hg8).more (fun j _ hj => hVU j hj)⟩, ?_⟩
    · rw [el]; exact hb8
    · exact (Out.new hB1).trans (((hO2.trans (Out.new hB3)).trans ((Out.new hB37).trans (Out.grown hg8 h3.hr))).mono hVU)
end
end Go.Proofs.YtebeidnmplnlpaaGreat
end

section
set_option maxRecDepth 10000
namespace Go.Proofs.YtebeidnmplnlpaaGreat
set_option linter.unusedVariables false
open Go.RowKit

theorem RefD.of {W : World} {U : Foot} {r c : Nat} {A : Option Addr} {xs : List Value} {S : DS} (hwf : DWf S) (h : RefAt W U r A c xs S.k S.t) : RefD W U r S := ⟨hwf, A, c, xs, h⟩
section
variable {U : Foot} {r : Nat}
set_option maxHeartbeats 1000000 in
theorem rCreate_any (W : World) (S : DS) (s : List UInt8) (h : RefD W U r S) (hc : S.k.calls < 1000000) (hs : s.length ≤ 1000) (hU : Up U W) :
    Calls Tryz.prog 10 #[.pointer (some ⟨r, 0, none⟩), encStr s] W fun e W' => e = .returned (.int .i64 (S.create s).1) ∧ RefD W' U r (S.create s).2 ∧ Out U W W' := by
  have hwf' := h.1.create hc s
  obtain ⟨h0, A, c, xs, h⟩ := h
  have hfew := h0.t.few
  have hris := h0.t.ris
  obtain ⟨K, T⟩ := S
  simp only at h h0 hc hfew hris
  have fin : ∀ {W' : World} {A : Option Addr} {c : Nat} {xs : List Value} {q : Int × DS}, DS.create ⟨K, T⟩ s = q → RefAt W' U r A c xs q.2.k q.2.t → RefD W' U r (DS.create ⟨K, T⟩ s).2 := fun e h1 => .of hwf' (by rw [e]; exact h1)
  refine calls_vc Tryz.func10 rfl (by kernel_rfl) ?_
  ((conv => whnf); (repeat ((first | (refine VL.cons ?_) | (refine VL.nil ?_) | (refine VC.seqS rfl ?_) | (refine VC.region ?_)); (conv => whnf))))
  ((repeat ((first | (refine VL.cons ?_) | (refine VC.seqS rfl ?_) | (refine VC.region ?_) | (refine VC.seq ?_)); (conv => whnf))))
  refine VCall.of (rCall_at W h h0.k) ?_
  rintro e W1 ⟨rfl, h1, hg1⟩
  have hO1 := Out.grown hg1 h.hr
  refine ⟨_, rfl, ?_⟩
  obtain ⟨e1, K1, hK⟩ : ∃ e1 K1, K.call = (e1, K1) := ⟨_, _, rfl⟩
  rw [hK] at h1 ⊢
  simp only at h1 ⊢
  have c1 : e1 ≠ 0 → DS.create ⟨K, T⟩ s = (e1, ⟨K1, T⟩) := fun h => by unfold DS.create; rw [hK]; exact if_pos h
  have c2 : e1 = 0 → ¬ nameOk s → DS.create ⟨K, T⟩ s = (1, ⟨K1, T⟩) := fun h h' => by unfold DS.create; rw [hK, if_neg (not_not_intro h)]; exact if_pos h'
  have c3 : e1 = 0 → nameOk s → (tfind T s = none ∧ 64 ≤ T.length) → DS.create ⟨K, T⟩ s = (2, ⟨K1, T⟩) := fun h h' h'' => by unfold DS.create; rw [hK, if_neg (not_not_intro h), if_neg (not_not_intro h')]; exact if_pos h''
  have c4 : e1 = 0 → nameOk s → ¬ (tfind T s = none ∧ 64 ≤ T.length) → DS.create ⟨K, T⟩ s = (0, ⟨K1, tset T s ⟨[], 0⟩⟩) := fun h h' h'' => by unfold DS.create; rw [hK, if_neg (not_not_intro h), if_neg (not_not_intro h')]; exact if_neg h''
  by_cases he : e1 = 0
  case neg =>
    ((conv => whnf); (repeat ((first | (refine VL.cons ?_) | (refine VL.nil ?_) | (refine VC.seqS rfl ?_) | (refine VC.region ?_) | (refine VC.cond ?_)); (conv => whnf))))
    ((repeat ((first | (refine VL.cons ?_) | (refine VL.nil ?_) | (refine VC.seqS rfl ?_) | (refine VC.region ?_) | (refine VC.ret ?_) | (refine VBool.nF (by omega) ?_)); (conv => whnf))))
    exact ⟨by rw [c1 he]; rfl, fin (c1 he) h1, hO1⟩
  subst he
  ((conv => whnf); (repeat ((first | (refine VL.cons ?_) | (refine VL.nil ?_) | (refine VC.seqS rfl ?_) | (refine VC.region ?_) | (refine VC.cond ?_)); (conv => whnf))))
  ((repeat ((first | (refine VL.cons ?_) | (refine VC.seqS rfl ?_) | (refine VC.region ?_) | (refine VC.skip ?_) | (refine VBool.f ?_) | (refine VC.seq ?_)); (conv => whnf))))
  refine VCall.of (rNamed_any W1 s hs) ?_
  rintro e W1' ⟨rfl, eW⟩
  obtain rfl := eW.symm
  refine ⟨_, rfl, ?_⟩
  by_cases hn : nameOk s
  case neg =>
    rw [decide_eq_false hn]
    ((conv => whnf); (repeat ((first | (refine VL.cons ?_) | (refine VL.nil ?_) | (refine VC.cond ?_)); (conv => whnf))))
    ((repeat ((first | (refine VL.cons ?_) | (refine VL.nil ?_) | (refine VC.seqS rfl ?_) | (refine VC.region ?_) | (refine VC.ret ?_) | (refine VBool.t ?_)); (conv => whnf))))
    exact ⟨by rw [c2 rfl hn]; rfl, fin (c2 rfl hn) h1, hO1⟩
  rw [decide_eq_true hn]
  ((conv => whnf); (repeat ((first | (refine VL.cons ?_) | (refine VL.nil ?_) | (refine VC.cond ?_)); (conv => whnf))))
  ((repeat ((first | (refine VL.cons ?_) | (refine VC.seqS rfl ?_) | (refine VC.region ?_) | (refine VC.skip ?_) | (refine VBool.f ?_) | (refine VC.seq ?_)); (conv => whnf))))
  refine VCall.of (rFind_at W1 s h1 hris (by omega)) ?_
  rintro e W1' ⟨⟨k, rfl, hst⟩, eW⟩
  obtain rfl := eW.symm
  refine ⟨_, rfl, ?_⟩
  have hb : Blk W1 r 47 #[.slice A T.length c, .int .i64 K1.room, .int .i64 K1.calls, .bool K1.armed, .int .i64 K1.kind, .int .i64 K1.after, .bool K1.off] := h1.blk
  have hx : FEl W1 U (s, ⟨[], 0⟩) (encStr s) (.slice none 0 0) (.slice none 0 0) := ⟨rfl, ⟨none, 0, rfl, Lies.nil _ _ _, Nat.le_refl _⟩, none, 0, rfl, Lies.nil _ _ _, Nat.le_refl _⟩
  have put : ¬ (tfind T s = none ∧ 64 ≤ T.length) → Calls Tryz.prog 28 #[.pointer (some ⟨r, 0, none⟩), .agg #[encStr s, .slice none 0 0, .slice none 0 0]] W1 fun e W' => e = .returned (.tuple #[]) ∧ RefD W' U r (DS.create ⟨K, T⟩ s).2 ∧ Out U W W' := fun hno => by
    refine (rPut_at W1 h1 hris hx (hU.grow hO1.size) (by omega)).mono ?_
    rintro e W2 ⟨rfl, ⟨A2, c2, xs2, h2⟩, hO2⟩
    exact ⟨rfl, fin (c4 rfl hn hno) h2, hO1.trans hO2⟩
  rcases hst with ⟨hf, rfl⟩ | ⟨T0, f, T1, hT, hf, rfl⟩
  · by_cases hfull : 64 ≤ T.length
    · have c3' := c3 rfl hn ⟨hf, hfull⟩
      ((conv => whnf); (repeat ((first | (refine VL.cons ?_)); (conv => whnf))))
      (repeat (first | ((first | (refine VL.cons ?_) | (refine VL.nil ?_) | (refine VC.seqS rfl ?_) | (refine VC.region ?_) | (refine VC.cond ?_) | (refine VC.ret ?_) | (refine VBool.t ?_) | (refine VBool.dT (by omega) ?_) | (refine VRead.lenS ?_) | (refine VRead.fld ?_)); (conv => whnf)) | (refine VRead.loadB hb rfl rfl ?_; (conv => whnf))))
      exact ⟨by rw [c3']; rfl, fin c3' h1, hO1⟩
    · have hno : ¬ (tfind T s = none ∧ 64 ≤ T.length) := fun h => hfull h.2
      have c4' := c4 rfl hn hno
      ((conv => whnf); (repeat ((first | (refine VL.cons ?_)); (conv => whnf))))
      (repeat (first | ((first | (refine VL.cons ?_) | (refine VL.nil ?_) | (refine VC.seqS rfl ?_) | (refine VC.region ?_) | (refine VC.cond ?_) | (refine VC.skip ?_) | (refine VBool.t ?_) | (refine VBool.dF (by omega) ?_) | (refine VRead.lenS ?_) | (refine VRead.fld ?_)); (conv => whnf)) | (refine VRead.loadB hb rfl rfl ?_; (conv => whnf))))
      refine VRead.ofW (v := .agg #[encStr s, .slice none 0 0, .slice none 0 0]) (fun _ => by kernel_rfl) ?_
      ((conv => whnf); (repeat ((first | (refine VL.cons ?_)); (conv => whnf))))
      ((repeat ((fail); (conv => whnf))))
      refine VCall.of (put hno) ?_
      rintro e W2 ⟨rfl, h2, hO2⟩
      refine ⟨_, rfl, ?_⟩
      ((conv => whnf); (repeat ((first | (refine VL.cons ?_) | (refine VL.nil ?_) | (refine VC.seqS rfl ?_) | (refine VC.region ?_) | (refine VC.ret ?_)); (conv => whnf))))
      ((repeat ((fail); (conv => whnf))))
      exact ⟨by rw [c4']; rfl, h2, hO2⟩
  · have hno : ¬ (tfind T s = none ∧ 64 ≤ T.length) := by rw [hf]; intro h; cases h.1
    have c4' := c4 rfl hn hno
    ((conv => whnf); (repeat ((first | (refine VL.cons ?_)); (conv => whnf))))
    (repeat (first | ((first | (refine VL.cons ?_) | (refine VL.nil ?_) | (refine VC.seqS rfl ?_) | (refine VC.region ?_) | (refine VC.cond ?_) | (refine VC.skip ?_) | (refine VBool.f ?_)); (conv => whnf)) | (refine VRead.loadB hb rfl rfl ?_; (conv => whnf))))
    refine VRead.ofW (v := .agg #[encStr s, .slice none 0 0, .slice none 0 0]) (fun _ => by kernel_rfl) ?_
    ((conv => whnf); (repeat ((first | (refine VL.cons ?_)); (conv => whnf))))
    ((repeat ((fail); (conv => whnf))))
    refine VCall.of (put hno) ?_
    rintro e W2 ⟨rfl, h2, hO2⟩
    refine ⟨_, rfl, ?_⟩
    ((conv => whnf); (repeat ((first | (refine VL.cons ?_) | (refine VL.nil ?_) | (refine VC.seqS rfl ?_) | (refine VC.region ?_) | (refine VC.ret ?_)); (conv => whnf))))
    ((repeat ((fail); (conv => whnf))))
    exact ⟨by rw [c4']; rfl, h2, hO2⟩
set_option maxHeartbeats 1000000 in
theorem rRemove_any (W : World) (S : DS) (s : List UInt8) (h : RefD W U r S) (hc : S.k.calls < 1000000) (hs : s.length ≤ 1000) (hU : Up U W) :
    Calls Tryz.prog 56 #[.pointer (some ⟨r, 0, none⟩), encStr s] W fun e W' => e = .returned (.int .i64 (S.remove s).1) ∧ RefD W' U r (S.remove s).2 ∧ Out U W W' := by
  have hwf' := h.1.remove (s := s) hc
  obtain ⟨h0, A, c, xs, h⟩ := h
  have hfew := h0.t.few
  have hris := h0.t.ris
  obtain ⟨K, T⟩ := S
  simp only at h h0 hc hfew hris
  have fin : ∀ {W' : World} {A : Option Addr} {c : Nat} {xs : List Value} {q : Int × DS}, DS.remove ⟨K, T⟩ s = q → RefAt W' U r A c xs q.2.k q.2.t → RefD W' U r (DS.remove ⟨K, T⟩ s).2 := fun e h1 => .of hwf' (by rw [e]; exact h1)
  refine calls_vc Tryz.func56 rfl (by kernel_rfl) ?_
  ((conv => whnf); (repeat ((first | (refine VL.cons ?_) | (refine VL.nil ?_) | (refine VC.seqS rfl ?_) | (refine VC.region ?_)); (conv => whnf))))
  ((repeat ((first | (refine VL.cons ?_) | (refine VC.seqS rfl ?_) | (refine VC.region ?_) | (refine VC.seq ?_)); (conv => whnf))))
  refine VCall.of (rCall_at W h h0.k) ?_
  rintro e W1 ⟨rfl, h1, hg1⟩
  have hO1 := Out.grown hg1 h.hr
  refine ⟨_, rfl, ?_⟩
  obtain ⟨e1, K1, hK⟩ : ∃ e1 K1, K.call = (e1, K1) := ⟨_, _, rfl⟩
  rw [hK] at h1 ⊢
  simp only at h1 ⊢
  have c1 : e1 ≠ 0 → DS.remove ⟨K, T⟩ s = (e1, ⟨K1, T⟩) := fun h => by unfold DS.remove; rw [hK]; exact if_pos h
  have c2 : e1 = 0 → ¬ nameOk s → DS.remove ⟨K, T⟩ s = (1, ⟨K1, T⟩) := fun h h' => by unfold DS.remove; rw [hK, if_neg (not_not_intro h)]; exact if_pos h'
  have c3 : e1 = 0 → nameOk s → tfind T s = none → DS.remove ⟨K, T⟩ s = (3, ⟨K1, T⟩) := fun h h' h'' => by unfold DS.remove; rw [hK, if_neg (not_not_intro h), if_neg (not_not_intro h'), h'']
  have c4 : ∀ f, e1 = 0 → nameOk s → tfind T s = some f → DS.remove ⟨K, T⟩ s = (0, ⟨K1, tdel T s⟩) := fun f h h' h'' => by unfold DS.remove; rw [hK, if_neg (not_not_intro h), if_neg (not_not_intro h'), h'']
  by_cases he : e1 = 0
  case neg =>
    ((conv => whnf); (repeat ((first | (refine VL.cons ?_) | (refine VL.nil ?_) | (refine VC.seqS rfl ?_) | (refine VC.region ?_) | (refine VC.cond ?_)); (conv => whnf))))
    ((repeat ((first | (refine VL.cons ?_) | (refine VL.nil ?_) | (refine VC.seqS rfl ?_) | (refine VC.region ?_) | (refine VC.ret ?_) | (refine VBool.nF (by omega) ?_)); (conv => whnf))))
    exact ⟨by rw [c1 he]; rfl, fin (c1 he) h1, hO1⟩
  subst he
  ((conv => whnf); (repeat ((first | (refine VL.cons ?_) | (refine VL.nil ?_) | (refine VC.seqS rfl ?_) | (refine VC.region ?_) | (refine VC.cond ?_)); (conv => whnf))))
  ((repeat ((first | (refine VL.cons ?_) | (refine VC.seqS rfl ?_) | (refine VC.region ?_) | (refine VC.skip ?_) | (refine VBool.f ?_) | (refine VC.seq ?_)); (conv => whnf))))
  refine VCall.of (rNamed_any W1 s hs) ?_
  rintro e W1' ⟨rfl, eW⟩
  obtain rfl := eW.symm
  refine ⟨_, rfl, ?_⟩
  by_cases hn : nameOk s
  case neg =>
    rw [decide_eq_false hn]
    ((conv => whnf); (repeat ((first | (refine VL.cons ?_) | (refine VL.nil ?_) | (refine VC.cond ?_)); (conv => whnf))))
    ((repeat ((first | (refine VL.cons ?_) | (refine VL.nil ?_) | (refine VC.seqS rfl ?_) | (refine VC.region ?_) | (refine VC.ret ?_) | (refine VBool.t ?_)); (conv => whnf))))
    exact ⟨by rw [c2 rfl hn]; rfl, fin (c2 rfl hn) h1, hO1⟩
  rw [decide_eq_true hn]
  ((conv => whnf); (repeat ((first | (refine VL.cons ?_) | (refine VL.nil ?_) | (refine VC.cond ?_)); (conv => whnf))))
  ((repeat ((first | (refine VL.cons ?_) | (refine VC.seqS rfl ?_) | (refine VC.region ?_) | (refine VC.skip ?_) | (refine VBool.f ?_)); (conv => whnf))))
  refine VCall.of (rFind_at W1 s h1 hris (by omega)) ?_
  rintro e W1' ⟨⟨k, rfl, hst⟩, eW⟩
  obtain rfl := eW.symm
  refine ⟨_, rfl, ?_⟩
  rcases hst with ⟨hf, rfl⟩ | ⟨T0, f, T1, hT, hf, rfl⟩
  · have c3' := c3 rfl hn hf
    ((conv => whnf); (repeat ((first | (refine VL.cons ?_) | (refine VL.nil ?_)); (conv => whnf))))
    ((repeat ((first | (refine VL.cons ?_) | (refine VL.nil ?_) | (refine VC.seqS rfl ?_) | (refine VC.region ?_) | (refine VC.cond ?_) | (refine VC.ret ?_) | (refine VBool.t ?_) | (refine VC.seq ?_)); (conv => whnf))))
    exact ⟨by rw [c3']; rfl, fin c3' h1, hO1⟩
  · have c4' := c4 f rfl hn hf
    ((conv => whnf); (repeat ((first | (refine VL.cons ?_) | (refine VL.nil ?_)); (conv => whnf))))
    ((repeat ((first | (refine VL.cons ?_) | (refine VL.nil ?_) | (refine VC.seqS rfl ?_) | (refine VC.region ?_) | (refine VC.cond ?_) | (refine VC.skip ?_) | (refine VBool.f ?_) | (refine VC.seq ?_)); (conv => whnf))))
    refine VCall.of (rWithout_at W1 h1 hT (hU.grow hO1.size) (by omega)) ?_
    rintro e W2 ⟨rfl, ⟨A2, c2, xs2, h2⟩, hO2, _⟩
    refine ⟨_, rfl, ?_⟩
    ((conv => whnf); (repeat ((first | (refine VL.cons ?_) | (refine VL.nil ?_) | (refine VC.seqS rfl ?_) | (refine VC.region ?_) | (refine VC.ret ?_)); (conv => whnf))))
    ((repeat ((fail); (conv => whnf))))
    refine ⟨by rw [c4']; rfl, fin (A := A2) (c := c2) (xs := xs2) c4' ?_, hO1.trans hO2⟩
    have e : tdel T s = T0 ++ T1 := by rw [hT]; exact tdel_eq (by rw [← hT]; exact hris.nd)
    simp only
    rw [e]; exact h2
set_option maxHeartbeats 1000000 in
theorem rRename_any (W : World) (S : DS) (s t : List UInt8) (h : RefD W U r S) (hc : S.k.calls < 1000000) (hs : s.length ≤ 1000) (ht : t.length ≤ 1000) (hU : Up U W) :
    Calls Tryz.prog 82 #[.pointer (some ⟨r, 0, none⟩), encStr s, encStr t] W fun e W' => e = .returned (.int .i64 (S.rename s t).1) ∧ RefD W' U r (S.rename s t).2 ∧ Out U W W' := by
  have hwf' := h.1.rename (s := s) (t := t) hc
  obtain ⟨h0, A, c, xs, h⟩ := h
  have hfew := h0.t.few
  have hris := h0.t.ris
  obtain ⟨K, T⟩ := S
  simp only at h h0 hc hfew hris
  have fin : ∀ {W' : World} {A : Option Addr} {c : Nat} {xs : List Value} {q : Int × DS}, DS.rename ⟨K, T⟩ s t = q → RefAt W' U r A c xs q.2.k q.2.t → RefD W' U r (DS.rename ⟨K, T⟩ s t).2 := fun e h1 => .of hwf' (by rw [e]; exact h1)
  refine calls_vc Tryz.func82 rfl (by kernel_rfl) ?_
  ((conv => whnf); (repeat ((first | (refine VL.cons ?_) | (refine VL.nil ?_) | (refine VC.seqS rfl ?_) | (refine VC.region ?_)); (conv => whnf))))
  ((repeat ((first | (refine VL.cons ?_) | (refine VC.seqS rfl ?_) | (refine VC.region ?_) | (refine VC.seq ?_)); (conv => whnf))))
  refine VCall.of (rCall_at W h h0.k) ?_
  rintro e W1 ⟨rfl, h1, hg1⟩
  have hO1 := Out.grown hg1 h.hr
  refine ⟨_, rfl, ?_⟩
  obtain ⟨e1, K1, hK⟩ : ∃ e1 K1, K.call = (e1, K1) := ⟨_, _, rfl⟩
  rw [hK] at h1 ⊢
  simp only at h1 ⊢
  have c1 : e1 ≠ 0 → DS.rename ⟨K, T⟩ s t = (e1, ⟨K1, T⟩) := fun h => by unfold DS.rename; rw [hK]; exact if_pos h
  have c2 : e1 = 0 → ¬ (nameOk s ∧ nameOk t) → DS.rename ⟨K, T⟩ s t = (1, ⟨K1, T⟩) := fun h h' => by unfold DS.rename; rw [hK, if_neg (not_not_intro h)]; exact if_pos h'
  have c3 : e1 = 0 → nameOk s ∧ nameOk t → tfind T s = none → DS.rename ⟨K, T⟩ s t = (3, ⟨K1, T⟩) := fun h h' h'' => by unfold DS.rename; rw [hK, if_neg (not_not_intro h), if_neg (not_not_intro h'), h'']
  have c4 : ∀ f, e1 = 0 → nameOk s ∧ nameOk t → tfind T s = some f → DS.rename ⟨K, T⟩ s t = (0, ⟨K1, tset (tdel T s) t f⟩) := fun f h h' h'' => by unfold DS.rename; rw [hK, if_neg (not_not_intro h), if_neg (not_not_intro h'), h'']
  by_cases he : e1 = 0
  case neg =>
    ((conv => whnf); (repeat ((first | (refine VL.cons ?_) | (refine VL.nil ?_) | (refine VC.seqS rfl ?_) | (refine VC.region ?_) | (refine VC.cond ?_)); (conv => whnf))))
    ((repeat ((first | (refine VL.cons ?_) | (refine VL.nil ?_) | (refine VC.seqS rfl ?_) | (refine VC.region ?_) | (refine VC.ret ?_) | (refine VBool.nF (by omega) ?_)); (conv => whnf))))
    exact ⟨by rw [c1 he]; rfl, fin (c1 he) h1, hO1⟩
  subst he
  ((conv => whnf); (repeat ((first | (refine VL.cons ?_) | (refine VL.nil ?_) | (refine VC.seqS rfl ?_) | (refine VC.region ?_) | (refine VC.cond ?_)); (conv => whnf))))
  ((repeat ((first | (refine VL.cons ?_) | (refine VC.seqS rfl ?_) | (refine VC.region ?_) | (refine VC.skip ?_) | (refine VBool.f ?_) | (refine VC.seq ?_)); (conv => whnf))))
  refine VCall.of (rNamed_any W1 s hs) ?_
  rintro e W1' ⟨rfl, eW⟩
  obtain rfl := eW.symm
  refine ⟨_, rfl, ?_⟩
  by_cases hn : nameOk s
  case neg =>
    rw [decide_eq_false hn]
    ((conv => whnf); (repeat ((first | (refine VL.cons ?_)); (conv => whnf))))
    ((repeat ((first | (refine VL.cons ?_) | (refine VL.nil ?_) | (refine VC.seqS rfl ?_) | (refine VC.region ?_) | (refine VC.cond ?_) | (refine VC.ret ?_) | (refine VBool.t ?_)); (conv => whnf))))
    have c2' := c2 rfl (fun h => hn h.1)
    exact ⟨by rw [c2']; rfl, fin c2' h1, hO1⟩
  rw [decide_eq_true hn]
  ((conv => whnf); (repeat ((first | (refine VL.cons ?_)); (conv => whnf))))
  ((repeat ((first | (refine VL.cons ?_) | (refine VBool.f ?_)); (conv => whnf))))
  refine VCall.of (rNamed_any W1 t ht) ?_
  rintro e W1' ⟨rfl, eW⟩
  obtain rfl := eW.symm
  refine ⟨_, rfl, ?_⟩
  by_cases hm : nameOk t
  case neg =>
    rw [decide_eq_false hm]
    ((conv => whnf); (repeat ((first | (refine VL.cons ?_)); (conv => whnf))))
    ((repeat ((first | (refine VL.cons ?_) | (refine VL.nil ?_) | (refine VC.seqS rfl ?_) | (refine VC.region ?_) | (refine VC.cond ?_) | (refine VC.ret ?_) | (refine VBool.t ?_) | (refine VBool.f ?_)); (conv => whnf))))
    have c2' := c2 rfl (fun h => hm h.2)
    exact ⟨by rw [c2']; rfl, fin c2' h1, hO1⟩
  rw [decide_eq_true hm]
  ((conv => whnf); (repeat ((first | (refine VL.cons ?_)); (conv => whnf))))
  ((repeat ((first | (refine VL.cons ?_) | (refine VL.nil ?_) | (refine VC.seqS rfl ?_) | (refine VC.region ?_) | (refine VC.cond ?_) | (refine VC.skip ?_) | (refine VBool.f ?_)); (conv => whnf))))
  refine VCall.of (rFind_at W1 s h1 hris (by omega)) ?_
  rintro e W1' ⟨⟨k, rfl, hst⟩, eW⟩
  obtain rfl := eW.symm
  refine ⟨_, rfl, ?_⟩
  rcases hst with ⟨hf, rfl⟩ | ⟨T0, f, T1, hT, hf, rfl⟩
  · have c3' := c3 rfl ⟨hn, hm⟩ hf
    ((conv => whnf); (repeat ((first | (refine VL.cons ?_) | (refine VL.nil ?_)); (conv => whnf))))
    ((repeat ((first | (refine VL.cons ?_) | (refine VL.nil ?_) | (refine VC.seqS rfl ?_) | (refine VC.region ?_) | (refine VC.cond ?_) | (refine VC.ret ?_) | (refine VBool.t ?_) | (refine VC.seq ?_)); (conv => whnf))))
    exact ⟨by rw [c3']; rfl, fin c3' h1, hO1⟩
  · have c4' := c4 f rfl ⟨hn, hm⟩ hf
    have hTl : T.length = T0.length + (T1.length + 1) := by rw [hT]; simp
    have hb : Blk W1 r 47 #[.slice A T.length c, .int .i64 K1.room, .int .i64 K1.calls, .bool K1.armed, .int .i64 K1.kind, .int .i64 K1.after, .bool K1.off] := h1.blk
    obtain ⟨g, As, cs, Ap, cp, rfl, hgl, d0, d1, d2, hls, hlp, hcs, hcp⟩ := rCell h1.fr hT
    have hcell : ∀ j v, (#[encStr s, Value.slice As f.sure cs, .slice Ap (f.b.length - f.sure) cp] : Array Value).toList[j]? = some v → W1.cell? (((⟨g, 0, none⟩ : Addr).add (T0.length * 3)).add j) = some v := fun j v hj => by
      match j, hj with
      | 0, hj => obtain rfl := Option.some.inj hj; exact d0
      | 1, hj => obtain rfl := Option.some.inj hj; exact d1
      | 2, hj => obtain rfl := Option.some.inj hj; exact d2
      | j + 3, hj => simp at hj
    ((conv => whnf); (repeat ((first | (refine VL.cons ?_) | (refine VL.nil ?_)); (conv => whnf))))
    (repeat (first | ((first | (refine VL.cons ?_) | (refine VL.nil ?_) | (refine VC.seqS rfl ?_) | (refine VC.region ?_) | (refine VC.cond ?_) | (refine VC.skip ?_) | (refine VBool.f ?_) | (refine VRead.fld ?_) | (refine VC.seq ?_)); (conv => whnf)) | (refine VRead.loadB hb rfl rfl ?_; (conv => whnf)) | (refine VRead.atK (by omega) ?_; (conv => whnf))))
    refine VRead.loadL hcell rfl ?_
    ((conv => whnf); (repeat ((first | (refine VL.cons ?_)); (conv => whnf))))
    ((repeat ((fail); (conv => whnf))))
    refine VSem.allocZ (z := .agg #[.string ByteArray.empty, .slice none 0 0, .slice none 0 0]) (by kernel_rfl) ?_
    intro W2 gf hbf hgf hlf hB2
    ((conv => whnf); (repeat ((first | (refine VL.cons ?_)); (conv => whnf))))
    ((repeat ((fail); (conv => whnf))))
    refine VUnit.storeAB hbf rfl rfl rfl (by simp [encStr, Value.oneCell']) ?_
    intro W3 hb3 hg3
    replace hb3 : Blk W3 gf 67 #[encStr s, .slice As f.sure cs, .slice Ap (f.b.length - f.sure) cp] := hb3
    have hB3 : Below W1.heap.size W1 W3 := only_new hB2 hg3 (by omega) (by omega)
    have hlf3 : gf < W3.heap.size := Nat.lt_of_lt_of_le hlf hg3.size
    obtain ⟨V, hV⟩ : ∃ V : Foot, V = fun j => U j ∧ j ≠ gf := ⟨_, rfl⟩
    have hVU : ∀ j, V j → U j := fun j hj => by rw [hV] at hj; exact hj.1
    have hUV : ∀ j, j < W1.heap.size → U j → V j := fun j h1 h2 => by rw [hV]; exact ⟨h2, by omega⟩
    have hVg : ¬ V gf := fun hj => by rw [hV] at hj; exact hj.2 rfl
    have hUpV : Up V W3 := fun j hj => by rw [hV]; exact ⟨hU j (by have := hB3.size; have := hO1.size; omega), by omega⟩
    have h3 := (h1.more hUV).below hB3 (Nat.le_refl _)
    have hls3 := (hls.more hUV).below hB3 (Nat.le_refl _)
    have hlp3 := (hlp.more hUV).below hB3 (Nat.le_refl _)
    ((conv => whnf); (repeat ((first | (refine VL.cons ?_) | (refine VL.nil ?_) | (refine VC.seqS rfl ?_) | (refine VC.region ?_)); (conv => whnf))))
    ((repeat ((fail); (conv => whnf))))
    refine VCall.of (rWithout_at W3 h3 hT hUpV (by omega)) ?_
    rintro e W4 ⟨rfl, ⟨A4, c4, xs4, h4⟩, hO4, hl4⟩
    refine ⟨_, rfl, ?_⟩
    have hb4 := (hO4.block gf hlf3 hVg).trans hb3
    replace hb4 : Blk W4 gf 67 #[encStr s, .slice As f.sure cs, .slice Ap (f.b.length - f.sure) cp] := hb4
    have hlf4 : gf < W4.heap.size := Nat.lt_of_lt_of_le hlf3 hO4.size
    ((conv => whnf); (repeat ((first | (refine VL.cons ?_) | (refine VL.nil ?_) | (refine VC.seqS rfl ?_) | (refine VC.region ?_)); (conv => whnf))))
    ((repeat ((first | (refine VL.cons ?_) | (refine VRead.fld ?_)); (conv => whnf))))
    refine VUnit.storeB hb4 rfl rfl rfl ?_
    intro W5 hb5 hg5
    replace hb5 : Blk W5 gf 67 #[encStr t, .slice As f.sure cs, .slice Ap (f.b.length - f.sure) cp] := hb5
    have h5 : RefAt W5 V r A4 c4 xs4 K1 (T0 ++ T1) := h4.stay hg5.size (fun j hj hv => hg5.block j hj (fun e => by injection e with e; exact hVg (e ▸ hv)))
    have hx5 : FEl W5 V (t, f) (encStr t) (.slice As f.sure cs) (.slice Ap (f.b.length - f.sure) cp) :=
      ⟨rfl, ⟨As, cs, rfl, (hl4 _ _ _ hls3).stay hg5.size (fun j hj hv => hg5.block j hj (fun e => by injection e with e; exact hVg (e ▸ hv))), hcs⟩, Ap, cp, rfl, (hl4 _ _ _ hlp3).stay hg5.size (fun j hj hv => hg5.block j hj (fun e => by injection e with e; exact hVg (e ▸ hv))), hcp⟩
    have e : tdel T s = T0 ++ T1 := by rw [hT]; exact tdel_eq (by rw [← hT]; exact hris.nd)
    ((conv => whnf); (repeat ((first | (refine VL.cons ?_) | (refine VL.nil ?_) | (refine VC.seqS rfl ?_) | (refine VC.region ?_)); (conv => whnf))))
    ((repeat ((fail); (conv => whnf))))
    refine VRead.loadAB1 hb5 rfl rfl ?_
    (conv => whnf)
    ((repeat ((first | (refine VL.cons ?_)); (conv => whnf))))
    refine VCall.of (rPut_at W5 h5 (by rw [← e]; exact hris.del) hx5 (hUpV.grow (Nat.le_trans hO4.size hg5.size)) (by rw [List.length_append]; omega)) ?_
    rintro e' W6 ⟨rfl, ⟨A6, c6, xs6, h6⟩, hO6⟩
    refine ⟨_, rfl, ?_⟩
    ((conv => whnf); (repeat ((first | (refine VL.cons ?_) | (refine VL.nil ?_) | (refine VC.seqS rfl ?_) | (refine VC.region ?_) | (refine VC.ret ?_)); (conv => whnf))))
    ((repeat ((fail); (conv => whnf))))
    refine ⟨by rw [c4']; rfl, fin (A := A6) (c := c6) (xs := xs6) c4' ?_, ?_⟩
    · simp only
      rw [e]
      exact h6.more (fun j _ hj => hVU j hj)
    · exact hO1.trans ((Out.new hB3).trans ((hO4.mono hVU).trans ((Out.grown hg5 (hU gf (by have := hO1.size; omega))).trans (hO6.mono hVU))))
end
end Go.Proofs.YtebeidnmplnlpaaGreat
end

section
set_option maxRecDepth 10000
namespace Go.Proofs.YtebeidnmplnlpaaGreat
set_option linter.unusedVariables false
open Go.RowKit

theorem set_cell {x0 x1 : List Value} {a b d v : Value} {n : Nat} (h : x0.length = n) : (x0 ++ a :: b :: d :: x1).set (n + 1) v = x0 ++ a :: v :: d :: x1 := by
  subst h
  rw [List.set_append_right _ _ (by omega), show x0.length + 1 - x0.length = 1 by omega]
  rfl
theorem set_cell2 {x0 x1 : List Value} {a b d v : Value} {n : Nat} (h : x0.length = n) : (x0 ++ a :: b :: d :: x1).set (n + 2) v = x0 ++ a :: b :: v :: x1 := by
  subst h
  rw [List.set_append_right _ _ (by omega), show x0.length + 2 - x0.length = 2 by omega]
  rfl
section
variable {W W' : World} {U : Foot} {r c g n B : Nat} {A : Option Addr} {xs xs' : List Value} {K : Dk} {T T0 T1 : PT} {s : List UInt8} {f : Fl} {b : List UInt8}
theorem FEls.mid {p : List UInt8 × Fl} {x0 x1 : List Value} {a b d : Value} (h : FEls W U (T0 ++ p :: T1) (x0 ++ a :: b :: d :: x1)) (hx0 : x0.length = T0.length * 3) : FEls W U T0 x0 ∧ FEl W U p a b d ∧ FEls W U T1 x1 := by
  obtain ⟨h1, h2⟩ := h.split
  rw [← hx0, List.take_left] at h1
  rw [← hx0, List.drop_left] at h2
  exact ⟨h1, h2.1, h2.2⟩
/-- a file's two slices turn -/
theorem RefAt.file {p q : List UInt8 × Fl} {x0 x1 : List Value} {a b d a' b' d' : Value} (h : RefAt W U r (some ⟨g, 0, none⟩) c xs K T) (hT : T = T0 ++ p :: T1) (hxs : xs = x0 ++ a :: b :: d :: x1) (hx0 : x0.length = T0.length * 3)
    (row : W'.ownsRow 0 67 3 (.slice (some ⟨g, 0, none⟩) T.length c) T.length (x0 ++ a' :: b' :: d' :: x1)) (hg : W.grownBy W' (some g)) (hel : FEl W' U q a' b' d') :
    RefAt W' U r (some ⟨g, 0, none⟩) c (x0 ++ a' :: b' :: d' :: x1) K (T0 ++ q :: T1) := by
  have hl : (T0 ++ q :: T1).length = T.length := by rw [hT]; simp
  have hels := h.fr.els
  have hrow := h.fr.row
  rw [hxs, hT] at hels
  obtain ⟨e0, _, e1⟩ := hels.mid hx0
  have hne : r ≠ g := by
    obtain ⟨_, cs, hc⟩ := row_cells hrow g rfl
    intro e; subst e
    have hb' := h.blk
    unfold Blk at hb'
    rw [hc] at hb'
    injection hb' with hb'
    injection hb' with _ h2 _
    exact absurd h2 (by decide)
  have st : ∀ (A : Option Addr) (m : Nat) (l : List UInt8), Lies W U A m l → Lies W' U A m l := fun A m l hl => hl.row hrow (by exact hg) (by decide)
  refine ⟨h.hr, ?_, ?_⟩
  · rw [hl]; exact h.blk.grown hg (fun e => hne (Option.some.inj e))
  · rw [hl]
    exact ⟨row, h.fr.foot, (e0.stay st).append (show FEls W' U (q :: T1) (a' :: b' :: d' :: x1) from ⟨hel, e1.stay st⟩)⟩
/-- what is pending grows -/
theorem RefAt.pend {A2 : Option Addr} {m2 c2 : Nat} (h : RefAt W U r (some ⟨g, 0, none⟩) c xs K T) (hT : T = T0 ++ (s, f) :: T1) (hsu : f.sure ≤ f.b.length)
    (row : W'.ownsRow 0 67 3 (.slice (some ⟨g, 0, none⟩) T.length c) T.length (xs.set (T0.length * 3 + 2) (.slice A2 m2 c2))) (hg : W.grownBy W' (some g)) (hO : Own W B (.slice A2 m2 c2) m2 (f.b.drop f.sure ++ b)) (hU : ∀ j, B ≤ j → U j) :
    ∃ xs', RefAt W' U r (some ⟨g, 0, none⟩) c xs' K (T0 ++ (s, ⟨f.b ++ b, f.sure⟩) :: T1) := by
  have hels := h.fr.els
  rw [hT] at hels
  obtain ⟨x0, a, y, d, x1, hxs, hx0, _, ⟨ha, ⟨As, cs, hy, hls, hcs⟩, _⟩, _⟩ := hels.at_
  have hrow := h.fr.row
  rw [hxs, set_cell2 hx0] at row
  have st : ∀ (A : Option Addr) (m : Nat) (l : List UInt8), Lies W U A m l → Lies W' U A m l := fun A m l hl => hl.row hrow (by exact hg) (by decide)
  have hm2 : m2 = f.b.length + b.length - f.sure := by
    have := hO.len
    simp only [List.length_append, List.length_drop] at this
    omega
  have hm3 : (f.b ++ b).length - f.sure = m2 := by rw [List.length_append]; omega
  simp only at hy hls hcs
  have hcap := hO.cap
  refine ⟨_, h.file hT hxs hx0 row hg ⟨ha, ⟨As, cs, hy, ?_, hcs⟩, A2, c2, ?_, ?_, ?_⟩⟩
  · simp only
    rw [List.take_append_of_le_length hsu]
    exact st _ _ _ hls
  · simp only; rw [hm3]
  · simp only
    rw [hm3, List.drop_append_of_le_length hsu]
    exact st _ _ _ (Lies.of_own hO hU)
  · simp only; rw [hm3]; exact hcap
/-- what is pending becomes sure, up to a number of bytes -/
theorem RefAt.made {A2 : Option Addr} {m2 c2 : Nat} {l : List UInt8} (h : RefAt W U r (some ⟨g, 0, none⟩) c xs K T) (hT : T = T0 ++ (s, f) :: T1)
    (row : W'.ownsRow 0 67 3 (.slice (some ⟨g, 0, none⟩) T.length c) T.length ((xs.set (T0.length * 3 + 1) (.slice A2 m2 c2)).set (T0.length * 3 + 2) (.slice none 0 0))) (hg : W.grownBy W' (some g)) (hO : Own W B (.slice A2 m2 c2) m2 l) (hU : ∀ j, B ≤ j → U j) :
    ∃ xs', RefAt W' U r (some ⟨g, 0, none⟩) c xs' K (T0 ++ (s, ⟨l, l.length⟩) :: T1) := by
  have hels := h.fr.els
  rw [hT] at hels
  obtain ⟨x0, a, y, d, x1, hxs, hx0, _, ⟨ha, _⟩, _⟩ := hels.at_
  have hrow := h.fr.row
  rw [hxs, set_cell hx0, set_cell2 hx0] at row
  have hl : l.length = m2 := hO.len
  have hcap := hO.cap
  refine ⟨_, h.file hT hxs hx0 row hg ⟨ha, ⟨A2, c2, ?_, ?_, ?_⟩, none, 0, ?_, ?_, ?_⟩⟩
  · simp only; rw [hl]
  · simp only
    rw [hl, List.take_of_length_le (by omega)]
    exact (Lies.of_own hO hU).row hrow (by exact hg) (by decide)
  · simp only; rw [hl]; exact hcap
  · simp only; rw [Nat.sub_self]
  · simp only; rw [Nat.sub_self, List.drop_length]; exact Lies.nil _ _ _
  · simp only; omega
end
section
variable {U : Foot} {r : Nat}
set_option maxHeartbeats 2000000 in
theorem rSync_any (W : World) (S : DS) (s : List UInt8) (h : RefD W U r S) (hc : S.k.calls < 1000000) (hs : s.length ≤ 1000) (hU : Up U W) :
    Calls Tryz.prog 15 #[.pointer (some ⟨r, 0, none⟩), encStr s] W fun e W' => e = .returned (.int .i64 (S.sync s).1) ∧ RefD W' U r (S.sync s).2 ∧ Out U W W' := by
  have hwf' := h.1.sync (s := s) hc
  obtain ⟨h0, A, c, xs, h⟩ := h
  have hfew := h0.t.few
  have hris := h0.t.ris
  have hroom := h0.k.room
  have hfit := h0.t.fit
  obtain ⟨K, T⟩ := S
  simp only at h h0 hc hfew hris hroom hfit
  have fin : ∀ {W' : World} {A : Option Addr} {c : Nat} {xs : List Value} {q : Int × DS}, DS.sync ⟨K, T⟩ s = q → RefAt W' U r A c xs q.2.k q.2.t → RefD W' U r (DS.sync ⟨K, T⟩ s).2 := fun e h1 => .of hwf' (by rw [e]; exact h1)
  refine calls_vc Tryz.func15 rfl (by kernel_rfl) ?_
  ((conv => whnf); (repeat ((first | (refine VL.cons ?_) | (refine VL.nil ?_) | (refine VC.seqS rfl ?_) | (refine VC.region ?_)); (conv => whnf))))
  ((repeat ((first | (refine VL.cons ?_) | (refine VC.seqS rfl ?_) | (refine VC.region ?_) | (refine VC.seq ?_)); (conv => whnf))))
  refine VCall.of (rCall_at W h h0.k) ?_
  rintro e W1 ⟨rfl, h1, hg1⟩
  have hO1 := Out.grown hg1 h.hr
  refine ⟨_, rfl, ?_⟩
  obtain ⟨e1, K1, hK⟩ : ∃ e1 K1, K.call = (e1, K1) := ⟨_, _, rfl⟩
  rw [hK] at h1 ⊢
  simp only at h1 ⊢
  have c1 : e1 ≠ 0 → DS.sync ⟨K, T⟩ s = (e1, ⟨K1, T⟩) := fun h => by unfold DS.sync; rw [hK]; exact if_pos h
  have c2 : e1 = 0 → ¬ nameOk s → DS.sync ⟨K, T⟩ s = (1, ⟨K1, T⟩) := fun h h' => by unfold DS.sync; rw [hK, if_neg (not_not_intro h)]; exact if_pos h'
  have c3 : e1 = 0 → nameOk s → tfind T s = none → DS.sync ⟨K, T⟩ s = (3, ⟨K1, T⟩) := fun h h' h'' => by unfold DS.sync; rw [hK, if_neg (not_not_intro h), if_neg (not_not_intro h'), h'']
  have c4 : ∀ f, e1 = 0 → nameOk s → tfind T s = some f → DS.sync ⟨K, T⟩ s = (0, ⟨K1, tset T s ⟨f.b, f.b.length⟩⟩) := fun f h h' h'' => by unfold DS.sync; rw [hK, if_neg (not_not_intro h), if_neg (not_not_intro h'), h'']
  by_cases he : e1 = 0
  case neg =>
    ((conv => whnf); (repeat ((first | (refine VL.cons ?_) | (refine VL.nil ?_) | (refine VC.seqS rfl ?_) | (refine VC.region ?_) | (refine VC.cond ?_)); (conv => whnf))))
    ((repeat ((first | (refine VL.cons ?_) | (refine VL.nil ?_) | (refine VC.seqS rfl ?_) | (refine VC.region ?_) | (refine VC.ret ?_) | (refine VBool.nF (by omega) ?_)); (conv => whnf))))
    exact ⟨by rw [c1 he]; rfl, fin (c1 he) h1, hO1⟩
  subst he
  ((conv => whnf); (repeat ((first | (refine VL.cons ?_) | (refine VL.nil ?_) | (refine VC.seqS rfl ?_) | (refine VC.region ?_) | (refine VC.cond ?_)); (conv => whnf))))
  ((repeat ((first | (refine VL.cons ?_) | (refine VC.seqS rfl ?_) | (refine VC.region ?_) | (refine VC.skip ?_) | (refine VBool.f ?_) | (refine VC.seq ?_)); (conv => whnf))))
  refine VCall.of (rNamed_any W1 s hs) ?_
  rintro e W1' ⟨rfl, eW⟩
  obtain rfl := eW.symm
  refine ⟨_, rfl, ?_⟩
  by_cases hn : nameOk s
  case neg =>
    rw [decide_eq_false hn]
    ((conv => whnf); (repeat ((first | (refine VL.cons ?_) | (refine VL.nil ?_) | (refine VC.cond ?_)); (conv => whnf))))
    ((repeat ((first | (refine VL.cons ?_) | (refine VL.nil ?_) | (refine VC.seqS rfl ?_) | (refine VC.region ?_) | (refine VC.ret ?_) | (refine VBool.t ?_)); (conv => whnf))))
    exact ⟨by rw [c2 rfl hn]; rfl, fin (c2 rfl hn) h1, hO1⟩
  rw [decide_eq_true hn]
  ((conv => whnf); (repeat ((first | (refine VL.cons ?_) | (refine VL.nil ?_) | (refine VC.cond ?_)); (conv => whnf))))
  ((repeat ((first | (refine VL.cons ?_) | (refine VC.seqS rfl ?_) | (refine VC.region ?_) | (refine VC.skip ?_) | (refine VBool.f ?_)); (conv => whnf))))
  refine VCall.of (rFind_at W1 s h1 hris (by omega)) ?_
  rintro e W1' ⟨⟨k, rfl, hst⟩, eW⟩
  obtain rfl := eW.symm
  refine ⟨_, rfl, ?_⟩
  rcases hst with ⟨hf, rfl⟩ | ⟨T0, f, T1, hT, hf, rfl⟩
  · have c3' := c3 rfl hn hf
    ((conv => whnf); (repeat ((first | (refine VL.cons ?_) | (refine VL.nil ?_)); (conv => whnf))))
    ((repeat ((first | (refine VL.cons ?_) | (refine VL.nil ?_) | (refine VC.seqS rfl ?_) | (refine VC.region ?_) | (refine VC.cond ?_) | (refine VC.ret ?_) | (refine VBool.t ?_) | (refine VC.seq ?_)); (conv => whnf))))
    exact ⟨by rw [c3']; rfl, fin c3' h1, hO1⟩
  · have c4' := c4 f rfl hn hf
    have hTl : T.length = T0.length + (T1.length + 1) := by rw [hT]; simp
    have hlen := len_used (T := T) (p := (s, f)) (tfind_mem hf)
    have hsu := h0.t.sure (s, f) (tfind_mem hf)
    have hb : Blk W1 r 47 #[.slice A T.length c, .int .i64 K1.room, .int .i64 K1.calls, .bool K1.armed, .int .i64 K1.kind, .int .i64 K1.after, .bool K1.off] := h1.blk
    obtain ⟨g, As, cs, Ap, cp, rfl, hgl, d0, d1, d2, hls, hlp, hcs, hcp⟩ := rCell h1.fr hT
    simp only at hlen hsu d1 d2 hls hlp hcs hcp
    have hS : Below W1.heap.size W1 (W1.drewN 1) := below_drewN (Below.refl _ _) 1
    have kB : ∀ X, Below W1.heap.size W1 X → Blk X r 47 #[.slice (some ⟨g, 0, none⟩) T.length c, .int .i64 K1.room, .int .i64 K1.calls, .bool K1.armed, .int .i64 K1.kind, .int .i64 K1.after, .bool K1.off] := fun X hX => hb.below hX hb.lt
    have kc : ∀ {j : Nat} {v : Value}, W1.cell? (((⟨g, 0, none⟩ : Addr).add (T0.length * 3)).add j) = some v → ∀ X, Below W1.heap.size W1 X → X.cell? (((⟨g, 0, none⟩ : Addr).add (T0.length * 3)).add j) = some v := fun h X hX => by rw [hX.cell (by rw [add_blk, add_blk]; exact hgl)]; exact h
    ((conv => whnf); (repeat ((first | (refine VL.cons ?_) | (refine VL.nil ?_)); (conv => whnf))))
    ((repeat ((first | (refine VL.cons ?_) | (refine VL.nil ?_) | (refine VC.seqS rfl ?_) | (refine VC.region ?_) | (refine VC.draw ?_) | (refine VC.cond ?_) | (refine VC.skip ?_) | (refine VBool.f ?_) | (refine VC.seq ?_)); (conv => whnf))))
    refine VDraw.lasts (fun X => Below W1.heap.size W1 X) [([0, 1, 2, 3, 4, 5, 6, 7, 8, 9, 10, 11, 12, 14, 15, 16, 17, 18, 19, 20, 21], 13), ([], 22)] [23, 24] 25 (by kernel_rfl) (by kernel_rfl) hS ?_
    (conv => whnf)
    (repeat ((first | (refine VRead.loadBS kB rfl rfl ?_) | (refine VRead.atK (by omega) ?_) | (refine VRead.load (kc d1) ?_) | (refine VRead.load (kc d2) ?_) | (refine VQ.cons ?_) | (refine VQ.nil ?_) | (refine VE.cons ?_) | (refine VRead.fld ?_)); (conv => whnf)))
    refine VSem.appO (Own.nil (W1.drewN 1) W1.heap.size) (hls.below hS (Nat.le_refl _)).1 (by omega) (Nat.le_refl _) ?_
    intro A' k' W2 hO2 _ hB2
    rw [Nat.zero_add, List.nil_append] at hO2
    rw [Nat.zero_add]
    have hS2 := hS.trans hB2
    (conv => whnf)
    refine Keep.mk hS2 ?_
    (conv => whnf)
    (repeat ((first | (refine VQ.nil ?_) | (refine VE.cons ?_)); (conv => whnf)))
    refine VSem.appO hO2 (hlp.below hS2 (Nat.le_refl _)).1 (by omega) hS2.size ?_
    intro A3 k3 W3 hO3 _ hB3
    rw [List.take_append_drop] at hO3
    have e : f.sure + (f.b.length - f.sure) = f.b.length := by omega
    rw [e] at hO3 ⊢
    have hS3 := hS2.trans hB3
    have h3 := h1.below hS3 (Nat.le_refl _)
    (conv => whnf)
    refine Keep.mk hS3 ?_
    (conv => whnf)
    (repeat ((first | (refine VRead.atK (by omega) ?_) | (refine VQ.cons ?_) | (refine VQ.nil ?_) | (refine VE.nil ?_) | (refine VRead.fld ?_)); (conv => whnf)))
    refine VUnit.storeRw h3.fr.row (j := T0.length * 3 + 1) (by rw [add0]; rfl) (by omega) rfl ?_
    intro W4 row4 hg4
    have hb4 : Blk W4 r 47 #[.slice (some ⟨g, 0, none⟩) T.length c, .int .i64 K1.room, .int .i64 K1.calls, .bool K1.armed, .int .i64 K1.kind, .int .i64 K1.after, .bool K1.off] := (kB W3 hS3).grown hg4 (fun e => by
      obtain ⟨_, cs, hc⟩ := row_cells h3.fr.row g rfl
      have e := Option.some.inj e
      subst e
      have hb' := kB W3 hS3
      unfold Blk at hb'
      rw [hc] at hb'
      injection hb' with hb'
      injection hb' with _ h2 _
      exact absurd h2 (by decide))
    (conv => whnf)
    refine Keep.mk trivial ?_
    (conv => whnf)
    (repeat (first | ((first | (refine VL.cons ?_) | (refine VC.seqS rfl ?_) | (refine VC.region ?_) | (refine VRead.fld ?_)); (conv => whnf)) | (refine VRead.loadB hb4 rfl rfl ?_; (conv => whnf)) | (refine VRead.atK (by omega) ?_; (conv => whnf))))
    refine VUnit.storeRw row4 (j := T0.length * 3 + 2) (by rw [add0]; rfl) (by omega) rfl ?_
    intro W5 row5 hg5
    ((conv => whnf); (repeat ((first | (refine VL.cons ?_) | (refine VL.nil ?_) | (refine VC.seqS rfl ?_) | (refine VC.region ?_) | (refine VC.ret ?_)); (conv => whnf))))
    ((repeat ((fail); (conv => whnf))))
    have hg : W3.grownBy W5 (some g) := only_trans hg4 hg5
    obtain ⟨xs5, h5⟩ := h3.made hT row5 hg hO3 (fun j hj => hU j (Nat.le_trans hO1.size hj))
    refine ⟨by rw [c4']; rfl, fin (A := some ⟨g, 0, none⟩) (c := c) (xs := xs5) c4' ?_, hO1.trans ((Out.new hS3).trans (Out.grown hg (h3.fr.foot g rfl)))⟩
    simp only
    rw [hT, tset_old (by rw [← hT]; exact hris)]
    exact h5
end
end Go.Proofs.YtebeidnmplnlpaaGreat
end

section
set_option maxRecDepth 10000
namespace Go.Proofs.YtebeidnmplnlpaaGreat
set_option linter.unusedVariables false
open Go.RowKit

theorem RefAt.other {W W' : World} {r c g : Nat} {A : Option Addr} {K : Dk} {T : PT} {B k n : Nat} {v : Value} {ys : List Value} (hb : Blk W r 47 (rC K A T.length c)) (row : W.ownsRow B 67 k v n ys) (hv : v.ownBlock = some g) (hg : W.grownBy W' (some g)) : Blk W' r 47 (rC K A T.length c) := hb.grown hg (fun e => by
  obtain ⟨_, cs, hc⟩ := row_cells row g hv
  have e := Option.some.inj e
  subst e
  have hb' := hb
  unfold Blk at hb'
  rw [hc] at hb'
  injection hb' with hb'
  injection hb' with _ h2 _
  exact absurd h2 (by decide))
section
variable {U : Foot} {r : Nat}
set_option maxHeartbeats 4000000 in
theorem rAppend_any (W : World) (S : DS) (s : List UInt8) (n k : Nat) (Ab : Option Addr) (b : List UInt8) (h : RefD W U r S) (hc : S.k.calls < 1000000) (hs : s.length ≤ 1000) (hr : Src W U Ab n b) (hn : n ≤ 140737488351232) (hnk : n ≤ k) (hU : Up U W) :
    Calls Tryz.prog 13 #[.pointer (some ⟨r, 0, none⟩), encStr s, .slice Ab n k] W fun e W' => e = .returned (.int .i64 (S.append s b).1) ∧ RefD W' U r (S.append s b).2 ∧ Out U W W' := by
  have hwf' := h.1.append (s := s) (b := b) hc
  have hbl := hr.len
  obtain ⟨h0, A, c, xs, h⟩ := h
  have hfew := h0.t.few
  have hris := h0.t.ris
  have hroom := h0.k.room
  have hfit := h0.t.fit
  have hoff0 : S.k.off = S.k.off := rfl
  have hwf1 := h0.call hc
  obtain ⟨K, T⟩ := S
  simp only at h h0 hc hfew hris hroom hfit hwf1
  have fin : ∀ {W' : World} {A : Option Addr} {c : Nat} {xs : List Value} {q : Int × DS}, DS.append ⟨K, T⟩ s b = q → RefAt W' U r A c xs q.2.k q.2.t → RefD W' U r (DS.append ⟨K, T⟩ s b).2 := fun e h1 => .of hwf' (by rw [e]; exact h1)
  have hbK : Blk W r 47 #[.slice A T.length c, .int .i64 K.room, .int .i64 K.calls, .bool K.armed, .int .i64 K.kind, .int .i64 K.after, .bool K.off] := h.blk
  refine calls_vc Tryz.func13 rfl (by kernel_rfl) ?_
  ((conv => whnf); (repeat ((first | (refine VL.cons ?_) | (refine VL.nil ?_) | (refine VC.seqS rfl ?_) | (refine VC.region ?_)); (conv => whnf))))
  (repeat (first | ((first | (refine VL.cons ?_) | (refine VL.nil ?_) | (refine VC.seqS rfl ?_) | (refine VC.region ?_) | (refine VRead.fld ?_)); (conv => whnf)) | (refine VRead.loadB hbK rfl rfl ?_; (conv => whnf))))
  refine VCall.of (rCall_at W h h0.k) ?_
  rintro e W1 ⟨rfl, h1, hg1⟩
  have hO1 := Out.grown hg1 h.hr
  have hr1 := hr.blk h.blk h.hr hg1 (by decide)
  refine ⟨_, rfl, ?_⟩
  obtain ⟨e1, K1, hK⟩ : ∃ e1 K1, K.call = (e1, K1) := ⟨_, _, rfl⟩
  have hrm : K1.room = K.room := by have := Dk.call_room K; rw [hK] at this; exact this
  rw [hK] at h1 hwf1 ⊢
  simp only at h1 hwf1 ⊢
  ((conv => whnf); (repeat ((first | (refine VL.cons ?_) | (refine VL.nil ?_) | (refine VC.seqS rfl ?_) | (refine VC.region ?_)); (conv => whnf))))
  ((repeat ((fail); (conv => whnf))))
  refine VCall.of (rFind_at W1 s h1 hris (by omega)) ?_
  rintro e W1' ⟨⟨p, rfl, hst⟩, eW⟩
  obtain rfl := eW.symm
  refine ⟨_, rfl, ?_⟩
  have hb : Blk W1 r 47 #[.slice A T.length c, .int .i64 K1.room, .int .i64 K1.calls, .bool K1.armed, .int .i64 K1.kind, .int .i64 K1.after, .bool K1.off] := h1.blk
  have hS : Below W1.heap.size W1 (W1.drewN 1) := below_drewN (Below.refl _ _) 1
  have kB : ∀ X, Below W1.heap.size W1 X → Blk X r 47 #[.slice A T.length c, .int .i64 K1.room, .int .i64 K1.calls, .bool K1.armed, .int .i64 K1.kind, .int .i64 K1.after, .bool K1.off] := fun X hX => hb.below hX hb.lt
  have hrU : ∀ X, Below W1.heap.size W1 X → Calls Tryz.prog 31 #[.pointer (some ⟨r, 0, none⟩)] X fun e W' => e = .returned (.int .i64 (used T : Int)) ∧ Below X.heap.size X W' := fun X hX =>
    rUsed_at X (h1.below hX (Nat.le_refl _)) (by omega) (by have := hwf1.t; simpa using this)
  by_cases he : e1 = 0
  · subst he
    have a2 : ¬ nameOk s → DS.append ⟨K, T⟩ s b = (1, ⟨K1, T⟩) := fun h' => by unfold DS.append; rw [hK, if_neg (by simp)]; exact if_pos h'
    have a3 : nameOk s → tfind T s = none → DS.append ⟨K, T⟩ s b = (3, ⟨K1, T⟩) := fun h' h'' => by unfold DS.append; rw [hK, if_neg (by simp), if_neg (not_not_intro h'), h'']
    have a4 : ∀ f, nameOk s → tfind T s = some f → DS.append ⟨K, T⟩ s b = DS.put ⟨K1, T⟩ s f b := fun f h' h'' => by unfold DS.append; rw [hK, if_neg (by simp), if_neg (not_not_intro h'), h'']
    ((conv => whnf); (repeat ((first | (refine VL.cons ?_) | (refine VL.nil ?_)); (conv => whnf))))
    ((repeat ((first | (refine VL.cons ?_) | (refine VL.nil ?_) | (refine VC.seqS rfl ?_) | (refine VC.region ?_) | (refine VC.cond ?_) | (refine VC.skip ?_) | (refine VBool.f ?_) | (refine VC.seq ?_)); (conv => whnf))))
    refine VCall.of (rNamed_any W1 s hs) ?_
    rintro e W1' ⟨rfl, eW⟩
    obtain rfl := eW.symm
    refine ⟨_, rfl, ?_⟩
    by_cases hnm : nameOk s
    case neg =>
      rw [decide_eq_false hnm]
      ((conv => whnf); (repeat ((first | (refine VL.cons ?_) | (refine VL.nil ?_) | (refine VC.cond ?_)); (conv => whnf))))
      ((repeat ((first | (refine VL.cons ?_) | (refine VL.nil ?_) | (refine VC.seqS rfl ?_) | (refine VC.region ?_) | (refine VC.ret ?_) | (refine VBool.t ?_)); (conv => whnf))))
      exact ⟨by rw [a2 hnm]; rfl, fin (a2 hnm) h1, hO1⟩
    rw [decide_eq_true hnm]
    rcases hst with ⟨hf, rfl⟩ | ⟨T0, f, T1, hT, hf, rfl⟩
    · have a3' := a3 hnm hf
      ((conv => whnf); (repeat ((first | (refine VL.cons ?_) | (refine VL.nil ?_) | (refine VC.cond ?_)); (conv => whnf))))
      ((repeat ((first | (refine VL.cons ?_) | (refine VL.nil ?_) | (refine VC.seqS rfl ?_) | (refine VC.region ?_) | (refine VC.cond ?_) | (refine VC.ret ?_) | (refine VC.skip ?_) | (refine VBool.t ?_) | (refine VBool.f ?_) | (refine VC.seq ?_)); (conv => whnf))))
      exact ⟨by rw [a3']; rfl, fin a3' h1, hO1⟩
    have a4' := a4 f hnm hf
    have hTl : T.length = T0.length + (T1.length + 1) := by rw [hT]; simp
    have hlen := len_used (T := T) (p := (s, f)) (tfind_mem hf)
    have hsu := h0.t.sure (s, f) (tfind_mem hf)
    simp only at hlen hsu
    ((conv => whnf); (repeat ((first | (refine VL.cons ?_) | (refine VL.nil ?_) | (refine VC.cond ?_)); (conv => whnf))))
    ((repeat ((first | (refine VL.cons ?_) | (refine VL.nil ?_) | (refine VC.seqS rfl ?_) | (refine VC.region ?_) | (refine VC.draw ?_) | (refine VC.cond ?_) | (refine VC.skip ?_) | (refine VBool.f ?_) | (refine VC.seq ?_)); (conv => whnf))))
    refine VDraw.seg (fun X => Below W1.heap.size W1 X) [([0, 1, 2, 3, 4, 5, 6], 7)] [8, 9] (by kernel_rfl) (by kernel_rfl) hS ?_
    (conv => whnf)
    (repeat ((first | (refine VRead.loadBS kB rfl rfl ?_) | (refine VQ.cons ?_) | (refine VQ.nil ?_) | (refine VG.cons ?_) | (refine VRead.lenS ?_) | (refine VRead.fld ?_)); (conv => whnf)))
    refine VCall.of (hrU _ hS) ?_
    rintro e W2 ⟨rfl, hB2⟩
    refine ⟨_, rfl, ?_⟩
    have hS2 : Below W1.heap.size W1 W2 := hS.trans hB2
    (conv => whnf)
    refine Keep.mk hS2 ?_
    (conv => whnf)
    by_cases hbig : K1.room < (used T : Int) + b.length
    · have a5 : DS.append ⟨K, T⟩ s b = (18, ⟨K1, T⟩) := by rw [a4']; unfold DS.put; exact if_pos hbig
      ((repeat ((first | (refine VL.cons ?_) | (refine VL.nil ?_) | (refine VC.seqS rfl ?_) | (refine VC.region ?_) | (refine VC.cond ?_) | (refine VC.ret ?_) | (refine VQ.cons ?_) | (refine VQ.nil ?_) | (refine VG.nil ?_) | (refine VBool.dT (by omega) ?_) | (refine VWrap.i64 (by omega) (by omega) ?_)); (conv => whnf))))
      exact ⟨by rw [a5]; rfl, fin a5 (h1.below hS2 (Nat.le_refl _)), hO1.trans (Out.new hS2)⟩
    have a5 : DS.append ⟨K, T⟩ s b = (0, ⟨K1, tset T s ⟨f.b ++ b, f.sure⟩⟩) := by rw [a4']; unfold DS.put; exact if_neg hbig
    have h2 := h1.below hS2 (Nat.le_refl _)
    have hr2 := (hr1.1.below hS2).more hS2.size
    obtain ⟨g, As, cs, Ap, cp, rfl, hgl, d0, d1, d2, hls, hlp, hcs, hcp⟩ := rCell h2.fr hT
    simp only at d1 d2 hls hlp hcs hcp
    have hT2 : Below W2.heap.size W2 (W2.drewN 1) := below_drewN (Below.refl _ _) 1
    have kB2 : ∀ X, Below W2.heap.size W2 X → Blk X r 47 #[.slice (some ⟨g, 0, none⟩) T.length c, .int .i64 K1.room, .int .i64 K1.calls, .bool K1.armed, .int .i64 K1.kind, .int .i64 K1.after, .bool K1.off] := fun X hX => h2.blk.below hX h2.blk.lt
    have kc : ∀ {j : Nat} {v : Value}, W2.cell? (((⟨g, 0, none⟩ : Addr).add (T0.length * 3)).add j) = some v → ∀ X, Below W2.heap.size W2 X → X.cell? (((⟨g, 0, none⟩ : Addr).add (T0.length * 3)).add j) = some v := fun h X hX => by rw [hX.cell (by rw [add_blk, add_blk]; exact hgl)]; exact h
    ((repeat ((first | (refine VC.draw ?_) | (refine VC.cond ?_) | (refine VC.skip ?_) | (refine VQ.cons ?_) | (refine VQ.nil ?_) | (refine VG.nil ?_) | (refine VBool.dF (by omega) ?_) | (refine VWrap.i64 (by omega) (by omega) ?_) | (refine VC.seq ?_)); (conv => whnf))))
    refine VDraw.lasts (fun X => Below W2.heap.size W2 X) [([0, 1, 2, 3, 4, 5, 6, 7, 8, 9, 10, 11, 12, 14], 13), ([], 15)] [16, 17] 18 (by kernel_rfl) (by kernel_rfl) hT2 ?_
    (conv => whnf)
    (repeat ((first | (refine VRead.loadBS kB2 rfl rfl ?_) | (refine VRead.atK (by omega) ?_) | (refine VRead.load (kc d2) ?_) | (refine VQ.cons ?_) | (refine VQ.nil ?_) | (refine VE.cons ?_) | (refine VRead.fld ?_)); (conv => whnf)))
    refine VSem.appO (Own.nil (W2.drewN 1) W2.heap.size) (hlp.below hT2 (Nat.le_refl _)).1 (by omega) (Nat.le_refl _) ?_
    intro A' k' W3 hO3 _ hB3
    rw [Nat.zero_add, List.nil_append] at hO3
    rw [Nat.zero_add]
    have hT3 := hT2.trans hB3
    (conv => whnf)
    refine Keep.mk hT3 ?_
    (conv => whnf)
    (repeat ((first | (refine VQ.nil ?_) | (refine VE.cons ?_)); (conv => whnf)))
    refine VSem.appO hO3 (hr2.below hT3) (by omega) hT3.size ?_
    intro A4 k4 W4 hO4 _ hB4
    have hT4 := hT3.trans hB4
    have h4 := h2.below hT4 (Nat.le_refl _)
    (conv => whnf)
    refine Keep.mk hT4 ?_
    (conv => whnf)
    (repeat ((first | (refine VRead.atK (by omega) ?_) | (refine VQ.cons ?_) | (refine VQ.nil ?_) | (refine VE.nil ?_) | (refine VRead.fld ?_)); (conv => whnf)))
    refine VUnit.storeRw h4.fr.row (j := T0.length * 3 + 2) (by rw [add0]; rfl) (by omega) rfl ?_
    intro W5 row5 hg5
    (conv => whnf)
    refine Keep.mk trivial ?_
    (conv => whnf)
    ((repeat ((first | (refine VL.cons ?_) | (refine VL.nil ?_) | (refine VC.seqS rfl ?_) | (refine VC.region ?_) | (refine VC.ret ?_)); (conv => whnf))))
    obtain ⟨xs5, h5⟩ := h4.pend hT hsu row5 hg5 hO4 (fun j hj => hU j (Nat.le_trans hO1.size (Nat.le_trans hS2.size hj)))
    refine ⟨by rw [a5]; rfl, fin (A := some ⟨g, 0, none⟩) (c := c) (xs := xs5) a5 ?_, hO1.trans ((Out.new hS2).trans ((Out.new hT4).trans (Out.grown hg5 (h4.fr.foot g rfl))))⟩
    simp only
    rw [hT, tset_old (by rw [← hT]; exact hris)]
    exact h5
  · have ea0 : ¬ (K.off = false ∧ nameOk s) → DS.append ⟨K, T⟩ s b = (e1, ⟨K1, T⟩) := fun h => by unfold DS.append; rw [hK, if_pos he]; simp only; rw [if_neg h]
    have ea1 : (K.off = false ∧ nameOk s) → DS.append ⟨K, T⟩ s b = (e1, match tfind T s with | some f => (DS.put ⟨K1, T⟩ s f (b.take (b.length / 2))).2 | none => ⟨K1, T⟩) := fun h => by unfold DS.append; rw [hK, if_pos he]; simp only; rw [if_pos h]; rfl
    have hq : ((n : Int) / 2) = ((n / 2 : Nat) : Int) := by omega
    cases hoff : K.off with
    | true =>
      replace ea0 := ea0 (by rw [hoff]; simp)
      ((conv => whnf); (repeat ((first | (refine VL.cons ?_) | (refine VL.nil ?_)); (conv => whnf))))
      ((repeat ((first | (refine VL.cons ?_) | (refine VL.nil ?_) | (refine VC.seqS rfl ?_) | (refine VC.region ?_) | (refine VC.cond ?_) | (refine VBool.nF (by omega) ?_) | (refine VRead.lenS ?_) | (refine VC.seq ?_)); (conv => whnf))))
      refine VRead.quo64 (by omega) (by omega) (by omega) ?_
      ((conv => whnf); (repeat ((first | (refine VL.cons ?_) | (refine VL.nil ?_)); (conv => whnf))))
      ((repeat ((first | (refine VC.draw ?_) | (refine VC.seq ?_)); (conv => whnf))))
      refine VDraw.seg (fun X => Below W1.heap.size W1 X) [([0, 1, 2, 3, 4, 5, 6, 7, 8, 9, 10, 11, 12], 13)] [14, 15, 16] (by kernel_rfl) (by kernel_rfl) hS ?_
      (conv => whnf)
      ((repeat ((first | (refine VL.cons ?_) | (refine VL.nil ?_) | (refine VC.seqS rfl ?_) | (refine VC.region ?_) | (refine VC.cond ?_) | (refine VC.ret ?_) | (refine VC.skip ?_) | (refine VQ.cons ?_) | (refine VQ.nil ?_) | (refine VG.nil ?_) | (refine VG.cons ?_) | (refine VBool.f ?_)); (conv => whnf))))
      exact ⟨by rw [ea0]; rfl, fin ea0 (h1.below hS (Nat.le_refl _)), hO1.trans (Out.new hS)⟩
    | false =>
      rcases hst with ⟨hf, rfl⟩ | ⟨T0, f, T1, hT, hf, rfl⟩
      · have ea : DS.append ⟨K, T⟩ s b = (e1, ⟨K1, T⟩) := by
          by_cases hnm : nameOk s
          · rw [ea1 ⟨hoff, hnm⟩, hf]
          · exact ea0 (fun h => hnm h.2)
        ((conv => whnf); (repeat ((first | (refine VL.cons ?_) | (refine VL.nil ?_)); (conv => whnf))))
        ((repeat ((first | (refine VL.cons ?_) | (refine VL.nil ?_) | (refine VC.seqS rfl ?_) | (refine VC.region ?_) | (refine VC.cond ?_) | (refine VBool.nF (by omega) ?_) | (refine VRead.lenS ?_) | (refine VC.seq ?_)); (conv => whnf))))
        refine VRead.quo64 (by omega) (by omega) (by omega) ?_
        ((conv => whnf); (repeat ((first | (refine VL.cons ?_) | (refine VL.nil ?_)); (conv => whnf))))
        ((repeat ((first | (refine VC.draw ?_) | (refine VC.seq ?_)); (conv => whnf))))
        refine VDraw.seg (fun X => Below W1.heap.size W1 X) [([0, 1, 2, 3, 4, 5, 6, 7, 8, 9, 10, 11, 12], 13)] [14, 15, 16] (by kernel_rfl) (by kernel_rfl) hS ?_
        (conv => whnf)
        ((repeat ((first | (refine VL.cons ?_) | (refine VL.nil ?_) | (refine VC.seqS rfl ?_) | (refine VC.region ?_) | (refine VC.cond ?_) | (refine VC.ret ?_) | (refine VC.skip ?_) | (refine VQ.cons ?_) | (refine VQ.nil ?_) | (refine VG.nil ?_) | (refine VG.cons ?_) | (refine VBool.t ?_) | (refine VBool.f ?_)); (conv => whnf))))
        exact ⟨by rw [ea]; rfl, fin ea (h1.below hS (Nat.le_refl _)), hO1.trans (Out.new hS)⟩
      have hnm : nameOk s := h0.t.names (s, f) (tfind_mem hf)
      replace ea1 := ea1 ⟨hoff, hnm⟩
      rw [hf] at ea1
      simp only at ea1
      have htl : (b.take (b.length / 2)).length = n / 2 := by rw [List.length_take]; omega
      have hTl : T.length = T0.length + (T1.length + 1) := by rw [hT]; simp
      have hlen := len_used (T := T) (p := (s, f)) (tfind_mem hf)
      have hsu := h0.t.sure (s, f) (tfind_mem hf)
      simp only at hlen hsu
      ((conv => whnf); (repeat ((first | (refine VL.cons ?_) | (refine VL.nil ?_)); (conv => whnf))))
      ((repeat ((first | (refine VL.cons ?_) | (refine VL.nil ?_) | (refine VC.seqS rfl ?_) | (refine VC.region ?_) | (refine VC.cond ?_) | (refine VBool.nF (by omega) ?_) | (refine VRead.lenS ?_) | (refine VC.seq ?_)); (conv => whnf))))
      refine VRead.quo64 (by omega) (by omega) (by omega) ?_
      rw [hq]
      ((conv => whnf); (repeat ((first | (refine VL.cons ?_) | (refine VL.nil ?_)); (conv => whnf))))
      ((repeat ((first | (refine VC.draw ?_) | (refine VC.seq ?_)); (conv => whnf))))
      refine VDraw.seg (fun X => Below W1.heap.size W1 X) [([0, 1, 2, 3, 4, 5, 6, 7, 8, 9, 10, 11, 12], 13)] [14, 15, 16] (by kernel_rfl) (by kernel_rfl) hS ?_
      (conv => whnf)
      (repeat ((first | (refine VRead.loadBS kB rfl rfl ?_) | (refine VQ.cons ?_) | (refine VQ.nil ?_) | (refine VG.cons ?_) | (refine VBool.t ?_) | (refine VRead.fld ?_)); (conv => whnf)))
      refine VCall.of (hrU _ hS) ?_
      rintro e W2 ⟨rfl, hB2⟩
      refine ⟨_, rfl, ?_⟩
      have hS2 : Below W1.heap.size W1 W2 := hS.trans hB2
      (conv => whnf)
      refine Keep.mk hS2 ?_
      (conv => whnf)
      by_cases hbig : K1.room < (used T : Int) + (b.take (b.length / 2)).length
      · have a5 : DS.append ⟨K, T⟩ s b = (e1, ⟨K1, T⟩) := by rw [ea1]; unfold DS.put; rw [if_pos hbig]
        ((repeat ((first | (refine VL.cons ?_) | (refine VL.nil ?_) | (refine VC.seqS rfl ?_) | (refine VC.region ?_) | (refine VC.cond ?_) | (refine VC.ret ?_) | (refine VC.skip ?_) | (refine VQ.cons ?_) | (refine VQ.nil ?_) | (refine VG.nil ?_) | (refine VBool.t ?_) | (refine VBool.dF (by omega) ?_) | (refine VWrap.i64 (by omega) (by omega) ?_)); (conv => whnf))))
        exact ⟨by rw [a5]; rfl, fin a5 (h1.below hS2 (Nat.le_refl _)), hO1.trans (Out.new hS2)⟩
      have a5 : DS.append ⟨K, T⟩ s b = (e1, ⟨K1, tset T s ⟨f.b ++ b.take (b.length / 2), f.sure⟩⟩) := by rw [ea1]; unfold DS.put; rw [if_neg hbig]
      have h2 := h1.below hS2 (Nat.le_refl _)
      have hr2 := (hr1.1.below hS2).more hS2.size
      obtain ⟨g, As, cs, Ap, cp, rfl, hgl, d0, d1, d2, hls, hlp, hcs, hcp⟩ := rCell h2.fr hT
      simp only at d1 d2 hls hlp hcs hcp
      have hT2 : Below W2.heap.size W2 (W2.drewN 1) := below_drewN (Below.refl _ _) 1
      have kB2 : ∀ X, Below W2.heap.size W2 X → Blk X r 47 #[.slice (some ⟨g, 0, none⟩) T.length c, .int .i64 K1.room, .int .i64 K1.calls, .bool K1.armed, .int .i64 K1.kind, .int .i64 K1.after, .bool K1.off] := fun X hX => h2.blk.below hX h2.blk.lt
      have kc : ∀ {j : Nat} {v : Value}, W2.cell? (((⟨g, 0, none⟩ : Addr).add (T0.length * 3)).add j) = some v → ∀ X, Below W2.heap.size W2 X → X.cell? (((⟨g, 0, none⟩ : Addr).add (T0.length * 3)).add j) = some v := fun h X hX => by rw [hX.cell (by rw [add_blk, add_blk]; exact hgl)]; exact h
      ((repeat ((first | (refine VC.draw ?_) | (refine VC.cond ?_) | (refine VQ.cons ?_) | (refine VQ.nil ?_) | (refine VG.nil ?_) | (refine VBool.t ?_) | (refine VBool.dT (by omega) ?_) | (refine VWrap.i64 (by omega) (by omega) ?_)); (conv => whnf))))
      refine VDraw.lasts (fun X => Below W2.heap.size W2 X) [([0, 1, 2, 3, 4, 5, 6, 7, 8, 9, 10, 11, 12, 14, 15, 16], 13), ([], 17)] [18, 19] 20 (by kernel_rfl) (by kernel_rfl) hT2 ?_
      (conv => whnf)
      (repeat ((first | (refine VRead.loadBS kB2 rfl rfl ?_) | (refine VRead.atK (by omega) ?_) | (refine VRead.load (kc d2) ?_) | (refine VQ.cons ?_) | (refine VE.cons ?_) | (refine VRead.fld ?_)); (conv => whnf)))
      refine VRead.cutRH (n / 2) hr2 rfl (by omega) hnk ?_
      intro hrh
      (conv => whnf)
      ((repeat ((first | (refine VQ.nil ?_)); (conv => whnf))))
      refine VSem.appO (Own.nil (W2.drewN 1) W2.heap.size) (hlp.below hT2 (Nat.le_refl _)).1 (by omega) (Nat.le_refl _) ?_
      intro A' k' W3 hO3 _ hB3
      rw [Nat.zero_add, List.nil_append] at hO3
      rw [Nat.zero_add]
      have hT3 := hT2.trans hB3
      (conv => whnf)
      refine Keep.mk hT3 ?_
      (conv => whnf)
      (repeat ((first | (refine VQ.nil ?_) | (refine VE.cons ?_)); (conv => whnf)))
      refine VSem.appO hO3 (hrh.below hT3) (by omega) hT3.size ?_
      intro A4 k4 W4 hO4 _ hB4
      rw [show n / 2 = b.length / 2 by rw [hbl]] at hO4 ⊢
      have hT4 := hT3.trans hB4
      have h4 := h2.below hT4 (Nat.le_refl _)
      (conv => whnf)
      refine Keep.mk hT4 ?_
      (conv => whnf)
      (repeat ((first | (refine VRead.atK (by omega) ?_) | (refine VQ.cons ?_) | (refine VQ.nil ?_) | (refine VE.nil ?_) | (refine VRead.fld ?_)); (conv => whnf)))
      refine VUnit.storeRw h4.fr.row (j := T0.length * 3 + 2) (by rw [add0]; rfl) (by omega) rfl ?_
      intro W5 row5 hg5
      (conv => whnf)
      refine Keep.mk trivial ?_
      (conv => whnf)
      ((repeat ((first | (refine VL.cons ?_) | (refine VL.nil ?_) | (refine VC.seqS rfl ?_) | (refine VC.region ?_) | (refine VC.ret ?_)); (conv => whnf))))
      obtain ⟨xs5, h5⟩ := h4.pend hT hsu row5 hg5 hO4 (fun j hj => hU j (Nat.le_trans hO1.size (Nat.le_trans hS2.size hj)))
      refine ⟨by rw [a5]; rfl, fin (A := some ⟨g, 0, none⟩) (c := c) (xs := xs5) a5 ?_, hO1.trans ((Out.new hS2).trans ((Out.new hT4).trans (Out.grown hg5 (h4.fr.foot g rfl))))⟩
      simp only
      rw [hT, tset_old (by rw [← hT]; exact hris)]
      exact h5
end
end Go.Proofs.YtebeidnmplnlpaaGreat
end

section
set_option maxRecDepth 10000
namespace Go.Proofs.YtebeidnmplnlpaaGreat
set_option linter.unusedVariables false
open Go.RowKit

section
variable {U : Foot} {r : Nat}
end
end Go.Proofs.YtebeidnmplnlpaaGreat
end

section
set_option maxRecDepth 10000
namespace Go.Proofs.YtebeidnmplnlpaaGreat
set_option linter.unusedVariables false
open Go.RowKit

def Two (W : World) (B d r : Nat) (S R : DS) : Prop :=
  ∃ U V : Foot, Disk W U d S ∧ RefD W V r R ∧ (∀ j, U j → B ≤ j ∧ j < W.heap.size) ∧ (∀ j, V j → B ≤ j ∧ j < W.heap.size) ∧ ∀ j, U j → ¬ V j
/-- .. the second one off some blocks -/
def TwoE (W : World) (B d r : Nat) (S R : DS) (E : Foot) : Prop :=
  ∃ U V : Foot, Disk W U d S ∧ RefD W V r R ∧ (∀ j, U j → B ≤ j ∧ j < W.heap.size) ∧ (∀ j, V j → B ≤ j ∧ j < W.heap.size) ∧ (∀ j, U j → ¬ V j) ∧ ∀ j, V j → ¬ E j
theorem TwoE.two {W : World} {B d r : Nat} {S R : DS} {E : Foot} (h : TwoE W B d r S R E) : Two W B d r S R := by
  obtain ⟨U, V, h1, h2, h3, h4, h5, _⟩ := h
  exact ⟨U, V, h1, h2, h3, h4, h5⟩
section
variable {W W3 W4 : World} {B d r : Nat} {S R : DS}
theorem Two.below {C : Nat} (h : Two W B d r S R) (hb : Below C W W3) (hC : W.heap.size ≤ C) : Two W3 B d r S R := by
  obtain ⟨U, V, h1, h2, h3, h4, h5⟩ := h
  exact ⟨U, V, h1.below hb hC, h2.below hb hC, fun j hj => ⟨(h3 j hj).1, Nat.lt_of_lt_of_le (h3 j hj).2 hb.size⟩, fun j hj => ⟨(h4 j hj).1, Nat.lt_of_lt_of_le (h4 j hj).2 hb.size⟩, h5⟩
theorem Two.left (h : Two W3 B d r S R) (hb : Below W3.heap.size W3 W4) (hB : B ≤ W3.heap.size) : ∃ U : Foot, Disk W4 U d S ∧ Up U W4 ∧ (∀ j, U j → B ≤ j ∧ (j < W3.heap.size ∨ W4.heap.size ≤ j)) ∧
    ∀ W' S' W'', Disk W' U d S' → Out U W4 W' → W'.heap.size ≤ W''.heap.size → (∀ j, j < W'.heap.size → (j < W3.heap.size ∨ W4.heap.size ≤ j) → W''.heap[j]? = W'.heap[j]?) → TwoE W'' B d r S' R (fun j => W3.heap.size ≤ j ∧ j < W4.heap.size) := by
  obtain ⟨U, V, h1, h2, h3, h4, h5⟩ := h
  have hs := hb.size
  refine ⟨fun j => U j ∨ W4.heap.size ≤ j, (h1.more (fun j _ hj => .inl hj)).below hb (Nat.le_refl _), fun j hj => .inr hj, fun j hj => ?_, fun W' S' W'' k1 k2 k3 k4 => ?_⟩
  · rcases hj with hj | hj
    · have := h3 j hj; exact ⟨this.1, .inl this.2⟩
    · exact ⟨by omega, .inr hj⟩
  · have hs' := k2.size
    refine ⟨fun j => (U j ∨ W4.heap.size ≤ j) ∧ j < W'.heap.size, V, (k1.more (V := fun j => (U j ∨ W4.heap.size ≤ j) ∧ j < W'.heap.size) (fun j hj hu => ⟨hu, hj⟩)).stay k3 (fun j hj hu => k4 j hj ?_), h2.stay (by omega) (fun j hj hv => ?_), fun j hj => ?_, fun j hj => ?_, fun j hj hv => ?_, fun j hj he => by have := (h4 j hj).2; omega⟩
    · rcases hu.1 with hu | hu
      · exact .inl (h3 j hu).2
      · exact .inr hu
    · have hu : ¬ (U j ∨ W4.heap.size ≤ j) := fun h => by
        rcases h with h | h
        · exact h5 j h hv
        · omega
      rw [k4 j (by omega) (.inl hj), k2.block j (by omega) hu, hb.block j hj]
    · obtain ⟨hu, hl⟩ := hj
      rcases hu with hu | hu
      · exact ⟨(h3 j hu).1, by omega⟩
      · exact ⟨by omega, by omega⟩
    · have := h4 j hj; exact ⟨this.1, by omega⟩
    · rcases hj.1 with hu | hu
      · exact h5 j hu hv
      · have := (h4 j hv).2; omega
theorem Two.right (h : Two W3 B d r S R) (hB : B ≤ W3.heap.size) : ∃ V : Foot, RefD W3 V r R ∧ Up V W3 ∧ (∀ j, V j → B ≤ j) ∧ ∀ W' R', RefD W' V r R' → Out V W3 W' → Two W' B d r S R' := by
  obtain ⟨U, V, h1, h2, h3, h4, h5⟩ := h
  refine ⟨fun j => V j ∨ W3.heap.size ≤ j, h2.more (fun j _ hj => .inl hj), fun j hj => .inr hj, fun j hj => ?_, fun W' R' k1 k2 => ?_⟩
  · rcases hj with hj | hj
    · exact (h4 j hj).1
    · omega
  · have hs' := k2.size
    refine ⟨U, fun j => (V j ∨ W3.heap.size ≤ j) ∧ j < W'.heap.size, h1.stay hs' (fun j hj hu => k2.block j hj (fun h => ?_)), k1.more (fun j hj hu => ⟨hu, hj⟩), fun j hj => ⟨(h3 j hj).1, by have := (h3 j hj).2; omega⟩, fun j hj => ?_, fun j hu hj => ?_⟩
    · rcases h with h | h
      · exact h5 j hu h
      · omega
    · obtain ⟨hu, hl⟩ := hj
      rcases hu with hu | hu
      · exact ⟨(h4 j hu).1, hl⟩
      · exact ⟨by omega, hl⟩
    · rcases hj.1 with h | h
      · exact h5 j hu h
      · have := (h3 j hu).2; omega
theorem TwoE.right {E : Foot} (h : TwoE W3 B d r S R E) (hB : B ≤ W3.heap.size) (hE : ∀ j, E j → j < W3.heap.size) : ∃ V : Foot, RefD W3 V r R ∧ Up V W3 ∧ (∀ j, V j → B ≤ j) ∧ (∀ j, V j → ¬ E j) ∧ ∀ W' R', RefD W' V r R' → Out V W3 W' → Two W' B d r S R' := by
  obtain ⟨U, V, h1, h2, h3, h4, h5, h6⟩ := h
  refine ⟨fun j => V j ∨ W3.heap.size ≤ j, h2.more (fun j _ hj => .inl hj), fun j hj => .inr hj, fun j hj => ?_, fun j hj he => ?_, fun W' R' k1 k2 => ?_⟩
  · rcases hj with hj | hj
    · exact (h4 j hj).1
    · omega
  · rcases hj with hj | hj
    · exact h6 j hj he
    · have := hE j he; omega
  · have hs' := k2.size
    refine ⟨U, fun j => (V j ∨ W3.heap.size ≤ j) ∧ j < W'.heap.size, h1.stay hs' (fun j hj hu => k2.block j hj (fun h => ?_)), k1.more (fun j hj hu => ⟨hu, hj⟩), fun j hj => ⟨(h3 j hj).1, by have := (h3 j hj).2; omega⟩, fun j hj => ?_, fun j hu hj => ?_⟩
    · rcases h with h | h
      · exact h5 j hu h
      · omega
    · obtain ⟨hu, hl⟩ := hj
      rcases hu with hu | hu
      · exact ⟨(h4 j hu).1, hl⟩
      · exact ⟨by omega, hl⟩
    · rcases hj.1 with h | h
      · exact h5 j hu h
      · have := (h3 j hu).2; omega
end
def armK (b : Int) : Int := ([18, 19, 19, 1] : List Int).getD (b % 4).toNat 1
def DS.step (S : DS) (o : Op17) : Int × DS :=
  if o.kind % 8 = 0 then S.create (nm17 o.a) else if o.kind % 8 = 1 ∨ o.kind % 8 = 2 then S.append (nm17 o.a) o.data else if o.kind % 8 = 3 then S.sync (nm17 o.a)
  else if o.kind % 8 = 4 then S.rename (nm17 o.a) (nm17 o.b) else if o.kind % 8 = 5 then S.remove (nm17 o.a) else if o.kind % 8 = 6 then S.arm (armK o.b) o.n else (0, S.crash o.picks)
end Go.Proofs.YtebeidnmplnlpaaGreat
end

section
set_option maxRecDepth 10000
namespace Go.Proofs.YtebeidnmplnlpaaGreat
set_option linter.unusedVariables false
open Go.RowKit

structure Rsk (W : World) (U : Foot) (r : Nat) (S : DS) : Prop where
  ref : RefD W U r S
  lt : ∀ j, U j → j < W.heap.size
section
variable {W W' : World} {U V : Foot} {r : Nat} {S S' : DS}
theorem Rsk.wf (h : Rsk W U r S) : DWf S := h.ref.wf
theorem Rsk.below (h : Rsk W U r S) (hb : Below W.heap.size W W') : Rsk W' U r S := ⟨h.ref.below hb (Nat.le_refl _), fun j hj => Nat.lt_of_lt_of_le (h.lt j hj) hb.size⟩
theorem Rsk.apart {V' : Foot} (h : Rsk W U r S) (hs : Step W V W' V') (hn : ∀ j, U j → ¬ V j) : Rsk W' U r S ∧ ∀ j, U j → ¬ V' j :=
  ⟨⟨h.ref.stay hs.size (fun j hj hu => hs.out.block j hj (hn j hu)), fun j hj => Nat.lt_of_lt_of_le (h.lt j hj) hs.size⟩, fun j hj hv => by
    rcases hs.sub j hv with h' | h'
    · exact hn j hj h'
    · have := h.lt j hj; omega⟩
theorem Rsk.more (h : Rsk W U r S) : RefD W (grow U W) r S := h.ref.more (fun j _ hj => .inl hj)
theorem Rsk.op (h : RefD W' (grow U W) r S') (hO : Out (grow U W) W W') : ∃ U', Rsk W' U' r S' ∧ Step W U W' U' := by
  refine ⟨fun j => grow U W j ∧ j < W'.heap.size, ⟨h.more (fun j hj hu => ⟨hu, hj⟩), fun j hj => hj.2⟩, ⟨⟨hO.os, hO.tape, hO.output, hO.size, fun j hj hu => hO.block j hj (fun h' => ?_)⟩, fun j hj => hj.1⟩⟩
  rcases h' with h' | h'
  · exact hu h'
  · omega
end
theorem pNew (W : World) (room : Int) : Calls Tryz.prog 5 #[.int .i64 room] W fun e W' => ∃ r U, e = .returned (.pointer (some ⟨r, 0, none⟩)) ∧ Rsk W' U r (DS.new room) ∧ (∀ j, U j → W.heap.size ≤ j) ∧ Below W.heap.size W W' := by
  refine (rdNew_any W room).mono ?_
  rintro e W' ⟨r, rfl, h, hB⟩
  exact ⟨r, fun j => W.heap.size ≤ j ∧ j < W'.heap.size, rfl, ⟨h.more (fun j h1 h2 => ⟨h2, h1⟩), fun j hj => hj.2⟩, fun j hj => hj.1, hB⟩
section
variable (W : World) (U : Foot) (r : Nat) (S : DS)
theorem pCreate (s : List UInt8) (h : Rsk W U r S) (hc : S.k.calls < 1000000) (hs : s.length ≤ 1000) :
    Calls Tryz.prog 10 #[.pointer (some ⟨r, 0, none⟩), .string (txt s)] W fun e W' => e = .returned (.int .i64 (S.create s).1) ∧ ∃ U', Rsk W' U' r (S.create s).2 ∧ Step W U W' U' := by
  refine (rCreate_any W S s h.more hc hs (grow_up U W)).mono ?_
  rintro e W' ⟨rfl, h2, hO⟩
  exact ⟨rfl, Rsk.op h2 hO⟩
theorem pAppend (s : List UInt8) (n k : Nat) (A : Option Addr) (b : List UInt8) (h : Rsk W U r S) (hc : S.k.calls < 1000000) (hs : s.length ≤ 1000) (hr : Src W (grow U W) A n b) (hn : n ≤ 140737488351232) (hnk : n ≤ k) :
    Calls Tryz.prog 13 #[.pointer (some ⟨r, 0, none⟩), .string (txt s), .slice A n k] W fun e W' => e = .returned (.int .i64 (S.append s b).1) ∧ ∃ U', Rsk W' U' r (S.append s b).2 ∧ Step W U W' U' := by
  refine (rAppend_any W S s n k A b h.more hc hs hr hn hnk (grow_up U W)).mono ?_
  rintro e W' ⟨rfl, h2, hO⟩
  exact ⟨rfl, Rsk.op h2 hO⟩
theorem pSync (s : List UInt8) (h : Rsk W U r S) (hc : S.k.calls < 1000000) (hs : s.length ≤ 1000) :
    Calls Tryz.prog 15 #[.pointer (some ⟨r, 0, none⟩), .string (txt s)] W fun e W' => e = .returned (.int .i64 (S.sync s).1) ∧ ∃ U', Rsk W' U' r (S.sync s).2 ∧ Step W U W' U' := by
  refine (rSync_any W S s h.more hc hs (grow_up U W)).mono ?_
  rintro e W' ⟨rfl, h2, hO⟩
  exact ⟨rfl, Rsk.op h2 hO⟩
theorem pRemove (s : List UInt8) (h : Rsk W U r S) (hc : S.k.calls < 1000000) (hs : s.length ≤ 1000) :
    Calls Tryz.prog 56 #[.pointer (some ⟨r, 0, none⟩), .string (txt s)] W fun e W' => e = .returned (.int .i64 (S.remove s).1) ∧ ∃ U', Rsk W' U' r (S.remove s).2 ∧ Step W U W' U' := by
  refine (rRemove_any W S s h.more hc hs (grow_up U W)).mono ?_
  rintro e W' ⟨rfl, h2, hO⟩
  exact ⟨rfl, Rsk.op h2 hO⟩
theorem pRename (s t : List UInt8) (h : Rsk W U r S) (hc : S.k.calls < 1000000) (hs : s.length ≤ 1000) (ht : t.length ≤ 1000) :
    Calls Tryz.prog 82 #[.pointer (some ⟨r, 0, none⟩), .string (txt s), .string (txt t)] W fun e W' => e = .returned (.int .i64 (S.rename s t).1) ∧ ∃ U', Rsk W' U' r (S.rename s t).2 ∧ Step W U W' U' := by
  refine (rRename_any W S s t h.more hc hs ht (grow_up U W)).mono ?_
  rintro e W' ⟨rfl, h2, hO⟩
  exact ⟨rfl, Rsk.op h2 hO⟩
theorem pList (h : Rsk W U r S) :
    Calls Tryz.prog 38 #[.pointer (some ⟨r, 0, none⟩)] W fun e W' => ∃ A k, e = .returned (.slice A S.t.length k) ∧ W'.ownsRow W.heap.size 9 1 (.slice A S.t.length k) S.t.length ((S.t.map (·.1)).map encStr) ∧ Below W.heap.size W W' := rList_any W h.ref
theorem pRead (s : List UInt8) (h : Rsk W U r S) :
    Calls Tryz.prog 40 #[.pointer (some ⟨r, 0, none⟩), .string (txt s)] W fun e W' => ∃ v, e = .returned v ∧ readR W' W.heap.size S.t s v ∧ Below W.heap.size W W' := rRead_any W s h.ref
end
end Go.Proofs.YtebeidnmplnlpaaGreat
end

section
set_option maxRecDepth 10000
namespace Go.Proofs.YtebeidnmplnlpaaGreat
set_option linter.unusedVariables false
open Go.RowKit

abbrev Sn := Nat × Int × List UInt8
def SnV (W : World) (B : Nat) (o : Option Sn) (i t : Int) (v : Value) : Prop := match o with
  | some y => i = (y.1 : Int) ∧ 1 ≤ y.1 ∧ y.1 ≤ 1099511627776 ∧ t = y.2.1 ∧ ∃ A c, v = .slice A y.2.2.length c ∧ Own W B (.slice A y.2.2.length c) y.2.2.length y.2.2
  | none => i = 0 ∧ t = 0 ∧ v = .slice none 0 0
theorem SnV.below {W W' : World} {B : Nat} {o : Option Sn} {i t : Int} {v : Value} (h : SnV W B o i t v) (hb : Below W.heap.size W W') : SnV W' B o i t v := by
  unfold SnV at *
  cases o with
  | none => exact h
  | some y =>
    obtain ⟨h1, h2, h3, h4, A, c, h5, h6⟩ := h
    exact ⟨h1, h2, h3, h4, A, c, h5, rows_below h6 hb (Nat.le_refl _)⟩
end Go.Proofs.YtebeidnmplnlpaaGreat
end

section
set_option maxRecDepth 10000
namespace Go.Proofs.YtebeidnmplnlpaaGreat
set_option linter.unusedVariables false
open Go.RowKit

/-! ### what is in a file -/
def fullF (b : List UInt8) : Fl := ⟨b, b.length⟩
theorem chunks_ind {P : List UInt8 → Prop} (h0 : P []) (h1 : ∀ l, l ≠ [] → P (l.drop 1000) → P l) : ∀ (n : Nat) (l : List UInt8), l.length ≤ n → P l
  | 0, l, h => by
    obtain rfl : l = [] := List.eq_nil_of_length_eq_zero (by omega)
    exact h0
  | n + 1, l, h => by
    by_cases hl : l = []
    · subst hl; exact h0
    · have : 0 < l.length := List.length_pos_iff.2 hl
      exact h1 l hl (chunks_ind h0 h1 n _ (by rw [List.length_drop]; omega))
theorem chunks_ok (l : List UInt8) : Frame.Ok1 (chunks l) :=
  chunks_ind (P := fun l => Frame.Ok1 (chunks l)) (fun b hb => by simp [chunks_nil] at hb) (fun l hl ih b hb => by
    have : 0 < l.length := List.length_pos_iff.2 hl
    rw [chunks_cons hl] at hb
    rcases List.mem_cons.1 hb with rfl | hb
    · rw [List.length_take]; omega
    · exact ih b hb) l.length l (Nat.le_refl _)
theorem intS_put' {v : Int} (h : -9223372036854775808 ≤ v ∧ v ≤ 9223372036854775807) (t : List UInt8) : Wire.intS (some (Wire.int v ++ t)) = (v, some t) := by
  unfold Wire.intS
  simp only
  rw [Wire.getInt_int h]
theorem hd_read {i t : Int} {n : Nat} (hi : -9223372036854775808 ≤ i ∧ i ≤ 9223372036854775807) (ht : -9223372036854775808 ≤ t ∧ t ≤ 9223372036854775807) (hn : n ≤ 9223372036854775807) :
    hA (hdB i t n) = i ∧ hT (hdB i t n) = t ∧ hN (hdB i t n) = (n : Int) ∧ hE (hdB i t n) = true := by
  have e0 : hdB i t n = Wire.int i ++ (Wire.int t ++ (Wire.int (n : Int) ++ [])) := by unfold hdB; simp
  have e1 : Wire.intS (some (hdB i t n)) = (i, some (Wire.int t ++ (Wire.int (n : Int) ++ []))) := by rw [e0]; exact intS_put' hi _
  have e2 : Wire.intS (some (Wire.int t ++ (Wire.int (n : Int) ++ []))) = (t, some (Wire.int (n : Int) ++ [])) := intS_put' ht _
  have e3 : Wire.intS (some (Wire.int (n : Int) ++ [])) = ((n : Int), some []) := intS_put' (by omega) _
  refine ⟨?_, ?_, ?_, ?_⟩
  · unfold hA; rw [e1]
  · unfold hT; rw [e1]; simp only; rw [e2]
  · unfold hN; rw [e1]; simp only; rw [e2]; simp only; rw [e3]
  · unfold hE; rw [e1]; simp only; rw [e2]; simp only; rw [e3]; rfl
theorem hd_len (i t : Int) (n : Nat) : 3 ≤ (hdB i t n).length ∧ (hdB i t n).length ≤ 30 := by
  have a1 := Wire.int_len i
  have a2 := Wire.int_len t
  have a3 := Wire.int_len (n : Int)
  unfold hdB
  simp only [List.length_append]
  omega
structure SvOk (i t : Int) (data : List UInt8) : Prop where
  i1 : 1 ≤ i
  i2 : i ≤ 1099511627776
  t1 : 1 ≤ t
  t2 : t ≤ 1099511627776
  n1 : 1 ≤ data.length
  n2 : data.length ≤ 1048576
theorem SvOk.hd {i t : Int} {data : List UInt8} (h : SvOk i t data) : HdOk (hdB i t data.length) i := by
  obtain ⟨h1, h2, h3, h4, h5, h6⟩ := h
  obtain ⟨e1, e2, e3, e4⟩ := hd_read (i := i) (t := t) (n := data.length) (by omega) (by omega) (by omega)
  exact ⟨e4, e1, by rw [e2]; exact h3, by rw [e2]; exact h4, by rw [e3]; omega, by rw [e3]; omega⟩
theorem SvOk.bs {i t : Int} {data : List UInt8} (h : SvOk i t data) : Frame.Ok1 (hdB i t data.length :: chunks data) := fun b hb => by
  rcases List.mem_cons.1 hb with rfl | hb
  · have := hd_len i t data.length; omega
  · exact chunks_ok data b hb
/-! ### tables of few files -/
section
variable {T : PT} {s : List UInt8} {f g : Fl}
theorem tset_cons (j : List UInt8) (y : Fl) (r : PT) (i : List UInt8) (x : Fl) : tset ((j, y) :: r) i x = if i < j then (i, x) :: (j, y) :: r else if j = i then (i, x) :: r else (j, y) :: tset r i x := rfl
theorem tset_nil (i : List UInt8) (x : Fl) : tset ([] : PT) i x = [(i, x)] := rfl
theorem tset_tset : ∀ {T : PT}, tset (tset T s f) s g = tset T s g
  | [] => by rw [tset_nil, tset_cons, if_neg (List.lt_irrefl _), if_pos rfl, tset_nil]
  | (j, y) :: T => by
    rw [tset_cons, tset_cons]
    by_cases h1 : s < j
    · rw [if_pos h1, if_pos h1, tset_cons, if_neg (List.lt_irrefl _), if_pos rfl]
    · rw [if_neg h1, if_neg h1]
      by_cases h2 : j = s
      · rw [if_pos h2, if_pos h2, tset_cons, if_neg (List.lt_irrefl _), if_pos rfl]
      · rw [if_neg h2, if_neg h2, tset_cons, if_neg h1, if_neg h2, tset_tset]
theorem tset_last (hT : ∀ p ∈ T, p.1 < s) : tset T s f = T ++ [(s, f)] := by
  induction T with
  | nil => rfl
  | cons q T ih =>
    obtain ⟨j, y⟩ := q
    have hq : j < s := hT (j, y) (by simp)
    rw [tset_cons, if_neg (fun h => List.lt_irrefl _ (List.lt_trans hq h)), if_neg (fun e => by subst e; exact List.lt_irrefl _ hq), ih (fun p hp => hT p (List.mem_cons_of_mem _ hp))]
    rfl
theorem tfind_last (hT : ∀ p ∈ T, p.1 < s) : tfind (T ++ [(s, f)]) s = some f := by
  induction T with
  | nil => simp [tfind]
  | cons q T ih =>
    obtain ⟨j, y⟩ := q
    have hq : j < s := hT (j, y) (by simp)
    rw [List.cons_append]
    unfold tfind
    rw [if_neg (fun e => by subst e; exact List.lt_irrefl _ hq)]
    exact ih (fun p hp => hT p (List.mem_cons_of_mem _ hp))
theorem tdel_low (hT : ∀ p ∈ T, p.1 < s) : tdel T s = T := tdel_not (fun h => by
  obtain ⟨p, hp, rfl⟩ := List.mem_map.1 h
  exact List.lt_irrefl _ (hT p hp))
theorem tdel_last (hT : ∀ p ∈ T, p.1 < s) : tdel (T ++ [(s, f)]) s = T := by
  unfold tdel
  rw [List.filter_append]
  have h1 := tdel_low hT
  unfold tdel at h1
  rw [h1]
  simp
theorem tset_lastA (hT : ∀ p ∈ T, p.1 < s) : tset (T ++ [(s, f)]) s g = T ++ [(s, g)] := by rw [← tset_last (f := f) hT, tset_tset, tset_last hT]
end
end Go.Proofs.YtebeidnmplnlpaaGreat
end

section
set_option maxRecDepth 10000
namespace Go.Proofs.YtebeidnmplnlpaaGreat
set_option linter.unusedVariables false
open Go.RowKit

section
variable {S : DS} {s u b : List UInt8} {f : Fl}
end
theorem clear_cons (S : DS) (pre nm x : List UInt8) (r : List (List UInt8)) : S.clear pre nm (x :: r) = if isPre pre x = true ∧ x ≠ nm then andT (S.remove x) fun S' => DS.clear S' pre nm r else DS.clear S pre nm r := rfl
/-! ### a disk that nothing ails -/
theorem used_append (A B : PT) : used (A ++ B) = used A + used B := by
  induction A with
  | nil => simp [used]
  | cons p A ih => rw [List.cons_append, show used (p :: (A ++ B)) = p.2.b.length + used (A ++ B) from rfl, show used (p :: A) = p.2.b.length + used A from rfl, ih]; omega
end Go.Proofs.YtebeidnmplnlpaaGreat
end

section
set_option maxRecDepth 10000
namespace Go.Proofs.YtebeidnmplnlpaaGreat
set_option linter.unusedVariables false
open Go.RowKit

def entBs (i : Int) : List En → List (List UInt8)
  | [] => []
  | e :: r => entB i e :: entBs (i + 1) r
theorem written_laid (es : List En) (i : Int) : written i es = Frame.laid (entBs i es) := by
  induction es generalizing i with
  | nil => rfl
  | cons e es ih =>
    rw [written_cons, ih, show entBs i (e :: es) = entB i e :: entBs (i + 1) es from rfl, Frame.laid_cons]
theorem entBs_ok {es : List En} (h : ∀ e ∈ es, mayE e) (i : Int) : Frame.Ok1 (entBs i es) := by
  induction es generalizing i with
  | nil => intro b hb; simp [entBs] at hb
  | cons e es ih =>
    intro b hb
    unfold entBs at hb
    rcases List.mem_cons.1 hb with rfl | hb
    · have h1 := entB_len i e
      have h2 := (h e (by simp)).2.2
      omega
    · exact ih (fun x hx => h x (List.mem_cons_of_mem _ hx)) (i + 1) b hb
def inI (v : Int) : Prop := -9223372036854775808 ≤ v ∧ v ≤ 9223372036854775807
theorem boolS_put (t : Bool) (r : List UInt8) : Wire.boolS (some (Wire.bool t ++ r)) = (t, some r) := by
  cases t <;> simp [Wire.boolS, Wire.bool]
theorem takes_first {k : Kp} {a b : Int} (ha : inR a 1099511627776) (hb : inR b 1099511627776) : takes k (recB 0 [a, b]) true = some { k with base := a, bterm := b } := by
  obtain ⟨a1, a2⟩ := id ha
  obtain ⟨b1, b2⟩ := id hb
  have e0 : numB [a, b] = Wire.int a ++ (Wire.int b ++ []) := by simp [numB]
  have e1 : Wire.intS (some (numB [a, b])) = (a, some (Wire.int b ++ [])) := by rw [e0]; exact intS_put' ⟨by omega, by omega⟩ _
  have e2 : Wire.intS (some (Wire.int b ++ [])) = (b, some []) := intS_put' ⟨by omega, by omega⟩ _
  unfold takes recB
  simp only
  rw [if_pos (by decide), if_pos (by decide)]
  unfold tk0
  rw [e1]; simp only; rw [e2]; simp only
  rw [if_pos ⟨rfl, ha, hb⟩]
theorem takes_hard {k : Kp} {a b : Int} (ha : inR a 1099511627776) (hb : inR b 7) : takes k (recB 1 [a, b]) false = some { k with term := a, vote := b } := by
  obtain ⟨a1, a2⟩ := id ha
  obtain ⟨b1, b2⟩ := id hb
  have e0 : numB [a, b] = Wire.int a ++ (Wire.int b ++ []) := by simp [numB]
  have e1 : Wire.intS (some (numB [a, b])) = (a, some (Wire.int b ++ [])) := by rw [e0]; exact intS_put' ⟨by omega, by omega⟩ _
  have e2 : Wire.intS (some (Wire.int b ++ [])) = (b, some []) := intS_put' ⟨by omega, by omega⟩ _
  unfold takes recB
  simp only
  rw [if_pos (by decide), if_neg (by decide), if_pos (by decide)]
  unfold tk1
  rw [e1]; simp only; rw [e2]; simp only
  rw [if_pos ⟨rfl, ha, hb⟩]
theorem takes_ent {k : Kp} {i : Int} {e : En} (he : mayE e) (h1 : k.base < i) (h2 : i ≤ k.base + k.es.length + 1) (hi : inI i) : takes k (entB i e) false = some { k with es := k.es.take (i - k.base - 1).toNat ++ [e] } := by
  obtain ⟨t1, t2, t3⟩ := id he
  have e0 : entB i e = 2 :: (Wire.int i ++ (Wire.int e.term ++ (Wire.bool e.cmd ++ (Wire.text e.data ++ [])))) := by simp [entB, recB, numB]
  rw [e0]
  have i1 : eI (Wire.int i ++ (Wire.int e.term ++ (Wire.bool e.cmd ++ (Wire.text e.data ++ [])))) = (i, some (Wire.int e.term ++ (Wire.bool e.cmd ++ (Wire.text e.data ++ [])))) := intS_put' hi _
  have i2 : eT (Wire.int i ++ (Wire.int e.term ++ (Wire.bool e.cmd ++ (Wire.text e.data ++ [])))) = (e.term, some (Wire.bool e.cmd ++ (Wire.text e.data ++ []))) := by unfold eT; rw [i1]; exact intS_put' ⟨by omega, by omega⟩ _
  have i3 : eC (Wire.int i ++ (Wire.int e.term ++ (Wire.bool e.cmd ++ (Wire.text e.data ++ [])))) = (e.cmd, some (Wire.text e.data ++ [])) := by unfold eC; rw [i2]; exact boolS_put _ _
  have i4 : eD (Wire.int i ++ (Wire.int e.term ++ (Wire.bool e.cmd ++ (Wire.text e.data ++ [])))) = (e.data, some []) := by unfold eD; rw [i3]; exact Wire.textS_text _ _ (by omega) (by omega)
  have i5 : eE (Wire.int i ++ (Wire.int e.term ++ (Wire.bool e.cmd ++ (Wire.text e.data ++ [])))) = e := by unfold eE; rw [i2, i3, i4]
  generalize Wire.int i ++ (Wire.int e.term ++ (Wire.bool e.cmd ++ (Wire.text e.data ++ []))) = r at *
  unfold takes
  simp only
  rw [if_pos (by decide), if_neg (by decide), if_neg (by decide), if_pos (by decide)]
  unfold tk2
  rw [i4, i5, i1]
  simp only
  rw [if_pos ⟨rfl, he, h1, h2⟩]
theorem takesA_cons {st : Bool} {k k' : Kp} {b : List UInt8} {r : List (List UInt8)} (h : takes k b st = some k') : takesA st k (b :: r) = takesA false k' r := by
  show (match takes k b st with | some k' => takesA false k' r | none => none) = _
  rw [h]
/-- entries from an index on -/
theorem takesA_ents : ∀ {es : List En} {k : Kp} {m : Nat}, (∀ e ∈ es, mayE e) → es ≠ [] → m ≤ k.es.length → inR k.base 1099511627776 → k.es.length + es.length ≤ 1000000000 →
    takesA false k (entBs (k.base + m + 1) es) = some { k with es := k.es.take m ++ es }
  | [], k, m, h, h0, hm, hb, hl => absurd rfl h0
  | [e], k, m, h, h0, hm, ⟨hb1, hb2⟩, hl => by
    have h1 := takes_ent (k := k) (i := k.base + m + 1) (h e (by simp)) (by omega) (by omega) ⟨by omega, by omega⟩
    rw [show (k.base + m + 1 - k.base - 1).toNat = m by omega] at h1
    exact takesA_cons h1
  | e :: f :: es, k, m, h, h0, hm, ⟨hb1, hb2⟩, hl => by
    have hl' : k.es.length + (es.length + 1 + 1) ≤ 1000000000 := hl
    have h1 := takes_ent (k := k) (i := k.base + m + 1) (h e (by simp)) (by omega) (by omega) ⟨by omega, by omega⟩
    rw [show (k.base + m + 1 - k.base - 1).toNat = m by omega] at h1
    have e1 : entBs (k.base + m + 1) (e :: f :: es) = entB (k.base + m + 1) e :: entBs (k.base + m + 1 + 1) (f :: es) := rfl
    have hml : (k.es.take m ++ [e]).length = m + 1 := by rw [List.length_append, List.length_take]; simp; omega
    rw [e1, takesA_cons h1]
    have h2 := takesA_ents (es := f :: es) (k := { k with es := k.es.take m ++ [e] }) (m := m + 1) (fun x hx => h x (List.mem_cons_of_mem _ hx)) (by simp) (by simp only; omega) ⟨hb1, hb2⟩ (by simp only [List.length_cons]; omega)
    simp only at h2
    rw [show k.base + ((m + 1 : Nat) : Int) + 1 = k.base + m + 1 + 1 by omega] at h2
    rw [h2, List.take_of_length_le (by omega), List.append_assoc]
    rfl
/-! ### whole files -/
def waBs (k : Kp) : List (List UInt8) := recB 0 [k.base, k.bterm] :: recB 1 [k.term, k.vote] :: entBs (k.base + 1) k.es
theorem waB_laid (k : Kp) : waB k = Frame.laid (waBs k) := by
  unfold waB waBs
  rw [written_laid, Frame.laid_cons, Frame.laid_cons, List.append_assoc]
theorem rec_ok1 (kind : UInt8) (a b : Int) : 1 ≤ (recB kind [a, b]).length ∧ (recB kind [a, b]).length ≤ 1048576 := by
  have := recB_len kind [a, b]
  simp only [List.length_cons, List.length_nil] at this
  omega
theorem waBs_ok {k : Kp} (h : mayK k) : Frame.Ok1 (waBs k) := fun b hb => by
  unfold waBs at hb
  rcases List.mem_cons.1 hb with rfl | hb
  · exact rec_ok1 0 _ _
  · rcases List.mem_cons.1 hb with rfl | hb
    · exact rec_ok1 1 _ _
    · exact entBs_ok h.1 _ b hb
theorem takesA_waBs {k : Kp} (h : mayK k) (hl : k.es.length ≤ 1000000) : takesA true Kp.zero (waBs k) = some k := by
  obtain ⟨h1, h2, h3, h4, h5⟩ := h
  unfold waBs
  rw [takesA_cons (takes_first h2 h3), takesA_cons (takes_hard h4 h5)]
  cases hes : k.es with
  | nil =>
    cases k; simp only at hes; subst hes; rfl
  | cons e r =>
    have := takesA_ents (es := e :: r) (k := ⟨k.term, k.vote, k.base, k.bterm, []⟩) (m := 0) (fun x hx => h1 x (by rw [hes]; exact hx)) (by simp) (by simp) h2 (by rw [hes] at hl; simp only [List.length_nil]; omega)
    simp only at this
    rw [show k.base + ((0 : Nat) : Int) + 1 = k.base + 1 by omega] at this
    show takesA false ⟨k.term, k.vote, k.base, k.bterm, []⟩ (entBs (k.base + 1) (e :: r)) = some k
    rw [this]
    cases k; simp only at hes; subst hes; rfl
theorem readW_laid {bs : List (List UInt8)} (h : Frame.Ok1 bs) (h0 : bs ≠ []) : readW (Frame.laid bs) = takesA true Kp.zero bs ∧ isWhole (Frame.laid bs) = true := by
  obtain ⟨b1, b2⟩ := Frame.bodies_all h
  unfold readW isWhole
  rw [b1, b2, if_neg h0]
  exact ⟨rfl, rfl⟩
end Go.Proofs.YtebeidnmplnlpaaGreat
end

section
set_option maxRecDepth 10000
namespace Go.Proofs.YtebeidnmplnlpaaGreat
set_option linter.unusedVariables false
open Go.RowKit

theorem wTmp_ok : nameOk wTmp := by decide
theorem wName_nm {n : Nat} (h1 : 1 ≤ n) (h2 : n ≤ 99999999) : nameOk (wName (n : Int)) := by
  have := wName_len h1 h2
  exact ⟨by omega, by omega⟩
theorem w_lt {n m : Nat} (h1 : 1 ≤ n) (h : n < m) (h2 : m ≤ 99999999) : wName (n : Int) < wName (m : Int) := by
  rw [wName_of h1 (by omega), wName_of (by omega) h2]
  exact nameN_lt h (by have : (10 : Nat) ^ 8 = 100000000 := by decide
                       omega)
theorem wName_ne {n : Nat} (h1 : 1 ≤ n) (h2 : n ≤ 99999999) : wName (n : Int) ≠ [] := fun e => by
  have := wName_len h1 h2
  rw [e] at this; cases this
theorem wrun_k0 {r c : Int} {T : PT} {nm b : List UInt8} (hnm : nameOk nm) (hT : ∀ p ∈ T, p.1 < wTmp) (hl : T.length < 64) (hr : (used T : Int) + b.length ≤ r) :
    wrun nm b 4 0 ⟨k0 r c, T⟩ = (0, ⟨k0 r (c + 1 + 1 + 1 + 1), tset T nm (fullF b)⟩) := by
  show andT (DS.create ⟨k0 r c, T⟩ wTmp) (fun S1 => andT (S1.append wTmp b) fun S2 => andT (S2.sync wTmp) fun S3 => andT (S3.rename wTmp nm) fun S4 => (0, S4)) = _
  rw [k0_create wTmp_ok (by omega), andT_ok rfl, tset_last hT]
  simp only
  have hu : used (T ++ [(wTmp, (⟨[], 0⟩ : Fl))]) = used T := by rw [used_append]; simp [used]
  rw [k0_append wTmp_ok (tfind_last hT) (by rw [hu]; exact hr), andT_ok rfl, tset_lastA hT]
  simp only
  rw [k0_sync wTmp_ok (tfind_last hT), andT_ok rfl, tset_lastA hT]
  simp only
  rw [k0_rename wTmp_ok hnm (tfind_last hT), andT_ok rfl, tdel_last hT]
  rfl
theorem wanew_new {r c : Int} {k : Kp} (hk : mayK k) (hr : ((waB k).length : Int) ≤ r) : DS.wanew ⟨k0 r c, []⟩ ⟨0, k.base, k.base + k.es.length⟩ k = ((0, ⟨k0 r (c + 1 + 1 + 1 + 1), [(wName 1, fullF (waB k))]⟩), ⟨1, k.base, k.base + k.es.length⟩) := by
  have h1 : wrun (wName 1) (waB k) 4 0 ⟨k0 r c, []⟩ = (0, ⟨k0 r (c + 1 + 1 + 1 + 1), [(wName 1, fullF (waB k))]⟩) := wrun_k0 (wName_nm (n := 1) (by decide) (by decide)) (by simp) (by decide) (by simpa [used] using hr)
  unfold DS.wanew
  have w1 : ¬ wName 1 = [] := wName_ne (n := 1) (by decide) (by decide)
  rw [if_neg (fun h => h hk), show ((0 : Int) + 1) = 1 from rfl, if_neg w1, h1]
  simp only
  rw [if_neg (by decide), if_pos (by decide)]
theorem wclear_one {S : DS} {n : Nat} {f : Fl} (h : S.t = [(wName (n : Int), f)]) : S.clear wPre (wName (n : Int)) S.keys = (0, S) := by
  unfold DS.keys
  rw [h]
  show DS.clear S wPre (wName (n : Int)) [wName (n : Int)] = _
  rw [clear_cons, if_neg (fun e => e.2 rfl)]
  rfl
theorem wScan_one {n : Nat} (h1 : 1 ≤ n) (h2 : n ≤ 99999999) {f : Fl} {k : Kp} (hr : readW f.b = some k) : wScan [(wName (n : Int), f)] = ⟨true, n, k, isWhole f.b⟩ := by
  show woStep ⟨false, 0, Kp.zero, false⟩ (wName (n : Int), f) = _
  unfold woStep
  simp only
  rw [wNum_name h1 h2]
  simp only
  rw [hr]
/-- a new disk is opened -/
theorem wopen_new {room : Int} (h0 : 0 ≤ room) (h2 : room ≤ 16777216) (hr : ((waB Kp.zero).length : Int) ≤ room) :
    DS.wopen (DS.new room) = ((0, ⟨k0 room 4, [(wName 1, fullF (waB Kp.zero))]⟩), some (⟨1, 0, 0⟩, Kp.zero)) := by
  rw [new_k0 h0 h2]
  have e1 : wScan ([] : PT) = ⟨false, 0, Kp.zero, false⟩ := rfl
  have hk : mayK Kp.zero := by decide
  have e2 : DS.wnext ⟨k0 room 0, []⟩ ⟨false, 0, Kp.zero, false⟩ = ((0, ⟨k0 room 4, [(wName 1, fullF (waB Kp.zero))]⟩), ⟨1, 0, 0⟩) := by
    unfold DS.wnext
    rw [if_neg (by decide)]
    exact wanew_new hk hr
  have e3 : DS.wend ((0, ⟨k0 room 4, [(wName 1, fullF (waB Kp.zero))]⟩), ⟨1, 0, 0⟩) = (0, ⟨k0 room 4, [(wName 1, fullF (waB Kp.zero))]⟩) := by
    unfold DS.wend
    rw [andT_ok rfl]
    exact wclear_one (n := 1) rfl
  unfold DS.wopen
  simp only
  rw [e1]
  simp only
  rw [if_neg (by decide), e2, e3, if_pos rfl]
/-- a log that is whole is opened -/
theorem wopen_one {r c : Int} {n : Nat} (h1 : 1 ≤ n) (h2 : n ≤ 99999999) {f : Fl} {k : Kp} (hr : readW f.b = some k) (hw : isWhole f.b = true) :
    DS.wopen ⟨k0 r c, [(wName (n : Int), f)]⟩ = ((0, ⟨k0 r (c + 1), [(wName (n : Int), fullF f.b)]⟩), some (⟨n, k.base, k.base + k.es.length⟩, k)) := by
  have e2 : DS.wnext ⟨k0 r c, [(wName (n : Int), f)]⟩ ⟨true, n, k, true⟩ = ((0, ⟨k0 r (c + 1), [(wName (n : Int), fullF f.b)]⟩), ⟨n, k.base, k.base + k.es.length⟩) := by
    unfold DS.wnext
    rw [if_pos rfl]
    simp only
    rw [k0_sync (wName_nm h1 h2) (f := f) (by simp [tfind])]
    rw [tset_cons, if_neg (List.lt_irrefl _), if_pos rfl]
    rfl
  have e3 : DS.wend ((0, ⟨k0 r (c + 1), [(wName (n : Int), fullF f.b)]⟩), ⟨n, k.base, k.base + k.es.length⟩) = (0, ⟨k0 r (c + 1), [(wName (n : Int), fullF f.b)]⟩) := by
    unfold DS.wend
    rw [andT_ok rfl]
    exact wclear_one rfl
  unfold DS.wopen
  simp only
  rw [wScan_one h1 h2 hr, hw]
  simp only
  rw [if_neg (by omega), e2, e3, if_pos rfl]
/-- what is saved in a log -/
theorem wsave_one {r c : Int} {n : Nat} (h1 : 1 ≤ n) (h2 : n ≤ 99999999) {b : List UInt8} {base last : Int} {set : Bool} {term vote fr : Int} {es : List En} (hb : ¬ wsBad ⟨n, base, last⟩ set term vote fr) (hm : ∀ e ∈ es, mayE e) (hne : wsB set term vote fr es ≠ [])
    (hr : (b.length : Int) + (wsB set term vote fr es).length ≤ r) :
    DS.wsave ⟨k0 r c, [(wName (n : Int), fullF b)]⟩ ⟨n, base, last⟩ set term vote fr es = ((0, ⟨k0 r (c + 1 + 1), [(wName (n : Int), fullF (b ++ wsB set term vote fr es))]⟩), wlast ⟨n, base, last⟩ fr es) := by
  have e1 : DS.wapp ⟨k0 r c, [(wName (n : Int), fullF b)]⟩ (wName (n : Int)) (wsB set term vote fr es) = (0, ⟨k0 r (c + 1 + 1), [(wName (n : Int), fullF (b ++ wsB set term vote fr es))]⟩) := by
    unfold DS.wapp
    rw [k0_append (wName_nm h1 h2) (f := fullF b) (by simp [tfind]) (by simpa [used, fullF] using hr), andT_ok rfl, tset_cons, if_neg (List.lt_irrefl _), if_pos rfl]
    simp only
    rw [k0_sync (wName_nm h1 h2) (f := ⟨(fullF b).b ++ wsB set term vote fr es, (fullF b).sure⟩) (by simp [tfind]), tset_cons, if_neg (List.lt_irrefl _), if_pos rfl]
    rfl
  unfold DS.wsave
  rw [if_neg (fun h => by
    rcases h with h | h
    · exact hb h
    · exact h.2 hm), if_neg hne, e1]
  rfl
end Go.Proofs.YtebeidnmplnlpaaGreat
end

section
set_option maxRecDepth 10000
namespace Go.Proofs.YtebeidnmplnlpaaGreat
set_option linter.unusedVariables false
open Go.RowKit

def saveBs (set : Bool) (term vote fr : Int) (es : List En) : List (List UInt8) := (if set = true then [recB 1 [term, vote]] else []) ++ (if 0 < fr then entBs fr es else [])
theorem wsB_laid (set : Bool) (term vote fr : Int) (es : List En) : wsB set term vote fr es = Frame.laid (saveBs set term vote fr es) := by
  unfold wsB wsSet saveBs
  rw [Frame.laid_append]
  congr 1
  · split
    · exact (Frame.laid_one _).symm
    · rfl
  · split
    · exact written_laid es fr
    · rfl
theorem saveBs_ok {set : Bool} {term vote fr : Int} {es : List En} (hm : ∀ e ∈ es, mayE e) : Frame.Ok1 (saveBs set term vote fr es) := fun b hb => by
  unfold saveBs at hb
  rcases List.mem_append.1 hb with hb | hb
  · split at hb
    · obtain rfl : b = _ := by simpa using hb
      exact rec_ok1 1 _ _
    · cases hb
  · split at hb
    · exact entBs_ok hm _ b hb
    · cases hb
def afterS (k : Kp) (set : Bool) (term vote fr : Int) (es : List En) : Kp :=
  ⟨if set = true then term else k.term, if set = true then vote else k.vote, k.base, k.bterm, if 0 < fr ∧ 0 < es.length then k.es.take (fr - k.base - 1).toNat ++ es else k.es⟩
theorem takesA_save {k : Kp} {set : Bool} {term vote fr : Int} {es : List En} (hs : set = true → inR term 1099511627776 ∧ inR vote 7) (hf : 0 < fr → k.base < fr ∧ fr ≤ k.base + k.es.length + 1) (hm : ∀ e ∈ es, mayE e) (hb : inR k.base 1099511627776) (hl : k.es.length + es.length ≤ 1000000000) :
    takesA false k (saveBs set term vote fr es) = some (afterS k set term vote fr es) := by
  have h2 : ∀ k1 : Kp, k1.base = k.base → k1.es = k.es → takesA false k1 (if 0 < fr then entBs fr es else []) = some { k1 with es := if 0 < fr ∧ 0 < es.length then k.es.take (fr - k.base - 1).toNat ++ es else k.es } := fun k1 e1 e2 => by
    by_cases h0 : 0 < fr
    · rw [if_pos h0]
      by_cases h1 : 0 < es.length
      · rw [if_pos ⟨h0, h1⟩]
        obtain ⟨f1, f2⟩ := hf h0
        have h3 := takesA_ents (es := es) (k := k1) (m := (fr - k.base - 1).toNat) hm (fun e => by rw [e] at h1; simp at h1) (by rw [e2]; omega) (by rw [e1]; exact hb) (by rw [e2]; exact hl)
        rw [e1, show k.base + ((fr - k.base - 1).toNat : Int) + 1 = fr by omega, e2] at h3
        rw [h3, ← e1]
      · rw [if_neg (fun h => h1 h.2)]
        obtain rfl : es = [] := List.eq_nil_of_length_eq_zero (by omega)
        rw [← e2]
        rfl
    · rw [if_neg h0, if_neg (fun h => h0 h.1), ← e2]
      rfl
  unfold saveBs afterS
  cases set with
  | false => exact h2 k rfl rfl
  | true =>
    obtain ⟨s1, s2⟩ := hs rfl
    simp only [if_true]
    rw [List.singleton_append, takesA_cons (takes_hard s1 s2)]
    exact h2 _ rfl rfl
/-- a file of bodies that says k -/
structure Says (bs : List (List UInt8)) (k : Kp) : Prop where
  ok : Frame.Ok1 bs
  ne : bs ≠ []
  says : takesA true Kp.zero bs = some k
  b : inR k.base 1099511627776
theorem Says.read {bs : List (List UInt8)} {k : Kp} (h : Says bs k) : readW (Frame.laid bs) = some k ∧ isWhole (Frame.laid bs) = true := by
  have := readW_laid h.ok h.ne
  rw [h.says] at this
  exact this
theorem Says.save {bs : List (List UInt8)} {k : Kp} (h : Says bs k) {set : Bool} {term vote fr : Int} {es : List En} (hs : set = true → inR term 1099511627776 ∧ inR vote 7) (hf : 0 < fr → k.base < fr ∧ fr ≤ k.base + k.es.length + 1) (hm : ∀ e ∈ es, mayE e) (hl : k.es.length + es.length ≤ 1000000000) :
    Says (bs ++ saveBs set term vote fr es) (afterS k set term vote fr es) := by
  refine ⟨fun b hb => ?_, fun e => h.ne (List.append_eq_nil_iff.1 e).1, ?_, h.b⟩
  · rcases List.mem_append.1 hb with hb | hb
    · exact h.ok b hb
    · exact saveBs_ok hm b hb
  · rw [takesA_app, h.says]
    simp only
    have : bs.isEmpty = false := by cases hbs : bs with
      | nil => exact absurd hbs h.ne
      | cons x y => rfl
    rw [this]
    exact takesA_save hs hf hm h.b hl
theorem says_new {k : Kp} (hk : mayK k) (hl : k.es.length ≤ 1000000) : Says (waBs k) k := ⟨waBs_ok hk, by simp [waBs], takesA_waBs hk hl, hk.2.1⟩
theorem waB_len {k : Kp} (hk : ∀ e ∈ k.es, mayE e) : (waB k).length ≤ 200 + (written (k.base + 1) k.es).length := by
  have h1 := put_le (recB 0 [k.base, k.bterm])
  have h2 := put_le (recB 1 [k.term, k.vote])
  have h3 := (recB_len 0 [k.base, k.bterm]).1
  have h4 := (recB_len 1 [k.term, k.vote]).1
  simp only [List.length_cons, List.length_nil] at h3 h4
  unfold waB
  rw [List.length_append, List.length_append]
  omega
theorem wsSet_len (set : Bool) (term vote : Int) : (wsSet set term vote).length ≤ 100 := by
  have h2 := put_le (recB 1 [term, vote])
  have h4 := (recB_len 1 [term, vote]).1
  simp only [List.length_cons, List.length_nil] at h4
  unfold wsSet
  split
  · omega
  · simp
/-- entries of few bytes -/
theorem written_few {m : Nat} {es : List En} (h : ∀ e ∈ es, e.data.length ≤ m) (i : Int) : (written i es).length ≤ (m + 62) * es.length := by
  induction es generalizing i with
  | nil => simp [written]
  | cons e es ih =>
    have h1 := (entB_len i e).2
    have h2 := h e (by simp)
    have h3 := put_le (entB i e)
    have h4 := ih (fun x hx => h x (List.mem_cons_of_mem _ hx)) (i + 1)
    rw [written_cons, List.length_append, List.length_cons, Nat.mul_succ]
    omega
theorem wsB_few {m : Nat} {set : Bool} {term vote fr : Int} {es : List En} (h : ∀ e ∈ es, e.data.length ≤ m) : (wsB set term vote fr es).length ≤ 100 + (m + 62) * es.length := by
  have h1 := wsSet_len set term vote
  have h2 := written_few h fr
  unfold wsB
  rw [List.length_append]
  split
  · omega
  · simp; omega
theorem zero_len : (waB Kp.zero).length ≤ 200 := by
  have := waB_len (k := Kp.zero) (by simp [Kp.zero])
  have e : (written (Kp.zero.base + 1) Kp.zero.es).length = 0 := rfl
  omega
end Go.Proofs.YtebeidnmplnlpaaGreat
end

section
set_option maxRecDepth 10000
namespace Go.Proofs.YtebeidnmplnlpaaGreat
set_option linter.unusedVariables false
open Go.RowKit

end Go.Proofs.YtebeidnmplnlpaaGreat
end
