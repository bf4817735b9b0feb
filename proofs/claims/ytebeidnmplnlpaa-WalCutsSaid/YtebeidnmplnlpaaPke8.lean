/- Texts joined: WalI, SnapE, SnapF, SnapG, WalJ, WalK, WalL, SnapH, WalM, WalO. No condition. -/
import Derived.Test.YtebeidnmplnlpaaPke7
import Derived.Test.YtebeidnmplnlpaaPke4
section
set_option maxRecDepth 10000
namespace Go.Proofs.Ytebeidnmplnlpaa
set_option linter.unusedVariables false
open Go.RowKit

theorem VRes.op3 {P : Program} {w : World} {a b c t T1 g1 k : Nat} {σ : Env} {cs : Array Value} {R : Ending → World → Prop} [i : TAgg P t k]
    (ha : σ b = .pointer (some ⟨g1, 0, none⟩)) (h1 : Blk w g1 T1 cs) (hs : Nat.beq cs.size k = true)
    (h : R (.returned (.tuple #[σ a, .agg cs, σ c])) w) : VRes P [.tmp a, .cell b t, .tmp c] σ w R := by
  have k1 := run_load_agg (P := P) i h1 (Nat.eq_of_beq_eq_true hs)
  unfold Instr.loadAt Instr.sureAddr at k1
  simp only [Sem.run_bind, Sem.run_pure, Result.andThen_ok] at k1
  exact ⟨⟨_, by simp [resE, ha, asAddr, k1], h⟩⟩
/-! ### plain -/
structure Scn where
  some_ : Bool
  n : Nat
  k : Kp
  whole : Bool
def woStep (acc : Scn) (p : List UInt8 × Fl) : Scn := match wNum p.1 with
  | none => acc
  | some n => match readW p.2.b with
    | some k => ⟨true, n, k, isWhole p.2.b⟩
    | none => { acc with some_ := true }
def wScan (T : PT) : Scn := T.foldl woStep ⟨false, 0, Kp.zero, false⟩
def Scn.wl (c : Scn) : WlS := ⟨c.n, c.k.base, c.k.base + c.k.es.length⟩
def DS.wnext (S : DS) (c : Scn) : (Int × DS) × WlS := if c.whole = true then (S.sync (wName c.n), c.wl) else S.wanew c.wl c.k
def DS.wend (R : (Int × DS) × WlS) : Int × DS := andT R.1 fun S1 => S1.clear wPre (wName R.2.n) S1.keys
def DS.wopen (S : DS) : (Int × DS) × Option (WlS × Kp) :=
  if (wScan S.t).some_ = true ∧ (wScan S.t).n = 0 then ((23, S), none) else
  (DS.wend (S.wnext (wScan S.t)), if (DS.wend (S.wnext (wScan S.t))).1 = 0 then some ((S.wnext (wScan S.t)).2, (wScan S.t).k) else none)
theorem takesA_ok : ∀ {cs : List (List UInt8)} {st : Bool} {k k' : Kp}, takesA st k cs = some k' → inR k.base 1099511627776 → inR k'.base 1099511627776 ∧ k'.es.length ≤ k.es.length + cs.length
  | [], st, k, k', h, hb => by
    injection h with h; subst h; exact ⟨hb, by simp⟩
  | c :: cs, st, k, k', h, hb => by
    unfold takesA at h
    cases ht : takes k c st with
    | none => rw [ht] at h; cases h
    | some k1 =>
      rw [ht] at h
      obtain ⟨h1, h2⟩ := takes_in ht hb
      obtain ⟨h3, h4⟩ := takesA_ok h h1
      exact ⟨h3, by rw [List.length_cons]; omega⟩
theorem laid_ge : ∀ (bs : List (List UInt8)), bs.length ≤ (Frame.laid bs).length
  | [] => by simp
  | b :: bs => by
    have h1 := laid_ge bs
    have h2 := Frame.put_pos b
    rw [Frame.laid_cons, List.length_append, List.length_cons]
    omega
theorem readW_ok {l : List UInt8} {k : Kp} (h : readW l = some k) : inR k.base 1099511627776 ∧ k.es.length ≤ l.length := by
  unfold readW at h
  split at h
  · cases h
  · obtain ⟨h1, h2⟩ := takesA_ok h ⟨by decide, by decide⟩
    have h3 := laid_ge (Frame.bodies l)
    have h4 := congrArg List.length (Frame.bodies_spec l).1
    rw [List.length_append] at h4
    have : Kp.zero.es.length = 0 := rfl
    exact ⟨h1, by omega⟩
structure ScnOk (c : Scn) : Prop where
  n : c.n ≤ 99999999
  b : inR c.k.base 1099511627776
  l : c.k.es.length ≤ 16777216
theorem ScnOk.wl {c : Scn} (h : ScnOk c) : WlOk c.wl := by
  obtain ⟨h1, ⟨h2, h3⟩, h4⟩ := h
  have e1 : c.wl.n = (c.n : Int) := rfl
  have e2 : c.wl.base = c.k.base := rfl
  have e3 : c.wl.last = c.k.base + c.k.es.length := rfl
  exact ⟨by omega, by omega, by omega, by omega, by omega, by omega⟩
theorem wrun_calls (nm b : List UInt8) : ∀ (m k : Nat) (S : DS), (wrun nm b m k S).2.k.calls ≤ S.k.calls + m
  | 0, k, S => by show S.k.calls ≤ S.k.calls + ((0 : Nat) : Int); omega
  | m + 1, k, S => by
    unfold wrun
    have h1 := wact_calls nm b k S
    by_cases h : (wact nm b k S).1 = 0
    · rw [andT_ok h]
      have := wrun_calls nm b m (k + 1) (wact nm b k S).2
      omega
    · rw [andT_no h]
      omega
theorem wanew_calls (S : DS) (w : WlS) (k : Kp) : (S.wanew w k).1.2.k.calls ≤ S.k.calls + 5 ∧ ((S.wanew w k).2.n = w.n ∨ (S.wanew w k).2.n = w.n + 1) := by
  unfold DS.wanew
  split
  · exact ⟨by simp only; omega, .inl rfl⟩
  · split
    · exact ⟨by simp only; omega, .inl rfl⟩
    · have h1 := wrun_calls (wName (w.n + 1)) (waB k) 4 0 S
      simp only
      split
      · exact ⟨by simp only; omega, .inl rfl⟩
      · split
        · exact ⟨by simp only; omega, .inr rfl⟩
        · have h2 : ((wrun (wName (w.n + 1)) (waB k) 4 0 S).2.remove (wName w.n)).2.k.calls = (wrun (wName (w.n + 1)) (waB k) 4 0 S).2.k.calls + 1 := DS.remove_calls
          exact ⟨by simp only; omega, .inr rfl⟩
theorem wnext_calls (S : DS) (c : Scn) : (S.wnext c).1.2.k.calls ≤ S.k.calls + 5 ∧ ((S.wnext c).2.n = c.n ∨ (S.wnext c).2.n = (c.n : Int) + 1) := by
  unfold DS.wnext
  split
  · have h2 : (S.sync (wName c.n)).2.k.calls = S.k.calls + 1 := DS.sync_calls
    exact ⟨by simp only; omega, .inl rfl⟩
  · have := wanew_calls S c.wl c.k
    exact this
theorem Lies.ne {W : World} {V : Foot} {A : Option Addr} {m g T : Nat} {l : List UInt8} {cs : Array Value} (h : Lies W V A m l) (hb : Blk W g T cs) (hT : 5 ≠ T) : Lies W (fun j => V j ∧ j ≠ g) A m l :=
  ⟨h.1, fun hm => by
    obtain ⟨ad, cs', fr, e, h1, h2⟩ := h.2 hm
    refine ⟨ad, cs', fr, e, ⟨h1, fun e' => ?_⟩, h2⟩
    unfold Blk at hb
    rw [← e', h2] at hb
    injection hb with hb
    injection hb with _ h3 _
    exact hT h3⟩
theorem ERow.ne {W : World} {V : Foot} {B g T : Nat} {v : Value} {es : List En} {cs : Array Value} (h : ERow W V B v es) (hb : Blk W g T cs) (hT : 5 ≠ T) (hT2 : 67 ≠ T) : ERow W (fun j => V j ∧ j ≠ g) B v es := by
  have hn := h.notBlk hb hT2
  obtain ⟨xs, h1, h2, h3⟩ := h
  refine ⟨xs, h1, fun q hq => ⟨h2 q hq, fun e => hn (by rw [hq, e])⟩, fun i e he => ?_⟩
  obtain ⟨A', m, k, e1, e2, e3, e4, e5⟩ := h3 i e he
  exact ⟨A', m, k, e1, e2, e3, e4, e5.ne hb hT⟩
theorem ERow.addU {W : World} {U : Foot} {B g T : Nat} {v : Value} {es : List En} {cs : Array Value} (h : ERow W (NotU U) B v es) (hb : Blk W g T cs) (hT : 5 ≠ T) (hT2 : 67 ≠ T) : ERow W (NotU (addF U g)) B v es :=
  (h.ne hb hT hT2).more (Nat.le_refl _) (fun j _ hj hu => by
    rcases hu with hu | hu
    · exact hj.1 hu
    · exact hj.2 hu)
theorem ERow.unU {W : World} {U : Foot} {B g : Nat} {v : Value} {es : List En} (h : ERow W (NotU (addF U g)) B v es) : ERow W (NotU U) B v es := h.more (Nat.le_refl _) (fun j _ hj hu => hj (.inl hu))
theorem Step.pastG {W X X' : World} {U U' : Foot} {q : Nat} (h : Step W U X U') (hg : X.grownBy X' (some q)) (hq : W.heap.size ≤ q) : Step W U X' U' := ⟨h.out.newG hg (.inl hq), h.sub⟩
theorem Step.past {W Y X : World} {U U' : Foot} {g : Nat} (hB : Below W.heap.size W Y) (h : Step Y (addF U g) X (addF U' g)) (hg : W.heap.size ≤ g) : Step W U X U' := by
  have hs := hB.size
  refine ⟨⟨h.out.os.trans hB.os, h.out.tape.trans hB.tape, h.out.output.trans hB.output, Nat.le_trans hs h.out.size, fun j hj hu => ?_⟩, fun j hj => ?_⟩
  · rw [h.out.block j (by omega) (fun h' => by
      rcases h' with h' | h'
      · exact hu h'
      · omega), hB.block j hj]
  · rcases h.sub j (.inl hj) with h' | h'
    · rcases h' with h' | h'
      · exact .inl h'
      · right; omega
    · right; omega
/-- what Open gives -/
def OpV (W W' : World) (U' : Foot) (d : Nat) (r : Int) (o : Option (WlS × Kp)) (e : Ending) : Prop := match o with
  | none => e = .returned (.tuple #[.pointer none, .agg (kC Kp.zero none 0 0), .int .i64 r])
  | some y => ∃ g A n c, e = .returned (.tuple #[.pointer (some ⟨g, 0, none⟩), .agg (kC y.2 A n c), .int .i64 0]) ∧ Blk W' g 105 (wlC d y.1) ∧ ¬ U' g ∧ W.heap.size ≤ g ∧ ERow W' (NotU U') W.heap.size (.slice A n c) y.2.es
set_option maxHeartbeats 4000000 in
theorem walOpen_any (W : World) (U : Foot) (d : Nat) (S : DS) (h : Dsk W U d S) (hc : S.k.calls + 200 < 1000000) :
    Calls Try.prog 40 #[.pointer (some ⟨d, 0, none⟩)] W fun e W' => ∃ U', Dsk W' U' d (S.wopen).1.2 ∧ Step W U W' U' ∧ OpV W W' U' d (S.wopen).1.1 (S.wopen).2 e := by
  have hfew := h.wf.t.few
  have hris := h.wf.t.ris
  have hroom := h.wf.k.room
  have hfit := h.wf.t.fit
  refine calls_vc Try.func40 rfl (by kernel_rfl) ?_
  ((conv => whnf); (repeat ((first|refine kLa ?_|refine kLb ?_|refine kCa rfl ?_|refine kCb ?_|refine kCc ?_|refine kCd ?_|refine kCe ?_|refine kCf ?_|refine kCg ?_|refine kCh ?_|refine kCi ?_|refine kCj ?_|refine kQa ?_|refine kQb ?_|refine kGa ?_|refine kGb ?_|refine kHa ?_|refine kHb ?_); (conv => whnf))))
  ((repeat ((first|refine kLa ?_|refine kLb ?_|refine kCa rfl ?_|refine kCb ?_|refine kCc ?_|refine kCd ?_|refine kCe ?_|refine kCf ?_|refine kCg ?_|refine kCh ?_|refine kCi ?_|refine kCj ?_|refine kQa ?_|refine kQb ?_|refine kGa ?_|refine kGb ?_|refine kHa ?_|refine kHb ?_|refine kPa ?_|refine kPb ?_|refine kPc ?_|refine kEa ?_|refine kEb ?_|refine kBa ?_|refine kBb ?_|refine kBc (by omega) ?_|refine kBd (by omega) ?_|refine kBe (by omega) ?_|refine kBf (by omega) ?_|refine kRa ?_|refine kRb ?_|refine VRead.fld ?_|refine VRead.load1 (by assumption) ?_|refine VRead.load (by assumption) ?_|refine kRf ?_|refine kRg ?_|refine kRh ?_|refine kRi ?_|refine kBe rfl ?_|refine kBc rfl ?_|refine kWa (by omega) (by omega) ?_|refine kWb (by omega) (by omega) ?_|refine kRj (by omega) ?_|refine kRk ?_|refine VSem.convI ?_|refine VRead.convI ?_|refine VRead.rem (by omega) (by decide) ?_|refine VRead.neg ?_|refine VC.seq ?_); (conv => whnf))))
  refine VSem.allocZ (z := .agg (kC Kp.zero none 0 0)) (by kernel_rfl) ?_
  intro w1 g3 hb3 hg3 hl3 hB1
  replace hb3 : Blk w1 g3 63 (kC Kp.zero none 0 0) := hb3
  ((conv => whnf); (repeat ((first|refine kLa ?_|refine kLb ?_|refine kCa rfl ?_|refine kCb ?_|refine kCc ?_|refine kCd ?_|refine kCe ?_|refine kCf ?_|refine kCg ?_|refine kCh ?_|refine kCi ?_|refine kCj ?_|refine kQa ?_|refine kQb ?_|refine kGa ?_|refine kGb ?_|refine kHa ?_|refine kHb ?_); (conv => whnf))))
  ((repeat ((first|refine kLa ?_|refine kLb ?_|refine kCa rfl ?_|refine kCb ?_|refine kCc ?_|refine kCd ?_|refine kCe ?_|refine kCf ?_|refine kCg ?_|refine kCh ?_|refine kCi ?_|refine kCj ?_|refine kQa ?_|refine kQb ?_|refine kGa ?_|refine kGb ?_|refine kHa ?_|refine kHb ?_|refine kPa ?_|refine kPb ?_|refine kPc ?_|refine kEa ?_|refine kEb ?_|refine kBa ?_|refine kBb ?_|refine kBc (by omega) ?_|refine kBd (by omega) ?_|refine kBe (by omega) ?_|refine kBf (by omega) ?_|refine kRa ?_|refine kRb ?_|refine VRead.fld ?_|refine VRead.load1 (by assumption) ?_|refine VRead.load (by assumption) ?_|refine kRf ?_|refine kRg ?_|refine kRh ?_|refine kRi ?_|refine kBe rfl ?_|refine kBc rfl ?_|refine kWa (by omega) (by omega) ?_|refine kWb (by omega) (by omega) ?_|refine kRj (by omega) ?_|refine kRk ?_|refine VSem.convI ?_|refine VRead.convI ?_|refine VRead.rem (by omega) (by decide) ?_|refine VRead.neg ?_|refine VC.seq ?_); (conv => whnf))))
  refine VRead.ofW (v := .agg (wlC d ⟨0, 0, 0⟩)) (fun _ => by kernel_rfl) ?_
  ((conv => whnf); (repeat ((first|refine kLa ?_|refine kLb ?_|refine kCa rfl ?_|refine kCb ?_|refine kCc ?_|refine kCd ?_|refine kCe ?_|refine kCf ?_|refine kCg ?_|refine kCh ?_|refine kCi ?_|refine kCj ?_|refine kQa ?_|refine kQb ?_|refine kGa ?_|refine kGb ?_|refine kHa ?_|refine kHb ?_); (conv => whnf))))
  ((repeat ((first|refine kLa ?_|refine kLb ?_|refine kCa rfl ?_|refine kCb ?_|refine kCc ?_|refine kCd ?_|refine kCe ?_|refine kCf ?_|refine kCg ?_|refine kCh ?_|refine kCi ?_|refine kCj ?_|refine kQa ?_|refine kQb ?_|refine kGa ?_|refine kGb ?_|refine kHa ?_|refine kHb ?_|refine kPa ?_|refine kPb ?_|refine kPc ?_|refine kEa ?_|refine kEb ?_|refine kBa ?_|refine kBb ?_|refine kBc (by omega) ?_|refine kBd (by omega) ?_|refine kBe (by omega) ?_|refine kBf (by omega) ?_|refine kRa ?_|refine kRb ?_|refine VRead.fld ?_|refine VRead.load1 (by assumption) ?_|refine VRead.load (by assumption) ?_|refine kRf ?_|refine kRg ?_|refine kRh ?_|refine kRi ?_|refine kBe rfl ?_|refine kBc rfl ?_|refine kWa (by omega) (by omega) ?_|refine kWb (by omega) (by omega) ?_|refine kRj (by omega) ?_|refine kRk ?_|refine VSem.convI ?_|refine VRead.convI ?_|refine VRead.rem (by omega) (by decide) ?_|refine VRead.neg ?_|refine VC.seq ?_); (conv => whnf))))
  refine VSem.boxB ?_
  intro w2 g5 hb5 hg5 hl5 hB2
  replace hb5 : Blk w2 g5 105 (wlC d ⟨0, 0, 0⟩) := hb5
  ((conv => whnf); (repeat ((first|refine kLa ?_|refine kLb ?_|refine kCa rfl ?_|refine kCb ?_|refine kCc ?_|refine kCd ?_|refine kCe ?_|refine kCf ?_|refine kCg ?_|refine kCh ?_|refine kCi ?_|refine kCj ?_|refine kQa ?_|refine kQb ?_|refine kGa ?_|refine kGb ?_|refine kHa ?_|refine kHb ?_); (conv => whnf))))
  ((repeat ((first|refine kLa ?_|refine kLb ?_|refine kCa rfl ?_|refine kCb ?_|refine kCc ?_|refine kCd ?_|refine kCe ?_|refine kCf ?_|refine kCg ?_|refine kCh ?_|refine kCi ?_|refine kCj ?_|refine kQa ?_|refine kQb ?_|refine kGa ?_|refine kGb ?_|refine kHa ?_|refine kHb ?_|refine kPa ?_|refine kPb ?_|refine kPc ?_|refine kEa ?_|refine kEb ?_|refine kBa ?_|refine kBb ?_|refine kBc (by omega) ?_|refine kBd (by omega) ?_|refine kBe (by omega) ?_|refine kBf (by omega) ?_|refine kRa ?_|refine kRb ?_|refine VRead.fld ?_|refine VRead.load1 (by assumption) ?_|refine VRead.load (by assumption) ?_|refine kRf ?_|refine kRg ?_|refine kRh ?_|refine kRi ?_|refine kBe rfl ?_|refine kBc rfl ?_|refine kWa (by omega) (by omega) ?_|refine kWb (by omega) (by omega) ?_|refine kRj (by omega) ?_|refine kRk ?_|refine VSem.convI ?_|refine VRead.convI ?_|refine VRead.rem (by omega) (by decide) ?_|refine VRead.neg ?_|refine VC.seq ?_); (conv => whnf))))
  refine VRead.ofW (v := .agg (kC Kp.zero none 0 0)) (fun _ => by kernel_rfl) ?_
  ((conv => whnf); (repeat ((first|refine kLa ?_|refine kLb ?_|refine kCa rfl ?_|refine kCb ?_|refine kCc ?_|refine kCd ?_|refine kCe ?_|refine kCf ?_|refine kCg ?_|refine kCh ?_|refine kCi ?_|refine kCj ?_|refine kQa ?_|refine kQb ?_|refine kGa ?_|refine kGb ?_|refine kHa ?_|refine kHb ?_); (conv => whnf))))
  ((repeat ((first|refine kLa ?_|refine kLb ?_|refine kCa rfl ?_|refine kCb ?_|refine kCc ?_|refine kCd ?_|refine kCe ?_|refine kCf ?_|refine kCg ?_|refine kCh ?_|refine kCi ?_|refine kCj ?_|refine kQa ?_|refine kQb ?_|refine kGa ?_|refine kGb ?_|refine kHa ?_|refine kHb ?_|refine kPa ?_|refine kPb ?_|refine kPc ?_|refine kEa ?_|refine kEb ?_|refine kBa ?_|refine kBb ?_|refine kBc (by omega) ?_|refine kBd (by omega) ?_|refine kBe (by omega) ?_|refine kBf (by omega) ?_|refine kRa ?_|refine kRb ?_|refine VRead.fld ?_|refine VRead.load1 (by assumption) ?_|refine VRead.load (by assumption) ?_|refine kRf ?_|refine kRg ?_|refine kRh ?_|refine kRi ?_|refine kBe rfl ?_|refine kBc rfl ?_|refine kWa (by omega) (by omega) ?_|refine kWb (by omega) (by omega) ?_|refine kRj (by omega) ?_|refine kRk ?_|refine VSem.convI ?_|refine VRead.convI ?_|refine VRead.rem (by omega) (by decide) ?_|refine VRead.neg ?_|refine VC.seq ?_); (conv => whnf))))
  refine VSem.allocZ (z := .agg (kC Kp.zero none 0 0)) (by kernel_rfl) ?_
  intro w3 g6 hb6 hg6 hl6 hB3
  replace hb6 : Blk w3 g6 63 (kC Kp.zero none 0 0) := hb6
  ((conv => whnf); (repeat ((first|refine kLa ?_|refine kLb ?_|refine kCa rfl ?_|refine kCb ?_|refine kCc ?_|refine kCd ?_|refine kCe ?_|refine kCf ?_|refine kCg ?_|refine kCh ?_|refine kCi ?_|refine kCj ?_|refine kQa ?_|refine kQb ?_|refine kGa ?_|refine kGb ?_|refine kHa ?_|refine kHb ?_); (conv => whnf))))
  ((repeat ((first|refine kLa ?_|refine kLb ?_|refine kCa rfl ?_|refine kCb ?_|refine kCc ?_|refine kCd ?_|refine kCe ?_|refine kCf ?_|refine kCg ?_|refine kCh ?_|refine kCi ?_|refine kCj ?_|refine kQa ?_|refine kQb ?_|refine kGa ?_|refine kGb ?_|refine kHa ?_|refine kHb ?_|refine kPa ?_|refine kPb ?_|refine kPc ?_|refine kEa ?_|refine kEb ?_|refine kBa ?_|refine kBb ?_|refine kBc (by omega) ?_|refine kBd (by omega) ?_|refine kBe (by omega) ?_|refine kBf (by omega) ?_|refine kRa ?_|refine kRb ?_|refine VRead.fld ?_|refine VRead.load1 (by assumption) ?_|refine VRead.load (by assumption) ?_|refine kRf ?_|refine kRg ?_|refine kRh ?_|refine kRi ?_|refine kBe rfl ?_|refine kBc rfl ?_|refine kWa (by omega) (by omega) ?_|refine kWb (by omega) (by omega) ?_|refine kRj (by omega) ?_|refine kRk ?_|refine VSem.convI ?_|refine VRead.convI ?_|refine VRead.rem (by omega) (by decide) ?_|refine VRead.neg ?_|refine VC.seq ?_); (conv => whnf))))
  refine VUnit.storeAB hb6 rfl rfl rfl (by simp [kC, Kp.zero, Value.oneCell']) ?_
  intro w4 hb6' hg6'
  rw [setFrom_allW rfl] at hb6'
  have s1 := hB1.size
  have s2 := hB2.size
  have s3 := hB3.size
  have s4 := hg6'.size
  replace hb3 := ((hb3.later hB2).later hB3).only hg6' (by omega)
  replace hb5 := (hb5.later hB3).only hg6' (by omega)
  have hB04 : Below W.heap.size W w4 := only_new ((hB1.trans (hB2.mono s1)).trans (hB3.mono (Nat.le_trans s1 s2))) hg6' (by omega) (by omega)
  clear hb6 hB1 hB2 hB3 hg6'
  ((conv => whnf); (repeat ((first|refine kLa ?_|refine kLb ?_|refine kCa rfl ?_|refine kCb ?_|refine kCc ?_|refine kCd ?_|refine kCe ?_|refine kCf ?_|refine kCg ?_|refine kCh ?_|refine kCi ?_|refine kCj ?_|refine kQa ?_|refine kQb ?_|refine kGa ?_|refine kGb ?_|refine kHa ?_|refine kHb ?_); (conv => whnf))))
  ((repeat ((first|refine kLa ?_|refine kLb ?_|refine kCa rfl ?_|refine kCb ?_|refine kCc ?_|refine kCd ?_|refine kCe ?_|refine kCf ?_|refine kCg ?_|refine kCh ?_|refine kCi ?_|refine kCj ?_|refine kQa ?_|refine kQb ?_|refine kGa ?_|refine kGb ?_|refine kHa ?_|refine kHb ?_|refine kPa ?_|refine kPb ?_|refine kPc ?_|refine kEa ?_|refine kEb ?_|refine kBa ?_|refine kBb ?_|refine kBc (by omega) ?_|refine kBd (by omega) ?_|refine kBe (by omega) ?_|refine kBf (by omega) ?_|refine kRa ?_|refine kRb ?_|refine VRead.fld ?_|refine VRead.load1 (by assumption) ?_|refine VRead.load (by assumption) ?_|refine kRf ?_|refine kRg ?_|refine kRh ?_|refine kRi ?_|refine kBe rfl ?_|refine kBc rfl ?_|refine kWa (by omega) (by omega) ?_|refine kWb (by omega) (by omega) ?_|refine kRj (by omega) ?_|refine kRk ?_|refine VSem.convI ?_|refine VRead.convI ?_|refine VRead.rem (by omega) (by decide) ?_|refine VRead.neg ?_|refine VC.seq ?_); (conv => whnf))))
  refine VCall.of (oList w4 U d S (h.below hB04)) ?_
  rintro e w5 ⟨Al, kl, rfl, hOl, hB5⟩
  refine ⟨_, rfl, ?_⟩
  replace hb3 := hb3.later hB5
  replace hb5 := hb5.later hB5
  replace hb6' := hb6'.later hB5
  have hB05 := hB04.trans (hB5.mono hB04.size)
  have s5 := hB5.size
  obtain ⟨o1, o2, o3, o4⟩ : W.heap.size ≤ g3 ∧ g3 < g5 ∧ g5 < g6 ∧ g6 < w4.heap.size := by omega
  ((conv => whnf); (repeat ((first|refine kLa ?_|refine kLb ?_|refine kCa rfl ?_|refine kCb ?_|refine kCc ?_|refine kCd ?_|refine kCe ?_|refine kCf ?_|refine kCg ?_|refine kCh ?_|refine kCi ?_|refine kCj ?_|refine kQa ?_|refine kQb ?_|refine kGa ?_|refine kGb ?_|refine kHa ?_|refine kHb ?_); (conv => whnf))))
  ((repeat ((first|refine kLa ?_|refine kLb ?_|refine kCa rfl ?_|refine kCb ?_|refine kCc ?_|refine kCd ?_|refine kCe ?_|refine kCf ?_|refine kCg ?_|refine kCh ?_|refine kCi ?_|refine kCj ?_|refine kQa ?_|refine kQb ?_|refine kGa ?_|refine kGb ?_|refine kHa ?_|refine kHb ?_|refine kPa ?_|refine kPb ?_|refine kPc ?_|refine kEa ?_|refine kEb ?_|refine kBa ?_|refine kBb ?_|refine kBc (by omega) ?_|refine kBd (by omega) ?_|refine kBe (by omega) ?_|refine kBf (by omega) ?_|refine kRa ?_|refine kRb ?_|refine VRead.fld ?_|refine VRead.load1 (by assumption) ?_|refine VRead.load (by assumption) ?_|refine kRf ?_|refine kRg ?_|refine kRh ?_|refine kRi ?_|refine kBe rfl ?_|refine kBc rfl ?_|refine kWa (by omega) (by omega) ?_|refine kWb (by omega) (by omega) ?_|refine kRj (by omega) ?_|refine kRk ?_|refine VSem.convI ?_|refine VRead.convI ?_|refine VRead.rem (by omega) (by decide) ?_|refine VRead.neg ?_|refine VC.seq ?_); (conv => whnf))))
  refine VC.loop [7, 8, 26] [(7, 8), (10, 17), (26, 56)] (fun q vs X => ∃ (j : Nat) (acc : Scn) (A : Option Addr) (n c : Nat), vs = [.bool acc.whole, .bool acc.some_, .int .i64 (j : Int)] ∧ q = S.t.length - j ∧ j ≤ S.t.length ∧ (S.t.take j).foldl woStep ⟨false, 0, Kp.zero, false⟩ = acc ∧ ScnOk acc ∧
      Blk X g3 63 (kC Kp.zero none 0 0) ∧ Blk X g5 105 (wlC d ⟨acc.n, 0, 0⟩) ∧ Blk X g6 63 (kC acc.k A n c) ∧ ERow X (fun j => W.heap.size ≤ j) W.heap.size (.slice A n c) acc.k.es ∧
      X.ownsRow w4.heap.size 9 1 (.slice Al S.t.length kl) S.t.length ((S.t.map (·.1)).map encStr) ∧ Below W.heap.size W X) (by kernel_rfl)
    ⟨_, 0, ⟨false, 0, Kp.zero, false⟩, none, 0, 0, rfl, rfl, by omega, rfl, ⟨by decide, ⟨by decide, by decide⟩, by decide⟩, hb3, hb5, hb6', ERow.nil _ _ _, hOl, hB05⟩ ?_
  clear hb3 hb5 hb6' hOl hB05 hB5 hB04
  rintro q τ vs X ⟨j, acc, A, n, c, rfl, rfl, hj, hacc, hok, hb3, hb5, hb6, hE, hO, hB⟩
  by_cases hjn : j < S.t.length
  case neg =>
    obtain rfl : j = S.t.length := by omega
    rw [List.take_length] at hacc
    have hscan : wScan S.t = acc := hacc
    unfold DS.wopen
    rw [hscan]
    have hd := h.below hB
    obtain ⟨hn9, hbase, hlen⟩ := id hok
    obtain ⟨hbase1, hbase2⟩ := hbase
    have hkl := hE.at_.2.2
    by_cases hcor : acc.some_ = true ∧ acc.n = 0
    · rw [if_pos hcor]
      obtain ⟨h1, h2⟩ := hcor
      have h2' : (acc.n : Int) = 0 := by omega
      ((conv => whnf); (repeat ((first|refine kLa ?_|refine kLb ?_|refine kCa rfl ?_|refine kCb ?_|refine kCc ?_|refine kCd ?_|refine kCe ?_|refine kCf ?_|refine kCg ?_|refine kCh ?_|refine kCi ?_|refine kCj ?_|refine kQa ?_|refine kQb ?_|refine kGa ?_|refine kGb ?_|refine kHa ?_|refine kHb ?_); (conv => whnf))))
      (repeat (first | ((first|refine kLa ?_|refine kLb ?_|refine kCa rfl ?_|refine kCb ?_|refine kCc ?_|refine kCd ?_|refine kCe ?_|refine kCf ?_|refine kCg ?_|refine kCh ?_|refine kCi ?_|refine kCj ?_|refine kQa ?_|refine kQb ?_|refine kGa ?_|refine kGb ?_|refine kHa ?_|refine kHb ?_|refine kPa ?_|refine kPb ?_|refine kPc ?_|refine kEa ?_|refine kEb ?_|refine kBa ?_|refine kBb ?_|refine kBc (by omega) ?_|refine kBd (by omega) ?_|refine kBe (by omega) ?_|refine kBf (by omega) ?_|refine kRa ?_|refine kRb ?_|refine VRead.fld ?_|refine VRead.load1 (by assumption) ?_|refine VRead.load (by assumption) ?_|refine kRf ?_|refine kRg ?_|refine kRh ?_|refine kRi ?_|refine kBe rfl ?_|refine kBc rfl ?_|refine kWa (by omega) (by omega) ?_|refine kWb (by omega) (by omega) ?_|refine kRj (by omega) ?_|refine kRk ?_|refine VSem.convI ?_|refine VRead.convI ?_|refine VRead.rem (by omega) (by decide) ?_|refine VRead.neg ?_|refine VC.seq ?_); (conv => whnf)) | (refine VBool.yes h1 ?_; (conv => whnf)) | (refine VRead.loadB hb5 rfl rfl ?_; (conv => whnf))))
      refine VRead.ofW (v := .agg (kC Kp.zero none 0 0)) (fun _ => by kernel_rfl) ?_
      ((conv => whnf); (repeat ((first|refine kLa ?_|refine kLb ?_|refine kCa rfl ?_|refine kCb ?_|refine kCc ?_|refine kCd ?_|refine kCe ?_|refine kCf ?_|refine kCg ?_|refine kCh ?_|refine kCi ?_|refine kCj ?_|refine kQa ?_|refine kQb ?_|refine kGa ?_|refine kGb ?_|refine kHa ?_|refine kHb ?_); (conv => whnf))))
      ((repeat ((first|refine kLa ?_|refine kLb ?_|refine kCa rfl ?_|refine kCb ?_|refine kCc ?_|refine kCd ?_|refine kCe ?_|refine kCf ?_|refine kCg ?_|refine kCh ?_|refine kCi ?_|refine kCj ?_|refine kQa ?_|refine kQb ?_|refine kGa ?_|refine kGb ?_|refine kHa ?_|refine kHb ?_|refine kPa ?_|refine kPb ?_|refine kPc ?_|refine kEa ?_|refine kEb ?_|refine kBa ?_|refine kBb ?_|refine kBc (by omega) ?_|refine kBd (by omega) ?_|refine kBe (by omega) ?_|refine kBf (by omega) ?_|refine kRa ?_|refine kRb ?_|refine VRead.fld ?_|refine VRead.load1 (by assumption) ?_|refine VRead.load (by assumption) ?_|refine kRf ?_|refine kRg ?_|refine kRh ?_|refine kRi ?_|refine kBe rfl ?_|refine kBc rfl ?_|refine kWa (by omega) (by omega) ?_|refine kWb (by omega) (by omega) ?_|refine kRj (by omega) ?_|refine kRk ?_|refine VSem.convI ?_|refine VRead.convI ?_|refine VRead.rem (by omega) (by decide) ?_|refine VRead.neg ?_|refine VC.seq ?_); (conv => whnf))))
      refine VUnit.storeAB hb3 rfl rfl rfl (by simp [kC, Kp.zero, Value.oneCell']) ?_
      intro X2 hb32 hg2
      rw [setFrom_allW rfl] at hb32
      ((conv => whnf); (repeat ((first|refine kLa ?_|refine kLb ?_|refine kCa rfl ?_|refine kCb ?_|refine kCc ?_|refine kCd ?_|refine kCe ?_|refine kCf ?_|refine kCg ?_|refine kCh ?_|refine kCi ?_|refine kCj ?_|refine kQa ?_|refine kQb ?_|refine kGa ?_|refine kGb ?_|refine kHa ?_|refine kHb ?_); (conv => whnf))))
      ((repeat ((first|refine kLa ?_|refine kLb ?_|refine kCa rfl ?_|refine kCb ?_|refine kCc ?_|refine kCd ?_|refine kCe ?_|refine kCf ?_|refine kCg ?_|refine kCh ?_|refine kCi ?_|refine kCj ?_|refine kQa ?_|refine kQb ?_|refine kGa ?_|refine kGb ?_|refine kHa ?_|refine kHb ?_|refine kPa ?_|refine kPb ?_|refine kPc ?_|refine kEa ?_|refine kEb ?_|refine kBa ?_|refine kBb ?_|refine kBc (by omega) ?_|refine kBd (by omega) ?_|refine kBe (by omega) ?_|refine kBf (by omega) ?_|refine kRa ?_|refine kRb ?_|refine VRead.fld ?_|refine VRead.load1 (by assumption) ?_|refine VRead.load (by assumption) ?_|refine kRf ?_|refine kRg ?_|refine kRh ?_|refine kRi ?_|refine kBe rfl ?_|refine kBc rfl ?_|refine kWa (by omega) (by omega) ?_|refine kWb (by omega) (by omega) ?_|refine kRj (by omega) ?_|refine kRk ?_|refine VSem.convI ?_|refine VRead.convI ?_|refine VRead.rem (by omega) (by decide) ?_|refine VRead.neg ?_|refine VC.seq ?_); (conv => whnf))))
      refine VRes.op3 rfl hb32 rfl ?_
      have hB2 : Below W.heap.size W X2 := only_new hB hg2 (by omega) hB.size
      exact ⟨U, h.below hB2, Step.new hB2, rfl⟩
    rw [if_neg hcor]
    (conv => whnf)
    (iterate 8 ((first|refine kLa ?_|refine kLb ?_|refine kCa rfl ?_|refine kCb ?_|refine kCc ?_|refine kCd ?_|refine kCe ?_|refine kCf ?_|refine kCg ?_|refine kCh ?_|refine kCi ?_|refine kCj ?_|refine kQa ?_|refine kQb ?_|refine kGa ?_|refine kGb ?_|refine kHa ?_|refine kHb ?_|refine kPa ?_|refine kPb ?_|refine kPc ?_|refine kEa ?_|refine kEb ?_|refine kBa ?_|refine kBb ?_|refine kBc (by omega) ?_|refine kBd (by omega) ?_|refine kBe (by omega) ?_|refine kBf (by omega) ?_|refine kRa ?_|refine kRb ?_|refine VRead.fld ?_|refine VRead.load1 (by assumption) ?_|refine VRead.load (by assumption) ?_|refine kRf ?_|refine kRg ?_|refine kRh ?_|refine kRi ?_|refine kBe rfl ?_|refine kBc rfl ?_|refine kWa (by omega) (by omega) ?_|refine kWb (by omega) (by omega) ?_|refine kRj (by omega) ?_|refine kRk ?_|refine VSem.convI ?_|refine VRead.convI ?_|refine VRead.rem (by omega) (by decide) ?_|refine VRead.neg ?_|refine VC.seq ?_); (conv => whnf)))
    refine VC.cut [2, 4] [(2, 2), (4, 4), (57, 65)] (fun vs Y => vs = [.pointer none, .int .i64 0] ∧ Y = X) (by kernel_rfl) ?_ ?_
    · cases hsm : acc.some_ with
      | false =>
        ((conv => whnf); (repeat ((first|refine kLa ?_|refine kLb ?_|refine kCa rfl ?_|refine kCb ?_|refine kCc ?_|refine kCd ?_|refine kCe ?_|refine kCf ?_|refine kCg ?_|refine kCh ?_|refine kCi ?_|refine kCj ?_|refine kQa ?_|refine kQb ?_|refine kGa ?_|refine kGb ?_|refine kHa ?_|refine kHb ?_); (conv => whnf))))
        (repeat (first | ((first|refine kLa ?_|refine kLb ?_|refine kCa rfl ?_|refine kCb ?_|refine kCc ?_|refine kCd ?_|refine kCe ?_|refine kCf ?_|refine kCg ?_|refine kCh ?_|refine kCi ?_|refine kCj ?_|refine kQa ?_|refine kQb ?_|refine kGa ?_|refine kGb ?_|refine kHa ?_|refine kHb ?_|refine kPa ?_|refine kPb ?_|refine kPc ?_|refine kEa ?_|refine kEb ?_|refine kBa ?_|refine kBb ?_|refine kBc (by omega) ?_|refine kBd (by omega) ?_|refine kBe (by omega) ?_|refine kBf (by omega) ?_|refine kRa ?_|refine kRb ?_|refine VRead.fld ?_|refine VRead.load1 (by assumption) ?_|refine VRead.load (by assumption) ?_|refine kRf ?_|refine kRg ?_|refine kRh ?_|refine kRi ?_|refine kBe rfl ?_|refine kBc rfl ?_|refine kWa (by omega) (by omega) ?_|refine kWb (by omega) (by omega) ?_|refine kRj (by omega) ?_|refine kRk ?_|refine VSem.convI ?_|refine VRead.convI ?_|refine VRead.rem (by omega) (by decide) ?_|refine VRead.neg ?_|refine VC.seq ?_); (conv => whnf)) | (refine VBool.no hsm ?_; (conv => whnf))))
        exact ⟨rfl, rfl⟩
      | true =>
        have h2' : ¬ (acc.n : Int) = 0 := fun e => hcor ⟨hsm, by omega⟩
        ((conv => whnf); (repeat ((first|refine kLa ?_|refine kLb ?_|refine kCa rfl ?_|refine kCb ?_|refine kCc ?_|refine kCd ?_|refine kCe ?_|refine kCf ?_|refine kCg ?_|refine kCh ?_|refine kCi ?_|refine kCj ?_|refine kQa ?_|refine kQb ?_|refine kGa ?_|refine kGb ?_|refine kHa ?_|refine kHb ?_); (conv => whnf))))
        (repeat (first | ((first|refine kLa ?_|refine kLb ?_|refine kCa rfl ?_|refine kCb ?_|refine kCc ?_|refine kCd ?_|refine kCe ?_|refine kCf ?_|refine kCg ?_|refine kCh ?_|refine kCi ?_|refine kCj ?_|refine kQa ?_|refine kQb ?_|refine kGa ?_|refine kGb ?_|refine kHa ?_|refine kHb ?_|refine kPa ?_|refine kPb ?_|refine kPc ?_|refine kEa ?_|refine kEb ?_|refine kBa ?_|refine kBb ?_|refine kBc (by omega) ?_|refine kBd (by omega) ?_|refine kBe (by omega) ?_|refine kBf (by omega) ?_|refine kRa ?_|refine kRb ?_|refine VRead.fld ?_|refine VRead.load1 (by assumption) ?_|refine VRead.load (by assumption) ?_|refine kRf ?_|refine kRg ?_|refine kRh ?_|refine kRi ?_|refine kBe rfl ?_|refine kBc rfl ?_|refine kWa (by omega) (by omega) ?_|refine kWb (by omega) (by omega) ?_|refine kRj (by omega) ?_|refine kRk ?_|refine VSem.convI ?_|refine VRead.convI ?_|refine VRead.rem (by omega) (by decide) ?_|refine VRead.neg ?_|refine VC.seq ?_); (conv => whnf)) | (refine VBool.yes hsm ?_; (conv => whnf)) | (refine VRead.loadB hb5 rfl rfl ?_; (conv => whnf))))
        exact ⟨rfl, rfl⟩
    rintro τ2 vs Y ⟨rfl, hYX⟩
    have hB' : Below W.heap.size W Y := by rw [hYX]; exact hB
    rw [← hYX] at hb3 hb5 hb6 hE hd
    clear hYX hB hO
    have g5l := hb5.lt
    have g6l := hb6.lt
    have hE7 : Below Y.heap.size Y (Y.drewN 1) := below_drewN (Below.refl _ _) 1
    replace hb3 := hb3.later hE7
    replace hb5 := hb5.later hE7
    replace hb6 := hb6.later hE7
    replace hE := hE.below hE7
    have hB7 := hB'.trans (hE7.mono hB'.size)
    ((conv => whnf); (repeat ((first|refine kLa ?_|refine kLb ?_|refine kCa rfl ?_|refine kCb ?_|refine kCc ?_|refine kCd ?_|refine kCe ?_|refine kCf ?_|refine kCg ?_|refine kCh ?_|refine kCi ?_|refine kCj ?_|refine kQa ?_|refine kQb ?_|refine kGa ?_|refine kGb ?_|refine kHa ?_|refine kHb ?_); (conv => whnf))))
    ((repeat ((first|refine kLa ?_|refine kLb ?_|refine kCa rfl ?_|refine kCb ?_|refine kCc ?_|refine kCd ?_|refine kCe ?_|refine kCf ?_|refine kCg ?_|refine kCh ?_|refine kCi ?_|refine kCj ?_|refine kQa ?_|refine kQb ?_|refine kGa ?_|refine kGb ?_|refine kHa ?_|refine kHb ?_|refine kPa ?_|refine kPb ?_|refine kPc ?_|refine kEa ?_|refine kEb ?_|refine kBa ?_|refine kBb ?_|refine kBc (by omega) ?_|refine kBd (by omega) ?_|refine kBe (by omega) ?_|refine kBf (by omega) ?_|refine kRa ?_|refine kRb ?_|refine VRead.fld ?_|refine VRead.load1 (by assumption) ?_|refine VRead.load (by assumption) ?_|refine kRf ?_|refine kRg ?_|refine kRh ?_|refine kRi ?_|refine kBe rfl ?_|refine kBc rfl ?_|refine kWa (by omega) (by omega) ?_|refine kWb (by omega) (by omega) ?_|refine kRj (by omega) ?_|refine kRk ?_|refine VSem.convI ?_|refine VRead.convI ?_|refine VRead.rem (by omega) (by decide) ?_|refine VRead.neg ?_|refine VC.seq ?_); (conv => whnf))))
    refine VDraw.seg (fun Z => Blk Z g6 63 (kC acc.k A n c)) [([0, 1, 2, 3, 4, 5, 6, 7, 8, 9, 10, 11], 12), ([13, 14], 15)] [] (by kernel_rfl) (by kernel_rfl) hb6 ?_
    generalize Y.drewN 1 = Y1 at *
    (conv => whnf)
    (repeat ((first|refine VRead.loadBS (fun Z hZ => hZ) rfl rfl ?_|refine kLa ?_|refine kLb ?_|refine kCa rfl ?_|refine kCb ?_|refine kCc ?_|refine kCd ?_|refine kCe ?_|refine kCf ?_|refine kCg ?_|refine kCh ?_|refine kCi ?_|refine kCj ?_|refine kQa ?_|refine kQb ?_|refine kGa ?_|refine kGb ?_|refine kHa ?_|refine kHb ?_|refine kPa ?_|refine kPb ?_|refine kPc ?_|refine kEa ?_|refine kEb ?_|refine kBa ?_|refine kBb ?_|refine kBc (by omega) ?_|refine kBd (by omega) ?_|refine kBe (by omega) ?_|refine kBf (by omega) ?_|refine kRa ?_|refine kRb ?_|refine VRead.fld ?_|refine VRead.load1 (by assumption) ?_|refine VRead.load (by assumption) ?_|refine kRf ?_|refine kRg ?_|refine kRh ?_|refine kRi ?_|refine kBe rfl ?_|refine kBc rfl ?_|refine kWa (by omega) (by omega) ?_|refine kWb (by omega) (by omega) ?_|refine kRj (by omega) ?_|refine kRk ?_|refine VSem.convI ?_|refine VRead.convI ?_|refine VRead.rem (by omega) (by decide) ?_|refine VRead.neg ?_|refine VC.seq ?_); (conv => whnf)))
    refine VUnit.storeB hb5 rfl rfl rfl ?_
    intro Y2 hb52 hg2
    replace hE := hE.keepG hb5 hg2 (by decide) (hE.notBlk hb5 (by decide))
    replace hb3 := hb3.only hg2 (by omega)
    replace hb6 := hb6.only hg2 (by omega)
    have hB8 : Below W.heap.size W Y2 := only_new hB7 hg2 (by omega) hB7.size
    (conv => whnf)
    refine Keep.mk hb6 ?_
    (conv => whnf)
    ((repeat ((first|refine kLa ?_|refine kLb ?_|refine kCa rfl ?_|refine kCb ?_|refine kCc ?_|refine kCd ?_|refine kCe ?_|refine kCf ?_|refine kCg ?_|refine kCh ?_|refine kCi ?_|refine kCj ?_|refine kQa ?_|refine kQb ?_|refine kGa ?_|refine kGb ?_|refine kHa ?_|refine kHb ?_|refine kPa ?_|refine kPb ?_|refine kPc ?_|refine kEa ?_|refine kEb ?_|refine kBa ?_|refine kBb ?_|refine kBc (by omega) ?_|refine kBd (by omega) ?_|refine kBe (by omega) ?_|refine kBf (by omega) ?_|refine kRa ?_|refine kRb ?_|refine VRead.fld ?_|refine VRead.load1 (by assumption) ?_|refine VRead.load (by assumption) ?_|refine kRf ?_|refine kRg ?_|refine kRh ?_|refine kRi ?_|refine kBe rfl ?_|refine kBc rfl ?_|refine kWa (by omega) (by omega) ?_|refine kWb (by omega) (by omega) ?_|refine kRj (by omega) ?_|refine kRk ?_|refine VSem.convI ?_|refine VRead.convI ?_|refine VRead.rem (by omega) (by decide) ?_|refine VRead.neg ?_|refine VC.seq ?_); (conv => whnf))))
    refine VUnit.storeB hb52 rfl rfl rfl ?_
    intro Y3 hb53 hg3'
    replace hE := hE.keepG hb52 hg3' (by decide) (hE.notBlk hb52 (by decide))
    replace hb3 := hb3.only hg3' (by omega)
    replace hb6 := hb6.only hg3' (by omega)
    have hB9 : Below W.heap.size W Y3 := only_new hB8 hg3' (by omega) hB8.size
    have hw3 : Blk Y3 g5 105 (wlC d acc.wl) := by
      have e1 : acc.wl = ⟨acc.n, acc.k.base, acc.k.base + n⟩ := by unfold Scn.wl; rw [hkl]
      rw [e1]; exact hb53
    clear hb5 hb52 hb53 hg2 hg3' hB7 hB8 hE7 hB' hd
    (conv => whnf)
    refine Keep.mk hb6 ?_
    have hd := h.below hB9
    have hU := h.lt
    have n3 : ¬ U g3 := fun hu => by have := hU g3 hu; omega
    have n5 : ¬ U g5 := fun hu => by have := hU g5 hu; omega
    have n6 : ¬ U g6 := fun hu => by have := hU g6 hu; omega
    replace hE : ERow Y3 (NotU U) W.heap.size (.slice A n c) acc.k.es := hE.more (Nat.le_refl _) (fun j _ hj hu => by have : W.heap.size ≤ j := hj; have := hU j hu; omega)
    have st := Step.new (U := U) hB9
    have hwlok := hok.wl
    have hwn : acc.wl.n = (acc.n : Int) := rfl
    obtain ⟨R, hR⟩ : ∃ R, S.wnext acc = R := ⟨_, rfl⟩
    rw [hR]
    (conv => whnf)
    (iterate 6 ((first|refine kLa ?_|refine kLb ?_|refine kCa rfl ?_|refine kCb ?_|refine kCc ?_|refine kCd ?_|refine kCe ?_|refine kCf ?_|refine kCg ?_|refine kCh ?_|refine kCi ?_|refine kCj ?_|refine kQa ?_|refine kQb ?_|refine kGa ?_|refine kGb ?_|refine kHa ?_|refine kHb ?_|refine kPa ?_|refine kPb ?_|refine kPc ?_|refine kEa ?_|refine kEb ?_|refine kBa ?_|refine kBb ?_|refine kBc (by omega) ?_|refine kBd (by omega) ?_|refine kBe (by omega) ?_|refine kBf (by omega) ?_|refine kRa ?_|refine kRb ?_|refine VRead.fld ?_|refine VRead.load1 (by assumption) ?_|refine VRead.load (by assumption) ?_|refine kRf ?_|refine kRg ?_|refine kRh ?_|refine kRi ?_|refine kBe rfl ?_|refine kBc rfl ?_|refine kWa (by omega) (by omega) ?_|refine kWb (by omega) (by omega) ?_|refine kRj (by omega) ?_|refine kRk ?_|refine VSem.convI ?_|refine VRead.convI ?_|refine VRead.rem (by omega) (by decide) ?_|refine VRead.neg ?_|refine VC.seq ?_); (conv => whnf)))
    have hRc := wnext_calls S acc
    rw [hR] at hRc
    refine VC.cut [18] [(18, 18), (80, 90)] (fun vs X => vs = [.int .i64 R.1.1] ∧ ∃ U', Dsk X U' d R.1.2 ∧ Blk X g5 105 (wlC d R.2) ∧ ¬ U' g5 ∧ Step Y3 (addF U g5) X (addF U' g5)) (by kernel_rfl) ?_ ?_
    · cases hwh : acc.whole with
      | true =>
        have e1 : S.wnext acc = (S.sync (wName acc.n), acc.wl) := by unfold DS.wnext; rw [if_pos hwh]
        rw [e1] at hR
        subst hR
        ((conv => whnf); (repeat ((first|refine kLa ?_|refine kLb ?_|refine kCa rfl ?_|refine kCb ?_|refine kCc ?_|refine kCd ?_|refine kCe ?_|refine kCf ?_|refine kCg ?_|refine kCh ?_|refine kCi ?_|refine kCj ?_|refine kQa ?_|refine kQb ?_|refine kGa ?_|refine kGb ?_|refine kHa ?_|refine kHb ?_); (conv => whnf))))
        (repeat (first | ((first|refine kLa ?_|refine kLb ?_|refine kCa rfl ?_|refine kCb ?_|refine kCc ?_|refine kCd ?_|refine kCe ?_|refine kCf ?_|refine kCg ?_|refine kCh ?_|refine kCi ?_|refine kCj ?_|refine kQa ?_|refine kQb ?_|refine kGa ?_|refine kGb ?_|refine kHa ?_|refine kHb ?_|refine kPa ?_|refine kPb ?_|refine kPc ?_|refine kEa ?_|refine kEb ?_|refine kBa ?_|refine kBb ?_|refine kBc (by omega) ?_|refine kBd (by omega) ?_|refine kBe (by omega) ?_|refine kBf (by omega) ?_|refine kRa ?_|refine kRb ?_|refine VRead.fld ?_|refine VRead.load1 (by assumption) ?_|refine VRead.load (by assumption) ?_|refine kRf ?_|refine kRg ?_|refine kRh ?_|refine kRi ?_|refine kBe rfl ?_|refine kBc rfl ?_|refine kWa (by omega) (by omega) ?_|refine kWb (by omega) (by omega) ?_|refine kRj (by omega) ?_|refine kRk ?_|refine VSem.convI ?_|refine VRead.convI ?_|refine VRead.rem (by omega) (by decide) ?_|refine VRead.neg ?_|refine VC.seq ?_); (conv => whnf)) | (refine VBool.yes hwh ?_; (conv => whnf)) | (refine VRead.loadB hw3 rfl rfl ?_; (conv => whnf))))
        refine VCall.of (walName_any (acc.n : Int) Y3 (by omega)) ?_
        rintro e Z1 ⟨rfl, hZ1⟩
        refine ⟨_, rfl, ?_⟩
        ((conv => whnf); (repeat ((first|refine kLa ?_|refine kLb ?_|refine kCa rfl ?_|refine kCb ?_|refine kCc ?_|refine kCd ?_|refine kCe ?_|refine kCf ?_|refine kCg ?_|refine kCh ?_|refine kCi ?_|refine kCj ?_|refine kQa ?_|refine kQb ?_|refine kGa ?_|refine kGb ?_|refine kHa ?_|refine kHb ?_); (conv => whnf))))
        ((repeat ((first|refine kLa ?_|refine kLb ?_|refine kCa rfl ?_|refine kCb ?_|refine kCc ?_|refine kCd ?_|refine kCe ?_|refine kCf ?_|refine kCg ?_|refine kCh ?_|refine kCi ?_|refine kCj ?_|refine kQa ?_|refine kQb ?_|refine kGa ?_|refine kGb ?_|refine kHa ?_|refine kHb ?_|refine kPa ?_|refine kPb ?_|refine kPc ?_|refine kEa ?_|refine kEb ?_|refine kBa ?_|refine kBb ?_|refine kBc (by omega) ?_|refine kBd (by omega) ?_|refine kBe (by omega) ?_|refine kBf (by omega) ?_|refine kRa ?_|refine kRb ?_|refine VRead.fld ?_|refine VRead.load1 (by assumption) ?_|refine VRead.load (by assumption) ?_|refine kRf ?_|refine kRg ?_|refine kRh ?_|refine kRi ?_|refine kBe rfl ?_|refine kBc rfl ?_|refine kWa (by omega) (by omega) ?_|refine kWb (by omega) (by omega) ?_|refine kRj (by omega) ?_|refine kRk ?_|refine VSem.convI ?_|refine VRead.convI ?_|refine VRead.rem (by omega) (by decide) ?_|refine VRead.neg ?_|refine VC.seq ?_); (conv => whnf))))
        refine VCall.of (oSync Z1 U d S (wName acc.n) (hd.below hZ1) (by omega) (by have := wName_le (acc.n : Int); omega)) ?_
        rintro e Z2 ⟨rfl, U2, hd2, st2⟩
        refine ⟨_, rfl, ?_⟩
        obtain ⟨hw4, n52⟩ := ((Step.new (U := U) hZ1).trans st2).blk hw3 n5
        ((conv => whnf); (repeat ((first|refine kLa ?_|refine kLb ?_|refine kCa rfl ?_|refine kCb ?_|refine kCc ?_|refine kCd ?_|refine kCe ?_|refine kCf ?_|refine kCg ?_|refine kCh ?_|refine kCi ?_|refine kCj ?_|refine kQa ?_|refine kQb ?_|refine kGa ?_|refine kGb ?_|refine kHa ?_|refine kHb ?_); (conv => whnf))))
        ((repeat ((first|refine kLa ?_|refine kLb ?_|refine kCa rfl ?_|refine kCb ?_|refine kCc ?_|refine kCd ?_|refine kCe ?_|refine kCf ?_|refine kCg ?_|refine kCh ?_|refine kCi ?_|refine kCj ?_|refine kQa ?_|refine kQb ?_|refine kGa ?_|refine kGb ?_|refine kHa ?_|refine kHb ?_|refine kPa ?_|refine kPb ?_|refine kPc ?_|refine kEa ?_|refine kEb ?_|refine kBa ?_|refine kBb ?_|refine kBc (by omega) ?_|refine kBd (by omega) ?_|refine kBe (by omega) ?_|refine kBf (by omega) ?_|refine kRa ?_|refine kRb ?_|refine VRead.fld ?_|refine VRead.load1 (by assumption) ?_|refine VRead.load (by assumption) ?_|refine kRf ?_|refine kRg ?_|refine kRh ?_|refine kRi ?_|refine kBe rfl ?_|refine kBc rfl ?_|refine kWa (by omega) (by omega) ?_|refine kWb (by omega) (by omega) ?_|refine kRj (by omega) ?_|refine kRk ?_|refine VSem.convI ?_|refine VRead.convI ?_|refine VRead.rem (by omega) (by decide) ?_|refine VRead.neg ?_|refine VC.seq ?_); (conv => whnf))))
        exact ⟨rfl, U2, hd2, hw4, n52, ((Step.new (U := U) hZ1).trans st2).add g5⟩
      | false =>
        have e1 : S.wnext acc = S.wanew acc.wl acc.k := by unfold DS.wnext; rw [if_neg (by rw [hwh]; simp)]
        rw [e1] at hR
        subst hR
        ((conv => whnf); (repeat ((first|refine kLa ?_|refine kLb ?_|refine kCa rfl ?_|refine kCb ?_|refine kCc ?_|refine kCd ?_|refine kCe ?_|refine kCf ?_|refine kCg ?_|refine kCh ?_|refine kCi ?_|refine kCj ?_|refine kQa ?_|refine kQb ?_|refine kGa ?_|refine kGb ?_|refine kHa ?_|refine kHb ?_); (conv => whnf))))
        (repeat (first | ((first|refine kLa ?_|refine kLb ?_|refine kCa rfl ?_|refine kCb ?_|refine kCc ?_|refine kCd ?_|refine kCe ?_|refine kCf ?_|refine kCg ?_|refine kCh ?_|refine kCi ?_|refine kCj ?_|refine kQa ?_|refine kQb ?_|refine kGa ?_|refine kGb ?_|refine kHa ?_|refine kHb ?_|refine kPa ?_|refine kPb ?_|refine kPc ?_|refine kEa ?_|refine kEb ?_|refine kBa ?_|refine kBb ?_|refine kBc (by omega) ?_|refine kBd (by omega) ?_|refine kBe (by omega) ?_|refine kBf (by omega) ?_|refine kRa ?_|refine kRb ?_|refine VRead.fld ?_|refine VRead.load1 (by assumption) ?_|refine VRead.load (by assumption) ?_|refine kRf ?_|refine kRg ?_|refine kRh ?_|refine kRi ?_|refine kBe rfl ?_|refine kBc rfl ?_|refine kWa (by omega) (by omega) ?_|refine kWb (by omega) (by omega) ?_|refine kRj (by omega) ?_|refine kRk ?_|refine VSem.convI ?_|refine VRead.convI ?_|refine VRead.rem (by omega) (by decide) ?_|refine VRead.neg ?_|refine VC.seq ?_); (conv => whnf)) | (refine VBool.no hwh ?_; (conv => whnf)) | (refine VRead.loadAB1 hb6 rfl rfl ?_; (conv => whnf))))
        refine VCall.of (walAnew_any Y3 U g5 d S acc.wl acc.k A n c hd hw3 n5 hwlok (hE.at_.1.more (fun j hj _ => hj)) (by omega) (by omega) (by omega)) ?_
        rintro e Z2 ⟨rfl, U2, hd2, hw4, n52, st2⟩
        refine ⟨_, rfl, ?_⟩
        ((conv => whnf); (repeat ((first|refine kLa ?_|refine kLb ?_|refine kCa rfl ?_|refine kCb ?_|refine kCc ?_|refine kCd ?_|refine kCe ?_|refine kCf ?_|refine kCg ?_|refine kCh ?_|refine kCi ?_|refine kCj ?_|refine kQa ?_|refine kQb ?_|refine kGa ?_|refine kGb ?_|refine kHa ?_|refine kHb ?_); (conv => whnf))))
        ((repeat ((first|refine kLa ?_|refine kLb ?_|refine kCa rfl ?_|refine kCb ?_|refine kCc ?_|refine kCd ?_|refine kCe ?_|refine kCf ?_|refine kCg ?_|refine kCh ?_|refine kCi ?_|refine kCj ?_|refine kQa ?_|refine kQb ?_|refine kGa ?_|refine kGb ?_|refine kHa ?_|refine kHb ?_|refine kPa ?_|refine kPb ?_|refine kPc ?_|refine kEa ?_|refine kEb ?_|refine kBa ?_|refine kBb ?_|refine kBc (by omega) ?_|refine kBd (by omega) ?_|refine kBe (by omega) ?_|refine kBf (by omega) ?_|refine kRa ?_|refine kRb ?_|refine VRead.fld ?_|refine VRead.load1 (by assumption) ?_|refine VRead.load (by assumption) ?_|refine kRf ?_|refine kRg ?_|refine kRh ?_|refine kRi ?_|refine kBe rfl ?_|refine kBc rfl ?_|refine kWa (by omega) (by omega) ?_|refine kWb (by omega) (by omega) ?_|refine kRj (by omega) ?_|refine kRk ?_|refine VSem.convI ?_|refine VRead.convI ?_|refine VRead.rem (by omega) (by decide) ?_|refine VRead.neg ?_|refine VC.seq ?_); (conv => whnf))))
        exact ⟨rfl, U2, hd2, hw4, n52, st2⟩
    rintro τ3 vs X2 ⟨rfl, U2, hd2, hw4, n52, st2⟩
    obtain ⟨hRc1, hRn⟩ := hRc
    refine VC.cut [18] [(18, 18), (91, 94)] (fun vs X => vs = [.int .i64 (DS.wend R).1] ∧ ∃ U', Dsk X U' d (DS.wend R).2 ∧ Blk X g5 105 (wlC d R.2) ∧ ¬ U' g5 ∧ Step Y3 (addF U g5) X (addF U' g5)) (by kernel_rfl) ?_ ?_
    · by_cases cr : R.1.1 = 0
      case neg =>
        have e1 : DS.wend R = R.1 := by unfold DS.wend; rw [andT_no cr]
        rw [e1]
        ((conv => whnf); (repeat ((first|refine kLa ?_|refine kLb ?_|refine kCa rfl ?_|refine kCb ?_|refine kCc ?_|refine kCd ?_|refine kCe ?_|refine kCf ?_|refine kCg ?_|refine kCh ?_|refine kCi ?_|refine kCj ?_|refine kQa ?_|refine kQb ?_|refine kGa ?_|refine kGb ?_|refine kHa ?_|refine kHb ?_); (conv => whnf))))
        (repeat (first | ((first|refine kLa ?_|refine kLb ?_|refine kCa rfl ?_|refine kCb ?_|refine kCc ?_|refine kCd ?_|refine kCe ?_|refine kCf ?_|refine kCg ?_|refine kCh ?_|refine kCi ?_|refine kCj ?_|refine kQa ?_|refine kQb ?_|refine kGa ?_|refine kGb ?_|refine kHa ?_|refine kHb ?_|refine kPa ?_|refine kPb ?_|refine kPc ?_|refine kEa ?_|refine kEb ?_|refine kBa ?_|refine kBb ?_|refine kBc (by omega) ?_|refine kBd (by omega) ?_|refine kBe (by omega) ?_|refine kBf (by omega) ?_|refine kRa ?_|refine kRb ?_|refine VRead.fld ?_|refine VRead.load1 (by assumption) ?_|refine VRead.load (by assumption) ?_|refine kRf ?_|refine kRg ?_|refine kRh ?_|refine kRi ?_|refine kBe rfl ?_|refine kBc rfl ?_|refine kWa (by omega) (by omega) ?_|refine kWb (by omega) (by omega) ?_|refine kRj (by omega) ?_|refine kRk ?_|refine VSem.convI ?_|refine VRead.convI ?_|refine VRead.rem (by omega) (by decide) ?_|refine VRead.neg ?_|refine VC.seq ?_); (conv => whnf)) | (refine kBd cr ?_; (conv => whnf))))
        exact ⟨rfl, U2, hd2, hw4, n52, st2⟩
      have e1 : DS.wend R = R.1.2.clear wPre (wName R.2.n) R.1.2.keys := by unfold DS.wend; rw [andT_ok cr]
      rw [e1]
      ((conv => whnf); (repeat ((first|refine kLa ?_|refine kLb ?_|refine kCa rfl ?_|refine kCb ?_|refine kCc ?_|refine kCd ?_|refine kCe ?_|refine kCf ?_|refine kCg ?_|refine kCh ?_|refine kCi ?_|refine kCj ?_|refine kQa ?_|refine kQb ?_|refine kGa ?_|refine kGb ?_|refine kHa ?_|refine kHb ?_); (conv => whnf))))
      (repeat (first | ((first|refine kLa ?_|refine kLb ?_|refine kCa rfl ?_|refine kCb ?_|refine kCc ?_|refine kCd ?_|refine kCe ?_|refine kCf ?_|refine kCg ?_|refine kCh ?_|refine kCi ?_|refine kCj ?_|refine kQa ?_|refine kQb ?_|refine kGa ?_|refine kGb ?_|refine kHa ?_|refine kHb ?_|refine kPa ?_|refine kPb ?_|refine kPc ?_|refine kEa ?_|refine kEb ?_|refine kBa ?_|refine kBb ?_|refine kBc (by omega) ?_|refine kBd (by omega) ?_|refine kBe (by omega) ?_|refine kBf (by omega) ?_|refine kRa ?_|refine kRb ?_|refine VRead.fld ?_|refine VRead.load1 (by assumption) ?_|refine VRead.load (by assumption) ?_|refine kRf ?_|refine kRg ?_|refine kRh ?_|refine kRi ?_|refine kBe rfl ?_|refine kBc rfl ?_|refine kWa (by omega) (by omega) ?_|refine kWb (by omega) (by omega) ?_|refine kRj (by omega) ?_|refine kRk ?_|refine VSem.convI ?_|refine VRead.convI ?_|refine VRead.rem (by omega) (by decide) ?_|refine VRead.neg ?_|refine VC.seq ?_); (conv => whnf)) | (refine kBc cr ?_; (conv => whnf))))
      refine VCall.of (walClears_any X2 U2 g5 d R.1.2 R.2 hd2 hw4 n52 (by omega) (by omega)) ?_
      rintro e X3 ⟨rfl, U3, hd3, st3⟩
      refine ⟨_, rfl, ?_⟩
      obtain ⟨hw5, n53⟩ := st3.blk hw4 n52
      ((conv => whnf); (repeat ((first|refine kLa ?_|refine kLb ?_|refine kCa rfl ?_|refine kCb ?_|refine kCc ?_|refine kCd ?_|refine kCe ?_|refine kCf ?_|refine kCg ?_|refine kCh ?_|refine kCi ?_|refine kCj ?_|refine kQa ?_|refine kQb ?_|refine kGa ?_|refine kGb ?_|refine kHa ?_|refine kHb ?_); (conv => whnf))))
      ((repeat ((first|refine kLa ?_|refine kLb ?_|refine kCa rfl ?_|refine kCb ?_|refine kCc ?_|refine kCd ?_|refine kCe ?_|refine kCf ?_|refine kCg ?_|refine kCh ?_|refine kCi ?_|refine kCj ?_|refine kQa ?_|refine kQb ?_|refine kGa ?_|refine kGb ?_|refine kHa ?_|refine kHb ?_|refine kPa ?_|refine kPb ?_|refine kPc ?_|refine kEa ?_|refine kEb ?_|refine kBa ?_|refine kBb ?_|refine kBc (by omega) ?_|refine kBd (by omega) ?_|refine kBe (by omega) ?_|refine kBf (by omega) ?_|refine kRa ?_|refine kRb ?_|refine VRead.fld ?_|refine VRead.load1 (by assumption) ?_|refine VRead.load (by assumption) ?_|refine kRf ?_|refine kRg ?_|refine kRh ?_|refine kRi ?_|refine kBe rfl ?_|refine kBc rfl ?_|refine kWa (by omega) (by omega) ?_|refine kWb (by omega) (by omega) ?_|refine kRj (by omega) ?_|refine kRk ?_|refine VSem.convI ?_|refine VRead.convI ?_|refine VRead.rem (by omega) (by decide) ?_|refine VRead.neg ?_|refine VC.seq ?_); (conv => whnf))))
      exact ⟨rfl, U3, hd3, hw5, n53, st2.trans (st3.add g5)⟩
    clear hd2 hw4 n52 st2
    rintro τ4 vs X3 ⟨rfl, U3, hd3, hw5, n53, st3⟩
    obtain ⟨E, hEe⟩ : ∃ E, DS.wend R = E := ⟨_, rfl⟩
    rw [hEe] at hd3 ⊢
    obtain ⟨hb33, n33⟩ := st3.blk hb3 (fun h => by
      rcases h with h | h
      · exact n3 h
      · omega)
    obtain ⟨hb63, n63⟩ := st3.blk hb6 (fun h => by
      rcases h with h | h
      · exact n6 h
      · omega)
    have hE3 := ((hE.addU hw3 (by decide) (by decide)).step st3).unU
    have stW := Step.past hB9 st3 (by omega)
    have hg3n : ¬ U3 g3 := fun hu => n33 (.inl hu)
    have hg6n : ¬ U3 g6 := fun hu => n63 (.inl hu)
    clear hb3 hb6 hE hw3 st3 st hd
    by_cases cE : E.1 = 0
    case neg =>
      rw [if_neg cE]
      ((conv => whnf); (repeat ((first|refine kLa ?_|refine kLb ?_|refine kCa rfl ?_|refine kCb ?_|refine kCc ?_|refine kCd ?_|refine kCe ?_|refine kCf ?_|refine kCg ?_|refine kCh ?_|refine kCi ?_|refine kCj ?_|refine kQa ?_|refine kQb ?_|refine kGa ?_|refine kGb ?_|refine kHa ?_|refine kHb ?_); (conv => whnf))))
      (repeat (first | ((first|refine kLa ?_|refine kLb ?_|refine kCa rfl ?_|refine kCb ?_|refine kCc ?_|refine kCd ?_|refine kCe ?_|refine kCf ?_|refine kCg ?_|refine kCh ?_|refine kCi ?_|refine kCj ?_|refine kQa ?_|refine kQb ?_|refine kGa ?_|refine kGb ?_|refine kHa ?_|refine kHb ?_|refine kPa ?_|refine kPb ?_|refine kPc ?_|refine kEa ?_|refine kEb ?_|refine kBa ?_|refine kBb ?_|refine kBc (by omega) ?_|refine kBd (by omega) ?_|refine kBe (by omega) ?_|refine kBf (by omega) ?_|refine kRa ?_|refine kRb ?_|refine VRead.fld ?_|refine VRead.load1 (by assumption) ?_|refine VRead.load (by assumption) ?_|refine kRf ?_|refine kRg ?_|refine kRh ?_|refine kRi ?_|refine kBe rfl ?_|refine kBc rfl ?_|refine kWa (by omega) (by omega) ?_|refine kWb (by omega) (by omega) ?_|refine kRj (by omega) ?_|refine kRk ?_|refine VSem.convI ?_|refine VRead.convI ?_|refine VRead.rem (by omega) (by decide) ?_|refine VRead.neg ?_|refine VC.seq ?_); (conv => whnf)) | (refine kBf cE ?_; (conv => whnf))))
      refine VRead.ofW (v := .agg (kC Kp.zero none 0 0)) (fun _ => by kernel_rfl) ?_
      ((conv => whnf); (repeat ((first|refine kLa ?_|refine kLb ?_|refine kCa rfl ?_|refine kCb ?_|refine kCc ?_|refine kCd ?_|refine kCe ?_|refine kCf ?_|refine kCg ?_|refine kCh ?_|refine kCi ?_|refine kCj ?_|refine kQa ?_|refine kQb ?_|refine kGa ?_|refine kGb ?_|refine kHa ?_|refine kHb ?_); (conv => whnf))))
      ((repeat ((first|refine kLa ?_|refine kLb ?_|refine kCa rfl ?_|refine kCb ?_|refine kCc ?_|refine kCd ?_|refine kCe ?_|refine kCf ?_|refine kCg ?_|refine kCh ?_|refine kCi ?_|refine kCj ?_|refine kQa ?_|refine kQb ?_|refine kGa ?_|refine kGb ?_|refine kHa ?_|refine kHb ?_|refine kPa ?_|refine kPb ?_|refine kPc ?_|refine kEa ?_|refine kEb ?_|refine kBa ?_|refine kBb ?_|refine kBc (by omega) ?_|refine kBd (by omega) ?_|refine kBe (by omega) ?_|refine kBf (by omega) ?_|refine kRa ?_|refine kRb ?_|refine VRead.fld ?_|refine VRead.load1 (by assumption) ?_|refine VRead.load (by assumption) ?_|refine kRf ?_|refine kRg ?_|refine kRh ?_|refine kRi ?_|refine kBe rfl ?_|refine kBc rfl ?_|refine kWa (by omega) (by omega) ?_|refine kWb (by omega) (by omega) ?_|refine kRj (by omega) ?_|refine kRk ?_|refine VSem.convI ?_|refine VRead.convI ?_|refine VRead.rem (by omega) (by decide) ?_|refine VRead.neg ?_|refine VC.seq ?_); (conv => whnf))))
      refine VUnit.storeAB hb33 rfl rfl rfl (by simp [kC, Kp.zero, Value.oneCell']) ?_
      intro X4 hb34 hg4
      rw [setFrom_allW rfl] at hb34
      ((conv => whnf); (repeat ((first|refine kLa ?_|refine kLb ?_|refine kCa rfl ?_|refine kCb ?_|refine kCc ?_|refine kCd ?_|refine kCe ?_|refine kCf ?_|refine kCg ?_|refine kCh ?_|refine kCi ?_|refine kCj ?_|refine kQa ?_|refine kQb ?_|refine kGa ?_|refine kGb ?_|refine kHa ?_|refine kHb ?_); (conv => whnf))))
      ((repeat ((first|refine kLa ?_|refine kLb ?_|refine kCa rfl ?_|refine kCb ?_|refine kCc ?_|refine kCd ?_|refine kCe ?_|refine kCf ?_|refine kCg ?_|refine kCh ?_|refine kCi ?_|refine kCj ?_|refine kQa ?_|refine kQb ?_|refine kGa ?_|refine kGb ?_|refine kHa ?_|refine kHb ?_|refine kPa ?_|refine kPb ?_|refine kPc ?_|refine kEa ?_|refine kEb ?_|refine kBa ?_|refine kBb ?_|refine kBc (by omega) ?_|refine kBd (by omega) ?_|refine kBe (by omega) ?_|refine kBf (by omega) ?_|refine kRa ?_|refine kRb ?_|refine VRead.fld ?_|refine VRead.load1 (by assumption) ?_|refine VRead.load (by assumption) ?_|refine kRf ?_|refine kRg ?_|refine kRh ?_|refine kRi ?_|refine kBe rfl ?_|refine kBc rfl ?_|refine kWa (by omega) (by omega) ?_|refine kWb (by omega) (by omega) ?_|refine kRj (by omega) ?_|refine kRk ?_|refine VSem.convI ?_|refine VRead.convI ?_|refine VRead.rem (by omega) (by decide) ?_|refine VRead.neg ?_|refine VC.seq ?_); (conv => whnf))))
      refine VRes.op3 rfl hb34 rfl ?_
      exact ⟨U3, hd3.cell hg4 hg3n, stW.pastG hg4 (by omega), rfl⟩
    rw [if_pos cE]
    ((conv => whnf); (repeat ((first|refine kLa ?_|refine kLb ?_|refine kCa rfl ?_|refine kCb ?_|refine kCc ?_|refine kCd ?_|refine kCe ?_|refine kCf ?_|refine kCg ?_|refine kCh ?_|refine kCi ?_|refine kCj ?_|refine kQa ?_|refine kQb ?_|refine kGa ?_|refine kGb ?_|refine kHa ?_|refine kHb ?_); (conv => whnf))))
    (repeat (first | ((first|refine kLa ?_|refine kLb ?_|refine kCa rfl ?_|refine kCb ?_|refine kCc ?_|refine kCd ?_|refine kCe ?_|refine kCf ?_|refine kCg ?_|refine kCh ?_|refine kCi ?_|refine kCj ?_|refine kQa ?_|refine kQb ?_|refine kGa ?_|refine kGb ?_|refine kHa ?_|refine kHb ?_|refine kPa ?_|refine kPb ?_|refine kPc ?_|refine kEa ?_|refine kEb ?_|refine kBa ?_|refine kBb ?_|refine kBc (by omega) ?_|refine kBd (by omega) ?_|refine kBe (by omega) ?_|refine kBf (by omega) ?_|refine kRa ?_|refine kRb ?_|refine VRead.fld ?_|refine VRead.load1 (by assumption) ?_|refine VRead.load (by assumption) ?_|refine kRf ?_|refine kRg ?_|refine kRh ?_|refine kRi ?_|refine kBe rfl ?_|refine kBc rfl ?_|refine kWa (by omega) (by omega) ?_|refine kWb (by omega) (by omega) ?_|refine kRj (by omega) ?_|refine kRk ?_|refine VSem.convI ?_|refine VRead.convI ?_|refine VRead.rem (by omega) (by decide) ?_|refine VRead.neg ?_|refine VC.seq ?_); (conv => whnf)) | (refine kBe cE ?_; (conv => whnf))))
    have hE4 : Below X3.heap.size X3 (X3.drewN 1) := below_drewN (Below.refl _ _) 1
    replace hb33 := hb33.later hE4
    replace hb63 := hb63.later hE4
    replace hw5 := hw5.later hE4
    replace hE3 := hE3.below hE4
    replace hd3 := hd3.below hE4
    replace stW := stW.trans (Step.new (U := U3) hE4)
    refine VDraw.seg (fun Z => Blk Z g6 63 (kC acc.k A n c)) [([0, 1, 2], 3)] [4] (by kernel_rfl) (by kernel_rfl) hb63 ?_
    generalize X3.drewN 1 = X5 at *
    (conv => whnf)
    (repeat ((first|refine VRead.loadAB (fun Z hZ => hZ) rfl rfl ?_|refine kLa ?_|refine kLb ?_|refine kCa rfl ?_|refine kCb ?_|refine kCc ?_|refine kCd ?_|refine kCe ?_|refine kCf ?_|refine kCg ?_|refine kCh ?_|refine kCi ?_|refine kCj ?_|refine kQa ?_|refine kQb ?_|refine kGa ?_|refine kGb ?_|refine kHa ?_|refine kHb ?_|refine kPa ?_|refine kPb ?_|refine kPc ?_|refine kEa ?_|refine kEb ?_|refine kBa ?_|refine kBb ?_|refine kBc (by omega) ?_|refine kBd (by omega) ?_|refine kBe (by omega) ?_|refine kBf (by omega) ?_|refine kRa ?_|refine kRb ?_|refine VRead.fld ?_|refine VRead.load1 (by assumption) ?_|refine VRead.load (by assumption) ?_|refine kRf ?_|refine kRg ?_|refine kRh ?_|refine kRi ?_|refine kBe rfl ?_|refine kBc rfl ?_|refine kWa (by omega) (by omega) ?_|refine kWb (by omega) (by omega) ?_|refine kRj (by omega) ?_|refine kRk ?_|refine VSem.convI ?_|refine VRead.convI ?_|refine VRead.rem (by omega) (by decide) ?_|refine VRead.neg ?_|refine VC.seq ?_); (conv => whnf)))
    refine VUnit.storeAB hb33 rfl rfl rfl (by simp [kC, Value.oneCell']) ?_
    intro X6 hb36 hg6'
    rw [setFrom_allW (vs := kC acc.k A n c) (by rfl)] at hb36
    replace hE3 := hE3.keepG hb33 hg6' (by decide) (hE3.notBlk hb33 (by decide))
    replace hb63 := hb63.only hg6' (by omega)
    replace hw5 := hw5.only hg6' (by omega)
    (conv => whnf)
    refine Keep.mk hb63 ?_
    ((conv => whnf); (repeat ((first|refine kLa ?_|refine kLb ?_|refine kCa rfl ?_|refine kCb ?_|refine kCc ?_|refine kCd ?_|refine kCe ?_|refine kCf ?_|refine kCg ?_|refine kCh ?_|refine kCi ?_|refine kCj ?_|refine kQa ?_|refine kQb ?_|refine kGa ?_|refine kGb ?_|refine kHa ?_|refine kHb ?_); (conv => whnf))))
    ((repeat ((first|refine kLa ?_|refine kLb ?_|refine kCa rfl ?_|refine kCb ?_|refine kCc ?_|refine kCd ?_|refine kCe ?_|refine kCf ?_|refine kCg ?_|refine kCh ?_|refine kCi ?_|refine kCj ?_|refine kQa ?_|refine kQb ?_|refine kGa ?_|refine kGb ?_|refine kHa ?_|refine kHb ?_|refine kPa ?_|refine kPb ?_|refine kPc ?_|refine kEa ?_|refine kEb ?_|refine kBa ?_|refine kBb ?_|refine kBc (by omega) ?_|refine kBd (by omega) ?_|refine kBe (by omega) ?_|refine kBf (by omega) ?_|refine kRa ?_|refine kRb ?_|refine VRead.fld ?_|refine VRead.load1 (by assumption) ?_|refine VRead.load (by assumption) ?_|refine kRf ?_|refine kRg ?_|refine kRh ?_|refine kRi ?_|refine kBe rfl ?_|refine kBc rfl ?_|refine kWa (by omega) (by omega) ?_|refine kWb (by omega) (by omega) ?_|refine kRj (by omega) ?_|refine kRk ?_|refine VSem.convI ?_|refine VRead.convI ?_|refine VRead.rem (by omega) (by decide) ?_|refine VRead.neg ?_|refine VC.seq ?_); (conv => whnf))))
    refine VRes.op3 rfl hb36 rfl ?_
    exact ⟨U3, hd3.cell hg6' hg3n, stW.pastG hg6' (by omega), g5, A, n, c, rfl, hw5, n53, by omega, hE3⟩
  obtain ⟨p, hp⟩ : ∃ p, S.t[j]? = some p := ⟨_, List.getElem?_eq_getElem hjn⟩
  have hpm := List.mem_of_getElem? hp
  have hpn := (h.wf.t.names p hpm).2
  have htk : (S.t.take (j + 1)).foldl woStep ⟨false, 0, Kp.zero, false⟩ = woStep acc p := by rw [take_snoc hp, List.foldl_append, hacc]; rfl
  have hpu := len_used hpm
  obtain ⟨ad, u, rfl, _, hu, hcell⟩ := (Reads.row hO).at_ hjn
  obtain ⟨x', hx', rfl⟩ := map_at hu
  rw [List.getElem?_map, hp] at hx'
  obtain rfl := Option.some.inj hx'
  have hcell' : X.cell? (ad.add j) = some (.string (txt p.1)) := hcell
  ((conv => whnf); (repeat ((first|refine kLa ?_|refine kLb ?_|refine kCa rfl ?_|refine kCb ?_|refine kCc ?_|refine kCd ?_|refine kCe ?_|refine kCf ?_|refine kCg ?_|refine kCh ?_|refine kCi ?_|refine kCj ?_|refine kQa ?_|refine kQb ?_|refine kGa ?_|refine kGb ?_|refine kHa ?_|refine kHb ?_); (conv => whnf))))
  (repeat (first | ((first|refine kLa ?_|refine kLb ?_|refine kCa rfl ?_|refine kCb ?_|refine kCc ?_|refine kCd ?_|refine kCe ?_|refine kCf ?_|refine kCg ?_|refine kCh ?_|refine kCi ?_|refine kCj ?_|refine kQa ?_|refine kQb ?_|refine kGa ?_|refine kGb ?_|refine kHa ?_|refine kHb ?_|refine kPa ?_|refine kPb ?_|refine kPc ?_|refine kEa ?_|refine kEb ?_|refine kBa ?_|refine kBb ?_|refine kBc (by omega) ?_|refine kBd (by omega) ?_|refine kBe (by omega) ?_|refine kBf (by omega) ?_|refine kRa ?_|refine kRb ?_|refine VRead.fld ?_|refine VRead.load1 (by assumption) ?_|refine VRead.load (by assumption) ?_|refine kRf ?_|refine kRg ?_|refine kRh ?_|refine kRi ?_|refine kBe rfl ?_|refine kBc rfl ?_|refine kWa (by omega) (by omega) ?_|refine kWb (by omega) (by omega) ?_|refine kRj (by omega) ?_|refine kRk ?_|refine VSem.convI ?_|refine VRead.convI ?_|refine VRead.rem (by omega) (by decide) ?_|refine VRead.neg ?_|refine VC.seq ?_); (conv => whnf)) | (refine kRj hjn ?_; (conv => whnf))))
  refine VCall.of (walNumber_any p.1 X (by omega)) ?_
  rintro e X2 ⟨rfl, hB2⟩
  refine ⟨_, rfl, ?_⟩
  have hB02 := hB.trans (hB2.mono hB.size)
  replace hb3 := hb3.later hB2
  replace hb5 := hb5.later hB2
  replace hb6 := hb6.later hB2
  replace hE := hE.below hB2
  replace hO := rows_below hO hB2 (Nat.le_refl _)
  cases hN : wNum p.1 with
  | none =>
    have e1 : woStep acc p = acc := by unfold woStep; rw [hN]
    ((conv => whnf); (repeat ((first|refine kLa ?_|refine kLb ?_|refine kCa rfl ?_|refine kCb ?_|refine kCc ?_|refine kCd ?_|refine kCe ?_|refine kCf ?_|refine kCg ?_|refine kCh ?_|refine kCi ?_|refine kCj ?_|refine kQa ?_|refine kQb ?_|refine kGa ?_|refine kGb ?_|refine kHa ?_|refine kHb ?_); (conv => whnf))))
    ((repeat ((first|refine kLa ?_|refine kLb ?_|refine kCa rfl ?_|refine kCb ?_|refine kCc ?_|refine kCd ?_|refine kCe ?_|refine kCf ?_|refine kCg ?_|refine kCh ?_|refine kCi ?_|refine kCj ?_|refine kQa ?_|refine kQb ?_|refine kGa ?_|refine kGb ?_|refine kHa ?_|refine kHb ?_|refine kPa ?_|refine kPb ?_|refine kPc ?_|refine kEa ?_|refine kEb ?_|refine kBa ?_|refine kBb ?_|refine kBc (by omega) ?_|refine kBd (by omega) ?_|refine kBe (by omega) ?_|refine kBf (by omega) ?_|refine kRa ?_|refine kRb ?_|refine VRead.fld ?_|refine VRead.load1 (by assumption) ?_|refine VRead.load (by assumption) ?_|refine kRf ?_|refine kRg ?_|refine kRh ?_|refine kRi ?_|refine kBe rfl ?_|refine kBc rfl ?_|refine kWa (by omega) (by omega) ?_|refine kWb (by omega) (by omega) ?_|refine kRj (by omega) ?_|refine kRk ?_|refine VSem.convI ?_|refine VRead.convI ?_|refine VRead.rem (by omega) (by decide) ?_|refine VRead.neg ?_|refine VC.seq ?_); (conv => whnf))))
    exact ⟨_, by omega, j + 1, acc, A, n, c, rfl, rfl, by omega, by rw [htk, e1], hok, hb3, hb5, hb6, hE, hO, hB02⟩
  | some nn =>
    obtain ⟨_, hk1, hk2⟩ := wNum_some hN
    have hd2 := h.below hB02
    ((conv => whnf); (repeat ((first|refine kLa ?_|refine kLb ?_|refine kCa rfl ?_|refine kCb ?_|refine kCc ?_|refine kCd ?_|refine kCe ?_|refine kCf ?_|refine kCg ?_|refine kCh ?_|refine kCi ?_|refine kCj ?_|refine kQa ?_|refine kQb ?_|refine kGa ?_|refine kGb ?_|refine kHa ?_|refine kHb ?_); (conv => whnf))))
    ((repeat ((first|refine kLa ?_|refine kLb ?_|refine kCa rfl ?_|refine kCb ?_|refine kCc ?_|refine kCd ?_|refine kCe ?_|refine kCf ?_|refine kCg ?_|refine kCh ?_|refine kCi ?_|refine kCj ?_|refine kQa ?_|refine kQb ?_|refine kGa ?_|refine kGb ?_|refine kHa ?_|refine kHb ?_|refine kPa ?_|refine kPb ?_|refine kPc ?_|refine kEa ?_|refine kEb ?_|refine kBa ?_|refine kBb ?_|refine kBc (by omega) ?_|refine kBd (by omega) ?_|refine kBe (by omega) ?_|refine kBf (by omega) ?_|refine kRa ?_|refine kRb ?_|refine VRead.fld ?_|refine VRead.load1 (by assumption) ?_|refine VRead.load (by assumption) ?_|refine kRf ?_|refine kRg ?_|refine kRh ?_|refine kRi ?_|refine kBe rfl ?_|refine kBc rfl ?_|refine kWa (by omega) (by omega) ?_|refine kWb (by omega) (by omega) ?_|refine kRj (by omega) ?_|refine kRk ?_|refine VSem.convI ?_|refine VRead.convI ?_|refine VRead.rem (by omega) (by decide) ?_|refine VRead.neg ?_|refine VC.seq ?_); (conv => whnf))))
    refine VCall.of (oRead X2 U d S p.1 hd2 (by omega)) ?_
    rintro e X3 ⟨u3, rfl, hrd, hB3⟩
    refine ⟨_, rfl, ?_⟩
    unfold readR at hrd
    rw [tfind_of hris.nd (show (p.1, p.2) ∈ S.t from hpm)] at hrd
    obtain ⟨A3, k3, rfl, hO3⟩ := hrd
    ((conv => whnf); (repeat ((first|refine kLa ?_|refine kLb ?_|refine kCa rfl ?_|refine kCb ?_|refine kCc ?_|refine kCd ?_|refine kCe ?_|refine kCf ?_|refine kCg ?_|refine kCh ?_|refine kCi ?_|refine kCj ?_|refine kQa ?_|refine kQb ?_|refine kGa ?_|refine kGb ?_|refine kHa ?_|refine kHb ?_); (conv => whnf))))
    ((repeat ((first|refine kLa ?_|refine kLb ?_|refine kCa rfl ?_|refine kCb ?_|refine kCc ?_|refine kCd ?_|refine kCe ?_|refine kCf ?_|refine kCg ?_|refine kCh ?_|refine kCi ?_|refine kCj ?_|refine kQa ?_|refine kQb ?_|refine kGa ?_|refine kGb ?_|refine kHa ?_|refine kHb ?_|refine kPa ?_|refine kPb ?_|refine kPc ?_|refine kEa ?_|refine kEb ?_|refine kBa ?_|refine kBb ?_|refine kBc (by omega) ?_|refine kBd (by omega) ?_|refine kBe (by omega) ?_|refine kBf (by omega) ?_|refine kRa ?_|refine kRb ?_|refine VRead.fld ?_|refine VRead.load1 (by assumption) ?_|refine VRead.load (by assumption) ?_|refine kRf ?_|refine kRg ?_|refine kRh ?_|refine kRi ?_|refine kBe rfl ?_|refine kBc rfl ?_|refine kWa (by omega) (by omega) ?_|refine kWb (by omega) (by omega) ?_|refine kRj (by omega) ?_|refine kRk ?_|refine VSem.convI ?_|refine VRead.convI ?_|refine VRead.rem (by omega) (by decide) ?_|refine VRead.neg ?_|refine VC.seq ?_); (conv => whnf))))
    refine VCall.of (walRead_any A3 p.2.b.length k3 p.2.b X3 (by omega) hO3.cap hO3.reads) ?_
    rintro e X4 ⟨⟨v4, rfl, hV4⟩, hB4⟩
    refine ⟨_, rfl, ?_⟩
    have hB24 : Below X2.heap.size X2 X4 := hB3.trans (hB4.mono hB3.size)
    have hB04 := hB02.trans (hB24.mono hB02.size)
    have u24 := hB24.size
    have u02 := hB02.size
    have hX3 : W.heap.size ≤ X3.heap.size := Nat.le_trans hB02.size hB3.size
    have u23 := hB3.size
    have g5l := hb5.lt
    have g6l := hb6.lt
    replace hb3 := hb3.later hB24
    replace hb5 := hb5.later hB24
    replace hb6 := hb6.later hB24
    replace hE := hE.below hB24
    replace hO := rows_below hO hB24 (Nat.le_refl _)
    cases hs : readW p.2.b with
    | none =>
      have e1 : woStep acc p = { acc with some_ := true } := by unfold woStep; rw [hN]; simp only; rw [hs]
      rw [hs] at hV4
      have hv4 : v4 = .tuple #[.agg (kC Kp.zero none 0 0), .bool false, .bool false] := hV4
      subst hv4
      ((conv => whnf); (repeat ((first|refine kLa ?_|refine kLb ?_|refine kCa rfl ?_|refine kCb ?_|refine kCc ?_|refine kCd ?_|refine kCe ?_|refine kCf ?_|refine kCg ?_|refine kCh ?_|refine kCi ?_|refine kCj ?_|refine kQa ?_|refine kQb ?_|refine kGa ?_|refine kGb ?_|refine kHa ?_|refine kHb ?_); (conv => whnf))))
      ((repeat ((first|refine kLa ?_|refine kLb ?_|refine kCa rfl ?_|refine kCb ?_|refine kCc ?_|refine kCd ?_|refine kCe ?_|refine kCf ?_|refine kCg ?_|refine kCh ?_|refine kCi ?_|refine kCj ?_|refine kQa ?_|refine kQb ?_|refine kGa ?_|refine kGb ?_|refine kHa ?_|refine kHb ?_|refine kPa ?_|refine kPb ?_|refine kPc ?_|refine kEa ?_|refine kEb ?_|refine kBa ?_|refine kBb ?_|refine kBc (by omega) ?_|refine kBd (by omega) ?_|refine kBe (by omega) ?_|refine kBf (by omega) ?_|refine kRa ?_|refine kRb ?_|refine VRead.fld ?_|refine VRead.load1 (by assumption) ?_|refine VRead.load (by assumption) ?_|refine kRf ?_|refine kRg ?_|refine kRh ?_|refine kRi ?_|refine kBe rfl ?_|refine kBc rfl ?_|refine kWa (by omega) (by omega) ?_|refine kWb (by omega) (by omega) ?_|refine kRj (by omega) ?_|refine kRk ?_|refine VSem.convI ?_|refine VRead.convI ?_|refine VRead.rem (by omega) (by decide) ?_|refine VRead.neg ?_|refine VC.seq ?_); (conv => whnf))))
      refine VSem.allocZ (z := .agg (kC Kp.zero none 0 0)) (by kernel_rfl) ?_
      intro X5 q hq hqe hql hB5
      ((conv => whnf); (repeat ((first|refine kLa ?_|refine kLb ?_|refine kCa rfl ?_|refine kCb ?_|refine kCc ?_|refine kCd ?_|refine kCe ?_|refine kCf ?_|refine kCg ?_|refine kCh ?_|refine kCi ?_|refine kCj ?_|refine kQa ?_|refine kQb ?_|refine kGa ?_|refine kGb ?_|refine kHa ?_|refine kHb ?_); (conv => whnf))))
      ((repeat ((first|refine kLa ?_|refine kLb ?_|refine kCa rfl ?_|refine kCb ?_|refine kCc ?_|refine kCd ?_|refine kCe ?_|refine kCf ?_|refine kCg ?_|refine kCh ?_|refine kCi ?_|refine kCj ?_|refine kQa ?_|refine kQb ?_|refine kGa ?_|refine kGb ?_|refine kHa ?_|refine kHb ?_|refine kPa ?_|refine kPb ?_|refine kPc ?_|refine kEa ?_|refine kEb ?_|refine kBa ?_|refine kBb ?_|refine kBc (by omega) ?_|refine kBd (by omega) ?_|refine kBe (by omega) ?_|refine kBf (by omega) ?_|refine kRa ?_|refine kRb ?_|refine VRead.fld ?_|refine VRead.load1 (by assumption) ?_|refine VRead.load (by assumption) ?_|refine kRf ?_|refine kRg ?_|refine kRh ?_|refine kRi ?_|refine kBe rfl ?_|refine kBc rfl ?_|refine kWa (by omega) (by omega) ?_|refine kWb (by omega) (by omega) ?_|refine kRj (by omega) ?_|refine kRk ?_|refine VSem.convI ?_|refine VRead.convI ?_|refine VRead.rem (by omega) (by decide) ?_|refine VRead.neg ?_|refine VC.seq ?_); (conv => whnf))))
      refine VUnit.storeAB hq rfl rfl rfl (by simp [kC, Kp.zero, Value.oneCell']) ?_
      intro X6 hq6 hg6
      have hB46 : Below X4.heap.size X4 X6 := only_new hB5 hg6 (by omega) (by omega)
      have hB06 := hB04.trans (hB46.mono hB04.size)
      ((conv => whnf); (repeat ((first|refine kLa ?_|refine kLb ?_|refine kCa rfl ?_|refine kCb ?_|refine kCc ?_|refine kCd ?_|refine kCe ?_|refine kCf ?_|refine kCg ?_|refine kCh ?_|refine kCi ?_|refine kCj ?_|refine kQa ?_|refine kQb ?_|refine kGa ?_|refine kGb ?_|refine kHa ?_|refine kHb ?_); (conv => whnf))))
      ((repeat ((first|refine kLa ?_|refine kLb ?_|refine kCa rfl ?_|refine kCb ?_|refine kCc ?_|refine kCd ?_|refine kCe ?_|refine kCf ?_|refine kCg ?_|refine kCh ?_|refine kCi ?_|refine kCj ?_|refine kQa ?_|refine kQb ?_|refine kGa ?_|refine kGb ?_|refine kHa ?_|refine kHb ?_|refine kPa ?_|refine kPb ?_|refine kPc ?_|refine kEa ?_|refine kEb ?_|refine kBa ?_|refine kBb ?_|refine kBc (by omega) ?_|refine kBd (by omega) ?_|refine kBe (by omega) ?_|refine kBf (by omega) ?_|refine kRa ?_|refine kRb ?_|refine VRead.fld ?_|refine VRead.load1 (by assumption) ?_|refine VRead.load (by assumption) ?_|refine kRf ?_|refine kRg ?_|refine kRh ?_|refine kRi ?_|refine kBe rfl ?_|refine kBc rfl ?_|refine kWa (by omega) (by omega) ?_|refine kWb (by omega) (by omega) ?_|refine kRj (by omega) ?_|refine kRk ?_|refine VSem.convI ?_|refine VRead.convI ?_|refine VRead.rem (by omega) (by decide) ?_|refine VRead.neg ?_|refine VC.seq ?_); (conv => whnf))))
      exact ⟨_, by omega, j + 1, { acc with some_ := true }, A, n, c, rfl, rfl, by omega, by rw [htk, e1], ⟨hok.n, hok.b, hok.l⟩, hb3.later hB46, hb5.later hB46, hb6.later hB46, hE.below hB46, rows_below hO hB46 (Nat.le_refl _), hB06⟩
    | some kp =>
      rw [hs] at hV4
      obtain ⟨A5, n5, c5, rfl, hE5⟩ := hV4
      obtain ⟨hbk, hlk⟩ := readW_ok hs
      have e1 : woStep acc p = ⟨true, nn, kp, isWhole p.2.b⟩ := by unfold woStep; rw [hN]; simp only; rw [hs]
      ((conv => whnf); (repeat ((first|refine kLa ?_|refine kLb ?_|refine kCa rfl ?_|refine kCb ?_|refine kCc ?_|refine kCd ?_|refine kCe ?_|refine kCf ?_|refine kCg ?_|refine kCh ?_|refine kCi ?_|refine kCj ?_|refine kQa ?_|refine kQb ?_|refine kGa ?_|refine kGb ?_|refine kHa ?_|refine kHb ?_); (conv => whnf))))
      ((repeat ((first|refine kLa ?_|refine kLb ?_|refine kCa rfl ?_|refine kCb ?_|refine kCc ?_|refine kCd ?_|refine kCe ?_|refine kCf ?_|refine kCg ?_|refine kCh ?_|refine kCi ?_|refine kCj ?_|refine kQa ?_|refine kQb ?_|refine kGa ?_|refine kGb ?_|refine kHa ?_|refine kHb ?_|refine kPa ?_|refine kPb ?_|refine kPc ?_|refine kEa ?_|refine kEb ?_|refine kBa ?_|refine kBb ?_|refine kBc (by omega) ?_|refine kBd (by omega) ?_|refine kBe (by omega) ?_|refine kBf (by omega) ?_|refine kRa ?_|refine kRb ?_|refine VRead.fld ?_|refine VRead.load1 (by assumption) ?_|refine VRead.load (by assumption) ?_|refine kRf ?_|refine kRg ?_|refine kRh ?_|refine kRi ?_|refine kBe rfl ?_|refine kBc rfl ?_|refine kWa (by omega) (by omega) ?_|refine kWb (by omega) (by omega) ?_|refine kRj (by omega) ?_|refine kRk ?_|refine VSem.convI ?_|refine VRead.convI ?_|refine VRead.rem (by omega) (by decide) ?_|refine VRead.neg ?_|refine VC.seq ?_); (conv => whnf))))
      refine VSem.allocZ (z := .agg (kC Kp.zero none 0 0)) (by kernel_rfl) ?_
      intro X5 q hq hqe hql hB5
      ((conv => whnf); (repeat ((first|refine kLa ?_|refine kLb ?_|refine kCa rfl ?_|refine kCb ?_|refine kCc ?_|refine kCd ?_|refine kCe ?_|refine kCf ?_|refine kCg ?_|refine kCh ?_|refine kCi ?_|refine kCj ?_|refine kQa ?_|refine kQb ?_|refine kGa ?_|refine kGb ?_|refine kHa ?_|refine kHb ?_); (conv => whnf))))
      ((repeat ((first|refine kLa ?_|refine kLb ?_|refine kCa rfl ?_|refine kCb ?_|refine kCc ?_|refine kCd ?_|refine kCe ?_|refine kCf ?_|refine kCg ?_|refine kCh ?_|refine kCi ?_|refine kCj ?_|refine kQa ?_|refine kQb ?_|refine kGa ?_|refine kGb ?_|refine kHa ?_|refine kHb ?_|refine kPa ?_|refine kPb ?_|refine kPc ?_|refine kEa ?_|refine kEb ?_|refine kBa ?_|refine kBb ?_|refine kBc (by omega) ?_|refine kBd (by omega) ?_|refine kBe (by omega) ?_|refine kBf (by omega) ?_|refine kRa ?_|refine kRb ?_|refine VRead.fld ?_|refine VRead.load1 (by assumption) ?_|refine VRead.load (by assumption) ?_|refine kRf ?_|refine kRg ?_|refine kRh ?_|refine kRi ?_|refine kBe rfl ?_|refine kBc rfl ?_|refine kWa (by omega) (by omega) ?_|refine kWb (by omega) (by omega) ?_|refine kRj (by omega) ?_|refine kRk ?_|refine VSem.convI ?_|refine VRead.convI ?_|refine VRead.rem (by omega) (by decide) ?_|refine VRead.neg ?_|refine VC.seq ?_); (conv => whnf))))
      refine VUnit.storeAB hq rfl rfl rfl (by simp [kC, Value.oneCell']) ?_
      intro X6 hq6 hg6
      rw [setFrom_allW (vs := kC kp A5 n5 c5) (by rfl)] at hq6
      replace hq6 : Blk X6 q 63 (kC kp A5 n5 c5) := hq6
      have hB46 : Below X4.heap.size X4 X6 := only_new hB5 hg6 (by omega) (by omega)
      have hB06 := hB04.trans (hB46.mono hB04.size)
      have hb5l := hb5.lt
      have hb6l := hb6.lt
      have hb3l := hb3.lt
      replace hb3 := hb3.later hB46
      replace hb5 := hb5.later hB46
      replace hb6 := hb6.later hB46
      replace hO := rows_below hO hB46 (Nat.le_refl _)
      replace hE5 := hE5.below hB46
      have hE7 : Below X6.heap.size X6 (X6.drewN 1) := below_drewN (Below.refl _ _) 1
      replace hb3 := hb3.later hE7
      replace hb5 := hb5.later hE7
      replace hb6 := hb6.later hE7
      replace hq6 := hq6.later hE7
      replace hO := rows_below hO hE7 (Nat.le_refl _)
      replace hE5 := hE5.below hE7
      have hB07 := hB06.trans (hE7.mono hB06.size)
      ((conv => whnf); (repeat ((first|refine kLa ?_|refine kLb ?_|refine kCa rfl ?_|refine kCb ?_|refine kCc ?_|refine kCd ?_|refine kCe ?_|refine kCf ?_|refine kCg ?_|refine kCh ?_|refine kCi ?_|refine kCj ?_|refine kQa ?_|refine kQb ?_|refine kGa ?_|refine kGb ?_|refine kHa ?_|refine kHb ?_); (conv => whnf))))
      ((repeat ((first|refine kLa ?_|refine kLb ?_|refine kCa rfl ?_|refine kCb ?_|refine kCc ?_|refine kCd ?_|refine kCe ?_|refine kCf ?_|refine kCg ?_|refine kCh ?_|refine kCi ?_|refine kCj ?_|refine kQa ?_|refine kQb ?_|refine kGa ?_|refine kGb ?_|refine kHa ?_|refine kHb ?_|refine kPa ?_|refine kPb ?_|refine kPc ?_|refine kEa ?_|refine kEb ?_|refine kBa ?_|refine kBb ?_|refine kBc (by omega) ?_|refine kBd (by omega) ?_|refine kBe (by omega) ?_|refine kBf (by omega) ?_|refine kRa ?_|refine kRb ?_|refine VRead.fld ?_|refine VRead.load1 (by assumption) ?_|refine VRead.load (by assumption) ?_|refine kRf ?_|refine kRg ?_|refine kRh ?_|refine kRi ?_|refine kBe rfl ?_|refine kBc rfl ?_|refine kWa (by omega) (by omega) ?_|refine kWb (by omega) (by omega) ?_|refine kRj (by omega) ?_|refine kRk ?_|refine VSem.convI ?_|refine VRead.convI ?_|refine VRead.rem (by omega) (by decide) ?_|refine VRead.neg ?_|refine VC.seq ?_); (conv => whnf))))
      refine VDraw.seg (fun Y => Blk Y q 63 (kC kp A5 n5 c5)) [([0, 1, 2, 3, 4, 5], 6), ([], 7)] [8] (by kernel_rfl) (by kernel_rfl) hq6 ?_
      generalize X6.drewN 1 = X7 at *
      (conv => whnf)
      (repeat ((first|refine VRead.loadAB (fun Y hY => hY) rfl rfl ?_|refine kLa ?_|refine kLb ?_|refine kCa rfl ?_|refine kCb ?_|refine kCc ?_|refine kCd ?_|refine kCe ?_|refine kCf ?_|refine kCg ?_|refine kCh ?_|refine kCi ?_|refine kCj ?_|refine kQa ?_|refine kQb ?_|refine kGa ?_|refine kGb ?_|refine kHa ?_|refine kHb ?_|refine kPa ?_|refine kPb ?_|refine kPc ?_|refine kEa ?_|refine kEb ?_|refine kBa ?_|refine kBb ?_|refine kBc (by omega) ?_|refine kBd (by omega) ?_|refine kBe (by omega) ?_|refine kBf (by omega) ?_|refine kRa ?_|refine kRb ?_|refine VRead.fld ?_|refine VRead.load1 (by assumption) ?_|refine VRead.load (by assumption) ?_|refine kRf ?_|refine kRg ?_|refine kRh ?_|refine kRi ?_|refine kBe rfl ?_|refine kBc rfl ?_|refine kWa (by omega) (by omega) ?_|refine kWb (by omega) (by omega) ?_|refine kRj (by omega) ?_|refine kRk ?_|refine VSem.convI ?_|refine VRead.convI ?_|refine VRead.rem (by omega) (by decide) ?_|refine VRead.neg ?_|refine VC.seq ?_); (conv => whnf)))
      refine VUnit.storeB hb5 rfl rfl rfl ?_
      intro X8 hb58 hg8
      replace hb58 : Blk X8 g5 105 (wlC d ⟨nn, 0, 0⟩) := hb58
      replace hO := rows_apart hO hg8 (fun q' e hq' => by have h1 := (World.ownsRow.lt hO q' hq').1; have h2 : g5 = q' := by { injection e }; omega)
      replace hE5 := hE5.keepG hb5 hg8 (by decide) (fun e => by have := (hE5.lt e).2; omega)
      replace hb3 := hb3.only hg8 (by omega)
      replace hb6 := hb6.only hg8 (by omega)
      replace hq6 := hq6.only hg8 (by omega)
      have hB08 : Below W.heap.size W X8 := only_new hB07 hg8 (by omega) hB07.size
      (conv => whnf)
      refine Keep.mk hq6 ?_
      (conv => whnf)
      ((repeat ((first|refine kLa ?_|refine kLb ?_|refine kCa rfl ?_|refine kCb ?_|refine kCc ?_|refine kCd ?_|refine kCe ?_|refine kCf ?_|refine kCg ?_|refine kCh ?_|refine kCi ?_|refine kCj ?_|refine kQa ?_|refine kQb ?_|refine kGa ?_|refine kGb ?_|refine kHa ?_|refine kHb ?_|refine kPa ?_|refine kPb ?_|refine kPc ?_|refine kEa ?_|refine kEb ?_|refine kBa ?_|refine kBb ?_|refine kBc (by omega) ?_|refine kBd (by omega) ?_|refine kBe (by omega) ?_|refine kBf (by omega) ?_|refine kRa ?_|refine kRb ?_|refine VRead.fld ?_|refine VRead.load1 (by assumption) ?_|refine VRead.load (by assumption) ?_|refine kRf ?_|refine kRg ?_|refine kRh ?_|refine kRi ?_|refine kBe rfl ?_|refine kBc rfl ?_|refine kWa (by omega) (by omega) ?_|refine kWb (by omega) (by omega) ?_|refine kRj (by omega) ?_|refine kRk ?_|refine VSem.convI ?_|refine VRead.convI ?_|refine VRead.rem (by omega) (by decide) ?_|refine VRead.neg ?_|refine VC.seq ?_); (conv => whnf))))
      refine VUnit.storeAB hb6 rfl rfl rfl (by simp [kC, Value.oneCell']) ?_
      intro X9 hb69 hg9
      rw [setFrom_allW (vs := kC kp A5 n5 c5) (by rfl)] at hb69
      replace hO := rows_apart hO hg9 (fun q' e hq' => by have h1 := (World.ownsRow.lt hO q' hq').1; have h2 : g6 = q' := by { injection e }; omega)
      replace hE5 := hE5.keepG hb6 hg9 (by decide) (fun e => by have := (hE5.lt e).2; omega)
      replace hb3 := hb3.only hg9 (by omega)
      replace hb58 := hb58.only hg9 (by omega)
      replace hq6 := hq6.only hg9 (by omega)
      have hB09 : Below W.heap.size W X9 := only_new hB08 hg9 (by omega) hB08.size
      (conv => whnf)
      refine Keep.mk hq6 ?_
      (conv => whnf)
      ((repeat ((first|refine kLa ?_|refine kLb ?_|refine kCa rfl ?_|refine kCb ?_|refine kCc ?_|refine kCd ?_|refine kCe ?_|refine kCf ?_|refine kCg ?_|refine kCh ?_|refine kCi ?_|refine kCj ?_|refine kQa ?_|refine kQb ?_|refine kGa ?_|refine kGb ?_|refine kHa ?_|refine kHb ?_|refine kPa ?_|refine kPb ?_|refine kPc ?_|refine kEa ?_|refine kEb ?_|refine kBa ?_|refine kBb ?_|refine kBc (by omega) ?_|refine kBd (by omega) ?_|refine kBe (by omega) ?_|refine kBf (by omega) ?_|refine kRa ?_|refine kRb ?_|refine VRead.fld ?_|refine VRead.load1 (by assumption) ?_|refine VRead.load (by assumption) ?_|refine kRf ?_|refine kRg ?_|refine kRh ?_|refine kRi ?_|refine kBe rfl ?_|refine kBc rfl ?_|refine kWa (by omega) (by omega) ?_|refine kWb (by omega) (by omega) ?_|refine kRj (by omega) ?_|refine kRk ?_|refine VSem.convI ?_|refine VRead.convI ?_|refine VRead.rem (by omega) (by decide) ?_|refine VRead.neg ?_|refine VC.seq ?_); (conv => whnf))))
      exact ⟨_, by omega, j + 1, ⟨true, nn, kp, isWhole p.2.b⟩, A5, n5, c5, rfl, rfl, by omega, by rw [htk, e1], ⟨by omega, hbk, by simp only; omega⟩, hb3, hb58, hb69, hE5.more (by omega) (fun j _ hj => by have : X3.heap.size ≤ j := hj; show W.heap.size ≤ j; omega), hO, hB09⟩
end Go.Proofs.Ytebeidnmplnlpaa
end

section
set_option maxRecDepth 10000
namespace Go.Proofs.Ytebeidnmplnlpaa
set_option linter.unusedVariables false
open Go.RowKit

abbrev Sn := Nat × Int × List UInt8
def SnV (W : World) (B : Nat) (o : Option Sn) (i t : Int) (v : Value) : Prop := match o with
  | some y => i = (y.1 : Int) ∧ 1 ≤ y.1 ∧ y.1 ≤ 1099511627776 ∧ t = y.2.1 ∧ ∃ A c, v = .slice A y.2.2.length c ∧ Own W B (.slice A y.2.2.length c) y.2.2.length y.2.2
  | none => i = 0 ∧ t = 0 ∧ v = .slice none 0 0
theorem SnV.below {W W' : World} {B : Nat} {o : Option Sn} {i t : Int} {v : Value} (h : SnV W B o i t v) (hb : Below W.heap.size W W') : SnV W' B o i t v := by
  unfold SnV at *
  cases o with
  | none => exact h
  | some y =>
    obtain ⟨h1, h2, h3, h4, A, c, h5, h6⟩ := h
    exact ⟨h1, h2, h3, h4, A, c, h5, rows_below h6 hb (Nat.le_refl _)⟩
end Go.Proofs.Ytebeidnmplnlpaa
end

section
set_option maxRecDepth 10000
namespace Go.Proofs.Ytebeidnmplnlpaa
set_option linter.unusedVariables false
open Go.RowKit

/-! ### what is in a file -/
def fullF (b : List UInt8) : Fl := ⟨b, b.length⟩
theorem chunks_ind {P : List UInt8 → Prop} (h0 : P []) (h1 : ∀ l, l ≠ [] → P (l.drop 1000) → P l) : ∀ (n : Nat) (l : List UInt8), l.length ≤ n → P l
  | 0, l, h => by
    obtain rfl : l = [] := List.eq_nil_of_length_eq_zero (by omega)
    exact h0
  | n + 1, l, h => by
    by_cases hl : l = []
    · subst hl; exact h0
    · have : 0 < l.length := List.length_pos_iff.2 hl
      exact h1 l hl (chunks_ind h0 h1 n _ (by rw [List.length_drop]; omega))
theorem chunks_ok (l : List UInt8) : Frame.Ok1 (chunks l) :=
  chunks_ind (P := fun l => Frame.Ok1 (chunks l)) (fun b hb => by simp [chunks_nil] at hb) (fun l hl ih b hb => by
    have : 0 < l.length := List.length_pos_iff.2 hl
    rw [chunks_cons hl] at hb
    rcases List.mem_cons.1 hb with rfl | hb
    · rw [List.length_take]; omega
    · exact ih b hb) l.length l (Nat.le_refl _)
theorem intS_put' {v : Int} (h : -9223372036854775808 ≤ v ∧ v ≤ 9223372036854775807) (t : List UInt8) : Wire.intS (some (Wire.int v ++ t)) = (v, some t) := by
  unfold Wire.intS
  simp only
  rw [Wire.getInt_int h]
theorem hd_read {i t : Int} {n : Nat} (hi : -9223372036854775808 ≤ i ∧ i ≤ 9223372036854775807) (ht : -9223372036854775808 ≤ t ∧ t ≤ 9223372036854775807) (hn : n ≤ 9223372036854775807) :
    hA (hdB i t n) = i ∧ hT (hdB i t n) = t ∧ hN (hdB i t n) = (n : Int) ∧ hE (hdB i t n) = true := by
  have e0 : hdB i t n = Wire.int i ++ (Wire.int t ++ (Wire.int (n : Int) ++ [])) := by unfold hdB; simp
  have e1 : Wire.intS (some (hdB i t n)) = (i, some (Wire.int t ++ (Wire.int (n : Int) ++ []))) := by rw [e0]; exact intS_put' hi _
  have e2 : Wire.intS (some (Wire.int t ++ (Wire.int (n : Int) ++ []))) = (t, some (Wire.int (n : Int) ++ [])) := intS_put' ht _
  have e3 : Wire.intS (some (Wire.int (n : Int) ++ [])) = ((n : Int), some []) := intS_put' (by omega) _
  refine ⟨?_, ?_, ?_, ?_⟩
  · unfold hA; rw [e1]
  · unfold hT; rw [e1]; simp only; rw [e2]
  · unfold hN; rw [e1]; simp only; rw [e2]; simp only; rw [e3]
  · unfold hE; rw [e1]; simp only; rw [e2]; simp only; rw [e3]; rfl
theorem hd_len (i t : Int) (n : Nat) : 3 ≤ (hdB i t n).length ∧ (hdB i t n).length ≤ 30 := by
  have a1 := Wire.int_len i
  have a2 := Wire.int_len t
  have a3 := Wire.int_len (n : Int)
  unfold hdB
  simp only [List.length_append]
  omega
structure SvOk (i t : Int) (data : List UInt8) : Prop where
  i1 : 1 ≤ i
  i2 : i ≤ 1099511627776
  t1 : 1 ≤ t
  t2 : t ≤ 1099511627776
  n1 : 1 ≤ data.length
  n2 : data.length ≤ 1048576
theorem SvOk.hd {i t : Int} {data : List UInt8} (h : SvOk i t data) : HdOk (hdB i t data.length) i := by
  obtain ⟨h1, h2, h3, h4, h5, h6⟩ := h
  obtain ⟨e1, e2, e3, e4⟩ := hd_read (i := i) (t := t) (n := data.length) (by omega) (by omega) (by omega)
  exact ⟨e4, e1, by rw [e2]; exact h3, by rw [e2]; exact h4, by rw [e3]; omega, by rw [e3]; omega⟩
theorem SvOk.bs {i t : Int} {data : List UInt8} (h : SvOk i t data) : Frame.Ok1 (hdB i t data.length :: chunks data) := fun b hb => by
  rcases List.mem_cons.1 hb with rfl | hb
  · have := hd_len i t data.length; omega
  · exact chunks_ok data b hb
/-! ### tables of few files -/
section
variable {T : PT} {s : List UInt8} {f g : Fl}
theorem tset_cons (j : List UInt8) (y : Fl) (r : PT) (i : List UInt8) (x : Fl) : tset ((j, y) :: r) i x = if i < j then (i, x) :: (j, y) :: r else if j = i then (i, x) :: r else (j, y) :: tset r i x := rfl
theorem tset_nil (i : List UInt8) (x : Fl) : tset ([] : PT) i x = [(i, x)] := rfl
theorem tset_tset : ∀ {T : PT}, tset (tset T s f) s g = tset T s g
  | [] => by rw [tset_nil, tset_cons, if_neg (List.lt_irrefl _), if_pos rfl, tset_nil]
  | (j, y) :: T => by
    rw [tset_cons, tset_cons]
    by_cases h1 : s < j
    · rw [if_pos h1, if_pos h1, tset_cons, if_neg (List.lt_irrefl _), if_pos rfl]
    · rw [if_neg h1, if_neg h1]
      by_cases h2 : j = s
      · rw [if_pos h2, if_pos h2, tset_cons, if_neg (List.lt_irrefl _), if_pos rfl]
      · rw [if_neg h2, if_neg h2, tset_cons, if_neg h1, if_neg h2, tset_tset]
theorem tset_last (hT : ∀ p ∈ T, p.1 < s) : tset T s f = T ++ [(s, f)] := by
  induction T with
  | nil => rfl
  | cons q T ih =>
    obtain ⟨j, y⟩ := q
    have hq : j < s := hT (j, y) (by simp)
    rw [tset_cons, if_neg (fun h => List.lt_irrefl _ (List.lt_trans hq h)), if_neg (fun e => by subst e; exact List.lt_irrefl _ hq), ih (fun p hp => hT p (List.mem_cons_of_mem _ hp))]
    rfl
theorem tfind_last (hT : ∀ p ∈ T, p.1 < s) : tfind (T ++ [(s, f)]) s = some f := by
  induction T with
  | nil => simp [tfind]
  | cons q T ih =>
    obtain ⟨j, y⟩ := q
    have hq : j < s := hT (j, y) (by simp)
    rw [List.cons_append]
    unfold tfind
    rw [if_neg (fun e => by subst e; exact List.lt_irrefl _ hq)]
    exact ih (fun p hp => hT p (List.mem_cons_of_mem _ hp))
theorem tdel_low (hT : ∀ p ∈ T, p.1 < s) : tdel T s = T := tdel_not (fun h => by
  obtain ⟨p, hp, rfl⟩ := List.mem_map.1 h
  exact List.lt_irrefl _ (hT p hp))
theorem tdel_last (hT : ∀ p ∈ T, p.1 < s) : tdel (T ++ [(s, f)]) s = T := by
  unfold tdel
  rw [List.filter_append]
  have h1 := tdel_low hT
  unfold tdel at h1
  rw [h1]
  simp
theorem tset_lastA (hT : ∀ p ∈ T, p.1 < s) : tset (T ++ [(s, f)]) s g = T ++ [(s, g)] := by rw [← tset_last (f := f) hT, tset_tset, tset_last hT]
end
end Go.Proofs.Ytebeidnmplnlpaa
end

section
set_option maxRecDepth 10000
namespace Go.Proofs.Ytebeidnmplnlpaa
set_option linter.unusedVariables false
open Go.RowKit

section
variable {S : DS} {s u b : List UInt8} {f : Fl}
end
theorem clear_cons (S : DS) (pre nm x : List UInt8) (r : List (List UInt8)) : S.clear pre nm (x :: r) = if isPre pre x = true ∧ x ≠ nm then andT (S.remove x) fun S' => DS.clear S' pre nm r else DS.clear S pre nm r := rfl
/-! ### a disk that nothing ails -/
theorem used_append (A B : PT) : used (A ++ B) = used A + used B := by
  induction A with
  | nil => simp [used]
  | cons p A ih => rw [List.cons_append, show used (p :: (A ++ B)) = p.2.b.length + used (A ++ B) from rfl, show used (p :: A) = p.2.b.length + used A from rfl, ih]; omega
end Go.Proofs.Ytebeidnmplnlpaa
end

section
set_option maxRecDepth 10000
namespace Go.Proofs.Ytebeidnmplnlpaa
set_option linter.unusedVariables false
open Go.RowKit

def entBs (i : Int) : List En → List (List UInt8)
  | [] => []
  | e :: r => entB i e :: entBs (i + 1) r
theorem written_laid (es : List En) (i : Int) : written i es = Frame.laid (entBs i es) := by
  induction es generalizing i with
  | nil => rfl
  | cons e es ih =>
    rw [written_cons, ih, show entBs i (e :: es) = entB i e :: entBs (i + 1) es from rfl, Frame.laid_cons]
theorem entBs_ok {es : List En} (h : ∀ e ∈ es, mayE e) (i : Int) : Frame.Ok1 (entBs i es) := by
  induction es generalizing i with
  | nil => intro b hb; simp [entBs] at hb
  | cons e es ih =>
    intro b hb
    unfold entBs at hb
    rcases List.mem_cons.1 hb with rfl | hb
    · have h1 := entB_len i e
      have h2 := (h e (by simp)).2.2
      omega
    · exact ih (fun x hx => h x (List.mem_cons_of_mem _ hx)) (i + 1) b hb
def inI (v : Int) : Prop := -9223372036854775808 ≤ v ∧ v ≤ 9223372036854775807
theorem boolS_put (t : Bool) (r : List UInt8) : Wire.boolS (some (Wire.bool t ++ r)) = (t, some r) := by
  cases t <;> simp [Wire.boolS, Wire.bool]
theorem takes_first {k : Kp} {a b : Int} (ha : inR a 1099511627776) (hb : inR b 1099511627776) : takes k (recB 0 [a, b]) true = some { k with base := a, bterm := b } := by
  obtain ⟨a1, a2⟩ := id ha
  obtain ⟨b1, b2⟩ := id hb
  have e0 : numB [a, b] = Wire.int a ++ (Wire.int b ++ []) := by simp [numB]
  have e1 : Wire.intS (some (numB [a, b])) = (a, some (Wire.int b ++ [])) := by rw [e0]; exact intS_put' ⟨by omega, by omega⟩ _
  have e2 : Wire.intS (some (Wire.int b ++ [])) = (b, some []) := intS_put' ⟨by omega, by omega⟩ _
  unfold takes recB
  simp only
  rw [if_pos (by decide), if_pos (by decide)]
  unfold tk0
  rw [e1]; simp only; rw [e2]; simp only
  rw [if_pos ⟨rfl, ha, hb⟩]
theorem takes_hard {k : Kp} {a b : Int} (ha : inR a 1099511627776) (hb : inR b 7) : takes k (recB 1 [a, b]) false = some { k with term := a, vote := b } := by
  obtain ⟨a1, a2⟩ := id ha
  obtain ⟨b1, b2⟩ := id hb
  have e0 : numB [a, b] = Wire.int a ++ (Wire.int b ++ []) := by simp [numB]
  have e1 : Wire.intS (some (numB [a, b])) = (a, some (Wire.int b ++ [])) := by rw [e0]; exact intS_put' ⟨by omega, by omega⟩ _
  have e2 : Wire.intS (some (Wire.int b ++ [])) = (b, some []) := intS_put' ⟨by omega, by omega⟩ _
  unfold takes recB
  simp only
  rw [if_pos (by decide), if_neg (by decide), if_pos (by decide)]
  unfold tk1
  rw [e1]; simp only; rw [e2]; simp only
  rw [if_pos ⟨rfl, ha, hb⟩]
theorem takes_ent {k : Kp} {i : Int} {e : En} (he : mayE e) (h1 : k.base < i) (h2 : i ≤ k.base + k.es.length + 1) (hi : inI i) : takes k (entB i e) false = some { k with es := k.es.take (i - k.base - 1).toNat ++ [e] } := by
  obtain ⟨t1, t2, t3⟩ := id he
  have e0 : entB i e = 2 :: (Wire.int i ++ (Wire.int e.term ++ (Wire.bool e.cmd ++ (Wire.text e.data ++ [])))) := by simp [entB, recB, numB]
  rw [e0]
  have i1 : eI (Wire.int i ++ (Wire.int e.term ++ (Wire.bool e.cmd ++ (Wire.text e.data ++ [])))) = (i, some (Wire.int e.term ++ (Wire.bool e.cmd ++ (Wire.text e.data ++ [])))) := intS_put' hi _
  have i2 : eT (Wire.int i ++ (Wire.int e.term ++ (Wire.bool e.cmd ++ (Wire.text e.data ++ [])))) = (e.term, some (Wire.bool e.cmd ++ (Wire.text e.data ++ []))) := by unfold eT; rw [i1]; exact intS_put' ⟨by omega, by omega⟩ _
  have i3 : eC (Wire.int i ++ (Wire.int e.term ++ (Wire.bool e.cmd ++ (Wire.text e.data ++ [])))) = (e.cmd, some (Wire.text e.data ++ [])) := by unfold eC; rw [i2]; exact boolS_put _ _
  have i4 : eD (Wire.int i ++ (Wire.int e.term ++ (Wire.bool e.cmd ++ (Wire.text e.data ++ [])))) = (e.data, some []) := by unfold eD; rw [i3]; exact Wire.textS_text _ _ (by omega) (by omega)
  have i5 : eE (Wire.int i ++ (Wire.int e.term ++ (Wire.bool e.cmd ++ (Wire.text e.data ++ [])))) = e := by unfold eE; rw [i2, i3, i4]
  generalize Wire.int i ++ (Wire.int e.term ++ (Wire.bool e.cmd ++ (Wire.text e.data ++ []))) = r at *
  unfold takes
  simp only
  rw [if_pos (by decide), if_neg (by decide), if_neg (by decide), if_pos (by decide)]
  unfold tk2
  rw [i4, i5, i1]
  simp only
  rw [if_pos ⟨rfl, he, h1, h2⟩]
theorem takesA_cons {st : Bool} {k k' : Kp} {b : List UInt8} {r : List (List UInt8)} (h : takes k b st = some k') : takesA st k (b :: r) = takesA false k' r := by
  show (match takes k b st with | some k' => takesA false k' r | none => none) = _
  rw [h]
/-- entries from an index on -/
theorem takesA_ents : ∀ {es : List En} {k : Kp} {m : Nat}, (∀ e ∈ es, mayE e) → es ≠ [] → m ≤ k.es.length → inR k.base 1099511627776 → k.es.length + es.length ≤ 1000000000 →
    takesA false k (entBs (k.base + m + 1) es) = some { k with es := k.es.take m ++ es }
  | [], k, m, h, h0, hm, hb, hl => absurd rfl h0
  | [e], k, m, h, h0, hm, ⟨hb1, hb2⟩, hl => by
    have h1 := takes_ent (k := k) (i := k.base + m + 1) (h e (by simp)) (by omega) (by omega) ⟨by omega, by omega⟩
    rw [show (k.base + m + 1 - k.base - 1).toNat = m by omega] at h1
    exact takesA_cons h1
  | e :: f :: es, k, m, h, h0, hm, ⟨hb1, hb2⟩, hl => by
    have hl' : k.es.length + (es.length + 1 + 1) ≤ 1000000000 := hl
    have h1 := takes_ent (k := k) (i := k.base + m + 1) (h e (by simp)) (by omega) (by omega) ⟨by omega, by omega⟩
    rw [show (k.base + m + 1 - k.base - 1).toNat = m by omega] at h1
    have e1 : entBs (k.base + m + 1) (e :: f :: es) = entB (k.base + m + 1) e :: entBs (k.base + m + 1 + 1) (f :: es) := rfl
    have hml : (k.es.take m ++ [e]).length = m + 1 := by rw [List.length_append, List.length_take]; simp; omega
    rw [e1, takesA_cons h1]
    have h2 := takesA_ents (es := f :: es) (k := { k with es := k.es.take m ++ [e] }) (m := m + 1) (fun x hx => h x (List.mem_cons_of_mem _ hx)) (by simp) (by simp only; omega) ⟨hb1, hb2⟩ (by simp only [List.length_cons]; omega)
    simp only at h2
    rw [show k.base + ((m + 1 : Nat) : Int) + 1 = k.base + m + 1 + 1 by omega] at h2
    rw [h2, List.take_of_length_le (by omega), List.append_assoc]
    rfl
/-! ### whole files -/
def waBs (k : Kp) : List (List UInt8) := recB 0 [k.base, k.bterm] :: recB 1 [k.term, k.vote] :: entBs (k.base + 1) k.es
theorem waB_laid (k : Kp) : waB k = Frame.laid (waBs k) := by
  unfold waB waBs
  rw [written_laid, Frame.laid_cons, Frame.laid_cons, List.append_assoc]
theorem rec_ok1 (kind : UInt8) (a b : Int) : 1 ≤ (recB kind [a, b]).length ∧ (recB kind [a, b]).length ≤ 1048576 := by
  have := recB_len kind [a, b]
  simp only [List.length_cons, List.length_nil] at this
  omega
theorem waBs_ok {k : Kp} (h : mayK k) : Frame.Ok1 (waBs k) := fun b hb => by
  unfold waBs at hb
  rcases List.mem_cons.1 hb with rfl | hb
  · exact rec_ok1 0 _ _
  · rcases List.mem_cons.1 hb with rfl | hb
    · exact rec_ok1 1 _ _
    · exact entBs_ok h.1 _ b hb
theorem takesA_waBs {k : Kp} (h : mayK k) (hl : k.es.length ≤ 1000000) : takesA true Kp.zero (waBs k) = some k := by
  obtain ⟨h1, h2, h3, h4, h5⟩ := h
  unfold waBs
  rw [takesA_cons (takes_first h2 h3), takesA_cons (takes_hard h4 h5)]
  cases hes : k.es with
  | nil =>
    cases k; simp only at hes; subst hes; rfl
  | cons e r =>
    have := takesA_ents (es := e :: r) (k := ⟨k.term, k.vote, k.base, k.bterm, []⟩) (m := 0) (fun x hx => h1 x (by rw [hes]; exact hx)) (by simp) (by simp) h2 (by rw [hes] at hl; simp only [List.length_nil]; omega)
    simp only at this
    rw [show k.base + ((0 : Nat) : Int) + 1 = k.base + 1 by omega] at this
    show takesA false ⟨k.term, k.vote, k.base, k.bterm, []⟩ (entBs (k.base + 1) (e :: r)) = some k
    rw [this]
    cases k; simp only at hes; subst hes; rfl
theorem readW_laid {bs : List (List UInt8)} (h : Frame.Ok1 bs) (h0 : bs ≠ []) : readW (Frame.laid bs) = takesA true Kp.zero bs ∧ isWhole (Frame.laid bs) = true := by
  obtain ⟨b1, b2⟩ := Frame.bodies_all h
  unfold readW isWhole
  rw [b1, b2, if_neg h0]
  exact ⟨rfl, rfl⟩
end Go.Proofs.Ytebeidnmplnlpaa
end

section
set_option maxRecDepth 10000
namespace Go.Proofs.Ytebeidnmplnlpaa
set_option linter.unusedVariables false
open Go.RowKit

theorem wTmp_ok : nameOk wTmp := by decide
theorem wName_nm {n : Nat} (h1 : 1 ≤ n) (h2 : n ≤ 99999999) : nameOk (wName (n : Int)) := by
  have := wName_len h1 h2
  exact ⟨by omega, by omega⟩
theorem wName_ne {n : Nat} (h1 : 1 ≤ n) (h2 : n ≤ 99999999) : wName (n : Int) ≠ [] := fun e => by
  have := wName_len h1 h2
  rw [e] at this; cases this
theorem wrun_k0 {r c : Int} {T : PT} {nm b : List UInt8} (hnm : nameOk nm) (hT : ∀ p ∈ T, p.1 < wTmp) (hl : T.length < 64) (hr : (used T : Int) + b.length ≤ r) :
    wrun nm b 4 0 ⟨k0 r c, T⟩ = (0, ⟨k0 r (c + 1 + 1 + 1 + 1), tset T nm (fullF b)⟩) := by
  show andT (DS.create ⟨k0 r c, T⟩ wTmp) (fun S1 => andT (S1.append wTmp b) fun S2 => andT (S2.sync wTmp) fun S3 => andT (S3.rename wTmp nm) fun S4 => (0, S4)) = _
  rw [k0_create wTmp_ok (by omega), andT_ok rfl, tset_last hT]
  simp only
  have hu : used (T ++ [(wTmp, (⟨[], 0⟩ : Fl))]) = used T := by rw [used_append]; simp [used]
  rw [k0_append wTmp_ok (tfind_last hT) (by rw [hu]; exact hr), andT_ok rfl, tset_lastA hT]
  simp only
  rw [k0_sync wTmp_ok (tfind_last hT), andT_ok rfl, tset_lastA hT]
  simp only
  rw [k0_rename wTmp_ok hnm (tfind_last hT), andT_ok rfl, tdel_last hT]
  rfl
theorem wanew_new {r c : Int} {k : Kp} (hk : mayK k) (hr : ((waB k).length : Int) ≤ r) : DS.wanew ⟨k0 r c, []⟩ ⟨0, k.base, k.base + k.es.length⟩ k = ((0, ⟨k0 r (c + 1 + 1 + 1 + 1), [(wName 1, fullF (waB k))]⟩), ⟨1, k.base, k.base + k.es.length⟩) := by
  have h1 : wrun (wName 1) (waB k) 4 0 ⟨k0 r c, []⟩ = (0, ⟨k0 r (c + 1 + 1 + 1 + 1), [(wName 1, fullF (waB k))]⟩) := wrun_k0 (wName_nm (n := 1) (by decide) (by decide)) (by simp) (by decide) (by simpa [used] using hr)
  unfold DS.wanew
  have w1 : ¬ wName 1 = [] := wName_ne (n := 1) (by decide) (by decide)
  rw [if_neg (fun h => h hk), show ((0 : Int) + 1) = 1 from rfl, if_neg w1, h1]
  simp only
  rw [if_neg (by decide), if_pos (by decide)]
theorem wclear_one {S : DS} {n : Nat} {f : Fl} (h : S.t = [(wName (n : Int), f)]) : S.clear wPre (wName (n : Int)) S.keys = (0, S) := by
  unfold DS.keys
  rw [h]
  show DS.clear S wPre (wName (n : Int)) [wName (n : Int)] = _
  rw [clear_cons, if_neg (fun e => e.2 rfl)]
  rfl
theorem wScan_one {n : Nat} (h1 : 1 ≤ n) (h2 : n ≤ 99999999) {f : Fl} {k : Kp} (hr : readW f.b = some k) : wScan [(wName (n : Int), f)] = ⟨true, n, k, isWhole f.b⟩ := by
  show woStep ⟨false, 0, Kp.zero, false⟩ (wName (n : Int), f) = _
  unfold woStep
  simp only
  rw [wNum_name h1 h2]
  simp only
  rw [hr]
/-- a new disk is opened -/
theorem wopen_new {room : Int} (h0 : 0 ≤ room) (h2 : room ≤ 16777216) (hr : ((waB Kp.zero).length : Int) ≤ room) :
    DS.wopen (DS.new room) = ((0, ⟨k0 room 4, [(wName 1, fullF (waB Kp.zero))]⟩), some (⟨1, 0, 0⟩, Kp.zero)) := by
  rw [new_k0 h0 h2]
  have e1 : wScan ([] : PT) = ⟨false, 0, Kp.zero, false⟩ := rfl
  have hk : mayK Kp.zero := by decide
  have e2 : DS.wnext ⟨k0 room 0, []⟩ ⟨false, 0, Kp.zero, false⟩ = ((0, ⟨k0 room 4, [(wName 1, fullF (waB Kp.zero))]⟩), ⟨1, 0, 0⟩) := by
    unfold DS.wnext
    rw [if_neg (by decide)]
    exact wanew_new hk hr
  have e3 : DS.wend ((0, ⟨k0 room 4, [(wName 1, fullF (waB Kp.zero))]⟩), ⟨1, 0, 0⟩) = (0, ⟨k0 room 4, [(wName 1, fullF (waB Kp.zero))]⟩) := by
    unfold DS.wend
    rw [andT_ok rfl]
    exact wclear_one (n := 1) rfl
  unfold DS.wopen
  simp only
  rw [e1]
  simp only
  rw [if_neg (by decide), e2, e3, if_pos rfl]
/-- a log that is whole is opened -/
theorem wopen_one {r c : Int} {n : Nat} (h1 : 1 ≤ n) (h2 : n ≤ 99999999) {f : Fl} {k : Kp} (hr : readW f.b = some k) (hw : isWhole f.b = true) :
    DS.wopen ⟨k0 r c, [(wName (n : Int), f)]⟩ = ((0, ⟨k0 r (c + 1), [(wName (n : Int), fullF f.b)]⟩), some (⟨n, k.base, k.base + k.es.length⟩, k)) := by
  have e2 : DS.wnext ⟨k0 r c, [(wName (n : Int), f)]⟩ ⟨true, n, k, true⟩ = ((0, ⟨k0 r (c + 1), [(wName (n : Int), fullF f.b)]⟩), ⟨n, k.base, k.base + k.es.length⟩) := by
    unfold DS.wnext
    rw [if_pos rfl]
    simp only
    rw [k0_sync (wName_nm h1 h2) (f := f) (by simp [tfind])]
    rw [tset_cons, if_neg (List.lt_irrefl _), if_pos rfl]
    rfl
  have e3 : DS.wend ((0, ⟨k0 r (c + 1), [(wName (n : Int), fullF f.b)]⟩), ⟨n, k.base, k.base + k.es.length⟩) = (0, ⟨k0 r (c + 1), [(wName (n : Int), fullF f.b)]⟩) := by
    unfold DS.wend
    rw [andT_ok rfl]
    exact wclear_one rfl
  unfold DS.wopen
  simp only
  rw [wScan_one h1 h2 hr, hw]
  simp only
  rw [if_neg (by omega), e2, e3, if_pos rfl]
/-- what is saved in a log -/
theorem wsave_one {r c : Int} {n : Nat} (h1 : 1 ≤ n) (h2 : n ≤ 99999999) {b : List UInt8} {base last : Int} {set : Bool} {term vote fr : Int} {es : List En} (hb : ¬ wsBad ⟨n, base, last⟩ set term vote fr) (hm : ∀ e ∈ es, mayE e) (hne : wsB set term vote fr es ≠ [])
    (hr : (b.length : Int) + (wsB set term vote fr es).length ≤ r) :
    DS.wsave ⟨k0 r c, [(wName (n : Int), fullF b)]⟩ ⟨n, base, last⟩ set term vote fr es = ((0, ⟨k0 r (c + 1 + 1), [(wName (n : Int), fullF (b ++ wsB set term vote fr es))]⟩), wlast ⟨n, base, last⟩ fr es) := by
  have e1 : DS.wapp ⟨k0 r c, [(wName (n : Int), fullF b)]⟩ (wName (n : Int)) (wsB set term vote fr es) = (0, ⟨k0 r (c + 1 + 1), [(wName (n : Int), fullF (b ++ wsB set term vote fr es))]⟩) := by
    unfold DS.wapp
    rw [k0_append (wName_nm h1 h2) (f := fullF b) (by simp [tfind]) (by simpa [used, fullF] using hr), andT_ok rfl, tset_cons, if_neg (List.lt_irrefl _), if_pos rfl]
    simp only
    rw [k0_sync (wName_nm h1 h2) (f := ⟨(fullF b).b ++ wsB set term vote fr es, (fullF b).sure⟩) (by simp [tfind]), tset_cons, if_neg (List.lt_irrefl _), if_pos rfl]
    rfl
  unfold DS.wsave
  rw [if_neg (fun h => by
    rcases h with h | h
    · exact hb h
    · exact h.2 hm), if_neg hne, e1]
  rfl
end Go.Proofs.Ytebeidnmplnlpaa
end

section
set_option maxRecDepth 10000
namespace Go.Proofs.Ytebeidnmplnlpaa
set_option linter.unusedVariables false
open Go.RowKit

def saveBs (set : Bool) (term vote fr : Int) (es : List En) : List (List UInt8) := (if set = true then [recB 1 [term, vote]] else []) ++ (if 0 < fr then entBs fr es else [])
theorem wsB_laid (set : Bool) (term vote fr : Int) (es : List En) : wsB set term vote fr es = Frame.laid (saveBs set term vote fr es) := by
  unfold wsB wsSet saveBs
  rw [Frame.laid_append]
  congr 1
  · split
    · exact (Frame.laid_one _).symm
    · rfl
  · split
    · exact written_laid es fr
    · rfl
theorem saveBs_ok {set : Bool} {term vote fr : Int} {es : List En} (hm : ∀ e ∈ es, mayE e) : Frame.Ok1 (saveBs set term vote fr es) := fun b hb => by
  unfold saveBs at hb
  rcases List.mem_append.1 hb with hb | hb
  · split at hb
    · obtain rfl : b = _ := by simpa using hb
      exact rec_ok1 1 _ _
    · cases hb
  · split at hb
    · exact entBs_ok hm _ b hb
    · cases hb
def afterS (k : Kp) (set : Bool) (term vote fr : Int) (es : List En) : Kp :=
  ⟨if set = true then term else k.term, if set = true then vote else k.vote, k.base, k.bterm, if 0 < fr ∧ 0 < es.length then k.es.take (fr - k.base - 1).toNat ++ es else k.es⟩
theorem takesA_save {k : Kp} {set : Bool} {term vote fr : Int} {es : List En} (hs : set = true → inR term 1099511627776 ∧ inR vote 7) (hf : 0 < fr → k.base < fr ∧ fr ≤ k.base + k.es.length + 1) (hm : ∀ e ∈ es, mayE e) (hb : inR k.base 1099511627776) (hl : k.es.length + es.length ≤ 1000000000) :
    takesA false k (saveBs set term vote fr es) = some (afterS k set term vote fr es) := by
  have h2 : ∀ k1 : Kp, k1.base = k.base → k1.es = k.es → takesA false k1 (if 0 < fr then entBs fr es else []) = some { k1 with es := if 0 < fr ∧ 0 < es.length then k.es.take (fr - k.base - 1).toNat ++ es else k.es } := fun k1 e1 e2 => by
    by_cases h0 : 0 < fr
    · rw [if_pos h0]
      by_cases h1 : 0 < es.length
      · rw [if_pos ⟨h0, h1⟩]
        obtain ⟨f1, f2⟩ := hf h0
        have h3 := takesA_ents (es := es) (k := k1) (m := (fr - k.base - 1).toNat) hm (fun e => by rw [e] at h1; simp at h1) (by rw [e2]; omega) (by rw [e1]; exact hb) (by rw [e2]; exact hl)
        rw [e1, show k.base + ((fr - k.base - 1).toNat : Int) + 1 = fr by omega, e2] at h3
        rw [h3, ← e1]
      · rw [if_neg (fun h => h1 h.2)]
        obtain rfl : es = [] := List.eq_nil_of_length_eq_zero (by omega)
        rw [← e2]
        rfl
    · rw [if_neg h0, if_neg (fun h => h0 h.1), ← e2]
      rfl
  unfold saveBs afterS
  cases set with
  | false => exact h2 k rfl rfl
  | true =>
    obtain ⟨s1, s2⟩ := hs rfl
    simp only [if_true]
    rw [List.singleton_append, takesA_cons (takes_hard s1 s2)]
    exact h2 _ rfl rfl
/-- a file of bodies that says k -/
structure Says (bs : List (List UInt8)) (k : Kp) : Prop where
  ok : Frame.Ok1 bs
  ne : bs ≠ []
  says : takesA true Kp.zero bs = some k
  b : inR k.base 1099511627776
theorem Says.read {bs : List (List UInt8)} {k : Kp} (h : Says bs k) : readW (Frame.laid bs) = some k ∧ isWhole (Frame.laid bs) = true := by
  have := readW_laid h.ok h.ne
  rw [h.says] at this
  exact this
theorem Says.save {bs : List (List UInt8)} {k : Kp} (h : Says bs k) {set : Bool} {term vote fr : Int} {es : List En} (hs : set = true → inR term 1099511627776 ∧ inR vote 7) (hf : 0 < fr → k.base < fr ∧ fr ≤ k.base + k.es.length + 1) (hm : ∀ e ∈ es, mayE e) (hl : k.es.length + es.length ≤ 1000000000) :
    Says (bs ++ saveBs set term vote fr es) (afterS k set term vote fr es) := by
  refine ⟨fun b hb => ?_, fun e => h.ne (List.append_eq_nil_iff.1 e).1, ?_, h.b⟩
  · rcases List.mem_append.1 hb with hb | hb
    · exact h.ok b hb
    · exact saveBs_ok hm b hb
  · rw [takesA_app, h.says]
    simp only
    have : bs.isEmpty = false := by cases hbs : bs with
      | nil => exact absurd hbs h.ne
      | cons x y => rfl
    rw [this]
    exact takesA_save hs hf hm h.b hl
theorem says_new {k : Kp} (hk : mayK k) (hl : k.es.length ≤ 1000000) : Says (waBs k) k := ⟨waBs_ok hk, by simp [waBs], takesA_waBs hk hl, hk.2.1⟩
theorem waB_len {k : Kp} (hk : ∀ e ∈ k.es, mayE e) : (waB k).length ≤ 200 + (written (k.base + 1) k.es).length := by
  have h1 := put_le (recB 0 [k.base, k.bterm])
  have h2 := put_le (recB 1 [k.term, k.vote])
  have h3 := (recB_len 0 [k.base, k.bterm]).1
  have h4 := (recB_len 1 [k.term, k.vote]).1
  simp only [List.length_cons, List.length_nil] at h3 h4
  unfold waB
  rw [List.length_append, List.length_append]
  omega
theorem wsSet_len (set : Bool) (term vote : Int) : (wsSet set term vote).length ≤ 100 := by
  have h2 := put_le (recB 1 [term, vote])
  have h4 := (recB_len 1 [term, vote]).1
  simp only [List.length_cons, List.length_nil] at h4
  unfold wsSet
  split
  · omega
  · simp
/-- entries of few bytes -/
theorem written_few {m : Nat} {es : List En} (h : ∀ e ∈ es, e.data.length ≤ m) (i : Int) : (written i es).length ≤ (m + 62) * es.length := by
  induction es generalizing i with
  | nil => simp [written]
  | cons e es ih =>
    have h1 := (entB_len i e).2
    have h2 := h e (by simp)
    have h3 := put_le (entB i e)
    have h4 := ih (fun x hx => h x (List.mem_cons_of_mem _ hx)) (i + 1)
    rw [written_cons, List.length_append, List.length_cons, Nat.mul_succ]
    omega
theorem wsB_few {m : Nat} {set : Bool} {term vote fr : Int} {es : List En} (h : ∀ e ∈ es, e.data.length ≤ m) : (wsB set term vote fr es).length ≤ 100 + (m + 62) * es.length := by
  have h1 := wsSet_len set term vote
  have h2 := written_few h fr
  unfold wsB
  rw [List.length_append]
  split
  · omega
  · simp; omega
theorem zero_len : (waB Kp.zero).length ≤ 200 := by
  have := waB_len (k := Kp.zero) (by simp [Kp.zero])
  have e : (written (Kp.zero.base + 1) Kp.zero.es).length = 0 := rfl
  omega
end Go.Proofs.Ytebeidnmplnlpaa
end

section
set_option maxRecDepth 10000
namespace Go.Proofs.Ytebeidnmplnlpaa
set_option linter.unusedVariables false
open Go.RowKit

end Go.Proofs.Ytebeidnmplnlpaa
end

section
set_option maxRecDepth 10000
namespace Go.Proofs.Ytebeidnmplnlpaa
set_option linter.unusedVariables false
open Go.RowKit

def e18 : En := ⟨3, true, [120]⟩
def k18 : Kp := ⟨3, 2, 0, 0, [e18]⟩
def f18 : List UInt8 := Frame.laid (waBs Kp.zero ++ saveBs true 3 2 1 [e18])
theorem f18_eq : waB Kp.zero ++ wsB true 3 2 1 [e18] = f18 := by rw [waB_laid, wsB_laid, ← Frame.laid_append]; rfl
theorem e18_ok : ∀ e ∈ [e18], mayE e := by decide
theorem says18 : Says (waBs Kp.zero ++ saveBs true 3 2 1 [e18]) k18 := (says_new (k := Kp.zero) (by decide) (by decide)).save (set := true) (term := 3) (vote := 2) (fr := 1) (es := [e18]) (fun _ => by decide) (fun _ => by decide) e18_ok (by decide)
theorem open18 : DS.wopen (DS.new 10000) = ((0, ⟨k0 10000 4, [(wName 1, fullF (waB Kp.zero))]⟩), some (⟨1, 0, 0⟩, Kp.zero)) := wopen_new (by decide) (by decide) (by have := zero_len; omega)
theorem entBs_pos {fr : Int} {e : En} {es : List En} {set : Bool} {term vote : Int} (h : 0 < fr) : wsB set term vote fr (e :: es) ≠ [] := by
  unfold wsB
  rw [if_pos h, written_cons]
  intro e1
  have := Frame.put_pos (entB fr e)
  have h2 := congrArg List.length e1
  simp only [List.length_append, List.length_nil] at h2
  omega
theorem save18 : DS.wsave ⟨k0 10000 4, [(wName 1, fullF (waB Kp.zero))]⟩ ⟨1, 0, 0⟩ true 3 2 1 [e18] = ((0, ⟨k0 10000 6, [(wName 1, fullF f18)]⟩), ⟨1, 0, 1⟩) := by
  have h := wsave_one (r := 10000) (c := 4) (n := 1) (by decide) (by decide) (b := waB Kp.zero) (base := 0) (last := 0) (set := true) (term := 3) (vote := 2) (fr := 1) (es := [e18]) (by decide) e18_ok (entBs_pos (by decide)) (by
    have h1 := zero_len
    have h2 := wsB_few (m := 1) (set := true) (term := 3) (vote := 2) (fr := 1) (es := [e18]) (by decide)
    have h3 : [e18].length = 1 := rfl
    omega)
  rw [f18_eq] at h
  exact h
theorem reopen18 : DS.wopen ⟨k0 10000 6, [(wName 1, fullF f18)]⟩ = ((0, ⟨k0 10000 7, [(wName 1, fullF f18)]⟩), some (⟨1, 0, 1⟩, k18)) := by
  obtain ⟨h1, h2⟩ := says18.read
  exact wopen_one (r := 10000) (c := 6) (n := 1) (by decide) (by decide) (f := fullF f18) h1 h2
set_option maxHeartbeats 2000000 in
theorem awake18_any (W : World) : Calls Try.prog 39 #[] W fun e W' => e = .returned (.bool true) ∧ Below W.heap.size W W' := by
  refine calls_vc Try.func39 rfl (by kernel_rfl) ?_
  ((conv => whnf); (repeat ((first|refine kLa ?_|refine kLb ?_|refine kCa rfl ?_|refine kCb ?_|refine kCc ?_|refine kCd ?_|refine kCe ?_|refine kCf ?_|refine kCg ?_|refine kCh ?_|refine kCi ?_|refine kCj ?_|refine kQa ?_|refine kQb ?_|refine kGa ?_|refine kGb ?_|refine kHa ?_|refine kHb ?_); (conv => whnf))))
  ((repeat ((first|refine kLa ?_|refine kLb ?_|refine kCa rfl ?_|refine kCb ?_|refine kCc ?_|refine kCd ?_|refine kCe ?_|refine kCf ?_|refine kCg ?_|refine kCh ?_|refine kCi ?_|refine kCj ?_|refine kQa ?_|refine kQb ?_|refine kGa ?_|refine kGb ?_|refine kHa ?_|refine kHb ?_|refine kPa ?_|refine kPb ?_|refine kPc ?_|refine kEa ?_|refine kEb ?_|refine kBa ?_|refine kBb ?_|refine kBc (by omega) ?_|refine kBd (by omega) ?_|refine kBe (by omega) ?_|refine kBf (by omega) ?_|refine kRa ?_|refine kRb ?_|refine VRead.fld ?_|refine VRead.load1 (by assumption) ?_|refine VRead.load (by assumption) ?_|refine kRf ?_|refine kRg ?_|refine kRh ?_|refine kRi ?_|refine kBe rfl ?_|refine kBc rfl ?_|refine kWa (by omega) (by omega) ?_|refine kWb (by omega) (by omega) ?_|refine kRj (by omega) ?_|refine kRk ?_|refine VSem.convI ?_|refine VRead.convI ?_|refine VRead.rem (by omega) (by decide) ?_|refine VRead.neg ?_|refine VC.seq ?_); (conv => whnf))))
  refine VCall.of (oNew W 10000) ?_
  rintro e W1 ⟨d, U, rfl, hd1, hUB, hB1⟩
  refine ⟨_, rfl, ?_⟩
  ((conv => whnf); (repeat ((first|refine kLa ?_|refine kLb ?_|refine kCa rfl ?_|refine kCb ?_|refine kCc ?_|refine kCd ?_|refine kCe ?_|refine kCf ?_|refine kCg ?_|refine kCh ?_|refine kCi ?_|refine kCj ?_|refine kQa ?_|refine kQb ?_|refine kGa ?_|refine kGb ?_|refine kHa ?_|refine kHb ?_); (conv => whnf))))
  ((repeat ((first|refine kLa ?_|refine kLb ?_|refine kCa rfl ?_|refine kCb ?_|refine kCc ?_|refine kCd ?_|refine kCe ?_|refine kCf ?_|refine kCg ?_|refine kCh ?_|refine kCi ?_|refine kCj ?_|refine kQa ?_|refine kQb ?_|refine kGa ?_|refine kGb ?_|refine kHa ?_|refine kHb ?_|refine kPa ?_|refine kPb ?_|refine kPc ?_|refine kEa ?_|refine kEb ?_|refine kBa ?_|refine kBb ?_|refine kBc (by omega) ?_|refine kBd (by omega) ?_|refine kBe (by omega) ?_|refine kBf (by omega) ?_|refine kRa ?_|refine kRb ?_|refine VRead.fld ?_|refine VRead.load1 (by assumption) ?_|refine VRead.load (by assumption) ?_|refine kRf ?_|refine kRg ?_|refine kRh ?_|refine kRi ?_|refine kBe rfl ?_|refine kBc rfl ?_|refine kWa (by omega) (by omega) ?_|refine kWb (by omega) (by omega) ?_|refine kRj (by omega) ?_|refine kRk ?_|refine VSem.convI ?_|refine VRead.convI ?_|refine VRead.rem (by omega) (by decide) ?_|refine VRead.neg ?_|refine VC.seq ?_); (conv => whnf))))
  refine VCall.of (walOpen_any W1 U d (DS.new 10000) hd1 (by decide)) ?_
  rw [open18]
  rintro e W2 ⟨U2, hd2, st2, g, A, n, c, rfl, hw2, hg2, hgl2, hE2⟩
  refine ⟨_, rfl, ?_⟩
  simp only at hd2 hw2 hE2 ⊢
  have hUB2 := st2.min hUB hB1.size
  have hB2 : Below W.heap.size W W2 := hB1.trans (st2.below hUB hB1.size)
  ((conv => whnf); (repeat ((first|refine kLa ?_|refine kLb ?_|refine kCa rfl ?_|refine kCb ?_|refine kCc ?_|refine kCd ?_|refine kCe ?_|refine kCf ?_|refine kCg ?_|refine kCh ?_|refine kCi ?_|refine kCj ?_|refine kQa ?_|refine kQb ?_|refine kGa ?_|refine kGb ?_|refine kHa ?_|refine kHb ?_); (conv => whnf))))
  ((repeat ((first|refine kLa ?_|refine kLb ?_|refine kCa rfl ?_|refine kCb ?_|refine kCc ?_|refine kCd ?_|refine kCe ?_|refine kCf ?_|refine kCg ?_|refine kCh ?_|refine kCi ?_|refine kCj ?_|refine kQa ?_|refine kQb ?_|refine kGa ?_|refine kGb ?_|refine kHa ?_|refine kHb ?_|refine kPa ?_|refine kPb ?_|refine kPc ?_|refine kEa ?_|refine kEb ?_|refine kBa ?_|refine kBb ?_|refine kBc (by omega) ?_|refine kBd (by omega) ?_|refine kBe (by omega) ?_|refine kBf (by omega) ?_|refine kRa ?_|refine kRb ?_|refine VRead.fld ?_|refine VRead.load1 (by assumption) ?_|refine VRead.load (by assumption) ?_|refine kRf ?_|refine kRg ?_|refine kRh ?_|refine kRi ?_|refine kBe rfl ?_|refine kBc rfl ?_|refine kWa (by omega) (by omega) ?_|refine kWb (by omega) (by omega) ?_|refine kRj (by omega) ?_|refine kRk ?_|refine VSem.convI ?_|refine VRead.convI ?_|refine VRead.rem (by omega) (by decide) ?_|refine VRead.neg ?_|refine VC.seq ?_); (conv => whnf))))
  refine VSem.allocZ (z := .agg (kC Kp.zero none 0 0)) (by kernel_rfl) ?_
  intro W3 q hq hqe hql hB3
  ((conv => whnf); (repeat ((first|refine kLa ?_|refine kLb ?_|refine kCa rfl ?_|refine kCb ?_|refine kCc ?_|refine kCd ?_|refine kCe ?_|refine kCf ?_|refine kCg ?_|refine kCh ?_|refine kCi ?_|refine kCj ?_|refine kQa ?_|refine kQb ?_|refine kGa ?_|refine kGb ?_|refine kHa ?_|refine kHb ?_); (conv => whnf))))
  ((repeat ((first|refine kLa ?_|refine kLb ?_|refine kCa rfl ?_|refine kCb ?_|refine kCc ?_|refine kCd ?_|refine kCe ?_|refine kCf ?_|refine kCg ?_|refine kCh ?_|refine kCi ?_|refine kCj ?_|refine kQa ?_|refine kQb ?_|refine kGa ?_|refine kGb ?_|refine kHa ?_|refine kHb ?_|refine kPa ?_|refine kPb ?_|refine kPc ?_|refine kEa ?_|refine kEb ?_|refine kBa ?_|refine kBb ?_|refine kBc (by omega) ?_|refine kBd (by omega) ?_|refine kBe (by omega) ?_|refine kBf (by omega) ?_|refine kRa ?_|refine kRb ?_|refine VRead.fld ?_|refine VRead.load1 (by assumption) ?_|refine VRead.load (by assumption) ?_|refine kRf ?_|refine kRg ?_|refine kRh ?_|refine kRi ?_|refine kBe rfl ?_|refine kBc rfl ?_|refine kWa (by omega) (by omega) ?_|refine kWb (by omega) (by omega) ?_|refine kRj (by omega) ?_|refine kRk ?_|refine VSem.convI ?_|refine VRead.convI ?_|refine VRead.rem (by omega) (by decide) ?_|refine VRead.neg ?_|refine VC.seq ?_); (conv => whnf))))
  refine VUnit.storeAB hq rfl rfl rfl (by simp [kC, Kp.zero, Value.oneCell']) ?_
  intro W4 hq4 hg4
  rw [setFrom_allW (vs := kC Kp.zero A n c) (by rfl)] at hq4
  have hB24 : Below W2.heap.size W2 W4 := only_new hB3 hg4 (by omega) (by omega)
  have hd4 := hd2.below hB24
  have hw4 := hw2.later hB24
  have hB4 := hB2.trans (hB24.mono hB2.size)
  have nq : ¬ U2 q := fun hu => by have := hd2.lt q hu; omega
  ((conv => whnf); (repeat ((first|refine kLa ?_|refine kLb ?_|refine kCa rfl ?_|refine kCb ?_|refine kCc ?_|refine kCd ?_|refine kCe ?_|refine kCf ?_|refine kCg ?_|refine kCh ?_|refine kCi ?_|refine kCj ?_|refine kQa ?_|refine kQb ?_|refine kGa ?_|refine kGb ?_|refine kHa ?_|refine kHb ?_); (conv => whnf))))
  (repeat (first | ((first|refine kLa ?_|refine kLb ?_|refine kCa rfl ?_|refine kCb ?_|refine kCc ?_|refine kCd ?_|refine kCe ?_|refine kCf ?_|refine kCg ?_|refine kCh ?_|refine kCi ?_|refine kCj ?_|refine kQa ?_|refine kQb ?_|refine kGa ?_|refine kGb ?_|refine kHa ?_|refine kHb ?_|refine kPa ?_|refine kPb ?_|refine kPc ?_|refine kEa ?_|refine kEb ?_|refine kBa ?_|refine kBb ?_|refine kBc (by omega) ?_|refine kBd (by omega) ?_|refine kBe (by omega) ?_|refine kBf (by omega) ?_|refine kRa ?_|refine kRb ?_|refine VRead.fld ?_|refine VRead.load1 (by assumption) ?_|refine VRead.load (by assumption) ?_|refine kRf ?_|refine kRg ?_|refine kRh ?_|refine kRi ?_|refine kBe rfl ?_|refine kBc rfl ?_|refine kWa (by omega) (by omega) ?_|refine kWb (by omega) (by omega) ?_|refine kRj (by omega) ?_|refine kRk ?_|refine VSem.convI ?_|refine VRead.convI ?_|refine VRead.rem (by omega) (by decide) ?_|refine VRead.neg ?_|refine VC.seq ?_); (conv => whnf)) | (refine VRead.loadB hq4 rfl rfl ?_; (conv => whnf))))
  refine VCall.of (oCalls W4 U2 d _ hd4) ?_
  rintro e W5 ⟨rfl, eW5⟩
  obtain rfl := eW5.symm
  refine ⟨_, rfl, ?_⟩
  (conv => whnf)
  (repeat ((first|refine kBe rfl ?_|refine kLa ?_|refine kLb ?_|refine kCa rfl ?_|refine kCb ?_|refine kCc ?_|refine kCd ?_|refine kCe ?_|refine kCf ?_|refine kCg ?_|refine kCh ?_|refine kCi ?_|refine kCj ?_|refine kQa ?_|refine kQb ?_|refine kGa ?_|refine kGb ?_|refine kHa ?_|refine kHb ?_|refine kPa ?_|refine kPb ?_|refine kPc ?_|refine kEa ?_|refine kEb ?_|refine kBa ?_|refine kBb ?_|refine kBc (by omega) ?_|refine kBd (by omega) ?_|refine kBe (by omega) ?_|refine kBf (by omega) ?_|refine kRa ?_|refine kRb ?_|refine VRead.fld ?_|refine VRead.load1 (by assumption) ?_|refine VRead.load (by assumption) ?_|refine kRf ?_|refine kRg ?_|refine kRh ?_|refine kRi ?_|refine kBe rfl ?_|refine kBc rfl ?_|refine kWa (by omega) (by omega) ?_|refine kWb (by omega) (by omega) ?_|refine kRj (by omega) ?_|refine kRk ?_|refine VSem.convI ?_|refine VRead.convI ?_|refine VRead.rem (by omega) (by decide) ?_|refine VRead.neg ?_|refine VC.seq ?_); (conv => whnf)))
  refine VSem.buildS rfl rfl (by simp [zipP, Value.oneCell']) (by omega) ?_
  ((conv => whnf); (repeat ((first|refine kLa ?_|refine kLb ?_|refine kCa rfl ?_|refine kCb ?_|refine kCc ?_|refine kCd ?_|refine kCe ?_|refine kCf ?_|refine kCg ?_|refine kCh ?_|refine kCi ?_|refine kCj ?_|refine kQa ?_|refine kQb ?_|refine kGa ?_|refine kGb ?_|refine kHa ?_|refine kHb ?_); (conv => whnf))))
  ((repeat ((first|refine kLa ?_|refine kLb ?_|refine kCa rfl ?_|refine kCb ?_|refine kCc ?_|refine kCd ?_|refine kCe ?_|refine kCf ?_|refine kCg ?_|refine kCh ?_|refine kCi ?_|refine kCj ?_|refine kQa ?_|refine kQb ?_|refine kGa ?_|refine kGb ?_|refine kHa ?_|refine kHb ?_|refine kPa ?_|refine kPb ?_|refine kPc ?_|refine kEa ?_|refine kEb ?_|refine kBa ?_|refine kBb ?_|refine kBc (by omega) ?_|refine kBd (by omega) ?_|refine kBe (by omega) ?_|refine kBf (by omega) ?_|refine kRa ?_|refine kRb ?_|refine VRead.fld ?_|refine VRead.load1 (by assumption) ?_|refine VRead.load (by assumption) ?_|refine kRf ?_|refine kRg ?_|refine kRh ?_|refine kRi ?_|refine kBe rfl ?_|refine kBc rfl ?_|refine kWa (by omega) (by omega) ?_|refine kWb (by omega) (by omega) ?_|refine kRj (by omega) ?_|refine kRk ?_|refine VSem.convI ?_|refine VRead.convI ?_|refine VRead.rem (by omega) (by decide) ?_|refine VRead.neg ?_|refine VC.seq ?_); (conv => whnf))))
  refine VSem.of (w' := W4.alloc (.cells (bv [120]).toArray 5 (1, 2))) (Lib.run_convert_bytes_const (P := Try.prog) W4 31 5 _ 1 1 Try.underlying31 Try.underlying5) ?_
  have hr6 : Reads (W4.alloc (.cells (bv [120]).toArray 5 (1, 2))) (W4.alloc (.cells (bv [120]).toArray 5 (1, 2))).heap.size 1 (some ⟨W4.heap.size, 0, none⟩) 1 (bv [120]) := (reads_new W4 [120] 5 (1, 2) _ rfl 1 rfl).more (by simp)
  have hL6 : Lies (W4.alloc (.cells (bv [120]).toArray 5 (1, 2))) (fun j => W4.heap.size ≤ j) (some ⟨W4.heap.size, 0, none⟩) 1 [120] := ⟨hr6, fun _ => ⟨_, _, _, rfl, Nat.le_refl _, World.alloc_heap_new W4 _⟩⟩
  have hB6 := (Below.refl W4.heap.size W4).alloc (Nat.le_refl _) (.cells (bv [120]).toArray 5 (1, 2))
  generalize W4.alloc (.cells (bv [120]).toArray 5 (1, 2)) = W6 at *
  ((conv => whnf); (repeat ((first|refine kLa ?_|refine kLb ?_|refine kCa rfl ?_|refine kCb ?_|refine kCc ?_|refine kCd ?_|refine kCe ?_|refine kCf ?_|refine kCg ?_|refine kCh ?_|refine kCi ?_|refine kCj ?_|refine kQa ?_|refine kQb ?_|refine kGa ?_|refine kGb ?_|refine kHa ?_|refine kHb ?_); (conv => whnf))))
  ((repeat ((first|refine kLa ?_|refine kLb ?_|refine kCa rfl ?_|refine kCb ?_|refine kCc ?_|refine kCd ?_|refine kCe ?_|refine kCf ?_|refine kCg ?_|refine kCh ?_|refine kCi ?_|refine kCj ?_|refine kQa ?_|refine kQb ?_|refine kGa ?_|refine kGb ?_|refine kHa ?_|refine kHb ?_|refine kPa ?_|refine kPb ?_|refine kPc ?_|refine kEa ?_|refine kEb ?_|refine kBa ?_|refine kBb ?_|refine kBc (by omega) ?_|refine kBd (by omega) ?_|refine kBe (by omega) ?_|refine kBf (by omega) ?_|refine kRa ?_|refine kRb ?_|refine VRead.fld ?_|refine VRead.load1 (by assumption) ?_|refine VRead.load (by assumption) ?_|refine kRf ?_|refine kRg ?_|refine kRh ?_|refine kRi ?_|refine kBe rfl ?_|refine kBc rfl ?_|refine kWa (by omega) (by omega) ?_|refine kWb (by omega) (by omega) ?_|refine kRj (by omega) ?_|refine kRk ?_|refine VSem.convI ?_|refine VRead.convI ?_|refine VRead.rem (by omega) (by decide) ?_|refine VRead.neg ?_|refine VC.seq ?_); (conv => whnf))))
  refine VRead.ofW (v := .agg #[.int .i64 3, .bool true, .slice (some ⟨W4.heap.size, 0, none⟩) 1 1]) (fun _ => by kernel_rfl) ?_
  ((conv => whnf); (repeat ((first|refine kLa ?_|refine kLb ?_|refine kCa rfl ?_|refine kCb ?_|refine kCc ?_|refine kCd ?_|refine kCe ?_|refine kCf ?_|refine kCg ?_|refine kCh ?_|refine kCi ?_|refine kCj ?_|refine kQa ?_|refine kQb ?_|refine kGa ?_|refine kGb ?_|refine kHa ?_|refine kHb ?_); (conv => whnf))))
  ((repeat ((first|refine kLa ?_|refine kLb ?_|refine kCa rfl ?_|refine kCb ?_|refine kCc ?_|refine kCd ?_|refine kCe ?_|refine kCf ?_|refine kCg ?_|refine kCh ?_|refine kCi ?_|refine kCj ?_|refine kQa ?_|refine kQb ?_|refine kGa ?_|refine kGb ?_|refine kHa ?_|refine kHb ?_|refine kPa ?_|refine kPb ?_|refine kPc ?_|refine kEa ?_|refine kEb ?_|refine kBa ?_|refine kBb ?_|refine kBc (by omega) ?_|refine kBd (by omega) ?_|refine kBe (by omega) ?_|refine kBf (by omega) ?_|refine kRa ?_|refine kRb ?_|refine VRead.fld ?_|refine VRead.load1 (by assumption) ?_|refine VRead.load (by assumption) ?_|refine kRf ?_|refine kRg ?_|refine kRh ?_|refine kRi ?_|refine kBe rfl ?_|refine kBc rfl ?_|refine kWa (by omega) (by omega) ?_|refine kWb (by omega) (by omega) ?_|refine kRj (by omega) ?_|refine kRk ?_|refine VSem.convI ?_|refine VRead.convI ?_|refine VRead.rem (by omega) (by decide) ?_|refine VRead.neg ?_|refine VC.seq ?_); (conv => whnf))))
  refine VSem.of (v := .slice (some ⟨W6.heap.size, 0, none⟩) 1 1) (w' := W6.alloc (.cells #[.int .i64 3, .bool true, .slice (some ⟨W4.heap.size, 0, none⟩) 1 1] 67)) (by kernel_rfl) ?_
  have hnew := Blk.new W6 67 #[.int .i64 3, .bool true, .slice (some ⟨W4.heap.size, 0, none⟩) 1 1]
  have hB7 : Below W6.heap.size W6 (W6.alloc (.cells #[.int .i64 3, .bool true, .slice (some ⟨W4.heap.size, 0, none⟩) 1 1] 67)) := (Below.refl _ W6).alloc (Nat.le_refl _) _
  generalize W6.alloc (.cells #[.int .i64 3, .bool true, .slice (some ⟨W4.heap.size, 0, none⟩) 1 1] 67) = W7 at *
  have hB47 := hB6.trans (hB7.mono hB6.size)
  have z7 := hB47.size
  have hen : EnAt W7 (fun _ => True) (some ⟨W6.heap.size, 0, none⟩) 1 [e18] := EnAt.one (e := e18) hnew trivial (Nat.le_refl _) ((hL6.below hB7 (Nat.le_refl _)).more (fun _ _ _ => trivial))
  have hen2 : EnAt W7 (fun j => j < W7.heap.size) (some ⟨W6.heap.size, 0, none⟩) 1 [e18] := hen.more (fun j h _ => h)
  ((conv => whnf); (repeat ((first|refine kLa ?_|refine kLb ?_|refine kCa rfl ?_|refine kCb ?_|refine kCc ?_|refine kCd ?_|refine kCe ?_|refine kCf ?_|refine kCg ?_|refine kCh ?_|refine kCi ?_|refine kCj ?_|refine kQa ?_|refine kQb ?_|refine kGa ?_|refine kGb ?_|refine kHa ?_|refine kHb ?_); (conv => whnf))))
  ((repeat ((first|refine kLa ?_|refine kLb ?_|refine kCa rfl ?_|refine kCb ?_|refine kCc ?_|refine kCd ?_|refine kCe ?_|refine kCf ?_|refine kCg ?_|refine kCh ?_|refine kCi ?_|refine kCj ?_|refine kQa ?_|refine kQb ?_|refine kGa ?_|refine kGb ?_|refine kHa ?_|refine kHb ?_|refine kPa ?_|refine kPb ?_|refine kPc ?_|refine kEa ?_|refine kEb ?_|refine kBa ?_|refine kBb ?_|refine kBc (by omega) ?_|refine kBd (by omega) ?_|refine kBe (by omega) ?_|refine kBf (by omega) ?_|refine kRa ?_|refine kRb ?_|refine VRead.fld ?_|refine VRead.load1 (by assumption) ?_|refine VRead.load (by assumption) ?_|refine kRf ?_|refine kRg ?_|refine kRh ?_|refine kRi ?_|refine kBe rfl ?_|refine kBc rfl ?_|refine kWa (by omega) (by omega) ?_|refine kWb (by omega) (by omega) ?_|refine kRj (by omega) ?_|refine kRk ?_|refine VSem.convI ?_|refine VRead.convI ?_|refine VRead.rem (by omega) (by decide) ?_|refine VRead.neg ?_|refine VC.seq ?_); (conv => whnf))))
  refine VCall.of (walSave_any W7 U2 g d _ ⟨1, 0, 0⟩ true 3 2 1 _ 1 1 [e18] (hd4.below hB47) (hw4.later hB47) hg2 ⟨by decide, by decide, by decide, by decide, by decide, by decide⟩ hen2 (by decide) (by decide) (by decide) (by decide)) ?_
  rw [save18]
  rintro e W8 ⟨rfl, U8, hd8, hw8, hg8, st8⟩
  refine ⟨_, rfl, ?_⟩
  simp only at hd8 hw8 ⊢
  have hUa : ∀ j, addF U2 g j → W.heap.size ≤ j := fun j hj => by
    rcases hj with hj | hj
    · exact hUB2 j hj
    · have := hB1.size; omega
  have hB47' := hB4.trans (hB47.mono hB4.size)
  have hB8 := hB47'.trans (st8.below hUa hB47'.size)
  have hUB8 := st8.min hUa hB47'.size
  have nqa : ¬ addF U2 g q := fun h => by
    rcases h with h | h
    · exact nq h
    · have := hw2.lt; omega
  obtain ⟨hq8, nq8⟩ := st8.blk (hq4.later hB47) nqa
  ((conv => whnf); (repeat ((first|refine kLa ?_|refine kLb ?_|refine kCa rfl ?_|refine kCb ?_|refine kCc ?_|refine kCd ?_|refine kCe ?_|refine kCf ?_|refine kCg ?_|refine kCh ?_|refine kCi ?_|refine kCj ?_|refine kQa ?_|refine kQb ?_|refine kGa ?_|refine kGb ?_|refine kHa ?_|refine kHb ?_); (conv => whnf))))
  ((repeat ((first|refine kLa ?_|refine kLb ?_|refine kCa rfl ?_|refine kCb ?_|refine kCc ?_|refine kCd ?_|refine kCe ?_|refine kCf ?_|refine kCg ?_|refine kCh ?_|refine kCi ?_|refine kCj ?_|refine kQa ?_|refine kQb ?_|refine kGa ?_|refine kGb ?_|refine kHa ?_|refine kHb ?_|refine kPa ?_|refine kPb ?_|refine kPc ?_|refine kEa ?_|refine kEb ?_|refine kBa ?_|refine kBb ?_|refine kBc (by omega) ?_|refine kBd (by omega) ?_|refine kBe (by omega) ?_|refine kBf (by omega) ?_|refine kRa ?_|refine kRb ?_|refine VRead.fld ?_|refine VRead.load1 (by assumption) ?_|refine VRead.load (by assumption) ?_|refine kRf ?_|refine kRg ?_|refine kRh ?_|refine kRi ?_|refine kBe rfl ?_|refine kBc rfl ?_|refine kWa (by omega) (by omega) ?_|refine kWb (by omega) (by omega) ?_|refine kRj (by omega) ?_|refine kRk ?_|refine VSem.convI ?_|refine VRead.convI ?_|refine VRead.rem (by omega) (by decide) ?_|refine VRead.neg ?_|refine VC.seq ?_); (conv => whnf))))
  refine VCall.of (walOpen_any W8 U8 d _ hd8 (by decide)) ?_
  rw [reopen18]
  rintro e W9 ⟨U9, hd9, st9, g9, A9, n9, c9, rfl, hw9, hg9, hgl9, hE9⟩
  refine ⟨_, rfl, ?_⟩
  simp only at hd9 hw9 hE9 ⊢
  obtain ⟨hq9, nq9⟩ := st9.blk hq8 (fun h => nq8 (.inl h))
  have hB9 := hB8.trans (st9.below (fun j hj => hUB8 j (.inl hj)) hB8.size)
  have hn9 : n9 = 1 := hE9.at_.2.2.symm
  subst hn9
  ((conv => whnf); (repeat ((first|refine kLa ?_|refine kLb ?_|refine kCa rfl ?_|refine kCb ?_|refine kCc ?_|refine kCd ?_|refine kCe ?_|refine kCf ?_|refine kCg ?_|refine kCh ?_|refine kCi ?_|refine kCj ?_|refine kQa ?_|refine kQb ?_|refine kGa ?_|refine kGb ?_|refine kHa ?_|refine kHb ?_); (conv => whnf))))
  ((repeat ((first|refine kLa ?_|refine kLb ?_|refine kCa rfl ?_|refine kCb ?_|refine kCc ?_|refine kCd ?_|refine kCe ?_|refine kCf ?_|refine kCg ?_|refine kCh ?_|refine kCi ?_|refine kCj ?_|refine kQa ?_|refine kQb ?_|refine kGa ?_|refine kGb ?_|refine kHa ?_|refine kHb ?_|refine kPa ?_|refine kPb ?_|refine kPc ?_|refine kEa ?_|refine kEb ?_|refine kBa ?_|refine kBb ?_|refine kBc (by omega) ?_|refine kBd (by omega) ?_|refine kBe (by omega) ?_|refine kBf (by omega) ?_|refine kRa ?_|refine kRb ?_|refine VRead.fld ?_|refine VRead.load1 (by assumption) ?_|refine VRead.load (by assumption) ?_|refine kRf ?_|refine kRg ?_|refine kRh ?_|refine kRi ?_|refine kBe rfl ?_|refine kBc rfl ?_|refine kWa (by omega) (by omega) ?_|refine kWb (by omega) (by omega) ?_|refine kRj (by omega) ?_|refine kRk ?_|refine VSem.convI ?_|refine VRead.convI ?_|refine VRead.rem (by omega) (by decide) ?_|refine VRead.neg ?_|refine VC.seq ?_); (conv => whnf))))
  refine VUnit.storeAB hq9 rfl rfl rfl (by simp [kC, Value.oneCell']) ?_
  intro W10 hq10 hg10
  rw [setFrom_allW (vs := kC k18 A9 1 c9) (by rfl)] at hq10
  have hqW : W.heap.size ≤ q := by have := hB2.size; omega
  have hB10 : Below W.heap.size W W10 := only_new hB9 hg10 hqW hB9.size
  ((conv => whnf); (repeat ((first|refine kLa ?_|refine kLb ?_|refine kCa rfl ?_|refine kCb ?_|refine kCc ?_|refine kCd ?_|refine kCe ?_|refine kCf ?_|refine kCg ?_|refine kCh ?_|refine kCi ?_|refine kCj ?_|refine kQa ?_|refine kQb ?_|refine kGa ?_|refine kGb ?_|refine kHa ?_|refine kHb ?_); (conv => whnf))))
  (repeat (first | ((first|refine kLa ?_|refine kLb ?_|refine kCa rfl ?_|refine kCb ?_|refine kCc ?_|refine kCd ?_|refine kCe ?_|refine kCf ?_|refine kCg ?_|refine kCh ?_|refine kCi ?_|refine kCj ?_|refine kQa ?_|refine kQb ?_|refine kGa ?_|refine kGb ?_|refine kHa ?_|refine kHb ?_|refine kPa ?_|refine kPb ?_|refine kPc ?_|refine kEa ?_|refine kEb ?_|refine kBa ?_|refine kBb ?_|refine kBc (by omega) ?_|refine kBd (by omega) ?_|refine kBe (by omega) ?_|refine kBf (by omega) ?_|refine kRa ?_|refine kRb ?_|refine VRead.fld ?_|refine VRead.load1 (by assumption) ?_|refine VRead.load (by assumption) ?_|refine kRf ?_|refine kRg ?_|refine kRh ?_|refine kRi ?_|refine kBe rfl ?_|refine kBc rfl ?_|refine kWa (by omega) (by omega) ?_|refine kWb (by omega) (by omega) ?_|refine kRj (by omega) ?_|refine kRk ?_|refine VSem.convI ?_|refine VRead.convI ?_|refine VRead.rem (by omega) (by decide) ?_|refine VRead.neg ?_|refine VC.seq ?_); (conv => whnf)) | (refine VRead.loadB hq10 rfl rfl ?_; (conv => whnf))))
  refine VCall.of (walName_any 7 W10 (by decide)) ?_
  rintro e W11 ⟨rfl, hB11⟩
  refine ⟨_, rfl, ?_⟩
  ((conv => whnf); (repeat ((first|refine kLa ?_|refine kLb ?_|refine kCa rfl ?_|refine kCb ?_|refine kCc ?_|refine kCd ?_|refine kCe ?_|refine kCf ?_|refine kCg ?_|refine kCh ?_|refine kCi ?_|refine kCj ?_|refine kQa ?_|refine kQb ?_|refine kGa ?_|refine kGb ?_|refine kHa ?_|refine kHb ?_); (conv => whnf))))
  ((repeat ((first|refine kLa ?_|refine kLb ?_|refine kCa rfl ?_|refine kCb ?_|refine kCc ?_|refine kCd ?_|refine kCe ?_|refine kCf ?_|refine kCg ?_|refine kCh ?_|refine kCi ?_|refine kCj ?_|refine kQa ?_|refine kQb ?_|refine kGa ?_|refine kGb ?_|refine kHa ?_|refine kHb ?_|refine kPa ?_|refine kPb ?_|refine kPc ?_|refine kEa ?_|refine kEb ?_|refine kBa ?_|refine kBb ?_|refine kBc (by omega) ?_|refine kBd (by omega) ?_|refine kBe (by omega) ?_|refine kBf (by omega) ?_|refine kRa ?_|refine kRb ?_|refine VRead.fld ?_|refine VRead.load1 (by assumption) ?_|refine VRead.load (by assumption) ?_|refine kRf ?_|refine kRg ?_|refine kRh ?_|refine kRi ?_|refine kBe rfl ?_|refine kBc rfl ?_|refine kWa (by omega) (by omega) ?_|refine kWb (by omega) (by omega) ?_|refine kRj (by omega) ?_|refine kRk ?_|refine VSem.convI ?_|refine VRead.convI ?_|refine VRead.rem (by omega) (by decide) ?_|refine VRead.neg ?_|refine VC.seq ?_); (conv => whnf))))
  refine ⟨?_, hB10.trans (hB11.mono hB10.size)⟩
  congr 2
end Go.Proofs.Ytebeidnmplnlpaa
end

section
set_option maxRecDepth 10000
namespace Go.Proofs.Ytebeidnmplnlpaa
set_option linter.unusedVariables false
open Go.RowKit

set_option maxHeartbeats 1000000 in
theorem entriesW_any (es : List En) (A : Option Addr) (n c : Nat) (V0 : Foot) (w : World) (h0 : EnAt w V0 A n es) (hn : n ≤ 1000000) (hd : ∀ e ∈ es, e.data.length ≤ 100000000) :
    Calls Try.prog 42 #[.slice A n c] w fun e w' => ∃ A' c', e = .returned (.slice A' n c') ∧ ERow w' (fun j => w.heap.size ≤ j) w.heap.size (.slice A' n c') es ∧ Below w.heap.size w w' := by
  have h : EnAt w (fun j => j < w.heap.size) A n es := h0.more (fun j hj _ => hj)
  have hne := h.1
  refine calls_vc Try.func42 rfl (by kernel_rfl) ?_
  ((conv => whnf); (repeat ((first|refine kLa ?_|refine kLb ?_|refine kCa rfl ?_|refine kCb ?_|refine kCc ?_|refine kCd ?_|refine kCe ?_|refine kCf ?_|refine kCg ?_|refine kCh ?_|refine kCi ?_|refine kCj ?_|refine kQa ?_|refine kQb ?_|refine kGa ?_|refine kGb ?_|refine kHa ?_|refine kHb ?_); (conv => whnf))))
  ((repeat ((first|refine kLa ?_|refine kLb ?_|refine kCa rfl ?_|refine kCb ?_|refine kCc ?_|refine kCd ?_|refine kCe ?_|refine kCf ?_|refine kCg ?_|refine kCh ?_|refine kCi ?_|refine kCj ?_|refine kQa ?_|refine kQb ?_|refine kGa ?_|refine kGb ?_|refine kHa ?_|refine kHb ?_|refine kPa ?_|refine kPb ?_|refine kPc ?_|refine kEa ?_|refine kEb ?_|refine kBa ?_|refine kBb ?_|refine kBc (by omega) ?_|refine kBd (by omega) ?_|refine kBe (by omega) ?_|refine kBf (by omega) ?_|refine kRa ?_|refine kRb ?_|refine VRead.fld ?_|refine VRead.load1 (by assumption) ?_|refine VRead.load (by assumption) ?_|refine kRf ?_|refine kRg ?_|refine kRh ?_|refine kRi ?_|refine kBe rfl ?_|refine kBc rfl ?_|refine kWa (by omega) (by omega) ?_|refine kWb (by omega) (by omega) ?_|refine kRj (by omega) ?_|refine kRk ?_|refine VSem.convI ?_|refine VRead.convI ?_|refine VRead.rem (by omega) (by decide) ?_|refine VRead.neg ?_|refine VC.seq ?_); (conv => whnf))))
  refine VC.loop [3, 4] [(3, 23)] (fun q vs W => ∃ (k c' : Nat) (A' : Option Addr), vs = [.slice A' k c', .int .i64 (k : Int)] ∧ q = n - k ∧ k ≤ n ∧ ERow W (fun j => w.heap.size ≤ j) w.heap.size (.slice A' k c') (es.take k) ∧ Below w.heap.size w W) (by kernel_rfl)
    ⟨_, 0, 0, none, rfl, rfl, by omega, ERow.nil _ _ _, Below.refl _ _⟩ ?_
  rintro q τ vs W ⟨k, c', A', rfl, rfl, hk, hE, hB⟩
  by_cases hlt : k < n
  case neg =>
    obtain rfl : k = n := by omega
    rw [List.take_of_length_le (by omega)] at hE
    ((conv => whnf); (repeat ((first|refine kLa ?_|refine kLb ?_|refine kCa rfl ?_|refine kCb ?_|refine kCc ?_|refine kCd ?_|refine kCe ?_|refine kCf ?_|refine kCg ?_|refine kCh ?_|refine kCi ?_|refine kCj ?_|refine kQa ?_|refine kQb ?_|refine kGa ?_|refine kGb ?_|refine kHa ?_|refine kHb ?_); (conv => whnf))))
    ((repeat ((first|refine kLa ?_|refine kLb ?_|refine kCa rfl ?_|refine kCb ?_|refine kCc ?_|refine kCd ?_|refine kCe ?_|refine kCf ?_|refine kCg ?_|refine kCh ?_|refine kCi ?_|refine kCj ?_|refine kQa ?_|refine kQb ?_|refine kGa ?_|refine kGb ?_|refine kHa ?_|refine kHb ?_|refine kPa ?_|refine kPb ?_|refine kPc ?_|refine kEa ?_|refine kEb ?_|refine kBa ?_|refine kBb ?_|refine kBc (by omega) ?_|refine kBd (by omega) ?_|refine kBe (by omega) ?_|refine kBf (by omega) ?_|refine kRa ?_|refine kRb ?_|refine VRead.fld ?_|refine VRead.load1 (by assumption) ?_|refine VRead.load (by assumption) ?_|refine kRf ?_|refine kRg ?_|refine kRh ?_|refine kRi ?_|refine kBe rfl ?_|refine kBc rfl ?_|refine kWa (by omega) (by omega) ?_|refine kWb (by omega) (by omega) ?_|refine kRj (by omega) ?_|refine kRk ?_|refine VSem.convI ?_|refine VRead.convI ?_|refine VRead.rem (by omega) (by decide) ?_|refine VRead.neg ?_|refine VC.seq ?_); (conv => whnf))))
    exact ⟨A', c', rfl, hE, hB⟩
  obtain ⟨e, he⟩ : ∃ e, es[k]? = some e := ⟨_, List.getElem?_eq_getElem (by omega)⟩
  obtain ⟨x, D, m, j, rfl, f0, f1, f2, hmj, hml, hr⟩ := (h.belowB hB).at_ he
  have hdl := hd e (List.mem_of_getElem? he)
  ((conv => whnf); (repeat ((first|refine kLa ?_|refine kLb ?_|refine kCa rfl ?_|refine kCb ?_|refine kCc ?_|refine kCd ?_|refine kCe ?_|refine kCf ?_|refine kCg ?_|refine kCh ?_|refine kCi ?_|refine kCj ?_|refine kQa ?_|refine kQb ?_|refine kGa ?_|refine kGb ?_|refine kHa ?_|refine kHb ?_); (conv => whnf))))
  (repeat ((first|refine VRead.atK hlt ?_|refine VRead.load3W f0 f1 f2 ?_|refine kLa ?_|refine kLb ?_|refine kCa rfl ?_|refine kCb ?_|refine kCc ?_|refine kCd ?_|refine kCe ?_|refine kCf ?_|refine kCg ?_|refine kCh ?_|refine kCi ?_|refine kCj ?_|refine kQa ?_|refine kQb ?_|refine kGa ?_|refine kGb ?_|refine kHa ?_|refine kHb ?_|refine kPa ?_|refine kPb ?_|refine kPc ?_|refine kEa ?_|refine kEb ?_|refine kBa ?_|refine kBb ?_|refine kBc (by omega) ?_|refine kBd (by omega) ?_|refine kBe (by omega) ?_|refine kBf (by omega) ?_|refine kRa ?_|refine kRb ?_|refine VRead.fld ?_|refine VRead.load1 (by assumption) ?_|refine VRead.load (by assumption) ?_|refine kRf ?_|refine kRg ?_|refine kRh ?_|refine kRi ?_|refine kBe rfl ?_|refine kBc rfl ?_|refine kWa (by omega) (by omega) ?_|refine kWb (by omega) (by omega) ?_|refine kRj (by omega) ?_|refine kRk ?_|refine VSem.convI ?_|refine VRead.convI ?_|refine VRead.rem (by omega) (by decide) ?_|refine VRead.neg ?_|refine VC.seq ?_); (conv => whnf)))
  refine VSem.allocZ (z := .agg #[.int .i64 0, .bool false, .slice none 0 0]) (by kernel_rfl) ?_
  intro W2 b hb hgb hlb hB2
  ((conv => whnf); (repeat ((first|refine kLa ?_|refine kLb ?_|refine kCa rfl ?_|refine kCb ?_|refine kCc ?_|refine kCd ?_|refine kCe ?_|refine kCf ?_|refine kCg ?_|refine kCh ?_|refine kCi ?_|refine kCj ?_|refine kQa ?_|refine kQb ?_|refine kGa ?_|refine kGb ?_|refine kHa ?_|refine kHb ?_); (conv => whnf))))
  ((repeat ((first|refine kLa ?_|refine kLb ?_|refine kCa rfl ?_|refine kCb ?_|refine kCc ?_|refine kCd ?_|refine kCe ?_|refine kCf ?_|refine kCg ?_|refine kCh ?_|refine kCi ?_|refine kCj ?_|refine kQa ?_|refine kQb ?_|refine kGa ?_|refine kGb ?_|refine kHa ?_|refine kHb ?_|refine kPa ?_|refine kPb ?_|refine kPc ?_|refine kEa ?_|refine kEb ?_|refine kBa ?_|refine kBb ?_|refine kBc (by omega) ?_|refine kBd (by omega) ?_|refine kBe (by omega) ?_|refine kBf (by omega) ?_|refine kRa ?_|refine kRb ?_|refine VRead.fld ?_|refine VRead.load1 (by assumption) ?_|refine VRead.load (by assumption) ?_|refine kRf ?_|refine kRg ?_|refine kRh ?_|refine kRi ?_|refine kBe rfl ?_|refine kBc rfl ?_|refine kWa (by omega) (by omega) ?_|refine kWb (by omega) (by omega) ?_|refine kRj (by omega) ?_|refine kRk ?_|refine VSem.convI ?_|refine VRead.convI ?_|refine VRead.rem (by omega) (by decide) ?_|refine VRead.neg ?_|refine VC.seq ?_); (conv => whnf))))
  refine VUnit.storeAB hb rfl rfl rfl (by simp [Value.oneCell']) ?_
  intro W3 hb3 hg3
  replace hb3 : Blk W3 b 67 #[.int .i64 e.term, .bool e.cmd, .slice D m j] := hb3
  have hB13 : Below W.heap.size W W3 := only_new hB2 hg3 (by omega) (by omega)
  have hB3 := hB.trans (hB13.mono hB.size)
  have hz := hB.size
  have hr3 := hr.below hB13 (Nat.le_refl _)
  have hE3 := hE.below hB13
  ((conv => whnf); (repeat ((first|refine kLa ?_|refine kLb ?_|refine kCa rfl ?_|refine kCb ?_|refine kCc ?_|refine kCd ?_|refine kCe ?_|refine kCf ?_|refine kCg ?_|refine kCh ?_|refine kCi ?_|refine kCj ?_|refine kQa ?_|refine kQb ?_|refine kGa ?_|refine kGb ?_|refine kHa ?_|refine kHb ?_); (conv => whnf))))
  (repeat (first | ((first|refine kLa ?_|refine kLb ?_|refine kCa rfl ?_|refine kCb ?_|refine kCc ?_|refine kCd ?_|refine kCe ?_|refine kCf ?_|refine kCg ?_|refine kCh ?_|refine kCi ?_|refine kCj ?_|refine kQa ?_|refine kQb ?_|refine kGa ?_|refine kGb ?_|refine kHa ?_|refine kHb ?_|refine kPa ?_|refine kPb ?_|refine kPc ?_|refine kEa ?_|refine kEb ?_|refine kBa ?_|refine kBb ?_|refine kBc (by omega) ?_|refine kBd (by omega) ?_|refine kBe (by omega) ?_|refine kBf (by omega) ?_|refine kRa ?_|refine kRb ?_|refine VRead.fld ?_|refine VRead.load1 (by assumption) ?_|refine VRead.load (by assumption) ?_|refine kRf ?_|refine kRg ?_|refine kRh ?_|refine kRi ?_|refine kBe rfl ?_|refine kBc rfl ?_|refine kWa (by omega) (by omega) ?_|refine kWb (by omega) (by omega) ?_|refine kRj (by omega) ?_|refine kRk ?_|refine VSem.convI ?_|refine VRead.convI ?_|refine VRead.rem (by omega) (by decide) ?_|refine VRead.neg ?_|refine VC.seq ?_); (conv => whnf)) | (refine VRead.loadB hb3 rfl rfl ?_; (conv => whnf))))
  refine VCall.of (bytes_anyS D m j W3.heap.size e.data W3 (by omega) hr3.1) ?_
  rintro e' W4 ⟨D', j', rfl, hO4, hB4⟩
  refine ⟨_, rfl, ?_⟩
  have hb4 := hb3.later hB4
  have hz3 := hB13.size
  have hE4 := hE3.below hB4
  have hB04 := hB3.trans (hB4.mono hB3.size)
  ((conv => whnf); (repeat ((first|refine kLa ?_|refine kLb ?_|refine kCa rfl ?_|refine kCb ?_|refine kCc ?_|refine kCd ?_|refine kCe ?_|refine kCf ?_|refine kCg ?_|refine kCh ?_|refine kCi ?_|refine kCj ?_|refine kQa ?_|refine kQb ?_|refine kGa ?_|refine kGb ?_|refine kHa ?_|refine kHb ?_); (conv => whnf))))
  ((repeat ((first|refine kLa ?_|refine kLb ?_|refine kCa rfl ?_|refine kCb ?_|refine kCc ?_|refine kCd ?_|refine kCe ?_|refine kCf ?_|refine kCg ?_|refine kCh ?_|refine kCi ?_|refine kCj ?_|refine kQa ?_|refine kQb ?_|refine kGa ?_|refine kGb ?_|refine kHa ?_|refine kHb ?_|refine kPa ?_|refine kPb ?_|refine kPc ?_|refine kEa ?_|refine kEb ?_|refine kBa ?_|refine kBb ?_|refine kBc (by omega) ?_|refine kBd (by omega) ?_|refine kBe (by omega) ?_|refine kBf (by omega) ?_|refine kRa ?_|refine kRb ?_|refine VRead.fld ?_|refine VRead.load1 (by assumption) ?_|refine VRead.load (by assumption) ?_|refine kRf ?_|refine kRg ?_|refine kRh ?_|refine kRi ?_|refine kBe rfl ?_|refine kBc rfl ?_|refine kWa (by omega) (by omega) ?_|refine kWb (by omega) (by omega) ?_|refine kRj (by omega) ?_|refine kRk ?_|refine VSem.convI ?_|refine VRead.convI ?_|refine VRead.rem (by omega) (by decide) ?_|refine VRead.neg ?_|refine VC.seq ?_); (conv => whnf))))
  refine VUnit.storeB hb4 rfl rfl rfl ?_
  intro W5 hb5 hg5
  replace hb5 : Blk W5 b 67 #[.int .i64 e.term, .bool e.cmd, .slice D' m j'] := hb5
  have hO5 := hO4.storeApart hg5 (hO4.notBlkW hb4 (by decide))
  have hbn : ∀ v : Value, ∀ es', ERow W (fun j => w.heap.size ≤ j) w.heap.size v es' → v.ownBlock ≠ some b := fun v es' hh e => by have := (hh.lt e).1; omega
  have hE5 := hE4.keepG hb4 hg5 (by decide) (hbn _ _ hE)
  have hB5 : Below w.heap.size w W5 := only_new hB04 hg5 (by omega) hB04.size
  ((conv => whnf); (repeat ((first|refine kLa ?_|refine kLb ?_|refine kCa rfl ?_|refine kCb ?_|refine kCc ?_|refine kCd ?_|refine kCe ?_|refine kCf ?_|refine kCg ?_|refine kCh ?_|refine kCi ?_|refine kCj ?_|refine kQa ?_|refine kQb ?_|refine kGa ?_|refine kGb ?_|refine kHa ?_|refine kHb ?_); (conv => whnf))))
  ((repeat ((first|refine kLa ?_|refine kLb ?_|refine kCa rfl ?_|refine kCb ?_|refine kCc ?_|refine kCd ?_|refine kCe ?_|refine kCf ?_|refine kCg ?_|refine kCh ?_|refine kCi ?_|refine kCj ?_|refine kQa ?_|refine kQb ?_|refine kGa ?_|refine kGb ?_|refine kHa ?_|refine kHb ?_|refine kPa ?_|refine kPb ?_|refine kPc ?_|refine kEa ?_|refine kEb ?_|refine kBa ?_|refine kBb ?_|refine kBc (by omega) ?_|refine kBd (by omega) ?_|refine kBe (by omega) ?_|refine kBf (by omega) ?_|refine kRa ?_|refine kRb ?_|refine VRead.fld ?_|refine VRead.load1 (by assumption) ?_|refine VRead.load (by assumption) ?_|refine kRf ?_|refine kRg ?_|refine kRh ?_|refine kRi ?_|refine kBe rfl ?_|refine kBc rfl ?_|refine kWa (by omega) (by omega) ?_|refine kWb (by omega) (by omega) ?_|refine kRj (by omega) ?_|refine kRk ?_|refine VSem.convI ?_|refine VRead.convI ?_|refine VRead.rem (by omega) (by decide) ?_|refine VRead.neg ?_|refine VC.seq ?_); (conv => whnf))))
  refine VRead.loadAB1 hb5 rfl rfl ?_
  ((conv => whnf); (repeat ((first|refine kLa ?_|refine kLb ?_|refine kCa rfl ?_|refine kCb ?_|refine kCc ?_|refine kCd ?_|refine kCe ?_|refine kCf ?_|refine kCg ?_|refine kCh ?_|refine kCi ?_|refine kCj ?_|refine kQa ?_|refine kQb ?_|refine kGa ?_|refine kGb ?_|refine kHa ?_|refine kHb ?_); (conv => whnf))))
  ((repeat ((first|refine kLa ?_|refine kLb ?_|refine kCa rfl ?_|refine kCb ?_|refine kCc ?_|refine kCd ?_|refine kCe ?_|refine kCf ?_|refine kCg ?_|refine kCh ?_|refine kCi ?_|refine kCj ?_|refine kQa ?_|refine kQb ?_|refine kGa ?_|refine kGb ?_|refine kHa ?_|refine kHb ?_|refine kPa ?_|refine kPb ?_|refine kPc ?_|refine kEa ?_|refine kEb ?_|refine kBa ?_|refine kBb ?_|refine kBc (by omega) ?_|refine kBd (by omega) ?_|refine kBe (by omega) ?_|refine kBf (by omega) ?_|refine kRa ?_|refine kRb ?_|refine VRead.fld ?_|refine VRead.load1 (by assumption) ?_|refine VRead.load (by assumption) ?_|refine kRf ?_|refine kRg ?_|refine kRh ?_|refine kRi ?_|refine kBe rfl ?_|refine kBc rfl ?_|refine kWa (by omega) (by omega) ?_|refine kWb (by omega) (by omega) ?_|refine kRj (by omega) ?_|refine kRk ?_|refine VSem.convI ?_|refine VRead.convI ?_|refine VRead.rem (by omega) (by decide) ?_|refine VRead.neg ?_|refine VC.seq ?_); (conv => whnf))))
  refine VSem.of (v := .slice (some ⟨W5.heap.size, 0, none⟩) 1 1) (w' := W5.alloc (.cells #[.int .i64 e.term, .bool e.cmd, .slice D' m j'] 67)) (by kernel_rfl) ?_
  have hnew := Blk.new W5 67 #[.int .i64 e.term, .bool e.cmd, .slice D' m j']
  have hB6 : Below W5.heap.size W5 (W5.alloc (.cells #[.int .i64 e.term, .bool e.cmd, .slice D' m j'] 67)) := (Below.refl _ W5).alloc (Nat.le_refl _) _
  generalize W5.alloc (.cells #[.int .i64 e.term, .bool e.cmd, .slice D' m j'] 67) = W6 at *
  have hE6 := hE5.below hB6
  have hO6 := hO5.below hB6 (Nat.le_refl _)
  have hB06 := hB5.trans (hB6.mono hB5.size)
  have z5 := hB5.size
  have z6 := hB06.size
  ((conv => whnf); (repeat ((first|refine kLa ?_|refine kLb ?_|refine kCa rfl ?_|refine kCb ?_|refine kCc ?_|refine kCd ?_|refine kCe ?_|refine kCf ?_|refine kCg ?_|refine kCh ?_|refine kCi ?_|refine kCj ?_|refine kQa ?_|refine kQb ?_|refine kGa ?_|refine kGb ?_|refine kHa ?_|refine kHb ?_); (conv => whnf))))
  ((repeat ((first|refine kLa ?_|refine kLb ?_|refine kCa rfl ?_|refine kCb ?_|refine kCc ?_|refine kCd ?_|refine kCe ?_|refine kCf ?_|refine kCg ?_|refine kCh ?_|refine kCi ?_|refine kCj ?_|refine kQa ?_|refine kQb ?_|refine kGa ?_|refine kGb ?_|refine kHa ?_|refine kHb ?_|refine kPa ?_|refine kPb ?_|refine kPc ?_|refine kEa ?_|refine kEb ?_|refine kBa ?_|refine kBb ?_|refine kBc (by omega) ?_|refine kBd (by omega) ?_|refine kBe (by omega) ?_|refine kBf (by omega) ?_|refine kRa ?_|refine kRb ?_|refine VRead.fld ?_|refine VRead.load1 (by assumption) ?_|refine VRead.load (by assumption) ?_|refine kRf ?_|refine kRg ?_|refine kRh ?_|refine kRi ?_|refine kBe rfl ?_|refine kBc rfl ?_|refine kWa (by omega) (by omega) ?_|refine kWb (by omega) (by omega) ?_|refine kRj (by omega) ?_|refine kRk ?_|refine VSem.convI ?_|refine VRead.convI ?_|refine VRead.rem (by omega) (by decide) ?_|refine VRead.neg ?_|refine VC.seq ?_); (conv => whnf))))
  refine ERow.app hE6 (EnAt.one hnew z5 hO6.cap (Lies.of_own (B := w.heap.size) (hO6.more (B' := w.heap.size) (by omega)) (fun j hj => hj))) (by omega) (by omega) (fun j hj => by show w.heap.size ≤ j; omega) ?_
  intro A7 c7 W7 hE7 hg7
  rw [← take_snoc he] at hE7
  ((conv => whnf); (repeat ((first|refine kLa ?_|refine kLb ?_|refine kCa rfl ?_|refine kCb ?_|refine kCc ?_|refine kCd ?_|refine kCe ?_|refine kCf ?_|refine kCg ?_|refine kCh ?_|refine kCi ?_|refine kCj ?_|refine kQa ?_|refine kQb ?_|refine kGa ?_|refine kGb ?_|refine kHa ?_|refine kHb ?_); (conv => whnf))))
  ((repeat ((first|refine kLa ?_|refine kLb ?_|refine kCa rfl ?_|refine kCb ?_|refine kCc ?_|refine kCd ?_|refine kCe ?_|refine kCf ?_|refine kCg ?_|refine kCh ?_|refine kCi ?_|refine kCj ?_|refine kQa ?_|refine kQb ?_|refine kGa ?_|refine kGb ?_|refine kHa ?_|refine kHb ?_|refine kPa ?_|refine kPb ?_|refine kPc ?_|refine kEa ?_|refine kEb ?_|refine kBa ?_|refine kBb ?_|refine kBc (by omega) ?_|refine kBd (by omega) ?_|refine kBe (by omega) ?_|refine kBf (by omega) ?_|refine kRa ?_|refine kRb ?_|refine VRead.fld ?_|refine VRead.load1 (by assumption) ?_|refine VRead.load (by assumption) ?_|refine kRf ?_|refine kRg ?_|refine kRh ?_|refine kRi ?_|refine kBe rfl ?_|refine kBc rfl ?_|refine kWa (by omega) (by omega) ?_|refine kWb (by omega) (by omega) ?_|refine kRj (by omega) ?_|refine kRk ?_|refine VSem.convI ?_|refine VRead.convI ?_|refine VRead.rem (by omega) (by decide) ?_|refine VRead.neg ?_|refine VC.seq ?_); (conv => whnf))))
  exact ⟨_, by omega, k + 1, c7, A7, rfl, rfl, by omega, hE7, hB06.grown hg7 (by omega) (fun j hj => (hE6.lt hj).2)⟩
end Go.Proofs.Ytebeidnmplnlpaa
end
