/- Texts joined: Open, SnapK, FrameB, SnapL, SnapN. No condition. -/
import Derived.Test.YtebeidnmplnlpaaPkb3
import Derived.Test.YtebeidnmplnlpaaPkb6
import Derived.Deep.Slices
import Derived.OpenShut
section
set_option maxRecDepth 10000
namespace Go.Proofs.Ytebeidnmplnlpaa
set_option linter.unusedVariables false
open Go.ChangeShapes Go.WideShapes Go.ChangeAt Go.RowKit

/-- elements of k cells each lie where a slice says -/
def ListAt {α : Type} (W : World) (B k : Nat) (E : α → List Value → Prop) (A : Option Addr) (n : Nat) (l : List α) : Prop :=
  l.length = n ∧ (0 < n → ∃ x, A = some x ∧ x.block < B ∧ ∀ i a, l[i]? = some a → ∃ cs, E a cs ∧ ∀ j u, cs[j]? = some u → W.cell? (x.add (k * i + j)) = some u)
theorem add_blkO (x : Addr) (j : Nat) : (x.add j).block = x.block := by unfold Addr.add; split <;> rfl
section
variable {H : Type} {enc : TypeId × Value → H}
theorem cell_in {W : World} {x : Addr} {u : Value} (h : W.cell? x = some u) : x.block < W.heap.size := by
  unfold World.cell? at h
  cases hb : W.heap[x.block]? with
  | none => rw [hb] at h; cases h
  | some o => exact (Array.getElem?_eq_some_iff.1 hb).1
/-- bytes -/
def EBy (W : World) (l : List UInt8) (cs : List Value) : Prop := ∃ A m c, cs = [.slice A m c] ∧ m ≤ c ∧ c ≤ 140737488351232 ∧ Reads W W.heap.size 1 A m (bv l)
theorem EBy.open {W : World} {n : Nat} {cs : List Value} {y : DataW H × List MemPlace} (h : DataW.trod enc Try.prog W 0 (fun _ => true) true n 31 cs = some y) (hw : ∀ x ∈ y.1.weights Try.prog 31, x ≤ reachBytes) (hl1 : cs.length = 1) : ∃ l, EBy W l cs := by
  obtain ⟨c, rfl⟩ : ∃ c, cs = [c] := by
    match cs, hl1 with
    | [c], _ => exact ⟨c, rfl⟩
  rcases open_ints Try.underlying31 Try.underlying5 (by kernel_rfl) h with ⟨hcs, hx⟩ | ⟨x, l, c', zs, hcs, _, hl, hm, hz, hx, hcell, hwz⟩
  · simp at hcs
    obtain rfl := hcs
    exact ⟨[], none, 0, 0, rfl, Nat.le_refl _, by omega, Reads.none_⟩
  · simp at hcs
    obtain rfl := hcs
    simp only [if_true] at hz
    subst hx
    have h1 := hw _ (by simp only [DataW.weights]; rw [Try.underlying31]; exact List.mem_cons_self ..)
    simp [lits, reachBytes] at h1
    rw [show Try.prog.bytesOf 5 = 1 from by kernel_rfl] at h1
    have hb : ∀ i, i < l → ∃ b : UInt8, W.cell? (x.add i) = some (.int .u8 (b.toNat : Int)) := fun i hi => by
      have h1 := hcell i (by omega)
      have h2 := hwz (zs.getD i 0) (by
        rw [List.getD_eq_getElem?_getD, List.getElem?_eq_getElem (by omega)]
        exact List.getElem_mem _)
      obtain ⟨b, hb⟩ := u8_nat h2
      exact ⟨b, by rw [h1, hb]⟩
    obtain ⟨f, hf⟩ := Deep.choose_lt hb
    refine ⟨(List.range l).map f, some x, l, c', rfl, hl, by omega, by simp [bv], fun hn => ⟨x, rfl, ?_, fun j u hu => ?_⟩⟩
    · have := cell_in (hf 0 hn)
      rwa [show x.add 0 = x from by simp [Addr.add]] at this
    · simp only [bv, List.map_map, List.getElem?_map, Option.map_eq_some_iff] at hu
      obtain ⟨i, hi, rfl⟩ := hu
      have hj : j < l := by have := (List.getElem?_eq_some_iff.1 hi).1; simpa using this
      rw [List.getElem?_range hj] at hi
      obtain rfl := Option.some.inj hi
      exact hf j hj
end
/-- a list of bytes -/
abbrev InYss (W : World) (A : Option Addr) (n : Nat) (l : List (List UInt8)) : Prop := ListAt W W.heap.size 1 (EBy W) A n l
/-- one of them, in all later worlds -/
theorem InYss.later {W : World} {A : Option Addr} {n i : Nat} {l : List (List UInt8)} {b : List UInt8} (h : InYss W A n l) (hb : l[i]? = some b) :
    ∃ x Ab m c, A = some x ∧ m = b.length ∧ m ≤ c ∧ c ≤ 140737488351232 ∧ ∀ W', Below W.heap.size W W' → W'.cell? (x.add i) = some (.slice Ab m c) ∧ Reads W' W.heap.size 1 Ab m (bv b) := by
  have hi := (List.getElem?_eq_some_iff.1 hb).1
  have h1 := h.1
  obtain ⟨x, hA, hx, h3⟩ := h.2 (by omega)
  obtain ⟨cs, ⟨Ab, m, c, rfl, h4, h5, h6⟩, h7⟩ := h3 i b hb
  have h8 := h7 0 _ rfl
  rw [Nat.one_mul, Nat.add_zero] at h8
  refine ⟨x, Ab, m, c, hA, by have := h6.1; rw [bv_length] at this; omega, h4, h5, fun W' hB => ⟨?_, h6.below hB⟩⟩
  rw [hB.cell (by rw [add_blkO]; exact hx)]
  exact h8
end Go.Proofs.Ytebeidnmplnlpaa
end

section
set_option maxRecDepth 10000
namespace Go.Proofs.Ytebeidnmplnlpaa
set_option linter.unusedVariables false
open Go.RowKit

/-! ### behind a crash -/
theorem crash_full (ps : List Int) (i : Nat) (b : List UInt8) : crashF ps i (fullF b) = fullF b := by
  have e : keepN ps i (fullF b) = b.length := by unfold keepN fullF; simp only; omega
  unfold crashF
  rw [e]
  unfold fullF
  simp
theorem newest_two {n m : Nat} {t u : Int} {a b : List UInt8} (h1 : SvOk (n : Int) t a) (h2 : SvOk (m : Int) u b) : newest [(snName (n : Int), fullF (fileB n t a)), (snName (m : Int), fullF (fileB m u b))] = some (m, u, b) := by
  unfold newest
  rw [List.foldl_cons, List.foldl_cons, List.foldl_nil]
  exact newest_one h2 rfl _
theorem newest_tail {n : Nat} {t : Int} {a : List UInt8} {f : Fl} (h1 : SvOk (n : Int) t a) : newest [(snName (n : Int), fullF (fileB n t a)), (frN, f)] = some (n, t, a) := by
  unfold newest
  rw [List.foldl_cons, List.foldl_cons, List.foldl_nil, newest_tmp]
  exact newest_one h1 rfl _
theorem elder_one {n m : Nat} {t : Int} {a : List UInt8} {f : Fl} (h1 : SvOk (n : Int) t a) (hm : n < m) (hm2 : m ≤ 1099511627776) : Elder [(snName (n : Int), f)] m := by
  have k1 := h1.i1
  have k2 := h1.i2
  refine ⟨by simp [Rising], ?_, ?_, by simp⟩
  · intro p hp
    simp at hp
    subst hp
    exact sn_lt (by omega) (by omega) hm2
  · intro p hp
    simp at hp
    subst hp
    exact ⟨isPre_sn (by omega) (by omega), snName_nm (by omega) (by omega)⟩
/-- whatever ails the disk: the one of before, or the new one -/
theorem at_once {S : DS} {n m : Nat} {t u : Int} {a b : List UInt8} (h1 : SvOk (n : Int) t a) (h2 : SvOk (m : Int) u b) (hnm : n < m) (hS : S.t = [(snName (n : Int), fullF (fileB n t a))]) (ps : List Int) :
    newest ((S.save m u b).2.crash ps).t = some (m, u, b) ∨ ((S.save m u b).1 ≠ 0 ∧ newest ((S.save m u b).2.crash ps).t = some (n, t, a)) := by
  have hc : ∀ X : DS, (X.crash ps).t = crashT ps 0 X.t := fun _ => rfl
  rcases save_or hS (elder_one h1 hnm (by have := h2.i2; omega)) h2 with ⟨e0, e1⟩ | ⟨e0, e1 | ⟨f, hf, e1⟩ | ⟨k, e1⟩⟩
  · left
    rw [hc, e1]
    show newest [(snName (m : Int), crashF ps 0 (fullF (fileB m u b)))] = _
    rw [crash_full]
    exact newest_sn h2
  · right
    refine ⟨e0, ?_⟩
    rw [hc, e1]
    show newest [(snName (n : Int), crashF ps 0 (fullF (fileB n t a)))] = _
    rw [crash_full]
    exact newest_sn h1
  · right
    refine ⟨e0, ?_⟩
    rw [hc, e1]
    show newest [(snName (n : Int), crashF ps 0 (fullF (fileB n t a))), (frN, crashF ps 1 f)] = _
    rw [crash_full]
    exact newest_tail h1
  · left
    rw [hc, e1]
    cases k with
    | zero =>
      show newest [(snName (n : Int), crashF ps 0 (fullF (fileB n t a))), (snName (m : Int), crashF ps 1 (fullF (fileB m u b)))] = _
      rw [crash_full, crash_full]
      exact newest_two h1 h2
    | succ k =>
      rw [show [(snName (n : Int), fullF (fileB n t a))].drop (k + 1) = [] from by simp]
      show newest [(snName (m : Int), crashF ps 0 (fullF (fileB m u b)))] = _
      rw [crash_full]
      exact newest_sn h2
set_option maxHeartbeats 4000000 in
theorem snapAtOnce_walk (A1 : Option Addr) (n1 c1 : Nat) (a : List UInt8) (A2 : Option Addr) (n2 c2 : Nat) (b : List UInt8) (by_ after : Int) (A3 : Option Addr) (n3 c3 : Nat) (ps : List Int) (W : World)
    (h1 : InBytes W A1 n1 c1 a) (h2 : InBytes W A2 n2 c2 b) (hby : -9223372036854775808 ≤ by_ ∧ by_ ≤ 9223372036854775807) (haf : -9223372036854775808 ≤ after ∧ after ≤ 9223372036854775807) (h3 : InInts W A3 n3 c3 ps) :
    Calls Try.prog 6 #[.slice A1 n1 c1, .slice A2 n2 c2, .int .i64 by_, .int .i64 after, .slice A3 n3 c3] W fun e W' => e = .returned (.bool true) ∧ Below W.heap.size W W' := by
  obtain ⟨hr1, hnc1, hcc1⟩ := h1
  obtain ⟨hr2, hnc2, hcc2⟩ := h2
  obtain ⟨hr3, hnc3, hcc3, hzs3⟩ := h3
  have hl1 : a.length = n1 := by have := hr1.1; rw [bv_length] at this; omega
  have hl2 : b.length = n2 := by have := hr2.1; rw [bv_length] at this; omega
  have away : Calls Try.prog 17 #[] W fun e W' => e = .returned (.bool true) ∧ Below W.heap.size W W' := awake19_any W
  refine calls_vc Try.func6 rfl (by kernel_rfl) ?_
  by_cases hbad : n1 < 1 ∨ n2 < 1 ∨ 5000 < n1 ∨ 5000 < n2
  · have hcase : n1 < 1 ∨ (1 ≤ n1 ∧ n2 < 1) ∨ (1 ≤ n1 ∧ 1 ≤ n2 ∧ 5000 < n1) ∨ (1 ≤ n1 ∧ 1 ≤ n2 ∧ n1 ≤ 5000 ∧ 5000 < n2) := by omega
    rcases hcase with hc | ⟨hc, hc'⟩ | ⟨hc, hc', hc''⟩ | ⟨hc, hc', hc'', hc3⟩
    all_goals
      ((conv => whnf); (repeat ((first | (refine VL.cons ?_) | (refine VL.nil ?_) | (refine VC.seqS rfl ?_) | (refine VC.region ?_) | (refine VC.draw ?_) | (refine VC.cond ?_) | (refine VC.block ?_) | (refine VC.exit ?_) | (refine VC.ret ?_) | (refine VC.skip ?_) | (refine VC.label ?_) | (refine VC.scope ?_) | (refine VQ.cons ?_) | (refine VQ.nil ?_) | (refine VG.nil ?_) | (refine VG.cons ?_) | (refine VH.nil ?_) | (refine VH.cons ?_)); (conv => whnf))))
      ((repeat ((first | (refine VL.cons ?_) | (refine VL.nil ?_) | (refine VC.seqS rfl ?_) | (refine VC.region ?_) | (refine VC.draw ?_) | (refine VC.cond ?_) | (refine VC.block ?_) | (refine VC.exit ?_) | (refine VC.ret ?_) | (refine VC.skip ?_) | (refine VC.label ?_) | (refine VC.scope ?_) | (refine VQ.cons ?_) | (refine VQ.nil ?_) | (refine VG.nil ?_) | (refine VG.cons ?_) | (refine VH.nil ?_) | (refine VH.cons ?_) | (refine VP.done ?_) | (refine VP.one ?_) | (refine VP.two ?_) | (refine VE.cons ?_) | (refine VE.nil ?_) | (refine VBool.t ?_) | (refine VBool.f ?_) | (refine VBool.dT (by omega) ?_) | (refine VBool.dF (by omega) ?_) | (refine VBool.nT (by omega) ?_) | (refine VBool.nF (by omega) ?_) | (refine VRead.lenS ?_) | (refine VRead.lenT ?_) | (refine VRead.fld ?_) | (refine VRead.load1 (by assumption) ?_) | (refine VRead.load (by assumption) ?_) | (refine VRead.neB ?_) | (refine VRead.eqPN ?_) | (refine VRead.nePN ?_) | (refine VRead.eqB ?_) | (refine VBool.nT rfl ?_) | (refine VBool.dT rfl ?_) | (refine VWrap.i64 (by omega) (by omega) ?_) | (refine VWrap.u64 (by omega) (by omega) ?_) | (refine VRead.at1 (by omega) ?_) | (refine VRead.eqNN ?_) | (refine VSem.convI ?_) | (refine VRead.convI ?_) | (refine VRead.rem (by omega) (by decide) ?_) | (refine VRead.neg ?_) | (refine VC.seq ?_)); (conv => whnf))))
      refine VCall.of away ?_
      rintro e W1 ⟨rfl, hB1⟩
      refine ⟨_, rfl, ?_⟩
      ((conv => whnf); (repeat ((first | (refine VL.cons ?_) | (refine VL.nil ?_) | (refine VC.seqS rfl ?_) | (refine VC.region ?_) | (refine VC.draw ?_) | (refine VC.cond ?_) | (refine VC.block ?_) | (refine VC.exit ?_) | (refine VC.ret ?_) | (refine VC.skip ?_) | (refine VC.label ?_) | (refine VC.scope ?_) | (refine VQ.cons ?_) | (refine VQ.nil ?_) | (refine VG.nil ?_) | (refine VG.cons ?_) | (refine VH.nil ?_) | (refine VH.cons ?_)); (conv => whnf))))
      ((repeat ((first | (refine VL.cons ?_) | (refine VL.nil ?_) | (refine VC.seqS rfl ?_) | (refine VC.region ?_) | (refine VC.draw ?_) | (refine VC.cond ?_) | (refine VC.block ?_) | (refine VC.exit ?_) | (refine VC.ret ?_) | (refine VC.skip ?_) | (refine VC.label ?_) | (refine VC.scope ?_) | (refine VQ.cons ?_) | (refine VQ.nil ?_) | (refine VG.nil ?_) | (refine VG.cons ?_) | (refine VH.nil ?_) | (refine VH.cons ?_) | (refine VP.done ?_) | (refine VP.one ?_) | (refine VP.two ?_) | (refine VE.cons ?_) | (refine VE.nil ?_) | (refine VBool.t ?_) | (refine VBool.f ?_) | (refine VBool.dT (by omega) ?_) | (refine VBool.dF (by omega) ?_) | (refine VBool.nT (by omega) ?_) | (refine VBool.nF (by omega) ?_) | (refine VRead.lenS ?_) | (refine VRead.lenT ?_) | (refine VRead.fld ?_) | (refine VRead.load1 (by assumption) ?_) | (refine VRead.load (by assumption) ?_) | (refine VRead.neB ?_) | (refine VRead.eqPN ?_) | (refine VRead.nePN ?_) | (refine VRead.eqB ?_) | (refine VBool.nT rfl ?_) | (refine VBool.dT rfl ?_) | (refine VWrap.i64 (by omega) (by omega) ?_) | (refine VWrap.u64 (by omega) (by omega) ?_) | (refine VRead.at1 (by omega) ?_) | (refine VRead.eqNN ?_) | (refine VSem.convI ?_) | (refine VRead.convI ?_) | (refine VRead.rem (by omega) (by decide) ?_) | (refine VRead.neg ?_) | (refine VC.seq ?_)); (conv => whnf))))
      exact ⟨rfl, hB1⟩
  have hok1 : SvOk ((5 : Nat) : Int) 1 a := ⟨by decide, by decide, by decide, by decide, by omega, by omega⟩
  have hfl := file_len (i := ((5 : Nat) : Int)) (t := 1) (data := a) (k := 5) (by omega)
  obtain ⟨c', hc0, hc1', hsv⟩ := save_new (room := 1048576) hok1 (by decide) (by omega) (by decide)
  have p0 := Int.emod_nonneg by_ (show (100 : Int) ≠ 0 by decide)
  have p1 := Int.emod_lt_of_pos by_ (show (0 : Int) < 100 by decide)
  have q0 := Int.emod_nonneg after (show (14 : Int) ≠ 0 by decide)
  have q1 := Int.emod_lt_of_pos after (show (0 : Int) < 14 by decide)
  ((conv => whnf); (repeat ((first | (refine VL.cons ?_) | (refine VL.nil ?_) | (refine VC.seqS rfl ?_) | (refine VC.region ?_) | (refine VC.draw ?_) | (refine VC.cond ?_) | (refine VC.block ?_) | (refine VC.exit ?_) | (refine VC.ret ?_) | (refine VC.skip ?_) | (refine VC.label ?_) | (refine VC.scope ?_) | (refine VQ.cons ?_) | (refine VQ.nil ?_) | (refine VG.nil ?_) | (refine VG.cons ?_) | (refine VH.nil ?_) | (refine VH.cons ?_)); (conv => whnf))))
  ((repeat ((first | (refine VL.cons ?_) | (refine VL.nil ?_) | (refine VC.seqS rfl ?_) | (refine VC.region ?_) | (refine VC.draw ?_) | (refine VC.cond ?_) | (refine VC.block ?_) | (refine VC.exit ?_) | (refine VC.ret ?_) | (refine VC.skip ?_) | (refine VC.label ?_) | (refine VC.scope ?_) | (refine VQ.cons ?_) | (refine VQ.nil ?_) | (refine VG.nil ?_) | (refine VG.cons ?_) | (refine VH.nil ?_) | (refine VH.cons ?_) | (refine VP.done ?_) | (refine VP.one ?_) | (refine VP.two ?_) | (refine VE.cons ?_) | (refine VE.nil ?_) | (refine VBool.t ?_) | (refine VBool.f ?_) | (refine VBool.dT (by omega) ?_) | (refine VBool.dF (by omega) ?_) | (refine VBool.nT (by omega) ?_) | (refine VBool.nF (by omega) ?_) | (refine VRead.lenS ?_) | (refine VRead.lenT ?_) | (refine VRead.fld ?_) | (refine VRead.load1 (by assumption) ?_) | (refine VRead.load (by assumption) ?_) | (refine VRead.neB ?_) | (refine VRead.eqPN ?_) | (refine VRead.nePN ?_) | (refine VRead.eqB ?_) | (refine VBool.nT rfl ?_) | (refine VBool.dT rfl ?_) | (refine VWrap.i64 (by omega) (by omega) ?_) | (refine VWrap.u64 (by omega) (by omega) ?_) | (refine VRead.at1 (by omega) ?_) | (refine VRead.eqNN ?_) | (refine VSem.convI ?_) | (refine VRead.convI ?_) | (refine VRead.rem (by omega) (by decide) ?_) | (refine VRead.neg ?_) | (refine VC.seq ?_)); (conv => whnf))))
  refine VCall.of (oNew W 1048576) ?_
  rintro e W1 ⟨d, U1, rfl, hd1, hU1, hB1⟩
  refine ⟨_, rfl, ?_⟩
  ((conv => whnf); (repeat ((first | (refine VL.cons ?_) | (refine VL.nil ?_) | (refine VC.seqS rfl ?_) | (refine VC.region ?_) | (refine VC.draw ?_) | (refine VC.cond ?_) | (refine VC.block ?_) | (refine VC.exit ?_) | (refine VC.ret ?_) | (refine VC.skip ?_) | (refine VC.label ?_) | (refine VC.scope ?_) | (refine VQ.cons ?_) | (refine VQ.nil ?_) | (refine VG.nil ?_) | (refine VG.cons ?_) | (refine VH.nil ?_) | (refine VH.cons ?_)); (conv => whnf))))
  ((repeat ((first | (refine VL.cons ?_) | (refine VL.nil ?_) | (refine VC.seqS rfl ?_) | (refine VC.region ?_) | (refine VC.draw ?_) | (refine VC.cond ?_) | (refine VC.block ?_) | (refine VC.exit ?_) | (refine VC.ret ?_) | (refine VC.skip ?_) | (refine VC.label ?_) | (refine VC.scope ?_) | (refine VQ.cons ?_) | (refine VQ.nil ?_) | (refine VG.nil ?_) | (refine VG.cons ?_) | (refine VH.nil ?_) | (refine VH.cons ?_) | (refine VP.done ?_) | (refine VP.one ?_) | (refine VP.two ?_) | (refine VE.cons ?_) | (refine VE.nil ?_) | (refine VBool.t ?_) | (refine VBool.f ?_) | (refine VBool.dT (by omega) ?_) | (refine VBool.dF (by omega) ?_) | (refine VBool.nT (by omega) ?_) | (refine VBool.nF (by omega) ?_) | (refine VRead.lenS ?_) | (refine VRead.lenT ?_) | (refine VRead.fld ?_) | (refine VRead.load1 (by assumption) ?_) | (refine VRead.load (by assumption) ?_) | (refine VRead.neB ?_) | (refine VRead.eqPN ?_) | (refine VRead.nePN ?_) | (refine VRead.eqB ?_) | (refine VBool.nT rfl ?_) | (refine VBool.dT rfl ?_) | (refine VWrap.i64 (by omega) (by omega) ?_) | (refine VWrap.u64 (by omega) (by omega) ?_) | (refine VRead.at1 (by omega) ?_) | (refine VRead.eqNN ?_) | (refine VSem.convI ?_) | (refine VRead.convI ?_) | (refine VRead.rem (by omega) (by decide) ?_) | (refine VRead.neg ?_) | (refine VC.seq ?_)); (conv => whnf))))
  refine VCall.of (bytes_any A1 n1 c1 _ a W1 (by omega) (hr1.below hB1)) ?_
  rintro e W2 ⟨Aa, ca, rfl, hOa, hB2⟩
  refine ⟨_, rfl, ?_⟩
  have hB02 := hB1.trans (hB2.mono hB1.size)
  ((conv => whnf); (repeat ((first | (refine VL.cons ?_) | (refine VL.nil ?_) | (refine VC.seqS rfl ?_) | (refine VC.region ?_) | (refine VC.draw ?_) | (refine VC.cond ?_) | (refine VC.block ?_) | (refine VC.exit ?_) | (refine VC.ret ?_) | (refine VC.skip ?_) | (refine VC.label ?_) | (refine VC.scope ?_) | (refine VQ.cons ?_) | (refine VQ.nil ?_) | (refine VG.nil ?_) | (refine VG.cons ?_) | (refine VH.nil ?_) | (refine VH.cons ?_)); (conv => whnf))))
  ((repeat ((first | (refine VL.cons ?_) | (refine VL.nil ?_) | (refine VC.seqS rfl ?_) | (refine VC.region ?_) | (refine VC.draw ?_) | (refine VC.cond ?_) | (refine VC.block ?_) | (refine VC.exit ?_) | (refine VC.ret ?_) | (refine VC.skip ?_) | (refine VC.label ?_) | (refine VC.scope ?_) | (refine VQ.cons ?_) | (refine VQ.nil ?_) | (refine VG.nil ?_) | (refine VG.cons ?_) | (refine VH.nil ?_) | (refine VH.cons ?_) | (refine VP.done ?_) | (refine VP.one ?_) | (refine VP.two ?_) | (refine VE.cons ?_) | (refine VE.nil ?_) | (refine VBool.t ?_) | (refine VBool.f ?_) | (refine VBool.dT (by omega) ?_) | (refine VBool.dF (by omega) ?_) | (refine VBool.nT (by omega) ?_) | (refine VBool.nF (by omega) ?_) | (refine VRead.lenS ?_) | (refine VRead.lenT ?_) | (refine VRead.fld ?_) | (refine VRead.load1 (by assumption) ?_) | (refine VRead.load (by assumption) ?_) | (refine VRead.neB ?_) | (refine VRead.eqPN ?_) | (refine VRead.nePN ?_) | (refine VRead.eqB ?_) | (refine VBool.nT rfl ?_) | (refine VBool.dT rfl ?_) | (refine VWrap.i64 (by omega) (by omega) ?_) | (refine VWrap.u64 (by omega) (by omega) ?_) | (refine VRead.at1 (by omega) ?_) | (refine VRead.eqNN ?_) | (refine VSem.convI ?_) | (refine VRead.convI ?_) | (refine VRead.rem (by omega) (by decide) ?_) | (refine VRead.neg ?_) | (refine VC.seq ?_)); (conv => whnf))))
  refine VCall.of (snapSave_any W2 U1 d (DS.new 1048576) 5 1 n1 ca Aa a (hd1.below hB2) hOa.reads (Off.of_own hOa (Free.new hOa hd1.lt)) hOa.cap (by omega) (by decide) (by decide) (by decide)) ?_
  rw [show (5 : Int) = ((5 : Nat) : Int) from rfl, hsv]
  rintro e W3 ⟨rfl, U3, hd3, st3⟩
  refine ⟨_, rfl, ?_⟩
  have hU3 := st3.min hU1 hB02.size
  have hB03 := hB02.trans (st3.below hU1 hB02.size)
  simp only at hd3
  ((conv => whnf); (repeat ((first | (refine VL.cons ?_) | (refine VL.nil ?_) | (refine VC.seqS rfl ?_) | (refine VC.region ?_) | (refine VC.draw ?_) | (refine VC.cond ?_) | (refine VC.block ?_) | (refine VC.exit ?_) | (refine VC.ret ?_) | (refine VC.skip ?_) | (refine VC.label ?_) | (refine VC.scope ?_) | (refine VQ.cons ?_) | (refine VQ.nil ?_) | (refine VG.nil ?_) | (refine VG.cons ?_) | (refine VH.nil ?_) | (refine VH.cons ?_)); (conv => whnf))))
  ((repeat ((first | (refine VL.cons ?_) | (refine VL.nil ?_) | (refine VC.seqS rfl ?_) | (refine VC.region ?_) | (refine VC.draw ?_) | (refine VC.cond ?_) | (refine VC.block ?_) | (refine VC.exit ?_) | (refine VC.ret ?_) | (refine VC.skip ?_) | (refine VC.label ?_) | (refine VC.scope ?_) | (refine VQ.cons ?_) | (refine VQ.nil ?_) | (refine VG.nil ?_) | (refine VG.cons ?_) | (refine VH.nil ?_) | (refine VH.cons ?_) | (refine VP.done ?_) | (refine VP.one ?_) | (refine VP.two ?_) | (refine VE.cons ?_) | (refine VE.nil ?_) | (refine VBool.t ?_) | (refine VBool.f ?_) | (refine VBool.dT (by omega) ?_) | (refine VBool.dF (by omega) ?_) | (refine VBool.nT (by omega) ?_) | (refine VBool.nF (by omega) ?_) | (refine VRead.lenS ?_) | (refine VRead.lenT ?_) | (refine VRead.fld ?_) | (refine VRead.load1 (by assumption) ?_) | (refine VRead.load (by assumption) ?_) | (refine VRead.neB ?_) | (refine VRead.eqPN ?_) | (refine VRead.nePN ?_) | (refine VRead.eqB ?_) | (refine VBool.nT rfl ?_) | (refine VBool.dT rfl ?_) | (refine VWrap.i64 (by omega) (by omega) ?_) | (refine VWrap.u64 (by omega) (by omega) ?_) | (refine VRead.at1 (by omega) ?_) | (refine VRead.eqNN ?_) | (refine VSem.convI ?_) | (refine VRead.convI ?_) | (refine VRead.rem (by omega) (by decide) ?_) | (refine VRead.neg ?_) | (refine VC.seq ?_)); (conv => whnf))))
  refine VCall.of (place_any after 14 W3 haf (by decide) (by decide)) ?_
  rintro e W4 ⟨rfl, eW⟩
  obtain rfl := eW.symm
  refine ⟨_, rfl, ?_⟩
  ((conv => whnf); (repeat ((first | (refine VL.cons ?_) | (refine VL.nil ?_) | (refine VC.seqS rfl ?_) | (refine VC.region ?_) | (refine VC.draw ?_) | (refine VC.cond ?_) | (refine VC.block ?_) | (refine VC.exit ?_) | (refine VC.ret ?_) | (refine VC.skip ?_) | (refine VC.label ?_) | (refine VC.scope ?_) | (refine VQ.cons ?_) | (refine VQ.nil ?_) | (refine VG.nil ?_) | (refine VG.cons ?_) | (refine VH.nil ?_) | (refine VH.cons ?_)); (conv => whnf))))
  ((repeat ((first | (refine VL.cons ?_) | (refine VL.nil ?_) | (refine VC.seqS rfl ?_) | (refine VC.region ?_) | (refine VC.draw ?_) | (refine VC.cond ?_) | (refine VC.block ?_) | (refine VC.exit ?_) | (refine VC.ret ?_) | (refine VC.skip ?_) | (refine VC.label ?_) | (refine VC.scope ?_) | (refine VQ.cons ?_) | (refine VQ.nil ?_) | (refine VG.nil ?_) | (refine VG.cons ?_) | (refine VH.nil ?_) | (refine VH.cons ?_) | (refine VP.done ?_) | (refine VP.one ?_) | (refine VP.two ?_) | (refine VE.cons ?_) | (refine VE.nil ?_) | (refine VBool.t ?_) | (refine VBool.f ?_) | (refine VBool.dT (by omega) ?_) | (refine VBool.dF (by omega) ?_) | (refine VBool.nT (by omega) ?_) | (refine VBool.nF (by omega) ?_) | (refine VRead.lenS ?_) | (refine VRead.lenT ?_) | (refine VRead.fld ?_) | (refine VRead.load1 (by assumption) ?_) | (refine VRead.load (by assumption) ?_) | (refine VRead.neB ?_) | (refine VRead.eqPN ?_) | (refine VRead.nePN ?_) | (refine VRead.eqB ?_) | (refine VBool.nT rfl ?_) | (refine VBool.dT rfl ?_) | (refine VWrap.i64 (by omega) (by omega) ?_) | (refine VWrap.u64 (by omega) (by omega) ?_) | (refine VRead.at1 (by omega) ?_) | (refine VRead.eqNN ?_) | (refine VSem.convI ?_) | (refine VRead.convI ?_) | (refine VRead.rem (by omega) (by decide) ?_) | (refine VRead.neg ?_) | (refine VC.seq ?_)); (conv => whnf))))
  refine VCall.of (oArm W3 U3 d _ 19 (after % 14) hd3 (by omega)) ?_
  rintro e W4 ⟨rfl, U4, hd4, st4⟩
  refine ⟨_, rfl, ?_⟩
  have hU4 := st4.min hU3 hB03.size
  have hB04 := hB03.trans (st4.below hU3 hB03.size)
  have earm : DS.arm ⟨k0 1048576 c', [(snName ((5 : Nat) : Int), fullF (fileB ((5 : Nat) : Int) 1 a))]⟩ 19 (after % 14) = (0, ⟨⟨1048576, c', true, 19, after % 14, false⟩, [(snName ((5 : Nat) : Int), fullF (fileB ((5 : Nat) : Int) 1 a))]⟩) := by
    unfold DS.arm Dk.arm
    rw [if_neg (by omega)]
    rfl
  rw [earm] at hd4 ⊢
  simp only at hd4 ⊢
  obtain ⟨S4, hS4⟩ : ∃ S : DS, S = ⟨⟨1048576, c', true, 19, after % 14, false⟩, [(snName ((5 : Nat) : Int), fullF (fileB ((5 : Nat) : Int) 1 a))]⟩ := ⟨_, rfl⟩
  rw [← hS4] at hd4
  have hS4t : S4.t = [(snName ((5 : Nat) : Int), fullF (fileB ((5 : Nat) : Int) 1 a))] := by rw [hS4]
  have hS4c : S4.k.calls = c' := by rw [hS4]
  clear hS4 earm
  ((conv => whnf); (repeat ((first | (refine VL.cons ?_) | (refine VL.nil ?_) | (refine VC.seqS rfl ?_) | (refine VC.region ?_) | (refine VC.draw ?_) | (refine VC.cond ?_) | (refine VC.block ?_) | (refine VC.exit ?_) | (refine VC.ret ?_) | (refine VC.skip ?_) | (refine VC.label ?_) | (refine VC.scope ?_) | (refine VQ.cons ?_) | (refine VQ.nil ?_) | (refine VG.nil ?_) | (refine VG.cons ?_) | (refine VH.nil ?_) | (refine VH.cons ?_)); (conv => whnf))))
  ((repeat ((first | (refine VL.cons ?_) | (refine VL.nil ?_) | (refine VC.seqS rfl ?_) | (refine VC.region ?_) | (refine VC.draw ?_) | (refine VC.cond ?_) | (refine VC.block ?_) | (refine VC.exit ?_) | (refine VC.ret ?_) | (refine VC.skip ?_) | (refine VC.label ?_) | (refine VC.scope ?_) | (refine VQ.cons ?_) | (refine VQ.nil ?_) | (refine VG.nil ?_) | (refine VG.cons ?_) | (refine VH.nil ?_) | (refine VH.cons ?_) | (refine VP.done ?_) | (refine VP.one ?_) | (refine VP.two ?_) | (refine VE.cons ?_) | (refine VE.nil ?_) | (refine VBool.t ?_) | (refine VBool.f ?_) | (refine VBool.dT (by omega) ?_) | (refine VBool.dF (by omega) ?_) | (refine VBool.nT (by omega) ?_) | (refine VBool.nF (by omega) ?_) | (refine VRead.lenS ?_) | (refine VRead.lenT ?_) | (refine VRead.fld ?_) | (refine VRead.load1 (by assumption) ?_) | (refine VRead.load (by assumption) ?_) | (refine VRead.neB ?_) | (refine VRead.eqPN ?_) | (refine VRead.nePN ?_) | (refine VRead.eqB ?_) | (refine VBool.nT rfl ?_) | (refine VBool.dT rfl ?_) | (refine VWrap.i64 (by omega) (by omega) ?_) | (refine VWrap.u64 (by omega) (by omega) ?_) | (refine VRead.at1 (by omega) ?_) | (refine VRead.eqNN ?_) | (refine VSem.convI ?_) | (refine VRead.convI ?_) | (refine VRead.rem (by omega) (by decide) ?_) | (refine VRead.neg ?_) | (refine VC.seq ?_)); (conv => whnf))))
  refine VCall.of (place_any by_ 100 W4 hby (by decide) (by decide)) ?_
  rintro e W5 ⟨rfl, eW⟩
  obtain rfl := eW.symm
  refine ⟨_, rfl, ?_⟩
  obtain ⟨m, hm⟩ : ∃ m : Nat, 6 + by_ % 100 = (m : Int) := ⟨(6 + by_ % 100).toNat, by omega⟩
  have hok2 : SvOk (m : Int) 2 b := ⟨by omega, by omega, by decide, by decide, by omega, by omega⟩
  ((conv => whnf); (repeat ((first | (refine VL.cons ?_) | (refine VL.nil ?_) | (refine VC.seqS rfl ?_) | (refine VC.region ?_) | (refine VC.draw ?_) | (refine VC.cond ?_) | (refine VC.block ?_) | (refine VC.exit ?_) | (refine VC.ret ?_) | (refine VC.skip ?_) | (refine VC.label ?_) | (refine VC.scope ?_) | (refine VQ.cons ?_) | (refine VQ.nil ?_) | (refine VG.nil ?_) | (refine VG.cons ?_) | (refine VH.nil ?_) | (refine VH.cons ?_)); (conv => whnf))))
  ((repeat ((first | (refine VL.cons ?_) | (refine VL.nil ?_) | (refine VC.seqS rfl ?_) | (refine VC.region ?_) | (refine VC.draw ?_) | (refine VC.cond ?_) | (refine VC.block ?_) | (refine VC.exit ?_) | (refine VC.ret ?_) | (refine VC.skip ?_) | (refine VC.label ?_) | (refine VC.scope ?_) | (refine VQ.cons ?_) | (refine VQ.nil ?_) | (refine VG.nil ?_) | (refine VG.cons ?_) | (refine VH.nil ?_) | (refine VH.cons ?_) | (refine VP.done ?_) | (refine VP.one ?_) | (refine VP.two ?_) | (refine VE.cons ?_) | (refine VE.nil ?_) | (refine VBool.t ?_) | (refine VBool.f ?_) | (refine VBool.dT (by omega) ?_) | (refine VBool.dF (by omega) ?_) | (refine VBool.nT (by omega) ?_) | (refine VBool.nF (by omega) ?_) | (refine VRead.lenS ?_) | (refine VRead.lenT ?_) | (refine VRead.fld ?_) | (refine VRead.load1 (by assumption) ?_) | (refine VRead.load (by assumption) ?_) | (refine VRead.neB ?_) | (refine VRead.eqPN ?_) | (refine VRead.nePN ?_) | (refine VRead.eqB ?_) | (refine VBool.nT rfl ?_) | (refine VBool.dT rfl ?_) | (refine VWrap.i64 (by omega) (by omega) ?_) | (refine VWrap.u64 (by omega) (by omega) ?_) | (refine VRead.at1 (by omega) ?_) | (refine VRead.eqNN ?_) | (refine VSem.convI ?_) | (refine VRead.convI ?_) | (refine VRead.rem (by omega) (by decide) ?_) | (refine VRead.neg ?_) | (refine VC.seq ?_)); (conv => whnf))))
  rw [hm]
  refine VCall.of (bytes_any A2 n2 c2 _ b W4 (by omega) (hr2.below hB04)) ?_
  rintro e W5 ⟨Ab, cb, rfl, hOb, hB5⟩
  refine ⟨_, rfl, ?_⟩
  have hB05 := hB04.trans (hB5.mono hB04.size)
  ((conv => whnf); (repeat ((first | (refine VL.cons ?_) | (refine VL.nil ?_) | (refine VC.seqS rfl ?_) | (refine VC.region ?_) | (refine VC.draw ?_) | (refine VC.cond ?_) | (refine VC.block ?_) | (refine VC.exit ?_) | (refine VC.ret ?_) | (refine VC.skip ?_) | (refine VC.label ?_) | (refine VC.scope ?_) | (refine VQ.cons ?_) | (refine VQ.nil ?_) | (refine VG.nil ?_) | (refine VG.cons ?_) | (refine VH.nil ?_) | (refine VH.cons ?_)); (conv => whnf))))
  ((repeat ((first | (refine VL.cons ?_) | (refine VL.nil ?_) | (refine VC.seqS rfl ?_) | (refine VC.region ?_) | (refine VC.draw ?_) | (refine VC.cond ?_) | (refine VC.block ?_) | (refine VC.exit ?_) | (refine VC.ret ?_) | (refine VC.skip ?_) | (refine VC.label ?_) | (refine VC.scope ?_) | (refine VQ.cons ?_) | (refine VQ.nil ?_) | (refine VG.nil ?_) | (refine VG.cons ?_) | (refine VH.nil ?_) | (refine VH.cons ?_) | (refine VP.done ?_) | (refine VP.one ?_) | (refine VP.two ?_) | (refine VE.cons ?_) | (refine VE.nil ?_) | (refine VBool.t ?_) | (refine VBool.f ?_) | (refine VBool.dT (by omega) ?_) | (refine VBool.dF (by omega) ?_) | (refine VBool.nT (by omega) ?_) | (refine VBool.nF (by omega) ?_) | (refine VRead.lenS ?_) | (refine VRead.lenT ?_) | (refine VRead.fld ?_) | (refine VRead.load1 (by assumption) ?_) | (refine VRead.load (by assumption) ?_) | (refine VRead.neB ?_) | (refine VRead.eqPN ?_) | (refine VRead.nePN ?_) | (refine VRead.eqB ?_) | (refine VBool.nT rfl ?_) | (refine VBool.dT rfl ?_) | (refine VWrap.i64 (by omega) (by omega) ?_) | (refine VWrap.u64 (by omega) (by omega) ?_) | (refine VRead.at1 (by omega) ?_) | (refine VRead.eqNN ?_) | (refine VSem.convI ?_) | (refine VRead.convI ?_) | (refine VRead.rem (by omega) (by decide) ?_) | (refine VRead.neg ?_) | (refine VC.seq ?_)); (conv => whnf))))
  refine VCall.of (snapSave_any W5 U4 d S4 (m : Int) 2 n2 cb Ab b (hd4.below hB5) hOb.reads (Off.of_own hOb (Free.new hOb hd4.lt)) hOb.cap (by omega) (by omega) (by decide) (by omega)) ?_
  rintro e W6 ⟨rfl, U6, hd6, st6⟩
  refine ⟨_, rfl, ?_⟩
  have hU6 := st6.min hU4 hB05.size
  have hB06 := hB05.trans (st6.below hU4 hB05.size)
  have key := at_once hok1 hok2 (by omega) hS4t ps
  generalize S4.save (m : Int) 2 b = R at *
  ((conv => whnf); (repeat ((first | (refine VL.cons ?_) | (refine VL.nil ?_) | (refine VC.seqS rfl ?_) | (refine VC.region ?_) | (refine VC.draw ?_) | (refine VC.cond ?_) | (refine VC.block ?_) | (refine VC.exit ?_) | (refine VC.ret ?_) | (refine VC.skip ?_) | (refine VC.label ?_) | (refine VC.scope ?_) | (refine VQ.cons ?_) | (refine VQ.nil ?_) | (refine VG.nil ?_) | (refine VG.cons ?_) | (refine VH.nil ?_) | (refine VH.cons ?_)); (conv => whnf))))
  ((repeat ((first | (refine VL.cons ?_) | (refine VL.nil ?_) | (refine VC.seqS rfl ?_) | (refine VC.region ?_) | (refine VC.draw ?_) | (refine VC.cond ?_) | (refine VC.block ?_) | (refine VC.exit ?_) | (refine VC.ret ?_) | (refine VC.skip ?_) | (refine VC.label ?_) | (refine VC.scope ?_) | (refine VQ.cons ?_) | (refine VQ.nil ?_) | (refine VG.nil ?_) | (refine VG.cons ?_) | (refine VH.nil ?_) | (refine VH.cons ?_) | (refine VP.done ?_) | (refine VP.one ?_) | (refine VP.two ?_) | (refine VE.cons ?_) | (refine VE.nil ?_) | (refine VBool.t ?_) | (refine VBool.f ?_) | (refine VBool.dT (by omega) ?_) | (refine VBool.dF (by omega) ?_) | (refine VBool.nT (by omega) ?_) | (refine VBool.nF (by omega) ?_) | (refine VRead.lenS ?_) | (refine VRead.lenT ?_) | (refine VRead.fld ?_) | (refine VRead.load1 (by assumption) ?_) | (refine VRead.load (by assumption) ?_) | (refine VRead.neB ?_) | (refine VRead.eqPN ?_) | (refine VRead.nePN ?_) | (refine VRead.eqB ?_) | (refine VBool.nT rfl ?_) | (refine VBool.dT rfl ?_) | (refine VWrap.i64 (by omega) (by omega) ?_) | (refine VWrap.u64 (by omega) (by omega) ?_) | (refine VRead.at1 (by omega) ?_) | (refine VRead.eqNN ?_) | (refine VSem.convI ?_) | (refine VRead.convI ?_) | (refine VRead.rem (by omega) (by decide) ?_) | (refine VRead.neg ?_) | (refine VC.seq ?_)); (conv => whnf))))
  refine VCall.of (ints_any A3 n3 c3 _ ps W6 (by omega) (hr3.below hB06)) ?_
  rintro e W7 ⟨Ap, cp, rfl, hOp, hB7⟩
  refine ⟨_, rfl, ?_⟩
  have hB07 := hB06.trans (hB7.mono hB06.size)
  ((conv => whnf); (repeat ((first | (refine VL.cons ?_) | (refine VL.nil ?_) | (refine VC.seqS rfl ?_) | (refine VC.region ?_) | (refine VC.draw ?_) | (refine VC.cond ?_) | (refine VC.block ?_) | (refine VC.exit ?_) | (refine VC.ret ?_) | (refine VC.skip ?_) | (refine VC.label ?_) | (refine VC.scope ?_) | (refine VQ.cons ?_) | (refine VQ.nil ?_) | (refine VG.nil ?_) | (refine VG.cons ?_) | (refine VH.nil ?_) | (refine VH.cons ?_)); (conv => whnf))))
  ((repeat ((first | (refine VL.cons ?_) | (refine VL.nil ?_) | (refine VC.seqS rfl ?_) | (refine VC.region ?_) | (refine VC.draw ?_) | (refine VC.cond ?_) | (refine VC.block ?_) | (refine VC.exit ?_) | (refine VC.ret ?_) | (refine VC.skip ?_) | (refine VC.label ?_) | (refine VC.scope ?_) | (refine VQ.cons ?_) | (refine VQ.nil ?_) | (refine VG.nil ?_) | (refine VG.cons ?_) | (refine VH.nil ?_) | (refine VH.cons ?_) | (refine VP.done ?_) | (refine VP.one ?_) | (refine VP.two ?_) | (refine VE.cons ?_) | (refine VE.nil ?_) | (refine VBool.t ?_) | (refine VBool.f ?_) | (refine VBool.dT (by omega) ?_) | (refine VBool.dF (by omega) ?_) | (refine VBool.nT (by omega) ?_) | (refine VBool.nF (by omega) ?_) | (refine VRead.lenS ?_) | (refine VRead.lenT ?_) | (refine VRead.fld ?_) | (refine VRead.load1 (by assumption) ?_) | (refine VRead.load (by assumption) ?_) | (refine VRead.neB ?_) | (refine VRead.eqPN ?_) | (refine VRead.nePN ?_) | (refine VRead.eqB ?_) | (refine VBool.nT rfl ?_) | (refine VBool.dT rfl ?_) | (refine VWrap.i64 (by omega) (by omega) ?_) | (refine VWrap.u64 (by omega) (by omega) ?_) | (refine VRead.at1 (by omega) ?_) | (refine VRead.eqNN ?_) | (refine VSem.convI ?_) | (refine VRead.convI ?_) | (refine VRead.rem (by omega) (by decide) ?_) | (refine VRead.neg ?_) | (refine VC.seq ?_)); (conv => whnf))))
  refine VCall.of (oCrash W7 U6 d R.2 n3 cp Ap ps (hd6.below hB7) (Reads.row hOp) (fun h0 => ?_) (by omega)) ?_
  · obtain ⟨ad, hAd, _, _⟩ := (Reads.row hOp).2 h0
    subst hAd
    exact ⟨ad, rfl, Free.new hOp hd6.lt _ rfl⟩
  rintro e W8 ⟨rfl, U8, hd8, st8⟩
  refine ⟨_, rfl, ?_⟩
  have hB08 := hB07.trans (st8.below hU6 hB07.size)
  ((conv => whnf); (repeat ((first | (refine VL.cons ?_) | (refine VL.nil ?_) | (refine VC.seqS rfl ?_) | (refine VC.region ?_) | (refine VC.draw ?_) | (refine VC.cond ?_) | (refine VC.block ?_) | (refine VC.exit ?_) | (refine VC.ret ?_) | (refine VC.skip ?_) | (refine VC.label ?_) | (refine VC.scope ?_) | (refine VQ.cons ?_) | (refine VQ.nil ?_) | (refine VG.nil ?_) | (refine VG.cons ?_) | (refine VH.nil ?_) | (refine VH.cons ?_)); (conv => whnf))))
  ((repeat ((first | (refine VL.cons ?_) | (refine VL.nil ?_) | (refine VC.seqS rfl ?_) | (refine VC.region ?_) | (refine VC.draw ?_) | (refine VC.cond ?_) | (refine VC.block ?_) | (refine VC.exit ?_) | (refine VC.ret ?_) | (refine VC.skip ?_) | (refine VC.label ?_) | (refine VC.scope ?_) | (refine VQ.cons ?_) | (refine VQ.nil ?_) | (refine VG.nil ?_) | (refine VG.cons ?_) | (refine VH.nil ?_) | (refine VH.cons ?_) | (refine VP.done ?_) | (refine VP.one ?_) | (refine VP.two ?_) | (refine VE.cons ?_) | (refine VE.nil ?_) | (refine VBool.t ?_) | (refine VBool.f ?_) | (refine VBool.dT (by omega) ?_) | (refine VBool.dF (by omega) ?_) | (refine VBool.nT (by omega) ?_) | (refine VBool.nF (by omega) ?_) | (refine VRead.lenS ?_) | (refine VRead.lenT ?_) | (refine VRead.fld ?_) | (refine VRead.load1 (by assumption) ?_) | (refine VRead.load (by assumption) ?_) | (refine VRead.neB ?_) | (refine VRead.eqPN ?_) | (refine VRead.nePN ?_) | (refine VRead.eqB ?_) | (refine VBool.nT rfl ?_) | (refine VBool.dT rfl ?_) | (refine VWrap.i64 (by omega) (by omega) ?_) | (refine VWrap.u64 (by omega) (by omega) ?_) | (refine VRead.at1 (by omega) ?_) | (refine VRead.eqNN ?_) | (refine VSem.convI ?_) | (refine VRead.convI ?_) | (refine VRead.rem (by omega) (by decide) ?_) | (refine VRead.neg ?_) | (refine VC.seq ?_)); (conv => whnf))))
  refine VCall.of (snapNewest_any W8 U8 d _ hd8) ?_
  rintro e W9 ⟨⟨i9, t9, v9, rfl, hV⟩, hB9⟩
  refine ⟨_, rfl, ?_⟩
  have hB09 := hB08.trans (hB9.mono hB08.size)
  have hra := hr1.below hB09
  have hrb := hr2.below hB09
  have cga : ∀ {K : Value → World → Prop}, K (.string (txt a)) W9 → VSem Try.prog (convert 31 9 (.slice A1 n1 c1)) W9 K := fun h => VSem.convT hra h
  have cgb : ∀ {K : Value → World → Prop}, K (.string (txt b)) W9 → VSem Try.prog (convert 31 9 (.slice A2 n2 c2)) W9 K := fun h => VSem.convT hrb h
  rcases key with key | ⟨hR, key⟩
  · rw [key] at hV ⊢
    obtain ⟨rfl, _, _, rfl, Av, cv, rfl, hOv⟩ := hV
    simp only at hOv ⊢
    ((conv => whnf); (repeat ((first | (refine VL.cons ?_) | (refine VL.nil ?_) | (refine VC.seqS rfl ?_) | (refine VC.region ?_) | (refine VC.draw ?_) | (refine VC.cond ?_) | (refine VC.block ?_) | (refine VC.exit ?_) | (refine VC.ret ?_) | (refine VC.skip ?_) | (refine VC.label ?_) | (refine VC.scope ?_) | (refine VQ.cons ?_) | (refine VQ.nil ?_) | (refine VG.nil ?_) | (refine VG.cons ?_) | (refine VH.nil ?_) | (refine VH.cons ?_)); (conv => whnf))))
    (repeat (first | ((first | (refine VL.cons ?_) | (refine VL.nil ?_) | (refine VC.seqS rfl ?_) | (refine VC.region ?_) | (refine VC.draw ?_) | (refine VC.cond ?_) | (refine VC.block ?_) | (refine VC.exit ?_) | (refine VC.ret ?_) | (refine VC.skip ?_) | (refine VC.label ?_) | (refine VC.scope ?_) | (refine VQ.cons ?_) | (refine VQ.nil ?_) | (refine VG.nil ?_) | (refine VG.cons ?_) | (refine VH.nil ?_) | (refine VH.cons ?_) | (refine VP.done ?_) | (refine VP.one ?_) | (refine VP.two ?_) | (refine VE.cons ?_) | (refine VE.nil ?_) | (refine VBool.t ?_) | (refine VBool.f ?_) | (refine VBool.dT (by omega) ?_) | (refine VBool.dF (by omega) ?_) | (refine VBool.nT (by omega) ?_) | (refine VBool.nF (by omega) ?_) | (refine VRead.lenS ?_) | (refine VRead.lenT ?_) | (refine VRead.fld ?_) | (refine VRead.load1 (by assumption) ?_) | (refine VRead.load (by assumption) ?_) | (refine VRead.neB ?_) | (refine VRead.eqPN ?_) | (refine VRead.nePN ?_) | (refine VRead.eqB ?_) | (refine VBool.nT rfl ?_) | (refine VBool.dT rfl ?_) | (refine VWrap.i64 (by omega) (by omega) ?_) | (refine VWrap.u64 (by omega) (by omega) ?_) | (refine VRead.at1 (by omega) ?_) | (refine VRead.eqNN ?_) | (refine VSem.convI ?_) | (refine VRead.convI ?_) | (refine VRead.rem (by omega) (by decide) ?_) | (refine VRead.neg ?_) | (refine VC.seq ?_)); (conv => whnf)) | (refine VRead.convT (fun _ e => e ▸ Own.reads hOv) ?_; (conv => whnf)) | (refine VRead.convT (fun _ e => e ▸ hrb) ?_; (conv => whnf)) | (refine VSem.convT (Own.reads hOv) ?_; (conv => whnf)) | (refine VSem.convT hrb ?_; (conv => whnf))))
    refine VCall.of (awake19_any W9) ?_
    rintro e W10 ⟨rfl, hB10⟩
    refine ⟨_, rfl, ?_⟩
    ((conv => whnf); (repeat ((first | (refine VL.cons ?_) | (refine VL.nil ?_) | (refine VC.seqS rfl ?_) | (refine VC.region ?_) | (refine VC.draw ?_) | (refine VC.cond ?_) | (refine VC.block ?_) | (refine VC.exit ?_) | (refine VC.ret ?_) | (refine VC.skip ?_) | (refine VC.label ?_) | (refine VC.scope ?_) | (refine VQ.cons ?_) | (refine VQ.nil ?_) | (refine VG.nil ?_) | (refine VG.cons ?_) | (refine VH.nil ?_) | (refine VH.cons ?_)); (conv => whnf))))
    ((repeat ((first | (refine VL.cons ?_) | (refine VL.nil ?_) | (refine VC.seqS rfl ?_) | (refine VC.region ?_) | (refine VC.draw ?_) | (refine VC.cond ?_) | (refine VC.block ?_) | (refine VC.exit ?_) | (refine VC.ret ?_) | (refine VC.skip ?_) | (refine VC.label ?_) | (refine VC.scope ?_) | (refine VQ.cons ?_) | (refine VQ.nil ?_) | (refine VG.nil ?_) | (refine VG.cons ?_) | (refine VH.nil ?_) | (refine VH.cons ?_) | (refine VP.done ?_) | (refine VP.one ?_) | (refine VP.two ?_) | (refine VE.cons ?_) | (refine VE.nil ?_) | (refine VBool.t ?_) | (refine VBool.f ?_) | (refine VBool.dT (by omega) ?_) | (refine VBool.dF (by omega) ?_) | (refine VBool.nT (by omega) ?_) | (refine VBool.nF (by omega) ?_) | (refine VRead.lenS ?_) | (refine VRead.lenT ?_) | (refine VRead.fld ?_) | (refine VRead.load1 (by assumption) ?_) | (refine VRead.load (by assumption) ?_) | (refine VRead.neB ?_) | (refine VRead.eqPN ?_) | (refine VRead.nePN ?_) | (refine VRead.eqB ?_) | (refine VBool.nT rfl ?_) | (refine VBool.dT rfl ?_) | (refine VWrap.i64 (by omega) (by omega) ?_) | (refine VWrap.u64 (by omega) (by omega) ?_) | (refine VRead.at1 (by omega) ?_) | (refine VRead.eqNN ?_) | (refine VSem.convI ?_) | (refine VRead.convI ?_) | (refine VRead.rem (by omega) (by decide) ?_) | (refine VRead.neg ?_) | (refine VC.seq ?_)); (conv => whnf))))
    exact ⟨rfl, hB09.trans (hB10.mono hB09.size)⟩
  · rw [key] at hV ⊢
    obtain ⟨rfl, _, _, rfl, Av, cv, rfl, hOv⟩ := hV
    simp only at hOv ⊢
    ((conv => whnf); (repeat ((first | (refine VL.cons ?_) | (refine VL.nil ?_) | (refine VC.seqS rfl ?_) | (refine VC.region ?_) | (refine VC.draw ?_) | (refine VC.cond ?_) | (refine VC.block ?_) | (refine VC.exit ?_) | (refine VC.ret ?_) | (refine VC.skip ?_) | (refine VC.label ?_) | (refine VC.scope ?_) | (refine VQ.cons ?_) | (refine VQ.nil ?_) | (refine VG.nil ?_) | (refine VG.cons ?_) | (refine VH.nil ?_) | (refine VH.cons ?_)); (conv => whnf))))
    (repeat (first | ((first | (refine VL.cons ?_) | (refine VL.nil ?_) | (refine VC.seqS rfl ?_) | (refine VC.region ?_) | (refine VC.draw ?_) | (refine VC.cond ?_) | (refine VC.block ?_) | (refine VC.exit ?_) | (refine VC.ret ?_) | (refine VC.skip ?_) | (refine VC.label ?_) | (refine VC.scope ?_) | (refine VQ.cons ?_) | (refine VQ.nil ?_) | (refine VG.nil ?_) | (refine VG.cons ?_) | (refine VH.nil ?_) | (refine VH.cons ?_) | (refine VP.done ?_) | (refine VP.one ?_) | (refine VP.two ?_) | (refine VE.cons ?_) | (refine VE.nil ?_) | (refine VBool.t ?_) | (refine VBool.f ?_) | (refine VBool.dT (by omega) ?_) | (refine VBool.dF (by omega) ?_) | (refine VBool.nT (by omega) ?_) | (refine VBool.nF (by omega) ?_) | (refine VRead.lenS ?_) | (refine VRead.lenT ?_) | (refine VRead.fld ?_) | (refine VRead.load1 (by assumption) ?_) | (refine VRead.load (by assumption) ?_) | (refine VRead.neB ?_) | (refine VRead.eqPN ?_) | (refine VRead.nePN ?_) | (refine VRead.eqB ?_) | (refine VBool.nT rfl ?_) | (refine VBool.dT rfl ?_) | (refine VWrap.i64 (by omega) (by omega) ?_) | (refine VWrap.u64 (by omega) (by omega) ?_) | (refine VRead.at1 (by omega) ?_) | (refine VRead.eqNN ?_) | (refine VSem.convI ?_) | (refine VRead.convI ?_) | (refine VRead.rem (by omega) (by decide) ?_) | (refine VRead.neg ?_) | (refine VC.seq ?_)); (conv => whnf)) | (refine VBool.nF hR ?_; (conv => whnf)) | (refine VSem.convT (Own.reads hOv) ?_; (conv => whnf)) | (refine VSem.convT hra ?_; (conv => whnf))))
    refine VCall.of (awake19_any W9) ?_
    rintro e W10 ⟨rfl, hB10⟩
    refine ⟨_, rfl, ?_⟩
    ((conv => whnf); (repeat ((first | (refine VL.cons ?_) | (refine VL.nil ?_) | (refine VC.seqS rfl ?_) | (refine VC.region ?_) | (refine VC.draw ?_) | (refine VC.cond ?_) | (refine VC.block ?_) | (refine VC.exit ?_) | (refine VC.ret ?_) | (refine VC.skip ?_) | (refine VC.label ?_) | (refine VC.scope ?_) | (refine VQ.cons ?_) | (refine VQ.nil ?_) | (refine VG.nil ?_) | (refine VG.cons ?_) | (refine VH.nil ?_) | (refine VH.cons ?_)); (conv => whnf))))
    ((repeat ((first | (refine VL.cons ?_) | (refine VL.nil ?_) | (refine VC.seqS rfl ?_) | (refine VC.region ?_) | (refine VC.draw ?_) | (refine VC.cond ?_) | (refine VC.block ?_) | (refine VC.exit ?_) | (refine VC.ret ?_) | (refine VC.skip ?_) | (refine VC.label ?_) | (refine VC.scope ?_) | (refine VQ.cons ?_) | (refine VQ.nil ?_) | (refine VG.nil ?_) | (refine VG.cons ?_) | (refine VH.nil ?_) | (refine VH.cons ?_) | (refine VP.done ?_) | (refine VP.one ?_) | (refine VP.two ?_) | (refine VE.cons ?_) | (refine VE.nil ?_) | (refine VBool.t ?_) | (refine VBool.f ?_) | (refine VBool.dT (by omega) ?_) | (refine VBool.dF (by omega) ?_) | (refine VBool.nT (by omega) ?_) | (refine VBool.nF (by omega) ?_) | (refine VRead.lenS ?_) | (refine VRead.lenT ?_) | (refine VRead.fld ?_) | (refine VRead.load1 (by assumption) ?_) | (refine VRead.load (by assumption) ?_) | (refine VRead.neB ?_) | (refine VRead.eqPN ?_) | (refine VRead.nePN ?_) | (refine VRead.eqB ?_) | (refine VBool.nT rfl ?_) | (refine VBool.dT rfl ?_) | (refine VWrap.i64 (by omega) (by omega) ?_) | (refine VWrap.u64 (by omega) (by omega) ?_) | (refine VRead.at1 (by omega) ?_) | (refine VRead.eqNN ?_) | (refine VSem.convI ?_) | (refine VRead.convI ?_) | (refine VRead.rem (by omega) (by decide) ?_) | (refine VRead.neg ?_) | (refine VC.seq ?_)); (conv => whnf))))
    exact ⟨rfl, hB09.trans (hB10.mono hB09.size)⟩
end Go.Proofs.Ytebeidnmplnlpaa
end

section
namespace Go.Proofs.Ytebeidnmplnlpaa.Frame
set_option linter.unusedVariables false

theorem num_byte {l : List UInt8} {j : Nat} {x : UInt8} (y : UInt8) (h : l[j]? = some x) : Crc.num (l.set j (x ^^^ y)) = Crc.num l ^^^ (y.toNat * 2 ^ (8 * j)) := by
  apply Nat.eq_of_testBit_eq
  intro i
  have hj : j < l.length := (List.getElem?_eq_some_iff.1 h).1
  rw [Crc.num_bit, Nat.testBit_xor, Crc.num_bit, Nat.testBit_mul_two_pow]
  have hy := y.toNat_lt
  by_cases e : i / 8 = j
  · have e1 : 8 * j ≤ i := by omega
    have e2 : i - 8 * j = i % 8 := by omega
    rw [e, List.getElem?_set_self hj, h]
    simp [e1, e2]
  · rw [List.getElem?_set_ne (Ne.symm e)]
    by_cases e1 : 8 * j ≤ i
    · have : y.toNat.testBit (i - 8 * j) = false := Nat.testBit_lt_two_pow (Nat.lt_of_lt_of_le hy (by
        have : 8 ≤ i - 8 * j := by omega
        exact Nat.le_trans (by decide) (Nat.pow_le_pow_right (by decide) this : 2 ^ 8 ≤ 2 ^ (i - 8 * j))))
      simp [this]
    · simp [e1]
theorem get_first {l : List UInt8} (h : (get l 0).2.2 = 0) : ∃ body r, l = put body ++ r ∧ get l 0 = (body, ((put body).length : Int), 0) ∧ 1 ≤ body.length ∧ body.length ≤ 1048576 := by
  unfold get at h ⊢
  split at h
  · exact absurd h (by decide)
  · rename_i h1
    rw [if_neg h1]
    split at h
    · exact absurd h (by decide)
    · rename_i h2
      rw [if_neg h2]
      split at h
      · exact absurd h (by decide)
      · rename_i body r e
        rw [show (0 : Int).toNat = 0 from rfl, List.drop_zero] at e
        obtain ⟨e2, h3, h4⟩ := first_some e
        exact ⟨body, r, e2, by simp, h3, h4⟩
theorem put_head (body : List UInt8) : (put body).drop ((Wire.int body.length).length + 4) = body := by
  unfold put
  rw [List.append_assoc, ← List.drop_drop, List.drop_left' rfl, List.drop_left' (le4_len _)]
theorem put_sum (body : List UInt8) : ((put body).drop (Wire.int body.length).length).take 4 = le4 (sum body) := by
  unfold put
  rw [List.append_assoc, List.drop_left' rfl, List.take_left' (le4_len _)]
theorem sum_more (body : List UInt8) : sum body = Crc.more 0 (Wire.int body.length ++ body) := Crc.more_append (by omega) _ _
/-- where a byte of a frame is turned, all of it is no frame any more -/
theorem turned {body : List UInt8} {k : Nat} {x y : UInt8} (hk : (put body)[k]? = some x) (hy : y ≠ 0) :
    ¬ ((get ((put body).set k (x ^^^ y)) 0).2.2 = 0 ∧ (get ((put body).set k (x ^^^ y)) 0).2.1 = ((put body).length : Int)) := by
  rintro ⟨h1, h2⟩
  obtain ⟨body', r, e, hg, h3, h4⟩ := get_first h1
  rw [hg] at h2
  have hkl : k < (put body).length := (List.getElem?_eq_some_iff.1 hk).1
  have hl' : (put body').length = (put body).length := Int.ofNat_inj.1 h2
  have hr : r = [] := by
    have := congrArg List.length e
    rw [List.length_set, List.length_append] at this
    exact List.eq_nil_of_length_eq_zero (by omega)
  rw [hr, List.append_nil] at e
  have hn : body'.length = body.length := by
    rw [put_len, put_len] at hl'
    rcases Nat.lt_trichotomy body'.length body.length with h | h | h
    · have := Wire.int_mono (a := (body'.length : Int)) (b := (body.length : Int)) (.inl ⟨by omega, by omega⟩); omega
    · exact h
    · have := Wire.int_mono (a := (body.length : Int)) (b := (body'.length : Int)) (.inl ⟨by omega, by omega⟩); omega
  suffices hb : body' = body by
    rw [hb] at e
    have := congrArg (fun l => l[k]?) e
    simp only [List.getElem?_set_self hkl, hk, Option.some.injEq] at this
    apply hy
    have h5 := congrArg (fun z => x ^^^ z) this
    simpa [← UInt8.xor_assoc] using h5
  have hd := put_head body'
  rw [← e, hn, List.drop_set] at hd
  split at hd
  · rw [← hd, put_head]
  · rename_i hge
    rw [put_head] at hd
    have hs := put_sum body'
    rw [← e, hn, List.drop_set, if_neg (by omega), List.take_set, List.set_eq_of_length_le (by rw [List.length_take]; omega), put_sum] at hs
    have hs2 : sum body' = sum body := by
      have := congrArg Crc.num hs
      rw [num_le4 (sum_lt _), num_le4 (sum_lt _)] at this
      exact this.symm
    rw [sum_more, sum_more, hn] at hs2
    have hj : body[k - ((Wire.int body.length).length + 4)]? = some x := by
      have h6 : ((put body).drop ((Wire.int body.length).length + 4))[k - ((Wire.int body.length).length + 4)]? = some x := by
        rw [List.getElem?_drop, show (Wire.int ↑body.length).length + 4 + (k - ((Wire.int ↑body.length).length + 4)) = k by omega]
        exact hk
      rwa [put_head] at h6
    generalize k - ((Wire.int body.length).length + 4) = j at hd hj
    have hLj : (Wire.int body.length ++ body)[(Wire.int body.length).length + j]? = some x := by
      rw [List.getElem?_append_right (by omega), show (Wire.int ↑body.length).length + j - (Wire.int ↑body.length).length = j by omega]
      exact hj
    have hset : Wire.int body.length ++ body' = (Wire.int body.length ++ body).set ((Wire.int body.length).length + j) (x ^^^ y) := by
      rw [List.set_append_right _ _ (by omega), show (Wire.int ↑body.length).length + j - (Wire.int ↑body.length).length = j by omega, hd]
    have hlt := (List.getElem?_eq_some_iff.1 hLj).1
    have hb := Crc.burst (Wire.int body.length ++ body) (Wire.int body.length ++ body') (by rw [hset, List.length_set]) (8 * ((Wire.int body.length).length + j)) y.toNat (Nat.lt_trans y.toNat_lt (by decide))
      (by rw [hset]; exact num_byte y hLj) (by omega) hs2
    exact List.append_cancel_left hb
end Go.Proofs.Ytebeidnmplnlpaa.Frame
end

section
set_option maxRecDepth 10000
namespace Go.Proofs.Ytebeidnmplnlpaa
set_option linter.unusedVariables false
open Go.RowKit

/-! ### plain -/
theorem chunks_last (l : List UInt8) : l ≠ [] → ∃ i c, chunks l = i ++ [c] ∧ c.length = (l.length - 1) % 1000 + 1 :=
  chunks_ind (P := fun l => l ≠ [] → ∃ i c, chunks l = i ++ [c] ∧ c.length = (l.length - 1) % 1000 + 1) (fun h => absurd rfl h) (fun l hl ih _ => by
    have h0 : 0 < l.length := List.length_pos_iff.2 hl
    rw [chunks_cons hl]
    by_cases hd : l.drop 1000 = []
    · have h1 : l.length ≤ 1000 := by
        have := congrArg List.length hd
        rw [List.length_drop] at this
        simp at this
        omega
      rw [hd, chunks_nil]
      exact ⟨[], l.take 1000, rfl, by rw [List.length_take]; omega⟩
    · obtain ⟨i, c, e1, e2⟩ := ih hd
      have h1 : 1000 < l.length := by
        have := List.length_pos_iff.2 hd
        rw [List.length_drop] at this
        omega
      refine ⟨l.take 1000 :: i, c, by rw [e1]; rfl, ?_⟩
      rw [e2, List.length_drop]
      omega) l.length l (Nat.le_refl _)
theorem gather_flat {n : Int} : ∀ {cs : List (List UInt8)} {acc x : List UInt8}, gather n acc cs = some x → x = acc ++ cs.flatten
  | [], acc, x, h => by simp [gather] at h; simp [h]
  | c :: cs, acc, x, h => by
    unfold gather at h
    split at h
    · rw [gather_flat h, List.flatten_cons, List.append_assoc]
    · cases h
theorem cut_at (bs : List (List UInt8)) (k : Nat) : ∀ (N : Nat), N ≤ bs.length → k < (Frame.laid (bs.take N)).length → ∃ n, n < N ∧ (Frame.laid (bs.take n)).length ≤ k ∧ k < (Frame.laid (bs.take (n + 1))).length
  | 0, _, h => by simp [Frame.laid] at h
  | N + 1, hN, h => by
    by_cases hc : k < (Frame.laid (bs.take N)).length
    · obtain ⟨n, h1, h2⟩ := cut_at bs k N (by omega) hc
      exact ⟨n, by omega, h2⟩
    · exact ⟨N, by omega, by omega, h⟩
theorem chunk_len {l b : List UInt8} (h : b ∈ chunks l) : 1 ≤ b.length ∧ b.length ≤ 1000 := by
  have := chunks_ind (P := fun l => ∀ b ∈ chunks l, 1 ≤ b.length ∧ b.length ≤ 1000) (fun b hb => by simp [chunks_nil] at hb) (fun l hl ih b hb => by
    have : 0 < l.length := List.length_pos_iff.2 hl
    rw [chunks_cons hl] at hb
    rcases List.mem_cons.1 hb with rfl | hb
    · rw [List.length_take]; omega
    · exact ih b hb) l.length l (Nat.le_refl _)
  exact this b h
theorem file_good (i t : Int) (data : List UInt8) : Frame.Good (hdB i t data.length :: chunks data) := fun b hb => by
  rcases List.mem_cons.1 hb with rfl | hb
  · have := hd_len i t data.length; omega
  · have := chunk_len hb; omega
theorem saysB_part {i t : Int} {data : List UInt8} (h : SvOk i t data) {n : Nat} (hn : n < (hdB i t data.length :: chunks data).length) : saysB i ((hdB i t data.length :: chunks data).take n) = none := by
  cases n with
  | zero => rfl
  | succ m =>
    rw [List.take_succ_cons, saysB_cons, if_pos h.hd]
    obtain ⟨h1, h2, h3, h4, h5, h6⟩ := id h
    obtain ⟨e1, e2, e3, e4⟩ := hd_read (i := i) (t := t) (n := data.length) (by omega) (by omega) (by omega)
    rw [List.length_cons] at hn
    cases hg : gather (hN (hdB i t data.length)) [] ((chunks data).take m) with
    | none => rfl
    | some x =>
      simp only
      have hx := gather_flat hg
      rw [List.nil_append] at hx
      rw [if_neg]
      intro he
      rw [e3] at he
      have hf : data.length = ((chunks data).take m).flatten.length + ((chunks data).drop m).flatten.length := by
        rw [← List.length_append, ← List.flatten_append, List.take_append_drop, chunks_flat]
      rw [hx] at he
      have hd : ((chunks data).drop m) ≠ [] := fun e => by
        have := congrArg List.length e
        rw [List.length_drop] at this
        simp at this
        omega
      cases hdd : (chunks data).drop m with
      | nil => exact hd hdd
      | cons c r =>
        have hc := chunk_len (l := data) (b := c) (List.mem_of_mem_drop (i := m) (by rw [hdd]; simp))
        rw [hdd, List.flatten_cons, List.length_append] at hf
        omega
theorem says_cut {i t : Int} {data : List UInt8} (h : SvOk i t data) {k : Nat} (hk : k < (fileB i t data).length) : saysS ((fileB i t data).take k) i = none := by
  obtain ⟨n, h1, h2, h3⟩ := cut_at (hdB i t data.length :: chunks data) k _ (Nat.le_refl _) (by rw [List.take_length]; exact hk)
  obtain ⟨u, e, hu⟩ := Frame.laid_cut (file_good i t data) (Nat.le_of_lt h1) h2 (.inr h3)
  have hok : Frame.Ok1 ((hdB i t data.length :: chunks data).take n) := fun b hb => h.bs b (List.mem_of_mem_take hb)
  obtain ⟨b1, b2⟩ := Frame.bodies_laid hok hu
  unfold saysS fileB
  rw [e, b1, b2]
  split
  · exact saysB_part h h1
  · rfl
theorem first_turned {body : List UInt8} {o : Nat} (h1 : 1 ≤ body.length) (h2 : body.length ≤ 1048576) (ho : o < body.length) {x y : UInt8} (hx : (Frame.put body)[(Frame.put body).length - 1 - o]? = some x) (hy : y ≠ 0) :
    Frame.first ((Frame.put body).set ((Frame.put body).length - 1 - o) (x ^^^ y)) = none := by
  have ht := Frame.turned hx hy
  have hpl := Frame.put_len body
  obtain ⟨l', hl'⟩ : ∃ l', (Frame.put body).set ((Frame.put body).length - 1 - o) (x ^^^ y) = l' := ⟨_, rfl⟩
  rw [hl'] at ht ⊢
  have hlen : l'.length = (Frame.put body).length := by rw [← hl', List.length_set]
  cases hf : Frame.first l' with
  | none => rfl
  | some p =>
    obtain ⟨b', r⟩ := p
    obtain ⟨e, g1, g2⟩ := Frame.first_some hf
    have hbig := (Wire.int_len (body.length : Int)).1
    -- the head stays
    have hhead : l' = Wire.int (body.length : Int) ++ ((Frame.le4 (Frame.sum body) ++ body).set (4 + (body.length - 1 - o)) (x ^^^ y)) := by
      rw [← hl']
      unfold Frame.put
      rw [List.append_assoc, List.set_append_right _ _ (by simp only [List.length_append, Frame.le4_len]; omega)]
      congr 2
      simp only [List.length_append, Frame.le4_len]
      omega
    have i1 : Wire.intS (some l') = ((body.length : Int), some ((Frame.le4 (Frame.sum body) ++ body).set (4 + (body.length - 1 - o)) (x ^^^ y))) := by rw [hhead]; exact Frame.int_small h2 _
    have i2 : Wire.intS (some l') = ((b'.length : Int), some (Frame.le4 (Frame.sum b') ++ b' ++ r)) := by
      rw [e]
      unfold Frame.put
      rw [List.append_assoc, List.append_assoc, List.append_assoc]
      exact Frame.int_small g2 _
    have hbl : body.length = b'.length := by
      have := congrArg Prod.fst (i1.symm.trans i2)
      simp only at this
      omega
    have hr : r = [] := by
      have := congrArg List.length e
      rw [List.length_append, hlen, hpl, Frame.put_len, hbl] at this
      exact List.eq_nil_of_length_eq_zero (by omega)
    subst hr
    rw [List.append_nil] at e
    exfalso
    apply ht
    have hg : Frame.get l' 0 = (b', ((Frame.put b').length : Int), 0) := by
      unfold Frame.get
      rw [if_neg (by omega), if_neg (by omega)]
      simp only [Int.toNat_zero, List.drop_zero]
      rw [hf]
      simp
    rw [hg]
    exact ⟨rfl, by rw [Frame.put_len, Frame.put_len, hbl]⟩
theorem says_turned {i t : Int} {data : List UInt8} (h : SvOk i t data) {o : Nat} (ho : o < (data.length - 1) % 1000 + 1) {x : UInt8} (hx : (fileB i t data)[(fileB i t data).length - 1 - o]? = some x) {y : UInt8} (hy : y ≠ 0) :
    saysS ((fileB i t data).set ((fileB i t data).length - 1 - o) (x ^^^ y)) i = none := by
  have hne : data ≠ [] := fun e => by have := h.n1; rw [e] at this; simp at this
  obtain ⟨ini, c, e1, e2⟩ := chunks_last data hne
  have hc := chunk_len (l := data) (b := c) (by rw [e1]; simp)
  have ef : fileB i t data = Frame.laid (hdB i t data.length :: ini) ++ Frame.put c := by
    unfold fileB
    rw [e1, ← List.cons_append, Frame.laid_append, Frame.laid_one]
  have hpc := Frame.put_len c
  have hi4 := (Wire.int_len (c.length : Int)).1
  obtain ⟨P, hP⟩ : ∃ P, Frame.laid (hdB i t data.length :: ini) = P := ⟨_, rfl⟩
  rw [hP] at ef
  have hidx : (fileB i t data).length - 1 - o = P.length + ((Frame.put c).length - 1 - o) := by rw [ef, List.length_append]; omega
  rw [hidx, ef] at hx ⊢
  rw [List.getElem?_append_right (by omega)] at hx
  rw [List.set_append_right _ _ (by omega)]
  rw [show P.length + ((Frame.put c).length - 1 - o) - P.length = (Frame.put c).length - 1 - o from by omega] at hx ⊢
  have hfn := first_turned hc.1 (by omega) (by omega) hx hy
  have hok : Frame.Ok1 (hdB i t data.length :: ini) := fun b hb => h.bs b (by
    rcases List.mem_cons.1 hb with rfl | hb
    · simp
    · rw [e1]; simp [hb])
  rw [← hP]
  obtain ⟨b1, b2⟩ := Frame.bodies_laid hok hfn
  unfold saysS
  rw [b2, if_neg]
  intro e
  have := congrArg List.length e
  rw [List.length_set] at this
  simp at this
  have := Frame.put_pos c
  rw [‹Frame.put c = []›] at this
  simp at this
theorem file_big {i t : Int} {data : List UInt8} (h : SvOk i t data) : 8 ≤ (fileB i t data).length := by
  have hne : data ≠ [] := fun e => by have := h.n1; rw [e] at this; simp at this
  obtain ⟨ini, c, e1, e2⟩ := chunks_last data hne
  unfold fileB
  rw [e1, ← List.cons_append, Frame.laid_append, Frame.laid_one, Frame.laid_cons, List.length_append, List.length_append]
  have := Frame.put_pos c
  have := Frame.put_pos (hdB i t data.length)
  omega
theorem newest_bad {n m : Nat} {t : Int} {a x : List UInt8} {s : Nat} (h1 : SvOk (n : Int) t a) (hm1 : 1 ≤ m) (hm2 : m ≤ 1099511627776) (hx : saysS x (m : Int) = none) : newest [(snName (n : Int), fullF (fileB n t a)), (snName (m : Int), ⟨x, s⟩)] = some (n, t, a) := by
  unfold newest
  rw [List.foldl_cons, List.foldl_cons, List.foldl_nil]
  have e : ∀ acc : Option Sn, newStep acc (snName (m : Int), (⟨x, s⟩ : Fl)) = acc := fun acc => by
    unfold newStep
    simp only
    rw [snNum_name hm1 hm2]
    simp only
    rw [hx]
  rw [e]
  exact newest_one h1 rfl _
end Go.Proofs.Ytebeidnmplnlpaa
end

section
set_option maxRecDepth 10000
namespace Go.Proofs.Ytebeidnmplnlpaa
set_option linter.unusedVariables false
open Go.RowKit

theorem set_state {c' : Int} {T : PT} (hlow : ∀ p ∈ T, p.1 < snName ((9 : Nat) : Int)) (hl : T.length < 64) {x : List UInt8} (hu : (used T : Int) + x.length ≤ 1048576) :
    DS.create ⟨k0 1048576 c', T⟩ (snName ((9 : Nat) : Int)) = (0, ⟨k0 1048576 (c' + 1), T ++ [(snName ((9 : Nat) : Int), ⟨[], 0⟩)]⟩) ∧
    DS.append ⟨k0 1048576 (c' + 1), T ++ [(snName ((9 : Nat) : Int), ⟨[], 0⟩)]⟩ (snName ((9 : Nat) : Int)) x = (0, ⟨k0 1048576 (c' + 1 + 1), T ++ [(snName ((9 : Nat) : Int), ⟨x, 0⟩)]⟩) := by
  have hnm := snName_nm (n := 9) (by decide) (by decide)
  constructor
  · rw [k0_create hnm (by omega), tset_last hlow]
  · rw [k0_append hnm (tfind_last hlow) (by rw [used_append]; simp [used]; omega), tset_lastA hlow]
    rfl
theorem Own.cutSrc {W : World} {U : Foot} {B n c k : Nat} {A : Option Addr} {l : List UInt8} (h : Own W B (.slice A n c) n l) (hk : k ≤ n) : Src W U A k (l.take k) :=
  Src.of_lies (V := fun _ => True) ((Lies.of_own (U := fun _ => True) h (fun _ _ => trivial)).take hk)
set_option maxHeartbeats 8000000 in
theorem snapTurned_walk (A1 : Option Addr) (n1 c1 : Nat) (a : List UInt8) (A2 : Option Addr) (n2 c2 : Nat) (b : List UInt8) (at_ : Int) (cut : Bool) (W : World)
    (h1 : InBytes W A1 n1 c1 a) (h2 : InBytes W A2 n2 c2 b) (hat : -9223372036854775808 ≤ at_ ∧ at_ ≤ 9223372036854775807) :
    Calls Try.prog 5 #[.slice A1 n1 c1, .slice A2 n2 c2, .int .i64 at_, .bool cut] W fun e W' => e = .returned (.bool true) ∧ Below W.heap.size W W' := by
  obtain ⟨hr1, hnc1, hcc1⟩ := h1
  obtain ⟨hr2, hnc2, hcc2⟩ := h2
  have hl1 : a.length = n1 := by have := hr1.1; rw [bv_length] at this; omega
  have hl2 : b.length = n2 := by have := hr2.1; rw [bv_length] at this; omega
  have away : Calls Try.prog 17 #[] W fun e W' => e = .returned (.bool true) ∧ Below W.heap.size W W' := awake19_any W
  refine calls_vc Try.func5 rfl (by kernel_rfl) ?_
  by_cases hbad : n1 < 1 ∨ n2 < 1 ∨ 3000 < n1 ∨ 3000 < n2
  · have hcase : n1 < 1 ∨ (1 ≤ n1 ∧ n2 < 1) ∨ (1 ≤ n1 ∧ 1 ≤ n2 ∧ 3000 < n1) ∨ (1 ≤ n1 ∧ 1 ≤ n2 ∧ n1 ≤ 3000 ∧ 3000 < n2) := by omega
    rcases hcase with hc | ⟨hc, hc'⟩ | ⟨hc, hc', hc''⟩ | ⟨hc, hc', hc'', hc3⟩
    all_goals
      ((conv => whnf); (repeat ((first | (refine VL.cons ?_) | (refine VL.nil ?_) | (refine VC.seqS rfl ?_) | (refine VC.region ?_) | (refine VC.draw ?_) | (refine VC.cond ?_) | (refine VC.block ?_) | (refine VC.exit ?_) | (refine VC.ret ?_) | (refine VC.skip ?_) | (refine VC.label ?_) | (refine VC.scope ?_) | (refine VQ.cons ?_) | (refine VQ.nil ?_) | (refine VG.nil ?_) | (refine VG.cons ?_) | (refine VH.nil ?_) | (refine VH.cons ?_)); (conv => whnf))))
      ((repeat ((first | (refine VL.cons ?_) | (refine VL.nil ?_) | (refine VC.seqS rfl ?_) | (refine VC.region ?_) | (refine VC.draw ?_) | (refine VC.cond ?_) | (refine VC.block ?_) | (refine VC.exit ?_) | (refine VC.ret ?_) | (refine VC.skip ?_) | (refine VC.label ?_) | (refine VC.scope ?_) | (refine VQ.cons ?_) | (refine VQ.nil ?_) | (refine VG.nil ?_) | (refine VG.cons ?_) | (refine VH.nil ?_) | (refine VH.cons ?_) | (refine VP.done ?_) | (refine VP.one ?_) | (refine VP.two ?_) | (refine VE.cons ?_) | (refine VE.nil ?_) | (refine VBool.t ?_) | (refine VBool.f ?_) | (refine VBool.dT (by omega) ?_) | (refine VBool.dF (by omega) ?_) | (refine VBool.nT (by omega) ?_) | (refine VBool.nF (by omega) ?_) | (refine VRead.lenS ?_) | (refine VRead.lenT ?_) | (refine VRead.fld ?_) | (refine VRead.load1 (by assumption) ?_) | (refine VRead.load (by assumption) ?_) | (refine VRead.neB ?_) | (refine VRead.eqPN ?_) | (refine VRead.nePN ?_) | (refine VRead.eqB ?_) | (refine VBool.nT rfl ?_) | (refine VBool.dT rfl ?_) | (refine VWrap.i64 (by omega) (by omega) ?_) | (refine VWrap.u64 (by omega) (by omega) ?_) | (refine VRead.at1 (by omega) ?_) | (refine VRead.eqNN ?_) | (refine VSem.convI ?_) | (refine VRead.convI ?_) | (refine VRead.rem (by omega) (by decide) ?_) | (refine VRead.neg ?_) | (refine VC.seq ?_)); (conv => whnf))))
      refine VCall.of away ?_
      rintro e W1 ⟨rfl, hB1⟩
      refine ⟨_, rfl, ?_⟩
      ((conv => whnf); (repeat ((first | (refine VL.cons ?_) | (refine VL.nil ?_) | (refine VC.seqS rfl ?_) | (refine VC.region ?_) | (refine VC.draw ?_) | (refine VC.cond ?_) | (refine VC.block ?_) | (refine VC.exit ?_) | (refine VC.ret ?_) | (refine VC.skip ?_) | (refine VC.label ?_) | (refine VC.scope ?_) | (refine VQ.cons ?_) | (refine VQ.nil ?_) | (refine VG.nil ?_) | (refine VG.cons ?_) | (refine VH.nil ?_) | (refine VH.cons ?_)); (conv => whnf))))
      ((repeat ((first | (refine VL.cons ?_) | (refine VL.nil ?_) | (refine VC.seqS rfl ?_) | (refine VC.region ?_) | (refine VC.draw ?_) | (refine VC.cond ?_) | (refine VC.block ?_) | (refine VC.exit ?_) | (refine VC.ret ?_) | (refine VC.skip ?_) | (refine VC.label ?_) | (refine VC.scope ?_) | (refine VQ.cons ?_) | (refine VQ.nil ?_) | (refine VG.nil ?_) | (refine VG.cons ?_) | (refine VH.nil ?_) | (refine VH.cons ?_) | (refine VP.done ?_) | (refine VP.one ?_) | (refine VP.two ?_) | (refine VE.cons ?_) | (refine VE.nil ?_) | (refine VBool.t ?_) | (refine VBool.f ?_) | (refine VBool.dT (by omega) ?_) | (refine VBool.dF (by omega) ?_) | (refine VBool.nT (by omega) ?_) | (refine VBool.nF (by omega) ?_) | (refine VRead.lenS ?_) | (refine VRead.lenT ?_) | (refine VRead.fld ?_) | (refine VRead.load1 (by assumption) ?_) | (refine VRead.load (by assumption) ?_) | (refine VRead.neB ?_) | (refine VRead.eqPN ?_) | (refine VRead.nePN ?_) | (refine VRead.eqB ?_) | (refine VBool.nT rfl ?_) | (refine VBool.dT rfl ?_) | (refine VWrap.i64 (by omega) (by omega) ?_) | (refine VWrap.u64 (by omega) (by omega) ?_) | (refine VRead.at1 (by omega) ?_) | (refine VRead.eqNN ?_) | (refine VSem.convI ?_) | (refine VRead.convI ?_) | (refine VRead.rem (by omega) (by decide) ?_) | (refine VRead.neg ?_) | (refine VC.seq ?_)); (conv => whnf))))
      exact ⟨rfl, hB1⟩
  have hok1 : SvOk ((4 : Nat) : Int) 1 a := ⟨by decide, by decide, by decide, by decide, by omega, by omega⟩
  have hok2 : SvOk ((9 : Nat) : Int) 2 b := ⟨by decide, by decide, by decide, by decide, by omega, by omega⟩
  have hfl1 := file_len (i := ((4 : Nat) : Int)) (t := 1) (data := a) (k := 3) (by omega)
  have hfl2 := file_len (i := ((9 : Nat) : Int)) (t := 2) (data := b) (k := 3) (by omega)
  obtain ⟨ca, hca0, hca1, hsv1⟩ := save_new (room := 1048576) hok1 (by decide) (by omega) (by decide)
  obtain ⟨cb, hcb0, hcb1, hsv2⟩ := save_new (room := 1048576) hok2 (by decide) (by omega) (by decide)
  have hbig := file_big hok2
  ((conv => whnf); (repeat ((first | (refine VL.cons ?_) | (refine VL.nil ?_) | (refine VC.seqS rfl ?_) | (refine VC.region ?_) | (refine VC.draw ?_) | (refine VC.cond ?_) | (refine VC.block ?_) | (refine VC.exit ?_) | (refine VC.ret ?_) | (refine VC.skip ?_) | (refine VC.label ?_) | (refine VC.scope ?_) | (refine VQ.cons ?_) | (refine VQ.nil ?_) | (refine VG.nil ?_) | (refine VG.cons ?_) | (refine VH.nil ?_) | (refine VH.cons ?_)); (conv => whnf))))
  ((repeat ((first | (refine VL.cons ?_) | (refine VL.nil ?_) | (refine VC.seqS rfl ?_) | (refine VC.region ?_) | (refine VC.draw ?_) | (refine VC.cond ?_) | (refine VC.block ?_) | (refine VC.exit ?_) | (refine VC.ret ?_) | (refine VC.skip ?_) | (refine VC.label ?_) | (refine VC.scope ?_) | (refine VQ.cons ?_) | (refine VQ.nil ?_) | (refine VG.nil ?_) | (refine VG.cons ?_) | (refine VH.nil ?_) | (refine VH.cons ?_) | (refine VP.done ?_) | (refine VP.one ?_) | (refine VP.two ?_) | (refine VE.cons ?_) | (refine VE.nil ?_) | (refine VBool.t ?_) | (refine VBool.f ?_) | (refine VBool.dT (by omega) ?_) | (refine VBool.dF (by omega) ?_) | (refine VBool.nT (by omega) ?_) | (refine VBool.nF (by omega) ?_) | (refine VRead.lenS ?_) | (refine VRead.lenT ?_) | (refine VRead.fld ?_) | (refine VRead.load1 (by assumption) ?_) | (refine VRead.load (by assumption) ?_) | (refine VRead.neB ?_) | (refine VRead.eqPN ?_) | (refine VRead.nePN ?_) | (refine VRead.eqB ?_) | (refine VBool.nT rfl ?_) | (refine VBool.dT rfl ?_) | (refine VWrap.i64 (by omega) (by omega) ?_) | (refine VWrap.u64 (by omega) (by omega) ?_) | (refine VRead.at1 (by omega) ?_) | (refine VRead.eqNN ?_) | (refine VSem.convI ?_) | (refine VRead.convI ?_) | (refine VRead.rem (by omega) (by decide) ?_) | (refine VRead.neg ?_) | (refine VC.seq ?_)); (conv => whnf))))
  refine VCall.of (oNew W 1048576) ?_
  rintro e W1 ⟨d, U1, rfl, hd1, hU1, hB1⟩
  refine ⟨_, rfl, ?_⟩
  ((conv => whnf); (repeat ((first | (refine VL.cons ?_) | (refine VL.nil ?_) | (refine VC.seqS rfl ?_) | (refine VC.region ?_) | (refine VC.draw ?_) | (refine VC.cond ?_) | (refine VC.block ?_) | (refine VC.exit ?_) | (refine VC.ret ?_) | (refine VC.skip ?_) | (refine VC.label ?_) | (refine VC.scope ?_) | (refine VQ.cons ?_) | (refine VQ.nil ?_) | (refine VG.nil ?_) | (refine VG.cons ?_) | (refine VH.nil ?_) | (refine VH.cons ?_)); (conv => whnf))))
  ((repeat ((first | (refine VL.cons ?_) | (refine VL.nil ?_) | (refine VC.seqS rfl ?_) | (refine VC.region ?_) | (refine VC.draw ?_) | (refine VC.cond ?_) | (refine VC.block ?_) | (refine VC.exit ?_) | (refine VC.ret ?_) | (refine VC.skip ?_) | (refine VC.label ?_) | (refine VC.scope ?_) | (refine VQ.cons ?_) | (refine VQ.nil ?_) | (refine VG.nil ?_) | (refine VG.cons ?_) | (refine VH.nil ?_) | (refine VH.cons ?_) | (refine VP.done ?_) | (refine VP.one ?_) | (refine VP.two ?_) | (refine VE.cons ?_) | (refine VE.nil ?_) | (refine VBool.t ?_) | (refine VBool.f ?_) | (refine VBool.dT (by omega) ?_) | (refine VBool.dF (by omega) ?_) | (refine VBool.nT (by omega) ?_) | (refine VBool.nF (by omega) ?_) | (refine VRead.lenS ?_) | (refine VRead.lenT ?_) | (refine VRead.fld ?_) | (refine VRead.load1 (by assumption) ?_) | (refine VRead.load (by assumption) ?_) | (refine VRead.neB ?_) | (refine VRead.eqPN ?_) | (refine VRead.nePN ?_) | (refine VRead.eqB ?_) | (refine VBool.nT rfl ?_) | (refine VBool.dT rfl ?_) | (refine VWrap.i64 (by omega) (by omega) ?_) | (refine VWrap.u64 (by omega) (by omega) ?_) | (refine VRead.at1 (by omega) ?_) | (refine VRead.eqNN ?_) | (refine VSem.convI ?_) | (refine VRead.convI ?_) | (refine VRead.rem (by omega) (by decide) ?_) | (refine VRead.neg ?_) | (refine VC.seq ?_)); (conv => whnf))))
  refine VCall.of (oNew W1 1048576) ?_
  rintro e W2 ⟨e2, V2, rfl, he2, hV2, hB2⟩
  refine ⟨_, rfl, ?_⟩
  have hB02 := hB1.trans (hB2.mono hB1.size)
  have hdis2 : ∀ j, V2 j → ¬ U1 j := fun j h1 h2 => by have := hV2 j h1; have := hd1.lt j h2; omega
  have hd2 := hd1.below hB2
  ((conv => whnf); (repeat ((first | (refine VL.cons ?_) | (refine VL.nil ?_) | (refine VC.seqS rfl ?_) | (refine VC.region ?_) | (refine VC.draw ?_) | (refine VC.cond ?_) | (refine VC.block ?_) | (refine VC.exit ?_) | (refine VC.ret ?_) | (refine VC.skip ?_) | (refine VC.label ?_) | (refine VC.scope ?_) | (refine VQ.cons ?_) | (refine VQ.nil ?_) | (refine VG.nil ?_) | (refine VG.cons ?_) | (refine VH.nil ?_) | (refine VH.cons ?_)); (conv => whnf))))
  ((repeat ((first | (refine VL.cons ?_) | (refine VL.nil ?_) | (refine VC.seqS rfl ?_) | (refine VC.region ?_) | (refine VC.draw ?_) | (refine VC.cond ?_) | (refine VC.block ?_) | (refine VC.exit ?_) | (refine VC.ret ?_) | (refine VC.skip ?_) | (refine VC.label ?_) | (refine VC.scope ?_) | (refine VQ.cons ?_) | (refine VQ.nil ?_) | (refine VG.nil ?_) | (refine VG.cons ?_) | (refine VH.nil ?_) | (refine VH.cons ?_) | (refine VP.done ?_) | (refine VP.one ?_) | (refine VP.two ?_) | (refine VE.cons ?_) | (refine VE.nil ?_) | (refine VBool.t ?_) | (refine VBool.f ?_) | (refine VBool.dT (by omega) ?_) | (refine VBool.dF (by omega) ?_) | (refine VBool.nT (by omega) ?_) | (refine VBool.nF (by omega) ?_) | (refine VRead.lenS ?_) | (refine VRead.lenT ?_) | (refine VRead.fld ?_) | (refine VRead.load1 (by assumption) ?_) | (refine VRead.load (by assumption) ?_) | (refine VRead.neB ?_) | (refine VRead.eqPN ?_) | (refine VRead.nePN ?_) | (refine VRead.eqB ?_) | (refine VBool.nT rfl ?_) | (refine VBool.dT rfl ?_) | (refine VWrap.i64 (by omega) (by omega) ?_) | (refine VWrap.u64 (by omega) (by omega) ?_) | (refine VRead.at1 (by omega) ?_) | (refine VRead.eqNN ?_) | (refine VSem.convI ?_) | (refine VRead.convI ?_) | (refine VRead.rem (by omega) (by decide) ?_) | (refine VRead.neg ?_) | (refine VC.seq ?_)); (conv => whnf))))
  refine VCall.of (bytes_any A1 n1 c1 _ a W2 (by omega) (hr1.below hB02)) ?_
  rintro e W3 ⟨Aa, cca, rfl, hOa, hB3⟩
  refine ⟨_, rfl, ?_⟩
  have hB03 := hB02.trans (hB3.mono hB02.size)
  ((conv => whnf); (repeat ((first | (refine VL.cons ?_) | (refine VL.nil ?_) | (refine VC.seqS rfl ?_) | (refine VC.region ?_) | (refine VC.draw ?_) | (refine VC.cond ?_) | (refine VC.block ?_) | (refine VC.exit ?_) | (refine VC.ret ?_) | (refine VC.skip ?_) | (refine VC.label ?_) | (refine VC.scope ?_) | (refine VQ.cons ?_) | (refine VQ.nil ?_) | (refine VG.nil ?_) | (refine VG.cons ?_) | (refine VH.nil ?_) | (refine VH.cons ?_)); (conv => whnf))))
  ((repeat ((first | (refine VL.cons ?_) | (refine VL.nil ?_) | (refine VC.seqS rfl ?_) | (refine VC.region ?_) | (refine VC.draw ?_) | (refine VC.cond ?_) | (refine VC.block ?_) | (refine VC.exit ?_) | (refine VC.ret ?_) | (refine VC.skip ?_) | (refine VC.label ?_) | (refine VC.scope ?_) | (refine VQ.cons ?_) | (refine VQ.nil ?_) | (refine VG.nil ?_) | (refine VG.cons ?_) | (refine VH.nil ?_) | (refine VH.cons ?_) | (refine VP.done ?_) | (refine VP.one ?_) | (refine VP.two ?_) | (refine VE.cons ?_) | (refine VE.nil ?_) | (refine VBool.t ?_) | (refine VBool.f ?_) | (refine VBool.dT (by omega) ?_) | (refine VBool.dF (by omega) ?_) | (refine VBool.nT (by omega) ?_) | (refine VBool.nF (by omega) ?_) | (refine VRead.lenS ?_) | (refine VRead.lenT ?_) | (refine VRead.fld ?_) | (refine VRead.load1 (by assumption) ?_) | (refine VRead.load (by assumption) ?_) | (refine VRead.neB ?_) | (refine VRead.eqPN ?_) | (refine VRead.nePN ?_) | (refine VRead.eqB ?_) | (refine VBool.nT rfl ?_) | (refine VBool.dT rfl ?_) | (refine VWrap.i64 (by omega) (by omega) ?_) | (refine VWrap.u64 (by omega) (by omega) ?_) | (refine VRead.at1 (by omega) ?_) | (refine VRead.eqNN ?_) | (refine VSem.convI ?_) | (refine VRead.convI ?_) | (refine VRead.rem (by omega) (by decide) ?_) | (refine VRead.neg ?_) | (refine VC.seq ?_)); (conv => whnf))))
  refine VCall.of (snapSave_any W3 U1 d (DS.new 1048576) 4 1 n1 cca Aa a (hd2.below hB3) hOa.reads (Off.of_own hOa (Free.new hOa hd2.lt)) hOa.cap (by omega) (by decide) (by decide) (by decide)) ?_
  rw [show (4 : Int) = ((4 : Nat) : Int) from rfl, hsv1]
  rintro e W4 ⟨rfl, U4, hd4, st4⟩
  refine ⟨_, rfl, ?_⟩
  have hU4 := st4.min hU1 hB03.size
  have hB04 := hB03.trans (st4.below hU1 hB03.size)
  obtain ⟨he4, hdis4⟩ := (he2.below hB3).apart st4 hdis2
  simp only at hd4
  ((conv => whnf); (repeat ((first | (refine VL.cons ?_) | (refine VL.nil ?_) | (refine VC.seqS rfl ?_) | (refine VC.region ?_) | (refine VC.draw ?_) | (refine VC.cond ?_) | (refine VC.block ?_) | (refine VC.exit ?_) | (refine VC.ret ?_) | (refine VC.skip ?_) | (refine VC.label ?_) | (refine VC.scope ?_) | (refine VQ.cons ?_) | (refine VQ.nil ?_) | (refine VG.nil ?_) | (refine VG.cons ?_) | (refine VH.nil ?_) | (refine VH.cons ?_)); (conv => whnf))))
  ((repeat ((first | (refine VL.cons ?_) | (refine VL.nil ?_) | (refine VC.seqS rfl ?_) | (refine VC.region ?_) | (refine VC.draw ?_) | (refine VC.cond ?_) | (refine VC.block ?_) | (refine VC.exit ?_) | (refine VC.ret ?_) | (refine VC.skip ?_) | (refine VC.label ?_) | (refine VC.scope ?_) | (refine VQ.cons ?_) | (refine VQ.nil ?_) | (refine VG.nil ?_) | (refine VG.cons ?_) | (refine VH.nil ?_) | (refine VH.cons ?_) | (refine VP.done ?_) | (refine VP.one ?_) | (refine VP.two ?_) | (refine VE.cons ?_) | (refine VE.nil ?_) | (refine VBool.t ?_) | (refine VBool.f ?_) | (refine VBool.dT (by omega) ?_) | (refine VBool.dF (by omega) ?_) | (refine VBool.nT (by omega) ?_) | (refine VBool.nF (by omega) ?_) | (refine VRead.lenS ?_) | (refine VRead.lenT ?_) | (refine VRead.fld ?_) | (refine VRead.load1 (by assumption) ?_) | (refine VRead.load (by assumption) ?_) | (refine VRead.neB ?_) | (refine VRead.eqPN ?_) | (refine VRead.nePN ?_) | (refine VRead.eqB ?_) | (refine VBool.nT rfl ?_) | (refine VBool.dT rfl ?_) | (refine VWrap.i64 (by omega) (by omega) ?_) | (refine VWrap.u64 (by omega) (by omega) ?_) | (refine VRead.at1 (by omega) ?_) | (refine VRead.eqNN ?_) | (refine VSem.convI ?_) | (refine VRead.convI ?_) | (refine VRead.rem (by omega) (by decide) ?_) | (refine VRead.neg ?_) | (refine VC.seq ?_)); (conv => whnf))))
  refine VCall.of (bytes_any A2 n2 c2 _ b W4 (by omega) (hr2.below hB04)) ?_
  rintro e W5 ⟨Ab, ccb, rfl, hOb, hB5⟩
  refine ⟨_, rfl, ?_⟩
  have hB05 := hB04.trans (hB5.mono hB04.size)
  have hVm : ∀ j, V2 j → W.heap.size ≤ j := fun j h => by have := hV2 j h; have := hB1.size; omega
  ((conv => whnf); (repeat ((first | (refine VL.cons ?_) | (refine VL.nil ?_) | (refine VC.seqS rfl ?_) | (refine VC.region ?_) | (refine VC.draw ?_) | (refine VC.cond ?_) | (refine VC.block ?_) | (refine VC.exit ?_) | (refine VC.ret ?_) | (refine VC.skip ?_) | (refine VC.label ?_) | (refine VC.scope ?_) | (refine VQ.cons ?_) | (refine VQ.nil ?_) | (refine VG.nil ?_) | (refine VG.cons ?_) | (refine VH.nil ?_) | (refine VH.cons ?_)); (conv => whnf))))
  ((repeat ((first | (refine VL.cons ?_) | (refine VL.nil ?_) | (refine VC.seqS rfl ?_) | (refine VC.region ?_) | (refine VC.draw ?_) | (refine VC.cond ?_) | (refine VC.block ?_) | (refine VC.exit ?_) | (refine VC.ret ?_) | (refine VC.skip ?_) | (refine VC.label ?_) | (refine VC.scope ?_) | (refine VQ.cons ?_) | (refine VQ.nil ?_) | (refine VG.nil ?_) | (refine VG.cons ?_) | (refine VH.nil ?_) | (refine VH.cons ?_) | (refine VP.done ?_) | (refine VP.one ?_) | (refine VP.two ?_) | (refine VE.cons ?_) | (refine VE.nil ?_) | (refine VBool.t ?_) | (refine VBool.f ?_) | (refine VBool.dT (by omega) ?_) | (refine VBool.dF (by omega) ?_) | (refine VBool.nT (by omega) ?_) | (refine VBool.nF (by omega) ?_) | (refine VRead.lenS ?_) | (refine VRead.lenT ?_) | (refine VRead.fld ?_) | (refine VRead.load1 (by assumption) ?_) | (refine VRead.load (by assumption) ?_) | (refine VRead.neB ?_) | (refine VRead.eqPN ?_) | (refine VRead.nePN ?_) | (refine VRead.eqB ?_) | (refine VBool.nT rfl ?_) | (refine VBool.dT rfl ?_) | (refine VWrap.i64 (by omega) (by omega) ?_) | (refine VWrap.u64 (by omega) (by omega) ?_) | (refine VRead.at1 (by omega) ?_) | (refine VRead.eqNN ?_) | (refine VSem.convI ?_) | (refine VRead.convI ?_) | (refine VRead.rem (by omega) (by decide) ?_) | (refine VRead.neg ?_) | (refine VC.seq ?_)); (conv => whnf))))
  refine VCall.of (snapSave_any W5 V2 e2 (DS.new 1048576) 9 2 n2 ccb Ab b (he4.below hB5) hOb.reads (Off.of_own hOb (Free.new hOb he4.lt)) hOb.cap (by omega) (by decide) (by decide) (by decide)) ?_
  rw [show (9 : Int) = ((9 : Nat) : Int) from rfl, hsv2]
  rintro e W6 ⟨rfl, V6, he6, st6⟩
  refine ⟨_, rfl, ?_⟩
  have hB06 := hB05.trans (st6.below hVm hB05.size)
  obtain ⟨hd6, _⟩ := (hd4.below hB5).apart st6 (fun j h1 h2 => hdis4 j h2 h1)
  simp only at he6
  ((conv => whnf); (repeat ((first | (refine VL.cons ?_) | (refine VL.nil ?_) | (refine VC.seqS rfl ?_) | (refine VC.region ?_) | (refine VC.draw ?_) | (refine VC.cond ?_) | (refine VC.block ?_) | (refine VC.exit ?_) | (refine VC.ret ?_) | (refine VC.skip ?_) | (refine VC.label ?_) | (refine VC.scope ?_) | (refine VQ.cons ?_) | (refine VQ.nil ?_) | (refine VG.nil ?_) | (refine VG.cons ?_) | (refine VH.nil ?_) | (refine VH.cons ?_)); (conv => whnf))))
  ((repeat ((first | (refine VL.cons ?_) | (refine VL.nil ?_) | (refine VC.seqS rfl ?_) | (refine VC.region ?_) | (refine VC.draw ?_) | (refine VC.cond ?_) | (refine VC.block ?_) | (refine VC.exit ?_) | (refine VC.ret ?_) | (refine VC.skip ?_) | (refine VC.label ?_) | (refine VC.scope ?_) | (refine VQ.cons ?_) | (refine VQ.nil ?_) | (refine VG.nil ?_) | (refine VG.cons ?_) | (refine VH.nil ?_) | (refine VH.cons ?_) | (refine VP.done ?_) | (refine VP.one ?_) | (refine VP.two ?_) | (refine VE.cons ?_) | (refine VE.nil ?_) | (refine VBool.t ?_) | (refine VBool.f ?_) | (refine VBool.dT (by omega) ?_) | (refine VBool.dF (by omega) ?_) | (refine VBool.nT (by omega) ?_) | (refine VBool.nF (by omega) ?_) | (refine VRead.lenS ?_) | (refine VRead.lenT ?_) | (refine VRead.fld ?_) | (refine VRead.load1 (by assumption) ?_) | (refine VRead.load (by assumption) ?_) | (refine VRead.neB ?_) | (refine VRead.eqPN ?_) | (refine VRead.nePN ?_) | (refine VRead.eqB ?_) | (refine VBool.nT rfl ?_) | (refine VBool.dT rfl ?_) | (refine VWrap.i64 (by omega) (by omega) ?_) | (refine VWrap.u64 (by omega) (by omega) ?_) | (refine VRead.at1 (by omega) ?_) | (refine VRead.eqNN ?_) | (refine VSem.convI ?_) | (refine VRead.convI ?_) | (refine VRead.rem (by omega) (by decide) ?_) | (refine VRead.neg ?_) | (refine VC.seq ?_)); (conv => whnf))))
  refine VCall.of (snapName_any ((9 : Nat) : Int) W6 (by decide)) ?_
  rintro e W7 ⟨rfl, hB7⟩
  refine ⟨_, rfl, ?_⟩
  have hB07 := hB06.trans (hB7.mono hB06.size)
  ((conv => whnf); (repeat ((first | (refine VL.cons ?_) | (refine VL.nil ?_) | (refine VC.seqS rfl ?_) | (refine VC.region ?_) | (refine VC.draw ?_) | (refine VC.cond ?_) | (refine VC.block ?_) | (refine VC.exit ?_) | (refine VC.ret ?_) | (refine VC.skip ?_) | (refine VC.label ?_) | (refine VC.scope ?_) | (refine VQ.cons ?_) | (refine VQ.nil ?_) | (refine VG.nil ?_) | (refine VG.cons ?_) | (refine VH.nil ?_) | (refine VH.cons ?_)); (conv => whnf))))
  ((repeat ((first | (refine VL.cons ?_) | (refine VL.nil ?_) | (refine VC.seqS rfl ?_) | (refine VC.region ?_) | (refine VC.draw ?_) | (refine VC.cond ?_) | (refine VC.block ?_) | (refine VC.exit ?_) | (refine VC.ret ?_) | (refine VC.skip ?_) | (refine VC.label ?_) | (refine VC.scope ?_) | (refine VQ.cons ?_) | (refine VQ.nil ?_) | (refine VG.nil ?_) | (refine VG.cons ?_) | (refine VH.nil ?_) | (refine VH.cons ?_) | (refine VP.done ?_) | (refine VP.one ?_) | (refine VP.two ?_) | (refine VE.cons ?_) | (refine VE.nil ?_) | (refine VBool.t ?_) | (refine VBool.f ?_) | (refine VBool.dT (by omega) ?_) | (refine VBool.dF (by omega) ?_) | (refine VBool.nT (by omega) ?_) | (refine VBool.nF (by omega) ?_) | (refine VRead.lenS ?_) | (refine VRead.lenT ?_) | (refine VRead.fld ?_) | (refine VRead.load1 (by assumption) ?_) | (refine VRead.load (by assumption) ?_) | (refine VRead.neB ?_) | (refine VRead.eqPN ?_) | (refine VRead.nePN ?_) | (refine VRead.eqB ?_) | (refine VBool.nT rfl ?_) | (refine VBool.dT rfl ?_) | (refine VWrap.i64 (by omega) (by omega) ?_) | (refine VWrap.u64 (by omega) (by omega) ?_) | (refine VRead.at1 (by omega) ?_) | (refine VRead.eqNN ?_) | (refine VSem.convI ?_) | (refine VRead.convI ?_) | (refine VRead.rem (by omega) (by decide) ?_) | (refine VRead.neg ?_) | (refine VC.seq ?_)); (conv => whnf))))
  refine VCall.of (oRead W7 V6 e2 _ (snName ((9 : Nat) : Int)) (he6.below hB7) (by rw [snName_len (by decide) (by decide)]; decide)) ?_
  rintro e W8 ⟨v8, rfl, hrd, hB8⟩
  refine ⟨_, rfl, ?_⟩
  unfold readR at hrd
  rw [show tfind [(snName ((9 : Nat) : Int), fullF (fileB ((9 : Nat) : Int) 2 b))] (snName ((9 : Nat) : Int)) = some (fullF (fileB ((9 : Nat) : Int) 2 b)) from by unfold tfind; rw [if_pos rfl]] at hrd
  obtain ⟨Ax, cx, rfl, hOx⟩ := hrd
  have hB08 := hB07.trans (hB8.mono hB07.size)
  have hd8 := (hd6.below hB7).below hB8
  have hBx : ∀ j, U4 j → j < W7.heap.size := (hd6.below hB7).lt
  obtain ⟨X, hX⟩ : ∃ X, fileB ((9 : Nat) : Int) 2 b = X := ⟨_, rfl⟩
  have hcutlaw : ∀ k, k < X.length → saysS (X.take k) ((9 : Nat) : Int) = none := fun k hk => by rw [← hX] at hk ⊢; exact says_cut hok2 hk
  have hturnlaw : ∀ (o : Nat) (x y : UInt8), o < (n2 - 1) % 1000 + 1 → X[X.length - 1 - o]? = some x → y ≠ 0 → saysS (X.set (X.length - 1 - o) (x ^^^ y)) ((9 : Nat) : Int) = none := fun o x y h1 h2 h3 => by
    rw [← hX] at h2 ⊢
    exact says_turned hok2 (by omega) h2 h3
  rw [hX] at hfl2 hbig
  have hOx' : Own W8 W7.heap.size (.slice Ax X.length cx) X.length X := by rw [← hX]; exact hOx
  clear hOx
  have hcapx := hOx'.cap
  have hxl : (fullF (fileB ((9 : Nat) : Int) 2 b)).b.length = X.length := by rw [← hX]; rfl
  rw [hxl]
  have q0 := Int.emod_nonneg at_ (show (X.length : Int) ≠ 0 by omega)
  have q1 := Int.emod_lt_of_pos at_ (show (0 : Int) < X.length by omega)
  have hT4low : ∀ p ∈ ([(snName ((4 : Nat) : Int), fullF (fileB ((4 : Nat) : Int) 1 a))] : PT), p.1 < snName ((9 : Nat) : Int) := fun p hp => by
    simp at hp
    subst hp
    exact sn_lt (n := 4) (m := 9) (by decide) (by decide) (by decide)
  have hus4 : used [(snName ((4 : Nat) : Int), fullF (fileB ((4 : Nat) : Int) 1 a))] = (fileB ((4 : Nat) : Int) 1 a).length := by simp [used, fullF]
  ((conv => whnf); (repeat ((first | (refine VL.cons ?_) | (refine VL.nil ?_) | (refine VC.seqS rfl ?_) | (refine VC.region ?_) | (refine VC.draw ?_) | (refine VC.cond ?_) | (refine VC.block ?_) | (refine VC.exit ?_) | (refine VC.ret ?_) | (refine VC.skip ?_) | (refine VC.label ?_) | (refine VC.scope ?_) | (refine VQ.cons ?_) | (refine VQ.nil ?_) | (refine VG.nil ?_) | (refine VG.cons ?_) | (refine VH.nil ?_) | (refine VH.cons ?_)); (conv => whnf))))
  ((repeat ((first | (refine VL.cons ?_) | (refine VL.nil ?_) | (refine VC.seqS rfl ?_) | (refine VC.region ?_) | (refine VC.draw ?_) | (refine VC.cond ?_) | (refine VC.block ?_) | (refine VC.exit ?_) | (refine VC.ret ?_) | (refine VC.skip ?_) | (refine VC.label ?_) | (refine VC.scope ?_) | (refine VQ.cons ?_) | (refine VQ.nil ?_) | (refine VG.nil ?_) | (refine VG.cons ?_) | (refine VH.nil ?_) | (refine VH.cons ?_) | (refine VP.done ?_) | (refine VP.one ?_) | (refine VP.two ?_) | (refine VE.cons ?_) | (refine VE.nil ?_) | (refine VBool.t ?_) | (refine VBool.f ?_) | (refine VBool.dT (by omega) ?_) | (refine VBool.dF (by omega) ?_) | (refine VBool.nT (by omega) ?_) | (refine VBool.nF (by omega) ?_) | (refine VRead.lenS ?_) | (refine VRead.lenT ?_) | (refine VRead.fld ?_) | (refine VRead.load1 (by assumption) ?_) | (refine VRead.load (by assumption) ?_) | (refine VRead.neB ?_) | (refine VRead.eqPN ?_) | (refine VRead.nePN ?_) | (refine VRead.eqB ?_) | (refine VBool.nT rfl ?_) | (refine VBool.dT rfl ?_) | (refine VWrap.i64 (by omega) (by omega) ?_) | (refine VWrap.u64 (by omega) (by omega) ?_) | (refine VRead.at1 (by omega) ?_) | (refine VRead.eqNN ?_) | (refine VSem.convI ?_) | (refine VRead.convI ?_) | (refine VRead.rem (by omega) (by decide) ?_) | (refine VRead.neg ?_) | (refine VC.seq ?_)); (conv => whnf))))
  refine VCall.of (place_any at_ (X.length : Int) W8 hat (by omega) (by omega)) ?_
  rintro e W9 ⟨rfl, eW⟩
  obtain rfl := eW.symm
  refine ⟨_, rfl, ?_⟩
  cases cut with
  | true =>
    obtain ⟨k, hk⟩ : ∃ k : Nat, at_ % (X.length : Int) = (k : Int) := ⟨(at_ % (X.length : Int)).toNat, by omega⟩
    rw [hk] at q1 ⊢
    obtain ⟨hcr, happ⟩ := set_state (c' := ca) hT4low (by simp) (x := X.take k) (by rw [hus4, List.length_take]; omega)
    ((conv => whnf); (repeat ((first | (refine VL.cons ?_) | (refine VL.nil ?_) | (refine VC.seqS rfl ?_) | (refine VC.region ?_) | (refine VC.draw ?_) | (refine VC.cond ?_) | (refine VC.block ?_) | (refine VC.exit ?_) | (refine VC.ret ?_) | (refine VC.skip ?_) | (refine VC.label ?_) | (refine VC.scope ?_) | (refine VQ.cons ?_) | (refine VQ.nil ?_) | (refine VG.nil ?_) | (refine VG.cons ?_) | (refine VH.nil ?_) | (refine VH.cons ?_)); (conv => whnf))))
    ((repeat ((first | (refine VL.cons ?_) | (refine VL.nil ?_) | (refine VC.seqS rfl ?_) | (refine VC.region ?_) | (refine VC.draw ?_) | (refine VC.cond ?_) | (refine VC.block ?_) | (refine VC.exit ?_) | (refine VC.ret ?_) | (refine VC.skip ?_) | (refine VC.label ?_) | (refine VC.scope ?_) | (refine VQ.cons ?_) | (refine VQ.nil ?_) | (refine VG.nil ?_) | (refine VG.cons ?_) | (refine VH.nil ?_) | (refine VH.cons ?_) | (refine VP.done ?_) | (refine VP.one ?_) | (refine VP.two ?_) | (refine VE.cons ?_) | (refine VE.nil ?_) | (refine VBool.t ?_) | (refine VBool.f ?_) | (refine VBool.dT (by omega) ?_) | (refine VBool.dF (by omega) ?_) | (refine VBool.nT (by omega) ?_) | (refine VBool.nF (by omega) ?_) | (refine VRead.lenS ?_) | (refine VRead.lenT ?_) | (refine VRead.fld ?_) | (refine VRead.load1 (by assumption) ?_) | (refine VRead.load (by assumption) ?_) | (refine VRead.neB ?_) | (refine VRead.eqPN ?_) | (refine VRead.nePN ?_) | (refine VRead.eqB ?_) | (refine VBool.nT rfl ?_) | (refine VBool.dT rfl ?_) | (refine VWrap.i64 (by omega) (by omega) ?_) | (refine VWrap.u64 (by omega) (by omega) ?_) | (refine VRead.at1 (by omega) ?_) | (refine VRead.eqNN ?_) | (refine VSem.convI ?_) | (refine VRead.convI ?_) | (refine VRead.rem (by omega) (by decide) ?_) | (refine VRead.neg ?_) | (refine VC.seq ?_)); (conv => whnf))))
    refine VRead.cutH (by omega) (by have := hOx'.cap; omega) ?_
    rw [Int.toNat_natCast]
    ((conv => whnf); (repeat ((first | (refine VL.cons ?_) | (refine VL.nil ?_) | (refine VC.seqS rfl ?_) | (refine VC.region ?_) | (refine VC.draw ?_) | (refine VC.cond ?_) | (refine VC.block ?_) | (refine VC.exit ?_) | (refine VC.ret ?_) | (refine VC.skip ?_) | (refine VC.label ?_) | (refine VC.scope ?_) | (refine VQ.cons ?_) | (refine VQ.nil ?_) | (refine VG.nil ?_) | (refine VG.cons ?_) | (refine VH.nil ?_) | (refine VH.cons ?_)); (conv => whnf))))
    ((repeat ((first | (refine VL.cons ?_) | (refine VL.nil ?_) | (refine VC.seqS rfl ?_) | (refine VC.region ?_) | (refine VC.draw ?_) | (refine VC.cond ?_) | (refine VC.block ?_) | (refine VC.exit ?_) | (refine VC.ret ?_) | (refine VC.skip ?_) | (refine VC.label ?_) | (refine VC.scope ?_) | (refine VQ.cons ?_) | (refine VQ.nil ?_) | (refine VG.nil ?_) | (refine VG.cons ?_) | (refine VH.nil ?_) | (refine VH.cons ?_) | (refine VP.done ?_) | (refine VP.one ?_) | (refine VP.two ?_) | (refine VE.cons ?_) | (refine VE.nil ?_) | (refine VBool.t ?_) | (refine VBool.f ?_) | (refine VBool.dT (by omega) ?_) | (refine VBool.dF (by omega) ?_) | (refine VBool.nT (by omega) ?_) | (refine VBool.nF (by omega) ?_) | (refine VRead.lenS ?_) | (refine VRead.lenT ?_) | (refine VRead.fld ?_) | (refine VRead.load1 (by assumption) ?_) | (refine VRead.load (by assumption) ?_) | (refine VRead.neB ?_) | (refine VRead.eqPN ?_) | (refine VRead.nePN ?_) | (refine VRead.eqB ?_) | (refine VBool.nT rfl ?_) | (refine VBool.dT rfl ?_) | (refine VWrap.i64 (by omega) (by omega) ?_) | (refine VWrap.u64 (by omega) (by omega) ?_) | (refine VRead.at1 (by omega) ?_) | (refine VRead.eqNN ?_) | (refine VSem.convI ?_) | (refine VRead.convI ?_) | (refine VRead.rem (by omega) (by decide) ?_) | (refine VRead.neg ?_) | (refine VC.seq ?_)); (conv => whnf))))
    refine VCall.of (snapName_any ((9 : Nat) : Int) W8 (by decide)) ?_
    rintro e W10 ⟨rfl, hB10⟩
    refine ⟨_, rfl, ?_⟩
    have hd10 := hd8.below hB10
    have hO10 := rows_below hOx' hB10 (Nat.le_refl _)
    have hB010 := hB08.trans (hB10.mono hB08.size)
    ((conv => whnf); (repeat ((first | (refine VL.cons ?_) | (refine VL.nil ?_) | (refine VC.seqS rfl ?_) | (refine VC.region ?_) | (refine VC.draw ?_) | (refine VC.cond ?_) | (refine VC.block ?_) | (refine VC.exit ?_) | (refine VC.ret ?_) | (refine VC.skip ?_) | (refine VC.label ?_) | (refine VC.scope ?_) | (refine VQ.cons ?_) | (refine VQ.nil ?_) | (refine VG.nil ?_) | (refine VG.cons ?_) | (refine VH.nil ?_) | (refine VH.cons ?_)); (conv => whnf))))
    ((repeat ((first | (refine VL.cons ?_) | (refine VL.nil ?_) | (refine VC.seqS rfl ?_) | (refine VC.region ?_) | (refine VC.draw ?_) | (refine VC.cond ?_) | (refine VC.block ?_) | (refine VC.exit ?_) | (refine VC.ret ?_) | (refine VC.skip ?_) | (refine VC.label ?_) | (refine VC.scope ?_) | (refine VQ.cons ?_) | (refine VQ.nil ?_) | (refine VG.nil ?_) | (refine VG.cons ?_) | (refine VH.nil ?_) | (refine VH.cons ?_) | (refine VP.done ?_) | (refine VP.one ?_) | (refine VP.two ?_) | (refine VE.cons ?_) | (refine VE.nil ?_) | (refine VBool.t ?_) | (refine VBool.f ?_) | (refine VBool.dT (by omega) ?_) | (refine VBool.dF (by omega) ?_) | (refine VBool.nT (by omega) ?_) | (refine VBool.nF (by omega) ?_) | (refine VRead.lenS ?_) | (refine VRead.lenT ?_) | (refine VRead.fld ?_) | (refine VRead.load1 (by assumption) ?_) | (refine VRead.load (by assumption) ?_) | (refine VRead.neB ?_) | (refine VRead.eqPN ?_) | (refine VRead.nePN ?_) | (refine VRead.eqB ?_) | (refine VBool.nT rfl ?_) | (refine VBool.dT rfl ?_) | (refine VWrap.i64 (by omega) (by omega) ?_) | (refine VWrap.u64 (by omega) (by omega) ?_) | (refine VRead.at1 (by omega) ?_) | (refine VRead.eqNN ?_) | (refine VSem.convI ?_) | (refine VRead.convI ?_) | (refine VRead.rem (by omega) (by decide) ?_) | (refine VRead.neg ?_) | (refine VC.seq ?_)); (conv => whnf))))
    refine VCall.of (oCreate W10 U4 d _ (snName ((9 : Nat) : Int)) hd10 (by simp only [k0]; omega) (by rw [snName_len (by decide) (by decide)]; decide)) ?_
    rw [hcr]
    rintro e W11 ⟨rfl, U11, hd11, st11⟩
    refine ⟨_, rfl, ?_⟩
    obtain ⟨hO11, hf11⟩ := st11.own hO10 (Free.new hO10 hBx)
    have hU11 := st11.min hU4 hB010.size
    have hB011 := hB010.trans (st11.below hU4 hB010.size)
    simp only at hd11
    ((conv => whnf); (repeat ((first | (refine VL.cons ?_) | (refine VL.nil ?_) | (refine VC.seqS rfl ?_) | (refine VC.region ?_) | (refine VC.draw ?_) | (refine VC.cond ?_) | (refine VC.block ?_) | (refine VC.exit ?_) | (refine VC.ret ?_) | (refine VC.skip ?_) | (refine VC.label ?_) | (refine VC.scope ?_) | (refine VQ.cons ?_) | (refine VQ.nil ?_) | (refine VG.nil ?_) | (refine VG.cons ?_) | (refine VH.nil ?_) | (refine VH.cons ?_)); (conv => whnf))))
    ((repeat ((first | (refine VL.cons ?_) | (refine VL.nil ?_) | (refine VC.seqS rfl ?_) | (refine VC.region ?_) | (refine VC.draw ?_) | (refine VC.cond ?_) | (refine VC.block ?_) | (refine VC.exit ?_) | (refine VC.ret ?_) | (refine VC.skip ?_) | (refine VC.label ?_) | (refine VC.scope ?_) | (refine VQ.cons ?_) | (refine VQ.nil ?_) | (refine VG.nil ?_) | (refine VG.cons ?_) | (refine VH.nil ?_) | (refine VH.cons ?_) | (refine VP.done ?_) | (refine VP.one ?_) | (refine VP.two ?_) | (refine VE.cons ?_) | (refine VE.nil ?_) | (refine VBool.t ?_) | (refine VBool.f ?_) | (refine VBool.dT (by omega) ?_) | (refine VBool.dF (by omega) ?_) | (refine VBool.nT (by omega) ?_) | (refine VBool.nF (by omega) ?_) | (refine VRead.lenS ?_) | (refine VRead.lenT ?_) | (refine VRead.fld ?_) | (refine VRead.load1 (by assumption) ?_) | (refine VRead.load (by assumption) ?_) | (refine VRead.neB ?_) | (refine VRead.eqPN ?_) | (refine VRead.nePN ?_) | (refine VRead.eqB ?_) | (refine VBool.nT rfl ?_) | (refine VBool.dT rfl ?_) | (refine VWrap.i64 (by omega) (by omega) ?_) | (refine VWrap.u64 (by omega) (by omega) ?_) | (refine VRead.at1 (by omega) ?_) | (refine VRead.eqNN ?_) | (refine VSem.convI ?_) | (refine VRead.convI ?_) | (refine VRead.rem (by omega) (by decide) ?_) | (refine VRead.neg ?_) | (refine VC.seq ?_)); (conv => whnf))))
    refine VCall.of (snapName_any ((9 : Nat) : Int) W11 (by decide)) ?_
    rintro e W12 ⟨rfl, hB12⟩
    refine ⟨_, rfl, ?_⟩
    have hO12 := rows_below hO11 hB12 (Nat.le_refl _)
    have hB012 := hB011.trans (hB12.mono hB011.size)
    ((conv => whnf); (repeat ((first | (refine VL.cons ?_) | (refine VL.nil ?_) | (refine VC.seqS rfl ?_) | (refine VC.region ?_) | (refine VC.draw ?_) | (refine VC.cond ?_) | (refine VC.block ?_) | (refine VC.exit ?_) | (refine VC.ret ?_) | (refine VC.skip ?_) | (refine VC.label ?_) | (refine VC.scope ?_) | (refine VQ.cons ?_) | (refine VQ.nil ?_) | (refine VG.nil ?_) | (refine VG.cons ?_) | (refine VH.nil ?_) | (refine VH.cons ?_)); (conv => whnf))))
    ((repeat ((first | (refine VL.cons ?_) | (refine VL.nil ?_) | (refine VC.seqS rfl ?_) | (refine VC.region ?_) | (refine VC.draw ?_) | (refine VC.cond ?_) | (refine VC.block ?_) | (refine VC.exit ?_) | (refine VC.ret ?_) | (refine VC.skip ?_) | (refine VC.label ?_) | (refine VC.scope ?_) | (refine VQ.cons ?_) | (refine VQ.nil ?_) | (refine VG.nil ?_) | (refine VG.cons ?_) | (refine VH.nil ?_) | (refine VH.cons ?_) | (refine VP.done ?_) | (refine VP.one ?_) | (refine VP.two ?_) | (refine VE.cons ?_) | (refine VE.nil ?_) | (refine VBool.t ?_) | (refine VBool.f ?_) | (refine VBool.dT (by omega) ?_) | (refine VBool.dF (by omega) ?_) | (refine VBool.nT (by omega) ?_) | (refine VBool.nF (by omega) ?_) | (refine VRead.lenS ?_) | (refine VRead.lenT ?_) | (refine VRead.fld ?_) | (refine VRead.load1 (by assumption) ?_) | (refine VRead.load (by assumption) ?_) | (refine VRead.neB ?_) | (refine VRead.eqPN ?_) | (refine VRead.nePN ?_) | (refine VRead.eqB ?_) | (refine VBool.nT rfl ?_) | (refine VBool.dT rfl ?_) | (refine VWrap.i64 (by omega) (by omega) ?_) | (refine VWrap.u64 (by omega) (by omega) ?_) | (refine VRead.at1 (by omega) ?_) | (refine VRead.eqNN ?_) | (refine VSem.convI ?_) | (refine VRead.convI ?_) | (refine VRead.rem (by omega) (by decide) ?_) | (refine VRead.neg ?_) | (refine VC.seq ?_)); (conv => whnf))))
    refine VCall.of (oAppend W12 U11 d _ (snName ((9 : Nat) : Int)) k cx Ax (X.take k) (hd11.below hB12) (by simp only [k0]; omega) (by rw [snName_len (by decide) (by decide)]; decide) (Own.cutSrc hO12 (by omega)) (by omega) (by omega)) ?_
    rw [happ]
    rintro e W13 ⟨rfl, U13, hd13, st13⟩
    refine ⟨_, rfl, ?_⟩
    have hB013 := hB012.trans (st13.below hU11 hB012.size)
    simp only at hd13
    ((conv => whnf); (repeat ((first | (refine VL.cons ?_) | (refine VL.nil ?_) | (refine VC.seqS rfl ?_) | (refine VC.region ?_) | (refine VC.draw ?_) | (refine VC.cond ?_) | (refine VC.block ?_) | (refine VC.exit ?_) | (refine VC.ret ?_) | (refine VC.skip ?_) | (refine VC.label ?_) | (refine VC.scope ?_) | (refine VQ.cons ?_) | (refine VQ.nil ?_) | (refine VG.nil ?_) | (refine VG.cons ?_) | (refine VH.nil ?_) | (refine VH.cons ?_)); (conv => whnf))))
    ((repeat ((first | (refine VL.cons ?_) | (refine VL.nil ?_) | (refine VC.seqS rfl ?_) | (refine VC.region ?_) | (refine VC.draw ?_) | (refine VC.cond ?_) | (refine VC.block ?_) | (refine VC.exit ?_) | (refine VC.ret ?_) | (refine VC.skip ?_) | (refine VC.label ?_) | (refine VC.scope ?_) | (refine VQ.cons ?_) | (refine VQ.nil ?_) | (refine VG.nil ?_) | (refine VG.cons ?_) | (refine VH.nil ?_) | (refine VH.cons ?_) | (refine VP.done ?_) | (refine VP.one ?_) | (refine VP.two ?_) | (refine VE.cons ?_) | (refine VE.nil ?_) | (refine VBool.t ?_) | (refine VBool.f ?_) | (refine VBool.dT (by omega) ?_) | (refine VBool.dF (by omega) ?_) | (refine VBool.nT (by omega) ?_) | (refine VBool.nF (by omega) ?_) | (refine VRead.lenS ?_) | (refine VRead.lenT ?_) | (refine VRead.fld ?_) | (refine VRead.load1 (by assumption) ?_) | (refine VRead.load (by assumption) ?_) | (refine VRead.neB ?_) | (refine VRead.eqPN ?_) | (refine VRead.nePN ?_) | (refine VRead.eqB ?_) | (refine VBool.nT rfl ?_) | (refine VBool.dT rfl ?_) | (refine VWrap.i64 (by omega) (by omega) ?_) | (refine VWrap.u64 (by omega) (by omega) ?_) | (refine VRead.at1 (by omega) ?_) | (refine VRead.eqNN ?_) | (refine VSem.convI ?_) | (refine VRead.convI ?_) | (refine VRead.rem (by omega) (by decide) ?_) | (refine VRead.neg ?_) | (refine VC.seq ?_)); (conv => whnf))))
    refine VCall.of (snapNewest_any W13 U13 d _ hd13) ?_
    simp only
    rw [show ([(snName ((4 : Nat) : Int), fullF (fileB ((4 : Nat) : Int) 1 a))] ++ [(snName ((9 : Nat) : Int), (⟨X.take k, 0⟩ : Fl))] : PT) = [(snName ((4 : Nat) : Int), fullF (fileB ((4 : Nat) : Int) 1 a)), (snName ((9 : Nat) : Int), ⟨X.take k, 0⟩)] from rfl,
      newest_bad hok1 (by decide) (by decide) (hcutlaw k (by omega))]
    rintro e W14 ⟨⟨i4, t4, v4, rfl, hV⟩, hB14⟩
    refine ⟨_, rfl, ?_⟩
    obtain ⟨rfl, _, _, rfl, Av, cv, rfl, hOv⟩ := hV
    simp only at hOv ⊢
    have hB014 := hB013.trans (hB14.mono hB013.size)
    have hra := hr1.below hB014
    ((conv => whnf); (repeat ((first | (refine VL.cons ?_) | (refine VL.nil ?_) | (refine VC.seqS rfl ?_) | (refine VC.region ?_) | (refine VC.draw ?_) | (refine VC.cond ?_) | (refine VC.block ?_) | (refine VC.exit ?_) | (refine VC.ret ?_) | (refine VC.skip ?_) | (refine VC.label ?_) | (refine VC.scope ?_) | (refine VQ.cons ?_) | (refine VQ.nil ?_) | (refine VG.nil ?_) | (refine VG.cons ?_) | (refine VH.nil ?_) | (refine VH.cons ?_)); (conv => whnf))))
    (repeat (first | ((first | (refine VL.cons ?_) | (refine VL.nil ?_) | (refine VC.seqS rfl ?_) | (refine VC.region ?_) | (refine VC.draw ?_) | (refine VC.cond ?_) | (refine VC.block ?_) | (refine VC.exit ?_) | (refine VC.ret ?_) | (refine VC.skip ?_) | (refine VC.label ?_) | (refine VC.scope ?_) | (refine VQ.cons ?_) | (refine VQ.nil ?_) | (refine VG.nil ?_) | (refine VG.cons ?_) | (refine VH.nil ?_) | (refine VH.cons ?_) | (refine VP.done ?_) | (refine VP.one ?_) | (refine VP.two ?_) | (refine VE.cons ?_) | (refine VE.nil ?_) | (refine VBool.t ?_) | (refine VBool.f ?_) | (refine VBool.dT (by omega) ?_) | (refine VBool.dF (by omega) ?_) | (refine VBool.nT (by omega) ?_) | (refine VBool.nF (by omega) ?_) | (refine VRead.lenS ?_) | (refine VRead.lenT ?_) | (refine VRead.fld ?_) | (refine VRead.load1 (by assumption) ?_) | (refine VRead.load (by assumption) ?_) | (refine VRead.neB ?_) | (refine VRead.eqPN ?_) | (refine VRead.nePN ?_) | (refine VRead.eqB ?_) | (refine VBool.nT rfl ?_) | (refine VBool.dT rfl ?_) | (refine VWrap.i64 (by omega) (by omega) ?_) | (refine VWrap.u64 (by omega) (by omega) ?_) | (refine VRead.at1 (by omega) ?_) | (refine VRead.eqNN ?_) | (refine VSem.convI ?_) | (refine VRead.convI ?_) | (refine VRead.rem (by omega) (by decide) ?_) | (refine VRead.neg ?_) | (refine VC.seq ?_)); (conv => whnf)) | (refine VSem.convT (Own.reads hOv) ?_; (conv => whnf)) | (refine VSem.convT hra ?_; (conv => whnf))))
    refine VCall.of (awake19_any W14) ?_
    rintro e W15 ⟨rfl, hB15⟩
    refine ⟨_, rfl, ?_⟩
    ((conv => whnf); (repeat ((first | (refine VL.cons ?_) | (refine VL.nil ?_) | (refine VC.seqS rfl ?_) | (refine VC.region ?_) | (refine VC.draw ?_) | (refine VC.cond ?_) | (refine VC.block ?_) | (refine VC.exit ?_) | (refine VC.ret ?_) | (refine VC.skip ?_) | (refine VC.label ?_) | (refine VC.scope ?_) | (refine VQ.cons ?_) | (refine VQ.nil ?_) | (refine VG.nil ?_) | (refine VG.cons ?_) | (refine VH.nil ?_) | (refine VH.cons ?_)); (conv => whnf))))
    ((repeat ((first | (refine VL.cons ?_) | (refine VL.nil ?_) | (refine VC.seqS rfl ?_) | (refine VC.region ?_) | (refine VC.draw ?_) | (refine VC.cond ?_) | (refine VC.block ?_) | (refine VC.exit ?_) | (refine VC.ret ?_) | (refine VC.skip ?_) | (refine VC.label ?_) | (refine VC.scope ?_) | (refine VQ.cons ?_) | (refine VQ.nil ?_) | (refine VG.nil ?_) | (refine VG.cons ?_) | (refine VH.nil ?_) | (refine VH.cons ?_) | (refine VP.done ?_) | (refine VP.one ?_) | (refine VP.two ?_) | (refine VE.cons ?_) | (refine VE.nil ?_) | (refine VBool.t ?_) | (refine VBool.f ?_) | (refine VBool.dT (by omega) ?_) | (refine VBool.dF (by omega) ?_) | (refine VBool.nT (by omega) ?_) | (refine VBool.nF (by omega) ?_) | (refine VRead.lenS ?_) | (refine VRead.lenT ?_) | (refine VRead.fld ?_) | (refine VRead.load1 (by assumption) ?_) | (refine VRead.load (by assumption) ?_) | (refine VRead.neB ?_) | (refine VRead.eqPN ?_) | (refine VRead.nePN ?_) | (refine VRead.eqB ?_) | (refine VBool.nT rfl ?_) | (refine VBool.dT rfl ?_) | (refine VWrap.i64 (by omega) (by omega) ?_) | (refine VWrap.u64 (by omega) (by omega) ?_) | (refine VRead.at1 (by omega) ?_) | (refine VRead.eqNN ?_) | (refine VSem.convI ?_) | (refine VRead.convI ?_) | (refine VRead.rem (by omega) (by decide) ?_) | (refine VRead.neg ?_) | (refine VC.seq ?_)); (conv => whnf))))
    exact ⟨rfl, hB014.trans (hB15.mono hB014.size)⟩
  | false =>
    obtain ⟨mm, hmm⟩ : ∃ mm : Nat, mm = min n2 900 := ⟨_, rfl⟩
    have r0 := Int.emod_nonneg at_ (show (mm : Int) ≠ 0 by omega)
    have r1 := Int.emod_lt_of_pos at_ (show (0 : Int) < mm by omega)
    obtain ⟨o, ho⟩ : ∃ o : Nat, at_ % (mm : Int) = (o : Int) := ⟨(at_ % (mm : Int)).toNat, by omega⟩
    rw [ho] at r1
    ((conv => whnf); (repeat ((first | (refine VL.cons ?_) | (refine VL.nil ?_) | (refine VC.seqS rfl ?_) | (refine VC.region ?_) | (refine VC.draw ?_) | (refine VC.cond ?_) | (refine VC.block ?_) | (refine VC.exit ?_) | (refine VC.ret ?_) | (refine VC.skip ?_) | (refine VC.label ?_) | (refine VC.scope ?_) | (refine VQ.cons ?_) | (refine VQ.nil ?_) | (refine VG.nil ?_) | (refine VG.cons ?_) | (refine VH.nil ?_) | (refine VH.cons ?_)); (conv => whnf))))
    (repeat (first | ((first | (refine VL.cons ?_) | (refine VL.nil ?_) | (refine VC.seqS rfl ?_) | (refine VC.region ?_) | (refine VC.draw ?_) | (refine VC.cond ?_) | (refine VC.block ?_) | (refine VC.exit ?_) | (refine VC.ret ?_) | (refine VC.skip ?_) | (refine VC.label ?_) | (refine VC.scope ?_) | (refine VQ.cons ?_) | (refine VQ.nil ?_) | (refine VG.nil ?_) | (refine VG.cons ?_) | (refine VH.nil ?_) | (refine VH.cons ?_) | (refine VP.done ?_) | (refine VP.one ?_) | (refine VP.two ?_) | (refine VE.cons ?_) | (refine VE.nil ?_) | (refine VBool.t ?_) | (refine VBool.f ?_) | (refine VBool.dT (by omega) ?_) | (refine VBool.dF (by omega) ?_) | (refine VBool.nT (by omega) ?_) | (refine VBool.nF (by omega) ?_) | (refine VRead.lenS ?_) | (refine VRead.lenT ?_) | (refine VRead.fld ?_) | (refine VRead.load1 (by assumption) ?_) | (refine VRead.load (by assumption) ?_) | (refine VRead.neB ?_) | (refine VRead.eqPN ?_) | (refine VRead.nePN ?_) | (refine VRead.eqB ?_) | (refine VBool.nT rfl ?_) | (refine VBool.dT rfl ?_) | (refine VWrap.i64 (by omega) (by omega) ?_) | (refine VWrap.u64 (by omega) (by omega) ?_) | (refine VRead.at1 (by omega) ?_) | (refine VRead.eqNN ?_) | (refine VSem.convI ?_) | (refine VRead.convI ?_) | (refine VRead.rem (by omega) (by decide) ?_) | (refine VRead.neg ?_) | (refine VC.seq ?_)); (conv => whnf)) | (refine VRead.minZ (z := (mm : Int)) (by split <;> omega) ?_; (conv => whnf))))
    refine VCall.of (place_any at_ (mm : Int) W8 hat (by omega) (by omega)) ?_
    rintro e W9 ⟨rfl, eW⟩
    obtain rfl := eW.symm
    refine ⟨_, rfl, ?_⟩
    rw [ho]
    have hbl : n2 ≤ X.length - 10 ∨ True := .inr trivial
    have holt : o < X.length := by
      have : n2 ≤ X.length := by
        have hfb := Frame.laid_cons (hdB ((9 : Nat) : Int) 2 b.length) (chunks b)
        have : (chunks b).flatten.length ≤ (Frame.laid (chunks b)).length := by
          have : ∀ bs : List (List UInt8), bs.flatten.length ≤ (Frame.laid bs).length := fun bs => by
            induction bs with
            | nil => simp
            | cons c bs ih =>
              rw [Frame.laid_cons, List.flatten_cons, List.length_append, List.length_append]
              have := Frame.put_len c
              omega
          exact this _
        rw [chunks_flat] at this
        rw [← hX]
        unfold fileB
        rw [hfb, List.length_append]
        omega
      omega
    obtain ⟨x, hx⟩ : ∃ x, X[X.length - 1 - o]? = some x := ⟨_, List.getElem?_eq_getElem (by omega)⟩
    obtain ⟨gx, rfl, hgx⟩ : ∃ gx, Ax = some ⟨gx, 0, none⟩ ∧ W7.heap.size ≤ gx := by
      rcases hOx'.2 with ⟨e, e0⟩ | ⟨g, cap, cur, e1, hg, _⟩
      · exfalso; omega
      · injection e1 with e1
        exact ⟨g, e1, hg⟩
    obtain ⟨hcellx, _⟩ := hOx'.at_ hx
    have hcellx' : W8.cell? ((⟨gx, 0, none⟩ : Addr).add (X.length - 1 - o)) = some (.int .u8 (x.toNat : Int)) := by rw [add_lit]; exact hcellx
    have hz : ((X.length : Int) - 1 - o) = ((X.length - 1 - o : Nat) : Int) := by omega
    have hxor : bits .xor .u8 (x.toNat : Int) 1 = ((x ^^^ 1).toNat : Int) := by
      have := u8_xor_nat x.toNat 1 (by have := x.toNat_lt; omega) (by decide)
      have e2 : bits .xor .u8 (x.toNat : Int) (((1 : UInt8).toNat : Nat) : Int) = ((x ^^^ 1).toNat : Int) := by
        rw [u8_xor_nat _ _ (by have := x.toNat_lt; omega) (by decide)]
        simp
      exact e2
    ((conv => whnf); (repeat ((first | (refine VL.cons ?_) | (refine VL.nil ?_) | (refine VC.seqS rfl ?_) | (refine VC.region ?_) | (refine VC.draw ?_) | (refine VC.cond ?_) | (refine VC.block ?_) | (refine VC.exit ?_) | (refine VC.ret ?_) | (refine VC.skip ?_) | (refine VC.label ?_) | (refine VC.scope ?_) | (refine VQ.cons ?_) | (refine VQ.nil ?_) | (refine VG.nil ?_) | (refine VG.cons ?_) | (refine VH.nil ?_) | (refine VH.cons ?_)); (conv => whnf))))
    ((repeat ((first | (refine VL.cons ?_) | (refine VL.nil ?_) | (refine VC.seqS rfl ?_) | (refine VC.region ?_) | (refine VC.draw ?_) | (refine VC.cond ?_) | (refine VC.block ?_) | (refine VC.exit ?_) | (refine VC.ret ?_) | (refine VC.skip ?_) | (refine VC.label ?_) | (refine VC.scope ?_) | (refine VQ.cons ?_) | (refine VQ.nil ?_) | (refine VG.nil ?_) | (refine VG.cons ?_) | (refine VH.nil ?_) | (refine VH.cons ?_) | (refine VP.done ?_) | (refine VP.one ?_) | (refine VP.two ?_) | (refine VE.cons ?_) | (refine VE.nil ?_) | (refine VBool.t ?_) | (refine VBool.f ?_) | (refine VBool.dT (by omega) ?_) | (refine VBool.dF (by omega) ?_) | (refine VBool.nT (by omega) ?_) | (refine VBool.nF (by omega) ?_) | (refine VRead.lenS ?_) | (refine VRead.lenT ?_) | (refine VRead.fld ?_) | (refine VRead.load1 (by assumption) ?_) | (refine VRead.load (by assumption) ?_) | (refine VRead.neB ?_) | (refine VRead.eqPN ?_) | (refine VRead.nePN ?_) | (refine VRead.eqB ?_) | (refine VBool.nT rfl ?_) | (refine VBool.dT rfl ?_) | (refine VWrap.i64 (by omega) (by omega) ?_) | (refine VWrap.u64 (by omega) (by omega) ?_) | (refine VRead.at1 (by omega) ?_) | (refine VRead.eqNN ?_) | (refine VSem.convI ?_) | (refine VRead.convI ?_) | (refine VRead.rem (by omega) (by decide) ?_) | (refine VRead.neg ?_) | (refine VC.seq ?_)); (conv => whnf))))
    rw [hz]
    refine VRead.at1 (by omega) ?_
    ((conv => whnf); (repeat ((first | (refine VL.cons ?_) | (refine VL.nil ?_) | (refine VC.seqS rfl ?_) | (refine VC.region ?_) | (refine VC.draw ?_) | (refine VC.cond ?_) | (refine VC.block ?_) | (refine VC.exit ?_) | (refine VC.ret ?_) | (refine VC.skip ?_) | (refine VC.label ?_) | (refine VC.scope ?_) | (refine VQ.cons ?_) | (refine VQ.nil ?_) | (refine VG.nil ?_) | (refine VG.cons ?_) | (refine VH.nil ?_) | (refine VH.cons ?_)); (conv => whnf))))
    ((repeat ((first | (refine VL.cons ?_) | (refine VL.nil ?_) | (refine VC.seqS rfl ?_) | (refine VC.region ?_) | (refine VC.draw ?_) | (refine VC.cond ?_) | (refine VC.block ?_) | (refine VC.exit ?_) | (refine VC.ret ?_) | (refine VC.skip ?_) | (refine VC.label ?_) | (refine VC.scope ?_) | (refine VQ.cons ?_) | (refine VQ.nil ?_) | (refine VG.nil ?_) | (refine VG.cons ?_) | (refine VH.nil ?_) | (refine VH.cons ?_) | (refine VP.done ?_) | (refine VP.one ?_) | (refine VP.two ?_) | (refine VE.cons ?_) | (refine VE.nil ?_) | (refine VBool.t ?_) | (refine VBool.f ?_) | (refine VBool.dT (by omega) ?_) | (refine VBool.dF (by omega) ?_) | (refine VBool.nT (by omega) ?_) | (refine VBool.nF (by omega) ?_) | (refine VRead.lenS ?_) | (refine VRead.lenT ?_) | (refine VRead.fld ?_) | (refine VRead.load1 (by assumption) ?_) | (refine VRead.load (by assumption) ?_) | (refine VRead.neB ?_) | (refine VRead.eqPN ?_) | (refine VRead.nePN ?_) | (refine VRead.eqB ?_) | (refine VBool.nT rfl ?_) | (refine VBool.dT rfl ?_) | (refine VWrap.i64 (by omega) (by omega) ?_) | (refine VWrap.u64 (by omega) (by omega) ?_) | (refine VRead.at1 (by omega) ?_) | (refine VRead.eqNN ?_) | (refine VSem.convI ?_) | (refine VRead.convI ?_) | (refine VRead.rem (by omega) (by decide) ?_) | (refine VRead.neg ?_) | (refine VC.seq ?_)); (conv => whnf))))
    refine VRead.xor ?_
    rw [hxor]
    ((conv => whnf); (repeat ((first | (refine VL.cons ?_) | (refine VL.nil ?_) | (refine VC.seqS rfl ?_) | (refine VC.region ?_) | (refine VC.draw ?_) | (refine VC.cond ?_) | (refine VC.block ?_) | (refine VC.exit ?_) | (refine VC.ret ?_) | (refine VC.skip ?_) | (refine VC.label ?_) | (refine VC.scope ?_) | (refine VQ.cons ?_) | (refine VQ.nil ?_) | (refine VG.nil ?_) | (refine VG.cons ?_) | (refine VH.nil ?_) | (refine VH.cons ?_)); (conv => whnf))))
    ((repeat ((first | (refine VL.cons ?_) | (refine VL.nil ?_) | (refine VC.seqS rfl ?_) | (refine VC.region ?_) | (refine VC.draw ?_) | (refine VC.cond ?_) | (refine VC.block ?_) | (refine VC.exit ?_) | (refine VC.ret ?_) | (refine VC.skip ?_) | (refine VC.label ?_) | (refine VC.scope ?_) | (refine VQ.cons ?_) | (refine VQ.nil ?_) | (refine VG.nil ?_) | (refine VG.cons ?_) | (refine VH.nil ?_) | (refine VH.cons ?_) | (refine VP.done ?_) | (refine VP.one ?_) | (refine VP.two ?_) | (refine VE.cons ?_) | (refine VE.nil ?_) | (refine VBool.t ?_) | (refine VBool.f ?_) | (refine VBool.dT (by omega) ?_) | (refine VBool.dF (by omega) ?_) | (refine VBool.nT (by omega) ?_) | (refine VBool.nF (by omega) ?_) | (refine VRead.lenS ?_) | (refine VRead.lenT ?_) | (refine VRead.fld ?_) | (refine VRead.load1 (by assumption) ?_) | (refine VRead.load (by assumption) ?_) | (refine VRead.neB ?_) | (refine VRead.eqPN ?_) | (refine VRead.nePN ?_) | (refine VRead.eqB ?_) | (refine VBool.nT rfl ?_) | (refine VBool.dT rfl ?_) | (refine VWrap.i64 (by omega) (by omega) ?_) | (refine VWrap.u64 (by omega) (by omega) ?_) | (refine VRead.at1 (by omega) ?_) | (refine VRead.eqNN ?_) | (refine VSem.convI ?_) | (refine VRead.convI ?_) | (refine VRead.rem (by omega) (by decide) ?_) | (refine VRead.neg ?_) | (refine VC.seq ?_)); (conv => whnf))))
    refine VUnit.setO hOx' (j := X.length - 1 - o) rfl (by omega) (x ^^^ 1) rfl ?_
    intro W9' hO9 hg9
    have hturn : o < (n2 - 1) % 1000 + 1 → saysS (X.set (X.length - 1 - o) (x ^^^ 1)) ((9 : Nat) : Int) = none := fun h => hturnlaw o x 1 h hx (by decide)
    obtain ⟨X', hX'⟩ : ∃ X', X.set (X.length - 1 - o) (x ^^^ 1) = X' := ⟨_, rfl⟩
    have hX'l : X'.length = X.length := by rw [← hX', List.length_set]
    rw [hX'] at hO9 hturn
    have s78 := hB07.size
    have hd9 : Dsk W9' U4 d ⟨k0 1048576 ca, [(snName ((4 : Nat) : Int), fullF (fileB ((4 : Nat) : Int) 1 a))]⟩ :=
      ⟨hd8.disk.stay hg9.size (fun j hj hu => hg9.block j hj (fun e => by injection e with e; have := hBx j hu; omega)), fun j hj => Nat.lt_of_lt_of_le (hd8.lt j hj) hg9.size⟩
    have hB09 : Below W.heap.size W W9' := only_new hB08 hg9 (by omega) hB08.size
    obtain ⟨hcr, happ⟩ := set_state (c' := ca) hT4low (by simp) (x := X') (by rw [hus4, hX'l]; omega)
    ((conv => whnf); (repeat ((first | (refine VL.cons ?_) | (refine VL.nil ?_) | (refine VC.seqS rfl ?_) | (refine VC.region ?_) | (refine VC.draw ?_) | (refine VC.cond ?_) | (refine VC.block ?_) | (refine VC.exit ?_) | (refine VC.ret ?_) | (refine VC.skip ?_) | (refine VC.label ?_) | (refine VC.scope ?_) | (refine VQ.cons ?_) | (refine VQ.nil ?_) | (refine VG.nil ?_) | (refine VG.cons ?_) | (refine VH.nil ?_) | (refine VH.cons ?_)); (conv => whnf))))
    ((repeat ((first | (refine VL.cons ?_) | (refine VL.nil ?_) | (refine VC.seqS rfl ?_) | (refine VC.region ?_) | (refine VC.draw ?_) | (refine VC.cond ?_) | (refine VC.block ?_) | (refine VC.exit ?_) | (refine VC.ret ?_) | (refine VC.skip ?_) | (refine VC.label ?_) | (refine VC.scope ?_) | (refine VQ.cons ?_) | (refine VQ.nil ?_) | (refine VG.nil ?_) | (refine VG.cons ?_) | (refine VH.nil ?_) | (refine VH.cons ?_) | (refine VP.done ?_) | (refine VP.one ?_) | (refine VP.two ?_) | (refine VE.cons ?_) | (refine VE.nil ?_) | (refine VBool.t ?_) | (refine VBool.f ?_) | (refine VBool.dT (by omega) ?_) | (refine VBool.dF (by omega) ?_) | (refine VBool.nT (by omega) ?_) | (refine VBool.nF (by omega) ?_) | (refine VRead.lenS ?_) | (refine VRead.lenT ?_) | (refine VRead.fld ?_) | (refine VRead.load1 (by assumption) ?_) | (refine VRead.load (by assumption) ?_) | (refine VRead.neB ?_) | (refine VRead.eqPN ?_) | (refine VRead.nePN ?_) | (refine VRead.eqB ?_) | (refine VBool.nT rfl ?_) | (refine VBool.dT rfl ?_) | (refine VWrap.i64 (by omega) (by omega) ?_) | (refine VWrap.u64 (by omega) (by omega) ?_) | (refine VRead.at1 (by omega) ?_) | (refine VRead.eqNN ?_) | (refine VSem.convI ?_) | (refine VRead.convI ?_) | (refine VRead.rem (by omega) (by decide) ?_) | (refine VRead.neg ?_) | (refine VC.seq ?_)); (conv => whnf))))
    refine VCall.of (snapName_any ((9 : Nat) : Int) W9' (by decide)) ?_
    rintro e W10 ⟨rfl, hB10⟩
    refine ⟨_, rfl, ?_⟩
    have hd10 := hd9.below hB10
    have hO10 := rows_below hO9 hB10 (Nat.le_refl _)
    have hB010 := hB09.trans (hB10.mono hB09.size)
    ((conv => whnf); (repeat ((first | (refine VL.cons ?_) | (refine VL.nil ?_) | (refine VC.seqS rfl ?_) | (refine VC.region ?_) | (refine VC.draw ?_) | (refine VC.cond ?_) | (refine VC.block ?_) | (refine VC.exit ?_) | (refine VC.ret ?_) | (refine VC.skip ?_) | (refine VC.label ?_) | (refine VC.scope ?_) | (refine VQ.cons ?_) | (refine VQ.nil ?_) | (refine VG.nil ?_) | (refine VG.cons ?_) | (refine VH.nil ?_) | (refine VH.cons ?_)); (conv => whnf))))
    ((repeat ((first | (refine VL.cons ?_) | (refine VL.nil ?_) | (refine VC.seqS rfl ?_) | (refine VC.region ?_) | (refine VC.draw ?_) | (refine VC.cond ?_) | (refine VC.block ?_) | (refine VC.exit ?_) | (refine VC.ret ?_) | (refine VC.skip ?_) | (refine VC.label ?_) | (refine VC.scope ?_) | (refine VQ.cons ?_) | (refine VQ.nil ?_) | (refine VG.nil ?_) | (refine VG.cons ?_) | (refine VH.nil ?_) | (refine VH.cons ?_) | (refine VP.done ?_) | (refine VP.one ?_) | (refine VP.two ?_) | (refine VE.cons ?_) | (refine VE.nil ?_) | (refine VBool.t ?_) | (refine VBool.f ?_) | (refine VBool.dT (by omega) ?_) | (refine VBool.dF (by omega) ?_) | (refine VBool.nT (by omega) ?_) | (refine VBool.nF (by omega) ?_) | (refine VRead.lenS ?_) | (refine VRead.lenT ?_) | (refine VRead.fld ?_) | (refine VRead.load1 (by assumption) ?_) | (refine VRead.load (by assumption) ?_) | (refine VRead.neB ?_) | (refine VRead.eqPN ?_) | (refine VRead.nePN ?_) | (refine VRead.eqB ?_) | (refine VBool.nT rfl ?_) | (refine VBool.dT rfl ?_) | (refine VWrap.i64 (by omega) (by omega) ?_) | (refine VWrap.u64 (by omega) (by omega) ?_) | (refine VRead.at1 (by omega) ?_) | (refine VRead.eqNN ?_) | (refine VSem.convI ?_) | (refine VRead.convI ?_) | (refine VRead.rem (by omega) (by decide) ?_) | (refine VRead.neg ?_) | (refine VC.seq ?_)); (conv => whnf))))
    refine VCall.of (oCreate W10 U4 d _ (snName ((9 : Nat) : Int)) hd10 (by simp only [k0]; omega) (by rw [snName_len (by decide) (by decide)]; decide)) ?_
    rw [hcr]
    rintro e W11 ⟨rfl, U11, hd11, st11⟩
    refine ⟨_, rfl, ?_⟩
    obtain ⟨hO11, hf11⟩ := st11.own hO10 (Free.new hO10 hBx)
    have hU11 := st11.min hU4 hB010.size
    have hB011 := hB010.trans (st11.below hU4 hB010.size)
    simp only at hd11
    ((conv => whnf); (repeat ((first | (refine VL.cons ?_) | (refine VL.nil ?_) | (refine VC.seqS rfl ?_) | (refine VC.region ?_) | (refine VC.draw ?_) | (refine VC.cond ?_) | (refine VC.block ?_) | (refine VC.exit ?_) | (refine VC.ret ?_) | (refine VC.skip ?_) | (refine VC.label ?_) | (refine VC.scope ?_) | (refine VQ.cons ?_) | (refine VQ.nil ?_) | (refine VG.nil ?_) | (refine VG.cons ?_) | (refine VH.nil ?_) | (refine VH.cons ?_)); (conv => whnf))))
    ((repeat ((first | (refine VL.cons ?_) | (refine VL.nil ?_) | (refine VC.seqS rfl ?_) | (refine VC.region ?_) | (refine VC.draw ?_) | (refine VC.cond ?_) | (refine VC.block ?_) | (refine VC.exit ?_) | (refine VC.ret ?_) | (refine VC.skip ?_) | (refine VC.label ?_) | (refine VC.scope ?_) | (refine VQ.cons ?_) | (refine VQ.nil ?_) | (refine VG.nil ?_) | (refine VG.cons ?_) | (refine VH.nil ?_) | (refine VH.cons ?_) | (refine VP.done ?_) | (refine VP.one ?_) | (refine VP.two ?_) | (refine VE.cons ?_) | (refine VE.nil ?_) | (refine VBool.t ?_) | (refine VBool.f ?_) | (refine VBool.dT (by omega) ?_) | (refine VBool.dF (by omega) ?_) | (refine VBool.nT (by omega) ?_) | (refine VBool.nF (by omega) ?_) | (refine VRead.lenS ?_) | (refine VRead.lenT ?_) | (refine VRead.fld ?_) | (refine VRead.load1 (by assumption) ?_) | (refine VRead.load (by assumption) ?_) | (refine VRead.neB ?_) | (refine VRead.eqPN ?_) | (refine VRead.nePN ?_) | (refine VRead.eqB ?_) | (refine VBool.nT rfl ?_) | (refine VBool.dT rfl ?_) | (refine VWrap.i64 (by omega) (by omega) ?_) | (refine VWrap.u64 (by omega) (by omega) ?_) | (refine VRead.at1 (by omega) ?_) | (refine VRead.eqNN ?_) | (refine VSem.convI ?_) | (refine VRead.convI ?_) | (refine VRead.rem (by omega) (by decide) ?_) | (refine VRead.neg ?_) | (refine VC.seq ?_)); (conv => whnf))))
    refine VCall.of (snapName_any ((9 : Nat) : Int) W11 (by decide)) ?_
    rintro e W12 ⟨rfl, hB12⟩
    refine ⟨_, rfl, ?_⟩
    have hO12 := rows_below hO11 hB12 (Nat.le_refl _)
    have hB012 := hB011.trans (hB12.mono hB011.size)
    ((conv => whnf); (repeat ((first | (refine VL.cons ?_) | (refine VL.nil ?_) | (refine VC.seqS rfl ?_) | (refine VC.region ?_) | (refine VC.draw ?_) | (refine VC.cond ?_) | (refine VC.block ?_) | (refine VC.exit ?_) | (refine VC.ret ?_) | (refine VC.skip ?_) | (refine VC.label ?_) | (refine VC.scope ?_) | (refine VQ.cons ?_) | (refine VQ.nil ?_) | (refine VG.nil ?_) | (refine VG.cons ?_) | (refine VH.nil ?_) | (refine VH.cons ?_)); (conv => whnf))))
    ((repeat ((first | (refine VL.cons ?_) | (refine VL.nil ?_) | (refine VC.seqS rfl ?_) | (refine VC.region ?_) | (refine VC.draw ?_) | (refine VC.cond ?_) | (refine VC.block ?_) | (refine VC.exit ?_) | (refine VC.ret ?_) | (refine VC.skip ?_) | (refine VC.label ?_) | (refine VC.scope ?_) | (refine VQ.cons ?_) | (refine VQ.nil ?_) | (refine VG.nil ?_) | (refine VG.cons ?_) | (refine VH.nil ?_) | (refine VH.cons ?_) | (refine VP.done ?_) | (refine VP.one ?_) | (refine VP.two ?_) | (refine VE.cons ?_) | (refine VE.nil ?_) | (refine VBool.t ?_) | (refine VBool.f ?_) | (refine VBool.dT (by omega) ?_) | (refine VBool.dF (by omega) ?_) | (refine VBool.nT (by omega) ?_) | (refine VBool.nF (by omega) ?_) | (refine VRead.lenS ?_) | (refine VRead.lenT ?_) | (refine VRead.fld ?_) | (refine VRead.load1 (by assumption) ?_) | (refine VRead.load (by assumption) ?_) | (refine VRead.neB ?_) | (refine VRead.eqPN ?_) | (refine VRead.nePN ?_) | (refine VRead.eqB ?_) | (refine VBool.nT rfl ?_) | (refine VBool.dT rfl ?_) | (refine VWrap.i64 (by omega) (by omega) ?_) | (refine VWrap.u64 (by omega) (by omega) ?_) | (refine VRead.at1 (by omega) ?_) | (refine VRead.eqNN ?_) | (refine VSem.convI ?_) | (refine VRead.convI ?_) | (refine VRead.rem (by omega) (by decide) ?_) | (refine VRead.neg ?_) | (refine VC.seq ?_)); (conv => whnf))))
    refine VCall.of (oAppend W12 U11 d _ (snName ((9 : Nat) : Int)) X.length cx _ X' (hd11.below hB12) (by simp only [k0]; omega) (by rw [snName_len (by decide) (by decide)]; decide) (Src.of_own (n := X.length) (show Own W12 W7.heap.size (.slice (some ⟨gx, 0, none⟩) X.length cx) X.length X' from hO12)) (by omega) (by omega)) ?_
    rw [happ]
    rintro e W13 ⟨rfl, U13, hd13, st13⟩
    refine ⟨_, rfl, ?_⟩
    have hB013 := hB012.trans (st13.below hU11 hB012.size)
    simp only at hd13
    ((conv => whnf); (repeat ((first | (refine VL.cons ?_) | (refine VL.nil ?_) | (refine VC.seqS rfl ?_) | (refine VC.region ?_) | (refine VC.draw ?_) | (refine VC.cond ?_) | (refine VC.block ?_) | (refine VC.exit ?_) | (refine VC.ret ?_) | (refine VC.skip ?_) | (refine VC.label ?_) | (refine VC.scope ?_) | (refine VQ.cons ?_) | (refine VQ.nil ?_) | (refine VG.nil ?_) | (refine VG.cons ?_) | (refine VH.nil ?_) | (refine VH.cons ?_)); (conv => whnf))))
    ((repeat ((first | (refine VL.cons ?_) | (refine VL.nil ?_) | (refine VC.seqS rfl ?_) | (refine VC.region ?_) | (refine VC.draw ?_) | (refine VC.cond ?_) | (refine VC.block ?_) | (refine VC.exit ?_) | (refine VC.ret ?_) | (refine VC.skip ?_) | (refine VC.label ?_) | (refine VC.scope ?_) | (refine VQ.cons ?_) | (refine VQ.nil ?_) | (refine VG.nil ?_) | (refine VG.cons ?_) | (refine VH.nil ?_) | (refine VH.cons ?_) | (refine VP.done ?_) | (refine VP.one ?_) | (refine VP.two ?_) | (refine VE.cons ?_) | (refine VE.nil ?_) | (refine VBool.t ?_) | (refine VBool.f ?_) | (refine VBool.dT (by omega) ?_) | (refine VBool.dF (by omega) ?_) | (refine VBool.nT (by omega) ?_) | (refine VBool.nF (by omega) ?_) | (refine VRead.lenS ?_) | (refine VRead.lenT ?_) | (refine VRead.fld ?_) | (refine VRead.load1 (by assumption) ?_) | (refine VRead.load (by assumption) ?_) | (refine VRead.neB ?_) | (refine VRead.eqPN ?_) | (refine VRead.nePN ?_) | (refine VRead.eqB ?_) | (refine VBool.nT rfl ?_) | (refine VBool.dT rfl ?_) | (refine VWrap.i64 (by omega) (by omega) ?_) | (refine VWrap.u64 (by omega) (by omega) ?_) | (refine VRead.at1 (by omega) ?_) | (refine VRead.eqNN ?_) | (refine VSem.convI ?_) | (refine VRead.convI ?_) | (refine VRead.rem (by omega) (by decide) ?_) | (refine VRead.neg ?_) | (refine VC.seq ?_)); (conv => whnf))))
    refine VCall.of (snapNewest_any W13 U13 d _ hd13) ?_
    simp only
    by_cases hin : o < (n2 - 1) % 1000 + 1
    · rw [show ([(snName ((4 : Nat) : Int), fullF (fileB ((4 : Nat) : Int) 1 a))] ++ [(snName ((9 : Nat) : Int), (⟨X', 0⟩ : Fl))] : PT) = [(snName ((4 : Nat) : Int), fullF (fileB ((4 : Nat) : Int) 1 a)), (snName ((9 : Nat) : Int), ⟨X', 0⟩)] from rfl,
        newest_bad hok1 (by decide) (by decide) (hturn hin)]
      rintro e W14 ⟨⟨i4, t4, v4, rfl, hV⟩, hB14⟩
      refine ⟨_, rfl, ?_⟩
      obtain ⟨rfl, _, _, rfl, Av, cv, rfl, hOv⟩ := hV
      simp only at hOv ⊢
      have hB014 := hB013.trans (hB14.mono hB013.size)
      have hra := hr1.below hB014
      have hcase : n2 % 1000 = 0 ∨ (0 < n2 % 1000 ∧ 900 ≤ n2 % 1000) ∨ (0 < n2 % 1000 ∧ n2 % 1000 < 900 ∧ o < n2 % 1000) := by omega
      rcases hcase with hc | ⟨hc, hc'⟩ | ⟨hc, hc', hc''⟩
      all_goals
        ((conv => whnf); (repeat ((first | (refine VL.cons ?_) | (refine VL.nil ?_) | (refine VC.seqS rfl ?_) | (refine VC.region ?_) | (refine VC.draw ?_) | (refine VC.cond ?_) | (refine VC.block ?_) | (refine VC.exit ?_) | (refine VC.ret ?_) | (refine VC.skip ?_) | (refine VC.label ?_) | (refine VC.scope ?_) | (refine VQ.cons ?_) | (refine VQ.nil ?_) | (refine VG.nil ?_) | (refine VG.cons ?_) | (refine VH.nil ?_) | (refine VH.cons ?_)); (conv => whnf))))
        (repeat (first | ((first | (refine VL.cons ?_) | (refine VL.nil ?_) | (refine VC.seqS rfl ?_) | (refine VC.region ?_) | (refine VC.draw ?_) | (refine VC.cond ?_) | (refine VC.block ?_) | (refine VC.exit ?_) | (refine VC.ret ?_) | (refine VC.skip ?_) | (refine VC.label ?_) | (refine VC.scope ?_) | (refine VQ.cons ?_) | (refine VQ.nil ?_) | (refine VG.nil ?_) | (refine VG.cons ?_) | (refine VH.nil ?_) | (refine VH.cons ?_) | (refine VP.done ?_) | (refine VP.one ?_) | (refine VP.two ?_) | (refine VE.cons ?_) | (refine VE.nil ?_) | (refine VBool.t ?_) | (refine VBool.f ?_) | (refine VBool.dT (by omega) ?_) | (refine VBool.dF (by omega) ?_) | (refine VBool.nT (by omega) ?_) | (refine VBool.nF (by omega) ?_) | (refine VRead.lenS ?_) | (refine VRead.lenT ?_) | (refine VRead.fld ?_) | (refine VRead.load1 (by assumption) ?_) | (refine VRead.load (by assumption) ?_) | (refine VRead.neB ?_) | (refine VRead.eqPN ?_) | (refine VRead.nePN ?_) | (refine VRead.eqB ?_) | (refine VBool.nT rfl ?_) | (refine VBool.dT rfl ?_) | (refine VWrap.i64 (by omega) (by omega) ?_) | (refine VWrap.u64 (by omega) (by omega) ?_) | (refine VRead.at1 (by omega) ?_) | (refine VRead.eqNN ?_) | (refine VSem.convI ?_) | (refine VRead.convI ?_) | (refine VRead.rem (by omega) (by decide) ?_) | (refine VRead.neg ?_) | (refine VC.seq ?_)); (conv => whnf)) | (refine VSem.convT (Own.reads hOv) ?_; (conv => whnf)) | (refine VSem.convT hra ?_; (conv => whnf))))
        refine VCall.of (awake19_any W14) ?_
        rintro e W15 ⟨rfl, hB15⟩
        refine ⟨_, rfl, ?_⟩
        ((conv => whnf); (repeat ((first | (refine VL.cons ?_) | (refine VL.nil ?_) | (refine VC.seqS rfl ?_) | (refine VC.region ?_) | (refine VC.draw ?_) | (refine VC.cond ?_) | (refine VC.block ?_) | (refine VC.exit ?_) | (refine VC.ret ?_) | (refine VC.skip ?_) | (refine VC.label ?_) | (refine VC.scope ?_) | (refine VQ.cons ?_) | (refine VQ.nil ?_) | (refine VG.nil ?_) | (refine VG.cons ?_) | (refine VH.nil ?_) | (refine VH.cons ?_)); (conv => whnf))))
        ((repeat ((first | (refine VL.cons ?_) | (refine VL.nil ?_) | (refine VC.seqS rfl ?_) | (refine VC.region ?_) | (refine VC.draw ?_) | (refine VC.cond ?_) | (refine VC.block ?_) | (refine VC.exit ?_) | (refine VC.ret ?_) | (refine VC.skip ?_) | (refine VC.label ?_) | (refine VC.scope ?_) | (refine VQ.cons ?_) | (refine VQ.nil ?_) | (refine VG.nil ?_) | (refine VG.cons ?_) | (refine VH.nil ?_) | (refine VH.cons ?_) | (refine VP.done ?_) | (refine VP.one ?_) | (refine VP.two ?_) | (refine VE.cons ?_) | (refine VE.nil ?_) | (refine VBool.t ?_) | (refine VBool.f ?_) | (refine VBool.dT (by omega) ?_) | (refine VBool.dF (by omega) ?_) | (refine VBool.nT (by omega) ?_) | (refine VBool.nF (by omega) ?_) | (refine VRead.lenS ?_) | (refine VRead.lenT ?_) | (refine VRead.fld ?_) | (refine VRead.load1 (by assumption) ?_) | (refine VRead.load (by assumption) ?_) | (refine VRead.neB ?_) | (refine VRead.eqPN ?_) | (refine VRead.nePN ?_) | (refine VRead.eqB ?_) | (refine VBool.nT rfl ?_) | (refine VBool.dT rfl ?_) | (refine VWrap.i64 (by omega) (by omega) ?_) | (refine VWrap.u64 (by omega) (by omega) ?_) | (refine VRead.at1 (by omega) ?_) | (refine VRead.eqNN ?_) | (refine VSem.convI ?_) | (refine VRead.convI ?_) | (refine VRead.rem (by omega) (by decide) ?_) | (refine VRead.neg ?_) | (refine VC.seq ?_)); (conv => whnf))))
        exact ⟨rfl, hB014.trans (hB15.mono hB014.size)⟩
    · have hc : 0 < n2 % 1000 ∧ n2 % 1000 < 900 ∧ n2 % 1000 ≤ o := by omega
      obtain ⟨hc1, hc2, hc3⟩ := hc
      rintro e W14 ⟨⟨i4, t4, v4, rfl, hV⟩, hB14⟩
      refine ⟨_, rfl, ?_⟩
      obtain ⟨Av, nv, cv, rfl⟩ : ∃ A n c, v4 = .slice A n c := by
        unfold SnV at hV
        split at hV
        · obtain ⟨_, _, _, _, A, c, h, _⟩ := hV; exact ⟨_, _, _, h⟩
        · exact ⟨_, _, _, hV.2.2⟩
      have hB014 := hB013.trans (hB14.mono hB013.size)
      ((conv => whnf); (repeat ((first | (refine VL.cons ?_) | (refine VL.nil ?_) | (refine VC.seqS rfl ?_) | (refine VC.region ?_) | (refine VC.draw ?_) | (refine VC.cond ?_) | (refine VC.block ?_) | (refine VC.exit ?_) | (refine VC.ret ?_) | (refine VC.skip ?_) | (refine VC.label ?_) | (refine VC.scope ?_) | (refine VQ.cons ?_) | (refine VQ.nil ?_) | (refine VG.nil ?_) | (refine VG.cons ?_) | (refine VH.nil ?_) | (refine VH.cons ?_)); (conv => whnf))))
      ((repeat ((first | (refine VL.cons ?_) | (refine VL.nil ?_) | (refine VC.seqS rfl ?_) | (refine VC.region ?_) | (refine VC.draw ?_) | (refine VC.cond ?_) | (refine VC.block ?_) | (refine VC.exit ?_) | (refine VC.ret ?_) | (refine VC.skip ?_) | (refine VC.label ?_) | (refine VC.scope ?_) | (refine VQ.cons ?_) | (refine VQ.nil ?_) | (refine VG.nil ?_) | (refine VG.cons ?_) | (refine VH.nil ?_) | (refine VH.cons ?_) | (refine VP.done ?_) | (refine VP.one ?_) | (refine VP.two ?_) | (refine VE.cons ?_) | (refine VE.nil ?_) | (refine VBool.t ?_) | (refine VBool.f ?_) | (refine VBool.dT (by omega) ?_) | (refine VBool.dF (by omega) ?_) | (refine VBool.nT (by omega) ?_) | (refine VBool.nF (by omega) ?_) | (refine VRead.lenS ?_) | (refine VRead.lenT ?_) | (refine VRead.fld ?_) | (refine VRead.load1 (by assumption) ?_) | (refine VRead.load (by assumption) ?_) | (refine VRead.neB ?_) | (refine VRead.eqPN ?_) | (refine VRead.nePN ?_) | (refine VRead.eqB ?_) | (refine VBool.nT rfl ?_) | (refine VBool.dT rfl ?_) | (refine VWrap.i64 (by omega) (by omega) ?_) | (refine VWrap.u64 (by omega) (by omega) ?_) | (refine VRead.at1 (by omega) ?_) | (refine VRead.eqNN ?_) | (refine VSem.convI ?_) | (refine VRead.convI ?_) | (refine VRead.rem (by omega) (by decide) ?_) | (refine VRead.neg ?_) | (refine VC.seq ?_)); (conv => whnf))))
      refine VCall.of (awake19_any W14) ?_
      rintro e W15 ⟨rfl, hB15⟩
      refine ⟨_, rfl, ?_⟩
      ((conv => whnf); (repeat ((first | (refine VL.cons ?_) | (refine VL.nil ?_) | (refine VC.seqS rfl ?_) | (refine VC.region ?_) | (refine VC.draw ?_) | (refine VC.cond ?_) | (refine VC.block ?_) | (refine VC.exit ?_) | (refine VC.ret ?_) | (refine VC.skip ?_) | (refine VC.label ?_) | (refine VC.scope ?_) | (refine VQ.cons ?_) | (refine VQ.nil ?_) | (refine VG.nil ?_) | (refine VG.cons ?_) | (refine VH.nil ?_) | (refine VH.cons ?_)); (conv => whnf))))
      ((repeat ((first | (refine VL.cons ?_) | (refine VL.nil ?_) | (refine VC.seqS rfl ?_) | (refine VC.region ?_) | (refine VC.draw ?_) | (refine VC.cond ?_) | (refine VC.block ?_) | (refine VC.exit ?_) | (refine VC.ret ?_) | (refine VC.skip ?_) | (refine VC.label ?_) | (refine VC.scope ?_) | (refine VQ.cons ?_) | (refine VQ.nil ?_) | (refine VG.nil ?_) | (refine VG.cons ?_) | (refine VH.nil ?_) | (refine VH.cons ?_) | (refine VP.done ?_) | (refine VP.one ?_) | (refine VP.two ?_) | (refine VE.cons ?_) | (refine VE.nil ?_) | (refine VBool.t ?_) | (refine VBool.f ?_) | (refine VBool.dT (by omega) ?_) | (refine VBool.dF (by omega) ?_) | (refine VBool.nT (by omega) ?_) | (refine VBool.nF (by omega) ?_) | (refine VRead.lenS ?_) | (refine VRead.lenT ?_) | (refine VRead.fld ?_) | (refine VRead.load1 (by assumption) ?_) | (refine VRead.load (by assumption) ?_) | (refine VRead.neB ?_) | (refine VRead.eqPN ?_) | (refine VRead.nePN ?_) | (refine VRead.eqB ?_) | (refine VBool.nT rfl ?_) | (refine VBool.dT rfl ?_) | (refine VWrap.i64 (by omega) (by omega) ?_) | (refine VWrap.u64 (by omega) (by omega) ?_) | (refine VRead.at1 (by omega) ?_) | (refine VRead.eqNN ?_) | (refine VSem.convI ?_) | (refine VRead.convI ?_) | (refine VRead.rem (by omega) (by decide) ?_) | (refine VRead.neg ?_) | (refine VC.seq ?_)); (conv => whnf))))
      exact ⟨rfl, hB014.trans (hB15.mono hB014.size)⟩
end Go.Proofs.Ytebeidnmplnlpaa
end
