/- Texts joined: SessJ, RsA, Crc, Sum, SumFns, Var, Wire, Reg, Reader, ReadInt, ReadFns, ReadRef, ReadMore, ReadFail, SessK, SessL, RtB, RtC, RtD, RtE, VE. No condition. -/
import Derived.Test.YtnjhdbgejhnpfaaDoorPks1
import Derived.KernelRfl
import Derived.Test.YtnjhdbgejhnpfaaDoorPks0
import Derived.WalkKit
import Derived.WalkSpells
import Derived.WalkLawsBesides
import Derived.Lib.Hide
import Derived.Lib.SlBytesConst
import Derived.Deep.DeepCutAuto
import Derived.StillTailTactics
import Derived.BigQuiet
import Derived.Deep.LoopGhost
section
set_option maxRecDepth 10000
namespace Go.Proofs.YtnjhdbgejhnpfaaDoor
set_option linter.unusedVariables false
open Go.RowKit

/-- what start-up code has laid -/
def Tabs (w : World) : Prop := Lib.Utf8Tabs 0 1 w
theorem Tabs.below {w w' : World} (h : Tabs w) (hb : Below w.heap.size w w') : Tabs w' := Utf8Tabs_below h hb
theorem count_any (s : ByteArray) (w : World) (hs : s.size ≤ 1000000) :
    Calls Tryd.prog 79 #[.string s] w fun e w' => e = .returned (.int .i64 (Rn.ps s.data.toList).length) ∧ Below w.heap.size w w' := by
  refine calls_vc Tryd.func79 rfl (by kernel_rfl) ?_
  ((conv => whnf); (repeat ((first | (refine VL.cons ?_) | (refine VL.nil ?_) | (refine VC.seqS rfl ?_) | (refine VC.region ?_)); (conv => whnf))))
  ((repeat ((fail); (conv => whnf))))
  refine VCall.of (Any.utf8_RuneCountInString Tryd.lays195 s w (by omega)) ?_
  rintro e w1 ⟨rfl, pos, rfl⟩
  refine ⟨_, rfl, ?_⟩
  rw [Rn.count_ps]
  ((conv => whnf); (repeat ((first | (refine VL.cons ?_) | (refine VL.nil ?_) | (refine VC.ret ?_)); (conv => whnf))))
  ((repeat ((fail); (conv => whnf))))
  exact ⟨rfl, (Below.refl _ w).alloc (Nat.le_refl _) _⟩
theorem valid_any (s : ByteArray) (w : World) (hs : s.size ≤ 1000000) (hT : Tabs w) :
    Calls Tryd.prog 78 #[.string s] w fun e w' => e = .returned (.bool (Lib.validD s.data.toList)) ∧ Below w.heap.size w w' := by
  refine calls_vc Tryd.func78 rfl (by kernel_rfl) ?_
  ((conv => whnf); (repeat ((first | (refine VL.cons ?_) | (refine VL.nil ?_) | (refine VC.seqS rfl ?_) | (refine VC.region ?_)); (conv => whnf))))
  ((repeat ((fail); (conv => whnf))))
  refine VCall.of (Any.utf8_ValidString Tryd.lays196 s w (by omega) hT) ?_
  rintro e w1 ⟨rfl, hB⟩
  refine ⟨_, rfl, ?_⟩
  ((conv => whnf); (repeat ((first | (refine VL.cons ?_) | (refine VL.nil ?_) | (refine VC.ret ?_)); (conv => whnf))))
  ((repeat ((fail); (conv => whnf))))
  exact ⟨rfl, hB⟩
def textOk (s : List UInt8) : Bool := decide (s.length ≤ 400) && Lib.validD s && decide ((Rn.ps s).length ≤ 100)
def VOk (k n : Int) (s : List UInt8) : Bool :=
  if k = 0 then decide (n = 0) && decide (s = []) else if k = 1 then decide (s = []) else if k = 2 then (decide (n = 0) || decide (n = 1)) && decide (s = [])
  else if k = 3 then decide (n = 0) && textOk s else if k = 4 then decide (1 ≤ n) && decide (n ≤ 4) && decide (s = []) else false
def ROk (r : Rp) : Bool := decide (0 ≤ r.err) && decide (r.err ≤ 24) && decide (0 ≤ r.n) && decide (r.n ≤ 1099511627776) && VOk r.kind r.vn r.s
theorem txt_eqT {l m : List UInt8} : (decide (txt l = txt m)) = decide (l = m) := decide_eq_decide.2 txt_inj
theorem text_any (s : List UInt8) (w : World) (hT : Tabs w) :
    Calls Tryd.prog 69 #[.string (txt s)] w fun e w' => e = .returned (.bool (textOk s)) ∧ Below w.heap.size w w' := by
  have hsz : ByteArray.size (txt s) = s.length := txt_size s
  refine calls_vc Tryd.func69 rfl (by kernel_rfl) ?_
  by_cases h1 : s.length ≤ 400
  case neg =>
    have e : textOk s = false := by unfold textOk; rw [decide_eq_false h1]; rfl
    rw [e]
    ((conv => whnf); (repeat ((first | (refine VL.cons ?_) | (refine VL.nil ?_) | (refine VC.seqS rfl ?_) | (refine VC.region ?_)); (conv => whnf))))
    ((repeat ((first | (refine VL.cons ?_) | (refine VL.nil ?_) | (refine VC.ret ?_) | (refine VBool.f ?_) | (refine VBool.dF (by omega) ?_) | (refine VRead.lenT ?_)); (conv => whnf))))
    exact ⟨rfl, Below.refl _ _⟩
  ((conv => whnf); (repeat ((first | (refine VL.cons ?_) | (refine VL.nil ?_) | (refine VC.seqS rfl ?_) | (refine VC.region ?_)); (conv => whnf))))
  ((repeat ((first | (refine VL.cons ?_) | (refine VBool.t ?_) | (refine VBool.dT (by omega) ?_) | (refine VRead.lenT ?_)); (conv => whnf))))
  refine VCall.of (valid_any (txt s) w (by omega) hT) ?_
  rintro e w1 ⟨rfl, hB1⟩
  refine ⟨_, rfl, ?_⟩
  rw [show (txt s).data.toList = s from rfl]
  cases hv : Lib.validD s with
  | false =>
    have e : textOk s = false := by unfold textOk; rw [hv]; simp
    rw [e]
    ((conv => whnf); (repeat ((first | (refine VL.cons ?_)); (conv => whnf))))
    ((repeat ((first | (refine VL.cons ?_) | (refine VL.nil ?_) | (refine VC.ret ?_) | (refine VBool.f ?_)); (conv => whnf))))
    exact ⟨rfl, hB1⟩
  | true =>
    have e : textOk s = decide ((Rn.ps s).length ≤ 100) := by unfold textOk; rw [hv, decide_eq_true h1]; simp
    rw [e]
    ((conv => whnf); (repeat ((first | (refine VL.cons ?_)); (conv => whnf))))
    ((repeat ((first | (refine VL.cons ?_) | (refine VBool.t ?_)); (conv => whnf))))
    refine VCall.of (count_any (txt s) w1 (by omega)) ?_
    rintro e w2 ⟨rfl, hB2⟩
    refine ⟨_, rfl, ?_⟩
    rw [show (txt s).data.toList = s from rfl]
    ((conv => whnf); (repeat ((first | (refine VL.cons ?_)); (conv => whnf))))
    ((repeat ((first | (refine VL.cons ?_) | (refine VL.nil ?_) | (refine VC.ret ?_) | (refine VBool.t ?_)); (conv => whnf))))
    refine ⟨?_, hB1.trans (hB2.mono hB1.size)⟩
    show Ending.returned (.bool (decide (((Rn.ps s).length : Int) ≤ 100))) = _
    congr 2
    exact decide_eq_decide.2 (by omega)
def vC (k n : Int) (s : List UInt8) : Array Value := #[.int .i64 k, .int .i64 n, .string (txt s)]
set_option maxHeartbeats 2000000 in
theorem vCheck_any (k n : Int) (s : List UInt8) (W : World) (hT : Tabs W) :
    Calls Tryd.prog 50 #[.agg (vC k n s)] W fun e W' => e = .returned (.bool (VOk k n s)) ∧ Below W.heap.size W W' := by
  have hret : Ending.returned (.bool (decide (txt s = txt []))) = Ending.returned (.bool (decide (s = []))) := by rw [txt_eqT]
  refine calls_vc Tryd.func50 rfl (by kernel_rfl) ?_
  ((conv => whnf); (repeat ((first | (refine VL.cons ?_) | (refine VC.seqS rfl ?_) | (refine VC.region ?_)); (conv => whnf))))
  ((repeat ((fail); (conv => whnf))))
  refine VSem.boxB ?_
  intro W1 g hb hgb hlb hB
  replace hb : Blk W1 g 32 #[.int .i64 k, .int .i64 n, .string (txt s)] := hb
  have hT1 := hT.below hB
  by_cases k0 : k = 0
  · subst k0
    have e : VOk 0 n s = (decide (n = 0) && decide (s = [])) := rfl
    rw [e]
    by_cases hn : n = 0
    · subst hn
      ((conv => whnf); (repeat ((first | (refine VL.cons ?_) | (refine VL.nil ?_)); (conv => whnf))))
      (repeat (first | ((first | (refine VL.cons ?_) | (refine VL.nil ?_) | (refine VC.seqS rfl ?_) | (refine VC.region ?_) | (refine VC.cond ?_) | (refine VC.block ?_) | (refine VC.ret ?_) | (refine VBool.t ?_) | (refine VRead.fld ?_) | (refine VC.seq ?_)); (conv => whnf)) | (refine VRead.loadB hb rfl rfl ?_; (conv => whnf))))
      exact ⟨hret, hB⟩
    · rw [decide_eq_false hn]
      ((conv => whnf); (repeat ((first | (refine VL.cons ?_) | (refine VL.nil ?_)); (conv => whnf))))
      (repeat (first | ((first | (refine VL.cons ?_) | (refine VL.nil ?_) | (refine VC.seqS rfl ?_) | (refine VC.region ?_) | (refine VC.cond ?_) | (refine VC.block ?_) | (refine VC.ret ?_) | (refine VBool.t ?_) | (refine VBool.f ?_) | (refine VBool.dF (by omega) ?_) | (refine VRead.fld ?_) | (refine VC.seq ?_)); (conv => whnf)) | (refine VRead.loadB hb rfl rfl ?_; (conv => whnf))))
      exact ⟨rfl, hB⟩
  by_cases k1 : k = 1
  · subst k1
    have e : VOk 1 n s = decide (s = []) := rfl
    rw [e]
    ((conv => whnf); (repeat ((first | (refine VL.cons ?_) | (refine VL.nil ?_)); (conv => whnf))))
    (repeat (first | ((first | (refine VL.cons ?_) | (refine VL.nil ?_) | (refine VC.seqS rfl ?_) | (refine VC.region ?_) | (refine VC.cond ?_) | (refine VC.block ?_) | (refine VC.ret ?_) | (refine VBool.t ?_) | (refine VBool.f ?_) | (refine VRead.fld ?_) | (refine VC.seq ?_)); (conv => whnf)) | (refine VRead.loadB hb rfl rfl ?_; (conv => whnf))))
    exact ⟨hret, hB⟩
  by_cases k2 : k = 2
  · subst k2
    have e : VOk 2 n s = ((decide (n = 0) || decide (n = 1)) && decide (s = [])) := rfl
    rw [e]
    by_cases hn : n = 0
    · subst hn
      ((conv => whnf); (repeat ((first | (refine VL.cons ?_) | (refine VL.nil ?_)); (conv => whnf))))
      (repeat (first | ((first | (refine VL.cons ?_) | (refine VL.nil ?_) | (refine VC.seqS rfl ?_) | (refine VC.region ?_) | (refine VC.cond ?_) | (refine VC.block ?_) | (refine VC.ret ?_) | (refine VBool.t ?_) | (refine VBool.f ?_) | (refine VRead.fld ?_) | (refine VC.seq ?_)); (conv => whnf)) | (refine VRead.loadB hb rfl rfl ?_; (conv => whnf))))
      exact ⟨hret, hB⟩
    · by_cases hn1 : n = 1
      · subst hn1
        ((conv => whnf); (repeat ((first | (refine VL.cons ?_) | (refine VL.nil ?_)); (conv => whnf))))
        (repeat (first | ((first | (refine VL.cons ?_) | (refine VL.nil ?_) | (refine VC.seqS rfl ?_) | (refine VC.region ?_) | (refine VC.cond ?_) | (refine VC.block ?_) | (refine VC.ret ?_) | (refine VBool.t ?_) | (refine VBool.f ?_) | (refine VRead.fld ?_) | (refine VC.seq ?_)); (conv => whnf)) | (refine VRead.loadB hb rfl rfl ?_; (conv => whnf))))
        exact ⟨hret, hB⟩
      · rw [decide_eq_false hn, decide_eq_false hn1]
        ((conv => whnf); (repeat ((first | (refine VL.cons ?_) | (refine VL.nil ?_)); (conv => whnf))))
        (repeat (first | ((first | (refine VL.cons ?_) | (refine VL.nil ?_) | (refine VC.seqS rfl ?_) | (refine VC.region ?_) | (refine VC.cond ?_) | (refine VC.block ?_) | (refine VC.ret ?_) | (refine VBool.t ?_) | (refine VBool.f ?_) | (refine VBool.dF (by omega) ?_) | (refine VRead.fld ?_) | (refine VC.seq ?_)); (conv => whnf)) | (refine VRead.loadB hb rfl rfl ?_; (conv => whnf))))
        exact ⟨rfl, hB⟩
  by_cases k3 : k = 3
  · subst k3
    have e : VOk 3 n s = (decide (n = 0) && textOk s) := rfl
    rw [e]
    by_cases hn : n = 0
    · subst hn
      ((conv => whnf); (repeat ((first | (refine VL.cons ?_) | (refine VL.nil ?_)); (conv => whnf))))
      (repeat (first | ((first | (refine VL.cons ?_) | (refine VL.nil ?_) | (refine VC.seqS rfl ?_) | (refine VC.region ?_) | (refine VC.cond ?_) | (refine VC.block ?_) | (refine VBool.t ?_) | (refine VBool.f ?_) | (refine VRead.fld ?_) | (refine VC.seq ?_)); (conv => whnf)) | (refine VRead.loadB hb rfl rfl ?_; (conv => whnf))))
      refine VCall.of (text_any s W1 hT1) ?_
      rintro e W2 ⟨rfl, hB2⟩
      refine ⟨_, rfl, ?_⟩
      ((conv => whnf); (repeat ((first | (refine VL.cons ?_) | (refine VL.nil ?_) | (refine VC.ret ?_)); (conv => whnf))))
      ((repeat ((fail); (conv => whnf))))
      exact ⟨rfl, hB.trans (hB2.mono hB.size)⟩
    · rw [decide_eq_false hn]
      ((conv => whnf); (repeat ((first | (refine VL.cons ?_) | (refine VL.nil ?_)); (conv => whnf))))
      (repeat (first | ((first | (refine VL.cons ?_) | (refine VL.nil ?_) | (refine VC.seqS rfl ?_) | (refine VC.region ?_) | (refine VC.cond ?_) | (refine VC.block ?_) | (refine VC.ret ?_) | (refine VBool.t ?_) | (refine VBool.f ?_) | (refine VBool.dF (by omega) ?_) | (refine VRead.fld ?_) | (refine VC.seq ?_)); (conv => whnf)) | (refine VRead.loadB hb rfl rfl ?_; (conv => whnf))))
      exact ⟨rfl, hB⟩
  by_cases k4 : k = 4
  · subst k4
    have e : VOk 4 n s = (decide (1 ≤ n) && decide (n ≤ 4) && decide (s = [])) := rfl
    rw [e]
    by_cases hn : 1 ≤ n
    · by_cases hn4 : n ≤ 4
      · rw [decide_eq_true hn, decide_eq_true hn4]
        ((conv => whnf); (repeat ((first | (refine VL.cons ?_) | (refine VL.nil ?_)); (conv => whnf))))
        (repeat (first | ((first | (refine VL.cons ?_) | (refine VL.nil ?_) | (refine VC.seqS rfl ?_) | (refine VC.region ?_) | (refine VC.cond ?_) | (refine VC.block ?_) | (refine VC.ret ?_) | (refine VBool.t ?_) | (refine VBool.f ?_) | (refine VBool.dT (by omega) ?_) | (refine VRead.fld ?_) | (refine VC.seq ?_)); (conv => whnf)) | (refine VRead.loadB hb rfl rfl ?_; (conv => whnf))))
        exact ⟨hret, hB⟩
      · rw [decide_eq_true hn, decide_eq_false hn4]
        ((conv => whnf); (repeat ((first | (refine VL.cons ?_) | (refine VL.nil ?_)); (conv => whnf))))
        (repeat (first | ((first | (refine VL.cons ?_) | (refine VL.nil ?_) | (refine VC.seqS rfl ?_) | (refine VC.region ?_) | (refine VC.cond ?_) | (refine VC.block ?_) | (refine VC.ret ?_) | (refine VBool.t ?_) | (refine VBool.f ?_) | (refine VBool.dT (by omega) ?_) | (refine VBool.dF (by omega) ?_) | (refine VRead.fld ?_) | (refine VC.seq ?_)); (conv => whnf)) | (refine VRead.loadB hb rfl rfl ?_; (conv => whnf))))
        exact ⟨rfl, hB⟩
    · rw [decide_eq_false hn]
      ((conv => whnf); (repeat ((first | (refine VL.cons ?_) | (refine VL.nil ?_)); (conv => whnf))))
      (repeat (first | ((first | (refine VL.cons ?_) | (refine VL.nil ?_) | (refine VC.seqS rfl ?_) | (refine VC.region ?_) | (refine VC.cond ?_) | (refine VC.block ?_) | (refine VC.ret ?_) | (refine VBool.t ?_) | (refine VBool.f ?_) | (refine VBool.dF (by omega) ?_) | (refine VRead.fld ?_) | (refine VC.seq ?_)); (conv => whnf)) | (refine VRead.loadB hb rfl rfl ?_; (conv => whnf))))
      exact ⟨rfl, hB⟩
  have e : VOk k n s = false := by unfold VOk; rw [if_neg k0, if_neg k1, if_neg k2, if_neg k3, if_neg k4]
  rw [e]
  ((conv => whnf); (repeat ((first | (refine VL.cons ?_) | (refine VL.nil ?_)); (conv => whnf))))
  (repeat (first | ((first | (refine VL.cons ?_) | (refine VL.nil ?_) | (refine VC.seqS rfl ?_) | (refine VC.region ?_) | (refine VC.cond ?_) | (refine VC.block ?_) | (refine VC.ret ?_) | (refine VC.skip ?_) | (refine VBool.dF (by omega) ?_) | (refine VRead.fld ?_) | (refine VC.seq ?_)); (conv => whnf)) | (refine VRead.loadB hb rfl rfl ?_; (conv => whnf))))
  exact ⟨rfl, hB⟩
set_option maxHeartbeats 2000000 in
theorem ck_any (r : Rp) (W : World) (hT : Tabs W) : Calls Tryd.prog 31 #[.agg (rpC r)] W fun e W' => e = .returned (.bool (ROk r)) ∧ Below W.heap.size W W' := by
  refine calls_vc Tryd.func31 rfl (by kernel_rfl) ?_
  ((conv => whnf); (repeat ((first | (refine VL.cons ?_) | (refine VC.seqS rfl ?_) | (refine VC.region ?_)); (conv => whnf))))
  ((repeat ((fail); (conv => whnf))))
  refine VSem.boxB ?_
  intro W1 g hb hgb hlb hB
  replace hb : Blk W1 g 34 #[.int .i64 r.err, .int .i64 r.n, .int .i64 r.kind, .int .i64 r.vn, .string (txt r.s)] := hb
  have no : ∀ {p : Prop} [Decidable p], ¬ p → True := fun _ => trivial
  by_cases h1 : 0 ≤ r.err
  case neg =>
    have e : ROk r = false := by unfold ROk; rw [decide_eq_false h1]; rfl
    rw [e]
    ((conv => whnf); (repeat ((first | (refine VL.cons ?_) | (refine VL.nil ?_) | (refine VC.seqS rfl ?_) | (refine VC.region ?_)); (conv => whnf))))
    (repeat (first | ((first | (refine VL.cons ?_) | (refine VL.nil ?_) | (refine VC.ret ?_) | (refine VBool.f ?_) | (refine VBool.dF (by omega) ?_) | (refine VRead.fld ?_)); (conv => whnf)) | (refine VRead.loadB hb rfl rfl ?_; (conv => whnf))))
    exact ⟨rfl, hB⟩
  by_cases h2 : r.err ≤ 24
  case neg =>
    have e : ROk r = false := by unfold ROk; rw [decide_eq_false h2]; simp
    rw [e]
    ((conv => whnf); (repeat ((first | (refine VL.cons ?_) | (refine VL.nil ?_) | (refine VC.seqS rfl ?_) | (refine VC.region ?_)); (conv => whnf))))
    (repeat (first | ((first | (refine VL.cons ?_) | (refine VL.nil ?_) | (refine VC.ret ?_) | (refine VBool.t ?_) | (refine VBool.f ?_) | (refine VBool.dT (by omega) ?_) | (refine VBool.dF (by omega) ?_) | (refine VRead.fld ?_)); (conv => whnf)) | (refine VRead.loadB hb rfl rfl ?_; (conv => whnf))))
    exact ⟨rfl, hB⟩
  by_cases h3 : 0 ≤ r.n
  case neg =>
    have e : ROk r = false := by unfold ROk; rw [decide_eq_false h3]; simp
    rw [e]
    ((conv => whnf); (repeat ((first | (refine VL.cons ?_) | (refine VL.nil ?_) | (refine VC.seqS rfl ?_) | (refine VC.region ?_)); (conv => whnf))))
    (repeat (first | ((first | (refine VL.cons ?_) | (refine VL.nil ?_) | (refine VC.ret ?_) | (refine VBool.t ?_) | (refine VBool.f ?_) | (refine VBool.dT (by omega) ?_) | (refine VBool.dF (by omega) ?_) | (refine VRead.fld ?_)); (conv => whnf)) | (refine VRead.loadB hb rfl rfl ?_; (conv => whnf))))
    exact ⟨rfl, hB⟩
  by_cases h4 : r.n ≤ 1099511627776
  case neg =>
    have e : ROk r = false := by unfold ROk; rw [decide_eq_false h4]; simp
    rw [e]
    ((conv => whnf); (repeat ((first | (refine VL.cons ?_) | (refine VL.nil ?_) | (refine VC.seqS rfl ?_) | (refine VC.region ?_)); (conv => whnf))))
    (repeat (first | ((first | (refine VL.cons ?_) | (refine VL.nil ?_) | (refine VC.ret ?_) | (refine VBool.t ?_) | (refine VBool.f ?_) | (refine VBool.dT (by omega) ?_) | (refine VBool.dF (by omega) ?_) | (refine VRead.fld ?_)); (conv => whnf)) | (refine VRead.loadB hb rfl rfl ?_; (conv => whnf))))
    exact ⟨rfl, hB⟩
  have e : ROk r = VOk r.kind r.vn r.s := by unfold ROk; rw [decide_eq_true h1, decide_eq_true h2, decide_eq_true h3, decide_eq_true h4]; rfl
  rw [e]
  ((conv => whnf); (repeat ((first | (refine VL.cons ?_) | (refine VL.nil ?_) | (refine VC.seqS rfl ?_) | (refine VC.region ?_)); (conv => whnf))))
  (repeat (first | ((first | (refine VL.cons ?_) | (refine VBool.t ?_) | (refine VBool.dT (by omega) ?_) | (refine VRead.fld ?_)); (conv => whnf)) | (refine VRead.loadB hb rfl rfl ?_; (conv => whnf))))
  refine VRead.loadABi (vs := vC r.kind r.vn r.s) 2 (fun _ e => e ▸ hb) rfl rfl (by intro j hj; match j, hj with | 0, _ => rfl | 1, _ => rfl | 2, _ => rfl) ?_
  ((conv => whnf); (repeat ((first | (refine VL.cons ?_)); (conv => whnf))))
  ((repeat ((first | (refine VBool.t ?_)); (conv => whnf))))
  refine VCall.of (vCheck_any r.kind r.vn r.s W1 (hT.below hB)) ?_
  rintro e W2 ⟨rfl, hB2⟩
  refine ⟨_, rfl, ?_⟩
  ((conv => whnf); (repeat ((first | (refine VL.cons ?_) | (refine VL.nil ?_) | (refine VC.ret ?_)); (conv => whnf))))
  ((repeat ((fail); (conv => whnf))))
  exact ⟨rfl, hB.trans (hB2.mono hB.size)⟩
end Go.Proofs.YtnjhdbgejhnpfaaDoor
end

section
set_option maxRecDepth 10000
namespace Go.Proofs.YtnjhdbgejhnpfaaDoor
set_option linter.unusedVariables false
open Go.RowKit

theorem counts_any (v f : Int) (W : World) : Calls Tryd.prog 51 #[.int .i64 v, .int .i64 f] W fun e W' => e = .returned (.bool (decide (f ≤ v) && decide (v ≤ 1099511627776))) ∧ W' = W := by
  refine calls_vc Tryd.func51 rfl (by kernel_rfl) ?_
  by_cases h1 : f ≤ v
  · by_cases h2 : v ≤ 1099511627776
    · rw [decide_eq_true h1, decide_eq_true h2]
      have h2' : decide (v ≤ 1099511627776) = true := decide_eq_true h2
      ((conv => whnf); (repeat ((first | (refine VL.cons ?_) | (refine VL.nil ?_) | (refine VC.seqS rfl ?_) | (refine VC.region ?_)); (conv => whnf))))
      ((repeat ((first | (refine VL.cons ?_) | (refine VL.nil ?_) | (refine VC.ret ?_) | (refine VBool.t ?_) | (refine VBool.dT (by omega) ?_)); (conv => whnf))))
      exact ⟨by rw [h2']; rfl, rfl⟩
    · rw [decide_eq_true h1, decide_eq_false h2]
      have h2' : decide (v ≤ 1099511627776) = false := decide_eq_false h2
      ((conv => whnf); (repeat ((first | (refine VL.cons ?_) | (refine VL.nil ?_) | (refine VC.seqS rfl ?_) | (refine VC.region ?_)); (conv => whnf))))
      ((repeat ((first | (refine VL.cons ?_) | (refine VL.nil ?_) | (refine VC.ret ?_) | (refine VBool.t ?_) | (refine VBool.dT (by omega) ?_)); (conv => whnf))))
      exact ⟨by rw [h2']; rfl, rfl⟩
  · rw [decide_eq_false h1]
    ((conv => whnf); (repeat ((first | (refine VL.cons ?_) | (refine VL.nil ?_) | (refine VC.seqS rfl ?_) | (refine VC.region ?_)); (conv => whnf))))
    ((repeat ((first | (refine VL.cons ?_) | (refine VL.nil ?_) | (refine VC.ret ?_) | (refine VBool.f ?_) | (refine VBool.dF (by omega) ?_)); (conv => whnf))))
    exact ⟨rfl, rfl⟩
set_option maxHeartbeats 2000000 in
theorem rvCheck_any (k n : Int) (s : List UInt8) (W : World) :
    Calls Tryd.prog 52 #[.agg (vC k n s)] W fun e W' => e = .returned (.bool (VOk k n s)) ∧ Below W.heap.size W W' := by
  have hret : Ending.returned (.bool (decide (txt s = txt []))) = Ending.returned (.bool (decide (s = []))) := by rw [txt_eqT]
  have hsz : ByteArray.size (txt s) = s.length := txt_size s
  refine calls_vc Tryd.func52 rfl (by kernel_rfl) ?_
  ((conv => whnf); (repeat ((first | (refine VL.cons ?_) | (refine VC.seqS rfl ?_) | (refine VC.region ?_)); (conv => whnf))))
  ((repeat ((fail); (conv => whnf))))
  refine VSem.boxB ?_
  intro W1 g hb hgb hlb hB
  replace hb : Blk W1 g 32 #[.int .i64 k, .int .i64 n, .string (txt s)] := hb
  by_cases k0 : k = 0
  · subst k0
    have e : VOk 0 n s = (decide (n = 0) && decide (s = [])) := rfl
    rw [e]
    by_cases hn : n = 0
    · subst hn
      ((conv => whnf); (repeat ((first | (refine VL.cons ?_) | (refine VL.nil ?_)); (conv => whnf))))
      (repeat (first | ((first | (refine VL.cons ?_) | (refine VL.nil ?_) | (refine VC.seqS rfl ?_) | (refine VC.region ?_) | (refine VC.cond ?_) | (refine VC.block ?_) | (refine VC.ret ?_) | (refine VBool.t ?_) | (refine VRead.fld ?_) | (refine VC.seq ?_)); (conv => whnf)) | (refine VRead.loadB hb rfl rfl ?_; (conv => whnf))))
      exact ⟨hret, hB⟩
    · rw [decide_eq_false hn]
      ((conv => whnf); (repeat ((first | (refine VL.cons ?_) | (refine VL.nil ?_)); (conv => whnf))))
      (repeat (first | ((first | (refine VL.cons ?_) | (refine VL.nil ?_) | (refine VC.seqS rfl ?_) | (refine VC.region ?_) | (refine VC.cond ?_) | (refine VC.block ?_) | (refine VC.ret ?_) | (refine VBool.t ?_) | (refine VBool.f ?_) | (refine VBool.dF (by omega) ?_) | (refine VRead.fld ?_) | (refine VC.seq ?_)); (conv => whnf)) | (refine VRead.loadB hb rfl rfl ?_; (conv => whnf))))
      exact ⟨rfl, hB⟩
  by_cases k1 : k = 1
  · subst k1
    have e : VOk 1 n s = decide (s = []) := rfl
    rw [e]
    ((conv => whnf); (repeat ((first | (refine VL.cons ?_) | (refine VL.nil ?_)); (conv => whnf))))
    (repeat (first | ((first | (refine VL.cons ?_) | (refine VL.nil ?_) | (refine VC.seqS rfl ?_) | (refine VC.region ?_) | (refine VC.cond ?_) | (refine VC.block ?_) | (refine VC.ret ?_) | (refine VBool.t ?_) | (refine VBool.f ?_) | (refine VRead.fld ?_) | (refine VC.seq ?_)); (conv => whnf)) | (refine VRead.loadB hb rfl rfl ?_; (conv => whnf))))
    exact ⟨hret, hB⟩
  by_cases k2 : k = 2
  · subst k2
    have e : VOk 2 n s = ((decide (n = 0) || decide (n = 1)) && decide (s = [])) := rfl
    rw [e]
    by_cases hn : n = 0
    · subst hn
      ((conv => whnf); (repeat ((first | (refine VL.cons ?_) | (refine VL.nil ?_)); (conv => whnf))))
      (repeat (first | ((first | (refine VL.cons ?_) | (refine VL.nil ?_) | (refine VC.seqS rfl ?_) | (refine VC.region ?_) | (refine VC.cond ?_) | (refine VC.block ?_) | (refine VC.ret ?_) | (refine VBool.t ?_) | (refine VBool.f ?_) | (refine VRead.fld ?_) | (refine VC.seq ?_)); (conv => whnf)) | (refine VRead.loadB hb rfl rfl ?_; (conv => whnf))))
      exact ⟨hret, hB⟩
    · by_cases hn1 : n = 1
      · subst hn1
        ((conv => whnf); (repeat ((first | (refine VL.cons ?_) | (refine VL.nil ?_)); (conv => whnf))))
        (repeat (first | ((first | (refine VL.cons ?_) | (refine VL.nil ?_) | (refine VC.seqS rfl ?_) | (refine VC.region ?_) | (refine VC.cond ?_) | (refine VC.block ?_) | (refine VC.ret ?_) | (refine VBool.t ?_) | (refine VBool.f ?_) | (refine VRead.fld ?_) | (refine VC.seq ?_)); (conv => whnf)) | (refine VRead.loadB hb rfl rfl ?_; (conv => whnf))))
        exact ⟨hret, hB⟩
      · rw [decide_eq_false hn, decide_eq_false hn1]
        ((conv => whnf); (repeat ((first | (refine VL.cons ?_) | (refine VL.nil ?_)); (conv => whnf))))
        (repeat (first | ((first | (refine VL.cons ?_) | (refine VL.nil ?_) | (refine VC.seqS rfl ?_) | (refine VC.region ?_) | (refine VC.cond ?_) | (refine VC.block ?_) | (refine VC.ret ?_) | (refine VBool.t ?_) | (refine VBool.f ?_) | (refine VBool.dF (by omega) ?_) | (refine VRead.fld ?_) | (refine VC.seq ?_)); (conv => whnf)) | (refine VRead.loadB hb rfl rfl ?_; (conv => whnf))))
        exact ⟨rfl, hB⟩
  by_cases k3 : k = 3
  · subst k3
    have e : VOk 3 n s = (decide (n = 0) && textOk s) := rfl
    rw [e]
    by_cases hn : n = 0
    case neg =>
      rw [decide_eq_false hn]
      ((conv => whnf); (repeat ((first | (refine VL.cons ?_) | (refine VL.nil ?_)); (conv => whnf))))
      (repeat (first | ((first | (refine VL.cons ?_) | (refine VL.nil ?_) | (refine VC.seqS rfl ?_) | (refine VC.region ?_) | (refine VC.cond ?_) | (refine VC.block ?_) | (refine VC.ret ?_) | (refine VBool.t ?_) | (refine VBool.f ?_) | (refine VBool.dF (by omega) ?_) | (refine VRead.fld ?_) | (refine VC.seq ?_)); (conv => whnf)) | (refine VRead.loadB hb rfl rfl ?_; (conv => whnf))))
      exact ⟨rfl, hB⟩
    subst hn
    by_cases h1 : s.length ≤ 400
    case neg =>
      have e : textOk s = false := by unfold textOk; rw [decide_eq_false h1]; rfl
      rw [e]
      ((conv => whnf); (repeat ((first | (refine VL.cons ?_) | (refine VL.nil ?_)); (conv => whnf))))
      (repeat (first | ((first | (refine VL.cons ?_) | (refine VL.nil ?_) | (refine VC.seqS rfl ?_) | (refine VC.region ?_) | (refine VC.cond ?_) | (refine VC.block ?_) | (refine VC.ret ?_) | (refine VBool.t ?_) | (refine VBool.f ?_) | (refine VBool.dF (by omega) ?_) | (refine VRead.lenT ?_) | (refine VRead.fld ?_) | (refine VC.seq ?_)); (conv => whnf)) | (refine VRead.loadB hb rfl rfl ?_; (conv => whnf))))
      exact ⟨rfl, hB⟩
    ((conv => whnf); (repeat ((first | (refine VL.cons ?_) | (refine VL.nil ?_)); (conv => whnf))))
    (repeat (first | ((first | (refine VL.cons ?_) | (refine VL.nil ?_) | (refine VC.seqS rfl ?_) | (refine VC.region ?_) | (refine VC.cond ?_) | (refine VC.block ?_) | (refine VBool.t ?_) | (refine VBool.f ?_) | (refine VBool.dT (by omega) ?_) | (refine VRead.lenT ?_) | (refine VRead.fld ?_) | (refine VC.seq ?_)); (conv => whnf)) | (refine VRead.loadB hb rfl rfl ?_; (conv => whnf))))
    refine VCall.of (refValid_any (txt s) W1 (by omega)) ?_
    rintro e W2 ⟨rfl, hB2⟩
    refine ⟨_, rfl, ?_⟩
    have hb2 := hb.below hB2 hb.lt
    have hB02 := hB.trans (hB2.mono hB.size)
    rw [show bl (txt s) = s from rfl]
    cases hv : Lib.validD s with
    | false =>
      have e : textOk s = false := by unfold textOk; rw [hv]; simp
      rw [e]
      ((conv => whnf); (repeat ((first | (refine VL.cons ?_)); (conv => whnf))))
      (repeat (first | ((first | (refine VL.cons ?_) | (refine VL.nil ?_) | (refine VC.ret ?_) | (refine VBool.f ?_)); (conv => whnf)) | (refine VRead.loadB hb2 rfl rfl ?_; (conv => whnf))))
      exact ⟨rfl, hB02⟩
    | true =>
      have e : textOk s = decide ((Rn.ps s).length ≤ 100) := by unfold textOk; rw [hv, decide_eq_true h1]; simp
      rw [e]
      ((conv => whnf); (repeat ((first | (refine VL.cons ?_)); (conv => whnf))))
      (repeat (first | ((first | (refine VL.cons ?_) | (refine VBool.t ?_) | (refine VRead.fld ?_)); (conv => whnf)) | (refine VRead.loadB hb2 rfl rfl ?_; (conv => whnf))))
      refine VCall.of (refCount_any (txt s) W2 (by omega)) ?_
      rintro e W3 ⟨rfl, hB3⟩
      refine ⟨_, rfl, ?_⟩
      rw [show bl (txt s) = s from rfl]
      ((conv => whnf); (repeat ((first | (refine VL.cons ?_)); (conv => whnf))))
      ((repeat ((first | (refine VL.cons ?_) | (refine VL.nil ?_) | (refine VC.ret ?_) | (refine VBool.t ?_)); (conv => whnf))))
      refine ⟨?_, hB02.trans (hB3.mono hB02.size)⟩
      show Ending.returned (.bool (decide (((Rn.ps s).length : Int) ≤ 100))) = _
      congr 2
      exact decide_eq_decide.2 (by omega)
  by_cases k4 : k = 4
  · subst k4
    have e : VOk 4 n s = (decide (1 ≤ n) && decide (n ≤ 4) && decide (s = [])) := rfl
    rw [e]
    by_cases hn : 1 ≤ n
    · by_cases hn4 : n ≤ 4
      · rw [decide_eq_true hn, decide_eq_true hn4]
        ((conv => whnf); (repeat ((first | (refine VL.cons ?_) | (refine VL.nil ?_)); (conv => whnf))))
        (repeat (first | ((first | (refine VL.cons ?_) | (refine VL.nil ?_) | (refine VC.seqS rfl ?_) | (refine VC.region ?_) | (refine VC.cond ?_) | (refine VC.block ?_) | (refine VC.ret ?_) | (refine VBool.t ?_) | (refine VBool.f ?_) | (refine VBool.dT (by omega) ?_) | (refine VRead.fld ?_) | (refine VC.seq ?_)); (conv => whnf)) | (refine VRead.loadB hb rfl rfl ?_; (conv => whnf))))
        exact ⟨hret, hB⟩
      · rw [decide_eq_true hn, decide_eq_false hn4]
        ((conv => whnf); (repeat ((first | (refine VL.cons ?_) | (refine VL.nil ?_)); (conv => whnf))))
        (repeat (first | ((first | (refine VL.cons ?_) | (refine VL.nil ?_) | (refine VC.seqS rfl ?_) | (refine VC.region ?_) | (refine VC.cond ?_) | (refine VC.block ?_) | (refine VC.ret ?_) | (refine VBool.t ?_) | (refine VBool.f ?_) | (refine VBool.dT (by omega) ?_) | (refine VBool.dF (by omega) ?_) | (refine VRead.fld ?_) | (refine VC.seq ?_)); (conv => whnf)) | (refine VRead.loadB hb rfl rfl ?_; (conv => whnf))))
        exact ⟨rfl, hB⟩
    · rw [decide_eq_false hn]
      ((conv => whnf); (repeat ((first | (refine VL.cons ?_) | (refine VL.nil ?_)); (conv => whnf))))
      (repeat (first | ((first | (refine VL.cons ?_) | (refine VL.nil ?_) | (refine VC.seqS rfl ?_) | (refine VC.region ?_) | (refine VC.cond ?_) | (refine VC.block ?_) | (refine VC.ret ?_) | (refine VBool.t ?_) | (refine VBool.f ?_) | (refine VBool.dF (by omega) ?_) | (refine VRead.fld ?_) | (refine VC.seq ?_)); (conv => whnf)) | (refine VRead.loadB hb rfl rfl ?_; (conv => whnf))))
      exact ⟨rfl, hB⟩
  have e : VOk k n s = false := by unfold VOk; rw [if_neg k0, if_neg k1, if_neg k2, if_neg k3, if_neg k4]
  rw [e]
  ((conv => whnf); (repeat ((first | (refine VL.cons ?_) | (refine VL.nil ?_)); (conv => whnf))))
  (repeat (first | ((first | (refine VL.cons ?_) | (refine VL.nil ?_) | (refine VC.seqS rfl ?_) | (refine VC.region ?_) | (refine VC.cond ?_) | (refine VC.block ?_) | (refine VC.ret ?_) | (refine VC.skip ?_) | (refine VBool.dF (by omega) ?_) | (refine VRead.fld ?_) | (refine VC.seq ?_)); (conv => whnf)) | (refine VRead.loadB hb rfl rfl ?_; (conv => whnf))))
  exact ⟨rfl, hB⟩
set_option maxHeartbeats 2000000 in
theorem rck_any (r : Rp) (W : World) : Calls Tryd.prog 32 #[.agg (rpC r)] W fun e W' => e = .returned (.bool (ROk r)) ∧ Below W.heap.size W W' := by
  refine calls_vc Tryd.func32 rfl (by kernel_rfl) ?_
  ((conv => whnf); (repeat ((first | (refine VL.cons ?_) | (refine VC.seqS rfl ?_) | (refine VC.region ?_)); (conv => whnf))))
  ((repeat ((fail); (conv => whnf))))
  refine VSem.boxB ?_
  intro W1 g hb hgb hlb hB
  replace hb : Blk W1 g 34 #[.int .i64 r.err, .int .i64 r.n, .int .i64 r.kind, .int .i64 r.vn, .string (txt r.s)] := hb
  by_cases h1 : 0 ≤ r.err
  case neg =>
    have e : ROk r = false := by unfold ROk; rw [decide_eq_false h1]; rfl
    rw [e]
    ((conv => whnf); (repeat ((first | (refine VL.cons ?_) | (refine VL.nil ?_) | (refine VC.seqS rfl ?_) | (refine VC.region ?_)); (conv => whnf))))
    (repeat (first | ((first | (refine VL.cons ?_) | (refine VL.nil ?_) | (refine VC.ret ?_) | (refine VBool.f ?_) | (refine VBool.dF (by omega) ?_) | (refine VRead.fld ?_)); (conv => whnf)) | (refine VRead.loadB hb rfl rfl ?_; (conv => whnf))))
    exact ⟨rfl, hB⟩
  by_cases h2 : r.err ≤ 24
  case neg =>
    have e : ROk r = false := by unfold ROk; rw [decide_eq_false h2]; simp
    rw [e]
    ((conv => whnf); (repeat ((first | (refine VL.cons ?_) | (refine VL.nil ?_) | (refine VC.seqS rfl ?_) | (refine VC.region ?_)); (conv => whnf))))
    (repeat (first | ((first | (refine VL.cons ?_) | (refine VL.nil ?_) | (refine VC.ret ?_) | (refine VBool.t ?_) | (refine VBool.f ?_) | (refine VBool.dT (by omega) ?_) | (refine VBool.dF (by omega) ?_) | (refine VRead.fld ?_)); (conv => whnf)) | (refine VRead.loadB hb rfl rfl ?_; (conv => whnf))))
    exact ⟨rfl, hB⟩
  by_cases h34 : (decide (0 ≤ r.n) && decide (r.n ≤ 1099511627776)) = true
  case neg =>
    have h34' : (decide (0 ≤ r.n) && decide (r.n ≤ 1099511627776)) = false := by simpa using h34
    have e : ROk r = false := by unfold ROk; rw [Bool.and_assoc _ (decide (0 ≤ r.n)), h34']; simp
    rw [e]
    ((conv => whnf); (repeat ((first | (refine VL.cons ?_) | (refine VL.nil ?_) | (refine VC.seqS rfl ?_) | (refine VC.region ?_)); (conv => whnf))))
    (repeat (first | ((first | (refine VL.cons ?_) | (refine VBool.t ?_) | (refine VBool.dT (by omega) ?_) | (refine VRead.fld ?_)); (conv => whnf)) | (refine VRead.loadB hb rfl rfl ?_; (conv => whnf))))
    refine VCall.of (counts_any r.n 0 W1) ?_
    rintro e W1' ⟨rfl, eW⟩
    obtain rfl := eW.symm
    refine ⟨_, rfl, ?_⟩
    rw [h34']
    ((conv => whnf); (repeat ((first | (refine VL.cons ?_)); (conv => whnf))))
    ((repeat ((first | (refine VL.cons ?_) | (refine VL.nil ?_) | (refine VC.ret ?_) | (refine VBool.f ?_)); (conv => whnf))))
    exact ⟨rfl, hB⟩
  have e : ROk r = VOk r.kind r.vn r.s := by unfold ROk; rw [Bool.and_assoc _ (decide (0 ≤ r.n)), h34, decide_eq_true h1, decide_eq_true h2]; rfl
  rw [e]
  ((conv => whnf); (repeat ((first | (refine VL.cons ?_) | (refine VL.nil ?_) | (refine VC.seqS rfl ?_) | (refine VC.region ?_)); (conv => whnf))))
  (repeat (first | ((first | (refine VL.cons ?_) | (refine VBool.t ?_) | (refine VBool.dT (by omega) ?_) | (refine VRead.fld ?_)); (conv => whnf)) | (refine VRead.loadB hb rfl rfl ?_; (conv => whnf))))
  refine VCall.of (counts_any r.n 0 W1) ?_
  rintro e W1' ⟨rfl, eW⟩
  obtain rfl := eW.symm
  refine ⟨_, rfl, ?_⟩
  rw [h34]
  ((conv => whnf); (repeat ((first | (refine VL.cons ?_)); (conv => whnf))))
  ((repeat ((first | (refine VL.cons ?_) | (refine VBool.t ?_) | (refine VRead.fld ?_)); (conv => whnf))))
  refine VRead.loadABi (vs := vC r.kind r.vn r.s) 2 (fun _ e => e ▸ hb) rfl rfl (by intro j hj; match j, hj with | 0, _ => rfl | 1, _ => rfl | 2, _ => rfl) ?_
  ((conv => whnf); (repeat ((first | (refine VL.cons ?_)); (conv => whnf))))
  ((repeat ((first | (refine VBool.t ?_)); (conv => whnf))))
  refine VCall.of (rvCheck_any r.kind r.vn r.s W1) ?_
  rintro e W2 ⟨rfl, hB2⟩
  refine ⟨_, rfl, ?_⟩
  ((conv => whnf); (repeat ((first | (refine VL.cons ?_) | (refine VL.nil ?_) | (refine VC.ret ?_)); (conv => whnf))))
  ((repeat ((fail); (conv => whnf))))
  exact ⟨rfl, hB.trans (hB2.mono hB.size)⟩
end Go.Proofs.YtnjhdbgejhnpfaaDoor
end

section
namespace Go.Proofs.YtnjhdbgejhnpfaaDoor.Crc

/-- one bit's step -/
def bit (r : Nat) : Nat := if r % 2 = 1 then (r / 2) ^^^ 3988292384 else r / 2
/-- n bits' steps -/
def bits : Nat → Nat → Nat
  | 0, r => r
  | n + 1, r => bits n (bit r)
/-- one byte's step -/
def byte (r x : Nat) : Nat := bits 8 (r ^^^ x)
/-- the register behind bytes -/
def reg (r : Nat) (l : List UInt8) : Nat := l.foldl (fun r x => byte r x.toNat) r
def more (s : Nat) (l : List UInt8) : Nat := (reg (4294967295 - s) l) ^^^ 4294967295

theorem not_eq {s : Nat} (h : s < 4294967296) : 4294967295 - s = s ^^^ 4294967295 := by
  have e := BitVec.toNat_not (x := BitVec.ofNat 32 s)
  have e2 := congrArg BitVec.toNat (BitVec.xor_allOnes (x := BitVec.ofNat 32 s))
  rw [e, BitVec.toNat_xor] at e2
  simp only [BitVec.toNat_ofNat, BitVec.toNat_allOnes] at e2
  rw [Nat.mod_eq_of_lt (by omega)] at e2
  simpa using e2.symm
theorem not_not {s : Nat} (h : s < 4294967296) : 4294967295 - (s ^^^ 4294967295) = s := by rw [← not_eq h]; omega
/-- the other text's step: the byte is not laid into the register ahead -/
def two (q y : Nat) : Nat := if q % 2 ≠ y % 2 then (q / 2) ^^^ 3988292384 else q / 2
/-! ### the sum is linear -/
theorem xor_cancel {a b c : Nat} (h : a ^^^ c = b ^^^ c) : a = b := by
  have := congrArg (· ^^^ c) h
  simpa [Nat.xor_assoc] using this
theorem xor_zero {a b : Nat} (h : a ^^^ b = 0) : a = b := xor_cancel (c := b) (by rw [h, Nat.xor_self])
/-! ### up to 32 bits in a row -/
end Go.Proofs.YtnjhdbgejhnpfaaDoor.Crc
end

section
namespace Go.Proofs.YtnjhdbgejhnpfaaDoor
set_option linter.unusedVariables false
open Go.RowKit

end Go.Proofs.YtnjhdbgejhnpfaaDoor
end

section
namespace Go.Proofs.YtnjhdbgejhnpfaaDoor
set_option linter.unusedVariables false
open Go.RowKit

end Go.Proofs.YtnjhdbgejhnpfaaDoor
end

section
namespace Go.Proofs.YtnjhdbgejhnpfaaDoor.Wire
set_option linter.unusedVariables false

/-- a number in groups of seven bits -/
def var : Nat → Nat → List UInt8
  | 0, u => [UInt8.ofNat u]
  | f + 1, u => if u < 128 then [UInt8.ofNat u] else UInt8.ofNat (u % 128 + 128) :: var f (u / 128)
/-- the sign below -/
def zz (v : Int) : Nat := if 0 ≤ v then (2 * v).toNat else (-2 * v - 1).toNat
def int (v : Int) : List UInt8 := var 9 (zz v)
def bool (t : Bool) : List UInt8 := [if t then 1 else 0]
def text (s : List UInt8) : List UInt8 := int s.length ++ s

theorem zz_lt {v : Int} (h : -9223372036854775808 ≤ v ∧ v ≤ 9223372036854775807) : zz v < 18446744073709551616 := by unfold zz; split <;> omega
theorem var_pos : ∀ (f u : Nat), 1 ≤ (var f u).length
  | 0, _ => by simp [var]
  | f + 1, u => by unfold var; split <;> simp
theorem var_le : ∀ (f u : Nat), (var f u).length ≤ f + 1
  | 0, _ => by simp [var]
  | f + 1, u => by
    unfold var
    split
    · simp
    · have := var_le f (u / 128); simp; omega
/-- what groups of seven bits say: the number, and what is left -/
def dec : Nat → Bool → List UInt8 → Option (Nat × List UInt8)
  | _, _, [] => none
  | 0, first, x :: r => if 1 < x.toNat ∨ (first = false ∧ x.toNat = 0) then none else some (x.toNat, r)
  | f + 1, first, x :: r => if first = false ∧ x.toNat = 0 then none else if x.toNat < 128 then some (x.toNat, r) else (dec f false r).map fun p => (x.toNat - 128 + 128 * p.1, p.2)
def uz (u : Nat) : Int := if u % 2 = 1 then -((u / 2 : Nat) : Int) - 1 else ((u / 2 : Nat) : Int)
/-- the number at the head of bytes, and what is left -/
def getInt (l : List UInt8) : Option (Int × List UInt8) := (dec 9 true l).map fun p => (uz p.1, p.2)

theorem uz_zz (v : Int) : uz (zz v) = v := by unfold uz zz; split <;> split <;> omega
theorem zz_uz (u : Nat) : zz (uz u) = u := by unfold uz zz; split <;> split <;> omega
theorem ofNat_toNat {u : Nat} (h : u < 256) : (UInt8.ofNat u).toNat = u := by rw [UInt8.toNat_ofNat']; omega
theorem dec_var : ∀ (f : Nat) (first : Bool) (u : Nat) (r : List UInt8), u < 2 * 128 ^ f → (first = true ∨ u ≠ 0) → dec f first (var f u ++ r) = some (u, r)
  | 0, first, u, r, h, h0 => by
    simp only [var, List.cons_append, List.nil_append, dec]
    rw [ofNat_toNat (by omega), if_neg]
    rintro (h1 | ⟨h1, h2⟩)
    · omega
    · rcases h0 with h0 | h0
      · rw [h0] at h1; cases h1
      · exact h0 h2
  | f + 1, first, u, r, h, h0 => by
    have hne : ¬ (first = false ∧ u = 0) := by
      rintro ⟨h1, h2⟩
      rcases h0 with h0 | h0
      · rw [h0] at h1; cases h1
      · exact h0 h2
    unfold var
    by_cases hu : u < 128
    · rw [if_pos hu]
      simp only [List.cons_append, List.nil_append, dec]
      rw [ofNat_toNat (by omega), if_neg hne, if_pos hu]
    · rw [if_neg hu]
      simp only [List.cons_append, dec]
      rw [ofNat_toNat (by omega), if_neg (by omega), if_neg (by omega), dec_var f false (u / 128) r (by rw [Nat.pow_succ] at h; omega) (.inr (by omega))]
      simp
      omega
theorem var_dec : ∀ (f : Nat) (first : Bool) (l : List UInt8) (u : Nat) (r : List UInt8), dec f first l = some (u, r) → l = var f u ++ r ∧ u < 2 * 128 ^ f ∧ (first = true ∨ u ≠ 0)
  | f, first, [], u, r, h => by cases f <;> simp [dec] at h
  | 0, first, x :: l, u, r, h => by
    simp only [dec] at h
    split at h
    · cases h
    · rename_i hc
      simp only [Option.some.injEq, Prod.mk.injEq] at h
      obtain ⟨rfl, rfl⟩ := h
      have hc' : ¬ 1 < x.toNat := fun k => hc (.inl k)
      refine ⟨by simp [var], by omega, ?_⟩
      cases first
      · exact .inr fun k => hc (.inr ⟨rfl, k⟩)
      · exact .inl rfl
  | f + 1, first, x :: l, u, r, h => by
    have hx := x.toNat_lt
    simp only [dec] at h
    split at h
    · cases h
    · rename_i hc
      split at h
      · rename_i h1
        simp only [Option.some.injEq, Prod.mk.injEq] at h
        obtain ⟨rfl, rfl⟩ := h
        refine ⟨by simp [var, h1], by have : 0 < 128 ^ f := Nat.pow_pos (by omega); rw [Nat.pow_succ]; omega, ?_⟩
        cases first
        · exact .inr fun k => hc ⟨rfl, k⟩
        · exact .inl rfl
      · rename_i h1
        obtain ⟨⟨u', r'⟩, hd, he⟩ := Option.map_eq_some_iff.1 h
        simp only [Prod.mk.injEq] at he
        obtain ⟨rfl, rfl⟩ := he
        obtain ⟨e1, e2, e3⟩ := var_dec f false l u' r' hd
        have e4 : u' ≠ 0 := by rcases e3 with e3 | e3; cases e3; exact e3
        refine ⟨?_, by rw [Nat.pow_succ]; omega, .inr (by omega)⟩
        unfold var
        rw [if_neg (by omega), show (x.toNat - 128 + 128 * u') % 128 + 128 = x.toNat from by omega, show (x.toNat - 128 + 128 * u') / 128 = u' from by omega]
        simp [e1]
theorem getInt_int {v : Int} (h : -9223372036854775808 ≤ v ∧ v ≤ 9223372036854775807) (r : List UInt8) : getInt (int v ++ r) = some (v, r) := by
  unfold getInt int
  rw [dec_var 9 true (zz v) r (by have := zz_lt h; omega) (.inl rfl)]
  simp [uz_zz]
theorem uz_range {u : Nat} (h : u < 18446744073709551616) : -9223372036854775808 ≤ uz u ∧ uz u ≤ 9223372036854775807 := by unfold uz; split <;> omega
theorem getInt_back {l r : List UInt8} {v : Int} (h : getInt l = some (v, r)) : l = int v ++ r ∧ -9223372036854775808 ≤ v ∧ v ≤ 9223372036854775807 := by
  unfold getInt at h
  obtain ⟨⟨u, r'⟩, hd, he⟩ := Option.map_eq_some_iff.1 h
  simp only [Prod.mk.injEq] at he
  obtain ⟨rfl, rfl⟩ := he
  obtain ⟨e1, e2, _⟩ := var_dec 9 true l u r' hd
  refine ⟨?_, uz_range (by omega)⟩
  unfold int
  rw [zz_uz]
  exact e1
/-- a Reader's state: what is left, or nothing: it isn't Ok -/
def intS : Option (List UInt8) → Int × Option (List UInt8)
  | none => (0, none)
  | some l => match getInt l with
    | none => (0, none)
    | some (v, r) => (v, some r)
def leftS : Option (List UInt8) → Nat
  | none => 0
  | some l => l.length
def endS : Option (List UInt8) → Bool
  | none => false
  | some l => decide (l.length = 0)
def countS (most : Int) (s : Option (List UInt8)) : Int × Option (List UInt8) :=
  match intS s with
  | (_, none) => (0, none)
  | (v, some r) => if v < 0 ∨ most < v ∨ (r.length : Int) < v then (0, none) else (v, some r)
def textS (most : Int) (s : Option (List UInt8)) : List UInt8 × Option (List UInt8) :=
  match countS most s with
  | (_, none) => ([], none)
  | (v, some r) => (r.take v.toNat, some (r.drop v.toNat))
def okS : Option (List UInt8) → Bool
  | none => false
  | some _ => true
theorem countS_range {most v : Int} {s : Option (List UInt8)} {r : List UInt8} (h : countS most s = (v, some r)) : 0 ≤ v ∧ v ≤ (r.length : Int) := by
  unfold countS at h
  split at h
  · cases h
  · split at h
    · cases h
    · rename_i hc
      simp only [Prod.mk.injEq, Option.some.injEq] at h
      obtain ⟨rfl, rfl⟩ := h
      omega
theorem intS_none {l : List UInt8} (h : dec 9 true l = none) : intS (some l) = (0, none) := by simp [intS, getInt, h]
theorem intS_some {l r : List UInt8} {u : Nat} (h : dec 9 true l = some (u, r)) : intS (some l) = (uz u, some r) := by simp [intS, getInt, h]
theorem dec_stop {f : Nat} {first : Bool} {x : UInt8} {r : List UInt8} (h : (f = 0 ∧ 1 < x.toNat) ∨ (first = false ∧ x.toNat = 0)) : dec f first (x :: r) = none := by
  cases f with
  | zero =>
    simp only [dec]
    rw [if_pos]
    rcases h with ⟨_, h⟩ | h
    · exact .inl h
    · exact .inr h
  | succ f =>
    simp only [dec]
    rw [if_pos]
    rcases h with ⟨h, _⟩ | h
    · cases h
    · exact h
theorem dec_end {f : Nat} {first : Bool} {x : UInt8} {r : List UInt8} (h1 : f = 0 → x.toNat ≤ 1) (h2 : first = false → x.toNat ≠ 0) (h3 : x.toNat < 128) : dec f first (x :: r) = some (x.toNat, r) := by
  cases f with
  | zero =>
    simp only [dec]
    rw [if_neg]
    rintro (h | ⟨ha, hb⟩)
    · have := h1 rfl; omega
    · exact h2 ha hb
  | succ f =>
    simp only [dec]
    rw [if_neg (fun h => h2 h.1 h.2), if_pos h3]
theorem dec_more {f : Nat} {first : Bool} {x : UInt8} {r : List UInt8} (h3 : 128 ≤ x.toNat) : dec (f + 1) first (x :: r) = (dec f false r).map fun p => (x.toNat - 128 + 128 * p.1, p.2) := by
  simp only [dec]
  rw [if_neg (by omega), if_neg (by omega)]
theorem int_len (v : Int) : 1 ≤ (int v).length ∧ (int v).length ≤ 10 := ⟨var_pos _ _, var_le _ _⟩
end Go.Proofs.YtnjhdbgejhnpfaaDoor.Wire
end

section
namespace Go.Proofs.YtnjhdbgejhnpfaaDoor
set_option linter.unusedVariables false
open Go.RowKit

theorem slice_lhm (w : World) (A : Option Addr) (n c : Nat) (hk : n ≤ c) :
    (Instr.slice 35 (.slice A n c) none (some (.int .i64 (n : Int))) (some (.int .i64 (n : Int)))).run Tryd.prog w = .ok (.slice A n n) w := by
  rw [run_slice_hm w 35 A n c (by kernel_rfl) .i64 .i64 n n (by omega) (by omega) (by omega)]
  rw [show (sizeOf (Tryd.prog.elem 35)).run Tryd.prog w = .ok 1 w from by kernel_rfl]
  have h := cutA_zero A n
  unfold cutA at h
  simp [Result.andThen, sliced, h]

theorem zz_go {v : Int} (hv : -9223372036854775808 ≤ v ∧ v ≤ 9223372036854775807) :
    bits BinOp.xor IntKind.u64 (IntKind.u64.wrap (IntKind.u64.wrap v * 2)) (IntKind.u64.wrap (v / 9223372036854775808)) = (Wire.zz v : Int) := by
  simp only [IntKind.wrap_u64]
  unfold Wire.zz
  split
  · rename_i h
    rw [show v % 18446744073709551616 * 2 % 18446744073709551616 = (((2 * v).toNat : Nat) : Int) from by omega, show v / 9223372036854775808 % 18446744073709551616 = ((0 : Nat) : Int) from by omega,
      bits_xor_u64_nat _ _ (by omega) (by omega), Nat.xor_zero]
  · rename_i h
    rw [show v % 18446744073709551616 * 2 % 18446744073709551616 = (((2 * v + 18446744073709551616).toNat : Nat) : Int) from by omega,
      show v / 9223372036854775808 % 18446744073709551616 = ((18446744073709551615 : Nat) : Int) from by omega, bits_xor_u64_nat _ _ (by omega) (by omega), u64_not (by omega)]
    omega
set_option maxHeartbeats 400000 in
theorem putInt_any (A : Option Addr) (n c : Nat) (l : List UInt8) (v : Int) (w : World) (hn : n + 10 ≤ 140737488355328) (hnc : n ≤ c) (hv : -9223372036854775808 ≤ v ∧ v ≤ 9223372036854775807)
    (hrd : Reads w w.heap.size 1 A n (bv l)) :
    Calls Tryd.prog 33 #[.slice A n c, .int .i64 v] w fun e w' => ∃ A' m c', e = .returned (.slice A' m c') ∧ Own w' w.heap.size (.slice A' m c') m (l ++ Wire.int v) ∧ Below w.heap.size w w' := by
  have hA : A = none → n = 0 := hrd.none_zero
  have hs1 := fun w => slice_lhm w A n c hnc
  have hz : Hid (Wire.zz v < 2 * 128 ^ 9) := by have := Wire.zz_lt hv; show _ < _; omega
  go_enter Tryd.func33, Tryd.ntmps33
  go_upto_region 2 with fail
  go_cut [5] (fun s5 wx => wx = w ∧ s5 = .int .u64 (Wire.zz v : Int))
  case first =>
    go_wp2
    go_meet
    exact ⟨rfl, by rw [zz_go hv]⟩
  case rest =>
  obtain ⟨rfl, rfl⟩ := hcut
  clear hv
  go_wp2
  go_loopw [0, 5] (fun b u wr => ∃ (m : Nat) (pre : List UInt8) (q f : Nat), u = .int .u64 (q : Int) ∧ AppB wr wc.heap.size b m (l ++ pre) ∧ f ≤ 9 ∧ m + f ≤ n + 9 ∧ Hid (q < 2 * 128 ^ f) ∧
      Hid (pre ++ Wire.var f q = Wire.int v) ∧ Below wc.heap.size wc wr) (fun _ u _ => (intOf u).toNat)
  case atStart =>
    refine ⟨n, [], Wire.zz v, 9, ?_, .inr ⟨A, rfl, by simpa using hrd, hA⟩, by omega, by omega, hz, rfl, Below.refl _ _⟩
    rfl
  case round =>
    obtain ⟨m, pre, q, f, rfl, hap, hf, hm, hq, HV, hbr⟩ := hrel
    obtain ⟨A1, c1, rfl, hc1, hn1⟩ := hap.form
    by_cases hlt : 128 ≤ q
    · have e1 := u8_or128 q
      obtain ⟨x, hx⟩ : ∃ x : UInt8, x.toNat = q % 128 + 128 := ⟨UInt8.ofNat (q % 128 + 128), by rw [UInt8.toNat_ofNat']; omega⟩
      rw [← hx] at e1
      have HX := Lib.hid hx
      clear hx
      have ht : decide ((128 : Int) ≤ (q : Int)) = true := by simp; omega
      have HLT := Lib.hid hlt
      clear hlt
      have hsz := hbr.size
      have hm1 : m + 1 ≤ 140737488355328 := by omega
      go_wp2_with (at_builtin; refine app_grow _ rfl (.tmp 21) (.tmp 25) rfl wc.heap.size _ m (l ++ pre) rfl (hap.alloc hsz _) _ ⟨wr.heap.size, 0, none⟩ 1 1 [x] rfl (reads_new wr [x] _ _ _ rfl 1 rfl) (Nat.le_refl _) hm1 (Nat.le_trans hsz (by simp)) ?_; intro A2 c2 w2 hO2 hb2)
      go_roundw
      case rel =>
        have hq' := hq.out
        have hl' := HLT.out
        obtain ⟨f', rfl⟩ : ∃ f', f = f' + 1 := by
          cases f with
          | zero => omega
          | succ f' => exact ⟨f', rfl⟩
        refine ⟨m + 1, pre ++ [x], q / 128, f', by go_num, .inl (by rw [← List.append_assoc]; exact hO2), by omega, by omega, ?_, ?_, (hbr.alloc hsz _).trans hb2⟩
        · show _ < _
          rw [Nat.pow_succ] at hq'
          omega
        · show _ = _
          rw [← HV.out, List.append_assoc]
          congr 1
          have hxe : x = UInt8.ofNat (q % 128 + 128) := UInt8.toNat_inj.1 (by rw [HX.out, UInt8.toNat_ofNat']; omega)
          conv => rhs; unfold Wire.var
          rw [if_neg (by omega), hxe]
          rfl
      case measure =>
        have hl' := HLT.out
        simp [intOf]; omega
    · have ht : decide ((128 : Int) ≤ (q : Int)) = false := by simp; omega
      have HLT := Lib.hid hlt
      clear hlt
      obtain ⟨x, hx⟩ : ∃ x : UInt8, x.toNat = q := ⟨UInt8.ofNat q, by have := HLT.out; rw [UInt8.toNat_ofNat']; omega⟩
      have e1 : (q : Int) % 256 = (x.toNat : Int) := by have := x.toNat_lt; omega
      have HX := Lib.hid hx
      clear hx
      have hsz := hbr.size
      have hm1 : m + 1 ≤ 140737488355328 := by omega
      go_wp2_with (at_builtin; refine app_grow _ rfl (.tmp 29) (.tmp 32) rfl wc.heap.size _ m (l ++ pre) rfl (hap.alloc hsz _) _ ⟨wr.heap.size, 0, none⟩ 1 1 [x] rfl (reads_new wr [x] _ _ _ rfl 1 rfl) (Nat.le_refl _) hm1 (Nat.le_trans hsz (by simp)) ?_; intro A2 c2 w2 hO2 hb2)
      go_ret
      refine ⟨A2, m + 1, c2, rfl, ?_, (hbr.alloc hsz _).trans hb2⟩
      rw [← HV.out, ← List.append_assoc]
      have hxe : Wire.var f q = [x] := by
        have hl' := HLT.out
        have hxe : x = UInt8.ofNat q := UInt8.toNat_inj.1 (by rw [HX.out, UInt8.toNat_ofNat']; omega)
        cases f with
        | zero => simp [Wire.var, hxe]
        | succ f => unfold Wire.var; rw [if_pos (by omega), hxe]
      rw [hxe]
      exact hO2

set_option maxHeartbeats 400000 in
theorem putText_any (A : Option Addr) (n c : Nat) (l : List UInt8) (s : ByteArray) (w : World) (hn : n + 10 + s.size ≤ 140737488355328) (hnc : n ≤ c) (hrd : Reads w w.heap.size 1 A n (bv l)) :
    Calls Tryd.prog 34 #[.slice A n c, .string s] w fun e w' => ∃ A' m c', e = .returned (.slice A' m c') ∧ Own w' w.heap.size (.slice A' m c') m (l ++ Wire.text s.data.toList) ∧ Below w.heap.size w w' := by
  have hls : Hid (s.data.toList.length = s.size) := by show _ = _; rw [Array.length_toList]; rfl
  have hln := Lib.hid (Wire.int_len (s.size : Int))
  have hlr : Hid (l.length = n) := by have := hrd.1; rw [bv_length] at this; show _ = _; omega
  go_enter Tryd.func34, Tryd.ntmps34
  go_wp2_with fail
  refine (putInt_any _ _ _ l s.size _ (by omega) hnc (by omega) hrd).mono ?_
  rintro e w1 ⟨A1, m1, c1, rfl, hO1, hb1⟩
  have hm1 : m1 + s.size ≤ 140737488355328 := by
    have h1 := hO1.len
    have h2 := hln.out
    have h3 := hlr.out
    rw [List.length_append] at h1
    omega
  go_wp2_with (at_builtin; refine app_text _ rfl (.tmp 8) (.tmp 9) rfl w.heap.size _ m1 _ rfl hO1 s rfl hm1 hb1.size ?_; intro A2 c2 w2 hO2 hb2)
  go_ret
  refine ⟨A2, _, c2, rfl, ?_, hb1.trans hb2⟩
  unfold Wire.text
  rw [hls.out, ← List.append_assoc]
  exact hO2

set_option maxHeartbeats 400000 in
theorem refInt_any (v : Int) (w : World) (hv : -9223372036854775808 ≤ v ∧ v ≤ 9223372036854775807) :
    Calls Tryd.prog 45 #[.int .i64 v] w fun e w' => ∃ A' m c', e = .returned (.slice A' m c') ∧ Own w' w.heap.size (.slice A' m c') m (Wire.int v) ∧ Below w.heap.size w w' := by
  have hz : Hid (Wire.zz v < 2 * 128 ^ 9) := by have := Wire.zz_lt hv; show _ < _; omega
  have h1 : 0 ≤ v → Wire.zz v = (2 * v).toNat := fun h => by unfold Wire.zz; rw [if_pos h]
  have h2 : v < 0 → Wire.zz v = (-2 * v - 1).toNat := fun h => by unfold Wire.zz; rw [if_neg (by omega)]
  have H1 := Lib.hid h1
  have H2 := Lib.hid h2
  clear h1 h2
  go_enter Tryd.func45, Tryd.ntmps45
  go_upto_if 9 with fail
  go_cut [3] (fun s3 wx => wx = w ∧ s3 = .int .u64 (Wire.zz v : Int))
  case first =>
    by_cases hneg : v < 0
    · have e1 : IntKind.u64.wrap (IntKind.u64.wrap (-(v + 1)) * 2 + 1) = (Wire.zz v : Int) := by
        rw [H2.out hneg]; simp only [IntKind.wrap_u64]; omega
      go_wp2
      go_meet
      refine ⟨rfl, congrArg _ ?_⟩
      rw [H2.out hneg]
      omega
    · have hpos : 0 ≤ v := by omega
      go_wp2
      go_meet
      refine ⟨rfl, congrArg _ ?_⟩
      rw [H1.out hpos]
      simp only [IntKind.wrap_u64]
      omega
  case rest =>
  obtain ⟨rfl, rfl⟩ := hcut
  clear hv
  go_wp2
  go_loopw [3, 4] (fun u b wr => ∃ (m : Nat) (pre : List UInt8) (q f : Nat), u = .int .u64 (q : Int) ∧ Own wr wc.heap.size b m pre ∧ f ≤ 9 ∧ m + f ≤ 9 ∧ Hid (q < 2 * 128 ^ f) ∧
      Hid (pre ++ Wire.var f q = Wire.int v) ∧ Below wc.heap.size wc wr) (fun u _ _ => (intOf u).toNat)
  case atStart => exact ⟨0, [], Wire.zz v, 9, rfl, Own.nil _ _, by omega, by omega, hz, rfl, Below.refl _ _⟩
  case round =>
    obtain ⟨m, pre, q, f, rfl, hO, hf, hm, hq, HV, hbr⟩ := hrel
    obtain ⟨A1, c1, rfl⟩ := hO.form
    have hsz := hbr.size
    have hm1 : m + 1 ≤ 140737488355328 := by omega
    by_cases hlt : 128 ≤ q
    · have ht : decide ((128 : Int) ≤ (q : Int)) = true := by simp; omega
      have HLT := Lib.hid hlt
      clear hlt
      obtain ⟨x, hx⟩ : ∃ x : UInt8, x.toNat = q % 128 + 128 := ⟨UInt8.ofNat (q % 128 + 128), by rw [UInt8.toNat_ofNat']; omega⟩
      have e1 : (q : Int) % 128 + 128 = (x.toNat : Int) := by omega
      have e2 : IntKind.u64.wrap ((q : Int) / 128) = (q : Int) / 128 := by
        have hq' := hq.out
        have h9 : 128 ^ f ≤ 128 ^ 9 := Nat.pow_le_pow_right (by omega) hf
        have hq2 : q < 18446744073709551616 := Nat.lt_of_lt_of_le hq' (by omega)
        rw [IntKind.wrap_u64]
        omega
      have HX := Lib.hid hx
      clear hx
      go_wp2_with (at_builtin; refine app_grow _ rfl (.tmp 18) (.tmp 23) rfl wc.heap.size _ m pre rfl (.inl (hO.alloc _)) _ ⟨wr.heap.size, 0, none⟩ 1 1 [x] rfl (reads_new wr [x] _ _ _ rfl 1 rfl) (Nat.le_refl _) hm1 (Nat.le_trans hsz (by simp)) ?_; intro A2 c2 w2 hO2 hb2)
      go_roundw
      case rel =>
        have hq' := hq.out
        have hl' := HLT.out
        obtain ⟨f', rfl⟩ : ∃ f', f = f' + 1 := by
          cases f with
          | zero => omega
          | succ f' => exact ⟨f', rfl⟩
        refine ⟨m + 1, pre ++ [x], q / 128, f', by go_num, hO2, by omega, by omega, ?_, ?_, (hbr.alloc hsz _).trans hb2⟩
        · show _ < _
          rw [Nat.pow_succ] at hq'
          omega
        · show _ = _
          rw [← HV.out, List.append_assoc]
          congr 1
          have hxe : x = UInt8.ofNat (q % 128 + 128) := UInt8.toNat_inj.1 (by rw [HX.out, UInt8.toNat_ofNat']; omega)
          conv => rhs; unfold Wire.var
          rw [if_neg (by omega), hxe]
          rfl
      case measure =>
        have hl' := HLT.out
        simp [intOf]; omega
    · have ht : decide ((128 : Int) ≤ (q : Int)) = false := by simp; omega
      have HLT := Lib.hid hlt
      clear hlt
      obtain ⟨x, hx⟩ : ∃ x : UInt8, x.toNat = q := ⟨UInt8.ofNat q, by have := HLT.out; rw [UInt8.toNat_ofNat']; omega⟩
      have e1 : (q : Int) % 256 = (x.toNat : Int) := by have := x.toNat_lt; omega
      have HX := Lib.hid hx
      clear hx
      go_wp2_with (at_builtin; refine app_grow _ rfl (.tmp 27) (.tmp 30) rfl wc.heap.size _ m pre rfl (.inl (hO.alloc _)) _ ⟨wr.heap.size, 0, none⟩ 1 1 [x] rfl (reads_new wr [x] _ _ _ rfl 1 rfl) (Nat.le_refl _) hm1 (Nat.le_trans hsz (by simp)) ?_; intro A2 c2 w2 hO2 hb2)
      go_ret
      refine ⟨A2, m + 1, c2, rfl, ?_, (hbr.alloc hsz _).trans hb2⟩
      have hxe : Wire.var f q = [x] := by
        have hl' := HLT.out
        have hxe : x = UInt8.ofNat q := UInt8.toNat_inj.1 (by rw [HX.out, UInt8.toNat_ofNat']; omega)
        cases f with
        | zero => simp [Wire.var, hxe]
        | succ f => unfold Wire.var; rw [if_pos (by omega), hxe]
      rw [← HV.out, hxe]
      exact hO2

set_option maxHeartbeats 400000 in
theorem refText_any (s : ByteArray) (w : World) (hn : 10 + s.size ≤ 140737488355328) :
    Calls Tryd.prog 46 #[.string s] w fun e w' => ∃ A' m c', e = .returned (.slice A' m c') ∧ Own w' w.heap.size (.slice A' m c') m (Wire.text s.data.toList) ∧ Below w.heap.size w w' := by
  have hls : Hid (s.data.toList.length = s.size) := by show _ = _; rw [Array.length_toList]; rfl
  have hln := Lib.hid (Wire.int_len (s.size : Int))
  go_enter Tryd.func46, Tryd.ntmps46
  go_wp2_with fail
  refine (refInt_any s.size _ (by omega)).mono ?_
  rintro e w1 ⟨A1, m1, c1, rfl, hO1, hb1⟩
  have hm1 : m1 + s.size ≤ 140737488355328 := by
    have h1 := hO1.len
    have h2 := hln.out
    omega
  go_wp2_with (at_builtin; refine app_text _ rfl (.tmp 5) (.tmp 6) rfl w.heap.size _ m1 _ rfl hO1 s rfl hm1 hb1.size ?_; intro A2 c2 w2 hO2 hb2)
  go_ret
  refine ⟨A2, _, c2, rfl, ?_, hb1.trans hb2⟩
  unfold Wire.text
  rw [hls.out]
  exact hO2
end Go.Proofs.YtnjhdbgejhnpfaaDoor
end

section
namespace Go.Proofs.YtnjhdbgejhnpfaaDoor
set_option linter.unusedVariables false
open Go.RowKit

end Go.Proofs.YtnjhdbgejhnpfaaDoor
end

section
namespace Go.Proofs.YtnjhdbgejhnpfaaDoor
set_option linter.unusedVariables false
open Go.RowKit

/-- a Reader in block g: its bytes, its place, whether something was wrong -/
def Rdr (T : TypeId) (w : World) (g : Nat) (l : List UInt8) (p : Nat) (bad : Bool) : Prop :=
  ∃ A n c, Blk w g T #[.slice A n c, .int .i64 (p : Int), .bool bad] ∧ Reads w g 1 A n (bv l) ∧ n ≤ c ∧ n ≤ 4611686018427387904 ∧ p ≤ n
/-- .. told by what is left -/
def RS (T : TypeId) (w : World) (g : Nat) (s : Option (List UInt8)) : Prop :=
  ∃ l p bad, Rdr T w g l p bad ∧ s = if bad then none else some (l.drop p)
theorem Rdr.lt {T : TypeId} {w : World} {g : Nat} {l : List UInt8} {p : Nat} {bad : Bool} (h : Rdr T w g l p bad) : g < w.heap.size := by
  obtain ⟨_, _, _, h, _⟩ := h; exact h.lt
theorem RS.lt {T : TypeId} {w : World} {g : Nat} {s : Option (List UInt8)} (h : RS T w g s) : g < w.heap.size := by
  obtain ⟨_, _, _, h, _⟩ := h; exact h.lt
theorem RS.mk {T : TypeId} {w : World} {g : Nat} {l : List UInt8} {p : Nat} {A : Option Addr} {n c : Nat} {bad : Bool} (hb : Blk w g T #[.slice A n c, .int .i64 (p : Int), .bool bad]) (hr : Reads w g 1 A n (bv l)) (hnc : n ≤ c)
    (hc : n ≤ 4611686018427387904) (hp : p ≤ n) {s : Option (List UInt8)} (hs : s = if bad then none else some (l.drop p)) : RS T w g s := ⟨l, p, bad, ⟨A, n, c, hb, hr, hnc, hc, hp⟩, hs⟩
theorem RS.below {T : TypeId} {w w' : World} {g B : Nat} {s : Option (List UInt8)} (h : RS T w g s) (hb : Below B w w') (hg : g < B) : RS T w' g s := by
  obtain ⟨l, p, bad, ⟨A, n, c, h1, h2, h3⟩, h4⟩ := h
  exact ⟨l, p, bad, ⟨A, n, c, h1.below hb hg, h2.below (hb.mono (by omega)), h3⟩, h4⟩
theorem RS.other {T : TypeId} {w w' : World} {g k : Nat} {s : Option (List UInt8)} (h : RS T w g s) (hb : w.grownBy w' (some k)) (hg : g < k) : RS T w' g s := by
  have hlt := h.lt
  obtain ⟨l, p, bad, ⟨A, n, c, h1, h2, h3⟩, h4⟩ := h
  exact ⟨l, p, bad, ⟨A, n, c, h1.grown hb (fun e => by injection e with e; omega), h2.only hb (by omega) (by omega), h3⟩, h4⟩
theorem RS.drewN {T : TypeId} {w : World} {g : Nat} {s : Option (List UInt8)} (h : RS T w g s) (n : Nat) : RS T (w.drewN n) g s := by
  obtain ⟨l, p, bad, ⟨A, n', c, h1, h2, h3⟩, h4⟩ := h
  exact ⟨l, p, bad, ⟨A, n', c, h1.drewN n, h2.drewN n, h3⟩, h4⟩

theorem uz_go {s : Nat} (h : s < 18446744073709551616) :
    bits BinOp.xor IntKind.i64 (wrap64 ((s : Int) / 2)) (wrap64 (-wrap64 (bits BinOp.and IntKind.u64 (s : Int) 1))) = Wire.uz s := by
  rw [show (1 : Int) = ((1 : Nat) : Int) from rfl, u64_and_nat _ _ h (by omega), nat_mask1]
  have e1 : wrap64 ((s : Int) / 2) = ((s / 2 : Nat) : Int) := by rw [IntWalk.wrap64_in _ ⟨by omega, by omega⟩]; omega
  rw [e1]
  unfold Wire.uz
  by_cases h2 : s % 2 = 1
  · rw [if_pos h2, h2, show wrap64 (-wrap64 ((1 : Nat) : Int)) = -1 from by rw [IntWalk.wrap64_in ((1 : Nat) : Int) ⟨by decide, by decide⟩, IntWalk.wrap64_in _ ⟨by decide, by decide⟩]; rfl, i64_xor_neg _ (by omega)]
  · rw [if_neg h2, show s % 2 = 0 from by omega, show wrap64 (-wrap64 ((0 : Nat) : Int)) = 0 from by rw [IntWalk.wrap64_in ((0 : Nat) : Int) ⟨by decide, by decide⟩, IntWalk.wrap64_in _ ⟨by decide, by decide⟩]; rfl, i64_xor_zero _ (by omega)]

/-- what the loop's round reckons -/
structure IntStep (x : UInt8) (k q y z s : Nat) : Prop where
  e1 : bits BinOp.and IntKind.u8 (x.toNat : Int) 127 = (y : Int)
  e2 : IntKind.u64.wrap (IntKind.u64.wrap (y : Int) * 2 ^ (7 * k)) = (z : Int)
  e3 : bits BinOp.or IntKind.u64 (q : Int) (z : Int) = (s : Int)
theorem intStep (x : UInt8) (k q : Nat) (hk : k ≤ 9) (hq : q < 128 ^ k) (h9 : k = 9 → x.toNat ≤ 1) : ∃ y z s, IntStep x k q y z s ∧ s = q + 128 ^ k * (x.toNat % 128) ∧ s < 18446744073709551616 := by
  have hx := x.toNat_lt
  have hp : 2 ^ (7 * k) = 128 ^ k := by rw [Nat.pow_mul]
  have hz : x.toNat % 128 * 128 ^ k < 18446744073709551616 ∧ q + x.toNat % 128 * 128 ^ k < 18446744073709551616 := by
    rcases Nat.lt_or_ge k 9 with h | h
    · have h8 : 128 ^ k ≤ 128 ^ 8 := Nat.pow_le_pow_right (by omega) (by omega)
      have h7 : x.toNat % 128 * 128 ^ k ≤ 127 * 128 ^ 8 := Nat.mul_le_mul (by omega) h8
      omega
    · obtain rfl : k = 9 := by omega
      have := h9 rfl
      have h7 : x.toNat % 128 * 128 ^ 9 ≤ 1 * 128 ^ 9 := Nat.mul_le_mul (by omega) (Nat.le_refl _)
      omega
  refine ⟨x.toNat % 128, x.toNat % 128 * 128 ^ k, q + 128 ^ k * (x.toNat % 128), ⟨u8_and127 x, ?_, ?_⟩, rfl, by rw [Nat.mul_comm (128 ^ k)]; exact hz.2⟩
  · have e : ((x.toNat % 128 : Nat) : Int) * 2 ^ (7 * k) = ((x.toNat % 128 * 128 ^ k : Nat) : Int) := by rw [← hp]; simp
    rw [IntWalk.u64_in ((x.toNat % 128 : Nat) : Int) (by omega), e, IntWalk.u64_in _ (by omega)]
  · rw [Nat.mul_comm (128 ^ k)]
    exact u64_or_add (i := 7 * k) (by rw [hp]; exact hq) hz.1 (by rw [hp]; exact Nat.dvd_mul_left _ _) hz.2
end Go.Proofs.YtnjhdbgejhnpfaaDoor
end

section
namespace Go.Proofs.YtnjhdbgejhnpfaaDoor
set_option linter.unusedVariables false
open Go.RowKit

/-- the frame at the jump -/
def JumpFrame (g : Nat) (a : Act) : Prop := ∃ (u2 u3 u4 u5 u6 u7 u8 u9 u10 u11 u12 u13 u14 u15 u16 u17 u18 u19 u20 u21 u22 u23 u24 u25 u26 u27 u28 u29 u30 u31 u32 u33 u34 u35 u36 u37 u38 u39 u40 u41 u42 u43 u44 u45 u46 u47 u48 u49 u50 u51 u52 u53 u54 u55 u56 u57 u58 u59 u60 u61 u62 u63 u64 u65 u66 u67 u68 u69 u70 u71 u72 u73 u74 u75 u76 u77 u78 u79 u80 : Value), a = { tmps := #[.pointer (some ⟨g, 0, none⟩), undef, u2, u3, u4, u5, u6, u7, u8, u9, u10, u11, u12, u13, u14, u15, u16, u17, u18, u19, u20, u21, u22, u23, u24, u25, u26, u27, u28, u29, u30, u31, u32, u33, u34, u35, u36, u37, u38, u39, u40, u41, u42, u43, u44, u45, u46, u47, u48, u49, u50, u51, u52, u53, u54, u55, u56, u57, u58, u59, u60, u61, u62, u63, u64, u65, u66, u67, u68, u69, u70, u71, u72, u73, u74, u75, u76, u77, u78, u79, u80], defers := [] }

set_option maxRecDepth 100000 in
set_option maxHeartbeats 1000000 in
theorem rInt_ok (w : World) (g : Nat) (l : List UInt8) (a0 : Nat) (hr : Rdr 73 w g l a0 false) :
    Calls Tryd.prog 37 #[.pointer (some ⟨g, 0, none⟩)] w fun e w' =>
      e = .returned (.int .i64 (Wire.intS (some (l.drop a0))).1) ∧ RS 73 w' g (Wire.intS (some (l.drop a0))).2 ∧ w.grownBy w' (some g) := by
  obtain ⟨A, n, c, hb, hrd, hnc, hc, han⟩ := hr
  have hgl := hb.lt
  have hln : Hid (l.length = n) := by have := hrd.1; rw [bv_length] at this; show _ = _; omega
  go_enter Tryd.func37, Tryd.ntmps37
  go_wp2
  refine wp_scope_jumps 0 (fun a' w' => JumpFrame g a' ∧ Hid (Wire.intS (some (l.drop a0)) = (0, none)) ∧ (∃ (A' : Option Addr) (n' c' p' : Nat), Blk w' g 73 #[.slice A' n' c', .int .i64 (p' : Int), .bool false] ∧ Reads w' g 1 A' n' (bv l) ∧ n' ≤ c' ∧ n' ≤ 4611686018427387904 ∧ p' ≤ n') ∧ w.grownBy w' (some g)) (fun _ _ => 0) rfl ?_ ?_
  case refine_2 =>
    rintro a' w' ⟨⟨u2, u3, u4, u5, u6, u7, u8, u9, u10, u11, u12, u13, u14, u15, u16, u17, u18, u19, u20, u21, u22, u23, u24, u25, u26, u27, u28, u29, u30, u31, u32, u33, u34, u35, u36, u37, u38, u39, u40, u41, u42, u43, u44, u45, u46, u47, u48, u49, u50, u51, u52, u53, u54, u55, u56, u57, u58, u59, u60, u61, u62, u63, u64, u65, u66, u67, u68, u69, u70, u71, u72, u73, u74, u75, u76, u77, u78, u79, u80, rfl⟩, HI, ⟨A', n', c', p', hbj, hrj, hnj, hcj, hpj⟩, hgj⟩
    have h0 := hbj.cell 0
    have h1 := hbj.cell 1
    have h2 := hbj.cell 2
    have f2 := hbj.frozen 2
    have hbk : Blk (w'.setCell ⟨g, 2, none⟩ (.bool true)) g 73 #[.slice A' n' c', .int .i64 (p' : Int), .bool true] := hbj.set_ 2 (.bool true)
    have hgk : w.grownBy (w'.setCell ⟨g, 2, none⟩ (.bool true)) (some g) := only_setCell hgj (.inl rfl) _
    simp at h0 h1 h2
    go_wp2
    simp only [Exit.jump]
    go_ret
    rw [HI.out]
    exact ⟨rfl, RS.mk hbk (hrj.only (only_setCell (only_refl w' g) (.inl rfl) _) (Nat.le_of_lt hbj.lt) (Nat.le_refl _)) hnj hcj hpj rfl, hgk⟩
  go_wp2
  go_loopw [3, 4, 5] (fun u i _ wr => ∃ (k q p : Nat), u = .int .u64 (q : Int) ∧ i = .int .i64 (k : Int) ∧ k ≤ 9 ∧ Hid (q < 128 ^ k) ∧ Hid (p = a0 + k) ∧ p ≤ n ∧ Blk wr g 73 #[.slice A n c, .int .i64 (p : Int), .bool false] ∧
      Hid (Wire.dec 9 true (l.drop a0) = (Wire.dec (9 - k) (decide (k = 0)) (l.drop p)).map fun r => (q + 128 ^ k * r.1, r.2)) ∧ w.grownBy wr (some g)) (fun _ i _ _ => 9 - (intOf i).toNat)
  case atStart => exact ⟨0, 0, a0, rfl, rfl, by omega, by show _ < _; simp, rfl, han, hb, by show _ = _; simp, only_refl w g⟩
  case round =>
    obtain ⟨k, q, p, rfl, rfl, hk, hq, HP, hak, hbw, HD, hgr⟩ := hrel
    have h0 := hbw.cell 0
    have h1 := hbw.cell 1
    have h2 := hbw.cell 2
    have f1 := hbw.frozen 1
    have f2 := hbw.frozen 2
    have hszr := hgr.size
    simp at h0 h1 h2
    have t1 : decide ((k : Int) < 10) = true := by simp; omega
    by_cases hlt : p < n
    · obtain ⟨ad, u, hAd, _, hx, hcx⟩ := (hrd.only hgr (by omega) (Nat.le_refl _)).at_ hlt
      obtain ⟨x, hx', rfl⟩ := bv_at hx
      subst hAd
      have hcw : wr.cell? (ad.add p) = some (.int .u8 (x.toNat : Int)) := hcx
      have hld : l.drop p = x :: l.drop (p + 1) := by
        have e := List.drop_eq_getElem_cons (l := l) (i := p) (by have := hln.out; omega)
        rw [e]
        congr 1
        have := List.getElem?_eq_some_iff.1 hx'
        exact this.2
      have HL := Lib.hid hld
      clear hx' hx hcx hld
      have hways : (k = 9 ∧ 1 < x.toNat) ∨ (k = 9 ∧ x.toNat = 0) ∨ (k < 9 ∧ 0 < k ∧ x.toNat = 0) ∨ (k = 9 ∧ x.toNat = 1) ∨ (k < 9 ∧ 0 < k ∧ 0 < x.toNat ∧ x.toNat < 128) ∨ (k = 0 ∧ x.toNat < 128) ∨ (k < 9 ∧ 0 < k ∧ 128 ≤ x.toNat) ∨ (k = 0 ∧ 128 ≤ x.toNat) := by have := x.toNat_lt; omega
      have hbq : ∀ N, Blk ((wr.drewN N).setCell ⟨g, 1, none⟩ (.int .i64 ((p : Int) + 1))) g 73 #[.slice (some ad) n c, .int .i64 ((p + 1 : Nat) : Int), .bool false] := fun N => (hbw.drewN N).set_ 1 (.int .i64 ((p : Int) + 1))
      have hgq : ∀ N, w.grownBy ((wr.drewN N).setCell ⟨g, 1, none⟩ (.int .i64 ((p : Int) + 1))) (some g) := fun N => only_setCell (only_drewN hgr N) (.inl rfl) _
      rcases hways with hway | hway | hway | hway | hway | hway | hway | hway
      · have HW := Lib.hid hway
        have t9 : ((k : Int) == 9) = true := by rw [beq_iff_eq]; omega
        have u1 : decide ((1 : Int) < (x.toNat : Int)) = true := by simp; omega
        clear hway
        go_wp2
        go_quiet (fail)
        go_wp2
        go_quiet (fail)
        go_wp2
        go_step3
        have hde : Wire.intS (some (l.drop a0)) = (0, none) := by
          have hw := HW.out
          apply Wire.intS_none
          rw [HD.out, HL.out, Wire.dec_stop (by simp; omega)]
          rfl
        refine ⟨rfl, ?_, hde, ⟨some ad, n, c, p + 1, hbq _, hrd.only (hgq _) (by omega) (Nat.le_refl _), hnc, hc, by omega⟩, hgq _⟩
        unfold JumpFrame
        repeat apply Exists.intro
        rfl
      · have HW := Lib.hid hway
        have t9 : ((k : Int) == 9) = true := by rw [beq_iff_eq]; omega
        have u1 : decide ((1 : Int) < (x.toNat : Int)) = false := by simp; omega
        have u0 : decide ((0 : Int) < (k : Int)) = true := by simp; omega
        have u0' : decide (0 < k) = true := by simp; omega
        have uz : ((x.toNat : Int) == 0) = true := by rw [beq_iff_eq]; omega
        clear hway
        go_wp2
        go_quiet (fail)
        go_wp2
        go_quiet (fail)
        go_wp2
        go_step3
        have hde : Wire.intS (some (l.drop a0)) = (0, none) := by
          have hw := HW.out
          apply Wire.intS_none
          rw [HD.out, HL.out, Wire.dec_stop (by simp; omega)]
          rfl
        refine ⟨rfl, ?_, hde, ⟨some ad, n, c, p + 1, hbq _, hrd.only (hgq _) (by omega) (Nat.le_refl _), hnc, hc, by omega⟩, hgq _⟩
        unfold JumpFrame
        repeat apply Exists.intro
        rfl
      · have HW := Lib.hid hway
        have t9 : ((k : Int) == 9) = false := by rw [beq_eq_false_iff_ne]; omega
        have u0 : decide ((0 : Int) < (k : Int)) = true := by simp; omega
        have u0' : decide (0 < k) = true := by simp; omega
        have uz : ((x.toNat : Int) == 0) = true := by rw [beq_iff_eq]; omega
        clear hway
        go_wp2
        go_quiet (fail)
        go_wp2
        go_quiet (fail)
        go_wp2
        go_step3
        have hde : Wire.intS (some (l.drop a0)) = (0, none) := by
          have hw := HW.out
          apply Wire.intS_none
          rw [HD.out, HL.out, Wire.dec_stop (by simp; omega)]
          rfl
        refine ⟨rfl, ?_, hde, ⟨some ad, n, c, p + 1, hbq _, hrd.only (hgq _) (by omega) (Nat.le_refl _), hnc, hc, by omega⟩, hgq _⟩
        unfold JumpFrame
        repeat apply Exists.intro
        rfl
      · have HW := Lib.hid hway
        have t9 : ((k : Int) == 9) = true := by rw [beq_iff_eq]; omega
        have u1 : decide ((1 : Int) < (x.toNat : Int)) = false := by simp; omega
        have u0 : decide ((0 : Int) < (k : Int)) = true := by simp; omega
        have u0' : decide (0 < k) = true := by simp; omega
        have uz : ((x.toNat : Int) == 0) = false := by rw [beq_eq_false_iff_ne]; omega
        have u8 : decide ((x.toNat : Int) < 128) = true := by simp; omega
        obtain ⟨y, z, s, hst, hse, hs64⟩ := intStep x k q hk hq.out (by omega)
        obtain ⟨e1, e2, e3⟩ := hst
        have HSE := Lib.hid hse
        have HS := Lib.hid hs64
        clear hse hs64
        clear hway
        go_wp2
        go_quiet (fail)
        go_wp2
        go_quiet (fail)
        go_wp2
        rw [uz_go HS.out]
        simp only [Exit.jump]
        go_ret
        have hde : Wire.intS (some (l.drop a0)) = (Wire.uz s, some (l.drop (p + 1))) := by
          have hw := HW.out
          apply Wire.intS_some
          rw [HD.out, HL.out, Wire.dec_end (by omega) (by simp; omega) (by omega), HSE.out, Nat.mod_eq_of_lt (by omega)]
          rfl
        rw [hde]
        exact ⟨rfl, RS.mk (p := p + 1) (hbq _) (hrd.only (hgq _) (by omega) (Nat.le_refl _)) hnc hc (by omega) rfl, hgq _⟩
      · have HW := Lib.hid hway
        have t9 : ((k : Int) == 9) = false := by rw [beq_eq_false_iff_ne]; omega
        have u0 : decide ((0 : Int) < (k : Int)) = true := by simp; omega
        have u0' : decide (0 < k) = true := by simp; omega
        have uz : ((x.toNat : Int) == 0) = false := by rw [beq_eq_false_iff_ne]; omega
        have u8 : decide ((x.toNat : Int) < 128) = true := by simp; omega
        obtain ⟨y, z, s, hst, hse, hs64⟩ := intStep x k q hk hq.out (by omega)
        obtain ⟨e1, e2, e3⟩ := hst
        have HSE := Lib.hid hse
        have HS := Lib.hid hs64
        clear hse hs64
        clear hway
        go_wp2
        go_quiet (fail)
        go_wp2
        go_quiet (fail)
        go_wp2
        rw [uz_go HS.out]
        simp only [Exit.jump]
        go_ret
        have hde : Wire.intS (some (l.drop a0)) = (Wire.uz s, some (l.drop (p + 1))) := by
          have hw := HW.out
          apply Wire.intS_some
          rw [HD.out, HL.out, Wire.dec_end (by omega) (by simp; omega) (by omega), HSE.out, Nat.mod_eq_of_lt (by omega)]
          rfl
        rw [hde]
        exact ⟨rfl, RS.mk (p := p + 1) (hbq _) (hrd.only (hgq _) (by omega) (Nat.le_refl _)) hnc hc (by omega) rfl, hgq _⟩
      · have HW := Lib.hid hway
        have t9 : ((k : Int) == 9) = false := by rw [beq_eq_false_iff_ne]; omega
        have u0 : decide ((0 : Int) < (k : Int)) = false := by simp; omega
        have u0' : decide (0 < k) = false := by simp; omega
        have u8 : decide ((x.toNat : Int) < 128) = true := by simp; omega
        obtain ⟨y, z, s, hst, hse, hs64⟩ := intStep x k q hk hq.out (by omega)
        obtain ⟨e1, e2, e3⟩ := hst
        have HSE := Lib.hid hse
        have HS := Lib.hid hs64
        clear hse hs64
        clear hway
        go_wp2
        go_quiet (fail)
        go_wp2
        go_quiet (fail)
        go_wp2
        rw [uz_go HS.out]
        simp only [Exit.jump]
        go_ret
        have hde : Wire.intS (some (l.drop a0)) = (Wire.uz s, some (l.drop (p + 1))) := by
          have hw := HW.out
          apply Wire.intS_some
          rw [HD.out, HL.out, Wire.dec_end (by omega) (by simp; omega) (by omega), HSE.out, Nat.mod_eq_of_lt (by omega)]
          rfl
        rw [hde]
        exact ⟨rfl, RS.mk (p := p + 1) (hbq _) (hrd.only (hgq _) (by omega) (Nat.le_refl _)) hnc hc (by omega) rfl, hgq _⟩
      · have HW := Lib.hid hway
        have t9 : ((k : Int) == 9) = false := by rw [beq_eq_false_iff_ne]; omega
        have u0 : decide ((0 : Int) < (k : Int)) = true := by simp; omega
        have u0' : decide (0 < k) = true := by simp; omega
        have uz : ((x.toNat : Int) == 0) = false := by rw [beq_eq_false_iff_ne]; omega
        have u8 : decide ((x.toNat : Int) < 128) = false := by simp; omega
        obtain ⟨y, z, s, hst, hse, hs64⟩ := intStep x k q hk hq.out (by omega)
        obtain ⟨e1, e2, e3⟩ := hst
        have HSE := Lib.hid hse
        have HS := Lib.hid hs64
        clear hse hs64
        clear hway
        go_wp2
        go_quiet (fail)
        go_wp2
        go_quiet (fail)
        go_wp2
        go_roundw
        case rel =>
          have hw := HW.out
          have hs := HSE.out
          have hq' := hq.out
          have hp' := HP.out
          have hxm : x.toNat % 128 = x.toNat - 128 := by have := x.toNat_lt; omega
          refine ⟨k + 1, s, p + 1, rfl, by go_num, by omega, ?_, ?_, by omega, hbq _, ?_, hgq _⟩
          · show s < 128 ^ (k + 1)
            have h7 : 128 ^ k * (x.toNat % 128) ≤ 128 ^ k * 127 := Nat.mul_le_mul (Nat.le_refl _) (by omega)
            rw [Nat.pow_succ]
            omega
          · show p + 1 = a0 + (k + 1)
            omega
          · show _ = _
            rw [HD.out, HL.out, show 9 - k = (9 - (k + 1)) + 1 from by omega, Wire.dec_more (by omega), Option.map_map, decide_eq_false (by omega)]
            congr 1
            funext r
            simp only [Function.comp_apply, Prod.mk.injEq, and_true]
            rw [hs, hxm, Nat.pow_succ, Nat.mul_add, ← Nat.mul_assoc, Nat.add_assoc]
        case measure =>
          have hw := HW.out
          simp [intOf]; omega
      · have HW := Lib.hid hway
        have t9 : ((k : Int) == 9) = false := by rw [beq_eq_false_iff_ne]; omega
        have u0 : decide ((0 : Int) < (k : Int)) = false := by simp; omega
        have u0' : decide (0 < k) = false := by simp; omega
        have u8 : decide ((x.toNat : Int) < 128) = false := by simp; omega
        obtain ⟨y, z, s, hst, hse, hs64⟩ := intStep x k q hk hq.out (by omega)
        obtain ⟨e1, e2, e3⟩ := hst
        have HSE := Lib.hid hse
        have HS := Lib.hid hs64
        clear hse hs64
        clear hway
        go_wp2
        go_quiet (fail)
        go_wp2
        go_quiet (fail)
        go_wp2
        go_roundw
        case rel =>
          have hw := HW.out
          have hs := HSE.out
          have hq' := hq.out
          have hp' := HP.out
          have hxm : x.toNat % 128 = x.toNat - 128 := by have := x.toNat_lt; omega
          refine ⟨k + 1, s, p + 1, rfl, by go_num, by omega, ?_, ?_, by omega, hbq _, ?_, hgq _⟩
          · show s < 128 ^ (k + 1)
            have h7 : 128 ^ k * (x.toNat % 128) ≤ 128 ^ k * 127 := Nat.mul_le_mul (Nat.le_refl _) (by omega)
            rw [Nat.pow_succ]
            omega
          · show p + 1 = a0 + (k + 1)
            omega
          · show _ = _
            rw [HD.out, HL.out, show 9 - k = (9 - (k + 1)) + 1 from by omega, Wire.dec_more (by omega), Option.map_map, decide_eq_false (by omega)]
            congr 1
            funext r
            simp only [Function.comp_apply, Prod.mk.injEq, and_true]
            rw [hs, hxm, Nat.pow_succ, Nat.mul_add, ← Nat.mul_assoc, Nat.add_assoc]
        case measure =>
          have hw := HW.out
          simp [intOf]; omega
    · have hdn : l.drop p = [] := List.drop_eq_nil_of_le (by have := hln.out; omega)
      have HI : Hid (Wire.intS (some (l.drop a0)) = (0, none)) := by
        apply Wire.intS_none
        rw [HD.out, hdn]
        cases h : 9 - k <;> rfl
      have t2 : decide ((p : Int) < (n : Int)) = false := by simp; omega
      have t2' : decide (p < n) = false := by simp; omega
      clear hdn
      have hbk : ∀ N, Blk ((wr.drewN N).setCell ⟨g, 2, none⟩ (.bool true)) g 73 #[.slice A n c, .int .i64 (p : Int), .bool true] := fun N => (hbw.drewN N).set_ 2 (.bool true)
      have hgk : ∀ N, w.grownBy ((wr.drewN N).setCell ⟨g, 2, none⟩ (.bool true)) (some g) := fun N => only_setCell (only_drewN hgr N) (.inl rfl) _
      go_wp2
      go_quiet (fail)
      go_wp2
      go_step3
      go_wp2
      simp only [Exit.jump]
      go_ret
      rw [HI.out]
      exact ⟨rfl, RS.mk (hbk _) (hrd.only (hgk _) (by omega) (Nat.le_refl _)) hnc hc hak rfl, hgk _⟩

set_option maxRecDepth 100000 in
set_option maxHeartbeats 400000 in
theorem rInt_bad (w : World) (g : Nat) (l : List UInt8) (a0 : Nat) (hr : Rdr 73 w g l a0 true) :
    Calls Tryd.prog 37 #[.pointer (some ⟨g, 0, none⟩)] w fun e w' =>
      e = .returned (.int .i64 0) ∧ RS 73 w' g none ∧ w.grownBy w' (some g) := by
  obtain ⟨A, n, c, hb, hrd, hnc, hc, han⟩ := hr
  have h0 := hb.cell 0
  have h1 := hb.cell 1
  have h2 := hb.cell 2
  have f2 := hb.frozen 2
  have hgl := hb.lt
  simp at h0 h1 h2
  have hbk : ∀ N, Blk ((w.drewN N).setCell ⟨g, 2, none⟩ (.bool true)) g 73 #[.slice A n c, .int .i64 (a0 : Int), .bool true] := fun N => (hb.drewN N).set_ 2 (.bool true)
  have hgk : ∀ N, w.grownBy ((w.drewN N).setCell ⟨g, 2, none⟩ (.bool true)) (some g) := fun N => only_setCell (only_drewN (only_refl w g) N) (.inl rfl) _
  go_enter Tryd.func37, Tryd.ntmps37
  go_wp2
  go_step3
  go_wp2
  refine wp_loop_rounds 1 ?_
  rw [rounds_succ]
  go_wp2
  go_quiet (fail)
  go_wp2
  go_step3
  go_wp2
  rw [Exit.noGoto_ret]
  go_ret
  exact ⟨rfl, RS.mk (hbk _) (hrd.only (hgk _) (by omega) (Nat.le_refl _)) hnc hc han rfl, hgk _⟩

theorem rInt_any (w : World) (g : Nat) (s : Option (List UInt8)) (hr : RS 73 w g s) :
    Calls Tryd.prog 37 #[.pointer (some ⟨g, 0, none⟩)] w fun e w' =>
      e = .returned (.int .i64 (Wire.intS s).1) ∧ RS 73 w' g (Wire.intS s).2 ∧ w.grownBy w' (some g) := by
  obtain ⟨l, p, bad, h, rfl⟩ := hr
  cases bad
  · exact rInt_ok w g l p h
  · exact rInt_bad w g l p h
end Go.Proofs.YtnjhdbgejhnpfaaDoor
end

section
namespace Go.Proofs.YtnjhdbgejhnpfaaDoor
set_option linter.unusedVariables false
open Go.RowKit

set_option maxHeartbeats 400000 in
theorem rLeft_any (w : World) (g : Nat) (s : Option (List UInt8)) (hr : RS 73 w g s) :
    Calls Tryd.prog 27 #[.pointer (some ⟨g, 0, none⟩)] w fun e w' => e = .returned (.int .i64 (Wire.leftS s : Nat)) ∧ ∃ N, w' = w.drewN N := by
  obtain ⟨l, p, bad, ⟨A, n, c, hb, hrd, hnc, hc, hp⟩, rfl⟩ := hr
  have h0 := hb.cell 0
  have h1 := hb.cell 1
  have h2 := hb.cell 2
  have f1 := hb.frozen 1
  have f2 := hb.frozen 2
  have hgl := hb.lt
  have hln : Hid (l.length = n) := by have := hrd.1; rw [bv_length] at this; show _ = _; omega
  simp at h0 h1 h2
  cases bad
  · have hlf : Wire.leftS (some (l.drop p)) = n - p := by have := hln.out; simp [Wire.leftS]; omega
    have HLF := Lib.hid hlf
    clear hlf
    go_enter Tryd.func27, Tryd.ntmps27
    go_wp2
    go_quiet (fail)
    go_wp2
    go_ret
    refine ⟨?_, _, rfl⟩
    show _ = Ending.returned (.int .i64 (Wire.leftS (some (l.drop p)) : Nat))
    rw [HLF.out]
    exact ret_i64 (by omega)
  · 
    go_enter Tryd.func27, Tryd.ntmps27
    go_wp2
    go_ret
    exact ⟨rfl, 0, rfl⟩

set_option maxHeartbeats 400000 in
theorem rEnd_any (w : World) (g : Nat) (s : Option (List UInt8)) (hr : RS 73 w g s) :
    Calls Tryd.prog 23 #[.pointer (some ⟨g, 0, none⟩)] w fun e w' => e = .returned (.bool (Wire.endS s)) ∧ ∃ N, w' = w.drewN N := by
  obtain ⟨l, p, bad, ⟨A, n, c, hb, hrd, hnc, hc, hp⟩, rfl⟩ := hr
  have h0 := hb.cell 0
  have h1 := hb.cell 1
  have h2 := hb.cell 2
  have f1 := hb.frozen 1
  have f2 := hb.frozen 2
  have hgl := hb.lt
  have hln : Hid (l.length = n) := by have := hrd.1; rw [bv_length] at this; show _ = _; omega
  simp at h0 h1 h2
  cases bad
  · have hlf : (((p : Int)) == (n : Int)) = Wire.endS (some (l.drop p)) := by
      have := hln.out
      unfold Wire.endS
      rw [Bool.eq_iff_iff, beq_iff_eq]
      simp
      omega
    have HLF := Lib.hid hlf
    clear hlf
    go_enter Tryd.func23, Tryd.ntmps23
    go_wp2
    go_quiet (fail)
    go_wp2
    go_ret
    refine ⟨?_, _, rfl⟩
    show _ = Ending.returned (.bool (Wire.endS (some (l.drop p))))
    rw [← HLF.out]
    rfl
  · 
    go_enter Tryd.func23, Tryd.ntmps23
    go_wp2
    go_quiet (fail)
    go_wp2
    go_ret
    exact ⟨rfl, _, rfl⟩

set_option maxHeartbeats 400000 in
theorem fLeft_any (w : World) (g : Nat) (s : Option (List UInt8)) (hr : RS 63 w g s) :
    Calls Tryd.prog 28 #[.pointer (some ⟨g, 0, none⟩)] w fun e w' => e = .returned (.int .i64 (Wire.leftS s : Nat)) ∧ ∃ N, w' = w.drewN N := by
  obtain ⟨l, p, bad, ⟨A, n, c, hb, hrd, hnc, hc, hp⟩, rfl⟩ := hr
  have h0 := hb.cell 0
  have h1 := hb.cell 1
  have h2 := hb.cell 2
  have f1 := hb.frozen 1
  have f2 := hb.frozen 2
  have hgl := hb.lt
  have hln : Hid (l.length = n) := by have := hrd.1; rw [bv_length] at this; show _ = _; omega
  simp at h0 h1 h2
  cases bad
  · have hlf : Wire.leftS (some (l.drop p)) = n - p := by have := hln.out; simp [Wire.leftS]; omega
    have HLF := Lib.hid hlf
    clear hlf
    go_enter Tryd.func28, Tryd.ntmps28
    go_wp2
    go_quiet (fail)
    go_wp2
    go_ret
    refine ⟨?_, _, rfl⟩
    show _ = Ending.returned (.int .i64 (Wire.leftS (some (l.drop p)) : Nat))
    rw [HLF.out]
    exact ret_i64 (by omega)
  · 
    go_enter Tryd.func28, Tryd.ntmps28
    go_wp2
    go_ret
    exact ⟨rfl, 0, rfl⟩

set_option maxHeartbeats 400000 in
theorem fEnd_any (w : World) (g : Nat) (s : Option (List UInt8)) (hr : RS 63 w g s) :
    Calls Tryd.prog 56 #[.pointer (some ⟨g, 0, none⟩)] w fun e w' => e = .returned (.bool (Wire.endS s)) ∧ ∃ N, w' = w.drewN N := by
  obtain ⟨l, p, bad, ⟨A, n, c, hb, hrd, hnc, hc, hp⟩, rfl⟩ := hr
  have h0 := hb.cell 0
  have h1 := hb.cell 1
  have h2 := hb.cell 2
  have f1 := hb.frozen 1
  have f2 := hb.frozen 2
  have hgl := hb.lt
  have hln : Hid (l.length = n) := by have := hrd.1; rw [bv_length] at this; show _ = _; omega
  simp at h0 h1 h2
  cases bad
  · have hlf : (((p : Int)) == (n : Int)) = Wire.endS (some (l.drop p)) := by
      have := hln.out
      unfold Wire.endS
      rw [Bool.eq_iff_iff, beq_iff_eq]
      simp
      omega
    have HLF := Lib.hid hlf
    clear hlf
    go_enter Tryd.func56, Tryd.ntmps56
    go_wp2
    go_quiet (fail)
    go_wp2
    go_ret
    refine ⟨?_, _, rfl⟩
    show _ = Ending.returned (.bool (Wire.endS (some (l.drop p))))
    rw [← HLF.out]
    rfl
  · 
    go_enter Tryd.func56, Tryd.ntmps56
    go_wp2
    go_quiet (fail)
    go_wp2
    go_ret
    exact ⟨rfl, _, rfl⟩

end Go.Proofs.YtnjhdbgejhnpfaaDoor
end

section
namespace Go.Proofs.YtnjhdbgejhnpfaaDoor
set_option linter.unusedVariables false
open Go.RowKit

structure RefStep (x : UInt8) (k q z s h : Nat) : Prop where
  r1 : IntKind.u64.wrap ((x.toNat : Int) % 128 * 2 ^ (7 * k)) = (z : Int)
  r2 : IntKind.u64.wrap ((q : Int) + (z : Int)) = (s : Int)
  r3 : IntKind.u64.wrap ((s : Int).tdiv 2) = (h : Int)
  r4 : IntKind.u64.wrap ((s : Int) / 2) = (h : Int)
theorem refStep (x : UInt8) (k q : Nat) (hk : k ≤ 9) (hq : q < 128 ^ k) (h9 : k = 9 → x.toNat ≤ 1) : ∃ z s h, RefStep x k q z s h ∧ s = q + 128 ^ k * (x.toNat % 128) ∧ s < 18446744073709551616 ∧ h = s / 2 := by
  obtain ⟨y, z, s, ⟨e1, e2, e3⟩, hs, hs64⟩ := intStep x k q hk hq h9
  have hp : 2 ^ (7 * k) = 128 ^ k := by rw [Nat.pow_mul]
  refine ⟨x.toNat % 128 * 128 ^ k, s, s / 2, ⟨?_, ?_, ?_, ?_⟩, hs, hs64, rfl⟩
  · have e : ((x.toNat : Int) % 128) * 2 ^ (7 * k) = ((x.toNat % 128 * 128 ^ k : Nat) : Int) := by rw [← hp]; simp
    rw [e, IntWalk.u64_in _ (by rw [Nat.mul_comm] at hs; omega)]
  · rw [show ((q : Int) + ((x.toNat % 128 * 128 ^ k : Nat) : Int)) = (s : Int) from by rw [hs, Nat.mul_comm (128 ^ k)]; simp, IntWalk.u64_in _ (by omega)]
  · rw [Int.tdiv_eq_ediv_of_nonneg (by omega), IntWalk.u64_in _ (by omega)]; omega
  · rw [IntWalk.u64_in _ (by omega)]; omega
theorem uz_odd {s h : Nat} (hs : s < 18446744073709551616) (hh : h = s / 2) (ho : ((s : Int) % 2 == 1) = true) : wrap64 (wrap64 (-wrap64 (h : Int)) - 1) = Wire.uz s := by
  have ho' : s % 2 = 1 := by rw [beq_iff_eq] at ho; omega
  subst hh
  unfold Wire.uz
  rw [if_pos ho', IntWalk.wrap64_in ((s / 2 : Nat) : Int) ⟨by omega, by omega⟩, IntWalk.wrap64_in (-((s / 2 : Nat) : Int)) ⟨by omega, by omega⟩, IntWalk.wrap64_in _ ⟨by omega, by omega⟩]
theorem uz_even {s h : Nat} (hs : s < 18446744073709551616) (hh : h = s / 2) (ho : ((s : Int) % 2 == 1) = false) : wrap64 (h : Int) = Wire.uz s := by
  have ho' : ¬ s % 2 = 1 := by rw [beq_eq_false_iff_ne] at ho; omega
  subst hh
  unfold Wire.uz
  rw [if_neg ho', IntWalk.wrap64_in ((s / 2 : Nat) : Int) ⟨by omega, by omega⟩]

set_option maxRecDepth 100000 in
set_option maxHeartbeats 1000000 in
theorem fInt_ok (w : World) (g : Nat) (l : List UInt8) (a0 : Nat) (hr : Rdr 63 w g l a0 false) :
    Calls Tryd.prog 42 #[.pointer (some ⟨g, 0, none⟩)] w fun e w' =>
      e = .returned (.int .i64 (Wire.intS (some (l.drop a0))).1) ∧ RS 63 w' g (Wire.intS (some (l.drop a0))).2 ∧ w.grownBy w' (some g) := by
  obtain ⟨A, n, c, hb, hrd, hnc, hc, han⟩ := hr
  have hgl := hb.lt
  have hln : Hid (l.length = n) := by have := hrd.1; rw [bv_length] at this; show _ = _; omega
  go_enter Tryd.func42, Tryd.ntmps42
  go_wp2
  go_loopw [3, 4, 5] (fun u i _ wr => ∃ (k q p : Nat), u = .int .u64 (q : Int) ∧ i = .int .i64 (k : Int) ∧ k ≤ 9 ∧ Hid (q < 128 ^ k) ∧ Hid (p = a0 + k) ∧ p ≤ n ∧ Blk wr g 63 #[.slice A n c, .int .i64 (p : Int), .bool false] ∧
      Hid (Wire.dec 9 true (l.drop a0) = (Wire.dec (9 - k) (decide (k = 0)) (l.drop p)).map fun r => (q + 128 ^ k * r.1, r.2)) ∧ w.grownBy wr (some g)) (fun _ i _ _ => 9 - (intOf i).toNat)
  case atStart => exact ⟨0, 0, a0, rfl, rfl, by omega, by show _ < _; simp, rfl, han, hb, by show _ = _; simp, only_refl w g⟩
  case round =>
    obtain ⟨k, q, p, rfl, rfl, hk, hq, HP, hak, hbw, HD, hgr⟩ := hrel
    have h0 := hbw.cell 0
    have h1 := hbw.cell 1
    have h2 := hbw.cell 2
    have f1 := hbw.frozen 1
    have f2 := hbw.frozen 2
    have hszr := hgr.size
    simp at h0 h1 h2
    have t1 : decide ((k : Int) < 10) = true := by simp; omega
    by_cases hlt : p < n
    · obtain ⟨ad, u, hAd, _, hx, hcx⟩ := (hrd.only hgr (by omega) (Nat.le_refl _)).at_ hlt
      obtain ⟨x, hx', rfl⟩ := bv_at hx
      subst hAd
      have hcw : wr.cell? (ad.add p) = some (.int .u8 (x.toNat : Int)) := hcx
      have hld : l.drop p = x :: l.drop (p + 1) := by
        have e := List.drop_eq_getElem_cons (l := l) (i := p) (by have := hln.out; omega)
        rw [e]
        congr 1
        have := List.getElem?_eq_some_iff.1 hx'
        exact this.2
      have HL := Lib.hid hld
      clear hx' hx hcx hld
      have hways : (k = 9 ∧ 1 < x.toNat) ∨ (k = 9 ∧ x.toNat = 0) ∨ (k < 9 ∧ 0 < k ∧ x.toNat = 0) ∨ (k = 9 ∧ x.toNat = 1) ∨ (k < 9 ∧ 0 < k ∧ 0 < x.toNat ∧ x.toNat < 128) ∨ (k = 0 ∧ x.toNat < 128) ∨ (k < 9 ∧ 0 < k ∧ 128 ≤ x.toNat) ∨ (k = 0 ∧ 128 ≤ x.toNat) := by have := x.toNat_lt; omega
      have hbq : ∀ N, Blk ((wr.drewN N).setCell ⟨g, 1, none⟩ (.int .i64 ((p : Int) + 1))) g 63 #[.slice (some ad) n c, .int .i64 ((p + 1 : Nat) : Int), .bool false] := fun N => (hbw.drewN N).set_ 1 (.int .i64 ((p : Int) + 1))
      have hgq : ∀ N, w.grownBy ((wr.drewN N).setCell ⟨g, 1, none⟩ (.int .i64 ((p : Int) + 1))) (some g) := fun N => only_setCell (only_drewN hgr N) (.inl rfl) _
      rcases hways with hway | hway | hway | hway | hway | hway | hway | hway
      · have HW := Lib.hid hway
        have t9 : ((k : Int) == 9) = true := by rw [beq_iff_eq]; omega
        have u1 : decide ((1 : Int) < (x.toNat : Int)) = true := by simp; omega
        have hbs : ∀ N, Blk (((wr.drewN N).setCell ⟨g, 1, none⟩ (.int .i64 ((p : Int) + 1))).setCell ⟨g, 2, none⟩ (.bool true)) g 63 #[.slice (some ad) n c, .int .i64 ((p + 1 : Nat) : Int), .bool true] := fun N => (hbq N).set_ 2 (.bool true)
        have hgs : ∀ N, w.grownBy (((wr.drewN N).setCell ⟨g, 1, none⟩ (.int .i64 ((p : Int) + 1))).setCell ⟨g, 2, none⟩ (.bool true)) (some g) := fun N => only_setCell (hgq N) (.inl rfl) _
        clear hway
        go_wp2
        go_quiet (fail)
        go_wp2
        go_quiet (fail)
        go_wp2
        go_ret
        have hde : Wire.intS (some (l.drop a0)) = (0, none) := by
          have hw := HW.out
          apply Wire.intS_none
          rw [HD.out, HL.out, Wire.dec_stop (by simp; omega)]
          rfl
        rw [hde]
        exact ⟨rfl, RS.mk (p := p + 1) (hbs _) (hrd.only (hgs _) (by omega) (Nat.le_refl _)) hnc hc (by omega) rfl, hgs _⟩
      · have HW := Lib.hid hway
        have t9 : ((k : Int) == 9) = true := by rw [beq_iff_eq]; omega
        have u1 : decide ((1 : Int) < (x.toNat : Int)) = false := by simp; omega
        have u0 : decide ((0 : Int) < (k : Int)) = true := by simp; omega
        have u0' : decide (0 < k) = true := by simp; omega
        have uz : ((x.toNat : Int) == 0) = true := by rw [beq_iff_eq]; omega
        have hbs : ∀ N, Blk (((wr.drewN N).setCell ⟨g, 1, none⟩ (.int .i64 ((p : Int) + 1))).setCell ⟨g, 2, none⟩ (.bool true)) g 63 #[.slice (some ad) n c, .int .i64 ((p + 1 : Nat) : Int), .bool true] := fun N => (hbq N).set_ 2 (.bool true)
        have hgs : ∀ N, w.grownBy (((wr.drewN N).setCell ⟨g, 1, none⟩ (.int .i64 ((p : Int) + 1))).setCell ⟨g, 2, none⟩ (.bool true)) (some g) := fun N => only_setCell (hgq N) (.inl rfl) _
        clear hway
        go_wp2
        go_quiet (fail)
        go_wp2
        go_quiet (fail)
        go_wp2
        go_ret
        have hde : Wire.intS (some (l.drop a0)) = (0, none) := by
          have hw := HW.out
          apply Wire.intS_none
          rw [HD.out, HL.out, Wire.dec_stop (by simp; omega)]
          rfl
        rw [hde]
        exact ⟨rfl, RS.mk (p := p + 1) (hbs _) (hrd.only (hgs _) (by omega) (Nat.le_refl _)) hnc hc (by omega) rfl, hgs _⟩
      · have HW := Lib.hid hway
        have t9 : ((k : Int) == 9) = false := by rw [beq_eq_false_iff_ne]; omega
        have u0 : decide ((0 : Int) < (k : Int)) = true := by simp; omega
        have u0' : decide (0 < k) = true := by simp; omega
        have uz : ((x.toNat : Int) == 0) = true := by rw [beq_iff_eq]; omega
        have hbs : ∀ N, Blk (((wr.drewN N).setCell ⟨g, 1, none⟩ (.int .i64 ((p : Int) + 1))).setCell ⟨g, 2, none⟩ (.bool true)) g 63 #[.slice (some ad) n c, .int .i64 ((p + 1 : Nat) : Int), .bool true] := fun N => (hbq N).set_ 2 (.bool true)
        have hgs : ∀ N, w.grownBy (((wr.drewN N).setCell ⟨g, 1, none⟩ (.int .i64 ((p : Int) + 1))).setCell ⟨g, 2, none⟩ (.bool true)) (some g) := fun N => only_setCell (hgq N) (.inl rfl) _
        clear hway
        go_wp2
        go_quiet (fail)
        go_wp2
        go_quiet (fail)
        go_wp2
        go_ret
        have hde : Wire.intS (some (l.drop a0)) = (0, none) := by
          have hw := HW.out
          apply Wire.intS_none
          rw [HD.out, HL.out, Wire.dec_stop (by simp; omega)]
          rfl
        rw [hde]
        exact ⟨rfl, RS.mk (p := p + 1) (hbs _) (hrd.only (hgs _) (by omega) (Nat.le_refl _)) hnc hc (by omega) rfl, hgs _⟩
      · have HW := Lib.hid hway
        have t9 : ((k : Int) == 9) = true := by rw [beq_iff_eq]; omega
        have u1 : decide ((1 : Int) < (x.toNat : Int)) = false := by simp; omega
        have u0 : decide ((0 : Int) < (k : Int)) = true := by simp; omega
        have u0' : decide (0 < k) = true := by simp; omega
        have uz : ((x.toNat : Int) == 0) = false := by rw [beq_eq_false_iff_ne]; omega
        have u8 : decide ((x.toNat : Int) < 128) = true := by simp; omega
        obtain ⟨z, s, h, hst, hse, hs64, hh⟩ := refStep x k q hk hq.out (by omega)
        obtain ⟨r1, r2, r3, r4⟩ := hst
        have HSE := Lib.hid hse
        have HS := Lib.hid hs64
        have HH := Lib.hid hh
        clear hse hs64 hh
        clear hway
        go_wp2
        go_quiet (fail)
        go_wp2
        go_quiet (fail)
        go_wp2
        all_goals
          have hde : Wire.intS (some (l.drop a0)) = (Wire.uz s, some (l.drop (p + 1))) := by
            have hw := HW.out
            apply Wire.intS_some
            rw [HD.out, HL.out, Wire.dec_end (by omega) (by simp; omega) (by omega), HSE.out, Nat.mod_eq_of_lt (by omega)]
            rfl
          rw [hde]
          first
            | rw [uz_odd HS.out HH.out ‹_›]
            | rw [uz_even HS.out HH.out ‹_›]
          go_ret
          exact ⟨rfl, RS.mk (p := p + 1) (hbq _) (hrd.only (hgq _) (by omega) (Nat.le_refl _)) hnc hc (by omega) rfl, hgq _⟩
      · have HW := Lib.hid hway
        have t9 : ((k : Int) == 9) = false := by rw [beq_eq_false_iff_ne]; omega
        have u0 : decide ((0 : Int) < (k : Int)) = true := by simp; omega
        have u0' : decide (0 < k) = true := by simp; omega
        have uz : ((x.toNat : Int) == 0) = false := by rw [beq_eq_false_iff_ne]; omega
        have u8 : decide ((x.toNat : Int) < 128) = true := by simp; omega
        obtain ⟨z, s, h, hst, hse, hs64, hh⟩ := refStep x k q hk hq.out (by omega)
        obtain ⟨r1, r2, r3, r4⟩ := hst
        have HSE := Lib.hid hse
        have HS := Lib.hid hs64
        have HH := Lib.hid hh
        clear hse hs64 hh
        clear hway
        go_wp2
        go_quiet (fail)
        go_wp2
        go_quiet (fail)
        go_wp2
        all_goals
          have hde : Wire.intS (some (l.drop a0)) = (Wire.uz s, some (l.drop (p + 1))) := by
            have hw := HW.out
            apply Wire.intS_some
            rw [HD.out, HL.out, Wire.dec_end (by omega) (by simp; omega) (by omega), HSE.out, Nat.mod_eq_of_lt (by omega)]
            rfl
          rw [hde]
          first
            | rw [uz_odd HS.out HH.out ‹_›]
            | rw [uz_even HS.out HH.out ‹_›]
          go_ret
          exact ⟨rfl, RS.mk (p := p + 1) (hbq _) (hrd.only (hgq _) (by omega) (Nat.le_refl _)) hnc hc (by omega) rfl, hgq _⟩
      · have HW := Lib.hid hway
        have t9 : ((k : Int) == 9) = false := by rw [beq_eq_false_iff_ne]; omega
        have u0 : decide ((0 : Int) < (k : Int)) = false := by simp; omega
        have u0' : decide (0 < k) = false := by simp; omega
        have u8 : decide ((x.toNat : Int) < 128) = true := by simp; omega
        obtain ⟨z, s, h, hst, hse, hs64, hh⟩ := refStep x k q hk hq.out (by omega)
        obtain ⟨r1, r2, r3, r4⟩ := hst
        have HSE := Lib.hid hse
        have HS := Lib.hid hs64
        have HH := Lib.hid hh
        clear hse hs64 hh
        clear hway
        go_wp2
        go_quiet (fail)
        go_wp2
        go_quiet (fail)
        go_wp2
        all_goals
          have hde : Wire.intS (some (l.drop a0)) = (Wire.uz s, some (l.drop (p + 1))) := by
            have hw := HW.out
            apply Wire.intS_some
            rw [HD.out, HL.out, Wire.dec_end (by omega) (by simp; omega) (by omega), HSE.out, Nat.mod_eq_of_lt (by omega)]
            rfl
          rw [hde]
          first
            | rw [uz_odd HS.out HH.out ‹_›]
            | rw [uz_even HS.out HH.out ‹_›]
          go_ret
          exact ⟨rfl, RS.mk (p := p + 1) (hbq _) (hrd.only (hgq _) (by omega) (Nat.le_refl _)) hnc hc (by omega) rfl, hgq _⟩
      · have HW := Lib.hid hway
        have t9 : ((k : Int) == 9) = false := by rw [beq_eq_false_iff_ne]; omega
        have u0 : decide ((0 : Int) < (k : Int)) = true := by simp; omega
        have u0' : decide (0 < k) = true := by simp; omega
        have uz : ((x.toNat : Int) == 0) = false := by rw [beq_eq_false_iff_ne]; omega
        have u8 : decide ((x.toNat : Int) < 128) = false := by simp; omega
        obtain ⟨z, s, h, hst, hse, hs64, hh⟩ := refStep x k q hk hq.out (by omega)
        obtain ⟨r1, r2, r3, r4⟩ := hst
        have HSE := Lib.hid hse
        have HS := Lib.hid hs64
        have HH := Lib.hid hh
        clear hse hs64 hh
        clear hway
        go_wp2
        go_quiet (fail)
        go_wp2
        go_quiet (fail)
        go_wp2
        go_roundw
        case rel =>
          have hw := HW.out
          have hs := HSE.out
          have hq' := hq.out
          have hp' := HP.out
          have hxm : x.toNat % 128 = x.toNat - 128 := by have := x.toNat_lt; omega
          refine ⟨k + 1, s, p + 1, rfl, by go_num, by omega, ?_, ?_, by omega, hbq _, ?_, hgq _⟩
          · show s < 128 ^ (k + 1)
            have h7 : 128 ^ k * (x.toNat % 128) ≤ 128 ^ k * 127 := Nat.mul_le_mul (Nat.le_refl _) (by omega)
            rw [Nat.pow_succ]
            omega
          · show p + 1 = a0 + (k + 1)
            omega
          · show _ = _
            rw [HD.out, HL.out, show 9 - k = (9 - (k + 1)) + 1 from by omega, Wire.dec_more (by omega), Option.map_map, decide_eq_false (by omega)]
            congr 1
            funext r
            simp only [Function.comp_apply, Prod.mk.injEq, and_true]
            rw [hs, hxm, Nat.pow_succ, Nat.mul_add, ← Nat.mul_assoc, Nat.add_assoc]
        case measure =>
          have hw := HW.out
          simp [intOf]; omega
      · have HW := Lib.hid hway
        have t9 : ((k : Int) == 9) = false := by rw [beq_eq_false_iff_ne]; omega
        have u0 : decide ((0 : Int) < (k : Int)) = false := by simp; omega
        have u0' : decide (0 < k) = false := by simp; omega
        have u8 : decide ((x.toNat : Int) < 128) = false := by simp; omega
        obtain ⟨z, s, h, hst, hse, hs64, hh⟩ := refStep x k q hk hq.out (by omega)
        obtain ⟨r1, r2, r3, r4⟩ := hst
        have HSE := Lib.hid hse
        have HS := Lib.hid hs64
        have HH := Lib.hid hh
        clear hse hs64 hh
        clear hway
        go_wp2
        go_quiet (fail)
        go_wp2
        go_quiet (fail)
        go_wp2
        go_roundw
        case rel =>
          have hw := HW.out
          have hs := HSE.out
          have hq' := hq.out
          have hp' := HP.out
          have hxm : x.toNat % 128 = x.toNat - 128 := by have := x.toNat_lt; omega
          refine ⟨k + 1, s, p + 1, rfl, by go_num, by omega, ?_, ?_, by omega, hbq _, ?_, hgq _⟩
          · show s < 128 ^ (k + 1)
            have h7 : 128 ^ k * (x.toNat % 128) ≤ 128 ^ k * 127 := Nat.mul_le_mul (Nat.le_refl _) (by omega)
            rw [Nat.pow_succ]
            omega
          · show p + 1 = a0 + (k + 1)
            omega
          · show _ = _
            rw [HD.out, HL.out, show 9 - k = (9 - (k + 1)) + 1 from by omega, Wire.dec_more (by omega), Option.map_map, decide_eq_false (by omega)]
            congr 1
            funext r
            simp only [Function.comp_apply, Prod.mk.injEq, and_true]
            rw [hs, hxm, Nat.pow_succ, Nat.mul_add, ← Nat.mul_assoc, Nat.add_assoc]
        case measure =>
          have hw := HW.out
          simp [intOf]; omega
    · have hdn : l.drop p = [] := List.drop_eq_nil_of_le (by have := hln.out; omega)
      have HI : Hid (Wire.intS (some (l.drop a0)) = (0, none)) := by
        apply Wire.intS_none
        rw [HD.out, hdn]
        cases h : 9 - k <;> rfl
      have t2 : decide ((n : Int) ≤ (p : Int)) = true := by simp; omega
      have t2' : decide (n ≤ p) = true := by simp; omega
      clear hdn
      have hbk : ∀ N, Blk ((wr.drewN N).setCell ⟨g, 2, none⟩ (.bool true)) g 63 #[.slice A n c, .int .i64 (p : Int), .bool true] := fun N => (hbw.drewN N).set_ 2 (.bool true)
      have hgk : ∀ N, w.grownBy ((wr.drewN N).setCell ⟨g, 2, none⟩ (.bool true)) (some g) := fun N => only_setCell (only_drewN hgr N) (.inl rfl) _
      go_wp2
      go_quiet (fail)
      go_wp2
      go_ret
      rw [HI.out]
      exact ⟨rfl, RS.mk (hbk _) (hrd.only (hgk _) (by omega) (Nat.le_refl _)) hnc hc hak rfl, hgk _⟩

set_option maxRecDepth 100000 in
set_option maxHeartbeats 400000 in
theorem fInt_bad (w : World) (g : Nat) (l : List UInt8) (a0 : Nat) (hr : Rdr 63 w g l a0 true) :
    Calls Tryd.prog 42 #[.pointer (some ⟨g, 0, none⟩)] w fun e w' =>
      e = .returned (.int .i64 0) ∧ RS 63 w' g none ∧ w.grownBy w' (some g) := by
  obtain ⟨A, n, c, hb, hrd, hnc, hc, han⟩ := hr
  have h0 := hb.cell 0
  have h1 := hb.cell 1
  have h2 := hb.cell 2
  have f2 := hb.frozen 2
  have hgl := hb.lt
  simp at h0 h1 h2
  have hbk : ∀ N, Blk ((w.drewN N).setCell ⟨g, 2, none⟩ (.bool true)) g 63 #[.slice A n c, .int .i64 (a0 : Int), .bool true] := fun N => (hb.drewN N).set_ 2 (.bool true)
  have hgk : ∀ N, w.grownBy ((w.drewN N).setCell ⟨g, 2, none⟩ (.bool true)) (some g) := fun N => only_setCell (only_drewN (only_refl w g) N) (.inl rfl) _
  go_enter Tryd.func42, Tryd.ntmps42
  go_wp2
  refine wp_loop_rounds 1 ?_
  rw [rounds_succ]
  go_wp2
  go_quiet (fail)
  go_wp2
  go_ret
  exact ⟨rfl, RS.mk (hbk _) (hrd.only (hgk _) (by omega) (Nat.le_refl _)) hnc hc han rfl, hgk _⟩

theorem fInt_any (w : World) (g : Nat) (s : Option (List UInt8)) (hr : RS 63 w g s) :
    Calls Tryd.prog 42 #[.pointer (some ⟨g, 0, none⟩)] w fun e w' =>
      e = .returned (.int .i64 (Wire.intS s).1) ∧ RS 63 w' g (Wire.intS s).2 ∧ w.grownBy w' (some g) := by
  obtain ⟨l, p, bad, h, rfl⟩ := hr
  cases bad
  · exact fInt_ok w g l p h
  · exact fInt_bad w g l p h
end Go.Proofs.YtnjhdbgejhnpfaaDoor
end

section
namespace Go.Proofs.YtnjhdbgejhnpfaaDoor
set_option linter.unusedVariables false
open Go.RowKit

theorem RS.split {T : TypeId} {w : World} {g : Nat} {s : Option (List UInt8)} (h : RS T w g s) :
    ∃ (l : List UInt8) (p : Nat) (A : Option Addr) (n c : Nat), Blk w g T #[.slice A n c, .int .i64 (p : Int), .bool (s == none)] ∧ Reads w g 1 A n (bv l) ∧ n ≤ c ∧ n ≤ 4611686018427387904 ∧ p ≤ n ∧ l.length = n ∧ (∀ r, s = some r → r = l.drop p) := by
  obtain ⟨l, p, bad, ⟨A, n, c, hb, hrd, hnc, hc, hp⟩, rfl⟩ := h
  have hln : l.length = n := by have := hrd.1; rw [bv_length] at this; omega
  cases bad
  · exact ⟨l, p, A, n, c, hb, hrd, hnc, hc, hp, hln, fun r hr => by simp at hr; exact hr.symm⟩
  · exact ⟨l, p, A, n, c, hb, hrd, hnc, hc, hp, hln, fun r hr => by simp at hr⟩

set_option maxHeartbeats 800000 in
theorem rCount_any (w : World) (g : Nat) (s : Option (List UInt8)) (most : Int) (hr : RS 73 w g s) :
    Calls Tryd.prog 36 #[.pointer (some ⟨g, 0, none⟩), .int .i64 most] w fun e w' => e = .returned (.int .i64 (Wire.countS most s).1) ∧ RS 73 w' g (Wire.countS most s).2 ∧ w.grownBy w' (some g) := by
  obtain ⟨v, s', hI⟩ : ∃ v s', Wire.intS s = (v, s') := ⟨_, _, rfl⟩
  have HI := Lib.hid hI
  cases s' with
  | none =>
    have hcs : Wire.countS most s = (0, none) := by unfold Wire.countS; rw [hI]
    clear hI
    have HC := Lib.hid hcs
    clear hcs
    go_enter Tryd.func36, Tryd.ntmps36
    go_wp2_with fail
    refine (rInt_any w g s hr).mono ?_
    rintro e w1 ⟨rfl, hr1, hg1⟩
    rw [HI.out] at hr1 ⊢
    obtain ⟨l, p, A, n, c, hb, hrd, hnc, hc, hp, hln, hsr⟩ := hr1.split
    have hsl := hr1.lt
    have h0 := hb.cell 0
    have h1 := hb.cell 1
    have h2 := hb.cell 2
    have f2 := hb.frozen 2
    simp at h0 h1 h2
    have hbk : ∀ N, Blk ((w1.drewN N).setCell ⟨g, 2, none⟩ (.bool true)) g 73 #[.slice A n c, .int .i64 (p : Int), .bool true] := fun N => (hb.drewN N).set_ 2 (.bool true)
    have hgk : ∀ N, w1.grownBy ((w1.drewN N).setCell ⟨g, 2, none⟩ (.bool true)) (some g) := fun N => only_setCell (only_drewN (only_refl w1 g) N) (.inl rfl) _
    have hbad : ∀ N, RS 73 ((w1.drewN N).setCell ⟨g, 2, none⟩ (.bool true)) g none := fun N => RS.mk (hbk N) (hrd.only (hgk N) (by omega) (Nat.le_refl _)) hnc hc hp rfl
    clear hbk hln hsr hb hrd
    go_wp2
    go_ret
    rw [HC.out]
    exact ⟨rfl, hbad 0, only_trans hg1 (hgk 0)⟩
  | some r =>
    by_cases hv0 : v < 0
    · have hcs : Wire.countS most s = (0, none) := by unfold Wire.countS; rw [hI]; simp [hv0]
      clear hI
      have t0 : decide (v < 0) = true := by simpa using hv0
      have HC := Lib.hid hcs
      clear hcs
      go_enter Tryd.func36, Tryd.ntmps36
      go_wp2_with fail
      refine (rInt_any w g s hr).mono ?_
      rintro e w1 ⟨rfl, hr1, hg1⟩
      rw [HI.out] at hr1 ⊢
      obtain ⟨l, p, A, n, c, hb, hrd, hnc, hc, hp, hln, hsr⟩ := hr1.split
      have hsl := hr1.lt
      have h0 := hb.cell 0
      have h1 := hb.cell 1
      have h2 := hb.cell 2
      have f2 := hb.frozen 2
      simp at h0 h1 h2
      have hbk : ∀ N, Blk ((w1.drewN N).setCell ⟨g, 2, none⟩ (.bool true)) g 73 #[.slice A n c, .int .i64 (p : Int), .bool true] := fun N => (hb.drewN N).set_ 2 (.bool true)
      have hgk : ∀ N, w1.grownBy ((w1.drewN N).setCell ⟨g, 2, none⟩ (.bool true)) (some g) := fun N => only_setCell (only_drewN (only_refl w1 g) N) (.inl rfl) _
      have hbad : ∀ N, RS 73 ((w1.drewN N).setCell ⟨g, 2, none⟩ (.bool true)) g none := fun N => RS.mk (hbk N) (hrd.only (hgk N) (by omega) (Nat.le_refl _)) hnc hc hp rfl
      clear hbk hln hsr hb hrd
      go_wp2
      go_ret
      rw [HC.out]
      exact ⟨rfl, hbad 0, only_trans hg1 (hgk 0)⟩
    · have t0 : decide (v < 0) = false := by simpa using hv0
      by_cases hvm : most < v
      · have hcs : Wire.countS most s = (0, none) := by unfold Wire.countS; rw [hI]; simp [hvm]
        clear hI
        have t1 : decide (most < v) = true := by simpa using hvm
        have HC := Lib.hid hcs
        clear hcs
        go_enter Tryd.func36, Tryd.ntmps36
        go_wp2_with fail
        refine (rInt_any w g s hr).mono ?_
        rintro e w1 ⟨rfl, hr1, hg1⟩
        rw [HI.out] at hr1 ⊢
        obtain ⟨l, p, A, n, c, hb, hrd, hnc, hc, hp, hln, hsr⟩ := hr1.split
        have hsl := hr1.lt
        have h0 := hb.cell 0
        have h1 := hb.cell 1
        have h2 := hb.cell 2
        have f2 := hb.frozen 2
        simp at h0 h1 h2
        have hbk : ∀ N, Blk ((w1.drewN N).setCell ⟨g, 2, none⟩ (.bool true)) g 73 #[.slice A n c, .int .i64 (p : Int), .bool true] := fun N => (hb.drewN N).set_ 2 (.bool true)
        have hgk : ∀ N, w1.grownBy ((w1.drewN N).setCell ⟨g, 2, none⟩ (.bool true)) (some g) := fun N => only_setCell (only_drewN (only_refl w1 g) N) (.inl rfl) _
        have hbad : ∀ N, RS 73 ((w1.drewN N).setCell ⟨g, 2, none⟩ (.bool true)) g none := fun N => RS.mk (hbk N) (hrd.only (hgk N) (by omega) (Nat.le_refl _)) hnc hc hp rfl
        clear hbk hln hsr hb hrd
        go_wp2
        go_ret
        rw [HC.out]
        exact ⟨rfl, hbad 0, only_trans hg1 (hgk 0)⟩
      · have t1 : decide (most < v) = false := by simpa using hvm
        by_cases hvl : (r.length : Int) < v
        · have hcs : Wire.countS most s = (0, none) := by unfold Wire.countS; rw [hI]; simp [hvl]
          clear hI
          have t2 : decide ((Wire.leftS (some r) : Int) < v) = true := decide_eq_true hvl
          have HC := Lib.hid hcs
          clear hcs
          go_enter Tryd.func36, Tryd.ntmps36
          go_wp2_with fail
          refine (rInt_any w g s hr).mono ?_
          rintro e w1 ⟨rfl, hr1, hg1⟩
          rw [HI.out] at hr1 ⊢
          obtain ⟨l, p, A, n, c, hb, hrd, hnc, hc, hp, hln, hsr⟩ := hr1.split
          have hsl := hr1.lt
          have h0 := hb.cell 0
          have h1 := hb.cell 1
          have h2 := hb.cell 2
          have f2 := hb.frozen 2
          simp at h0 h1 h2
          have hbk : ∀ N, Blk ((w1.drewN N).setCell ⟨g, 2, none⟩ (.bool true)) g 73 #[.slice A n c, .int .i64 (p : Int), .bool true] := fun N => (hb.drewN N).set_ 2 (.bool true)
          have hgk : ∀ N, w1.grownBy ((w1.drewN N).setCell ⟨g, 2, none⟩ (.bool true)) (some g) := fun N => only_setCell (only_drewN (only_refl w1 g) N) (.inl rfl) _
          have hbad : ∀ N, RS 73 ((w1.drewN N).setCell ⟨g, 2, none⟩ (.bool true)) g none := fun N => RS.mk (hbk N) (hrd.only (hgk N) (by omega) (Nat.le_refl _)) hnc hc hp rfl
          clear hbk hln hsr hb hrd
          go_wp2_with fail
          refine (rLeft_any _ g _ hr1).mono ?_
          rintro e w2 ⟨rfl, N, rfl⟩
          go_wp2
          go_ret
          rw [HC.out]
          exact ⟨rfl, hbad N, only_trans hg1 (hgk N)⟩
        · have hcs : Wire.countS most s = (v, some r) := by unfold Wire.countS; rw [hI]; simp; omega
          have HC := Lib.hid hcs
          clear hcs hI
          have t2 : decide ((Wire.leftS (some r) : Int) < v) = false := decide_eq_false hvl
          go_enter Tryd.func36, Tryd.ntmps36
          go_wp2_with fail
          refine (rInt_any w g s hr).mono ?_
          rintro e w1 ⟨rfl, hr1, hg1⟩
          rw [HI.out] at hr1 ⊢
          obtain ⟨l, p, A, n, c, hb, hrd, hnc, hc, hp, hln, hsr⟩ := hr1.split
          have h2 := hb.cell 2
          simp at h2
          clear hln hsr hb hrd
          go_wp2_with fail
          refine (rLeft_any _ g _ hr1).mono ?_
          rintro e w2 ⟨rfl, N, rfl⟩
          go_wp2
          go_ret
          rw [HC.out]
          exact ⟨rfl, hr1.drewN N, only_drewN hg1 N⟩

set_option maxRecDepth 100000 in
set_option maxHeartbeats 800000 in
theorem rText_any (w : World) (g : Nat) (s : Option (List UInt8)) (most : Int) (hr : RS 73 w g s) :
    Calls Tryd.prog 39 #[.pointer (some ⟨g, 0, none⟩), .int .i64 most] w fun e w' => e = .returned (.string (txt (Wire.textS most s).1)) ∧ RS 73 w' g (Wire.textS most s).2 ∧ w.grownBy w' (some g) := by
  obtain ⟨v, s', hI⟩ : ∃ v s', Wire.countS most s = (v, s') := ⟨_, _, rfl⟩
  have HI := Lib.hid hI
  cases s' with
  | none =>
    have hcs : Wire.textS most s = ([], none) := by unfold Wire.textS; rw [hI]
    have HC := Lib.hid hcs
    clear hI hcs
    go_enter Tryd.func39, Tryd.ntmps39
    go_wp2_with fail
    refine (rCount_any w g s most hr).mono ?_
    rintro e w1 ⟨rfl, hr1, hg1⟩
    rw [HI.out] at hr1 ⊢
    obtain ⟨l, p, A, n, c, hb, hrd, hnc, hc, hp, hln, hsr⟩ := hr1.split
    have h2 := hb.cell 2
    simp at h2
    clear hln hsr hb hrd
    go_wp2
    go_ret
    rw [HC.out]
    exact ⟨rfl, hr1, hg1⟩
  | some r =>
    have hv := Wire.countS_range hI
    have hcs : Wire.textS most s = (r.take v.toNat, some (r.drop v.toNat)) := by unfold Wire.textS; rw [hI]
    have HC := Lib.hid hcs
    clear hI hcs
    obtain ⟨k, rfl⟩ := Int.eq_ofNat_of_zero_le hv.1
    have hv2 := hv.2
    have HV := Lib.hid hv2
    clear hv hv2
    go_enter Tryd.func39, Tryd.ntmps39
    go_wp2_with fail
    refine (rCount_any w g s most hr).mono ?_
    rintro e w1 ⟨rfl, hr1, hg1⟩
    rw [HI.out] at hr1 ⊢
    obtain ⟨l, p, A, n, c, hb, hrd, hnc, hc, hp, hln, hsr⟩ := hr1.split
    have hrr := hsr r rfl
    subst hrr
    have hkn : p + k ≤ n := by have := HV.out; rw [List.length_drop] at this; omega
    have h0 := hb.cell 0
    have h1 := hb.cell 1
    have h2 := hb.cell 2
    have f1 := hb.frozen 1
    simp at h0 h1 h2
    have hbk : Blk (w1.setCell ⟨g, 1, none⟩ (.int .i64 ((p : Int) + (k : Int)))) g 73 #[.slice A n c, .int .i64 ((p + k : Nat) : Int), .bool false] := hb.set_ 1 (.int .i64 ((p : Int) + (k : Int)))
    have hgk : w1.grownBy (w1.setCell ⟨g, 1, none⟩ (.int .i64 ((p : Int) + (k : Int)))) (some g) := only_setCell (only_refl w1 g) (.inl rfl) _
    have hrk := hrd.only hgk (by have := hb.lt; omega) (Nat.le_refl _)
    have hs1 : ∀ W, (Instr.slice 35 (.slice A n c) (some (.int .i64 (p : Int))) (some (.int .i64 ((p : Int) + (k : Int)))) none).run Tryd.prog W = .ok (.slice (cutA A c p) (p + k - p) (c - p)) W :=
      fun W => slice_lh W A n c p (p + k) (by omega) (by omega)
    rw [show p + k - p = k from by omega] at hs1
    have hrt := (hrk.take (k := p + k) (by omega)).cutA (k := p) (c := c) (by omega) (by omega)
    rw [show p + k - p = k from by omega] at hrt
    have kc := fun N => run_string_of (P := Tryd.prog) ((w1.setCell ⟨g, 1, none⟩ (.int .i64 ((p : Int) + (k : Int)))).drewN N) Tryd.underlying35 Tryd.underlying5 Tryd.underlying9 (c - p) (hrt.drewN N)
    have hend : RS 73 (w1.setCell ⟨g, 1, none⟩ (.int .i64 ((p : Int) + (k : Int)))) g (some ((l.drop p).drop k)) := RS.mk (p := p + k) hbk hrk hnc hc hkn (by simp)
    have hte : (l.take (p + k)).drop p = (l.drop p).take k := by rw [List.drop_take]; congr 1; omega
    rw [hte] at kc
    have HLN := Lib.hid hln
    have hen : ((p : Int) + (k : Int)) - (k : Int) = (p : Int) := by omega
    clear hln hsr hrd hrk hrt hbk hb hr1 hte
    go_wp2
    go_quiet (fail)
    go_wp2
    go_ret
    rw [HC.out, Int.toNat_natCast]
    exact ⟨rfl, hend.drewN _, only_drewN (only_trans hg1 hgk) _⟩

set_option maxHeartbeats 800000 in
theorem fCount_any (w : World) (g : Nat) (s : Option (List UInt8)) (most : Int) (hr : RS 63 w g s) :
    Calls Tryd.prog 41 #[.pointer (some ⟨g, 0, none⟩), .int .i64 most] w fun e w' => e = .returned (.int .i64 (Wire.countS most s).1) ∧ RS 63 w' g (Wire.countS most s).2 ∧ w.grownBy w' (some g) := by
  obtain ⟨v, s', hI⟩ : ∃ v s', Wire.intS s = (v, s') := ⟨_, _, rfl⟩
  have HI := Lib.hid hI
  cases s' with
  | none =>
    have hcs : Wire.countS most s = (0, none) := by unfold Wire.countS; rw [hI]
    clear hI
    have HC := Lib.hid hcs
    clear hcs
    go_enter Tryd.func41, Tryd.ntmps41
    go_wp2_with fail
    refine (fInt_any w g s hr).mono ?_
    rintro e w1 ⟨rfl, hr1, hg1⟩
    rw [HI.out] at hr1 ⊢
    obtain ⟨l, p, A, n, c, hb, hrd, hnc, hc, hp, hln, hsr⟩ := hr1.split
    have hsl := hr1.lt
    have h0 := hb.cell 0
    have h1 := hb.cell 1
    have h2 := hb.cell 2
    have f2 := hb.frozen 2
    simp at h0 h1 h2
    have hbk : ∀ N, Blk ((w1.drewN N).setCell ⟨g, 2, none⟩ (.bool true)) g 63 #[.slice A n c, .int .i64 (p : Int), .bool true] := fun N => (hb.drewN N).set_ 2 (.bool true)
    have hgk : ∀ N, w1.grownBy ((w1.drewN N).setCell ⟨g, 2, none⟩ (.bool true)) (some g) := fun N => only_setCell (only_drewN (only_refl w1 g) N) (.inl rfl) _
    have hbad : ∀ N, RS 63 ((w1.drewN N).setCell ⟨g, 2, none⟩ (.bool true)) g none := fun N => RS.mk (hbk N) (hrd.only (hgk N) (by omega) (Nat.le_refl _)) hnc hc hp rfl
    clear hbk hln hsr hb hrd
    go_wp2
    go_ret
    rw [HC.out]
    exact ⟨rfl, hbad 0, only_trans hg1 (hgk 0)⟩
  | some r =>
    by_cases hv0 : v < 0
    · have hcs : Wire.countS most s = (0, none) := by unfold Wire.countS; rw [hI]; simp [hv0]
      clear hI
      have t0 : decide (v < 0) = true := by simpa using hv0
      have HC := Lib.hid hcs
      clear hcs
      go_enter Tryd.func41, Tryd.ntmps41
      go_wp2_with fail
      refine (fInt_any w g s hr).mono ?_
      rintro e w1 ⟨rfl, hr1, hg1⟩
      rw [HI.out] at hr1 ⊢
      obtain ⟨l, p, A, n, c, hb, hrd, hnc, hc, hp, hln, hsr⟩ := hr1.split
      have hsl := hr1.lt
      have h0 := hb.cell 0
      have h1 := hb.cell 1
      have h2 := hb.cell 2
      have f2 := hb.frozen 2
      simp at h0 h1 h2
      have hbk : ∀ N, Blk ((w1.drewN N).setCell ⟨g, 2, none⟩ (.bool true)) g 63 #[.slice A n c, .int .i64 (p : Int), .bool true] := fun N => (hb.drewN N).set_ 2 (.bool true)
      have hgk : ∀ N, w1.grownBy ((w1.drewN N).setCell ⟨g, 2, none⟩ (.bool true)) (some g) := fun N => only_setCell (only_drewN (only_refl w1 g) N) (.inl rfl) _
      have hbad : ∀ N, RS 63 ((w1.drewN N).setCell ⟨g, 2, none⟩ (.bool true)) g none := fun N => RS.mk (hbk N) (hrd.only (hgk N) (by omega) (Nat.le_refl _)) hnc hc hp rfl
      clear hbk hln hsr hb hrd
      go_wp2
      go_ret
      rw [HC.out]
      exact ⟨rfl, hbad 0, only_trans hg1 (hgk 0)⟩
    · have t0 : decide (v < 0) = false := by simpa using hv0
      by_cases hvm : most < v
      · have hcs : Wire.countS most s = (0, none) := by unfold Wire.countS; rw [hI]; simp [hvm]
        clear hI
        have t1 : decide (most < v) = true := by simpa using hvm
        have HC := Lib.hid hcs
        clear hcs
        go_enter Tryd.func41, Tryd.ntmps41
        go_wp2_with fail
        refine (fInt_any w g s hr).mono ?_
        rintro e w1 ⟨rfl, hr1, hg1⟩
        rw [HI.out] at hr1 ⊢
        obtain ⟨l, p, A, n, c, hb, hrd, hnc, hc, hp, hln, hsr⟩ := hr1.split
        have hsl := hr1.lt
        have h0 := hb.cell 0
        have h1 := hb.cell 1
        have h2 := hb.cell 2
        have f2 := hb.frozen 2
        simp at h0 h1 h2
        have hbk : ∀ N, Blk ((w1.drewN N).setCell ⟨g, 2, none⟩ (.bool true)) g 63 #[.slice A n c, .int .i64 (p : Int), .bool true] := fun N => (hb.drewN N).set_ 2 (.bool true)
        have hgk : ∀ N, w1.grownBy ((w1.drewN N).setCell ⟨g, 2, none⟩ (.bool true)) (some g) := fun N => only_setCell (only_drewN (only_refl w1 g) N) (.inl rfl) _
        have hbad : ∀ N, RS 63 ((w1.drewN N).setCell ⟨g, 2, none⟩ (.bool true)) g none := fun N => RS.mk (hbk N) (hrd.only (hgk N) (by omega) (Nat.le_refl _)) hnc hc hp rfl
        clear hbk hln hsr hb hrd
        go_wp2
        go_ret
        rw [HC.out]
        exact ⟨rfl, hbad 0, only_trans hg1 (hgk 0)⟩
      · have t1 : decide (most < v) = false := by simpa using hvm
        by_cases hvl : (r.length : Int) < v
        · have hcs : Wire.countS most s = (0, none) := by unfold Wire.countS; rw [hI]; simp [hvl]
          clear hI
          have t2 : decide ((Wire.leftS (some r) : Int) < v) = true := decide_eq_true hvl
          have HC := Lib.hid hcs
          clear hcs
          go_enter Tryd.func41, Tryd.ntmps41
          go_wp2_with fail
          refine (fInt_any w g s hr).mono ?_
          rintro e w1 ⟨rfl, hr1, hg1⟩
          rw [HI.out] at hr1 ⊢
          obtain ⟨l, p, A, n, c, hb, hrd, hnc, hc, hp, hln, hsr⟩ := hr1.split
          have hsl := hr1.lt
          have h0 := hb.cell 0
          have h1 := hb.cell 1
          have h2 := hb.cell 2
          have f2 := hb.frozen 2
          simp at h0 h1 h2
          have hbk : ∀ N, Blk ((w1.drewN N).setCell ⟨g, 2, none⟩ (.bool true)) g 63 #[.slice A n c, .int .i64 (p : Int), .bool true] := fun N => (hb.drewN N).set_ 2 (.bool true)
          have hgk : ∀ N, w1.grownBy ((w1.drewN N).setCell ⟨g, 2, none⟩ (.bool true)) (some g) := fun N => only_setCell (only_drewN (only_refl w1 g) N) (.inl rfl) _
          have hbad : ∀ N, RS 63 ((w1.drewN N).setCell ⟨g, 2, none⟩ (.bool true)) g none := fun N => RS.mk (hbk N) (hrd.only (hgk N) (by omega) (Nat.le_refl _)) hnc hc hp rfl
          clear hbk hln hsr hb hrd
          go_wp2_with fail
          refine (fLeft_any _ g _ hr1).mono ?_
          rintro e w2 ⟨rfl, N, rfl⟩
          go_wp2
          go_ret
          rw [HC.out]
          exact ⟨rfl, hbad N, only_trans hg1 (hgk N)⟩
        · have hcs : Wire.countS most s = (v, some r) := by unfold Wire.countS; rw [hI]; simp; omega
          have HC := Lib.hid hcs
          clear hcs hI
          have t2 : decide ((Wire.leftS (some r) : Int) < v) = false := decide_eq_false hvl
          go_enter Tryd.func41, Tryd.ntmps41
          go_wp2_with fail
          refine (fInt_any w g s hr).mono ?_
          rintro e w1 ⟨rfl, hr1, hg1⟩
          rw [HI.out] at hr1 ⊢
          obtain ⟨l, p, A, n, c, hb, hrd, hnc, hc, hp, hln, hsr⟩ := hr1.split
          have h2 := hb.cell 2
          simp at h2
          clear hln hsr hb hrd
          go_wp2_with fail
          refine (fLeft_any _ g _ hr1).mono ?_
          rintro e w2 ⟨rfl, N, rfl⟩
          go_wp2
          go_ret
          rw [HC.out]
          exact ⟨rfl, hr1.drewN N, only_drewN hg1 N⟩

set_option maxRecDepth 100000 in
set_option maxHeartbeats 800000 in
theorem fText_any (w : World) (g : Nat) (s : Option (List UInt8)) (most : Int) (hr : RS 63 w g s) :
    Calls Tryd.prog 43 #[.pointer (some ⟨g, 0, none⟩), .int .i64 most] w fun e w' => e = .returned (.string (txt (Wire.textS most s).1)) ∧ RS 63 w' g (Wire.textS most s).2 ∧ w.grownBy w' (some g) := by
  obtain ⟨v, s', hI⟩ : ∃ v s', Wire.countS most s = (v, s') := ⟨_, _, rfl⟩
  have HI := Lib.hid hI
  cases s' with
  | none =>
    have hcs : Wire.textS most s = ([], none) := by unfold Wire.textS; rw [hI]
    have HC := Lib.hid hcs
    clear hI hcs
    go_enter Tryd.func43, Tryd.ntmps43
    go_wp2_with fail
    refine (fCount_any w g s most hr).mono ?_
    rintro e w1 ⟨rfl, hr1, hg1⟩
    rw [HI.out] at hr1 ⊢
    obtain ⟨l, p, A, n, c, hb, hrd, hnc, hc, hp, hln, hsr⟩ := hr1.split
    have h2 := hb.cell 2
    simp at h2
    clear hln hsr hb hrd
    go_wp2
    go_ret
    rw [HC.out]
    exact ⟨rfl, hr1, hg1⟩
  | some r =>
    have hv := Wire.countS_range hI
    have hcs : Wire.textS most s = (r.take v.toNat, some (r.drop v.toNat)) := by unfold Wire.textS; rw [hI]
    have HC := Lib.hid hcs
    clear hI hcs
    obtain ⟨k, rfl⟩ := Int.eq_ofNat_of_zero_le hv.1
    have hv2 := hv.2
    have HV := Lib.hid hv2
    clear hv hv2
    go_enter Tryd.func43, Tryd.ntmps43
    go_wp2_with fail
    refine (fCount_any w g s most hr).mono ?_
    rintro e w1 ⟨rfl, hr1, hg1⟩
    rw [HI.out] at hr1 ⊢
    obtain ⟨l, p, A, n, c, hb, hrd, hnc, hc, hp, hln, hsr⟩ := hr1.split
    have hrr := hsr r rfl
    subst hrr
    have hkn : p + k ≤ n := by have := HV.out; rw [List.length_drop] at this; omega
    have h0 := hb.cell 0
    have h1 := hb.cell 1
    have h2 := hb.cell 2
    have f1 := hb.frozen 1
    simp at h0 h1 h2
    have hbk : Blk (w1.setCell ⟨g, 1, none⟩ (.int .i64 ((p : Int) + (k : Int)))) g 63 #[.slice A n c, .int .i64 ((p + k : Nat) : Int), .bool false] := hb.set_ 1 (.int .i64 ((p : Int) + (k : Int)))
    have hgk : w1.grownBy (w1.setCell ⟨g, 1, none⟩ (.int .i64 ((p : Int) + (k : Int)))) (some g) := only_setCell (only_refl w1 g) (.inl rfl) _
    have hrk := hrd.only hgk (by have := hb.lt; omega) (Nat.le_refl _)
    have hs1 : ∀ W, (Instr.slice 35 (.slice A n c) (some (.int .i64 (p : Int))) (some (.int .i64 ((p : Int) + (k : Int)))) none).run Tryd.prog W = .ok (.slice (cutA A c p) (p + k - p) (c - p)) W :=
      fun W => slice_lh W A n c p (p + k) (by omega) (by omega)
    rw [show p + k - p = k from by omega] at hs1
    have hrt := (hrk.take (k := p + k) (by omega)).cutA (k := p) (c := c) (by omega) (by omega)
    rw [show p + k - p = k from by omega] at hrt
    have kc := fun N => run_string_of (P := Tryd.prog) ((w1.setCell ⟨g, 1, none⟩ (.int .i64 ((p : Int) + (k : Int)))).drewN N) Tryd.underlying35 Tryd.underlying5 Tryd.underlying9 (c - p) (hrt.drewN N)
    have hend : RS 63 (w1.setCell ⟨g, 1, none⟩ (.int .i64 ((p : Int) + (k : Int)))) g (some ((l.drop p).drop k)) := RS.mk (p := p + k) hbk hrk hnc hc hkn (by simp)
    have hte : (l.take (p + k)).drop p = (l.drop p).take k := by rw [List.drop_take]; congr 1; omega
    rw [hte] at kc
    have HLN := Lib.hid hln
    have hen : ((p : Int) + (k : Int)) - (k : Int) = (p : Int) := by omega
    clear hln hsr hrd hrk hrt hbk hb hr1 hte
    go_wp2
    go_quiet (fail)
    go_wp2
    go_ret
    rw [HC.out, Int.toNat_natCast]
    exact ⟨rfl, hend.drewN _, only_drewN (only_trans hg1 hgk) _⟩

theorem rOk_any (w : World) (g : Nat) (s : Option (List UInt8)) (hr : RS 73 w g s) :
    Calls Tryd.prog 26 #[.pointer (some ⟨g, 0, none⟩)] w fun e w' => e = .returned (.bool (Wire.okS s)) ∧ w = w' := by
  obtain ⟨l, p, A, n, c, hb, _⟩ := hr.split
  have h2 := hb.cell 2
  simp at h2
  go_enter Tryd.func26, Tryd.ntmps26
  go_wp2
  go_ret
  exact ⟨by cases s <;> rfl, rfl⟩

set_option maxHeartbeats 400000 in
theorem rNew_any (A : Option Addr) (n c B : Nat) (l : List UInt8) (w : World) (hn : n ≤ 140737488355328) (hrd : Reads w B 1 A n (bv l)) :
    Calls Tryd.prog 20 #[.slice A n c] w fun e w' => ∃ g, e = .returned (.pointer (some ⟨g, 0, none⟩)) ∧ w.heap.size ≤ g ∧ RS 73 w' g (some l) ∧ Below w.heap.size w w' := by
  go_enter Tryd.func20, Tryd.ntmps20
  go_wp2_with (at_builtin; refine app_copy _ rfl _ rfl B A n c l rfl hrd hn ?_; intro A' c' w1 hO hb)
  go_ret
  obtain ⟨A1, c1, e1, hc1, _⟩ := (AppB.form (.inl hO) : _)
  injection e1 with e1 e2 e3
  subst e1; subst e3
  refine ⟨_, rfl, hb.size, RS.mk (p := 0) (Blk.new w1 _ _) (hO.reads.alloc (Nat.le_refl _) _) hc1 (by omega) (by omega) rfl, hb.alloc hb.size _⟩
end Go.Proofs.YtnjhdbgejhnpfaaDoor
end

section
namespace Go.Proofs.YtnjhdbgejhnpfaaDoor
set_option linter.unusedVariables false
open Go.RowKit

theorem rFail_any (w : World) (g : Nat) (s : Option (List UInt8)) (hr : RS 73 w g s) :
    Calls Tryd.prog 40 #[.pointer (some ⟨g, 0, none⟩)] w fun e w' => e = .returned (.tuple #[]) ∧ RS 73 w' g none ∧ w.grownBy w' (some g) := by
  obtain ⟨l, p, A, n, c, hb, hrd, hnc, hc, hp, hln, hsr⟩ := hr.split
  have h2 := hb.cell 2
  have f2 := hb.frozen 2
  simp at h2
  have hgl := hb.lt
  have hbk : Blk (w.setCell ⟨g, 2, none⟩ (.bool true)) g 73 #[.slice A n c, .int .i64 (p : Int), .bool true] := hb.set_ 2 (.bool true)
  have hgk : w.grownBy (w.setCell ⟨g, 2, none⟩ (.bool true)) (some g) := only_setCell (only_refl w g) (.inl rfl) _
  go_enter Tryd.func40, Tryd.ntmps40
  go_wp2
  go_end0
  exact ⟨rfl, RS.mk hbk (hrd.only hgk (by omega) (Nat.le_refl _)) hnc hc hp rfl, hgk⟩

end Go.Proofs.YtnjhdbgejhnpfaaDoor
end

section
set_option maxRecDepth 10000
namespace Go.Proofs.YtnjhdbgejhnpfaaDoor
set_option linter.unusedVariables false
open Go.RowKit

def i64' (z : Int) : Prop := -9223372036854775808 ≤ z ∧ z ≤ 9223372036854775807
def vB (k n : Int) (s : List UInt8) : List UInt8 := Wire.int k ++ Wire.int n ++ Wire.text s
def rB (r : Rp) : List UInt8 := Wire.int r.err ++ Wire.int r.n ++ vB r.kind r.vn r.s
theorem VRes.cellOne {P : Program} {w : World} {a t T g k : Nat} {σ : Env} {cs : Array Value} {R : Ending → World → Prop} [i : TAgg P t k] (ha : σ a = .pointer (some ⟨g, 0, none⟩)) (hb : Blk w g T cs) (hs : Nat.beq cs.size k = true) (h : R (.returned (.agg cs)) w) :
    VRes P [.cell a t] σ w R := by
  have h2 := run_load_agg (P := P) i hb (Nat.eq_of_beq_eq_true hs)
  unfold Instr.loadAt Instr.sureAddr at h2
  simp only [Sem.run_bind, Sem.run_pure, Result.andThen_ok] at h2
  exact ⟨⟨_, by simp [resE, ha, asAddr, h2], h⟩⟩
theorem putInt_up {B : Nat} (A : Option Addr) (n c : Nat) (l : List UInt8) (v : Int) (w : World) (hB : B ≤ w.heap.size) (hn : n + 10 ≤ 140737488355328) (hnc : n ≤ c) (hv : i64' v) (hrd : Reads w w.heap.size 1 A n (bv l)) :
    Calls Tryd.prog 33 #[.slice A n c, .int .i64 v] w fun e w' => ∃ A' m c', e = .returned (.slice A' m c') ∧ Own w' B (.slice A' m c') m (l ++ Wire.int v) ∧ m ≤ n + 10 ∧ m ≤ c' ∧ Below w.heap.size w w' := by
  refine (putInt_any A n c l v w hn hnc hv hrd).mono ?_
  rintro e w' ⟨A', m, c', rfl, h1, h2⟩
  have hl := h1.len
  have h3 := (Wire.int_len v).2
  have h4 : l.length = n := by have := hrd.1; rw [bv_length] at this; omega
  rw [List.length_append] at hl
  exact ⟨A', m, c', rfl, rows_more h1 hB, by omega, h1.cap, h2⟩
theorem putText_up {B : Nat} (A : Option Addr) (n c : Nat) (l : List UInt8) (s : List UInt8) (w : World) (hB : B ≤ w.heap.size) (hn : n + 10 + s.length ≤ 140737488355328) (hnc : n ≤ c) (hrd : Reads w w.heap.size 1 A n (bv l)) :
    Calls Tryd.prog 34 #[.slice A n c, .string (txt s)] w fun e w' => ∃ A' m c', e = .returned (.slice A' m c') ∧ Own w' B (.slice A' m c') m (l ++ Wire.text s) ∧ m ≤ n + 10 + s.length ∧ m ≤ c' ∧ Below w.heap.size w w' := by
  refine (putText_any A n c l (txt s) w (by rw [txt_size]; omega) hnc hrd).mono ?_
  rintro e w' ⟨A', m, c', rfl, h1, h2⟩
  rw [show (txt s).data.toList = s from rfl] at h1
  have hl := h1.len
  have h3 := (Wire.int_len (s.length : Int)).2
  have h4 : l.length = n := by have := hrd.1; rw [bv_length] at this; omega
  unfold Wire.text at hl
  rw [List.length_append, List.length_append] at hl
  exact ⟨A', m, c', rfl, rows_more h1 hB, by omega, h1.cap, h2⟩
set_option maxHeartbeats 2000000 in
theorem vPut_any {B : Nat} (A : Option Addr) (n c : Nat) (l : List UInt8) (k v : Int) (s : List UInt8) (w : World) (hB : B ≤ w.heap.size) (hn : n + s.length + 30 ≤ 140737488355328) (hnc : n ≤ c) (hk : i64' k) (hv : i64' v) (hrd : Reads w w.heap.size 1 A n (bv l)) :
    Calls Tryd.prog 53 #[.slice A n c, .agg (vC k v s)] w fun e w' => ∃ A' m c', e = .returned (.slice A' m c') ∧ Own w' B (.slice A' m c') m (l ++ vB k v s) ∧ m ≤ n + 30 + s.length ∧ m ≤ c' ∧ Below w.heap.size w w' := by
  refine calls_vc Tryd.func53 rfl (by kernel_rfl) ?_
  ((conv => whnf); (repeat ((first | (refine VL.cons ?_) | (refine VC.seqS rfl ?_) | (refine VC.region ?_)); (conv => whnf))))
  ((repeat ((fail); (conv => whnf))))
  refine VSem.boxB ?_
  intro W1 g hb hgb hlb hB1
  replace hb : Blk W1 g 32 #[.int .i64 k, .int .i64 v, .string (txt s)] := hb
  have hS : Below w.heap.size w (W1.drewN 1) := below_drewN hB1 1
  have kB : ∀ X, Below W1.heap.size W1 X → Blk X g 32 #[.int .i64 k, .int .i64 v, .string (txt s)] := fun X hX => hb.below hX hlb
  have hS1 : Below W1.heap.size W1 (W1.drewN 1) := below_drewN (Below.refl _ _) 1
  ((conv => whnf); (repeat ((first | (refine VL.cons ?_) | (refine VL.nil ?_)); (conv => whnf))))
  ((repeat ((first | (refine VC.draw ?_) | (refine VC.seq ?_)); (conv => whnf))))
  refine VDraw.seg (fun X => Below W1.heap.size W1 X) [([0, 1, 2, 4, 5, 7, 8], 3), ([], 6), ([], 9)] [10] (by kernel_rfl) (by kernel_rfl) hS1 ?_
  (conv => whnf)
  (repeat ((first | (refine VRead.loadBS kB rfl rfl ?_) | (refine VQ.cons ?_) | (refine VQ.nil ?_) | (refine VG.cons ?_) | (refine VRead.fld ?_)); (conv => whnf)))
  refine VCall.of (putInt_up (B := B) A n c l k _ (Nat.le_trans hB hS.size) (by omega) hnc hk ((hrd.below hS).more hS.size)) ?_
  rintro e W2 ⟨A2, n2, c2, rfl, hO2, hn2, hc2, hB2⟩
  refine ⟨_, rfl, ?_⟩
  have hS2 := hS1.trans hB2
  (conv => whnf)
  refine Keep.mk hS2 ?_
  (conv => whnf)
  ((repeat ((first | (refine VQ.nil ?_) | (refine VG.cons ?_)); (conv => whnf))))
  refine VCall.of (putInt_up (B := B) A2 n2 c2 _ v W2 (Nat.le_trans hB (Nat.le_trans hB1.size hS2.size)) (by omega) hc2 hv hO2.reads) ?_
  rintro e W3 ⟨A3, n3, c3, rfl, hO3, hn3, hc3, hB3⟩
  refine ⟨_, rfl, ?_⟩
  have hS3 := hS2.trans (hB3.mono hS2.size)
  (conv => whnf)
  refine Keep.mk hS3 ?_
  (conv => whnf)
  ((repeat ((first | (refine VQ.nil ?_) | (refine VG.cons ?_)); (conv => whnf))))
  refine VCall.of (putText_up (B := B) A3 n3 c3 _ s W3 (Nat.le_trans hB (Nat.le_trans hB1.size hS3.size)) (by omega) hc3 hO3.reads) ?_
  rintro e W4 ⟨A4, n4, c4, rfl, hO4, hn4, hc4, hB4⟩
  refine ⟨_, rfl, ?_⟩
  have hS4 := hS3.trans (hB4.mono hS3.size)
  (conv => whnf)
  refine Keep.mk hS4 ?_
  (conv => whnf)
  ((repeat ((first | (refine VC.ret ?_) | (refine VQ.cons ?_) | (refine VQ.nil ?_) | (refine VG.nil ?_)); (conv => whnf))))
  refine ⟨A4, n4, c4, rfl, ?_, by omega, hc4, hB1.trans (hS4.mono hB1.size)⟩
  unfold vB
  simpa only [List.append_assoc] using hO4
set_option maxHeartbeats 2000000 in
theorem rPut_any (r : Rp) (w : World) (hs : r.s.length ≤ 1000000) (h1 : i64' r.err) (h2 : i64' r.n) (h3 : i64' r.kind) (h4 : i64' r.vn) :
    Calls Tryd.prog 35 #[.agg (rpC r)] w fun e w' => ∃ A' m c', e = .returned (.slice A' m c') ∧ Own w' w.heap.size (.slice A' m c') m (rB r) ∧ m ≤ 50 + r.s.length ∧ m ≤ c' ∧ Below w.heap.size w w' := by
  refine calls_vc Tryd.func35 rfl (by kernel_rfl) ?_
  ((conv => whnf); (repeat ((first | (refine VL.cons ?_) | (refine VC.seqS rfl ?_) | (refine VC.region ?_)); (conv => whnf))))
  ((repeat ((fail); (conv => whnf))))
  refine VSem.boxB ?_
  intro W1 g hb hgb hlb hB1
  replace hb : Blk W1 g 34 #[.int .i64 r.err, .int .i64 r.n, .int .i64 r.kind, .int .i64 r.vn, .string (txt r.s)] := hb
  have kB : ∀ X, Below W1.heap.size W1 X → Blk X g 34 #[.int .i64 r.err, .int .i64 r.n, .int .i64 r.kind, .int .i64 r.vn, .string (txt r.s)] := fun X hX => hb.below hX hlb
  have hS1 : Below W1.heap.size W1 (W1.drewN 1) := below_drewN (Below.refl _ _) 1
  have hsz := hB1.size
  ((conv => whnf); (repeat ((first | (refine VL.cons ?_) | (refine VL.nil ?_)); (conv => whnf))))
  ((repeat ((first | (refine VC.draw ?_) | (refine VC.seq ?_)); (conv => whnf))))
  refine VDraw.seg (fun X => Below W1.heap.size W1 X) [([0, 1, 3, 4, 6, 7], 2), ([], 5), ([], 8)] [9] (by kernel_rfl) (by kernel_rfl) hS1 ?_
  (conv => whnf)
  (repeat ((first | (refine VRead.loadBS kB rfl rfl ?_) | (refine VQ.cons ?_) | (refine VG.cons ?_) | (refine VRead.fld ?_)); (conv => whnf)))
  refine VRead.loadABi (vs := vC r.kind r.vn r.s) 2 kB rfl rfl (by intro j hj; match j, hj with | 0, _ => rfl | 1, _ => rfl | 2, _ => rfl) ?_
  (conv => whnf)
  ((repeat ((first | (refine VQ.nil ?_)); (conv => whnf))))
  refine VCall.of (putInt_up (B := w.heap.size) none 0 0 [] r.err (W1.drewN 1) hsz (by omega) (Nat.le_refl _) h1 (Own.nil _ 0).reads) ?_
  rintro e W2 ⟨A2, n2, c2, rfl, hO2, hn2, hc2, hB2⟩
  refine ⟨_, rfl, ?_⟩
  have hS2 := hS1.trans hB2
  (conv => whnf)
  refine Keep.mk hS2 ?_
  (conv => whnf)
  ((repeat ((first | (refine VQ.nil ?_) | (refine VG.cons ?_)); (conv => whnf))))
  refine VCall.of (putInt_up (B := w.heap.size) A2 n2 c2 _ r.n W2 (Nat.le_trans hsz hS2.size) (by omega) hc2 h2 hO2.reads) ?_
  rintro e W3 ⟨A3, n3, c3, rfl, hO3, hn3, hc3, hB3⟩
  refine ⟨_, rfl, ?_⟩
  have hS3 := hS2.trans (hB3.mono hS2.size)
  (conv => whnf)
  refine Keep.mk hS3 ?_
  (conv => whnf)
  ((repeat ((first | (refine VQ.nil ?_) | (refine VG.cons ?_)); (conv => whnf))))
  refine VCall.of (vPut_any (B := w.heap.size) A3 n3 c3 _ r.kind r.vn r.s W3 (Nat.le_trans hsz hS3.size) (by omega) hc3 h3 h4 hO3.reads) ?_
  rintro e W4 ⟨A4, n4, c4, rfl, hO4, hn4, hc4, hB4⟩
  refine ⟨_, rfl, ?_⟩
  have hS4 := hS3.trans (hB4.mono hS3.size)
  (conv => whnf)
  refine Keep.mk hS4 ?_
  (conv => whnf)
  ((repeat ((first | (refine VC.ret ?_) | (refine VQ.cons ?_) | (refine VQ.nil ?_) | (refine VG.nil ?_)); (conv => whnf))))
  refine ⟨A4, n4, c4, rfl, ?_, by omega, hc4, hB1.trans (hS4.mono hB1.size)⟩
  unfold rB
  simpa only [List.append_assoc, List.nil_append] using hO4
/-- a value is read -/
def vGetS (s : Option (List UInt8)) : (Int × Int × List UInt8) × Option (List UInt8) :=
  if Wire.okS (Wire.textS 400 (Wire.intS (Wire.intS s).2).2).2 && VOk (Wire.intS s).1 (Wire.intS (Wire.intS s).2).1 (Wire.textS 400 (Wire.intS (Wire.intS s).2).2).1
  then (((Wire.intS s).1, (Wire.intS (Wire.intS s).2).1, (Wire.textS 400 (Wire.intS (Wire.intS s).2).2).1), (Wire.textS 400 (Wire.intS (Wire.intS s).2).2).2) else ((0, 0, []), none)
set_option maxHeartbeats 2000000 in
theorem vGet_any (W0 : World) (g : Nat) (s : Option (List UInt8)) (w : World) (hT0 : Tabs W0) (h0 : Below W0.heap.size W0 w) (hg0 : W0.heap.size ≤ g) (hr : RS 73 w g s) :
    Calls Tryd.prog 54 #[.pointer (some ⟨g, 0, none⟩)] w fun e w' => e = .returned (.agg (vC (vGetS s).1.1 (vGetS s).1.2.1 (vGetS s).1.2.2)) ∧ RS 73 w' g (vGetS s).2 ∧ Out (fun j => j = g ∨ w.heap.size ≤ j) w w' := by
  have hgl := hr.lt
  refine calls_vc Tryd.func54 rfl (by kernel_rfl) ?_
  ((conv => whnf); (repeat ((first | (refine VL.cons ?_) | (refine VC.seqS rfl ?_) | (refine VC.region ?_)); (conv => whnf))))
  ((repeat ((fail); (conv => whnf))))
  refine VSem.allocZ (z := .agg #[.int .i64 0, .int .i64 0, .string ByteArray.empty]) (by kernel_rfl) ?_
  intro W1 g2 hb2 hgb2 hlb2 hB1
  have hr1 := hr.below hB1 hgl
  have hO1 : Out (fun j => j = g ∨ w.heap.size ≤ j) w W1 := Out.new hB1
  ((conv => whnf); (repeat ((first | (refine VL.cons ?_) | (refine VL.nil ?_) | (refine VC.seqS rfl ?_) | (refine VC.region ?_)); (conv => whnf))))
  ((repeat ((fail); (conv => whnf))))
  refine VCall.of (rInt_any W1 g s hr1) ?_
  rintro e W2 ⟨rfl, hr2, hg2⟩
  refine ⟨_, rfl, ?_⟩
  have hO2 := hO1.trans (Out.grown hg2 (.inl rfl))
  ((conv => whnf); (repeat ((first | (refine VL.cons ?_)); (conv => whnf))))
  ((repeat ((fail); (conv => whnf))))
  refine VCall.of (rInt_any W2 g _ hr2) ?_
  rintro e W3 ⟨rfl, hr3, hg3⟩
  refine ⟨_, rfl, ?_⟩
  have hO3 := hO2.trans (Out.grown hg3 (.inl rfl))
  ((conv => whnf); (repeat ((first | (refine VL.cons ?_)); (conv => whnf))))
  ((repeat ((fail); (conv => whnf))))
  refine VCall.of (rText_any W3 g _ 400 hr3) ?_
  rintro e W4 ⟨rfl, hr4, hg4⟩
  refine ⟨_, rfl, ?_⟩
  have hO4 := hO3.trans (Out.grown hg4 (.inl rfl))
  have hdef : vGetS s = if Wire.okS (Wire.textS 400 (Wire.intS (Wire.intS s).2).2).2 && VOk (Wire.intS s).1 (Wire.intS (Wire.intS s).2).1 (Wire.textS 400 (Wire.intS (Wire.intS s).2).2).1
    then (((Wire.intS s).1, (Wire.intS (Wire.intS s).2).1, (Wire.textS 400 (Wire.intS (Wire.intS s).2).2).1), (Wire.textS 400 (Wire.intS (Wire.intS s).2).2).2) else ((0, 0, []), none) := rfl
  rw [hdef]
  clear hdef
  generalize (Wire.intS s).1 = k at *
  generalize (Wire.intS (Wire.intS s).2).1 = n at *
  generalize (Wire.textS 400 (Wire.intS (Wire.intS s).2).2).1 = t at *
  generalize (Wire.textS 400 (Wire.intS (Wire.intS s).2).2).2 = s4 at *
  have hb24 : Blk W4 g2 32 #[.int .i64 0, .int .i64 0, .string ByteArray.empty] := (hb2.grown hg2 (fun e => by injection e; omega)).grown hg3 (fun e => by injection e; omega) |>.grown hg4 (fun e => by injection e; omega)
  ((conv => whnf); (repeat ((first | (refine VL.cons ?_)); (conv => whnf))))
  refine VRead.ofW (v := .agg (vC k n t)) (fun _ => by kernel_rfl) ?_
  ((conv => whnf); (repeat ((first | (refine VL.cons ?_)); (conv => whnf))))
  ((repeat ((fail); (conv => whnf))))
  refine VSem.allocZ (z := .agg #[.int .i64 0, .int .i64 0, .string ByteArray.empty]) (by kernel_rfl) ?_
  intro W5 g3 hb3 hgb3 hlb3 hB5
  have hb25 := hb24.below hB5 hb24.lt
  have hr5 := hr4.below hB5 hr4.lt
  have hsz4 := hO4.size
  have hsz1 := hB1.size
  have hl24 := hb24.lt
  ((conv => whnf); (repeat ((first | (refine VL.cons ?_)); (conv => whnf))))
  ((repeat ((fail); (conv => whnf))))
  refine VUnit.storeAB hb3 rfl rfl rfl (by simp [vC, Value.oneCell']) ?_
  intro W6 hb6 hg6
  replace hb6 : Blk W6 g3 32 (vC k n t) := hb6
  have hb26 := hb25.grown hg6 (fun e => by injection e; omega)
  have hr6 := hr5.other hg6 (by omega)
  have hO6 : Out (fun j => j = g ∨ w.heap.size ≤ j) w W6 := hO4.trans ((Out.new hB5).trans (Out.grown hg6 (.inr (by omega))))
  have hB06 : Below W0.heap.size W0 W6 := h0.trans (hO6.below (fun j hj => by have := h0.size; omega) h0.size)
  have hT6 : Tabs W6 := hT0.below hB06
  clear hr hr1 hr2 hr3 hr4 hr5 hO1 hO2 hO3 hO4 hb2 hb24 hb25 hb3
  ((conv => whnf); (repeat ((first | (refine VL.nil ?_)); (conv => whnf))))
  ((repeat ((first | (refine VL.cons ?_) | (refine VC.seqS rfl ?_) | (refine VC.region ?_) | (refine VC.seq ?_)); (conv => whnf))))
  refine VCall.of (rOk_any W6 g s4 hr6) ?_
  rintro e _ ⟨rfl, rfl⟩
  refine ⟨_, rfl, ?_⟩
  have fin : ∀ (W7 : World), Below W6.heap.size W6 W7 ∨ W7 = W6 → Out (fun j => j = g ∨ w.heap.size ≤ j) w W7 := fun W7 h => by
    rcases h with h | rfl
    · exact hO6.trans (Out.new h)
    · exact hO6
  cases hok : Wire.okS s4 with
  | false =>
    obtain rfl : s4 = none := by cases s4 with
      | none => rfl
      | some x => cases hok
    ((conv => whnf); (repeat ((first | (refine VL.cons ?_)); (conv => whnf))))
    ((repeat ((first | (refine VL.cons ?_) | (refine VL.nil ?_) | (refine VC.seqS rfl ?_) | (refine VC.region ?_) | (refine VC.cond ?_) | (refine VBool.t ?_)); (conv => whnf))))
    refine VCall.of (rFail_any W6 g none hr6) ?_
    rintro e W7 ⟨rfl, hr7, hg7⟩
    refine ⟨_, rfl, ?_⟩
    have hb27 := hb26.grown hg7 (fun e => by injection e; omega)
    ((conv => whnf); (repeat ((first | (refine VL.cons ?_) | (refine VL.nil ?_) | (refine VC.seqS rfl ?_) | (refine VC.region ?_)); (conv => whnf))))
    refine VRead.ofW (v := .agg (vC 0 0 [])) (fun _ => by kernel_rfl) ?_
    ((conv => whnf); (repeat ((first | (refine VL.cons ?_)); (conv => whnf))))
    ((repeat ((fail); (conv => whnf))))
    refine VUnit.storeAB hb27 rfl rfl rfl (by simp [vC, Value.oneCell']) ?_
    intro W8 hb8 hg8
    replace hb8 : Blk W8 g2 32 (vC 0 0 []) := hb8
    ((conv => whnf); (repeat ((first | (refine VL.nil ?_) | (refine VC.ret ?_)); (conv => whnf))))
    ((repeat ((fail); (conv => whnf))))
    refine VRes.cellOne rfl hb8 rfl ?_
    exact ⟨rfl, hr7.other hg8 (by omega), hO6.trans ((Out.grown hg7 (.inl rfl)).trans (Out.grown hg8 (.inr (by omega))))⟩
  | true =>
    ((conv => whnf); (repeat ((first | (refine VL.cons ?_)); (conv => whnf))))
    (repeat (first | ((first | (refine VL.cons ?_) | (refine VBool.f ?_)); (conv => whnf)) | (refine VRead.loadAB1 hb6 rfl rfl ?_; (conv => whnf))))
    refine VCall.of (vCheck_any k n t W6 hT6) ?_
    rintro e W7 ⟨rfl, hB7⟩
    refine ⟨_, rfl, ?_⟩
    have hb27 := hb26.below hB7 hb26.lt
    have hb7 := hb6.below hB7 hb6.lt
    have hr7 := hr6.below hB7 hr6.lt
    have hl27 := hb26.lt
    have hO7 := hO6.trans (Out.new hB7)
    cases hv : VOk k n t with
    | false =>
      ((conv => whnf); (repeat ((first | (refine VL.cons ?_)); (conv => whnf))))
      ((repeat ((first | (refine VL.cons ?_) | (refine VL.nil ?_) | (refine VC.seqS rfl ?_) | (refine VC.region ?_) | (refine VC.cond ?_) | (refine VBool.t ?_) | (refine VBool.f ?_)); (conv => whnf))))
      refine VCall.of (rFail_any W7 g s4 hr7) ?_
      rintro e W8 ⟨rfl, hr8, hg8⟩
      refine ⟨_, rfl, ?_⟩
      have hb28 := hb27.grown hg8 (fun e => by injection e; omega)
      ((conv => whnf); (repeat ((first | (refine VL.cons ?_) | (refine VL.nil ?_) | (refine VC.seqS rfl ?_) | (refine VC.region ?_)); (conv => whnf))))
      refine VRead.ofW (v := .agg (vC 0 0 [])) (fun _ => by kernel_rfl) ?_
      ((conv => whnf); (repeat ((first | (refine VL.cons ?_)); (conv => whnf))))
      ((repeat ((fail); (conv => whnf))))
      refine VUnit.storeAB hb28 rfl rfl rfl (by simp [vC, Value.oneCell']) ?_
      intro W9 hb9 hg9
      replace hb9 : Blk W9 g2 32 (vC 0 0 []) := hb9
      ((conv => whnf); (repeat ((first | (refine VL.nil ?_) | (refine VC.ret ?_)); (conv => whnf))))
      ((repeat ((fail); (conv => whnf))))
      refine VRes.cellOne rfl hb9 rfl ?_
      exact ⟨rfl, hr8.other hg9 (by omega), hO7.trans ((Out.grown hg8 (.inl rfl)).trans (Out.grown hg9 (.inr (by omega))))⟩
    | true =>
      ((conv => whnf); (repeat ((first | (refine VL.cons ?_)); (conv => whnf))))
      (repeat (first | ((first | (refine VL.cons ?_) | (refine VL.nil ?_) | (refine VC.seqS rfl ?_) | (refine VC.region ?_) | (refine VC.cond ?_) | (refine VC.skip ?_) | (refine VBool.f ?_)); (conv => whnf)) | (refine VRead.loadAB1 hb7 rfl rfl ?_; (conv => whnf))))
      refine VUnit.storeAB hb27 rfl rfl rfl (by simp [vC, Value.oneCell']) ?_
      intro W8 hb8 hg8
      replace hb8 : Blk W8 g2 32 (vC k n t) := hb8
      ((conv => whnf); (repeat ((first | (refine VL.nil ?_) | (refine VC.ret ?_)); (conv => whnf))))
      ((repeat ((fail); (conv => whnf))))
      refine VRes.cellOne rfl hb8 rfl ?_
      exact ⟨rfl, hr7.other hg8 (by omega), hO7.trans (Out.grown hg8 (.inr (by omega)))⟩
end Go.Proofs.YtnjhdbgejhnpfaaDoor
end

section
set_option maxRecDepth 10000
namespace Go.Proofs.YtnjhdbgejhnpfaaDoor
set_option linter.unusedVariables false
open Go.RowKit
open Go.Maps (Keyed)
open Go.ChangeMaps Go.WideElems

/-! ### replies -/
def rdR (b : List UInt8) : Rp := ⟨(Wire.intS (some b)).1, (Wire.intS (Wire.intS (some b)).2).1, (vGetS (Wire.intS (Wire.intS (some b)).2).2).1.1, (vGetS (Wire.intS (Wire.intS (some b)).2).2).1.2.1, (vGetS (Wire.intS (Wire.intS (some b)).2).2).1.2.2⟩
def rdS (b : List UInt8) : Option (List UInt8) := (vGetS (Wire.intS (Wire.intS (some b)).2).2).2
def getR (b : List UInt8) : Rp × Bool := if Wire.endS (rdS b) && ROk (rdR b) then (rdR b, true) else (Rp.zero, false)
set_option maxHeartbeats 4000000 in
theorem getR_any (A : Option Addr) (n c : Nat) (b : List UInt8) (w : World) (hT : Tabs w) (hn : n ≤ 140737488355328) (hr : Reads w w.heap.size 1 A n (bv b)) :
    Calls Tryd.prog 38 #[.slice A n c] w fun e w' => e = .returned (.tuple #[.agg (rpC (getR b).1), .bool (getR b).2]) ∧ Below w.heap.size w w' := by
  refine calls_vc Tryd.func38 rfl (by kernel_rfl) ?_
  ((conv => whnf); (repeat ((first | (refine VL.cons ?_) | (refine VC.seqS rfl ?_) | (refine VC.region ?_)); (conv => whnf))))
  ((repeat ((fail); (conv => whnf))))
  refine VSem.allocZ (z := .agg #[.int .i64 0, .int .i64 0, .int .i64 0, .int .i64 0, .string ByteArray.empty]) (by kernel_rfl) ?_
  intro W1 g2 hb2 hgb2 hlb2 hB1
  have hs1 := hB1.size
  ((conv => whnf); (repeat ((first | (refine VL.cons ?_) | (refine VL.nil ?_) | (refine VC.seqS rfl ?_) | (refine VC.region ?_)); (conv => whnf))))
  ((repeat ((fail); (conv => whnf))))
  refine VCall.of (rNew_any A n c w.heap.size b W1 hn (hr.below hB1)) ?_
  rintro e W2 ⟨gr, rfl, hgr, hR2, hB2⟩
  refine ⟨_, rfl, ?_⟩
  have hB02 := hB1.trans (hB2.mono hs1)
  have hb22 := hb2.below hB2 hlb2
  have hgr2 := hR2.lt
  ((conv => whnf); (repeat ((first | (refine VL.cons ?_) | (refine VL.nil ?_) | (refine VC.seqS rfl ?_) | (refine VC.region ?_)); (conv => whnf))))
  refine VRead.ofW (v := .agg (rpC Rp.zero)) (fun _ => by kernel_rfl) ?_
  ((conv => whnf); (repeat ((first | (refine VL.cons ?_)); (conv => whnf))))
  ((repeat ((fail); (conv => whnf))))
  refine VSem.allocZ (z := .agg #[.int .i64 0, .int .i64 0, .int .i64 0, .int .i64 0, .string ByteArray.empty]) (by kernel_rfl) ?_
  intro W3 g5 hb5 hgb5 hlb5 hB3
  have hR3 := hR2.below hB3 hgr2
  have hB03 := hB02.trans (hB3.mono hB02.size)
  have hb23 := hb22.below hB3 hb22.lt
  have hs3 := hB03.size
  ((conv => whnf); (repeat ((first | (refine VL.cons ?_)); (conv => whnf))))
  ((repeat ((fail); (conv => whnf))))
  refine VUnit.storeAB hb5 rfl rfl rfl (by simp [rpC, Value.oneCell']) ?_
  intro W4 hb54 hg4
  replace hb54 : Blk W4 g5 34 #[.int .i64 0, .int .i64 0, .int .i64 0, .int .i64 0, .string ByteArray.empty] := hb54
  have hR4 := hR3.other hg4 (by omega)
  have hB04 := only_new hB03 hg4 (by omega) hs3
  have hb24 := hb23.grown hg4 (fun e => by injection e; omega)
  have hs4 := hg4.size
  ((conv => whnf); (repeat ((first | (refine VL.cons ?_) | (refine VL.nil ?_) | (refine VC.seqS rfl ?_) | (refine VC.region ?_)); (conv => whnf))))
  ((repeat ((fail); (conv => whnf))))
  refine VCall.of (rInt_any W4 gr _ hR4) ?_
  rintro e W5 ⟨rfl, hR5, hg5⟩
  refine ⟨_, rfl, ?_⟩
  have hB05 := only_new hB04 hg5 (by omega) hB04.size
  have hb55 := hb54.grown hg5 (fun e => by injection e; omega)
  have hb25 := hb24.grown hg5 (fun e => by injection e; omega)
  obtain ⟨er, her⟩ : ∃ v, (Wire.intS (some b)).1 = v := ⟨_, rfl⟩
  have hs5 := hg5.size
  ((conv => whnf); (repeat ((first | (refine VL.cons ?_)); (conv => whnf))))
  ((repeat ((first | (refine VL.cons ?_) | (refine VRead.fld ?_)); (conv => whnf))))
  refine VUnit.storeB hb55 rfl rfl rfl ?_
  intro W6 hb6 hg6
  replace hb6 : Blk W6 g5 34 #[.int .i64 (Wire.intS (some b)).1, .int .i64 0, .int .i64 0, .int .i64 0, .string ByteArray.empty] := hb6
  have hR6 := hR5.other hg6 (by omega)
  have hB06 := only_new hB05 hg6 (by omega) hB05.size
  have hb26 := hb25.grown hg6 (fun e => by injection e; omega)
  have hs6 := hg6.size
  ((conv => whnf); (repeat ((first | (refine VL.cons ?_) | (refine VL.nil ?_) | (refine VC.seqS rfl ?_) | (refine VC.region ?_)); (conv => whnf))))
  ((repeat ((fail); (conv => whnf))))
  refine VCall.of (rInt_any W6 gr _ hR6) ?_
  rintro e W7 ⟨rfl, hR7, hg7⟩
  refine ⟨_, rfl, ?_⟩
  have hB07 := only_new hB06 hg7 (by omega) hB06.size
  have hb57 := hb6.grown hg7 (fun e => by injection e; omega)
  have hb27 := hb26.grown hg7 (fun e => by injection e; omega)
  have hs7 := hg7.size
  ((conv => whnf); (repeat ((first | (refine VL.cons ?_)); (conv => whnf))))
  ((repeat ((first | (refine VL.cons ?_) | (refine VRead.fld ?_)); (conv => whnf))))
  refine VUnit.storeB hb57 rfl rfl rfl ?_
  intro W8 hb8 hg8
  replace hb8 : Blk W8 g5 34 #[.int .i64 (Wire.intS (some b)).1, .int .i64 (Wire.intS (Wire.intS (some b)).2).1, .int .i64 0, .int .i64 0, .string ByteArray.empty] := hb8
  have hR8 := hR7.other hg8 (by omega)
  have hB08 := only_new hB07 hg8 (by omega) hB07.size
  have hb28 := hb27.grown hg8 (fun e => by injection e; omega)
  have hs8 := hg8.size
  have hl8 := hb8.lt
  have hl28 := hb28.lt
  ((conv => whnf); (repeat ((first | (refine VL.cons ?_) | (refine VL.nil ?_) | (refine VC.seqS rfl ?_) | (refine VC.region ?_)); (conv => whnf))))
  ((repeat ((fail); (conv => whnf))))
  refine VCall.of (vGet_any w gr _ W8 hT hB08 (by omega) hR8) ?_
  rintro e W9 ⟨rfl, hR9, hO9⟩
  refine ⟨_, rfl, ?_⟩
  have hB09 : Below w.heap.size w W9 := hB08.trans (hO9.below (fun j hj => by omega) hB08.size)
  have hb59 : Blk W9 g5 34 #[.int .i64 (Wire.intS (some b)).1, .int .i64 (Wire.intS (Wire.intS (some b)).2).1, .int .i64 0, .int .i64 0, .string ByteArray.empty] := (hO9.block g5 hl8 (by omega)).trans hb8
  have hb29 : Blk W9 g2 34 #[.int .i64 0, .int .i64 0, .int .i64 0, .int .i64 0, .string ByteArray.empty] := (hO9.block g2 hl28 (by omega)).trans hb28
  have hs9 := hO9.size
  ((conv => whnf); (repeat ((first | (refine VL.cons ?_)); (conv => whnf))))
  ((repeat ((first | (refine VL.cons ?_) | (refine VRead.fld ?_)); (conv => whnf))))
  refine VUnit.storeABi 2 hb59 rfl rfl rfl (by simp [vC, Value.oneCell']) ?_
  intro W10 hb10 hg10
  replace hb10 : Blk W10 g5 34 (rpC (rdR b)) := hb10
  have hR10 : RS 73 W10 gr (rdS b) := hR9.other hg10 (by omega)
  have hB010 := only_new hB09 hg10 (by omega) hB09.size
  have hb210 := hb29.grown hg10 (fun e => by injection e; omega)
  have hl2 := hb210.lt
  have hdef : getR b = if Wire.endS (rdS b) && ROk (rdR b) then (rdR b, true) else (Rp.zero, false) := rfl
  rw [hdef]
  clear hR2 hR3 hR4 hR5 hR6 hR7 hR8 hR9 hb5 hb54 hb55 hb6 hb57 hb8 hb59 hb2 hb22 hb23 hb24 hb25 hb26 hb27 hb28 hb29 hdef
  generalize rdR b = rr at *
  generalize rdS b = ss at *
  ((conv => whnf); (repeat ((first | (refine VL.nil ?_)); (conv => whnf))))
  ((repeat ((first | (refine VL.cons ?_) | (refine VC.seqS rfl ?_) | (refine VC.region ?_) | (refine VC.seq ?_)); (conv => whnf))))
  refine VCall.of (rEnd_any W10 gr ss hR10) ?_
  rintro e W11 ⟨rfl, N, rfl⟩
  refine ⟨_, rfl, ?_⟩
  have hb11 : Blk (W10.drewN N) g5 34 (rpC rr) := hb10
  have hb211 : Blk (W10.drewN N) g2 34 _ := hb210
  have hB011 : Below w.heap.size w (W10.drewN N) := below_drewN hB010 N
  have fail : ∀ (W12 : World), Blk W12 g2 34 #[.int .i64 0, .int .i64 0, .int .i64 0, .int .i64 0, .string ByteArray.empty] → True := fun _ _ => trivial
  cases he : Wire.endS ss with
  | false =>
    ((conv => whnf); (repeat ((first | (refine VL.cons ?_)); (conv => whnf))))
    ((repeat ((first | (refine VL.cons ?_) | (refine VL.nil ?_) | (refine VC.seqS rfl ?_) | (refine VC.region ?_) | (refine VC.cond ?_) | (refine VBool.t ?_)); (conv => whnf))))
    refine VRead.ofW (v := .agg (rpC Rp.zero)) (fun _ => by kernel_rfl) ?_
    ((conv => whnf); (repeat ((first | (refine VL.cons ?_)); (conv => whnf))))
    ((repeat ((fail); (conv => whnf))))
    refine VUnit.storeAB hb211 rfl rfl rfl (by simp [rpC, Value.oneCell']) ?_
    intro W12 hb12 hg12
    replace hb12 : Blk W12 g2 34 (rpC Rp.zero) := hb12
    ((conv => whnf); (repeat ((first | (refine VL.cons ?_) | (refine VL.nil ?_) | (refine VC.ret ?_)); (conv => whnf))))
    ((repeat ((fail); (conv => whnf))))
    refine VRes.cellTmp rfl hb12 rfl ?_
    exact ⟨rfl, only_new hB011 hg12 (by omega) hB011.size⟩
  | true =>
    ((conv => whnf); (repeat ((first | (refine VL.cons ?_)); (conv => whnf))))
    (repeat (first | ((first | (refine VL.cons ?_) | (refine VBool.f ?_)); (conv => whnf)) | (refine VRead.loadAB1 hb11 rfl rfl ?_; (conv => whnf))))
    refine VCall.of (ck_any rr (W10.drewN N) (hT.below hB011)) ?_
    rintro e W12 ⟨rfl, hB12⟩
    refine ⟨_, rfl, ?_⟩
    have hb512 := hb11.below hB12 hb11.lt
    have hb212 := hb211.below hB12 hb211.lt
    have hB012 := hB011.trans (hB12.mono hB011.size)
    cases hc : ROk rr with
    | false =>
      ((conv => whnf); (repeat ((first | (refine VL.cons ?_)); (conv => whnf))))
      ((repeat ((first | (refine VL.cons ?_) | (refine VL.nil ?_) | (refine VC.seqS rfl ?_) | (refine VC.region ?_) | (refine VC.cond ?_) | (refine VBool.t ?_) | (refine VBool.f ?_)); (conv => whnf))))
      refine VRead.ofW (v := .agg (rpC Rp.zero)) (fun _ => by kernel_rfl) ?_
      ((conv => whnf); (repeat ((first | (refine VL.cons ?_)); (conv => whnf))))
      ((repeat ((fail); (conv => whnf))))
      refine VUnit.storeAB hb212 rfl rfl rfl (by simp [rpC, Value.oneCell']) ?_
      intro W13 hb13 hg13
      replace hb13 : Blk W13 g2 34 (rpC Rp.zero) := hb13
      ((conv => whnf); (repeat ((first | (refine VL.cons ?_) | (refine VL.nil ?_) | (refine VC.ret ?_)); (conv => whnf))))
      ((repeat ((fail); (conv => whnf))))
      refine VRes.cellTmp rfl hb13 rfl ?_
      exact ⟨rfl, only_new hB012 hg13 (by omega) hB012.size⟩
    | true =>
      ((conv => whnf); (repeat ((first | (refine VL.cons ?_)); (conv => whnf))))
      (repeat (first | ((first | (refine VL.cons ?_) | (refine VL.nil ?_) | (refine VC.seqS rfl ?_) | (refine VC.region ?_) | (refine VC.cond ?_) | (refine VC.skip ?_) | (refine VBool.f ?_)); (conv => whnf)) | (refine VRead.loadAB1 hb512 rfl rfl ?_; (conv => whnf))))
      refine VUnit.storeAB hb212 rfl rfl rfl (by simp [rpC, Value.oneCell']) ?_
      intro W13 hb13 hg13
      replace hb13 : Blk W13 g2 34 (rpC rr) := hb13
      ((conv => whnf); (repeat ((first | (refine VL.cons ?_) | (refine VL.nil ?_) | (refine VC.ret ?_)); (conv => whnf))))
      ((repeat ((fail); (conv => whnf))))
      refine VRes.cellTmp rfl hb13 rfl ?_
      exact ⟨rfl, only_new hB012 hg13 (by omega) hB012.size⟩
end Go.Proofs.YtnjhdbgejhnpfaaDoor
end

section
set_option maxRecDepth 10000
namespace Go.Proofs.YtnjhdbgejhnpfaaDoor
set_option linter.unusedVariables false
open Go.RowKit

theorem Blk.laterT {W W' : World} {q T : Nat} {cs : Array Value} (h : Blk W q T cs) (hb : Below W.heap.size W W') : Blk W' q T cs := h.below hb h.lt
set_option maxHeartbeats 2000000 in
theorem rvPut_any (k n : Int) (s : List UInt8) (w : World) (hs : s.length ≤ 1000000) (hk : i64' k) (hn : i64' n) :
    Calls Tryd.prog 57 #[.agg (vC k n s)] w fun e w' => ∃ A' m c', e = .returned (.slice A' m c') ∧ Own w' w.heap.size (.slice A' m c') m (vB k n s) ∧ Below w.heap.size w w' := by
  have hsz : ByteArray.size (txt s) = s.length := txt_size s
  have l1 := Wire.int_len k
  have l2 := Wire.int_len n
  refine calls_vc Tryd.func57 rfl (by kernel_rfl) ?_
  ((conv => whnf); (repeat ((first | (refine VL.cons ?_) | (refine VC.seqS rfl ?_) | (refine VC.region ?_)); (conv => whnf))))
  ((repeat ((fail); (conv => whnf))))
  refine VSem.boxB ?_
  intro w1 g hb hg hl hB1
  replace hb : Blk w1 g 32 #[.int .i64 k, .int .i64 n, .string (txt s)] := hb
  have s1 := hB1.size
  have hS : Below w1.heap.size w1 (w1.drewN 1) := below_drewN (Below.refl _ _) 1
  have kB : ∀ X, Below w1.heap.size w1 X → Blk X g 32 #[.int .i64 k, .int .i64 n, .string (txt s)] := fun X hX => hb.laterT hX
  ((conv => whnf); (repeat ((first | (refine VL.cons ?_) | (refine VL.nil ?_)); (conv => whnf))))
  ((repeat ((first | (refine VC.draw ?_) | (refine VC.seq ?_)); (conv => whnf))))
  refine VDraw.seg (fun X => Below w1.heap.size w1 X) [([0, 1, 3, 4], 2), ([], 5), ([], 6)] [7] (by kernel_rfl) (by kernel_rfl) hS ?_
  generalize w1.drewN 1 = w2 at *
  (conv => whnf)
  (repeat ((first | (refine VRead.loadBS kB rfl rfl ?_) | (refine VQ.cons ?_) | (refine VQ.nil ?_) | (refine VG.cons ?_) | (refine VRead.fld ?_)); (conv => whnf)))
  refine VCall.of (refInt_any k w2 hk) ?_
  rintro e w3 ⟨A3, m3, c3, rfl, hO3, hB3⟩
  refine ⟨_, rfl, ?_⟩
  have hm3 := Own.len hO3
  have hS3 := hS.trans (hB3.mono hS.size)
  (conv => whnf)
  refine Keep.mk hS3 ?_
  (conv => whnf)
  ((repeat ((first | (refine VQ.nil ?_) | (refine VG.cons ?_)); (conv => whnf))))
  refine VCall.of (refInt_any n w3 hn) ?_
  rintro e w4 ⟨A4, m4, c4, rfl, hO4, hB4⟩
  refine ⟨_, rfl, ?_⟩
  have hm4 := Own.len hO4
  have hS4 := hS3.trans (hB4.mono hS3.size)
  have hO34 : Own w4 w1.heap.size (.slice A3 m3 c3) m3 _ := rows_more (hO3.below hB4 (Nat.le_refl _)) hS.size
  (conv => whnf)
  refine Keep.mk hS4 ?_
  (conv => whnf)
  ((repeat ((first | (refine VQ.nil ?_) | (refine VG.cons ?_)); (conv => whnf))))
  refine VSem.appO hO34 (Own.reads hO4) (by omega) hS4.size ?_
  intro A5 c5 w5 hO5 _ hB5
  have hS5 := hS4.trans hB5
  have hb5 := kB w5 hS5
  (conv => whnf)
  refine Keep.mk hS5 ?_
  ((conv => whnf); (repeat ((first | (refine VL.cons ?_) | (refine VC.seqS rfl ?_) | (refine VC.region ?_) | (refine VQ.cons ?_) | (refine VQ.nil ?_) | (refine VG.nil ?_)); (conv => whnf))))
  (repeat ((first | (refine VRead.loadB hb5 rfl rfl ?_) | (refine VL.cons ?_) | (refine VRead.fld ?_)); (conv => whnf)))
  refine VCall.of (refText_any (txt s) w5 (by omega)) ?_
  rintro e w6 ⟨A6, m6, c6, rfl, hO6, hB6⟩
  refine ⟨_, rfl, ?_⟩
  have hm6 := Own.len hO6
  rw [txt_list] at hO6 hm6
  have hS6 := hS5.trans (hB6.mono hS5.size)
  have l3 : (Wire.text s).length ≤ 10 + s.length := by
    have := Wire.int_len (s.length : Int)
    unfold Wire.text
    rw [List.length_append]
    omega
  ((conv => whnf); (repeat ((first | (refine VL.cons ?_)); (conv => whnf))))
  ((repeat ((fail); (conv => whnf))))
  refine VSem.appO (hO5.below hB6 (Nat.le_refl _)) (Own.reads hO6) (by omega) hS6.size ?_
  intro A7 c7 w7 hO7 _ hB7
  have hS7 := hS6.trans hB7
  ((conv => whnf); (repeat ((first | (refine VL.cons ?_) | (refine VL.nil ?_) | (refine VC.ret ?_)); (conv => whnf))))
  ((repeat ((fail); (conv => whnf))))
  refine ⟨A7, _, c7, rfl, ?_, hB1.trans (hS7.mono s1)⟩
  exact rows_more hO7 s1
theorem vB_le {k n : Int} {s : List UInt8} : (vB k n s).length ≤ 30 + s.length := by
  have l1 := Wire.int_len k
  have l2 := Wire.int_len n
  have l3 := Wire.int_len (s.length : Int)
  unfold vB Wire.text
  simp only [List.length_append]
  omega
set_option maxHeartbeats 2000000 in
theorem rrPut_any (r : Rp) (w : World) (hs : r.s.length ≤ 1000000) (h1 : i64' r.err) (h2 : i64' r.n) (h3 : i64' r.kind) (h4 : i64' r.vn) :
    Calls Tryd.prog 47 #[.agg (rpC r)] w fun e w' => ∃ A' m c', e = .returned (.slice A' m c') ∧ Own w' w.heap.size (.slice A' m c') m (rB r) ∧ Below w.heap.size w w' := by
  have l1 := Wire.int_len r.err
  have l2 := Wire.int_len r.n
  have l3 := vB_le (k := r.kind) (n := r.vn) (s := r.s)
  refine calls_vc Tryd.func47 rfl (by kernel_rfl) ?_
  ((conv => whnf); (repeat ((first | (refine VL.cons ?_) | (refine VC.seqS rfl ?_) | (refine VC.region ?_)); (conv => whnf))))
  ((repeat ((fail); (conv => whnf))))
  refine VSem.boxB ?_
  intro w1 g hb hg hl hB1
  replace hb : Blk w1 g 34 #[.int .i64 r.err, .int .i64 r.n, .int .i64 r.kind, .int .i64 r.vn, .string (txt r.s)] := hb
  have s1 := hB1.size
  have hS : Below w1.heap.size w1 (w1.drewN 1) := below_drewN (Below.refl _ _) 1
  have kB : ∀ X, Below w1.heap.size w1 X → Blk X g 34 #[.int .i64 r.err, .int .i64 r.n, .int .i64 r.kind, .int .i64 r.vn, .string (txt r.s)] := fun X hX => hb.laterT hX
  ((conv => whnf); (repeat ((first | (refine VL.cons ?_) | (refine VL.nil ?_)); (conv => whnf))))
  ((repeat ((first | (refine VC.draw ?_) | (refine VC.seq ?_)); (conv => whnf))))
  refine VDraw.seg (fun X => Below w1.heap.size w1 X) [([0, 1, 3, 4], 2), ([], 5), ([], 6)] [7] (by kernel_rfl) (by kernel_rfl) hS ?_
  generalize w1.drewN 1 = w2 at *
  (conv => whnf)
  (repeat ((first | (refine VRead.loadBS kB rfl rfl ?_) | (refine VQ.cons ?_) | (refine VQ.nil ?_) | (refine VG.cons ?_) | (refine VRead.fld ?_)); (conv => whnf)))
  refine VCall.of (refInt_any r.err w2 h1) ?_
  rintro e w3 ⟨A3, m3, c3, rfl, hO3, hB3⟩
  refine ⟨_, rfl, ?_⟩
  have hm3 := Own.len hO3
  have hS3 := hS.trans (hB3.mono hS.size)
  (conv => whnf)
  refine Keep.mk hS3 ?_
  (conv => whnf)
  ((repeat ((first | (refine VQ.nil ?_) | (refine VG.cons ?_)); (conv => whnf))))
  refine VCall.of (refInt_any r.n w3 h2) ?_
  rintro e w4 ⟨A4, m4, c4, rfl, hO4, hB4⟩
  refine ⟨_, rfl, ?_⟩
  have hm4 := Own.len hO4
  have hS4 := hS3.trans (hB4.mono hS3.size)
  have hO34 : Own w4 w1.heap.size (.slice A3 m3 c3) m3 _ := rows_more (hO3.below hB4 (Nat.le_refl _)) hS.size
  (conv => whnf)
  refine Keep.mk hS4 ?_
  (conv => whnf)
  ((repeat ((first | (refine VQ.nil ?_) | (refine VG.cons ?_)); (conv => whnf))))
  refine VSem.appO hO34 (Own.reads hO4) (by omega) hS4.size ?_
  intro A5 c5 w5 hO5 _ hB5
  have hS5 := hS4.trans hB5
  have hb5 := kB w5 hS5
  (conv => whnf)
  refine Keep.mk hS5 ?_
  ((conv => whnf); (repeat ((first | (refine VL.cons ?_) | (refine VC.seqS rfl ?_) | (refine VC.region ?_) | (refine VQ.cons ?_) | (refine VQ.nil ?_) | (refine VG.nil ?_)); (conv => whnf))))
  ((repeat ((first | (refine VL.cons ?_) | (refine VRead.fld ?_)); (conv => whnf))))
  refine VRead.loadABi (vs := vC r.kind r.vn r.s) 2 (fun _ e => e ▸ hb5) rfl rfl (by intro j hj; match j, hj with | 0, _ => rfl | 1, _ => rfl | 2, _ => rfl) ?_
  ((conv => whnf); (repeat ((first | (refine VL.cons ?_)); (conv => whnf))))
  ((repeat ((fail); (conv => whnf))))
  refine VCall.of (rvPut_any r.kind r.vn r.s w5 hs h3 h4) ?_
  rintro e w6 ⟨A6, m6, c6, rfl, hO6, hB6⟩
  refine ⟨_, rfl, ?_⟩
  have hm6 := Own.len hO6
  have hS6 := hS5.trans (hB6.mono hS5.size)
  ((conv => whnf); (repeat ((first | (refine VL.cons ?_)); (conv => whnf))))
  ((repeat ((fail); (conv => whnf))))
  refine VSem.appO (hO5.below hB6 (Nat.le_refl _)) (Own.reads hO6) (by omega) hS6.size ?_
  intro A7 c7 w7 hO7 _ hB7
  have hS7 := hS6.trans hB7
  ((conv => whnf); (repeat ((first | (refine VL.cons ?_) | (refine VL.nil ?_) | (refine VC.ret ?_)); (conv => whnf))))
  ((repeat ((fail); (conv => whnf))))
  refine ⟨A7, _, c7, rfl, ?_, hB1.trans (hS7.mono s1)⟩
  exact rows_more hO7 s1
end Go.Proofs.YtnjhdbgejhnpfaaDoor
end

section
set_option maxRecDepth 10000
namespace Go.Proofs.YtnjhdbgejhnpfaaDoor
set_option linter.unusedVariables false
open Go.RowKit

theorem RS.flag {T : TypeId} {w : World} {g : Nat} {s : Option (List UInt8)} (h : RS T w g s) : ∃ (A : Option Addr) (n c p : Nat), Blk w g T #[.slice A n c, .int .i64 (p : Int), .bool (s == none)] ∧
    ∀ w', Blk w' g T #[.slice A n c, .int .i64 (p : Int), .bool true] → w.grownBy w' (some g) → RS T w' g none := by
  have hl := h.lt
  obtain ⟨l, p, bad, ⟨A, n, c, h1, h2, hnc, hc, hp⟩, rfl⟩ := h
  refine ⟨A, n, c, p, ?_, fun w' hb hg => RS.mk hb (h2.only hg (by omega) (by omega)) hnc hc hp rfl⟩
  cases bad <;> exact h1
set_option maxHeartbeats 2000000 in
theorem rvGet_any (g : Nat) (s : Option (List UInt8)) (w : World) (hr : RS 63 w g s) :
    Calls Tryd.prog 55 #[.pointer (some ⟨g, 0, none⟩)] w fun e w' => e = .returned (.agg (vC (vGetS s).1.1 (vGetS s).1.2.1 (vGetS s).1.2.2)) ∧ RS 63 w' g (vGetS s).2 ∧ Out (fun j => j = g ∨ w.heap.size ≤ j) w w' := by
  have hgl := hr.lt
  refine calls_vc Tryd.func55 rfl (by kernel_rfl) ?_
  ((conv => whnf); (repeat ((first | (refine VL.cons ?_) | (refine VC.seqS rfl ?_) | (refine VC.region ?_)); (conv => whnf))))
  ((repeat ((fail); (conv => whnf))))
  refine VSem.allocZ (z := .agg #[.int .i64 0, .int .i64 0, .string ByteArray.empty]) (by kernel_rfl) ?_
  intro W1 g2 hb2 hgb2 hlb2 hB1
  have hr1 := hr.below hB1 hgl
  have hO1 : Out (fun j => j = g ∨ w.heap.size ≤ j) w W1 := Out.new hB1
  have hsz1 := hB1.size
  ((conv => whnf); (repeat ((first | (refine VL.cons ?_) | (refine VL.nil ?_) | (refine VC.seqS rfl ?_) | (refine VC.region ?_)); (conv => whnf))))
  refine VRead.ofW (v := .agg (vC 0 0 [])) (fun _ => by kernel_rfl) ?_
  ((conv => whnf); (repeat ((first | (refine VL.cons ?_)); (conv => whnf))))
  ((repeat ((fail); (conv => whnf))))
  refine VSem.allocZ (z := .agg #[.int .i64 0, .int .i64 0, .string ByteArray.empty]) (by kernel_rfl) ?_
  intro W2 g3 hb3 hgb3 hlb3 hB2
  have hb22 := hb2.below hB2 hb2.lt
  have hr2 := hr1.below hB2 hr1.lt
  have hO2 := hO1.trans (Out.new (U := fun j => j = g ∨ w.heap.size ≤ j) hB2)
  have hsz2 := hB2.size
  ((conv => whnf); (repeat ((first | (refine VL.cons ?_)); (conv => whnf))))
  ((repeat ((fail); (conv => whnf))))
  refine VUnit.storeAB hb3 rfl rfl rfl (by simp [vC, Value.oneCell']) ?_
  intro W3 hb33 hg3
  replace hb33 : Blk W3 g3 32 #[.int .i64 0, .int .i64 0, .string (txt [])] := hb33
  have hb23 := hb22.grown hg3 (fun e => by injection e; omega)
  have hr3 := hr2.other hg3 (by omega)
  have hO3 := hO2.trans (Out.grown (U := fun j => j = g ∨ w.heap.size ≤ j) hg3 (.inr (by omega)))
  clear hr1 hr2 hb2 hb3 hb22 hO1 hO2
  ((conv => whnf); (repeat ((first | (refine VL.cons ?_) | (refine VL.nil ?_) | (refine VC.seqS rfl ?_) | (refine VC.region ?_)); (conv => whnf))))
  ((repeat ((fail); (conv => whnf))))
  refine VCall.of (fInt_any W3 g s hr3) ?_
  rintro e W4 ⟨rfl, hr4, hg4⟩
  refine ⟨_, rfl, ?_⟩
  have hO4 := hO3.trans (Out.grown (U := fun j => j = g ∨ w.heap.size ≤ j) hg4 (.inl rfl))
  have hb34 := hb33.grown hg4 (fun e => by injection e; omega)
  have hb24 := hb23.grown hg4 (fun e => by injection e; omega)
  ((conv => whnf); (repeat ((first | (refine VL.cons ?_)); (conv => whnf))))
  ((repeat ((first | (refine VL.cons ?_) | (refine VRead.fld ?_)); (conv => whnf))))
  refine VUnit.storeB hb34 rfl rfl rfl ?_
  intro W5 hb5 hg5
  replace hb5 : Blk W5 g3 32 #[.int .i64 (Wire.intS s).1, .int .i64 0, .string (txt [])] := hb5
  have hr5 := hr4.other hg5 (by omega)
  have hO5 := hO4.trans (Out.grown (U := fun j => j = g ∨ w.heap.size ≤ j) hg5 (.inr (by omega)))
  have hb25 := hb24.grown hg5 (fun e => by injection e; omega)
  ((conv => whnf); (repeat ((first | (refine VL.cons ?_) | (refine VL.nil ?_) | (refine VC.seqS rfl ?_) | (refine VC.region ?_)); (conv => whnf))))
  ((repeat ((fail); (conv => whnf))))
  refine VCall.of (fInt_any W5 g _ hr5) ?_
  rintro e W6 ⟨rfl, hr6, hg6⟩
  refine ⟨_, rfl, ?_⟩
  have hO6 := hO5.trans (Out.grown (U := fun j => j = g ∨ w.heap.size ≤ j) hg6 (.inl rfl))
  have hb36 := hb5.grown hg6 (fun e => by injection e; omega)
  have hb26 := hb25.grown hg6 (fun e => by injection e; omega)
  ((conv => whnf); (repeat ((first | (refine VL.cons ?_)); (conv => whnf))))
  ((repeat ((first | (refine VL.cons ?_) | (refine VRead.fld ?_)); (conv => whnf))))
  refine VUnit.storeB hb36 rfl rfl rfl ?_
  intro W7 hb7 hg7
  replace hb7 : Blk W7 g3 32 #[.int .i64 (Wire.intS s).1, .int .i64 (Wire.intS (Wire.intS s).2).1, .string (txt [])] := hb7
  have hr7 := hr6.other hg7 (by omega)
  have hO7 := hO6.trans (Out.grown (U := fun j => j = g ∨ w.heap.size ≤ j) hg7 (.inr (by omega)))
  have hb27 := hb26.grown hg7 (fun e => by injection e; omega)
  ((conv => whnf); (repeat ((first | (refine VL.cons ?_) | (refine VL.nil ?_) | (refine VC.seqS rfl ?_) | (refine VC.region ?_)); (conv => whnf))))
  ((repeat ((fail); (conv => whnf))))
  refine VCall.of (fText_any W7 g _ 400 hr7) ?_
  rintro e W8 ⟨rfl, hr8, hg8⟩
  refine ⟨_, rfl, ?_⟩
  have hO8 := hO7.trans (Out.grown (U := fun j => j = g ∨ w.heap.size ≤ j) hg8 (.inl rfl))
  have hb38 := hb7.grown hg8 (fun e => by injection e; omega)
  have hb28 := hb27.grown hg8 (fun e => by injection e; omega)
  have hdef : vGetS s = if Wire.okS (Wire.textS 400 (Wire.intS (Wire.intS s).2).2).2 && VOk (Wire.intS s).1 (Wire.intS (Wire.intS s).2).1 (Wire.textS 400 (Wire.intS (Wire.intS s).2).2).1
    then (((Wire.intS s).1, (Wire.intS (Wire.intS s).2).1, (Wire.textS 400 (Wire.intS (Wire.intS s).2).2).1), (Wire.textS 400 (Wire.intS (Wire.intS s).2).2).2) else ((0, 0, []), none) := rfl
  rw [hdef]
  clear hdef hr3 hr4 hr5 hr6 hr7 hO3 hO4 hO5 hO6 hO7 hb23 hb24 hb25 hb26 hb27 hb33 hb34 hb5 hb36 hb7
  generalize (Wire.intS s).1 = k at *
  generalize (Wire.intS (Wire.intS s).2).1 = n at *
  generalize (Wire.textS 400 (Wire.intS (Wire.intS s).2).2).1 = t at *
  generalize (Wire.textS 400 (Wire.intS (Wire.intS s).2).2).2 = s4 at *
  ((conv => whnf); (repeat ((first | (refine VL.cons ?_)); (conv => whnf))))
  ((repeat ((first | (refine VL.cons ?_) | (refine VRead.fld ?_)); (conv => whnf))))
  refine VUnit.storeB hb38 rfl rfl rfl ?_
  intro W9 hb9 hg9
  replace hb9 : Blk W9 g3 32 (vC k n t) := hb9
  have hr9 := hr8.other hg9 (by omega)
  have hO9 := hO8.trans (Out.grown (U := fun j => j = g ∨ w.heap.size ≤ j) hg9 (.inr (by omega)))
  have hb29 := hb28.grown hg9 (fun e => by injection e; omega)
  have hl29 := hb29.lt
  clear hr8 hO8 hb28 hb38
  obtain ⟨A, nn, cc, p, hf, hfail⟩ := hr9.flag
  cases s4 with
  | none =>
    ((conv => whnf); (repeat ((first | (refine VL.nil ?_)); (conv => whnf))))
    (repeat ((first | (refine VRead.loadB hf rfl rfl ?_) | (refine VL.cons ?_) | (refine VL.nil ?_) | (refine VC.seqS rfl ?_) | (refine VC.region ?_) | (refine VC.cond ?_) | (refine VBool.t ?_) | (refine VRead.fld ?_) | (refine VC.seq ?_)); (conv => whnf)))
    refine VUnit.storeB hf rfl rfl rfl ?_
    intro W10 hf10 hg10
    have hr10 := hfail W10 hf10 hg10
    have hb210 := hb29.grown hg10 (fun e => by injection e; omega)
    ((conv => whnf); (repeat ((first | (refine VL.cons ?_) | (refine VL.nil ?_) | (refine VC.seqS rfl ?_) | (refine VC.region ?_)); (conv => whnf))))
    ((repeat ((fail); (conv => whnf))))
    refine VRead.ofW (v := .agg (vC 0 0 [])) (fun _ => by kernel_rfl) ?_
    ((conv => whnf); (repeat ((first | (refine VL.cons ?_)); (conv => whnf))))
    ((repeat ((fail); (conv => whnf))))
    refine VUnit.storeAB hb210 rfl rfl rfl (by simp [vC, Value.oneCell']) ?_
    intro W11 hb11 hg11
    replace hb11 : Blk W11 g2 32 (vC 0 0 []) := hb11
    ((conv => whnf); (repeat ((first | (refine VL.nil ?_) | (refine VC.ret ?_)); (conv => whnf))))
    ((repeat ((fail); (conv => whnf))))
    refine VRes.cellOne rfl hb11 rfl ?_
    exact ⟨rfl, hr10.other hg11 (by omega), hO9.trans ((Out.grown hg10 (.inl rfl)).trans (Out.grown hg11 (.inr (by omega))))⟩
  | some sr =>
    ((conv => whnf); (repeat ((first | (refine VL.nil ?_)); (conv => whnf))))
    (repeat ((first | (refine VRead.loadB hf rfl rfl ?_) | (refine VRead.loadAB1 hb9 rfl rfl ?_) | (refine VL.cons ?_) | (refine VC.seqS rfl ?_) | (refine VC.region ?_) | (refine VBool.f ?_) | (refine VRead.fld ?_) | (refine VC.seq ?_)); (conv => whnf)))
    refine VCall.of (rvCheck_any k n t W9) ?_
    rintro e W10 ⟨rfl, hB10⟩
    refine ⟨_, rfl, ?_⟩
    have hb210 := hb29.below hB10 hb29.lt
    have hb310 := hb9.below hB10 hb9.lt
    have hf10 := hf.below hB10 hf.lt
    have hr10 := hr9.below hB10 hr9.lt
    have hO10 := hO9.trans (Out.new (U := fun j => j = g ∨ w.heap.size ≤ j) hB10)
    have hl210 := hb210.lt
    clear hf hfail
    obtain ⟨A, nn, cc, p, hf, hfail⟩ := hr10.flag
    cases hv : VOk k n t with
    | false =>
      ((conv => whnf); (repeat ((first | (refine VL.cons ?_)); (conv => whnf))))
      ((repeat ((first | (refine VL.cons ?_) | (refine VL.nil ?_) | (refine VC.seqS rfl ?_) | (refine VC.region ?_) | (refine VC.cond ?_) | (refine VBool.t ?_) | (refine VBool.f ?_) | (refine VRead.fld ?_)); (conv => whnf))))
      refine VUnit.storeB hf rfl rfl rfl ?_
      intro W11 hf11 hg11
      have hr11 := hfail W11 hf11 hg11
      have hb211 := hb210.grown hg11 (fun e => by injection e; omega)
      ((conv => whnf); (repeat ((first | (refine VL.cons ?_) | (refine VL.nil ?_) | (refine VC.seqS rfl ?_) | (refine VC.region ?_)); (conv => whnf))))
      ((repeat ((fail); (conv => whnf))))
      refine VRead.ofW (v := .agg (vC 0 0 [])) (fun _ => by kernel_rfl) ?_
      ((conv => whnf); (repeat ((first | (refine VL.cons ?_)); (conv => whnf))))
      ((repeat ((fail); (conv => whnf))))
      refine VUnit.storeAB hb211 rfl rfl rfl (by simp [vC, Value.oneCell']) ?_
      intro W12 hb12 hg12
      replace hb12 : Blk W12 g2 32 (vC 0 0 []) := hb12
      ((conv => whnf); (repeat ((first | (refine VL.nil ?_) | (refine VC.ret ?_)); (conv => whnf))))
      ((repeat ((fail); (conv => whnf))))
      refine VRes.cellOne rfl hb12 rfl ?_
      exact ⟨rfl, hr11.other hg12 (by omega), hO10.trans ((Out.grown hg11 (.inl rfl)).trans (Out.grown hg12 (.inr (by omega))))⟩
    | true =>
      ((conv => whnf); (repeat ((first | (refine VL.cons ?_)); (conv => whnf))))
      (repeat (first | ((first | (refine VL.cons ?_) | (refine VL.nil ?_) | (refine VC.seqS rfl ?_) | (refine VC.region ?_) | (refine VC.cond ?_) | (refine VC.skip ?_) | (refine VBool.f ?_)); (conv => whnf)) | (refine VRead.loadAB1 hb310 rfl rfl ?_; (conv => whnf))))
      refine VUnit.storeAB hb210 rfl rfl rfl (by simp [vC, Value.oneCell']) ?_
      intro W11 hb11 hg11
      replace hb11 : Blk W11 g2 32 (vC k n t) := hb11
      ((conv => whnf); (repeat ((first | (refine VL.nil ?_) | (refine VC.ret ?_)); (conv => whnf))))
      ((repeat ((fail); (conv => whnf))))
      refine VRes.cellOne rfl hb11 rfl ?_
      exact ⟨rfl, hr10.other hg11 (by omega), hO10.trans (Out.grown hg11 (.inr (by omega)))⟩
end Go.Proofs.YtnjhdbgejhnpfaaDoor
end

section
set_option maxRecDepth 10000
namespace Go.Proofs.YtnjhdbgejhnpfaaDoor
set_option linter.unusedVariables false
open Go.RowKit

set_option maxHeartbeats 4000000 in
theorem rgetR_any (A : Option Addr) (n c : Nat) (b : List UInt8) (w : World) (hn : n ≤ 140737488355328) (hnc : n ≤ c) (hr : Reads w w.heap.size 1 A n (bv b)) :
    Calls Tryd.prog 44 #[.slice A n c] w fun e w' => e = .returned (.tuple #[.agg (rpC (getR b).1), .bool (getR b).2]) ∧ Below w.heap.size w w' := by
  refine calls_vc Tryd.func44 rfl (by kernel_rfl) ?_
  ((conv => whnf); (repeat ((first | (refine VL.cons ?_) | (refine VC.seqS rfl ?_) | (refine VC.region ?_)); (conv => whnf))))
  ((repeat ((fail); (conv => whnf))))
  refine VSem.allocZ (z := .agg #[.int .i64 0, .int .i64 0, .int .i64 0, .int .i64 0, .string ByteArray.empty]) (by kernel_rfl) ?_
  intro W1 g2 hb2 hgb2 hlb2 hB1
  have hs1 := hB1.size
  ((conv => whnf); (repeat ((first | (refine VL.cons ?_) | (refine VL.nil ?_) | (refine VC.seqS rfl ?_) | (refine VC.region ?_)); (conv => whnf))))
  ((repeat ((fail); (conv => whnf))))
  refine VRead.ofW (v := .agg #[.slice A n c, .int .i64 ((0 : Nat) : Int), .bool false]) (fun _ => by kernel_rfl) ?_
  ((conv => whnf); (repeat ((first | (refine VL.cons ?_)); (conv => whnf))))
  ((repeat ((fail); (conv => whnf))))
  refine VSem.boxB ?_
  intro W2 gr hbr hgre hgrl hB2
  replace hbr : Blk W2 gr 63 #[.slice A n c, .int .i64 ((0 : Nat) : Int), .bool false] := hbr
  have hgr : W1.heap.size ≤ gr := by omega
  have hR2 : RS 63 W2 gr (some b) := RS.mk hbr (((hr.below hB1).more hs1 |>.below hB2).more (by omega)) hnc (by omega) (by omega) (by simp)
  have hB02 := hB1.trans (hB2.mono hs1)
  have hb22 := hb2.below hB2 hlb2
  have hgr2 := hR2.lt
  ((conv => whnf); (repeat ((first | (refine VL.cons ?_) | (refine VL.nil ?_) | (refine VC.seqS rfl ?_) | (refine VC.region ?_)); (conv => whnf))))
  refine VRead.ofW (v := .agg (rpC Rp.zero)) (fun _ => by kernel_rfl) ?_
  ((conv => whnf); (repeat ((first | (refine VL.cons ?_)); (conv => whnf))))
  ((repeat ((fail); (conv => whnf))))
  refine VSem.allocZ (z := .agg #[.int .i64 0, .int .i64 0, .int .i64 0, .int .i64 0, .string ByteArray.empty]) (by kernel_rfl) ?_
  intro W3 g5 hb5 hgb5 hlb5 hB3
  have hR3 := hR2.below hB3 hgr2
  have hB03 := hB02.trans (hB3.mono hB02.size)
  have hb23 := hb22.below hB3 hb22.lt
  have hs3 := hB03.size
  ((conv => whnf); (repeat ((first | (refine VL.cons ?_)); (conv => whnf))))
  ((repeat ((fail); (conv => whnf))))
  refine VUnit.storeAB hb5 rfl rfl rfl (by simp [rpC, Value.oneCell']) ?_
  intro W4 hb54 hg4
  replace hb54 : Blk W4 g5 34 #[.int .i64 0, .int .i64 0, .int .i64 0, .int .i64 0, .string ByteArray.empty] := hb54
  have hR4 := hR3.other hg4 (by omega)
  have hB04 := only_new hB03 hg4 (by omega) hs3
  have hb24 := hb23.grown hg4 (fun e => by injection e; omega)
  have hs4 := hg4.size
  ((conv => whnf); (repeat ((first | (refine VL.cons ?_) | (refine VL.nil ?_) | (refine VC.seqS rfl ?_) | (refine VC.region ?_)); (conv => whnf))))
  ((repeat ((fail); (conv => whnf))))
  refine VCall.of (fInt_any W4 gr _ hR4) ?_
  rintro e W5 ⟨rfl, hR5, hg5⟩
  refine ⟨_, rfl, ?_⟩
  have hB05 := only_new hB04 hg5 (by omega) hB04.size
  have hb55 := hb54.grown hg5 (fun e => by injection e; omega)
  have hb25 := hb24.grown hg5 (fun e => by injection e; omega)
  obtain ⟨er, her⟩ : ∃ v, (Wire.intS (some b)).1 = v := ⟨_, rfl⟩
  have hs5 := hg5.size
  ((conv => whnf); (repeat ((first | (refine VL.cons ?_)); (conv => whnf))))
  ((repeat ((first | (refine VL.cons ?_) | (refine VRead.fld ?_)); (conv => whnf))))
  refine VUnit.storeB hb55 rfl rfl rfl ?_
  intro W6 hb6 hg6
  replace hb6 : Blk W6 g5 34 #[.int .i64 (Wire.intS (some b)).1, .int .i64 0, .int .i64 0, .int .i64 0, .string ByteArray.empty] := hb6
  have hR6 := hR5.other hg6 (by omega)
  have hB06 := only_new hB05 hg6 (by omega) hB05.size
  have hb26 := hb25.grown hg6 (fun e => by injection e; omega)
  have hs6 := hg6.size
  ((conv => whnf); (repeat ((first | (refine VL.cons ?_) | (refine VL.nil ?_) | (refine VC.seqS rfl ?_) | (refine VC.region ?_)); (conv => whnf))))
  ((repeat ((fail); (conv => whnf))))
  refine VCall.of (fInt_any W6 gr _ hR6) ?_
  rintro e W7 ⟨rfl, hR7, hg7⟩
  refine ⟨_, rfl, ?_⟩
  have hB07 := only_new hB06 hg7 (by omega) hB06.size
  have hb57 := hb6.grown hg7 (fun e => by injection e; omega)
  have hb27 := hb26.grown hg7 (fun e => by injection e; omega)
  have hs7 := hg7.size
  ((conv => whnf); (repeat ((first | (refine VL.cons ?_)); (conv => whnf))))
  ((repeat ((first | (refine VL.cons ?_) | (refine VRead.fld ?_)); (conv => whnf))))
  refine VUnit.storeB hb57 rfl rfl rfl ?_
  intro W8 hb8 hg8
  replace hb8 : Blk W8 g5 34 #[.int .i64 (Wire.intS (some b)).1, .int .i64 (Wire.intS (Wire.intS (some b)).2).1, .int .i64 0, .int .i64 0, .string ByteArray.empty] := hb8
  have hR8 := hR7.other hg8 (by omega)
  have hB08 := only_new hB07 hg8 (by omega) hB07.size
  have hb28 := hb27.grown hg8 (fun e => by injection e; omega)
  have hs8 := hg8.size
  have hl8 := hb8.lt
  have hl28 := hb28.lt
  ((conv => whnf); (repeat ((first | (refine VL.cons ?_) | (refine VL.nil ?_) | (refine VC.seqS rfl ?_) | (refine VC.region ?_)); (conv => whnf))))
  ((repeat ((fail); (conv => whnf))))
  refine VCall.of (rvGet_any gr _ W8 hR8) ?_
  rintro e W9 ⟨rfl, hR9, hO9⟩
  refine ⟨_, rfl, ?_⟩
  have hB09 : Below w.heap.size w W9 := hB08.trans (hO9.below (fun j hj => by omega) hB08.size)
  have hb59 : Blk W9 g5 34 #[.int .i64 (Wire.intS (some b)).1, .int .i64 (Wire.intS (Wire.intS (some b)).2).1, .int .i64 0, .int .i64 0, .string ByteArray.empty] := (hO9.block g5 hl8 (by omega)).trans hb8
  have hb29 : Blk W9 g2 34 #[.int .i64 0, .int .i64 0, .int .i64 0, .int .i64 0, .string ByteArray.empty] := (hO9.block g2 hl28 (by omega)).trans hb28
  have hs9 := hO9.size
  ((conv => whnf); (repeat ((first | (refine VL.cons ?_)); (conv => whnf))))
  ((repeat ((first | (refine VL.cons ?_) | (refine VRead.fld ?_)); (conv => whnf))))
  refine VUnit.storeABi 2 hb59 rfl rfl rfl (by simp [vC, Value.oneCell']) ?_
  intro W10 hb10 hg10
  replace hb10 : Blk W10 g5 34 (rpC (rdR b)) := hb10
  have hR10 : RS 63 W10 gr (rdS b) := hR9.other hg10 (by omega)
  have hB010 := only_new hB09 hg10 (by omega) hB09.size
  have hb210 := hb29.grown hg10 (fun e => by injection e; omega)
  have hl2 := hb210.lt
  have hdef : getR b = if Wire.endS (rdS b) && ROk (rdR b) then (rdR b, true) else (Rp.zero, false) := rfl
  rw [hdef]
  clear hR2 hR3 hR4 hR5 hR6 hR7 hR8 hR9 hb5 hb54 hb55 hb6 hb57 hb8 hb59 hb2 hb22 hb23 hb24 hb25 hb26 hb27 hb28 hb29 hdef
  generalize rdR b = rr at *
  generalize rdS b = ss at *
  ((conv => whnf); (repeat ((first | (refine VL.nil ?_)); (conv => whnf))))
  ((repeat ((first | (refine VL.cons ?_) | (refine VC.seqS rfl ?_) | (refine VC.region ?_) | (refine VC.seq ?_)); (conv => whnf))))
  refine VCall.of (fEnd_any W10 gr ss hR10) ?_
  rintro e W11 ⟨rfl, N, rfl⟩
  refine ⟨_, rfl, ?_⟩
  have hb11 : Blk (W10.drewN N) g5 34 (rpC rr) := hb10
  have hb211 : Blk (W10.drewN N) g2 34 _ := hb210
  have hB011 : Below w.heap.size w (W10.drewN N) := below_drewN hB010 N
  have fail : ∀ (W12 : World), Blk W12 g2 34 #[.int .i64 0, .int .i64 0, .int .i64 0, .int .i64 0, .string ByteArray.empty] → True := fun _ _ => trivial
  cases he : Wire.endS ss with
  | false =>
    ((conv => whnf); (repeat ((first | (refine VL.cons ?_)); (conv => whnf))))
    ((repeat ((first | (refine VL.cons ?_) | (refine VL.nil ?_) | (refine VC.seqS rfl ?_) | (refine VC.region ?_) | (refine VC.cond ?_) | (refine VBool.t ?_)); (conv => whnf))))
    refine VRead.ofW (v := .agg (rpC Rp.zero)) (fun _ => by kernel_rfl) ?_
    ((conv => whnf); (repeat ((first | (refine VL.cons ?_)); (conv => whnf))))
    ((repeat ((fail); (conv => whnf))))
    refine VUnit.storeAB hb211 rfl rfl rfl (by simp [rpC, Value.oneCell']) ?_
    intro W12 hb12 hg12
    replace hb12 : Blk W12 g2 34 (rpC Rp.zero) := hb12
    ((conv => whnf); (repeat ((first | (refine VL.cons ?_) | (refine VL.nil ?_) | (refine VC.ret ?_)); (conv => whnf))))
    ((repeat ((fail); (conv => whnf))))
    refine VRes.cellTmp rfl hb12 rfl ?_
    exact ⟨rfl, only_new hB011 hg12 (by omega) hB011.size⟩
  | true =>
    ((conv => whnf); (repeat ((first | (refine VL.cons ?_)); (conv => whnf))))
    (repeat (first | ((first | (refine VL.cons ?_) | (refine VBool.f ?_)); (conv => whnf)) | (refine VRead.loadAB1 hb11 rfl rfl ?_; (conv => whnf))))
    refine VCall.of (rck_any rr (W10.drewN N)) ?_
    rintro e W12 ⟨rfl, hB12⟩
    refine ⟨_, rfl, ?_⟩
    have hb512 := hb11.below hB12 hb11.lt
    have hb212 := hb211.below hB12 hb211.lt
    have hB012 := hB011.trans (hB12.mono hB011.size)
    cases hc : ROk rr with
    | false =>
      ((conv => whnf); (repeat ((first | (refine VL.cons ?_)); (conv => whnf))))
      ((repeat ((first | (refine VL.cons ?_) | (refine VL.nil ?_) | (refine VC.seqS rfl ?_) | (refine VC.region ?_) | (refine VC.cond ?_) | (refine VBool.t ?_) | (refine VBool.f ?_)); (conv => whnf))))
      refine VRead.ofW (v := .agg (rpC Rp.zero)) (fun _ => by kernel_rfl) ?_
      ((conv => whnf); (repeat ((first | (refine VL.cons ?_)); (conv => whnf))))
      ((repeat ((fail); (conv => whnf))))
      refine VUnit.storeAB hb212 rfl rfl rfl (by simp [rpC, Value.oneCell']) ?_
      intro W13 hb13 hg13
      replace hb13 : Blk W13 g2 34 (rpC Rp.zero) := hb13
      ((conv => whnf); (repeat ((first | (refine VL.cons ?_) | (refine VL.nil ?_) | (refine VC.ret ?_)); (conv => whnf))))
      ((repeat ((fail); (conv => whnf))))
      refine VRes.cellTmp rfl hb13 rfl ?_
      exact ⟨rfl, only_new hB012 hg13 (by omega) hB012.size⟩
    | true =>
      ((conv => whnf); (repeat ((first | (refine VL.cons ?_)); (conv => whnf))))
      (repeat (first | ((first | (refine VL.cons ?_) | (refine VL.nil ?_) | (refine VC.seqS rfl ?_) | (refine VC.region ?_) | (refine VC.cond ?_) | (refine VC.skip ?_) | (refine VBool.f ?_)); (conv => whnf)) | (refine VRead.loadAB1 hb512 rfl rfl ?_; (conv => whnf))))
      refine VUnit.storeAB hb212 rfl rfl rfl (by simp [rpC, Value.oneCell']) ?_
      intro W13 hb13 hg13
      replace hb13 : Blk W13 g2 34 (rpC rr) := hb13
      ((conv => whnf); (repeat ((first | (refine VL.cons ?_) | (refine VL.nil ?_) | (refine VC.ret ?_)); (conv => whnf))))
      ((repeat ((fail); (conv => whnf))))
      refine VRes.cellTmp rfl hb13 rfl ?_
      exact ⟨rfl, only_new hB012 hg13 (by omega) hB012.size⟩
end Go.Proofs.YtnjhdbgejhnpfaaDoor
end

section
set_option maxRecDepth 10000
namespace Go.Proofs.YtnjhdbgejhnpfaaDoor
set_option linter.unusedVariables false
open Go.RowKit

theorem tfind_notJ {T : STb} {i : Int} (h : ∀ (j : Nat) (p : Int × Se), T[j]? = some p → p.1 ≠ i) : tfind T i = none := by
  cases hf : tfind T i with
  | none => rfl
  | some x =>
    obtain ⟨A, B, rfl⟩ := tfind_some hf
    exact absurd rfl (h A.length (i, x) (by simp))
set_option maxHeartbeats 2000000 in
theorem tFind_any (W : World) (U : Foot) (r : Nat) (S : SS) (id : Int) (h : Rt W U r S) :
    Calls Tryd.prog 19 #[.pointer (some ⟨r, 0, none⟩), .int .i64 id] W fun e W' => W' = W ∧
      ((∃ k x, S.t[k]? = some (id, x) ∧ tfind S.t id = some x ∧ e = .returned (.int .i64 ((k : Nat) : Int))) ∨ (tfind S.t id = none ∧ e = .returned (.int .i64 (-1)))) := by
  obtain ⟨hwf, _, A, c, h⟩ := h
  have hb := h.blk
  have hfew := hwf.few
  have hmost := hwf.most
  have hnd := hwf.ris.nd
  refine calls_vc Tryd.func19 rfl (by kernel_rfl) ?_
  ((conv => whnf); (repeat ((first | (refine VL.cons ?_) | (refine VL.nil ?_) | (refine VC.seqS rfl ?_) | (refine VC.region ?_)); (conv => whnf))))
  ((repeat ((first | (refine VL.cons ?_) | (refine VL.nil ?_) | (refine VC.seqS rfl ?_) | (refine VC.region ?_) | (refine VC.block ?_) | (refine VC.seq ?_)); (conv => whnf))))
  refine VC.loop [5] [(4, 25)] (fun q vs X => ∃ j : Nat, vs = [.int .i64 (j : Int)] ∧ q = S.t.length - j ∧ j ≤ S.t.length ∧ X = W ∧ ∀ (i : Nat) (p : Int × Se), i < j → S.t[i]? = some p → p.1 ≠ id) (by kernel_rfl) ⟨_, 0, rfl, rfl, by omega, rfl, fun i p hi => absurd hi (by omega)⟩ ?_
  rintro q τ vs X ⟨j, rfl, rfl, hj, hX, hno⟩
  obtain rfl := hX.symm
  by_cases hlt : j < S.t.length
  case neg =>
    ((conv => whnf); (repeat ((fail); (conv => whnf))))
    (repeat ((first | (refine VRead.loadB hb rfl rfl ?_) | (refine VL.cons ?_) | (refine VL.nil ?_) | (refine VC.seqS rfl ?_) | (refine VC.region ?_) | (refine VC.cond ?_) | (refine VC.exit ?_) | (refine VC.ret ?_) | (refine VBool.dF (by omega) ?_) | (refine VRead.lenS ?_) | (refine VRead.fld ?_) | (refine VC.seq ?_)); (conv => whnf)))
    refine ⟨rfl, .inr ⟨tfind_notJ (fun i p hp => hno i p (by have := (List.getElem?_eq_some_iff.1 hp).1; omega) hp), rfl⟩⟩
  obtain ⟨p, hp⟩ : ∃ p, S.t[j]? = some p := ⟨_, List.getElem?_eq_getElem hlt⟩
  obtain ⟨g, rfl, hg, hUg, hcell⟩ := h.cell (k := 0) hp rfl
  by_cases he : p.1 = id
  · ((conv => whnf); (repeat ((fail); (conv => whnf))))
    (repeat ((first | (refine VRead.loadB hb rfl rfl ?_) | (refine VRead.atK hlt ?_) | (refine VRead.load1 hcell ?_) | (refine VBool.dT he ?_) | (refine VL.cons ?_) | (refine VL.nil ?_) | (refine VC.seqS rfl ?_) | (refine VC.region ?_) | (refine VC.cond ?_) | (refine VC.block ?_) | (refine VC.ret ?_) | (refine VC.skip ?_) | (refine VBool.dT (by omega) ?_) | (refine VRead.lenS ?_) | (refine VRead.fld ?_) | (refine VC.seq ?_)); (conv => whnf)))
    obtain ⟨i, x⟩ := p
    simp only at he
    subst he
    exact ⟨rfl, .inl ⟨j, x, hp, tfind_of hnd (List.mem_of_getElem? hp), rfl⟩⟩
  · ((conv => whnf); (repeat ((fail); (conv => whnf))))
    (repeat ((first | (refine VRead.loadB hb rfl rfl ?_) | (refine VRead.atK hlt ?_) | (refine VRead.load1 hcell ?_) | (refine VBool.dF he ?_) | (refine VL.cons ?_) | (refine VL.nil ?_) | (refine VC.seqS rfl ?_) | (refine VC.region ?_) | (refine VC.cond ?_) | (refine VC.block ?_) | (refine VC.skip ?_) | (refine VBool.dT (by omega) ?_) | (refine VRead.lenS ?_) | (refine VRead.fld ?_) | (refine VWrap.i64 (by omega) (by omega) ?_) | (refine VC.seq ?_)); (conv => whnf)))
    refine ⟨_, by omega, j + 1, rfl, rfl, by omega, rfl, fun i p' hi hp' => ?_⟩
    rcases Nat.lt_or_ge i j with h' | h'
    · exact hno i p' h' hp'
    · obtain rfl : i = j := by omega
      rw [hp] at hp'
      obtain rfl := Option.some.inj hp'
      exact he
end Go.Proofs.YtnjhdbgejhnpfaaDoor
end

section
namespace Go.Proofs.YtnjhdbgejhnpfaaDoor
set_option linter.unusedVariables false
open Go.RowKit

def vsegL (P : Program) (S : World → Prop) (ops : List Oper) (K : Env → World → Prop) : List (List Nat × Nat) → List Nat → Nat → Env → World → Prop
  | [], l, c, σ, w => vquiet P S ops (fun σ' => vone P (fun _ => True) ops K (nthOp ops c) σ' w) (picks ops l) σ
  | (l1, c1) :: r, l, c, σ, w => vquiet P S ops (fun σ' => vone P S ops (fun σ2 w2 => vsegL P S ops K r l c σ2 w2) (nthOp ops c1) σ' w) (picks ops l1) σ
theorem segL_sound {P : Program} {n : Nat} {ds : List Deferred} {ops : List Oper} {md : Region.Mode} {Q : Exit → Act → World → Prop} {S : World → Prop} {K : Env → World → Prop} {D : List Nat} {σ0 : Env} {l : List Nat} {c : Nat} (hf : feeds md ops.toArray c = true) (hdst : ∀ o ∈ ops, ∀ t, o.dst = some t → t < n ∧ t ∈ D) (hs : Region.noSelect ops.toArray = true)
    (hQ : ∀ x a a' w, Q (.panic x) a w → Q (.panic x) a' w) (hK : ∀ a σ w, Agr n ds a σ → Fr D σ σ0 → K σ w → Q .normal a w) (hl : (l.all fun i => Nat.blt i c) = true) :
    ∀ (segs : List (List Nat × Nat)) (L : Array Bool) (a : Act) (σ : Env) (w : World), (segs.all fun p => (p.1.all fun i => Nat.blt i c) && Nat.blt p.2 c) = true → Down md ops.toArray L → S w → segC md ops.toArray (segs ++ [(l, c)]) [] L = true → Agr n ds a σ → Fr D σ σ0 → vsegL P S ops K segs l c σ w →
      wpAnyC P md ops.toArray Q S c (segLn (segs ++ [(l, c)]) []) L a w
  | [], L, a, σ, w, hb, hD, hS, hB, hA, hF, h => by
    rw [List.nil_append] at hB ⊢
    unfold segC at hB
    cases hT : takeC md ops.toArray l L with
    | none => rw [hT] at hB; cases hB
    | some L' =>
      rw [hT] at hB
      simp only [Bool.and_eq_true, beq_iff_eq] at hB
      obtain ⟨⟨k1, k2⟩, k3⟩ := hB
      unfold vsegL at h
      have := quiet_takeC (md := md) (Q := Q) (S := S) (w := w) (fuel := 1) (σ0 := σ0) hf hdst hs hQ hS (fun a σ' hA hF ha => ?_) l L a σ hD hl hT hA hF h
      · rw [show segLn [(l, c)] [] = 1 + l.length from by simp [segLn]; omega]
        exact this
      · refine ⟨fun h0 => absurd (k1 ▸ h0) (by simp), fun i hi => ?_⟩
        rw [k1] at hi
        simp only [List.mem_singleton] at hi
        subst hi
        rw [nthOp_eq] at ha
        cases ho : ops[i]? with
        | none => rw [ho] at ha; exact ha.elim
        | some o =>
          rw [ho] at ha
          simp only [vone] at ha
          have hmo : o ∈ ops := List.mem_of_getElem? ho
          have k4 : Region.ready md ops.toArray (L'.setIfInBounds i true) = [] := by
            unfold segC takeC at k3
            simpa [List.isEmpty_iff] using k3
          unfold wpOp
          rw [show ops.toArray[i]? = some o from by simpa using ho]
          simp only
          rcases vguard_sound hA ha with ⟨j1, j2⟩ | ⟨j1, j2⟩
          · rw [if_pos j1]
            exact .inl (vop_sound hA j2 fun v w' hk => ⟨fun h => absurd rfl h, k4, hK _ _ _ (hA.put (fun t ht => (hdst o hmo t ht).1) v) (hF.put (fun t ht => (hdst o hmo t ht).2) v) hk.rest⟩)
          · rw [if_neg (by rw [j1]; simp)]
            exact ⟨fun h => absurd rfl h, k4, hK _ _ _ (hA.put (fun t ht => (hdst o hmo t ht).1) undef) (hF.put (fun t ht => (hdst o hmo t ht).2) undef) j2⟩
  | (l1, c1) :: r, L, a, σ, w, hb, hD, hS, hB, hA, hF, h => by
    rw [List.cons_append] at hB ⊢
    simp only [List.all_cons, Bool.and_eq_true] at hb
    unfold segC at hB
    cases hT : takeC md ops.toArray l1 L with
    | none => rw [hT] at hB; cases hB
    | some L' =>
      rw [hT] at hB
      simp only [Bool.and_eq_true, beq_iff_eq] at hB
      obtain ⟨⟨k1, k2⟩, k3⟩ := hB
      unfold vsegL at h
      have hD' : ∀ (l : List Nat) (L L' : Array Bool), Down md ops.toArray L → takeC md ops.toArray l L = some L' → Down md ops.toArray L' := by
        intro l
        induction l with
        | nil => intro L L' h1 h2; simp only [takeC, Option.some.injEq] at h2; subst h2; exact h1
        | cons i r ih =>
          intro L L' h1 h2
          unfold takeC at h2
          split at h2
          · rename_i hc
            simp only [Bool.and_eq_true] at hc
            exact ih _ _ (h1.set (by simpa using hc.1.2)) h2
          · cases h2
      have hDL := hD' l1 L L' hD hT
      have := quiet_takeC (md := md) (Q := Q) (S := S) (w := w) (fuel := segLn (r ++ [(l, c)]) [] + 1) (σ0 := σ0) hf hdst hs hQ hS (fun a σ' hA hF ha => ?_) l1 L a σ hD hb.1.1 hT hA hF h
      · rw [show segLn ((l1, c1) :: (r ++ [(l, c)])) [] = segLn (r ++ [(l, c)]) [] + 1 + l1.length from by simp [segLn]; omega]
        exact this
      · refine ⟨fun h0 => absurd (k1 ▸ h0) (by simp), fun i hi => ?_⟩
        have hi0 := hi
        rw [k1] at hi
        simp only [List.mem_singleton] at hi
        subst hi
        rw [nthOp_eq] at ha
        cases ho : ops[i]? with
        | none => rw [ho] at ha; exact ha.elim
        | some o =>
          rw [ho] at ha
          simp only [vone] at ha
          have hmo : o ∈ ops := List.mem_of_getElem? ho
          unfold wpOp
          rw [show ops.toArray[i]? = some o from by simpa using ho]
          simp only
          rcases vguard_sound hA ha with ⟨j1, j2⟩ | ⟨j1, j2⟩
          · rw [if_pos j1]
            exact .inl (vop_sound hA j2 fun v w' hk => ⟨fun _ => hk.keep, segL_sound hf hdst hs hQ hK hl r _ _ _ w' hb.2 (hDL.set hi0) hk.keep k3 (hA.put (fun t ht => (hdst o hmo t ht).1) v) (hF.put (fun t ht => (hdst o hmo t ht).2) v) hk.rest⟩)
          · rw [if_neg (by rw [j1]; simp)]
            exact ⟨fun _ => hS, segL_sound hf hdst hs hQ hK hl r _ _ _ w hb.2 (hDL.set hi0) hS k3 (hA.put (fun t ht => (hdst o hmo t ht).1) undef) (hF.put (fun t ht => (hdst o hmo t ht).2) undef) j2⟩
def lastsB (n : Nat) (ops : List Oper) (segs : List (List Nat × Nat)) (l : List Nat) (c : Nat) : Bool :=
  Region.noSelect ops.toArray && feeds .any ops.toArray c && (l.all fun i => Nat.blt i c) && (segs.all fun p => (p.1.all fun i => Nat.blt i c) && Nat.blt p.2 c) && segC .any ops.toArray (segs ++ [(l, c)]) [] (Array.replicate ops.length false) && Nat.beq (segLn (segs ++ [(l, c)]) []) ops.length && ops.all fun o => match o.dst with | some d => Nat.blt d n | none => true
structure VE (P : Program) (S : World → Prop) (ops : List Oper) (K : Env → World → Prop) (segs : List (List Nat × Nat)) (l : List Nat) (c : Nat) (σ : Env) (w : World) : Prop where
  out : vsegL P S ops K segs l c σ w
theorem VE_fun (P : Program) (S : World → Prop) (ops : List Oper) (K : Env → World → Prop) (segs : List (List Nat × Nat)) (l : List Nat) (c : Nat) : VE P S ops K segs l c = vsegL P S ops K segs l c := by funext σ w; exact propext ⟨fun h => h.out, fun h => ⟨h⟩⟩
section
variable {P : Program} {S : World → Prop} {ops : List Oper} {K : Env → World → Prop} {l l1 : List Nat} {c c1 : Nat} {r : List (List Nat × Nat)} {σ : Env} {w : World}
theorem VE.nil (h : VQ P S ops (fun σ' => vone P (fun _ => True) ops K (nthOp ops c) σ' w) (picks ops l) σ) : VE P S ops K [] l c σ w := ⟨h.out⟩
theorem VE.cons (h : VQ P S ops (fun σ' => vone P S ops (fun σ2 w2 => VE P S ops K r l c σ2 w2) (nthOp ops c1) σ' w) (picks ops l1) σ) : VE P S ops K ((l1, c1) :: r) l c σ w := by
  refine ⟨?_⟩
  have h := h.out
  simp only [VE_fun] at h
  exact h
end
theorem VDraw.lasts {P : Program} {n : Nat} {ops : List Oper} {Q : Post} {σ : Env} {w : World} (S : World → Prop) (segs : List (List Nat × Nat)) (l : List Nat) (c : Nat) (hm : P.follows .mixedOrders = true) (hB : lastsB n ops segs l c = true)
    (hS : S (w.drewN 1)) (h : VE P S ops (fun σ2 w2 => Q .normal σ2 w2) segs l c σ (w.drewN 1)) : VDraw P n ops Q σ w := by
  replace h := h.out
  unfold lastsB at hB
  simp only [Bool.and_eq_true] at hB
  obtain ⟨⟨⟨⟨⟨⟨h1, h2⟩, h3⟩, h4⟩, h5⟩, h6⟩, h7⟩ := hB
  have hlen := Nat.eq_of_beq_eq_true h6
  have hdst : ∀ o ∈ ops, ∀ t, o.dst = some t → t < n ∧ t ∈ dsts ops := fun o ho t ht => ⟨by
    have := List.all_eq_true.1 h7 o ho
    rw [ht] at this
    exact Nat.blt_eq ▸ this, mem_dsts ho ht⟩
  simp only [VDraw_eq]
  intro ds a id hA
  refine wp_region_any hm (wpAny_ofC (S := S) (c := c) _ _ _ _ ?_)
  have h4' : (segs.all fun p => (p.1.all fun i => Nat.blt i c) && Nat.blt p.2 c) = true := h4
  have := segL_sound (md := .any) (ds := ds) (Q := Lift n ds Q (dsts ops) σ) (S := S) (K := fun σ2 w2 => Q .normal σ2 w2) (σ0 := σ) h2 hdst h1 (fun c a a' w h => h) (fun a σ' w hA hF hk => ⟨σ', hA, hF, hk⟩) h3 segs _ a σ _ h4' (Down.start _) hS h5 hA (Fr.refl _ _) h
  rw [hlen] at this
  rw [show ops.toArray.size = ops.length from by simp]
  exact this
end Go.Proofs.YtnjhdbgejhnpfaaDoor
end
