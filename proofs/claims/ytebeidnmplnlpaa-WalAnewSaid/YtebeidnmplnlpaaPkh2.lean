/- Texts joined: DiskH, DiskI, DiskJ, VE, RdA, DskO, Var, VarB, Crc, FrameL, Sum, SumFns, Wire, Reg, Reader, ReadInt, ReadFns, ReadRef, ReadMore, Frame, Ref3, FrameR, FrameG, FrameA, FrameE, SnapB, SnapC, LaidL, Frs, RS, SnapD, RdB, In, DiskQ, RdC, RdD. No condition. -/
import Derived.Test.YtebeidnmplnlpaaPkh1
import Derived.Lib.SlBytesConst
import Derived.KernelRfl
import Derived.Test.YtebeidnmplnlpaaPkh0
import Derived.WalkKit
import Derived.WalkSpells
import Derived.WalkLawsBesides
import Derived.Lib.Hide
import Derived.Deep.DeepCutAuto
import Derived.StillTailTactics
import Derived.BigQuiet
import Derived.Deep.LoopGhost
import Derived.SliceStrings
import Derived.Deep.Grids
import Derived.Deep.Slices
import Derived.OpenShut
section
set_option maxRecDepth 10000
namespace Go.Proofs.Ytebeidnmplnlpaa
set_option linter.unusedVariables false
open Go.RowKit
open Go.Maps (Keyed)
open Go.ChangeMaps Go.WideElems

/-- what lies off the footprint -/
def Off (U : Foot) (A : Option Addr) (n : Nat) : Prop := 0 < n → ∃ ad, A = some ad ∧ ¬ U ad.block
theorem Reads.out {W W' : World} {U : Foot} {B s n : Nat} {A : Option Addr} {l : List Value} (h : Reads W B s A n l) (hB : B ≤ W.heap.size) (hp : Off U A n) (ho : Out U W W') : Reads W' B s A n l := by
  refine ⟨h.1, fun hm => ?_⟩
  obtain ⟨ad, rfl, h3, h4⟩ := h.2 hm
  obtain ⟨ad', e, hu⟩ := hp hm
  obtain rfl := Option.some.inj e
  refine ⟨_, rfl, h3, fun j u hj => ?_⟩
  rw [← h4 j u hj]
  exact World.cell?_of_block (by rw [add_block]; exact ho.block _ (Nat.lt_of_lt_of_le h3 hB) hu)
theorem Off.mono {U V : Foot} {A : Option Addr} {n : Nat} (h : Off U A n) (hV : ∀ j, V j → U j) : Off V A n := fun h0 => by
  obtain ⟨ad, e, h1⟩ := h h0
  exact ⟨ad, e, fun hv => h1 (hV _ hv)⟩
theorem Off.row {W : World} {U : Foot} {B e s n c : Nat} {A : Option Addr} {xs : List Value} (h : W.ownsRow B e s (.slice A n c) n xs) (hU : ∀ j, B ≤ j → ¬ U j) : Off U A n := fun h0 => by
  rcases h.2 with ⟨_, h1⟩ | ⟨g, cap, cur, e, hg, _⟩
  · omega
  · injection e with e1 e2 e3
    exact ⟨_, e1, hU _ hg⟩


def keepAt (ps : List Int) (i : Nat) : Int := if ps.length = 0 then 0 else ps.getD (i % ps.length) 0
def keepN (ps : List Int) (i : Nat) (f : Fl) : Nat := f.sure + (max 0 (min (keepAt ps i) ((f.b.length : Int) - f.sure))).toNat
def crashF (ps : List Int) (i : Nat) (f : Fl) : Fl := ⟨f.b.take (keepN ps i f), keepN ps i f⟩
def crashL (ps : List Int) : Nat → DTb → DTb
  | _, [] => []
  | i, p :: r => (p.1, (p.2.1, crashF ps i p.2.2)) :: crashL ps (i + 1) r
def crashT (ps : List Int) : Nat → PT → PT
  | _, [] => []
  | i, p :: r => (p.1, crashF ps i p.2) :: crashT ps (i + 1) r
def Dk.crash (K : Dk) : Dk := { K with armed := false, off := false }
def DS.crash (S : DS) (ps : List Int) : DS := ⟨S.k.crash, crashT ps 0 S.t⟩
theorem crashL_plain (ps : List Int) : ∀ (i : Nat) (L : DTb), plain (crashL ps i L) = crashT ps i (plain L)
  | _, [] => rfl
  | i, p :: r => by
    unfold crashL
    show _ :: plain (crashL ps (i + 1) r) = _ :: crashT ps (i + 1) (plain r)
    rw [crashL_plain ps (i + 1) r]
theorem crashL_snoc (ps : List Int) (p : List UInt8 × (Nat × Fl)) : ∀ (i : Nat) (A : DTb), crashL ps i (A ++ [p]) = crashL ps i A ++ [(p.1, (p.2.1, crashF ps (i + A.length) p.2.2))]
  | i, [] => rfl
  | i, q :: A => by
    show _ :: crashL ps (i + 1) (A ++ [p]) = _ :: (crashL ps (i + 1) A ++ _)
    rw [crashL_snoc ps p (i + 1) A]
    simp only [List.length_cons]
    rw [show i + 1 + A.length = i + (A.length + 1) by omega]
theorem crashT_keys (ps : List Int) : ∀ (i : Nat) (T : PT), (crashT ps i T).map (·.1) = T.map (·.1)
  | _, [] => rfl
  | i, p :: r => by
    show _ :: (crashT ps (i + 1) r).map (·.1) = _ :: r.map (·.1)
    rw [crashT_keys ps (i + 1) r]
theorem crashT_length (ps : List Int) (i : Nat) (T : PT) : (crashT ps i T).length = T.length := by
  have := congrArg List.length (crashT_keys ps i T)
  simpa using this
theorem keepN_le {ps : List Int} {i : Nat} {f : Fl} (h : f.sure ≤ f.b.length) : keepN ps i f ≤ f.b.length ∧ f.sure ≤ keepN ps i f := by
  unfold keepN; omega
theorem crashT_used (ps : List Int) : ∀ (i : Nat) (T : PT), used (crashT ps i T) ≤ used T
  | _, [] => Nat.le_refl _
  | i, p :: r => by
    have := crashT_used ps (i + 1) r
    show (crashF ps i p.2).b.length + used (crashT ps (i + 1) r) ≤ p.2.b.length + used r
    have : (crashF ps i p.2).b.length ≤ p.2.b.length := by unfold crashF; rw [List.length_take]; omega
    omega
theorem crashT_mem (ps : List Int) : ∀ {i : Nat} {T : PT} {p : List UInt8 × Fl}, p ∈ crashT ps i T → ∃ q ∈ T, ∃ j, p = (q.1, crashF ps j q.2)
  | i, q :: r, p, h => by
    rcases List.mem_cons.1 h with rfl | h
    · exact ⟨q, by simp, i, rfl⟩
    · obtain ⟨q', hq, j, e⟩ := crashT_mem ps h
      exact ⟨q', by simp [hq], j, e⟩
theorem DWf.crash {S : DS} (h : DWf S) (ps : List Int) : DWf (S.crash ps) := by
  refine ⟨⟨h.k.room, h.k.calls, h.k.after⟩, ?_, ?_, ?_, ?_, ?_⟩
  · have := crashT_used ps 0 S.t
    have := h.t.fit
    show (used (crashT ps 0 S.t) : Int) ≤ S.k.room
    omega
  · show (crashT ps 0 S.t).length ≤ 64
    rw [crashT_length]; exact h.t.few
  · intro p hp
    obtain ⟨q, hq, j, rfl⟩ := crashT_mem ps hp
    exact h.t.names q hq
  · show ((crashT ps 0 S.t).map (·.1)).Pairwise (· < ·)
    rw [crashT_keys]; exact h.t.ris
  · intro p hp
    obtain ⟨q, hq, j, rfl⟩ := crashT_mem ps hp
    have := keepN_le (ps := ps) (i := j) (h.t.sure q hq)
    unfold crashF
    simp only [List.length_take]
    omega
theorem VRead.remN {S : World → Prop} {t : TypeId} {x y : Operand} {k : IntKind} {m n : Nat} {K : Value → Prop} (h1 : 0 < n) (hk : K (.int k ((m % n : Nat) : Int))) :
    VRead Try.prog S (do eqGuard .rem t x y (.int k (m : Int)) (.int k (n : Int)); binOp .rem t (.int k (m : Int)) (.int k (n : Int))) K :=
  VRead.rem (by omega) (by omega) (by rw [← Int.natCast_emod]; exact hk)
theorem VRead.cutHMn {S : World → Prop} {t e : Nat} {A : Option Addr} {n c q : Nat} {z m : Int} {kk kj : IntKind} {K : Value → Prop} [i : TSlice Try.prog t e 1] (e1 : z = q) (e2 : m = q) (h : q ≤ c) (hk : K (.slice A q q)) :
    VRead Try.prog S (Instr.sliceAt t (.slice A n c) none (some (.int kk z)) (some (.int kj m))) K := by
  subst e1 e2
  exact VRead.cutHM (by omega) (by omega) (by omega) (by simpa using hk)
theorem tfind_crash {L A B : DTb} {p : List UInt8 × (Nat × Fl)} {ps : List Int} (hR : Rising (crashL ps 0 A ++ p :: B)) : tfind (crashL ps 0 A ++ p :: B) p.1 = some (p.2.1, p.2.2) :=
  tfind_of (x := (p.2.1, p.2.2)) hR.nd (List.mem_append_right _ (List.mem_cons_self ..))
set_option maxHeartbeats 1000000 in
theorem dCrash_at (W : World) (U : Foot) (d m c : Nat) (K : Dk) (L : DTb) (n k : Nat) (A : Option Addr) (ps : List Int) (h : DiskAt W U d m c K L) (hfew : L.length ≤ 64) (hsure : ∀ p ∈ L, p.2.2.sure ≤ p.2.2.b.length) (hbig : ∀ p ∈ L, p.2.2.b.length ≤ 16777216) (hnm : ∀ p ∈ L, p.1.length ≤ 32)
    (hr : Reads W W.heap.size 1 A n (iv .i64 ps)) (hoff : Off U A n) (hn : n ≤ 1000000000000000) :
    Calls Try.prog 28 #[.pointer (some ⟨d, 0, none⟩), .slice A n k] W fun e W' => e = .returned (.tuple #[]) ∧ DiskAt W' U d m c K.crash (crashL ps 0 L) ∧ Out U W W' := by
  have hpl : ps.length = n := by have := hr.1; unfold iv at this; simp at this; omega
  refine calls_vc Try.func28 rfl (by kernel_rfl) ?_
  ((conv => whnf); (repeat ((fail); (conv => whnf))))
  ((repeat ((first | (refine VL.cons ?_) | (refine VC.seqS rfl ?_) | (refine VC.region ?_) | (refine VC.seq ?_)); (conv => whnf))))
  refine VCall.of (dList_at W U d m c K L h hfew) ?_
  rintro e W1 ⟨An, kn, rfl, hO1, hB1⟩
  refine ⟨_, rfl, ?_⟩
  -- the footprint of what was there
  have hV : ∃ V : Foot, (∀ j, V j → U j ∧ j < W.heap.size) ∧ (∀ j, j < W.heap.size → U j → V j) := ⟨fun j => U j ∧ j < W.heap.size, fun j h => h, fun j h1 h2 => ⟨h2, h1⟩⟩
  obtain ⟨V, hV1, hV2⟩ := hV
  have h1 : DiskAt W1 V d m c K L := (h.more hV2).below hB1 (Nat.le_refl _)
  have hoffV : Off V A n := hoff.mono (fun j hj => (hV1 j hj).1)
  have hoffN : Off V An L.length := Off.row hO1 (fun j hj hv => absurd (hV1 j hv).2 (Nat.not_lt_of_le hj))
  have hrN := Reads.row hO1
  have hr1 := hr.below hB1
  ((conv => whnf); (repeat ((first | (refine VL.cons ?_)); (conv => whnf))))
  ((repeat ((first | (refine VL.cons ?_) | (refine VL.nil ?_) | (refine VC.block ?_) | (refine VRead.lenS ?_)); (conv => whnf))))
  refine VC.loop [11] [(4, 7), (11, 73)] (fun q vs w => ∃ A0 B0 : DTb, vs = [.int .i64 (A0.length : Int)] ∧ q = B0.length ∧ L = A0 ++ B0 ∧ DiskAt w V d m c K (crashL ps 0 A0 ++ B0) ∧ Out V W1 w) (by kernel_rfl)
    ⟨_, [], L, rfl, rfl, rfl, h1, Out.refl V W1⟩ ?_
  rintro q τ vs w ⟨A0, B0, rfl, rfl, hL, hw, hOw⟩
  have hLl : L.length = A0.length + B0.length := by rw [hL]; simp
  cases B0 with
  | nil =>
    rw [List.append_nil] at hL hw
    subst hL
    have hbw := hw.blk
    have hbw' : Blk w d 80 #[.int .i64 K.room, .map (some m), .int .i64 K.calls, .bool K.armed, .int .i64 K.kind, .int .i64 K.after, .bool K.off] := hbw
    ((conv => whnf); (repeat ((first | (refine VL.cons ?_) | (refine VL.nil ?_) | (refine VC.seqS rfl ?_) | (refine VC.region ?_)); (conv => whnf))))
    ((repeat ((first | (refine VL.cons ?_) | (refine VC.region ?_) | (refine VC.cond ?_) | (refine VC.exit ?_) | (refine VBool.dF (by omega) ?_) | (refine VRead.fld ?_) | (refine VC.seq ?_)); (conv => whnf))))
    refine VUnit.storeB hbw' rfl rfl rfl ?_
    intro W2 hb2 hg2
    ((conv => whnf); (repeat ((first | (refine VL.cons ?_)); (conv => whnf))))
    ((repeat ((first | (refine VL.cons ?_) | (refine VRead.fld ?_)); (conv => whnf))))
    refine VUnit.storeB hb2 rfl rfl rfl ?_
    intro W3 hb3 hg3
    ((conv => whnf); (repeat ((first | (refine VL.nil ?_)); (conv => whnf))))
    ((repeat ((fail); (conv => whnf))))
    have hg := only_trans hg2 hg3
    have h3 : DiskAt W3 V d m c K.crash (crashL ps 0 L) := hw.own hb3 hg
    refine ⟨rfl, h3.more (fun j _ hj => (hV1 j hj).1), ?_⟩
    exact (Out.new hB1).trans ((hOw.trans (Out.grown hg hw.hd)).mono (fun j hj => (hV1 j hj).1))
  | cons p B0 =>
    have hp : p ∈ L := by rw [hL]; simp
    have hsp := hsure p hp
    have hbp := hbig p hp
    have hnp := hnm p hp
    have hrw := hr1.out (Nat.le_trans (Nat.le_refl _) hB1.size) hoffV hOw
    have hrNw := hrN.out (Nat.le_refl _) hoffN hOw
    have hf := tfind_crash (L := L) (ps := ps) (A := A0) (B := B0) (p := p) hw.ris
    obtain ⟨hVg, Af, kf, hbf, hkf, hlf⟩ := hw.fl p (by simp)
    obtain ⟨ad, u, rfl, hbl, hu, hc⟩ := hrNw.at_ (show A0.length < L.length by simp at hLl; omega)
    obtain rfl : encStr p.1 = u := by
      rw [hL] at hu
      simpa using hu
    simp only [List.length_cons] at hLl
    have hbw := hw.blk
    have hbw' : Blk w d 80 #[.int .i64 K.room, .map (some m), .int .i64 K.calls, .bool K.armed, .int .i64 K.kind, .int .i64 K.after, .bool K.off] := hbw
    ((conv => whnf); (repeat ((first | (refine VL.cons ?_) | (refine VL.nil ?_) | (refine VC.seqS rfl ?_) | (refine VC.region ?_)); (conv => whnf))))
    (repeat (first | ((first | (refine VL.cons ?_) | (refine VL.nil ?_) | (refine VC.seqS rfl ?_) | (refine VC.region ?_) | (refine VC.cond ?_) | (refine VC.block ?_) | (refine VC.skip ?_) | (refine VBool.dT (by omega) ?_) | (refine VRead.fld ?_) | (refine VRead.load1 (by assumption) ?_) | (refine VRead.at1 (by omega) ?_) | (refine VC.seq ?_)); (conv => whnf)) | (refine VRead.loadB hbw' rfl rfl ?_; (conv => whnf))))
    refine dLook hw.map (by omega) ?_
    rw [hf]
    ((repeat ((first | (refine VL.cons ?_) | (refine VL.nil ?_)); (conv => whnf))))
    refine VC.cut [7] [(7, 7), (22, 31)] (fun vs X => vs = [.int .i64 (keepAt ps A0.length)] ∧ X = w) (by kernel_rfl) ?_ ?_
    · by_cases h0 : n = 0
      · subst h0
        have e : keepAt ps A0.length = 0 := by unfold keepAt; rw [if_pos hpl]
        ((conv => whnf); (repeat ((first | (refine VL.cons ?_) | (refine VC.seqS rfl ?_) | (refine VC.region ?_)); (conv => whnf))))
        ((repeat ((first | (refine VL.cons ?_) | (refine VL.nil ?_) | (refine VC.cond ?_) | (refine VC.skip ?_) | (refine VBool.f ?_) | (refine VRead.lenS ?_)); (conv => whnf))))
        exact ⟨by rw [e]; rfl, rfl⟩
      · have hj : A0.length % n < n := Nat.mod_lt _ (by omega)
        obtain ⟨ap, up, rfl, hbl2, hu2, hc2⟩ := hrw.at_ hj
        have e : up = .int .i64 (keepAt ps A0.length) := by
          unfold iv at hu2
          obtain ⟨x, hx, rfl⟩ := map_at hu2
          unfold keepAt
          rw [if_neg (by omega), hpl, List.getD_eq_getElem?_getD, hx]
          rfl
        subst e
        ((conv => whnf); (repeat ((first | (refine VL.cons ?_) | (refine VC.seqS rfl ?_) | (refine VC.region ?_)); (conv => whnf))))
        (repeat (first | ((first | (refine VL.cons ?_) | (refine VL.nil ?_) | (refine VC.region ?_) | (refine VC.cond ?_) | (refine VBool.dT (by omega) ?_) | (refine VRead.lenS ?_) | (refine VRead.load1 (by assumption) ?_) | (refine VRead.at1 (by omega) ?_)); (conv => whnf)) | (refine VRead.remN (by omega) ?_; (conv => whnf))))
        exact ⟨rfl, rfl⟩
    rintro τ2 vs2 w2 ⟨rfl, rfl⟩
    have hka : (max 0 (min (keepAt ps A0.length) ((p.2.2.b.length : Int) - p.2.2.sure))) = ((keepN ps A0.length p.2.2 - p.2.2.sure : Nat) : Int) := by
      unfold keepN; omega
    obtain ⟨hk1, hk2⟩ := keepN_le (ps := ps) (i := A0.length) hsp
    ((conv => whnf); (repeat ((fail); (conv => whnf))))
    ((repeat ((first | (refine VC.draw ?_) | (refine VC.seq ?_)); (conv => whnf))))
    (refine VDraw.seg (Eq (World.drewN _ 1)) [] [0, 1, 2, 3, 4, 5, 6, 7, 8, 9, 10, 11, 12, 13] (by kernel_rfl) (by kernel_rfl) rfl ?_; (conv => whnf))
    (repeat ((first | (refine VRead.loadB hbf rfl rfl ?_) | (refine VQ.cons ?_) | (refine VG.nil ?_) | (refine VRead.lenS ?_) | (refine VRead.fld ?_) | (refine VWrap.i64 (by omega) (by omega) ?_)); (conv => whnf)))
    refine VRead.minZ (z := min (keepAt ps A0.length) ((p.2.2.b.length : Int) - p.2.2.sure)) (by split <;> omega) ?_
    (conv => whnf)
    (repeat ((first | (refine VQ.cons ?_)); (conv => whnf)))
    refine VRead.maxZ (z := ((keepN ps A0.length p.2.2 - p.2.2.sure : Nat) : Int)) (by rw [← hka]; split <;> omega) ?_
    ((conv => whnf); (repeat ((first | (refine VQ.cons ?_) | (refine VQ.nil ?_)); (conv => whnf))))
    ((repeat ((first | (refine VC.draw ?_) | (refine VC.seq ?_)); (conv => whnf))))
    refine VDraw.last [0, 1, 2, 3, 4, 5, 6, 7, 8, 9, 10, 11, 12, 13, 14, 15, 16, 17, 18, 19] 20 (by kernel_rfl) (by kernel_rfl) ?_
    (conv => whnf)
    (repeat ((first | (refine VRead.loadB hbf rfl rfl ?_) | (refine VQ.cons ?_) | (refine VRead.fld ?_) | (refine VWrap.i64 (by omega) (by omega) ?_)); (conv => whnf)))
    refine VRead.cutHMn (q := keepN ps A0.length p.2.2) (by omega) (by omega) (by omega) ?_
    (conv => whnf)
    (repeat ((first | (refine VQ.cons ?_) | (refine VQ.nil ?_) | (refine VRead.fld ?_)); (conv => whnf)))
    refine VUnit.storeB hbf rfl rfl rfl ?_
    intro W3 hb3 hg3
    (conv => whnf)
    refine Keep.mk trivial ?_
    (conv => whnf)
    replace hb3 : Blk W3 p.2.1 90 #[.slice Af (keepN ps A0.length p.2.2) (keepN ps A0.length p.2.2), .int .i64 p.2.2.sure] := hb3
    ((conv => whnf); (repeat ((first | (refine VL.cons ?_) | (refine VC.region ?_)); (conv => whnf))))
    (repeat (first | ((first | (refine VL.cons ?_) | (refine VRead.lenS ?_) | (refine VRead.fld ?_)); (conv => whnf)) | (refine VRead.loadB hb3 rfl rfl ?_; (conv => whnf))))
    refine VUnit.storeB hb3 rfl rfl rfl ?_
    intro W4 hb4 hg4
    ((conv => whnf); (repeat ((first | (refine VL.cons ?_) | (refine VL.nil ?_) | (refine VC.region ?_)); (conv => whnf))))
    ((repeat ((first | (refine VL.cons ?_) | (refine VL.nil ?_) | (refine VWrap.i64 (by omega) (by omega) ?_)); (conv => whnf))))
    have hg3' : w2.grownBy W3 (some p.2.1) := ⟨hg3.os, hg3.tape, hg3.output, hg3.size, hg3.block⟩
    have hg : w2.grownBy W4 (some p.2.1) := only_trans hg3' hg4
    have hlen : (p.2.2.b.take (keepN ps A0.length p.2.2)).length = keepN ps A0.length p.2.2 := by rw [List.length_take]; omega
    have h4 := hw.file (f' := crashF ps A0.length p.2.2) (k := keepN ps A0.length p.2.2) (A := Af) hf (by show Blk _ _ _ #[.slice _ (p.2.2.b.take (keepN ps A0.length p.2.2)).length _, _]; rw [hlen]; exact hb4) hg (by show (p.2.2.b.take (keepN ps A0.length p.2.2)).length ≤ _; rw [hlen]; exact Nat.le_refl _)
      (by show Lies W4 V Af (p.2.2.b.take (keepN ps A0.length p.2.2)).length (p.2.2.b.take (keepN ps A0.length p.2.2)); rw [hlen]; exact (hlf.take hk1).blk hbf hg (by decide))
    rw [show crashL ps 0 A0 ++ p :: B0 = crashL ps 0 A0 ++ (p.1, p.2) :: B0 from rfl, tset_old hw.ris] at h4
    refine ⟨_, by simp, A0 ++ [p], B0, ?_, rfl, by rw [hL]; simp, ?_, hOw.trans (Out.grown hg hVg)⟩
    · simp only [List.length_append, List.length_cons, List.length_nil]; rfl
    · rw [crashL_snoc, Nat.zero_add, List.append_assoc]
      exact h4
theorem dCrash_any (W : World) (U : Foot) (d : Nat) (S : DS) (n k : Nat) (A : Option Addr) (ps : List Int) (h : Disk W U d S) (hr : Reads W W.heap.size 1 A n (iv .i64 ps)) (hoff : Off U A n) (hn : n ≤ 1000000000000000) :
    Calls Try.prog 28 #[.pointer (some ⟨d, 0, none⟩), .slice A n k] W fun e W' => e = .returned (.tuple #[]) ∧ Disk W' U d (S.crash ps) ∧ Out U W W' := by
  have hwf' := h.1.crash ps
  obtain ⟨h0, m, c, L, h, hcc, hpl⟩ := h
  have hin : ∀ p ∈ L, (p.1, p.2.2) ∈ S.t := fun p hp => by rw [← hpl]; exact List.mem_map_of_mem (f := fun p : List UInt8 × (Nat × Fl) => (p.1, p.2.2)) hp
  have hlen : L.length = S.t.length := by rw [← hpl]; exact (tmap_length _ _).symm
  refine (dCrash_at W U d m c S.k L n k A ps h (by rw [hlen]; exact h0.t.few) (fun p hp => h0.t.sure _ (hin p hp)) (fun p hp => ?_) (fun p hp => (h0.t.names _ (hin p hp)).2) hr hoff hn).mono ?_
  · have := len_used (hin p hp)
    have := h0.t.fit
    have := h0.k.room
    simp only at *
    omega
  · rintro e W' ⟨rfl, h1, hO⟩
    exact ⟨rfl, ⟨hwf', m, c, _, h1, hcc, by rw [crashL_plain, hpl]; rfl⟩, hO⟩
end Go.Proofs.Ytebeidnmplnlpaa
end

section
set_option maxRecDepth 10000
namespace Go.Proofs.Ytebeidnmplnlpaa
set_option linter.unusedVariables false
open Go.RowKit
open Go.Maps (Keyed)
open Go.ChangeMaps Go.WideElems

theorem place_any (v n : Int) (w : World) (hv : -9223372036854775808 ≤ v ∧ v ≤ 9223372036854775807) (h0 : 1 ≤ n) (hn : n ≤ 4611686018427387904) :
    Calls Try.prog 19 #[.int .i64 v, .int .i64 n] w fun e w' => e = .returned (.int .i64 (v % n)) ∧ w' = w := by
  have t1 : -n < v.tmod n := Int.lt_tmod_of_pos v (by omega)
  have t2 : v.tmod n < n := Int.tmod_lt_of_pos v (by omega)
  have t3 : v.tmod n < 0 → v % n = v.tmod n + n := fun h => by
    rw [Int.tmod_eq_emod] at h ⊢
    split at h <;> rename_i hc
    · have := Int.emod_nonneg v (show n ≠ 0 by omega); omega
    · rw [if_neg hc]; omega
  have t4 : 0 ≤ v.tmod n → v % n = v.tmod n := fun h => by
    have hn' := Int.emod_lt_of_pos v (show 0 < n by omega)
    rw [Int.tmod_eq_emod] at h ⊢
    split at h <;> rename_i hc
    · rw [if_pos hc]; omega
    · omega
  refine calls_vc Try.func19 rfl (by kernel_rfl) ?_
  ((conv => whnf); (repeat ((first | (refine VL.cons ?_) | (refine VL.nil ?_) | (refine VC.seqS rfl ?_) | (refine VC.region ?_)); (conv => whnf))))
  refine VRead.remT (by omega) ?_
  generalize v.tmod n = r at *
  by_cases hr : r < 0
  · have e := t3 hr
    clear t3 t4
    ((conv => whnf); (repeat ((first | (refine VL.cons ?_) | (refine VL.nil ?_)); (conv => whnf))))
    ((repeat ((first | (refine VL.cons ?_) | (refine VL.nil ?_) | (refine VC.seqS rfl ?_) | (refine VC.region ?_) | (refine VC.cond ?_) | (refine VC.ret ?_) | (refine VBool.dT (by omega) ?_) | (refine VWrap.i64 (by omega) (by omega) ?_) | (refine VC.seq ?_)); (conv => whnf))))
    exact ⟨by rw [e]; rfl, rfl⟩
  · have e := t4 (by omega)
    clear t3 t4
    ((conv => whnf); (repeat ((first | (refine VL.cons ?_) | (refine VL.nil ?_)); (conv => whnf))))
    ((repeat ((first | (refine VL.cons ?_) | (refine VL.nil ?_) | (refine VC.seqS rfl ?_) | (refine VC.region ?_) | (refine VC.cond ?_) | (refine VC.ret ?_) | (refine VC.skip ?_) | (refine VBool.dF (by omega) ?_) | (refine VC.seq ?_)); (conv => whnf))))
    exact ⟨by rw [e]; rfl, rfl⟩
theorem int_info : (Try.prog.info? 3).map (fun i => (i.zero, i.size, i.bytes)) = some (some (.int .i64 0), 1, 8) := by kernel_rfl
theorem iv_one : ∀ (l : List Int), ∀ u ∈ iv .i64 l, u.oneCell' = true := by
  intro l u hu
  unfold iv at hu
  obtain ⟨x, _, rfl⟩ := List.mem_map.1 hu
  rfl
/-- append of ints -/
theorem VSem.appI {w : World} {ty : TypeId} {B C n m c : Nat} {v : Value} {A : Option Addr} {l news : List Int} {K : Value → World → Prop} (hown : w.ownsRow B 3 1 v n (iv .i64 l)) (hr : Reads w C 1 A m (iv .i64 news)) (hn : n + m ≤ 17592186044416) (hB : B ≤ w.heap.size)
    (h : ∀ A' c' w', w'.ownsRow B 3 1 (.slice A' (n + m) c') (n + m) (iv .i64 (l ++ news)) → Below B w w' → K (.slice A' (n + m) c') w') :
    VSem Try.prog (Builtin.append_ #[28, 28] ty [v, .slice A m c].toArray) w K := by
  obtain ⟨i0, hi0, hz0, hz1, hz2⟩ := info_parts int_info
  refine VSem.appR (t := 28) (e := 3) Try.underlying28 hi0 hz0 hz1 hz2 rfl (by decide) hown hr (iv_one news) (by simp only [maxLen]; omega) (by omega) hB fun A' c' w' k1 k2 _ => ?_
  have e : iv .i64 l ++ iv .i64 news = iv .i64 (l ++ news) := by unfold iv; rw [List.map_append]
  rw [e] at k1
  exact h A' c' w' k1 ((Below.refl B w).grown k2 hB (fun k hk => (World.ownsRow.lt hown k hk).1))
theorem ints_any (A : Option Addr) (n c B : Nat) (l : List Int) (W : World) (hn : n ≤ 17592186044416) (hrd : Reads W B 1 A n (iv .i64 l)) :
    Calls Try.prog 29 #[.slice A n c] W fun e W' => ∃ A' c', e = .returned (.slice A' n c') ∧ W'.ownsRow W.heap.size 3 1 (.slice A' n c') n (iv .i64 l) ∧ Below W.heap.size W W' := by
  refine calls_vc Try.func29 rfl (by kernel_rfl) ?_
  ((conv => whnf); (repeat ((first | (refine VL.cons ?_) | (refine VL.nil ?_) | (refine VC.seqS rfl ?_) | (refine VC.region ?_)); (conv => whnf))))
  ((repeat ((fail); (conv => whnf))))
  refine VSem.appI (l := []) (World.ownsRow_nil W W.heap.size _ _) hrd (by omega) (Nat.le_refl _) ?_
  intro A' k' W1 hO1 hB1
  rw [Nat.zero_add, List.nil_append] at hO1
  rw [Nat.zero_add]
  ((conv => whnf); (repeat ((first | (refine VL.cons ?_) | (refine VL.nil ?_) | (refine VC.ret ?_)); (conv => whnf))))
  ((repeat ((fail); (conv => whnf))))
  exact ⟨A', k', rfl, hO1, hB1⟩
/-! ### names by numbers -/
/-! ### the document's example -/
end Go.Proofs.Ytebeidnmplnlpaa
end

section
set_option maxRecDepth 10000
namespace Go.Proofs.Ytebeidnmplnlpaa
set_option linter.unusedVariables false
open Go.RowKit

def k0 (room calls : Int) : Dk := ⟨room, calls, false, 0, 0, false⟩
section
variable {r c : Int} {T : PT} {s t l : List UInt8} {f : Fl}
theorem k0_call : (k0 r c).call = (0, k0 r (c + 1)) := rfl
theorem k0_create (hs : nameOk s) (hf : ¬ (tfind T s = none ∧ 64 ≤ T.length)) : DS.create ⟨k0 r c, T⟩ s = (0, ⟨k0 r (c + 1), tset T s ⟨[], 0⟩⟩) := by
  unfold DS.create
  rw [k0_call, if_neg (by simp), if_neg (not_not_intro hs), if_neg hf]
theorem k0_append (hs : nameOk s) (hf : tfind T s = some f) (hr : (used T : Int) + l.length ≤ r) : DS.append ⟨k0 r c, T⟩ s l = (0, ⟨k0 r (c + 1), tset T s ⟨f.b ++ l, f.sure⟩⟩) := by
  unfold DS.append
  rw [k0_call, if_neg (by simp), if_neg (not_not_intro hs)]
  simp only
  rw [hf]
  unfold DS.put
  exact if_neg (Int.not_lt.2 hr)
theorem k0_sync (hs : nameOk s) (hf : tfind T s = some f) : DS.sync ⟨k0 r c, T⟩ s = (0, ⟨k0 r (c + 1), tset T s ⟨f.b, f.b.length⟩⟩) := by
  unfold DS.sync
  rw [k0_call, if_neg (by simp), if_neg (not_not_intro hs)]
  simp only
  rw [hf]
theorem k0_rename (hs : nameOk s) (ht : nameOk t) (hf : tfind T s = some f) : DS.rename ⟨k0 r c, T⟩ s t = (0, ⟨k0 r (c + 1), tset (tdel T s) t f⟩) := by
  unfold DS.rename
  rw [k0_call, if_neg (by simp), if_neg (not_not_intro ⟨hs, ht⟩)]
  simp only
  rw [hf]
theorem k0_remove (hs : nameOk s) (hf : tfind T s = some f) : DS.remove ⟨k0 r c, T⟩ s = (0, ⟨k0 r (c + 1), tdel T s⟩) := by
  unfold DS.remove
  rw [k0_call, if_neg (by simp), if_neg (not_not_intro hs)]
  simp only
  rw [hf]
end
theorem new_k0 {room : Int} (h : 0 ≤ room) (h2 : room ≤ 16777216) : DS.new room = ⟨k0 room 0, []⟩ := by
  unfold DS.new Dk.new k0
  rw [show max 0 (min room 16777216) = room by omega]
end Go.Proofs.Ytebeidnmplnlpaa
end

section
namespace Go.Proofs.Ytebeidnmplnlpaa
set_option linter.unusedVariables false
open Go.RowKit

def vsegL (P : Program) (S : World → Prop) (ops : List Oper) (K : Env → World → Prop) : List (List Nat × Nat) → List Nat → Nat → Env → World → Prop
  | [], l, c, σ, w => vquiet P S ops (fun σ' => vone P (fun _ => True) ops K (nthOp ops c) σ' w) (picks ops l) σ
  | (l1, c1) :: r, l, c, σ, w => vquiet P S ops (fun σ' => vone P S ops (fun σ2 w2 => vsegL P S ops K r l c σ2 w2) (nthOp ops c1) σ' w) (picks ops l1) σ
theorem segL_sound {P : Program} {n : Nat} {ds : List Deferred} {ops : List Oper} {md : Region.Mode} {Q : Exit → Act → World → Prop} {S : World → Prop} {K : Env → World → Prop} {D : List Nat} {σ0 : Env} {l : List Nat} {c : Nat} (hf : feeds md ops.toArray c = true) (hdst : ∀ o ∈ ops, ∀ t, o.dst = some t → t < n ∧ t ∈ D) (hs : Region.noSelect ops.toArray = true)
    (hQ : ∀ x a a' w, Q (.panic x) a w → Q (.panic x) a' w) (hK : ∀ a σ w, Agr n ds a σ → Fr D σ σ0 → K σ w → Q .normal a w) (hl : (l.all fun i => Nat.blt i c) = true) :
    ∀ (segs : List (List Nat × Nat)) (L : Array Bool) (a : Act) (σ : Env) (w : World), (segs.all fun p => (p.1.all fun i => Nat.blt i c) && Nat.blt p.2 c) = true → Down md ops.toArray L → S w → segC md ops.toArray (segs ++ [(l, c)]) [] L = true → Agr n ds a σ → Fr D σ σ0 → vsegL P S ops K segs l c σ w →
      wpAnyC P md ops.toArray Q S c (segLn (segs ++ [(l, c)]) []) L a w
  | [], L, a, σ, w, hb, hD, hS, hB, hA, hF, h => by
    rw [List.nil_append] at hB ⊢
    unfold segC at hB
    cases hT : takeC md ops.toArray l L with
    | none => rw [hT] at hB; cases hB
    | some L' =>
      rw [hT] at hB
      simp only [Bool.and_eq_true, beq_iff_eq] at hB
      obtain ⟨⟨k1, k2⟩, k3⟩ := hB
      unfold vsegL at h
      have := quiet_takeC (md := md) (Q := Q) (S := S) (w := w) (fuel := 1) (σ0 := σ0) hf hdst hs hQ hS (fun a σ' hA hF ha => ?_) l L a σ hD hl hT hA hF h
      · rw [show segLn [(l, c)] [] = 1 + l.length from by simp [segLn]; omega]
        exact this
      · refine ⟨fun h0 => absurd (k1 ▸ h0) (by simp), fun i hi => ?_⟩
        rw [k1] at hi
        simp only [List.mem_singleton] at hi
        subst hi
        rw [nthOp_eq] at ha
        cases ho : ops[i]? with
        | none => rw [ho] at ha; exact ha.elim
        | some o =>
          rw [ho] at ha
          simp only [vone] at ha
          have hmo : o ∈ ops := List.mem_of_getElem? ho
          have k4 : Region.ready md ops.toArray (L'.setIfInBounds i true) = [] := by
            unfold segC takeC at k3
            simpa [List.isEmpty_iff] using k3
          unfold wpOp
          rw [show ops.toArray[i]? = some o from by simpa using ho]
          simp only
          rcases vguard_sound hA ha with ⟨j1, j2⟩ | ⟨j1, j2⟩
          · rw [if_pos j1]
            exact .inl (vop_sound hA j2 fun v w' hk => ⟨fun h => absurd rfl h, k4, hK _ _ _ (hA.put (fun t ht => (hdst o hmo t ht).1) v) (hF.put (fun t ht => (hdst o hmo t ht).2) v) hk.rest⟩)
          · rw [if_neg (by rw [j1]; simp)]
            exact ⟨fun h => absurd rfl h, k4, hK _ _ _ (hA.put (fun t ht => (hdst o hmo t ht).1) undef) (hF.put (fun t ht => (hdst o hmo t ht).2) undef) j2⟩
  | (l1, c1) :: r, L, a, σ, w, hb, hD, hS, hB, hA, hF, h => by
    rw [List.cons_append] at hB ⊢
    simp only [List.all_cons, Bool.and_eq_true] at hb
    unfold segC at hB
    cases hT : takeC md ops.toArray l1 L with
    | none => rw [hT] at hB; cases hB
    | some L' =>
      rw [hT] at hB
      simp only [Bool.and_eq_true, beq_iff_eq] at hB
      obtain ⟨⟨k1, k2⟩, k3⟩ := hB
      unfold vsegL at h
      have hD' : ∀ (l : List Nat) (L L' : Array Bool), Down md ops.toArray L → takeC md ops.toArray l L = some L' → Down md ops.toArray L' := by
        intro l
        induction l with
        | nil => intro L L' h1 h2; simp only [takeC, Option.some.injEq] at h2; subst h2; exact h1
        | cons i r ih =>
          intro L L' h1 h2
          unfold takeC at h2
          split at h2
          · rename_i hc
            simp only [Bool.and_eq_true] at hc
            exact ih _ _ (h1.set (by simpa using hc.1.2)) h2
          · cases h2
      have hDL := hD' l1 L L' hD hT
      have := quiet_takeC (md := md) (Q := Q) (S := S) (w := w) (fuel := segLn (r ++ [(l, c)]) [] + 1) (σ0 := σ0) hf hdst hs hQ hS (fun a σ' hA hF ha => ?_) l1 L a σ hD hb.1.1 hT hA hF h
      · rw [show segLn ((l1, c1) :: (r ++ [(l, c)])) [] = segLn (r ++ [(l, c)]) [] + 1 + l1.length from by simp [segLn]; omega]
        exact this
      · refine ⟨fun h0 => absurd (k1 ▸ h0) (by simp), fun i hi => ?_⟩
        have hi0 := hi
        rw [k1] at hi
        simp only [List.mem_singleton] at hi
        subst hi
        rw [nthOp_eq] at ha
        cases ho : ops[i]? with
        | none => rw [ho] at ha; exact ha.elim
        | some o =>
          rw [ho] at ha
          simp only [vone] at ha
          have hmo : o ∈ ops := List.mem_of_getElem? ho
          unfold wpOp
          rw [show ops.toArray[i]? = some o from by simpa using ho]
          simp only
          rcases vguard_sound hA ha with ⟨j1, j2⟩ | ⟨j1, j2⟩
          · rw [if_pos j1]
            exact .inl (vop_sound hA j2 fun v w' hk => ⟨fun _ => hk.keep, segL_sound hf hdst hs hQ hK hl r _ _ _ w' hb.2 (hDL.set hi0) hk.keep k3 (hA.put (fun t ht => (hdst o hmo t ht).1) v) (hF.put (fun t ht => (hdst o hmo t ht).2) v) hk.rest⟩)
          · rw [if_neg (by rw [j1]; simp)]
            exact ⟨fun _ => hS, segL_sound hf hdst hs hQ hK hl r _ _ _ w hb.2 (hDL.set hi0) hS k3 (hA.put (fun t ht => (hdst o hmo t ht).1) undef) (hF.put (fun t ht => (hdst o hmo t ht).2) undef) j2⟩
def lastsB (n : Nat) (ops : List Oper) (segs : List (List Nat × Nat)) (l : List Nat) (c : Nat) : Bool :=
  Region.noSelect ops.toArray && feeds .any ops.toArray c && (l.all fun i => Nat.blt i c) && (segs.all fun p => (p.1.all fun i => Nat.blt i c) && Nat.blt p.2 c) && segC .any ops.toArray (segs ++ [(l, c)]) [] (Array.replicate ops.length false) && Nat.beq (segLn (segs ++ [(l, c)]) []) ops.length && ops.all fun o => match o.dst with | some d => Nat.blt d n | none => true
structure VE (P : Program) (S : World → Prop) (ops : List Oper) (K : Env → World → Prop) (segs : List (List Nat × Nat)) (l : List Nat) (c : Nat) (σ : Env) (w : World) : Prop where
  out : vsegL P S ops K segs l c σ w
theorem VE_fun (P : Program) (S : World → Prop) (ops : List Oper) (K : Env → World → Prop) (segs : List (List Nat × Nat)) (l : List Nat) (c : Nat) : VE P S ops K segs l c = vsegL P S ops K segs l c := by funext σ w; exact propext ⟨fun h => h.out, fun h => ⟨h⟩⟩
section
variable {P : Program} {S : World → Prop} {ops : List Oper} {K : Env → World → Prop} {l l1 : List Nat} {c c1 : Nat} {r : List (List Nat × Nat)} {σ : Env} {w : World}
theorem VE.nil (h : VQ P S ops (fun σ' => vone P (fun _ => True) ops K (nthOp ops c) σ' w) (picks ops l) σ) : VE P S ops K [] l c σ w := ⟨h.out⟩
theorem VE.cons (h : VQ P S ops (fun σ' => vone P S ops (fun σ2 w2 => VE P S ops K r l c σ2 w2) (nthOp ops c1) σ' w) (picks ops l1) σ) : VE P S ops K ((l1, c1) :: r) l c σ w := by
  refine ⟨?_⟩
  have h := h.out
  simp only [VE_fun] at h
  exact h
end
theorem VDraw.lasts {P : Program} {n : Nat} {ops : List Oper} {Q : Post} {σ : Env} {w : World} (S : World → Prop) (segs : List (List Nat × Nat)) (l : List Nat) (c : Nat) (hm : P.follows .mixedOrders = true) (hB : lastsB n ops segs l c = true)
    (hS : S (w.drewN 1)) (h : VE P S ops (fun σ2 w2 => Q .normal σ2 w2) segs l c σ (w.drewN 1)) : VDraw P n ops Q σ w := by
  replace h := h.out
  unfold lastsB at hB
  simp only [Bool.and_eq_true] at hB
  obtain ⟨⟨⟨⟨⟨⟨h1, h2⟩, h3⟩, h4⟩, h5⟩, h6⟩, h7⟩ := hB
  have hlen := Nat.eq_of_beq_eq_true h6
  have hdst : ∀ o ∈ ops, ∀ t, o.dst = some t → t < n ∧ t ∈ dsts ops := fun o ho t ht => ⟨by
    have := List.all_eq_true.1 h7 o ho
    rw [ht] at this
    exact Nat.blt_eq ▸ this, mem_dsts ho ht⟩
  simp only [VDraw_eq]
  intro ds a id hA
  refine wp_region_any hm (wpAny_ofC (S := S) (c := c) _ _ _ _ ?_)
  have h4' : (segs.all fun p => (p.1.all fun i => Nat.blt i c) && Nat.blt p.2 c) = true := h4
  have := segL_sound (md := .any) (ds := ds) (Q := Lift n ds Q (dsts ops) σ) (S := S) (K := fun σ2 w2 => Q .normal σ2 w2) (σ0 := σ) h2 hdst h1 (fun c a a' w h => h) (fun a σ' w hA hF hk => ⟨σ', hA, hF, hk⟩) h3 segs _ a σ _ h4' (Down.start _) hS h5 hA (Fr.refl _ _) h
  rw [hlen] at this
  rw [show ops.toArray.size = ops.length from by simp]
  exact this
end Go.Proofs.Ytebeidnmplnlpaa
end

section
set_option maxRecDepth 10000
namespace Go.Proofs.Ytebeidnmplnlpaa
set_option linter.unusedVariables false
open Go.RowKit

/-! ### a file's three cells -/
def FEl (W : World) (U : Foot) (p : List UInt8 × Fl) (a b c : Value) : Prop :=
  a = encStr p.1 ∧ (∃ As cs, b = .slice As p.2.sure cs ∧ Lies W U As p.2.sure (p.2.b.take p.2.sure) ∧ p.2.sure ≤ cs) ∧
    ∃ Ap cp, c = .slice Ap (p.2.b.length - p.2.sure) cp ∧ Lies W U Ap (p.2.b.length - p.2.sure) (p.2.b.drop p.2.sure) ∧ p.2.b.length - p.2.sure ≤ cp
def FEls (W : World) (U : Foot) : PT → List Value → Prop
  | [], [] => True
  | p :: T, a :: b :: c :: xs => FEl W U p a b c ∧ FEls W U T xs
  | _, _ => False
section
variable {W W' : World} {U V : Foot}
theorem FEl.stay {p : List UInt8 × Fl} {a b c : Value} (h : FEl W U p a b c) (hl : ∀ A m (l : List UInt8), Lies W U A m l → Lies W' V A m l) : FEl W' V p a b c := by
  obtain ⟨h1, ⟨As, cs, h2, h3, h4⟩, Ap, cp, h5, h6, h7⟩ := h
  exact ⟨h1, ⟨As, cs, h2, hl _ _ _ h3, h4⟩, Ap, cp, h5, hl _ _ _ h6, h7⟩
theorem FEls.stay (hl : ∀ A m (l : List UInt8), Lies W U A m l → Lies W' V A m l) : ∀ {T : PT} {xs : List Value}, FEls W U T xs → FEls W' V T xs
  | [], [], _ => trivial
  | p :: T, a :: b :: c :: xs, h => ⟨h.1.stay hl, FEls.stay hl h.2⟩
  | [], _ :: _, h => h.elim
  | _ :: _, [], h => h.elim
  | _ :: _, [_], h => h.elim
  | _ :: _, [_, _], h => h.elim
theorem FEls.len : ∀ {T : PT} {xs : List Value}, FEls W U T xs → xs.length = T.length * 3
  | [], [], _ => rfl
  | p :: T, a :: b :: c :: xs, h => by have := FEls.len h.2; simp only [List.length_cons]; omega
  | [], _ :: _, h => h.elim
  | _ :: _, [], h => h.elim
  | _ :: _, [_], h => h.elim
  | _ :: _, [_, _], h => h.elim
theorem FEls.append : ∀ {T1 T2 : PT} {x1 x2 : List Value}, FEls W U T1 x1 → FEls W U T2 x2 → FEls W U (T1 ++ T2) (x1 ++ x2)
  | [], _, [], _, _, h => h
  | p :: T, _, a :: b :: c :: xs, _, h, k => ⟨h.1, FEls.append h.2 k⟩
  | [], _, _ :: _, _, h, _ => h.elim
  | _ :: _, _, [], _, h, _ => h.elim
  | _ :: _, _, [_], _, h, _ => h.elim
  | _ :: _, _, [_, _], _, h, _ => h.elim
theorem FEls.split : ∀ {T1 T2 : PT} {xs : List Value}, FEls W U (T1 ++ T2) xs → FEls W U T1 (xs.take (T1.length * 3)) ∧ FEls W U T2 (xs.drop (T1.length * 3))
  | [], _, xs, h => ⟨by simp [FEls], by simpa using h⟩
  | p :: T, T2, a :: b :: c :: xs, h => by
    obtain ⟨h1, h2⟩ := FEls.split (T1 := T) h.2
    have e : (p :: T).length * 3 = T.length * 3 + 3 := by simp; omega
    rw [e]
    exact ⟨⟨h.1, h1⟩, h2⟩
  | _ :: _, _, [], h => h.elim
  | _ :: _, _, [_], h => h.elim
  | _ :: _, _, [_, _], h => h.elim
/-- the cells of a file of a number -/
theorem FEls.at_ {A B : PT} {p : List UInt8 × Fl} {xs : List Value} (h : FEls W U (A ++ p :: B) xs) :
    ∃ x1 a b c x2, xs = x1 ++ a :: b :: c :: x2 ∧ x1.length = A.length * 3 ∧ FEls W U A x1 ∧ FEl W U p a b c ∧ FEls W U B x2 := by
  obtain ⟨h1, h2⟩ := FEls.split h
  have hl := h1.len
  generalize hd : xs.drop (A.length * 3) = ys at h2
  match ys, h2 with
  | a :: b :: c :: x2, h2 => exact ⟨_, a, b, c, x2, by rw [← hd, List.take_append_drop], hl, h1, h2.1, h2.2⟩
  | [], h => exact h.elim
  | [_], h => exact h.elim
  | [_, _], h => exact h.elim
theorem FEls.one : ∀ {T : PT} {xs : List Value}, FEls W U T xs → ∀ u ∈ xs, u.oneCell' = true
  | [], [], _, u, hu => by cases hu
  | p :: T, a :: b :: c :: xs, h, u, hu => by
    obtain ⟨⟨rfl, ⟨As, cs, rfl, _, _⟩, Ap, cp, rfl, _, _⟩, h2⟩ := h
    simp only [List.mem_cons] at hu
    rcases hu with rfl | rfl | rfl | hu
    · rfl
    · rfl
    · rfl
    · exact FEls.one h2 u hu
  | [], _ :: _, h, _, _ => h.elim
  | _ :: _, [], h, _, _ => h.elim
  | _ :: _, [_], h, _, _ => h.elim
  | _ :: _, [_, _], h, _, _ => h.elim
end
def rC (K : Dk) (A : Option Addr) (n c : Nat) : Array Value := #[.slice A n c, .int .i64 K.room, .int .i64 K.calls, .bool K.armed, .int .i64 K.kind, .int .i64 K.after, .bool K.off]
/-- a row of files -/
structure FRow (W : World) (U : Foot) (A : Option Addr) (n c : Nat) (xs : List Value) (T : PT) : Prop where
  row : W.ownsRow 0 100 3 (.slice A n c) n xs
  foot : ∀ g, (Value.slice A n c).ownBlock = some g → U g
  els : FEls W U T xs
structure RefAt (W : World) (U : Foot) (r : Nat) (A : Option Addr) (c : Nat) (xs : List Value) (K : Dk) (T : PT) : Prop where
  hr : U r
  blk : Blk W r 98 (rC K A T.length c)
  fr : FRow W U A T.length c xs T
def RefD (W : World) (U : Foot) (r : Nat) (S : DS) : Prop := DWf S ∧ ∃ A c xs, RefAt W U r A c xs S.k S.t
section
variable {W W' : World} {U V : Foot} {r n c : Nat} {A : Option Addr} {xs : List Value} {K K' : Dk} {T : PT} {S : DS}
theorem ownsRow_stay {B e s m : Nat} {v : Value} {ys : List Value} (h : W.ownsRow B e s v m ys) (hk : ∀ g, v.ownBlock = some g → W'.heap[g]? = W.heap[g]?) : W'.ownsRow B e s v m ys := by
  refine ⟨h.1, ?_⟩
  rcases h.2 with h0 | ⟨k, cap, cur, hv, hbg, hh, q⟩
  · exact .inl h0
  · exact .inr ⟨k, cap, cur, hv, hbg, by rw [hk k (by rw [hv]; rfl)]; exact hh, q⟩
theorem FRow.stay (h : FRow W U A n c xs T) (hs : W.heap.size ≤ W'.heap.size) (hk : ∀ j, j < W.heap.size → U j → W'.heap[j]? = W.heap[j]?) : FRow W' U A n c xs T :=
  ⟨ownsRow_stay h.row (fun g hg => hk g (World.ownsRow.lt h.row g hg).2 (h.foot g hg)), h.foot, h.els.stay (fun A m l hl => hl.stay hs hk)⟩
theorem FRow.more (h : FRow W U A n c xs T) (hV : ∀ j, j < W.heap.size → U j → V j) : FRow W V A n c xs T :=
  ⟨h.row, fun g hg => hV g (World.ownsRow.lt h.row g hg).2 (h.foot g hg), h.els.stay (fun A m l hl => hl.more hV)⟩
theorem FRow.below {C : Nat} (h : FRow W U A n c xs T) (hb : Below C W W') (hC : W.heap.size ≤ C) : FRow W' U A n c xs T :=
  h.stay hb.size (fun j hj _ => hb.block j (Nat.lt_of_lt_of_le hj hC))
theorem RefAt.stay (h : RefAt W U r A c xs K T) (hs : W.heap.size ≤ W'.heap.size) (hk : ∀ j, j < W.heap.size → U j → W'.heap[j]? = W.heap[j]?) : RefAt W' U r A c xs K T :=
  ⟨h.hr, (hk r h.blk.lt h.hr).trans h.blk, h.fr.stay hs hk⟩
theorem RefAt.more (h : RefAt W U r A c xs K T) (hV : ∀ j, j < W.heap.size → U j → V j) : RefAt W V r A c xs K T := ⟨hV r h.blk.lt h.hr, h.blk, h.fr.more hV⟩
theorem RefAt.below {C : Nat} (h : RefAt W U r A c xs K T) (hb : Below C W W') (hC : W.heap.size ≤ C) : RefAt W' U r A c xs K T :=
  h.stay hb.size (fun j hj _ => hb.block j (Nat.lt_of_lt_of_le hj hC))
theorem RefAt.own (h : RefAt W U r A c xs K T) (hb : Blk W' r 98 (rC K' A T.length c)) (hg : W.grownBy W' (some r)) : RefAt W' U r A c xs K' T := by
  refine ⟨h.hr, hb, ⟨ownsRow_stay h.fr.row (fun g hg' => ?_), h.fr.foot, h.fr.els.stay (fun A m l hl => hl.blk h.blk hg (by decide))⟩⟩
  refine hg.block g (World.ownsRow.lt h.fr.row g hg').2 (fun e => ?_)
  injection e with e
  subst e
  obtain ⟨_, cs, hc⟩ := row_cells h.fr.row _ hg'
  have hb' := h.blk
  unfold Blk at hb'
  rw [hc] at hb'
  injection hb' with hb'
  injection hb' with _ h2 _
  exact absurd h2 (by decide)
theorem RefD.wf (h : RefD W U r S) : DWf S := h.1
theorem RefD.stay (h : RefD W U r S) (hs : W.heap.size ≤ W'.heap.size) (hk : ∀ j, j < W.heap.size → U j → W'.heap[j]? = W.heap[j]?) : RefD W' U r S := by
  obtain ⟨h0, A, c, xs, h1⟩ := h; exact ⟨h0, A, c, xs, h1.stay hs hk⟩
theorem RefD.more (h : RefD W U r S) (hV : ∀ j, j < W.heap.size → U j → V j) : RefD W V r S := by
  obtain ⟨h0, A, c, xs, h1⟩ := h; exact ⟨h0, A, c, xs, h1.more hV⟩
theorem RefD.below {C : Nat} (h : RefD W U r S) (hb : Below C W W') (hC : W.heap.size ≤ C) : RefD W' U r S :=
  h.stay hb.size (fun j hj _ => hb.block j (Nat.lt_of_lt_of_le hj hC))
/-- a cell of a file -/
theorem FRow.cell (h : FRow W U A n c xs T) {i k : Nat} {v : Value} (hi : xs[i * 3 + k]? = some v) : ∃ g, A = some ⟨g, 0, none⟩ ∧ g < W.heap.size ∧ W.cell? (((⟨g, 0, none⟩ : Addr).add (i * 3)).add k) = some v := by
  have hl := h.row.1
  have hlt := (List.getElem?_eq_some_iff.1 hi).1
  obtain ⟨g, cap, e, _⟩ := World.ownsRow.form h.row (by omega)
  injection e with e1 e2 e3
  have hlt := (World.ownsRow.lt h.row g (by rw [e1]; rfl)).2
  refine ⟨g, e1, hlt, ?_⟩
  have := World.ownsRow.cells h.row (g := g) (by rw [e1]; rfl) (i * 3 + k) v hi
  rw [Addr.add_add]
  exact this
end
end Go.Proofs.Ytebeidnmplnlpaa
end

section
set_option maxRecDepth 10000
namespace Go.Proofs.Ytebeidnmplnlpaa
set_option linter.unusedVariables false
open Go.RowKit

/-- one went on to another world and footprint: what lay outside stays, and stays outside -/
structure Step (W : World) (U : Foot) (W' : World) (U' : Foot) : Prop where
  out : Out U W W'
  sub : ∀ j, U' j → U j ∨ W.heap.size ≤ j
section
variable {W W' W'' : World} {U U' U'' : Foot}
theorem Step.refl (W : World) (U : Foot) : Step W U W U := ⟨Out.refl _ _, fun j h => .inl h⟩
theorem Step.trans (h : Step W U W' U') (k : Step W' U' W'' U'') : Step W U W'' U'' := by
  have hs := h.out.size
  refine ⟨⟨k.out.os.trans h.out.os, k.out.tape.trans h.out.tape, k.out.output.trans h.out.output, Nat.le_trans hs k.out.size, fun j hj hu => ?_⟩, fun j hj => ?_⟩
  · rw [k.out.block j (by omega) (fun h' => ?_), h.out.block j hj hu]
    rcases h.sub j h' with h' | h'
    · exact hu h'
    · omega
  · rcases k.sub j hj with h' | h'
    · exact h.sub j h'
    · right; omega
theorem Step.new (h : Below W.heap.size W W') : Step W U W' U := ⟨Out.new h, fun j hj => .inl hj⟩
theorem Step.size (h : Step W U W' U') : W.heap.size ≤ W'.heap.size := h.out.size
theorem Step.below {B : Nat} (h : Step W U W' U') (hU : ∀ j, U j → B ≤ j) (hB : B ≤ W.heap.size) : Below B W W' := h.out.below hU hB
theorem Step.min {B : Nat} (h : Step W U W' U') (hU : ∀ j, U j → B ≤ j) (hB : B ≤ W.heap.size) : ∀ j, U' j → B ≤ j := fun j hj => by
  rcases h.sub j hj with h' | h'
  · exact hU j h'
  · omega
/-- a value whose block is not of the footprint -/
def Free (U : Foot) (v : Value) : Prop := ∀ g, v.ownBlock = some g → ¬ U g
theorem Free.new {B e s n : Nat} {v : Value} {xs : List Value} (h : W'.ownsRow B e s v n xs) (hU : ∀ j, U j → j < B) : Free U v := fun g hg hu => by
  have := (World.ownsRow.lt h g hg).1
  have := hU g hu
  omega
theorem Step.rows {B e s n : Nat} {v : Value} {xs : List Value} (h : Step W U W' U') (ho : W.ownsRow B e s v n xs) (hf : Free U v) : W'.ownsRow B e s v n xs ∧ Free U' v := by
  refine ⟨ownsRow_stay ho (fun g hg => h.out.block g (World.ownsRow.lt ho g hg).2 (hf g hg)), fun g hg hu => ?_⟩
  rcases h.sub g hu with h' | h'
  · exact hf g hg h'
  · have := (World.ownsRow.lt ho g hg).2; omega
theorem Step.own {B n : Nat} {v : Value} {l : List UInt8} (h : Step W U W' U') (ho : Own W B v n l) (hf : Free U v) : Own W' B v n l ∧ Free U' v := h.rows ho hf
theorem Step.off {B s n : Nat} {A : Option Addr} {l : List Value} (h : Step W U W' U') (hr : Reads W B s A n l) (hB : B ≤ W.heap.size) (ho : Off U A n) : Reads W' B s A n l ∧ Off U' A n := by
  refine ⟨hr.out hB ho h.out, fun h0 => ?_⟩
  obtain ⟨ad, e, hu⟩ := ho h0
  refine ⟨ad, e, fun h' => ?_⟩
  obtain ⟨ad', e', hl, _⟩ := hr.2 h0
  rw [e] at e'
  obtain rfl := Option.some.inj e'
  rcases h.sub _ h' with h' | h'
  · exact hu h'
  · omega
theorem Step.blk {g T : Nat} {cs : Array Value} (h : Step W U W' U') (hb : Blk W g T cs) (hf : ¬ U g) : Blk W' g T cs ∧ ¬ U' g := by
  refine ⟨(h.out.block g hb.lt hf).trans hb, fun hu => ?_⟩
  rcases h.sub g hu with h' | h'
  · exact hf h'
  · have := hb.lt; omega
end
/-- a disk in its footprint -/
structure Dsk (W : World) (U : Foot) (d : Nat) (S : DS) : Prop where
  disk : Disk W U d S
  lt : ∀ j, U j → j < W.heap.size
section
variable {W W' : World} {U V : Foot} {d : Nat} {S S' : DS}
theorem Dsk.wf (h : Dsk W U d S) : DWf S := h.disk.wf
theorem Dsk.below (h : Dsk W U d S) (hb : Below W.heap.size W W') : Dsk W' U d S := ⟨h.disk.below hb (Nat.le_refl _), fun j hj => Nat.lt_of_lt_of_le (h.lt j hj) hb.size⟩
theorem Dsk.apart {V' : Foot} (h : Dsk W U d S) (hs : Step W V W' V') (hn : ∀ j, U j → ¬ V j) : Dsk W' U d S ∧ ∀ j, U j → ¬ V' j :=
  ⟨⟨h.disk.stay hs.size (fun j hj hu => hs.out.block j hj (hn j hu)), fun j hj => Nat.lt_of_lt_of_le (h.lt j hj) hs.size⟩, fun j hj hv => by
    rcases hs.sub j hv with h' | h'
    · exact hn j hj h'
    · have := h.lt j hj; omega⟩
def grow (U : Foot) (W : World) : Foot := fun j => U j ∨ W.heap.size ≤ j
theorem grow_up (U : Foot) (W : World) : Up (grow U W) W := fun j hj => .inr hj
theorem Dsk.more (h : Dsk W U d S) : Disk W (grow U W) d S := h.disk.more (fun j _ hj => .inl hj)
theorem Dsk.op (h : Disk W' (grow U W) d S') (hO : Out (grow U W) W W') : ∃ U', Dsk W' U' d S' ∧ Step W U W' U' := by
  refine ⟨fun j => grow U W j ∧ j < W'.heap.size, ⟨h.more (fun j hj hu => ⟨hu, hj⟩), fun j hj => hj.2⟩, ⟨⟨hO.os, hO.tape, hO.output, hO.size, fun j hj hu => hO.block j hj (fun h' => ?_)⟩, fun j hj => hj.1⟩⟩
  rcases h' with h' | h'
  · exact hu h'
  · omega
end
theorem oNew (W : World) (room : Int) : Calls Try.prog 18 #[.int .i64 room] W fun e W' => ∃ d U, e = .returned (.pointer (some ⟨d, 0, none⟩)) ∧ Dsk W' U d (DS.new room) ∧ (∀ j, U j → W.heap.size ≤ j) ∧ Below W.heap.size W W' := by
  refine (dNew_any W room).mono ?_
  rintro e W' ⟨d, rfl, h, hB⟩
  exact ⟨d, fun j => W.heap.size ≤ j ∧ j < W'.heap.size, rfl, ⟨h.more (fun j h1 h2 => ⟨h2, h1⟩), fun j hj => hj.2⟩, fun j hj => hj.1, hB⟩
section
variable (W : World) (U : Foot) (d : Nat) (S : DS)
theorem oCreate (s : List UInt8) (h : Dsk W U d S) (hc : S.k.calls < 1000000) (hs : s.length ≤ 1000) :
    Calls Try.prog 25 #[.pointer (some ⟨d, 0, none⟩), .string (txt s)] W fun e W' => e = .returned (.int .i64 (S.create s).1) ∧ ∃ U', Dsk W' U' d (S.create s).2 ∧ Step W U W' U' := by
  refine (dCreate_any W (grow U W) d S s h.more hc hs (grow_up U W)).mono ?_
  rintro e W' ⟨rfl, h2, hO⟩
  exact ⟨rfl, Dsk.op h2 hO⟩
theorem oAppend (s : List UInt8) (n k : Nat) (A : Option Addr) (b : List UInt8) (h : Dsk W U d S) (hc : S.k.calls < 1000000) (hs : s.length ≤ 1000) (hr : Src W (grow U W) A n b) (hn : n ≤ 140737488351232) (hnk : n ≤ k) :
    Calls Try.prog 26 #[.pointer (some ⟨d, 0, none⟩), .string (txt s), .slice A n k] W fun e W' => e = .returned (.int .i64 (S.append s b).1) ∧ ∃ U', Dsk W' U' d (S.append s b).2 ∧ Step W U W' U' := by
  refine (dAppend_any W (grow U W) d S s n k A b h.more hc hs hr hn hnk (grow_up U W)).mono ?_
  rintro e W' ⟨rfl, h2, hO⟩
  exact ⟨rfl, Dsk.op h2 hO⟩
theorem oSync (s : List UInt8) (h : Dsk W U d S) (hc : S.k.calls < 1000000) (hs : s.length ≤ 1000) :
    Calls Try.prog 51 #[.pointer (some ⟨d, 0, none⟩), .string (txt s)] W fun e W' => e = .returned (.int .i64 (S.sync s).1) ∧ ∃ U', Dsk W' U' d (S.sync s).2 ∧ Step W U W' U' := by
  refine (dSync_any W (grow U W) d S s h.more hc hs).mono ?_
  rintro e W' ⟨rfl, h2, hO⟩
  exact ⟨rfl, Dsk.op h2 hO⟩
theorem oRemove (s : List UInt8) (h : Dsk W U d S) (hc : S.k.calls < 1000000) (hs : s.length ≤ 1000) :
    Calls Try.prog 54 #[.pointer (some ⟨d, 0, none⟩), .string (txt s)] W fun e W' => e = .returned (.int .i64 (S.remove s).1) ∧ ∃ U', Dsk W' U' d (S.remove s).2 ∧ Step W U W' U' := by
  refine (dRemove_any W (grow U W) d S s h.more hc hs).mono ?_
  rintro e W' ⟨rfl, h2, hO⟩
  exact ⟨rfl, Dsk.op h2 hO⟩
theorem oRename (s t : List UInt8) (h : Dsk W U d S) (hc : S.k.calls < 1000000) (hs : s.length ≤ 1000) (ht : t.length ≤ 1000) :
    Calls Try.prog 52 #[.pointer (some ⟨d, 0, none⟩), .string (txt s), .string (txt t)] W fun e W' => e = .returned (.int .i64 (S.rename s t).1) ∧ ∃ U', Dsk W' U' d (S.rename s t).2 ∧ Step W U W' U' := by
  refine (dRename_any W (grow U W) d S s t h.more hc hs ht).mono ?_
  rintro e W' ⟨rfl, h2, hO⟩
  exact ⟨rfl, Dsk.op h2 hO⟩
theorem oArm (kind after : Int) (h : Dsk W U d S) (ha : after ≤ 9223372036854775807) :
    Calls Try.prog 27 #[.pointer (some ⟨d, 0, none⟩), .int .i64 kind, .int .i64 after] W fun e W' => e = .returned (.int .i64 (S.arm kind after).1) ∧ ∃ U', Dsk W' U' d (S.arm kind after).2 ∧ Step W U W' U' := by
  refine (dArm_any W (grow U W) d S kind after h.more ha).mono ?_
  rintro e W' ⟨rfl, h2, hO⟩
  exact ⟨rfl, Dsk.op h2 hO⟩
theorem oCrash (n k : Nat) (A : Option Addr) (ps : List Int) (h : Dsk W U d S) (hr : Reads W W.heap.size 1 A n (iv .i64 ps)) (hoff : Off U A n) (hn : n ≤ 1000000000000000) :
    Calls Try.prog 28 #[.pointer (some ⟨d, 0, none⟩), .slice A n k] W fun e W' => e = .returned (.tuple #[]) ∧ ∃ U', Dsk W' U' d (S.crash ps) ∧ Step W U W' U' := by
  have hoff' : Off (grow U W) A n := fun h0 => by
    obtain ⟨ad, e, hu⟩ := hoff h0
    obtain ⟨ad', e', hl, _⟩ := hr.2 h0
    rw [e] at e'
    obtain rfl := Option.some.inj e'
    exact ⟨ad, e, fun h' => by
      rcases h' with h' | h'
      · exact hu h'
      · omega⟩
  refine (dCrash_any W (grow U W) d S n k A ps h.more hr hoff' hn).mono ?_
  rintro e W' ⟨rfl, h2, hO⟩
  exact ⟨rfl, Dsk.op h2 hO⟩
theorem oList (h : Dsk W U d S) :
    Calls Try.prog 23 #[.pointer (some ⟨d, 0, none⟩)] W fun e W' => ∃ A k, e = .returned (.slice A S.t.length k) ∧ W'.ownsRow W.heap.size 9 1 (.slice A S.t.length k) S.t.length ((S.t.map (·.1)).map encStr) ∧ Below W.heap.size W W' := dList_any W U d S h.disk
theorem oRead (s : List UInt8) (h : Dsk W U d S) (hs : s.length ≤ 1000) :
    Calls Try.prog 24 #[.pointer (some ⟨d, 0, none⟩), .string (txt s)] W fun e W' => ∃ v, e = .returned v ∧ readR W' W.heap.size S.t s v ∧ Below W.heap.size W W' := dRead_any W U d S s h.disk hs
theorem oCalls (h : Dsk W U d S) :
    Calls Try.prog 69 #[.pointer (some ⟨d, 0, none⟩)] W fun e W' => e = .returned (.int .i64 S.k.calls) ∧ W' = W := dCalls_any W U d S h.disk
end
end Go.Proofs.Ytebeidnmplnlpaa
end

section
namespace Go.Proofs.Ytebeidnmplnlpaa.Wire
set_option linter.unusedVariables false

/-- a number in groups of seven bits -/
def var : Nat → Nat → List UInt8
  | 0, u => [UInt8.ofNat u]
  | f + 1, u => if u < 128 then [UInt8.ofNat u] else UInt8.ofNat (u % 128 + 128) :: var f (u / 128)
/-- the sign below -/
def zz (v : Int) : Nat := if 0 ≤ v then (2 * v).toNat else (-2 * v - 1).toNat
def int (v : Int) : List UInt8 := var 9 (zz v)
def bool (t : Bool) : List UInt8 := [if t then 1 else 0]
def text (s : List UInt8) : List UInt8 := int s.length ++ s

theorem zz_lt {v : Int} (h : -9223372036854775808 ≤ v ∧ v ≤ 9223372036854775807) : zz v < 18446744073709551616 := by unfold zz; split <;> omega
theorem var_pos : ∀ (f u : Nat), 1 ≤ (var f u).length
  | 0, _ => by simp [var]
  | f + 1, u => by unfold var; split <;> simp
theorem var_le : ∀ (f u : Nat), (var f u).length ≤ f + 1
  | 0, _ => by simp [var]
  | f + 1, u => by
    unfold var
    split
    · simp
    · have := var_le f (u / 128); simp; omega
/-- what groups of seven bits say: the number, and what is left -/
def dec : Nat → Bool → List UInt8 → Option (Nat × List UInt8)
  | _, _, [] => none
  | 0, first, x :: r => if 1 < x.toNat ∨ (first = false ∧ x.toNat = 0) then none else some (x.toNat, r)
  | f + 1, first, x :: r => if first = false ∧ x.toNat = 0 then none else if x.toNat < 128 then some (x.toNat, r) else (dec f false r).map fun p => (x.toNat - 128 + 128 * p.1, p.2)
def uz (u : Nat) : Int := if u % 2 = 1 then -((u / 2 : Nat) : Int) - 1 else ((u / 2 : Nat) : Int)
/-- the number at the head of bytes, and what is left -/
def getInt (l : List UInt8) : Option (Int × List UInt8) := (dec 9 true l).map fun p => (uz p.1, p.2)

theorem uz_zz (v : Int) : uz (zz v) = v := by unfold uz zz; split <;> split <;> omega
theorem zz_uz (u : Nat) : zz (uz u) = u := by unfold uz zz; split <;> split <;> omega
theorem ofNat_toNat {u : Nat} (h : u < 256) : (UInt8.ofNat u).toNat = u := by rw [UInt8.toNat_ofNat']; omega
theorem dec_var : ∀ (f : Nat) (first : Bool) (u : Nat) (r : List UInt8), u < 2 * 128 ^ f → (first = true ∨ u ≠ 0) → dec f first (var f u ++ r) = some (u, r)
  | 0, first, u, r, h, h0 => by
    simp only [var, List.cons_append, List.nil_append, dec]
    rw [ofNat_toNat (by omega), if_neg]
    rintro (h1 | ⟨h1, h2⟩)
    · omega
    · rcases h0 with h0 | h0
      · rw [h0] at h1; cases h1
      · exact h0 h2
  | f + 1, first, u, r, h, h0 => by
    have hne : ¬ (first = false ∧ u = 0) := by
      rintro ⟨h1, h2⟩
      rcases h0 with h0 | h0
      · rw [h0] at h1; cases h1
      · exact h0 h2
    unfold var
    by_cases hu : u < 128
    · rw [if_pos hu]
      simp only [List.cons_append, List.nil_append, dec]
      rw [ofNat_toNat (by omega), if_neg hne, if_pos hu]
    · rw [if_neg hu]
      simp only [List.cons_append, dec]
      rw [ofNat_toNat (by omega), if_neg (by omega), if_neg (by omega), dec_var f false (u / 128) r (by rw [Nat.pow_succ] at h; omega) (.inr (by omega))]
      simp
      omega
theorem var_dec : ∀ (f : Nat) (first : Bool) (l : List UInt8) (u : Nat) (r : List UInt8), dec f first l = some (u, r) → l = var f u ++ r ∧ u < 2 * 128 ^ f ∧ (first = true ∨ u ≠ 0)
  | f, first, [], u, r, h => by cases f <;> simp [dec] at h
  | 0, first, x :: l, u, r, h => by
    simp only [dec] at h
    split at h
    · cases h
    · rename_i hc
      simp only [Option.some.injEq, Prod.mk.injEq] at h
      obtain ⟨rfl, rfl⟩ := h
      have hc' : ¬ 1 < x.toNat := fun k => hc (.inl k)
      refine ⟨by simp [var], by omega, ?_⟩
      cases first
      · exact .inr fun k => hc (.inr ⟨rfl, k⟩)
      · exact .inl rfl
  | f + 1, first, x :: l, u, r, h => by
    have hx := x.toNat_lt
    simp only [dec] at h
    split at h
    · cases h
    · rename_i hc
      split at h
      · rename_i h1
        simp only [Option.some.injEq, Prod.mk.injEq] at h
        obtain ⟨rfl, rfl⟩ := h
        refine ⟨by simp [var, h1], by have : 0 < 128 ^ f := Nat.pow_pos (by omega); rw [Nat.pow_succ]; omega, ?_⟩
        cases first
        · exact .inr fun k => hc ⟨rfl, k⟩
        · exact .inl rfl
      · rename_i h1
        obtain ⟨⟨u', r'⟩, hd, he⟩ := Option.map_eq_some_iff.1 h
        simp only [Prod.mk.injEq] at he
        obtain ⟨rfl, rfl⟩ := he
        obtain ⟨e1, e2, e3⟩ := var_dec f false l u' r' hd
        have e4 : u' ≠ 0 := by rcases e3 with e3 | e3; cases e3; exact e3
        refine ⟨?_, by rw [Nat.pow_succ]; omega, .inr (by omega)⟩
        unfold var
        rw [if_neg (by omega), show (x.toNat - 128 + 128 * u') % 128 + 128 = x.toNat from by omega, show (x.toNat - 128 + 128 * u') / 128 = u' from by omega]
        simp [e1]
theorem getInt_int {v : Int} (h : -9223372036854775808 ≤ v ∧ v ≤ 9223372036854775807) (r : List UInt8) : getInt (int v ++ r) = some (v, r) := by
  unfold getInt int
  rw [dec_var 9 true (zz v) r (by have := zz_lt h; omega) (.inl rfl)]
  simp [uz_zz]
theorem uz_range {u : Nat} (h : u < 18446744073709551616) : -9223372036854775808 ≤ uz u ∧ uz u ≤ 9223372036854775807 := by unfold uz; split <;> omega
theorem getInt_back {l r : List UInt8} {v : Int} (h : getInt l = some (v, r)) : l = int v ++ r ∧ -9223372036854775808 ≤ v ∧ v ≤ 9223372036854775807 := by
  unfold getInt at h
  obtain ⟨⟨u, r'⟩, hd, he⟩ := Option.map_eq_some_iff.1 h
  simp only [Prod.mk.injEq] at he
  obtain ⟨rfl, rfl⟩ := he
  obtain ⟨e1, e2, _⟩ := var_dec 9 true l u r' hd
  refine ⟨?_, uz_range (by omega)⟩
  unfold int
  rw [zz_uz]
  exact e1
/-- a Reader's state: what is left, or nothing: it isn't Ok -/
def intS : Option (List UInt8) → Int × Option (List UInt8)
  | none => (0, none)
  | some l => match getInt l with
    | none => (0, none)
    | some (v, r) => (v, some r)
def leftS : Option (List UInt8) → Nat
  | none => 0
  | some l => l.length
def endS : Option (List UInt8) → Bool
  | none => false
  | some l => decide (l.length = 0)
def boolS : Option (List UInt8) → Bool × Option (List UInt8)
  | none => (false, none)
  | some [] => (false, none)
  | some (x :: r) => if 1 < x.toNat then (false, none) else (decide (x.toNat = 1), some r)
def countS (most : Int) (s : Option (List UInt8)) : Int × Option (List UInt8) :=
  match intS s with
  | (_, none) => (0, none)
  | (v, some r) => if v < 0 ∨ most < v ∨ (r.length : Int) < v then (0, none) else (v, some r)
def textS (most : Int) (s : Option (List UInt8)) : List UInt8 × Option (List UInt8) :=
  match countS most s with
  | (_, none) => ([], none)
  | (v, some r) => (r.take v.toNat, some (r.drop v.toNat))
def okS : Option (List UInt8) → Bool
  | none => false
  | some _ => true
theorem countS_range {most v : Int} {s : Option (List UInt8)} {r : List UInt8} (h : countS most s = (v, some r)) : 0 ≤ v ∧ v ≤ (r.length : Int) := by
  unfold countS at h
  split at h
  · cases h
  · split at h
    · cases h
    · rename_i hc
      simp only [Prod.mk.injEq, Option.some.injEq] at h
      obtain ⟨rfl, rfl⟩ := h
      omega
theorem intS_none {l : List UInt8} (h : dec 9 true l = none) : intS (some l) = (0, none) := by simp [intS, getInt, h]
theorem intS_some {l r : List UInt8} {u : Nat} (h : dec 9 true l = some (u, r)) : intS (some l) = (uz u, some r) := by simp [intS, getInt, h]
theorem dec_stop {f : Nat} {first : Bool} {x : UInt8} {r : List UInt8} (h : (f = 0 ∧ 1 < x.toNat) ∨ (first = false ∧ x.toNat = 0)) : dec f first (x :: r) = none := by
  cases f with
  | zero =>
    simp only [dec]
    rw [if_pos]
    rcases h with ⟨_, h⟩ | h
    · exact .inl h
    · exact .inr h
  | succ f =>
    simp only [dec]
    rw [if_pos]
    rcases h with ⟨h, _⟩ | h
    · cases h
    · exact h
theorem dec_end {f : Nat} {first : Bool} {x : UInt8} {r : List UInt8} (h1 : f = 0 → x.toNat ≤ 1) (h2 : first = false → x.toNat ≠ 0) (h3 : x.toNat < 128) : dec f first (x :: r) = some (x.toNat, r) := by
  cases f with
  | zero =>
    simp only [dec]
    rw [if_neg]
    rintro (h | ⟨ha, hb⟩)
    · have := h1 rfl; omega
    · exact h2 ha hb
  | succ f =>
    simp only [dec]
    rw [if_neg (fun h => h2 h.1 h.2), if_pos h3]
theorem dec_more {f : Nat} {first : Bool} {x : UInt8} {r : List UInt8} (h3 : 128 ≤ x.toNat) : dec (f + 1) first (x :: r) = (dec f false r).map fun p => (x.toNat - 128 + 128 * p.1, p.2) := by
  simp only [dec]
  rw [if_neg (by omega), if_neg (by omega)]
theorem int_len (v : Int) : 1 ≤ (int v).length ∧ (int v).length ≤ 10 := ⟨var_pos _ _, var_le _ _⟩
end Go.Proofs.Ytebeidnmplnlpaa.Wire
end

section
namespace Go.Proofs.Ytebeidnmplnlpaa.Wire
set_option linter.unusedVariables false
theorem intS_back {l r : List UInt8} {v : Int} (h : intS (some l) = (v, some r)) : l = int v ++ r ∧ -9223372036854775808 ≤ v ∧ v ≤ 9223372036854775807 := by
  unfold intS at h
  simp only at h
  split at h
  · simp at h
  · rename_i v' r' hg
    simp only [Prod.mk.injEq, Option.some.injEq] at h
    obtain ⟨rfl, rfl⟩ := h
    exact getInt_back hg
theorem intS_bad {s : Option (List UInt8)} {v : Int} (h : intS s = (v, none)) : v = 0 := by
  unfold intS at h
  split at h
  · simp at h; exact h.symm
  · split at h <;> simp at h
    exact h.symm
theorem intS_int {v : Int} (h : -9223372036854775808 ≤ v ∧ v ≤ 9223372036854775807) (r : List UInt8) : intS (some (int v ++ r)) = (v, some r) := by
  simp [intS, getInt_int h]
theorem countS_int {most v : Int} (h : -9223372036854775808 ≤ v ∧ v ≤ 9223372036854775807) (r : List UInt8) : countS most (some (int v ++ r)) = if v < 0 ∨ most < v ∨ (r.length : Int) < v then (0, none) else (v, some r) := by
  simp [countS, intS_int h]
theorem textS_text {most : Int} (t r : List UInt8) (ht : t.length ≤ 9223372036854775807) (hm : (t.length : Int) ≤ most) : textS most (some (text t ++ r)) = (t, some r) := by
  have hc : countS most (some (text t ++ r)) = ((t.length : Int), some (t ++ r)) := by
    unfold text
    rw [List.append_assoc, countS_int ⟨by omega, by omega⟩, if_neg (by simp; omega)]
  unfold textS
  rw [hc]
  simp
end Go.Proofs.Ytebeidnmplnlpaa.Wire
end

section
namespace Go.Proofs.Ytebeidnmplnlpaa.Crc

/-- one bit's step -/
def bit (r : Nat) : Nat := if r % 2 = 1 then (r / 2) ^^^ 3988292384 else r / 2
/-- n bits' steps -/
def bits : Nat → Nat → Nat
  | 0, r => r
  | n + 1, r => bits n (bit r)
/-- one byte's step -/
def byte (r x : Nat) : Nat := bits 8 (r ^^^ x)
/-- the register behind bytes -/
def reg (r : Nat) (l : List UInt8) : Nat := l.foldl (fun r x => byte r x.toNat) r
def more (s : Nat) (l : List UInt8) : Nat := (reg (4294967295 - s) l) ^^^ 4294967295

theorem xor_lt {a b : Nat} (ha : a < 4294967296) (hb : b < 4294967296) : a ^^^ b < 4294967296 := Nat.xor_lt_two_pow (n := 32) ha hb
theorem bit_lt {r : Nat} (h : r < 4294967296) : bit r < 4294967296 := by
  unfold bit; split
  · exact xor_lt (by omega) (by omega)
  · omega
theorem bits_lt : ∀ (n : Nat) {r : Nat}, r < 4294967296 → bits n r < 4294967296
  | 0, _, h => h
  | n + 1, _, h => bits_lt n (bit_lt h)
theorem bits_succ : ∀ (n r : Nat), bits (n + 1) r = bit (bits n r)
  | 0, _ => rfl
  | n + 1, r => bits_succ n (bit r)
theorem byte_lt {r : Nat} (h : r < 4294967296) (x : UInt8) : byte r x.toNat < 4294967296 :=
  bits_lt 8 (xor_lt h (by have := x.toNat_lt; omega))
theorem reg_lt : ∀ (l : List UInt8) {r : Nat}, r < 4294967296 → reg r l < 4294967296
  | [], _, h => h
  | x :: l, _, h => reg_lt l (byte_lt h x)
theorem reg_snoc (r : Nat) (l : List UInt8) (x : UInt8) : reg r (l ++ [x]) = byte (reg r l) x.toNat := by simp [reg]
theorem more_lt {s : Nat} (h : s < 4294967296) (l : List UInt8) : more s l < 4294967296 := xor_lt (reg_lt l (by omega)) (by omega)
theorem not_eq {s : Nat} (h : s < 4294967296) : 4294967295 - s = s ^^^ 4294967295 := by
  have e := BitVec.toNat_not (x := BitVec.ofNat 32 s)
  have e2 := congrArg BitVec.toNat (BitVec.xor_allOnes (x := BitVec.ofNat 32 s))
  rw [e, BitVec.toNat_xor] at e2
  simp only [BitVec.toNat_ofNat, BitVec.toNat_allOnes] at e2
  rw [Nat.mod_eq_of_lt (by omega)] at e2
  simpa using e2.symm
theorem not_not {s : Nat} (h : s < 4294967296) : 4294967295 - (s ^^^ 4294967295) = s := by rw [← not_eq h]; omega
/-- the other text's step: the byte is not laid into the register ahead -/
def two (q y : Nat) : Nat := if q % 2 ≠ y % 2 then (q / 2) ^^^ 3988292384 else q / 2
/-! ### the sum is linear -/
theorem xor_cancel {a b c : Nat} (h : a ^^^ c = b ^^^ c) : a = b := by
  have := congrArg (· ^^^ c) h
  simpa [Nat.xor_assoc] using this
theorem xor_zero {a b : Nat} (h : a ^^^ b = 0) : a = b := xor_cancel (c := b) (by rw [h, Nat.xor_self])
/-! ### up to 32 bits in a row -/
/-- bytes as one number, the first one lowest -/
def num : List UInt8 → Nat
  | [] => 0
  | x :: l => x.toNat + 256 * num l
theorem num_lt : ∀ (l : List UInt8), num l < 2 ^ (8 * l.length)
  | [] => by simp [num]
  | x :: l => by
    have h := num_lt l
    have hx := x.toNat_lt
    simp only [num, List.length_cons]
    rw [show 8 * (l.length + 1) = 8 * l.length + 8 from by omega, Nat.pow_add]
    omega
theorem num_inj : ∀ (l m : List UInt8), l.length = m.length → num l = num m → l = m
  | [], [], _, _ => rfl
  | x :: l, y :: m, h, e => by
    have hx := x.toNat_lt
    have hy := y.toNat_lt
    simp only [num] at e
    have e1 : x = y := UInt8.toNat_inj.1 (by omega)
    rw [e1, num_inj l m (by simpa using h) (by omega)]
  | [], _ :: _, h, _ => by simp at h
  | _ :: _, [], h, _ => by simp at h
end Go.Proofs.Ytebeidnmplnlpaa.Crc
end

section
namespace Go.Proofs.Ytebeidnmplnlpaa.Frame
set_option linter.unusedVariables false

def le4 (s : Nat) : List UInt8 := [UInt8.ofNat s, UInt8.ofNat (s / 2 ^ 8), UInt8.ofNat (s / 2 ^ 16), UInt8.ofNat (s / 2 ^ 24)]
def sum (body : List UInt8) : Nat := Crc.more (Crc.more 0 (Wire.int body.length)) body
def put (body : List UInt8) : List UInt8 := Wire.int body.length ++ le4 (sum body) ++ body
theorem sum_lt (body : List UInt8) : sum body < 4294967296 := Crc.more_lt (Crc.more_lt (by omega) _) _
theorem le4_len (s : Nat) : (le4 s).length = 4 := rfl
theorem put_len (body : List UInt8) : (put body).length = (Wire.int body.length).length + 4 + body.length := by simp [put, le4_len]; omega
theorem num_le4 {s : Nat} (h : s < 4294967296) : Crc.num (le4 s) = s := by
  simp only [le4, Crc.num, UInt8.toNat_ofNat']
  omega
theorem le4_num {l : List UInt8} (h : l.length = 4) : le4 (Crc.num l) = l := by
  have h2 : Crc.num l < 4294967296 := by have := Crc.num_lt l; rw [h] at this; exact this
  exact Crc.num_inj _ _ (by rw [le4_len, h]) (num_le4 h2)

/-- the frame at the head of bytes: its body, what is behind it -/
def first (l : List UInt8) : Option (List UInt8 × List UInt8) :=
  match Wire.intS (some l) with
  | (n, some r) => if 1 ≤ n ∧ n ≤ 1048576 ∧ 4 + n.toNat ≤ r.length ∧ r.take 4 = le4 (sum ((r.drop 4).take n.toNat)) then some ((r.drop 4).take n.toNat, r.drop (4 + n.toNat)) else none
  | _ => none
theorem int_small {n : Nat} (h : n ≤ 1048576) (r : List UInt8) : Wire.intS (some (Wire.int (n : Int) ++ r)) = ((n : Int), some r) := Wire.intS_int (by omega) r
theorem first_put {body : List UInt8} (r : List UInt8) (h1 : 1 ≤ body.length) (h2 : body.length ≤ 1048576) : first (put body ++ r) = some (body, r) := by
  unfold first put
  rw [List.append_assoc, List.append_assoc, int_small h2]
  have e1 : (le4 (sum body) ++ (body ++ r)).take 4 = le4 (sum body) := List.take_left' (le4_len _)
  have e2 : (le4 (sum body) ++ (body ++ r)).drop 4 = body ++ r := List.drop_left' (le4_len _)
  have e3 : (body ++ r).take body.length = body := List.take_left' rfl
  have e4 : (le4 (sum body) ++ (body ++ r)).drop (4 + body.length) = r := by rw [← List.drop_drop, e2, List.drop_left' rfl]
  simp only [Int.toNat_natCast, e1, e2, e3, e4]
  rw [if_pos ⟨by omega, by omega, by simp [le4_len], trivial⟩]
theorem first_some {l body r : List UInt8} (h : first l = some (body, r)) : l = put body ++ r ∧ 1 ≤ body.length ∧ body.length ≤ 1048576 := by
  unfold first at h
  split at h
  · rename_i n r0 hI
    split at h
    · rename_i hc
      obtain ⟨c1, c2, c3, c4⟩ := hc
      simp only [Option.some.injEq, Prod.mk.injEq] at h
      obtain ⟨hb, hr⟩ := h
      obtain ⟨e, _, _⟩ := Wire.intS_back hI
      have hl : body.length = n.toNat := by rw [← hb]; simp; omega
      have hn : ((body.length : Nat) : Int) = n := by omega
      refine ⟨?_, by omega, by omega⟩
      rw [e]
      unfold put
      rw [hn, List.append_assoc, List.append_assoc]
      congr 1
      rw [← hb] at hl ⊢
      rw [← c4, ← hr, ← List.drop_drop, List.take_append_drop, List.take_append_drop]
    · cases h
  · cases h
theorem first_nil : first [] = none := rfl

/-- the frame at a place: a body, the place behind it, an answer -/
def get (l : List UInt8) (at_ : Int) : List UInt8 × Int × Int :=
  if at_ < 0 ∨ (l.length : Int) < at_ then ([], 0, 1) else if at_ = l.length then ([], 0, 3) else
  match first (l.drop at_.toNat) with
  | none => ([], 0, 4)
  | some (body, r) => (body, at_ + (put body).length, 0)
/-- what the first ten bytes say of a number is what all say -/
theorem intS_ten (l : List UInt8) : (Wire.intS (some (l.take 10))).1 = (Wire.intS (some l)).1 ∧ ((Wire.intS (some (l.take 10))).2.isSome = (Wire.intS (some l)).2.isSome) := by
  cases hI : Wire.intS (some l) with
  | mk v o =>
    cases o with
    | some r =>
      obtain ⟨e, h1, h2⟩ := Wire.intS_back hI
      have hl := (Wire.int_len v).2
      have e2 : l.take 10 = Wire.int v ++ r.take (10 - (Wire.int v).length) := by rw [e, List.take_append, List.take_of_length_le hl]
      rw [e2, Wire.intS_int ⟨h1, h2⟩]
      exact ⟨rfl, rfl⟩
    | none =>
      have hv := Wire.intS_bad hI
      cases hJ : Wire.intS (some (l.take 10)) with
      | mk v' o' =>
        cases o' with
        | none => exact ⟨by rw [hv, Wire.intS_bad hJ], rfl⟩
        | some r =>
          exfalso
          obtain ⟨e, h1, h2⟩ := Wire.intS_back hJ
          have e2 : l = Wire.int v' ++ (r ++ l.drop 10) := by rw [← List.append_assoc, ← e, List.take_append_drop]
          rw [e2, Wire.intS_int ⟨h1, h2⟩] at hI
          cases hI
end Go.Proofs.Ytebeidnmplnlpaa.Frame
end

section
namespace Go.Proofs.Ytebeidnmplnlpaa
set_option linter.unusedVariables false
open Go.RowKit

set_option maxHeartbeats 400000 in
theorem more_any (s : Nat) (hs : s < 4294967296) (A : Option Addr) (n c B : Nat) (l : List UInt8) (w : World) (hl : n ≤ maxLen) (hrd : Reads w B 1 A n (bv l)) :
    Calls Try.prog 84 #[.int .u32 (s : Int), .slice A n c] w fun e w' => e = .returned (.int .u32 (Crc.more s l : Nat)) ∧ w = w' := by
  unfold maxLen at hl
  go_enter Try.func84, Try.ntmps84
  go_wp2
  go_loop [5, 7, 8, 13, 21] (fun r _ _ i _ => ∃ k q : Nat, k ≤ n ∧ q < 4294967296 ∧ Hid (Crc.reg (4294967295 - s) (l.take k) = q) ∧ r = .int .u32 (q : Int) ∧ i = .int .i64 (k : Int)) (fun _ _ _ i _ => n - (intOf i).toNat)
  case atStart =>
    refine ⟨0, 4294967295 - s, by omega, by omega, rfl, ?_, rfl⟩
    rw [show IntKind.u32.max = ((4294967295 : Nat) : Int) from rfl, u32_xor_nat _ _ (by omega) hs, Nat.xor_comm, ← Crc.not_eq hs]
  case round =>
    obtain ⟨k, q, hk, hq, HQ, rfl, rfl⟩ := hrel
    by_cases hlt : k < n
    · obtain ⟨ad, u, rfl, hb, hx, hc⟩ := hrd.at_ hlt
      obtain ⟨x, hx', rfl⟩ := bv_at hx
      have hx1 := x.toNat_lt
      have hq' : q ^^^ x.toNat < 4294967296 := Crc.xor_lt hq (by omega)
      have e1 : bits BinOp.xor IntKind.u32 (q : Int) (x.toNat : Int) = ((q ^^^ x.toNat : Nat) : Int) := u32_xor_nat _ _ hq (by omega)
      go_wp2
      clear e1
      go_loop [5, 8, 21] (fun r _ i => ∃ k' q' : Nat, k' ≤ 8 ∧ q' < 4294967296 ∧ Hid (Crc.bits k' (q ^^^ x.toNat) = q') ∧ r = .int .u32 (q' : Int) ∧ i = .int .i64 (k' : Int)) (fun _ _ i => 8 - (intOf i).toNat)
      case atStart => exact ⟨0, _, by omega, hq', rfl, rfl, rfl⟩
      case round =>
        obtain ⟨k', q', hk', hq2, HQ', rfl, rfl⟩ := hrel
        have e2 : bits BinOp.and IntKind.u32 (q' : Int) 1 = ((q' % 2 : Nat) : Int) := by
          rw [show (1 : Int) = ((1 : Nat) : Int) from rfl, u32_and_nat _ _ hq2 (by omega), nat_mask1]
        by_cases hlt' : k' < 8
        · have e3 : bits BinOp.xor IntKind.u32 ((q' : Int) / 2) 3988292384 = ((q' / 2 ^^^ 3988292384 : Nat) : Int) := by
            rw [show (3988292384 : Int) = ((3988292384 : Nat) : Int) from rfl, show (q' : Int) / 2 = ((q' / 2 : Nat) : Int) from by omega]
            exact u32_xor_nat _ _ (by omega) (by omega)
          go_wp2
          · have ht : q' % 2 = 1 := by
              have : ((q' : Int) % 2 == 1) = true := by assumption
              simp at this; omega
            go_round
            case rel =>
              exact ⟨k' + 1, Crc.bit q', by omega, Crc.bit_lt hq2, by show Crc.bits _ _ = _; rw [Crc.bits_succ, show Crc.bits k' (q ^^^ x.toNat) = q' from HQ'], by simp only [Crc.bit, if_pos ht], by go_num⟩
            case measure => simp [intOf]; omega
          · have ht : ¬ q' % 2 = 1 := by
              have : ((q' : Int) % 2 == 1) = false := by assumption
              simp at this; omega
            go_round
            case rel =>
              exact ⟨k' + 1, Crc.bit q', by omega, Crc.bit_lt hq2, by show Crc.bits _ _ = _; rw [Crc.bits_succ, show Crc.bits k' (q ^^^ x.toNat) = q' from HQ'], by simp only [Crc.bit, if_neg ht]; go_num, by go_num⟩
            case measure => simp [intOf]; omega
        · have h8 : k' = 8 := by omega
          clear e2
          subst h8
          go_wp2
          go_round
          case rel =>
            exact ⟨k + 1, q', by omega, hq2, by show Crc.reg _ _ = _; rw [take_snoc hx', Crc.reg_snoc, show Crc.reg _ _ = q from HQ]; exact HQ', rfl, by go_num⟩
          case measure => simp [intOf]; omega
    · have hkn : l.take k = l := List.take_of_length_le (by have := hrd.1; rw [bv_length] at this; omega)
      rw [hkn] at HQ
      clear hkn
      have e1 : bits BinOp.xor IntKind.u32 IntKind.u32.max (q : Int) = ((q ^^^ 4294967295 : Nat) : Int) := by
        rw [show IntKind.u32.max = ((4294967295 : Nat) : Int) from rfl, u32_xor_nat _ _ (by omega) hq, Nat.xor_comm]
      go_wp2
      go_ret
      refine ⟨?_, rfl⟩
      unfold Crc.more
      rw [show Crc.reg _ _ = q from HQ]
      rfl

end Go.Proofs.Ytebeidnmplnlpaa
end

section
namespace Go.Proofs.Ytebeidnmplnlpaa
set_option linter.unusedVariables false
open Go.RowKit

set_option maxHeartbeats 400000 in
theorem of_any (A : Option Addr) (n c B : Nat) (l : List UInt8) (w : World) (hl : n ≤ maxLen) (hrd : Reads w B 1 A n (bv l)) :
    Calls Try.prog 85 #[.slice A n c] w fun e w' => e = .returned (.int .u32 (Crc.more 0 l : Nat)) ∧ w = w' := by
  go_enter Try.func85, Try.ntmps85
  go_wp2_with fail
  refine (more_any 0 (by omega) _ _ _ B l _ hl hrd).mono ?_
  rintro e w' ⟨rfl, rfl⟩
  go_wp2
  go_ret
  exact ⟨rfl, rfl⟩
set_option maxHeartbeats 400000 in
theorem bytes_anyS (A : Option Addr) (n c B : Nat) (l : List UInt8) (w : World) (hn : n ≤ 140737488355328) (hrd : Reads w B 1 A n (bv l)) :
    Calls Try.prog 21 #[.slice A n c] w fun e w' => ∃ A' c', e = .returned (.slice A' n c') ∧ Own w' w.heap.size (.slice A' n c') n l ∧ Below w.heap.size w w' := by
  go_enter Try.func21, Try.ntmps21
  go_wp2_with (at_builtin; refine app_copy _ rfl _ rfl B A n c l rfl hrd hn ?_; intro A' c' w' hO hb)
  go_ret
  exact ⟨A', c', rfl, hO, hb⟩

end Go.Proofs.Ytebeidnmplnlpaa
end

section
namespace Go.Proofs.Ytebeidnmplnlpaa
set_option linter.unusedVariables false
open Go.RowKit

theorem slice_lhm (w : World) (A : Option Addr) (n c : Nat) (hk : n ≤ c) :
    (Instr.slice 31 (.slice A n c) none (some (.int .i64 (n : Int))) (some (.int .i64 (n : Int)))).run Try.prog w = .ok (.slice A n n) w := by
  rw [run_slice_hm w 31 A n c (by kernel_rfl) .i64 .i64 n n (by omega) (by omega) (by omega)]
  rw [show (sizeOf (Try.prog.elem 31)).run Try.prog w = .ok 1 w from by kernel_rfl]
  have h := cutA_zero A n
  unfold cutA at h
  simp [Result.andThen, sliced, h]

theorem zz_go {v : Int} (hv : -9223372036854775808 ≤ v ∧ v ≤ 9223372036854775807) :
    bits BinOp.xor IntKind.u64 (IntKind.u64.wrap (IntKind.u64.wrap v * 2)) (IntKind.u64.wrap (v / 9223372036854775808)) = (Wire.zz v : Int) := by
  simp only [IntKind.wrap_u64]
  unfold Wire.zz
  split
  · rename_i h
    rw [show v % 18446744073709551616 * 2 % 18446744073709551616 = (((2 * v).toNat : Nat) : Int) from by omega, show v / 9223372036854775808 % 18446744073709551616 = ((0 : Nat) : Int) from by omega,
      bits_xor_u64_nat _ _ (by omega) (by omega), Nat.xor_zero]
  · rename_i h
    rw [show v % 18446744073709551616 * 2 % 18446744073709551616 = (((2 * v + 18446744073709551616).toNat : Nat) : Int) from by omega,
      show v / 9223372036854775808 % 18446744073709551616 = ((18446744073709551615 : Nat) : Int) from by omega, bits_xor_u64_nat _ _ (by omega) (by omega), u64_not (by omega)]
    omega
set_option maxHeartbeats 400000 in
theorem putInt_any (A : Option Addr) (n c : Nat) (l : List UInt8) (v : Int) (w : World) (hn : n + 10 ≤ 140737488355328) (hnc : n ≤ c) (hv : -9223372036854775808 ≤ v ∧ v ≤ 9223372036854775807)
    (hrd : Reads w w.heap.size 1 A n (bv l)) :
    Calls Try.prog 49 #[.slice A n c, .int .i64 v] w fun e w' => ∃ A' m c', e = .returned (.slice A' m c') ∧ Own w' w.heap.size (.slice A' m c') m (l ++ Wire.int v) ∧ Below w.heap.size w w' := by
  have hA : A = none → n = 0 := hrd.none_zero
  have hs1 := fun w => slice_lhm w A n c hnc
  have hz : Hid (Wire.zz v < 2 * 128 ^ 9) := by have := Wire.zz_lt hv; show _ < _; omega
  go_enter Try.func49, Try.ntmps49
  go_upto_region 2 with fail
  go_cut [5] (fun s5 wx => wx = w ∧ s5 = .int .u64 (Wire.zz v : Int))
  case first =>
    go_wp2
    go_meet
    exact ⟨rfl, by rw [zz_go hv]⟩
  case rest =>
  obtain ⟨rfl, rfl⟩ := hcut
  clear hv
  go_wp2
  go_loopw [0, 5] (fun b u wr => ∃ (m : Nat) (pre : List UInt8) (q f : Nat), u = .int .u64 (q : Int) ∧ AppB wr wc.heap.size b m (l ++ pre) ∧ f ≤ 9 ∧ m + f ≤ n + 9 ∧ Hid (q < 2 * 128 ^ f) ∧
      Hid (pre ++ Wire.var f q = Wire.int v) ∧ Below wc.heap.size wc wr) (fun _ u _ => (intOf u).toNat)
  case atStart =>
    refine ⟨n, [], Wire.zz v, 9, ?_, .inr ⟨A, rfl, by simpa using hrd, hA⟩, by omega, by omega, hz, rfl, Below.refl _ _⟩
    rfl
  case round =>
    obtain ⟨m, pre, q, f, rfl, hap, hf, hm, hq, HV, hbr⟩ := hrel
    obtain ⟨A1, c1, rfl, hc1, hn1⟩ := hap.form
    by_cases hlt : 128 ≤ q
    · have e1 := u8_or128 q
      obtain ⟨x, hx⟩ : ∃ x : UInt8, x.toNat = q % 128 + 128 := ⟨UInt8.ofNat (q % 128 + 128), by rw [UInt8.toNat_ofNat']; omega⟩
      rw [← hx] at e1
      have HX := Lib.hid hx
      clear hx
      have ht : decide ((128 : Int) ≤ (q : Int)) = true := by simp; omega
      have HLT := Lib.hid hlt
      clear hlt
      have hsz := hbr.size
      have hm1 : m + 1 ≤ 140737488355328 := by omega
      go_wp2_with (at_builtin; refine app_grow _ rfl (.tmp 21) (.tmp 25) rfl wc.heap.size _ m (l ++ pre) rfl (hap.alloc hsz _) _ ⟨wr.heap.size, 0, none⟩ 1 1 [x] rfl (reads_new wr [x] _ _ _ rfl 1 rfl) (Nat.le_refl _) hm1 (Nat.le_trans hsz (by simp)) ?_; intro A2 c2 w2 hO2 hb2)
      go_roundw
      case rel =>
        have hq' := hq.out
        have hl' := HLT.out
        obtain ⟨f', rfl⟩ : ∃ f', f = f' + 1 := by
          cases f with
          | zero => omega
          | succ f' => exact ⟨f', rfl⟩
        refine ⟨m + 1, pre ++ [x], q / 128, f', by go_num, .inl (by rw [← List.append_assoc]; exact hO2), by omega, by omega, ?_, ?_, (hbr.alloc hsz _).trans hb2⟩
        · show _ < _
          rw [Nat.pow_succ] at hq'
          omega
        · show _ = _
          rw [← HV.out, List.append_assoc]
          congr 1
          have hxe : x = UInt8.ofNat (q % 128 + 128) := UInt8.toNat_inj.1 (by rw [HX.out, UInt8.toNat_ofNat']; omega)
          conv => rhs; unfold Wire.var
          rw [if_neg (by omega), hxe]
          rfl
      case measure =>
        have hl' := HLT.out
        simp [intOf]; omega
    · have ht : decide ((128 : Int) ≤ (q : Int)) = false := by simp; omega
      have HLT := Lib.hid hlt
      clear hlt
      obtain ⟨x, hx⟩ : ∃ x : UInt8, x.toNat = q := ⟨UInt8.ofNat q, by have := HLT.out; rw [UInt8.toNat_ofNat']; omega⟩
      have e1 : (q : Int) % 256 = (x.toNat : Int) := by have := x.toNat_lt; omega
      have HX := Lib.hid hx
      clear hx
      have hsz := hbr.size
      have hm1 : m + 1 ≤ 140737488355328 := by omega
      go_wp2_with (at_builtin; refine app_grow _ rfl (.tmp 29) (.tmp 32) rfl wc.heap.size _ m (l ++ pre) rfl (hap.alloc hsz _) _ ⟨wr.heap.size, 0, none⟩ 1 1 [x] rfl (reads_new wr [x] _ _ _ rfl 1 rfl) (Nat.le_refl _) hm1 (Nat.le_trans hsz (by simp)) ?_; intro A2 c2 w2 hO2 hb2)
      go_ret
      refine ⟨A2, m + 1, c2, rfl, ?_, (hbr.alloc hsz _).trans hb2⟩
      rw [← HV.out, ← List.append_assoc]
      have hxe : Wire.var f q = [x] := by
        have hl' := HLT.out
        have hxe : x = UInt8.ofNat q := UInt8.toNat_inj.1 (by rw [HX.out, UInt8.toNat_ofNat']; omega)
        cases f with
        | zero => simp [Wire.var, hxe]
        | succ f => unfold Wire.var; rw [if_pos (by omega), hxe]
      rw [hxe]
      exact hO2

set_option maxHeartbeats 400000 in
theorem putBool_any (A : Option Addr) (n c : Nat) (l : List UInt8) (t : Bool) (w : World) (hn : n + 10 ≤ 140737488355328) (hnc : n ≤ c) (hrd : Reads w w.heap.size 1 A n (bv l)) :
    Calls Try.prog 105 #[.slice A n c, .bool t] w fun e w' => ∃ A' c', e = .returned (.slice A' (n + 1) c') ∧ Own w' w.heap.size (.slice A' (n + 1) c') (n + 1) (l ++ Wire.bool t) ∧ Below w.heap.size w w' := by
  have hA : A = none → n = 0 := hrd.none_zero
  have hs1 := fun w => slice_lhm w A n c hnc
  have hap : AppB w w.heap.size (.slice A n n) n l := .inr ⟨A, rfl, hrd, hA⟩
  have hm1 : n + 1 ≤ 140737488355328 := by omega
  cases t
  · go_enter Try.func105, Try.ntmps105
    go_wp2_with (at_builtin; refine app_grow _ rfl (.tmp 12) (.tmp 14) rfl w.heap.size _ n l rfl (hap.alloc (Nat.le_refl _) _) _ ⟨w.heap.size, 0, none⟩ 1 1 [0] rfl (reads_new w [0] _ _ _ rfl 1 rfl) (Nat.le_refl _) hm1 (by simp) ?_; intro A2 c2 w2 hO2 hb2)
    go_ret
    exact ⟨A2, c2, rfl, hO2, ((Below.refl _ _).alloc (Nat.le_refl _) _).trans hb2⟩
  · go_enter Try.func105, Try.ntmps105
    go_wp2_with (at_builtin; refine app_grow _ rfl (.tmp 12) (.tmp 14) rfl w.heap.size _ n l rfl (hap.alloc (Nat.le_refl _) _) _ ⟨w.heap.size, 0, none⟩ 1 1 [1] rfl (reads_new w [1] _ _ _ rfl 1 rfl) (Nat.le_refl _) hm1 (by simp) ?_; intro A2 c2 w2 hO2 hb2)
    go_ret
    exact ⟨A2, c2, rfl, hO2, ((Below.refl _ _).alloc (Nat.le_refl _) _).trans hb2⟩

set_option maxHeartbeats 400000 in
theorem putText_any (A : Option Addr) (n c : Nat) (l : List UInt8) (s : ByteArray) (w : World) (hn : n + 10 + s.size ≤ 140737488355328) (hnc : n ≤ c) (hrd : Reads w w.heap.size 1 A n (bv l)) :
    Calls Try.prog 106 #[.slice A n c, .string s] w fun e w' => ∃ A' m c', e = .returned (.slice A' m c') ∧ Own w' w.heap.size (.slice A' m c') m (l ++ Wire.text s.data.toList) ∧ Below w.heap.size w w' := by
  have hls : Hid (s.data.toList.length = s.size) := by show _ = _; rw [Array.length_toList]; rfl
  have hln := Lib.hid (Wire.int_len (s.size : Int))
  have hlr : Hid (l.length = n) := by have := hrd.1; rw [bv_length] at this; show _ = _; omega
  go_enter Try.func106, Try.ntmps106
  go_wp2_with fail
  refine (putInt_any _ _ _ l s.size _ (by omega) hnc (by omega) hrd).mono ?_
  rintro e w1 ⟨A1, m1, c1, rfl, hO1, hb1⟩
  have hm1 : m1 + s.size ≤ 140737488355328 := by
    have h1 := hO1.len
    have h2 := hln.out
    have h3 := hlr.out
    rw [List.length_append] at h1
    omega
  go_wp2_with (at_builtin; refine app_text _ rfl (.tmp 8) (.tmp 9) rfl w.heap.size _ m1 _ rfl hO1 s rfl hm1 hb1.size ?_; intro A2 c2 w2 hO2 hb2)
  go_ret
  refine ⟨A2, _, c2, rfl, ?_, hb1.trans hb2⟩
  unfold Wire.text
  rw [hls.out, ← List.append_assoc]
  exact hO2

end Go.Proofs.Ytebeidnmplnlpaa
end

section
namespace Go.Proofs.Ytebeidnmplnlpaa
set_option linter.unusedVariables false
open Go.RowKit

end Go.Proofs.Ytebeidnmplnlpaa
end

section
namespace Go.Proofs.Ytebeidnmplnlpaa
set_option linter.unusedVariables false
open Go.RowKit

/-- a Reader in block g: its bytes, its place, whether something was wrong -/
def Rdr (T : TypeId) (w : World) (g : Nat) (l : List UInt8) (p : Nat) (bad : Bool) : Prop :=
  ∃ A n c, Blk w g T #[.slice A n c, .int .i64 (p : Int), .bool bad] ∧ Reads w g 1 A n (bv l) ∧ n ≤ c ∧ n ≤ 4611686018427387904 ∧ p ≤ n
/-- .. told by what is left -/
def RS (T : TypeId) (w : World) (g : Nat) (s : Option (List UInt8)) : Prop :=
  ∃ l p bad, Rdr T w g l p bad ∧ s = if bad then none else some (l.drop p)
theorem Rdr.lt {T : TypeId} {w : World} {g : Nat} {l : List UInt8} {p : Nat} {bad : Bool} (h : Rdr T w g l p bad) : g < w.heap.size := by
  obtain ⟨_, _, _, h, _⟩ := h; exact h.lt
theorem RS.lt {T : TypeId} {w : World} {g : Nat} {s : Option (List UInt8)} (h : RS T w g s) : g < w.heap.size := by
  obtain ⟨_, _, _, h, _⟩ := h; exact h.lt
theorem RS.mk {T : TypeId} {w : World} {g : Nat} {l : List UInt8} {p : Nat} {A : Option Addr} {n c : Nat} {bad : Bool} (hb : Blk w g T #[.slice A n c, .int .i64 (p : Int), .bool bad]) (hr : Reads w g 1 A n (bv l)) (hnc : n ≤ c)
    (hc : n ≤ 4611686018427387904) (hp : p ≤ n) {s : Option (List UInt8)} (hs : s = if bad then none else some (l.drop p)) : RS T w g s := ⟨l, p, bad, ⟨A, n, c, hb, hr, hnc, hc, hp⟩, hs⟩
theorem RS.below {T : TypeId} {w w' : World} {g B : Nat} {s : Option (List UInt8)} (h : RS T w g s) (hb : Below B w w') (hg : g < B) : RS T w' g s := by
  obtain ⟨l, p, bad, ⟨A, n, c, h1, h2, h3⟩, h4⟩ := h
  exact ⟨l, p, bad, ⟨A, n, c, h1.below hb hg, h2.below (hb.mono (by omega)), h3⟩, h4⟩
theorem RS.other {T : TypeId} {w w' : World} {g k : Nat} {s : Option (List UInt8)} (h : RS T w g s) (hb : w.grownBy w' (some k)) (hg : g < k) : RS T w' g s := by
  have hlt := h.lt
  obtain ⟨l, p, bad, ⟨A, n, c, h1, h2, h3⟩, h4⟩ := h
  exact ⟨l, p, bad, ⟨A, n, c, h1.grown hb (fun e => by injection e with e; omega), h2.only hb (by omega) (by omega), h3⟩, h4⟩
theorem RS.drewN {T : TypeId} {w : World} {g : Nat} {s : Option (List UInt8)} (h : RS T w g s) (n : Nat) : RS T (w.drewN n) g s := by
  obtain ⟨l, p, bad, ⟨A, n', c, h1, h2, h3⟩, h4⟩ := h
  exact ⟨l, p, bad, ⟨A, n', c, h1.drewN n, h2.drewN n, h3⟩, h4⟩

theorem uz_go {s : Nat} (h : s < 18446744073709551616) :
    bits BinOp.xor IntKind.i64 (wrap64 ((s : Int) / 2)) (wrap64 (-wrap64 (bits BinOp.and IntKind.u64 (s : Int) 1))) = Wire.uz s := by
  rw [show (1 : Int) = ((1 : Nat) : Int) from rfl, u64_and_nat _ _ h (by omega), nat_mask1]
  have e1 : wrap64 ((s : Int) / 2) = ((s / 2 : Nat) : Int) := by rw [IntWalk.wrap64_in _ ⟨by omega, by omega⟩]; omega
  rw [e1]
  unfold Wire.uz
  by_cases h2 : s % 2 = 1
  · rw [if_pos h2, h2, show wrap64 (-wrap64 ((1 : Nat) : Int)) = -1 from by rw [IntWalk.wrap64_in ((1 : Nat) : Int) ⟨by decide, by decide⟩, IntWalk.wrap64_in _ ⟨by decide, by decide⟩]; rfl, i64_xor_neg _ (by omega)]
  · rw [if_neg h2, show s % 2 = 0 from by omega, show wrap64 (-wrap64 ((0 : Nat) : Int)) = 0 from by rw [IntWalk.wrap64_in ((0 : Nat) : Int) ⟨by decide, by decide⟩, IntWalk.wrap64_in _ ⟨by decide, by decide⟩]; rfl, i64_xor_zero _ (by omega)]

/-- what the loop's round reckons -/
structure IntStep (x : UInt8) (k q y z s : Nat) : Prop where
  e1 : bits BinOp.and IntKind.u8 (x.toNat : Int) 127 = (y : Int)
  e2 : IntKind.u64.wrap (IntKind.u64.wrap (y : Int) * 2 ^ (7 * k)) = (z : Int)
  e3 : bits BinOp.or IntKind.u64 (q : Int) (z : Int) = (s : Int)
theorem intStep (x : UInt8) (k q : Nat) (hk : k ≤ 9) (hq : q < 128 ^ k) (h9 : k = 9 → x.toNat ≤ 1) : ∃ y z s, IntStep x k q y z s ∧ s = q + 128 ^ k * (x.toNat % 128) ∧ s < 18446744073709551616 := by
  have hx := x.toNat_lt
  have hp : 2 ^ (7 * k) = 128 ^ k := by rw [Nat.pow_mul]
  have hz : x.toNat % 128 * 128 ^ k < 18446744073709551616 ∧ q + x.toNat % 128 * 128 ^ k < 18446744073709551616 := by
    rcases Nat.lt_or_ge k 9 with h | h
    · have h8 : 128 ^ k ≤ 128 ^ 8 := Nat.pow_le_pow_right (by omega) (by omega)
      have h7 : x.toNat % 128 * 128 ^ k ≤ 127 * 128 ^ 8 := Nat.mul_le_mul (by omega) h8
      omega
    · obtain rfl : k = 9 := by omega
      have := h9 rfl
      have h7 : x.toNat % 128 * 128 ^ 9 ≤ 1 * 128 ^ 9 := Nat.mul_le_mul (by omega) (Nat.le_refl _)
      omega
  refine ⟨x.toNat % 128, x.toNat % 128 * 128 ^ k, q + 128 ^ k * (x.toNat % 128), ⟨u8_and127 x, ?_, ?_⟩, rfl, by rw [Nat.mul_comm (128 ^ k)]; exact hz.2⟩
  · have e : ((x.toNat % 128 : Nat) : Int) * 2 ^ (7 * k) = ((x.toNat % 128 * 128 ^ k : Nat) : Int) := by rw [← hp]; simp
    rw [IntWalk.u64_in ((x.toNat % 128 : Nat) : Int) (by omega), e, IntWalk.u64_in _ (by omega)]
  · rw [Nat.mul_comm (128 ^ k)]
    exact u64_or_add (i := 7 * k) (by rw [hp]; exact hq) hz.1 (by rw [hp]; exact Nat.dvd_mul_left _ _) hz.2
end Go.Proofs.Ytebeidnmplnlpaa
end

section
namespace Go.Proofs.Ytebeidnmplnlpaa
set_option linter.unusedVariables false
open Go.RowKit

/-- the frame at the jump -/
def JumpFrame (g : Nat) (a : Act) : Prop := ∃ (u2 u3 u4 u5 u6 u7 u8 u9 u10 u11 u12 u13 u14 u15 u16 u17 u18 u19 u20 u21 u22 u23 u24 u25 u26 u27 u28 u29 u30 u31 u32 u33 u34 u35 u36 u37 u38 u39 u40 u41 u42 u43 u44 u45 u46 u47 u48 u49 u50 u51 u52 u53 u54 u55 u56 u57 u58 u59 u60 u61 u62 u63 u64 u65 u66 u67 u68 u69 u70 u71 u72 u73 u74 u75 u76 u77 u78 u79 u80 : Value), a = { tmps := #[.pointer (some ⟨g, 0, none⟩), undef, u2, u3, u4, u5, u6, u7, u8, u9, u10, u11, u12, u13, u14, u15, u16, u17, u18, u19, u20, u21, u22, u23, u24, u25, u26, u27, u28, u29, u30, u31, u32, u33, u34, u35, u36, u37, u38, u39, u40, u41, u42, u43, u44, u45, u46, u47, u48, u49, u50, u51, u52, u53, u54, u55, u56, u57, u58, u59, u60, u61, u62, u63, u64, u65, u66, u67, u68, u69, u70, u71, u72, u73, u74, u75, u76, u77, u78, u79, u80], defers := [] }

set_option maxRecDepth 100000 in
set_option maxHeartbeats 1000000 in
theorem rInt_ok (w : World) (g : Nat) (l : List UInt8) (a0 : Nat) (hr : Rdr 138 w g l a0 false) :
    Calls Try.prog 90 #[.pointer (some ⟨g, 0, none⟩)] w fun e w' =>
      e = .returned (.int .i64 (Wire.intS (some (l.drop a0))).1) ∧ RS 138 w' g (Wire.intS (some (l.drop a0))).2 ∧ w.grownBy w' (some g) := by
  obtain ⟨A, n, c, hb, hrd, hnc, hc, han⟩ := hr
  have hgl := hb.lt
  have hln : Hid (l.length = n) := by have := hrd.1; rw [bv_length] at this; show _ = _; omega
  go_enter Try.func90, Try.ntmps90
  go_wp2
  refine wp_scope_jumps 0 (fun a' w' => JumpFrame g a' ∧ Hid (Wire.intS (some (l.drop a0)) = (0, none)) ∧ (∃ (A' : Option Addr) (n' c' p' : Nat), Blk w' g 138 #[.slice A' n' c', .int .i64 (p' : Int), .bool false] ∧ Reads w' g 1 A' n' (bv l) ∧ n' ≤ c' ∧ n' ≤ 4611686018427387904 ∧ p' ≤ n') ∧ w.grownBy w' (some g)) (fun _ _ => 0) rfl ?_ ?_
  case refine_2 =>
    rintro a' w' ⟨⟨u2, u3, u4, u5, u6, u7, u8, u9, u10, u11, u12, u13, u14, u15, u16, u17, u18, u19, u20, u21, u22, u23, u24, u25, u26, u27, u28, u29, u30, u31, u32, u33, u34, u35, u36, u37, u38, u39, u40, u41, u42, u43, u44, u45, u46, u47, u48, u49, u50, u51, u52, u53, u54, u55, u56, u57, u58, u59, u60, u61, u62, u63, u64, u65, u66, u67, u68, u69, u70, u71, u72, u73, u74, u75, u76, u77, u78, u79, u80, rfl⟩, HI, ⟨A', n', c', p', hbj, hrj, hnj, hcj, hpj⟩, hgj⟩
    have h0 := hbj.cell 0
    have h1 := hbj.cell 1
    have h2 := hbj.cell 2
    have f2 := hbj.frozen 2
    have hbk : Blk (w'.setCell ⟨g, 2, none⟩ (.bool true)) g 138 #[.slice A' n' c', .int .i64 (p' : Int), .bool true] := hbj.set_ 2 (.bool true)
    have hgk : w.grownBy (w'.setCell ⟨g, 2, none⟩ (.bool true)) (some g) := only_setCell hgj (.inl rfl) _
    simp at h0 h1 h2
    go_wp2
    simp only [Exit.jump]
    go_ret
    rw [HI.out]
    exact ⟨rfl, RS.mk hbk (hrj.only (only_setCell (only_refl w' g) (.inl rfl) _) (Nat.le_of_lt hbj.lt) (Nat.le_refl _)) hnj hcj hpj rfl, hgk⟩
  go_wp2
  go_loopw [3, 4, 5] (fun u i _ wr => ∃ (k q p : Nat), u = .int .u64 (q : Int) ∧ i = .int .i64 (k : Int) ∧ k ≤ 9 ∧ Hid (q < 128 ^ k) ∧ Hid (p = a0 + k) ∧ p ≤ n ∧ Blk wr g 138 #[.slice A n c, .int .i64 (p : Int), .bool false] ∧
      Hid (Wire.dec 9 true (l.drop a0) = (Wire.dec (9 - k) (decide (k = 0)) (l.drop p)).map fun r => (q + 128 ^ k * r.1, r.2)) ∧ w.grownBy wr (some g)) (fun _ i _ _ => 9 - (intOf i).toNat)
  case atStart => exact ⟨0, 0, a0, rfl, rfl, by omega, by show _ < _; simp, rfl, han, hb, by show _ = _; simp, only_refl w g⟩
  case round =>
    obtain ⟨k, q, p, rfl, rfl, hk, hq, HP, hak, hbw, HD, hgr⟩ := hrel
    have h0 := hbw.cell 0
    have h1 := hbw.cell 1
    have h2 := hbw.cell 2
    have f1 := hbw.frozen 1
    have f2 := hbw.frozen 2
    have hszr := hgr.size
    simp at h0 h1 h2
    have t1 : decide ((k : Int) < 10) = true := by simp; omega
    by_cases hlt : p < n
    · obtain ⟨ad, u, hAd, _, hx, hcx⟩ := (hrd.only hgr (by omega) (Nat.le_refl _)).at_ hlt
      obtain ⟨x, hx', rfl⟩ := bv_at hx
      subst hAd
      have hcw : wr.cell? (ad.add p) = some (.int .u8 (x.toNat : Int)) := hcx
      have hld : l.drop p = x :: l.drop (p + 1) := by
        have e := List.drop_eq_getElem_cons (l := l) (i := p) (by have := hln.out; omega)
        rw [e]
        congr 1
        have := List.getElem?_eq_some_iff.1 hx'
        exact this.2
      have HL := Lib.hid hld
      clear hx' hx hcx hld
      have hways : (k = 9 ∧ 1 < x.toNat) ∨ (k = 9 ∧ x.toNat = 0) ∨ (k < 9 ∧ 0 < k ∧ x.toNat = 0) ∨ (k = 9 ∧ x.toNat = 1) ∨ (k < 9 ∧ 0 < k ∧ 0 < x.toNat ∧ x.toNat < 128) ∨ (k = 0 ∧ x.toNat < 128) ∨ (k < 9 ∧ 0 < k ∧ 128 ≤ x.toNat) ∨ (k = 0 ∧ 128 ≤ x.toNat) := by have := x.toNat_lt; omega
      have hbq : ∀ N, Blk ((wr.drewN N).setCell ⟨g, 1, none⟩ (.int .i64 ((p : Int) + 1))) g 138 #[.slice (some ad) n c, .int .i64 ((p + 1 : Nat) : Int), .bool false] := fun N => (hbw.drewN N).set_ 1 (.int .i64 ((p : Int) + 1))
      have hgq : ∀ N, w.grownBy ((wr.drewN N).setCell ⟨g, 1, none⟩ (.int .i64 ((p : Int) + 1))) (some g) := fun N => only_setCell (only_drewN hgr N) (.inl rfl) _
      rcases hways with hway | hway | hway | hway | hway | hway | hway | hway
      · have HW := Lib.hid hway
        have t9 : ((k : Int) == 9) = true := by rw [beq_iff_eq]; omega
        have u1 : decide ((1 : Int) < (x.toNat : Int)) = true := by simp; omega
        clear hway
        go_wp2
        go_quiet (fail)
        go_wp2
        go_quiet (fail)
        go_wp2
        go_step3
        have hde : Wire.intS (some (l.drop a0)) = (0, none) := by
          have hw := HW.out
          apply Wire.intS_none
          rw [HD.out, HL.out, Wire.dec_stop (by simp; omega)]
          rfl
        refine ⟨rfl, ?_, hde, ⟨some ad, n, c, p + 1, hbq _, hrd.only (hgq _) (by omega) (Nat.le_refl _), hnc, hc, by omega⟩, hgq _⟩
        unfold JumpFrame
        repeat apply Exists.intro
        rfl
      · have HW := Lib.hid hway
        have t9 : ((k : Int) == 9) = true := by rw [beq_iff_eq]; omega
        have u1 : decide ((1 : Int) < (x.toNat : Int)) = false := by simp; omega
        have u0 : decide ((0 : Int) < (k : Int)) = true := by simp; omega
        have u0' : decide (0 < k) = true := by simp; omega
        have uz : ((x.toNat : Int) == 0) = true := by rw [beq_iff_eq]; omega
        clear hway
        go_wp2
        go_quiet (fail)
        go_wp2
        go_quiet (fail)
        go_wp2
        go_step3
        have hde : Wire.intS (some (l.drop a0)) = (0, none) := by
          have hw := HW.out
          apply Wire.intS_none
          rw [HD.out, HL.out, Wire.dec_stop (by simp; omega)]
          rfl
        refine ⟨rfl, ?_, hde, ⟨some ad, n, c, p + 1, hbq _, hrd.only (hgq _) (by omega) (Nat.le_refl _), hnc, hc, by omega⟩, hgq _⟩
        unfold JumpFrame
        repeat apply Exists.intro
        rfl
      · have HW := Lib.hid hway
        have t9 : ((k : Int) == 9) = false := by rw [beq_eq_false_iff_ne]; omega
        have u0 : decide ((0 : Int) < (k : Int)) = true := by simp; omega
        have u0' : decide (0 < k) = true := by simp; omega
        have uz : ((x.toNat : Int) == 0) = true := by rw [beq_iff_eq]; omega
        clear hway
        go_wp2
        go_quiet (fail)
        go_wp2
        go_quiet (fail)
        go_wp2
        go_step3
        have hde : Wire.intS (some (l.drop a0)) = (0, none) := by
          have hw := HW.out
          apply Wire.intS_none
          rw [HD.out, HL.out, Wire.dec_stop (by simp; omega)]
          rfl
        refine ⟨rfl, ?_, hde, ⟨some ad, n, c, p + 1, hbq _, hrd.only (hgq _) (by omega) (Nat.le_refl _), hnc, hc, by omega⟩, hgq _⟩
        unfold JumpFrame
        repeat apply Exists.intro
        rfl
      · have HW := Lib.hid hway
        have t9 : ((k : Int) == 9) = true := by rw [beq_iff_eq]; omega
        have u1 : decide ((1 : Int) < (x.toNat : Int)) = false := by simp; omega
        have u0 : decide ((0 : Int) < (k : Int)) = true := by simp; omega
        have u0' : decide (0 < k) = true := by simp; omega
        have uz : ((x.toNat : Int) == 0) = false := by rw [beq_eq_false_iff_ne]; omega
        have u8 : decide ((x.toNat : Int) < 128) = true := by simp; omega
        obtain ⟨y, z, s, hst, hse, hs64⟩ := intStep x k q hk hq.out (by omega)
        obtain ⟨e1, e2, e3⟩ := hst
        have HSE := Lib.hid hse
        have HS := Lib.hid hs64
        clear hse hs64
        clear hway
        go_wp2
        go_quiet (fail)
        go_wp2
        go_quiet (fail)
        go_wp2
        rw [uz_go HS.out]
        simp only [Exit.jump]
        go_ret
        have hde : Wire.intS (some (l.drop a0)) = (Wire.uz s, some (l.drop (p + 1))) := by
          have hw := HW.out
          apply Wire.intS_some
          rw [HD.out, HL.out, Wire.dec_end (by omega) (by simp; omega) (by omega), HSE.out, Nat.mod_eq_of_lt (by omega)]
          rfl
        rw [hde]
        exact ⟨rfl, RS.mk (p := p + 1) (hbq _) (hrd.only (hgq _) (by omega) (Nat.le_refl _)) hnc hc (by omega) rfl, hgq _⟩
      · have HW := Lib.hid hway
        have t9 : ((k : Int) == 9) = false := by rw [beq_eq_false_iff_ne]; omega
        have u0 : decide ((0 : Int) < (k : Int)) = true := by simp; omega
        have u0' : decide (0 < k) = true := by simp; omega
        have uz : ((x.toNat : Int) == 0) = false := by rw [beq_eq_false_iff_ne]; omega
        have u8 : decide ((x.toNat : Int) < 128) = true := by simp; omega
        obtain ⟨y, z, s, hst, hse, hs64⟩ := intStep x k q hk hq.out (by omega)
        obtain ⟨e1, e2, e3⟩ := hst
        have HSE := Lib.hid hse
        have HS := Lib.hid hs64
        clear hse hs64
        clear hway
        go_wp2
        go_quiet (fail)
        go_wp2
        go_quiet (fail)
        go_wp2
        rw [uz_go HS.out]
        simp only [Exit.jump]
        go_ret
        have hde : Wire.intS (some (l.drop a0)) = (Wire.uz s, some (l.drop (p + 1))) := by
          have hw := HW.out
          apply Wire.intS_some
          rw [HD.out, HL.out, Wire.dec_end (by omega) (by simp; omega) (by omega), HSE.out, Nat.mod_eq_of_lt (by omega)]
          rfl
        rw [hde]
        exact ⟨rfl, RS.mk (p := p + 1) (hbq _) (hrd.only (hgq _) (by omega) (Nat.le_refl _)) hnc hc (by omega) rfl, hgq _⟩
      · have HW := Lib.hid hway
        have t9 : ((k : Int) == 9) = false := by rw [beq_eq_false_iff_ne]; omega
        have u0 : decide ((0 : Int) < (k : Int)) = false := by simp; omega
        have u0' : decide (0 < k) = false := by simp; omega
        have u8 : decide ((x.toNat : Int) < 128) = true := by simp; omega
        obtain ⟨y, z, s, hst, hse, hs64⟩ := intStep x k q hk hq.out (by omega)
        obtain ⟨e1, e2, e3⟩ := hst
        have HSE := Lib.hid hse
        have HS := Lib.hid hs64
        clear hse hs64
        clear hway
        go_wp2
        go_quiet (fail)
        go_wp2
        go_quiet (fail)
        go_wp2
        rw [uz_go HS.out]
        simp only [Exit.jump]
        go_ret
        have hde : Wire.intS (some (l.drop a0)) = (Wire.uz s, some (l.drop (p + 1))) := by
          have hw := HW.out
          apply Wire.intS_some
          rw [HD.out, HL.out, Wire.dec_end (by omega) (by simp; omega) (by omega), HSE.out, Nat.mod_eq_of_lt (by omega)]
          rfl
        rw [hde]
        exact ⟨rfl, RS.mk (p := p + 1) (hbq _) (hrd.only (hgq _) (by omega) (Nat.le_refl _)) hnc hc (by omega) rfl, hgq _⟩
      · have HW := Lib.hid hway
        have t9 : ((k : Int) == 9) = false := by rw [beq_eq_false_iff_ne]; omega
        have u0 : decide ((0 : Int) < (k : Int)) = true := by simp; omega
        have u0' : decide (0 < k) = true := by simp; omega
        have uz : ((x.toNat : Int) == 0) = false := by rw [beq_eq_false_iff_ne]; omega
        have u8 : decide ((x.toNat : Int) < 128) = false := by simp; omega
        obtain ⟨y, z, s, hst, hse, hs64⟩ := intStep x k q hk hq.out (by omega)
        obtain ⟨e1, e2, e3⟩ := hst
        have HSE := Lib.hid hse
        have HS := Lib.hid hs64
        clear hse hs64
        clear hway
        go_wp2
        go_quiet (fail)
        go_wp2
        go_quiet (fail)
        go_wp2
        go_roundw
        case rel =>
          have hw := HW.out
          have hs := HSE.out
          have hq' := hq.out
          have hp' := HP.out
          have hxm : x.toNat % 128 = x.toNat - 128 := by have := x.toNat_lt; omega
          refine ⟨k + 1, s, p + 1, rfl, by go_num, by omega, ?_, ?_, by omega, hbq _, ?_, hgq _⟩
          · show s < 128 ^ (k + 1)
            have h7 : 128 ^ k * (x.toNat % 128) ≤ 128 ^ k * 127 := Nat.mul_le_mul (Nat.le_refl _) (by omega)
            rw [Nat.pow_succ]
            omega
          · show p + 1 = a0 + (k + 1)
            omega
          · show _ = _
            rw [HD.out, HL.out, show 9 - k = (9 - (k + 1)) + 1 from by omega, Wire.dec_more (by omega), Option.map_map, decide_eq_false (by omega)]
            congr 1
            funext r
            simp only [Function.comp_apply, Prod.mk.injEq, and_true]
            rw [hs, hxm, Nat.pow_succ, Nat.mul_add, ← Nat.mul_assoc, Nat.add_assoc]
        case measure =>
          have hw := HW.out
          simp [intOf]; omega
      · have HW := Lib.hid hway
        have t9 : ((k : Int) == 9) = false := by rw [beq_eq_false_iff_ne]; omega
        have u0 : decide ((0 : Int) < (k : Int)) = false := by simp; omega
        have u0' : decide (0 < k) = false := by simp; omega
        have u8 : decide ((x.toNat : Int) < 128) = false := by simp; omega
        obtain ⟨y, z, s, hst, hse, hs64⟩ := intStep x k q hk hq.out (by omega)
        obtain ⟨e1, e2, e3⟩ := hst
        have HSE := Lib.hid hse
        have HS := Lib.hid hs64
        clear hse hs64
        clear hway
        go_wp2
        go_quiet (fail)
        go_wp2
        go_quiet (fail)
        go_wp2
        go_roundw
        case rel =>
          have hw := HW.out
          have hs := HSE.out
          have hq' := hq.out
          have hp' := HP.out
          have hxm : x.toNat % 128 = x.toNat - 128 := by have := x.toNat_lt; omega
          refine ⟨k + 1, s, p + 1, rfl, by go_num, by omega, ?_, ?_, by omega, hbq _, ?_, hgq _⟩
          · show s < 128 ^ (k + 1)
            have h7 : 128 ^ k * (x.toNat % 128) ≤ 128 ^ k * 127 := Nat.mul_le_mul (Nat.le_refl _) (by omega)
            rw [Nat.pow_succ]
            omega
          · show p + 1 = a0 + (k + 1)
            omega
          · show _ = _
            rw [HD.out, HL.out, show 9 - k = (9 - (k + 1)) + 1 from by omega, Wire.dec_more (by omega), Option.map_map, decide_eq_false (by omega)]
            congr 1
            funext r
            simp only [Function.comp_apply, Prod.mk.injEq, and_true]
            rw [hs, hxm, Nat.pow_succ, Nat.mul_add, ← Nat.mul_assoc, Nat.add_assoc]
        case measure =>
          have hw := HW.out
          simp [intOf]; omega
    · have hdn : l.drop p = [] := List.drop_eq_nil_of_le (by have := hln.out; omega)
      have HI : Hid (Wire.intS (some (l.drop a0)) = (0, none)) := by
        apply Wire.intS_none
        rw [HD.out, hdn]
        cases h : 9 - k <;> rfl
      have t2 : decide ((p : Int) < (n : Int)) = false := by simp; omega
      have t2' : decide (p < n) = false := by simp; omega
      clear hdn
      have hbk : ∀ N, Blk ((wr.drewN N).setCell ⟨g, 2, none⟩ (.bool true)) g 138 #[.slice A n c, .int .i64 (p : Int), .bool true] := fun N => (hbw.drewN N).set_ 2 (.bool true)
      have hgk : ∀ N, w.grownBy ((wr.drewN N).setCell ⟨g, 2, none⟩ (.bool true)) (some g) := fun N => only_setCell (only_drewN hgr N) (.inl rfl) _
      go_wp2
      go_quiet (fail)
      go_wp2
      go_step3
      go_wp2
      simp only [Exit.jump]
      go_ret
      rw [HI.out]
      exact ⟨rfl, RS.mk (hbk _) (hrd.only (hgk _) (by omega) (Nat.le_refl _)) hnc hc hak rfl, hgk _⟩

set_option maxRecDepth 100000 in
set_option maxHeartbeats 400000 in
theorem rInt_bad (w : World) (g : Nat) (l : List UInt8) (a0 : Nat) (hr : Rdr 138 w g l a0 true) :
    Calls Try.prog 90 #[.pointer (some ⟨g, 0, none⟩)] w fun e w' =>
      e = .returned (.int .i64 0) ∧ RS 138 w' g none ∧ w.grownBy w' (some g) := by
  obtain ⟨A, n, c, hb, hrd, hnc, hc, han⟩ := hr
  have h0 := hb.cell 0
  have h1 := hb.cell 1
  have h2 := hb.cell 2
  have f2 := hb.frozen 2
  have hgl := hb.lt
  simp at h0 h1 h2
  have hbk : ∀ N, Blk ((w.drewN N).setCell ⟨g, 2, none⟩ (.bool true)) g 138 #[.slice A n c, .int .i64 (a0 : Int), .bool true] := fun N => (hb.drewN N).set_ 2 (.bool true)
  have hgk : ∀ N, w.grownBy ((w.drewN N).setCell ⟨g, 2, none⟩ (.bool true)) (some g) := fun N => only_setCell (only_drewN (only_refl w g) N) (.inl rfl) _
  go_enter Try.func90, Try.ntmps90
  go_wp2
  go_step3
  go_wp2
  refine wp_loop_rounds 1 ?_
  rw [rounds_succ]
  go_wp2
  go_quiet (fail)
  go_wp2
  go_step3
  go_wp2
  rw [Exit.noGoto_ret]
  go_ret
  exact ⟨rfl, RS.mk (hbk _) (hrd.only (hgk _) (by omega) (Nat.le_refl _)) hnc hc han rfl, hgk _⟩

theorem rInt_any (w : World) (g : Nat) (s : Option (List UInt8)) (hr : RS 138 w g s) :
    Calls Try.prog 90 #[.pointer (some ⟨g, 0, none⟩)] w fun e w' =>
      e = .returned (.int .i64 (Wire.intS s).1) ∧ RS 138 w' g (Wire.intS s).2 ∧ w.grownBy w' (some g) := by
  obtain ⟨l, p, bad, h, rfl⟩ := hr
  cases bad
  · exact rInt_ok w g l p h
  · exact rInt_bad w g l p h
end Go.Proofs.Ytebeidnmplnlpaa
end

section
namespace Go.Proofs.Ytebeidnmplnlpaa
set_option linter.unusedVariables false
open Go.RowKit

set_option maxHeartbeats 400000 in
theorem rLeft_any (w : World) (g : Nat) (s : Option (List UInt8)) (hr : RS 138 w g s) :
    Calls Try.prog 137 #[.pointer (some ⟨g, 0, none⟩)] w fun e w' => e = .returned (.int .i64 (Wire.leftS s : Nat)) ∧ ∃ N, w' = w.drewN N := by
  obtain ⟨l, p, bad, ⟨A, n, c, hb, hrd, hnc, hc, hp⟩, rfl⟩ := hr
  have h0 := hb.cell 0
  have h1 := hb.cell 1
  have h2 := hb.cell 2
  have f1 := hb.frozen 1
  have f2 := hb.frozen 2
  have hgl := hb.lt
  have hln : Hid (l.length = n) := by have := hrd.1; rw [bv_length] at this; show _ = _; omega
  simp at h0 h1 h2
  cases bad
  · have hlf : Wire.leftS (some (l.drop p)) = n - p := by have := hln.out; simp [Wire.leftS]; omega
    have HLF := Lib.hid hlf
    clear hlf
    go_enter Try.func137, Try.ntmps137
    go_wp2
    go_quiet (fail)
    go_wp2
    go_ret
    refine ⟨?_, _, rfl⟩
    show _ = Ending.returned (.int .i64 (Wire.leftS (some (l.drop p)) : Nat))
    rw [HLF.out]
    exact ret_i64 (by omega)
  · 
    go_enter Try.func137, Try.ntmps137
    go_wp2
    go_ret
    exact ⟨rfl, 0, rfl⟩

set_option maxHeartbeats 400000 in
theorem rEnd_any (w : World) (g : Nat) (s : Option (List UInt8)) (hr : RS 138 w g s) :
    Calls Try.prog 91 #[.pointer (some ⟨g, 0, none⟩)] w fun e w' => e = .returned (.bool (Wire.endS s)) ∧ ∃ N, w' = w.drewN N := by
  obtain ⟨l, p, bad, ⟨A, n, c, hb, hrd, hnc, hc, hp⟩, rfl⟩ := hr
  have h0 := hb.cell 0
  have h1 := hb.cell 1
  have h2 := hb.cell 2
  have f1 := hb.frozen 1
  have f2 := hb.frozen 2
  have hgl := hb.lt
  have hln : Hid (l.length = n) := by have := hrd.1; rw [bv_length] at this; show _ = _; omega
  simp at h0 h1 h2
  cases bad
  · have hlf : (((p : Int)) == (n : Int)) = Wire.endS (some (l.drop p)) := by
      have := hln.out
      unfold Wire.endS
      rw [Bool.eq_iff_iff, beq_iff_eq]
      simp
      omega
    have HLF := Lib.hid hlf
    clear hlf
    go_enter Try.func91, Try.ntmps91
    go_wp2
    go_quiet (fail)
    go_wp2
    go_ret
    refine ⟨?_, _, rfl⟩
    show _ = Ending.returned (.bool (Wire.endS (some (l.drop p))))
    rw [← HLF.out]
    rfl
  · 
    go_enter Try.func91, Try.ntmps91
    go_wp2
    go_quiet (fail)
    go_wp2
    go_ret
    exact ⟨rfl, _, rfl⟩

set_option maxRecDepth 100000 in
set_option maxHeartbeats 400000 in
theorem rBool_any (w : World) (g : Nat) (s : Option (List UInt8)) (hr : RS 138 w g s) :
    Calls Try.prog 125 #[.pointer (some ⟨g, 0, none⟩)] w fun e w' => e = .returned (.bool (Wire.boolS s).1) ∧ RS 138 w' g (Wire.boolS s).2 ∧ w.grownBy w' (some g) := by
  obtain ⟨l, p, bad, ⟨A, n, c, hb, hrd, hnc, hc, hp⟩, rfl⟩ := hr
  have h0 := hb.cell 0
  have h1 := hb.cell 1
  have h2 := hb.cell 2
  have f1 := hb.frozen 1
  have f2 := hb.frozen 2
  have hgl := hb.lt
  have hln : Hid (l.length = n) := by have := hrd.1; rw [bv_length] at this; show _ = _; omega
  simp at h0 h1 h2
  have hbk : ∀ N, Blk ((w.drewN N).setCell ⟨g, 2, none⟩ (.bool true)) g 138 #[.slice A n c, .int .i64 (p : Int), .bool true] := fun N => (hb.drewN N).set_ 2 (.bool true)
  have hgk : ∀ N, w.grownBy ((w.drewN N).setCell ⟨g, 2, none⟩ (.bool true)) (some g) := fun N => only_setCell (only_drewN (only_refl w g) N) (.inl rfl) _
  have hbad : ∀ N, RS 138 ((w.drewN N).setCell ⟨g, 2, none⟩ (.bool true)) g none := fun N => RS.mk (hbk N) (hrd.only (hgk N) (by omega) (Nat.le_refl _)) hnc hc hp rfl
  clear hbk
  cases bad
  · by_cases hlt : p < n
    · obtain ⟨ad, u, hAd, _, hx, hcx⟩ := hrd.at_ hlt
      obtain ⟨x, hx', rfl⟩ := bv_at hx
      subst hAd
      have hld : l.drop p = x :: l.drop (p + 1) := by
        rw [List.drop_eq_getElem_cons (l := l) (i := p) (by have := hln.out; omega)]
        congr 1
        exact (List.getElem?_eq_some_iff.1 hx').2
      have t1 : decide ((n : Int) ≤ (p : Int)) = false := by simp; omega
      by_cases hx1 : x.toNat ≤ 1
      · have hs : Wire.boolS (some (l.drop p)) = (decide (x.toNat = 1), some (l.drop (p + 1))) := by rw [hld]; simp [Wire.boolS]; omega
        have HS := Lib.hid hs
        have t2 : decide ((1 : Int) < (x.toNat : Int)) = false := by simp; omega
        have t3 : (((x.toNat : Int)) == 1) = decide (x.toNat = 1) := by rw [Bool.eq_iff_iff, beq_iff_eq, decide_eq_true_iff]; omega
        generalize decide (x.toNat = 1) = bx at t3 HS
        clear hs hld hx' hx hx1 hbad hgk
        have hbj : ∀ N, Blk ((w.drewN N).setCell ⟨g, 1, none⟩ (.int .i64 ((p : Int) + 1))) g 138 #[.slice (some ad) n c, .int .i64 ((p + 1 : Nat) : Int), .bool false] := fun N => (hb.drewN N).set_ 1 (.int .i64 ((p : Int) + 1))
        have hgj : ∀ N, w.grownBy ((w.drewN N).setCell ⟨g, 1, none⟩ (.int .i64 ((p : Int) + 1))) (some g) := fun N => only_setCell (only_drewN (only_refl w g) N) (.inl rfl) _
        have hrj : ∀ N, RS 138 ((w.drewN N).setCell ⟨g, 1, none⟩ (.int .i64 ((p : Int) + 1))) g (some (l.drop (p + 1))) := fun N => RS.mk (p := p + 1) (hbj N) (hrd.only (hgj N) (by omega) (Nat.le_refl _)) hnc hc (by omega) rfl
        clear hbj
        have hc' : ∀ N v, ((w.drewN N).setCell ⟨g, 1, none⟩ v).cell? (ad.add p) = some (.int .u8 (x.toNat : Int)) := fun N v => by
          rw [World.cell?_setCell_other _ _ _ _ (fun e => by have := congrArg Addr.block e; rw [block_of_add] at this; simp at this; omega)]; exact hcx
        go_enter Try.func125, Try.ntmps125
        go_wp2
        go_quiet (fail)
        go_wp2
        go_quiet (fail)
        go_wp2
        go_ret
        show _ = Ending.returned (.bool (Wire.boolS (some (l.drop p))).1) ∧ RS 138 _ g (Wire.boolS (some (l.drop p))).2 ∧ _
        rw [HS.out]
        exact ⟨rfl, (hrj _).drewN _, only_drewN (hgj _) _⟩
      · have hs : Wire.boolS (some (l.drop p)) = (false, none) := by rw [hld]; simp [Wire.boolS]; omega
        have HS := Lib.hid hs
        have t2 : decide ((1 : Int) < (x.toNat : Int)) = true := by simp; omega
        clear hs hld hx' hx hx1
        go_enter Try.func125, Try.ntmps125
        go_wp2
        go_quiet (fail)
        go_wp2
        go_ret
        show _ = Ending.returned (.bool (Wire.boolS (some (l.drop p))).1) ∧ RS 138 _ g (Wire.boolS (some (l.drop p))).2 ∧ _
        rw [HS.out]
        exact ⟨rfl, hbad _, hgk _⟩
    · have hs : Wire.boolS (some (l.drop p)) = (false, none) := by rw [List.drop_eq_nil_of_le (by have := hln.out; omega)]; rfl
      have HS := Lib.hid hs
      have t1 : decide ((n : Int) ≤ (p : Int)) = true := by simp; omega
      clear hs
      go_enter Try.func125, Try.ntmps125
      go_wp2
      go_quiet (fail)
      go_wp2
      go_ret
      show _ = Ending.returned (.bool (Wire.boolS (some (l.drop p))).1) ∧ RS 138 _ g (Wire.boolS (some (l.drop p))).2 ∧ _
      rw [HS.out]
      exact ⟨rfl, hbad _, hgk _⟩
  · 
    go_enter Try.func125, Try.ntmps125
    go_wp2
    go_quiet (fail)
    go_wp2
    go_ret
    exact ⟨rfl, hbad _, hgk _⟩

end Go.Proofs.Ytebeidnmplnlpaa
end

section
namespace Go.Proofs.Ytebeidnmplnlpaa
set_option linter.unusedVariables false
open Go.RowKit

end Go.Proofs.Ytebeidnmplnlpaa
end

section
namespace Go.Proofs.Ytebeidnmplnlpaa
set_option linter.unusedVariables false
open Go.RowKit

theorem RS.split {T : TypeId} {w : World} {g : Nat} {s : Option (List UInt8)} (h : RS T w g s) :
    ∃ (l : List UInt8) (p : Nat) (A : Option Addr) (n c : Nat), Blk w g T #[.slice A n c, .int .i64 (p : Int), .bool (s == none)] ∧ Reads w g 1 A n (bv l) ∧ n ≤ c ∧ n ≤ 4611686018427387904 ∧ p ≤ n ∧ l.length = n ∧ (∀ r, s = some r → r = l.drop p) := by
  obtain ⟨l, p, bad, ⟨A, n, c, hb, hrd, hnc, hc, hp⟩, rfl⟩ := h
  have hln : l.length = n := by have := hrd.1; rw [bv_length] at this; omega
  cases bad
  · exact ⟨l, p, A, n, c, hb, hrd, hnc, hc, hp, hln, fun r hr => by simp at hr; exact hr.symm⟩
  · exact ⟨l, p, A, n, c, hb, hrd, hnc, hc, hp, hln, fun r hr => by simp at hr⟩

set_option maxHeartbeats 800000 in
theorem rCount_any (w : World) (g : Nat) (s : Option (List UInt8)) (most : Int) (hr : RS 138 w g s) :
    Calls Try.prog 135 #[.pointer (some ⟨g, 0, none⟩), .int .i64 most] w fun e w' => e = .returned (.int .i64 (Wire.countS most s).1) ∧ RS 138 w' g (Wire.countS most s).2 ∧ w.grownBy w' (some g) := by
  obtain ⟨v, s', hI⟩ : ∃ v s', Wire.intS s = (v, s') := ⟨_, _, rfl⟩
  have HI := Lib.hid hI
  cases s' with
  | none =>
    have hcs : Wire.countS most s = (0, none) := by unfold Wire.countS; rw [hI]
    clear hI
    have HC := Lib.hid hcs
    clear hcs
    go_enter Try.func135, Try.ntmps135
    go_wp2_with fail
    refine (rInt_any w g s hr).mono ?_
    rintro e w1 ⟨rfl, hr1, hg1⟩
    rw [HI.out] at hr1 ⊢
    obtain ⟨l, p, A, n, c, hb, hrd, hnc, hc, hp, hln, hsr⟩ := hr1.split
    have hsl := hr1.lt
    have h0 := hb.cell 0
    have h1 := hb.cell 1
    have h2 := hb.cell 2
    have f2 := hb.frozen 2
    simp at h0 h1 h2
    have hbk : ∀ N, Blk ((w1.drewN N).setCell ⟨g, 2, none⟩ (.bool true)) g 138 #[.slice A n c, .int .i64 (p : Int), .bool true] := fun N => (hb.drewN N).set_ 2 (.bool true)
    have hgk : ∀ N, w1.grownBy ((w1.drewN N).setCell ⟨g, 2, none⟩ (.bool true)) (some g) := fun N => only_setCell (only_drewN (only_refl w1 g) N) (.inl rfl) _
    have hbad : ∀ N, RS 138 ((w1.drewN N).setCell ⟨g, 2, none⟩ (.bool true)) g none := fun N => RS.mk (hbk N) (hrd.only (hgk N) (by omega) (Nat.le_refl _)) hnc hc hp rfl
    clear hbk hln hsr hb hrd
    go_wp2
    go_ret
    rw [HC.out]
    exact ⟨rfl, hbad 0, only_trans hg1 (hgk 0)⟩
  | some r =>
    by_cases hv0 : v < 0
    · have hcs : Wire.countS most s = (0, none) := by unfold Wire.countS; rw [hI]; simp [hv0]
      clear hI
      have t0 : decide (v < 0) = true := by simpa using hv0
      have HC := Lib.hid hcs
      clear hcs
      go_enter Try.func135, Try.ntmps135
      go_wp2_with fail
      refine (rInt_any w g s hr).mono ?_
      rintro e w1 ⟨rfl, hr1, hg1⟩
      rw [HI.out] at hr1 ⊢
      obtain ⟨l, p, A, n, c, hb, hrd, hnc, hc, hp, hln, hsr⟩ := hr1.split
      have hsl := hr1.lt
      have h0 := hb.cell 0
      have h1 := hb.cell 1
      have h2 := hb.cell 2
      have f2 := hb.frozen 2
      simp at h0 h1 h2
      have hbk : ∀ N, Blk ((w1.drewN N).setCell ⟨g, 2, none⟩ (.bool true)) g 138 #[.slice A n c, .int .i64 (p : Int), .bool true] := fun N => (hb.drewN N).set_ 2 (.bool true)
      have hgk : ∀ N, w1.grownBy ((w1.drewN N).setCell ⟨g, 2, none⟩ (.bool true)) (some g) := fun N => only_setCell (only_drewN (only_refl w1 g) N) (.inl rfl) _
      have hbad : ∀ N, RS 138 ((w1.drewN N).setCell ⟨g, 2, none⟩ (.bool true)) g none := fun N => RS.mk (hbk N) (hrd.only (hgk N) (by omega) (Nat.le_refl _)) hnc hc hp rfl
      clear hbk hln hsr hb hrd
      go_wp2
      go_ret
      rw [HC.out]
      exact ⟨rfl, hbad 0, only_trans hg1 (hgk 0)⟩
    · have t0 : decide (v < 0) = false := by simpa using hv0
      by_cases hvm : most < v
      · have hcs : Wire.countS most s = (0, none) := by unfold Wire.countS; rw [hI]; simp [hvm]
        clear hI
        have t1 : decide (most < v) = true := by simpa using hvm
        have HC := Lib.hid hcs
        clear hcs
        go_enter Try.func135, Try.ntmps135
        go_wp2_with fail
        refine (rInt_any w g s hr).mono ?_
        rintro e w1 ⟨rfl, hr1, hg1⟩
        rw [HI.out] at hr1 ⊢
        obtain ⟨l, p, A, n, c, hb, hrd, hnc, hc, hp, hln, hsr⟩ := hr1.split
        have hsl := hr1.lt
        have h0 := hb.cell 0
        have h1 := hb.cell 1
        have h2 := hb.cell 2
        have f2 := hb.frozen 2
        simp at h0 h1 h2
        have hbk : ∀ N, Blk ((w1.drewN N).setCell ⟨g, 2, none⟩ (.bool true)) g 138 #[.slice A n c, .int .i64 (p : Int), .bool true] := fun N => (hb.drewN N).set_ 2 (.bool true)
        have hgk : ∀ N, w1.grownBy ((w1.drewN N).setCell ⟨g, 2, none⟩ (.bool true)) (some g) := fun N => only_setCell (only_drewN (only_refl w1 g) N) (.inl rfl) _
        have hbad : ∀ N, RS 138 ((w1.drewN N).setCell ⟨g, 2, none⟩ (.bool true)) g none := fun N => RS.mk (hbk N) (hrd.only (hgk N) (by omega) (Nat.le_refl _)) hnc hc hp rfl
        clear hbk hln hsr hb hrd
        go_wp2
        go_ret
        rw [HC.out]
        exact ⟨rfl, hbad 0, only_trans hg1 (hgk 0)⟩
      · have t1 : decide (most < v) = false := by simpa using hvm
        by_cases hvl : (r.length : Int) < v
        · have hcs : Wire.countS most s = (0, none) := by unfold Wire.countS; rw [hI]; simp [hvl]
          clear hI
          have t2 : decide ((Wire.leftS (some r) : Int) < v) = true := decide_eq_true hvl
          have HC := Lib.hid hcs
          clear hcs
          go_enter Try.func135, Try.ntmps135
          go_wp2_with fail
          refine (rInt_any w g s hr).mono ?_
          rintro e w1 ⟨rfl, hr1, hg1⟩
          rw [HI.out] at hr1 ⊢
          obtain ⟨l, p, A, n, c, hb, hrd, hnc, hc, hp, hln, hsr⟩ := hr1.split
          have hsl := hr1.lt
          have h0 := hb.cell 0
          have h1 := hb.cell 1
          have h2 := hb.cell 2
          have f2 := hb.frozen 2
          simp at h0 h1 h2
          have hbk : ∀ N, Blk ((w1.drewN N).setCell ⟨g, 2, none⟩ (.bool true)) g 138 #[.slice A n c, .int .i64 (p : Int), .bool true] := fun N => (hb.drewN N).set_ 2 (.bool true)
          have hgk : ∀ N, w1.grownBy ((w1.drewN N).setCell ⟨g, 2, none⟩ (.bool true)) (some g) := fun N => only_setCell (only_drewN (only_refl w1 g) N) (.inl rfl) _
          have hbad : ∀ N, RS 138 ((w1.drewN N).setCell ⟨g, 2, none⟩ (.bool true)) g none := fun N => RS.mk (hbk N) (hrd.only (hgk N) (by omega) (Nat.le_refl _)) hnc hc hp rfl
          clear hbk hln hsr hb hrd
          go_wp2_with fail
          refine (rLeft_any _ g _ hr1).mono ?_
          rintro e w2 ⟨rfl, N, rfl⟩
          go_wp2
          go_ret
          rw [HC.out]
          exact ⟨rfl, hbad N, only_trans hg1 (hgk N)⟩
        · have hcs : Wire.countS most s = (v, some r) := by unfold Wire.countS; rw [hI]; simp; omega
          have HC := Lib.hid hcs
          clear hcs hI
          have t2 : decide ((Wire.leftS (some r) : Int) < v) = false := decide_eq_false hvl
          go_enter Try.func135, Try.ntmps135
          go_wp2_with fail
          refine (rInt_any w g s hr).mono ?_
          rintro e w1 ⟨rfl, hr1, hg1⟩
          rw [HI.out] at hr1 ⊢
          obtain ⟨l, p, A, n, c, hb, hrd, hnc, hc, hp, hln, hsr⟩ := hr1.split
          have h2 := hb.cell 2
          simp at h2
          clear hln hsr hb hrd
          go_wp2_with fail
          refine (rLeft_any _ g _ hr1).mono ?_
          rintro e w2 ⟨rfl, N, rfl⟩
          go_wp2
          go_ret
          rw [HC.out]
          exact ⟨rfl, hr1.drewN N, only_drewN hg1 N⟩

set_option maxRecDepth 100000 in
set_option maxHeartbeats 800000 in
theorem rText_any (w : World) (g : Nat) (s : Option (List UInt8)) (most : Int) (hr : RS 138 w g s) :
    Calls Try.prog 126 #[.pointer (some ⟨g, 0, none⟩), .int .i64 most] w fun e w' => e = .returned (.string (txt (Wire.textS most s).1)) ∧ RS 138 w' g (Wire.textS most s).2 ∧ w.grownBy w' (some g) := by
  obtain ⟨v, s', hI⟩ : ∃ v s', Wire.countS most s = (v, s') := ⟨_, _, rfl⟩
  have HI := Lib.hid hI
  cases s' with
  | none =>
    have hcs : Wire.textS most s = ([], none) := by unfold Wire.textS; rw [hI]
    have HC := Lib.hid hcs
    clear hI hcs
    go_enter Try.func126, Try.ntmps126
    go_wp2_with fail
    refine (rCount_any w g s most hr).mono ?_
    rintro e w1 ⟨rfl, hr1, hg1⟩
    rw [HI.out] at hr1 ⊢
    obtain ⟨l, p, A, n, c, hb, hrd, hnc, hc, hp, hln, hsr⟩ := hr1.split
    have h2 := hb.cell 2
    simp at h2
    clear hln hsr hb hrd
    go_wp2
    go_ret
    rw [HC.out]
    exact ⟨rfl, hr1, hg1⟩
  | some r =>
    have hv := Wire.countS_range hI
    have hcs : Wire.textS most s = (r.take v.toNat, some (r.drop v.toNat)) := by unfold Wire.textS; rw [hI]
    have HC := Lib.hid hcs
    clear hI hcs
    obtain ⟨k, rfl⟩ := Int.eq_ofNat_of_zero_le hv.1
    have hv2 := hv.2
    have HV := Lib.hid hv2
    clear hv hv2
    go_enter Try.func126, Try.ntmps126
    go_wp2_with fail
    refine (rCount_any w g s most hr).mono ?_
    rintro e w1 ⟨rfl, hr1, hg1⟩
    rw [HI.out] at hr1 ⊢
    obtain ⟨l, p, A, n, c, hb, hrd, hnc, hc, hp, hln, hsr⟩ := hr1.split
    have hrr := hsr r rfl
    subst hrr
    have hkn : p + k ≤ n := by have := HV.out; rw [List.length_drop] at this; omega
    have h0 := hb.cell 0
    have h1 := hb.cell 1
    have h2 := hb.cell 2
    have f1 := hb.frozen 1
    simp at h0 h1 h2
    have hbk : Blk (w1.setCell ⟨g, 1, none⟩ (.int .i64 ((p : Int) + (k : Int)))) g 138 #[.slice A n c, .int .i64 ((p + k : Nat) : Int), .bool false] := hb.set_ 1 (.int .i64 ((p : Int) + (k : Int)))
    have hgk : w1.grownBy (w1.setCell ⟨g, 1, none⟩ (.int .i64 ((p : Int) + (k : Int)))) (some g) := only_setCell (only_refl w1 g) (.inl rfl) _
    have hrk := hrd.only hgk (by have := hb.lt; omega) (Nat.le_refl _)
    have hs1 : ∀ W, (Instr.slice 31 (.slice A n c) (some (.int .i64 (p : Int))) (some (.int .i64 ((p : Int) + (k : Int)))) none).run Try.prog W = .ok (.slice (cutA A c p) (p + k - p) (c - p)) W :=
      fun W => slice_lh W A n c p (p + k) (by omega) (by omega)
    rw [show p + k - p = k from by omega] at hs1
    have hrt := (hrk.take (k := p + k) (by omega)).cutA (k := p) (c := c) (by omega) (by omega)
    rw [show p + k - p = k from by omega] at hrt
    have kc := fun N => run_string_of (P := Try.prog) ((w1.setCell ⟨g, 1, none⟩ (.int .i64 ((p : Int) + (k : Int)))).drewN N) Try.underlying31 Try.underlying5 Try.underlying9 (c - p) (hrt.drewN N)
    have hend : RS 138 (w1.setCell ⟨g, 1, none⟩ (.int .i64 ((p : Int) + (k : Int)))) g (some ((l.drop p).drop k)) := RS.mk (p := p + k) hbk hrk hnc hc hkn (by simp)
    have hte : (l.take (p + k)).drop p = (l.drop p).take k := by rw [List.drop_take]; congr 1; omega
    rw [hte] at kc
    have HLN := Lib.hid hln
    have hen : ((p : Int) + (k : Int)) - (k : Int) = (p : Int) := by omega
    clear hln hsr hrd hrk hrt hbk hb hr1 hte
    go_wp2
    go_quiet (fail)
    go_wp2
    go_ret
    rw [HC.out, Int.toNat_natCast]
    exact ⟨rfl, hend.drewN _, only_drewN (only_trans hg1 hgk) _⟩

theorem rOk_any (w : World) (g : Nat) (s : Option (List UInt8)) (hr : RS 138 w g s) :
    Calls Try.prog 127 #[.pointer (some ⟨g, 0, none⟩)] w fun e w' => e = .returned (.bool (Wire.okS s)) ∧ w = w' := by
  obtain ⟨l, p, A, n, c, hb, _⟩ := hr.split
  have h2 := hb.cell 2
  simp at h2
  go_enter Try.func127, Try.ntmps127
  go_wp2
  go_ret
  exact ⟨by cases s <;> rfl, rfl⟩

set_option maxHeartbeats 400000 in
theorem rNew_any (A : Option Addr) (n c B : Nat) (l : List UInt8) (w : World) (hn : n ≤ 140737488355328) (hrd : Reads w B 1 A n (bv l)) :
    Calls Try.prog 89 #[.slice A n c] w fun e w' => ∃ g, e = .returned (.pointer (some ⟨g, 0, none⟩)) ∧ w.heap.size ≤ g ∧ RS 138 w' g (some l) ∧ Below w.heap.size w w' := by
  go_enter Try.func89, Try.ntmps89
  go_wp2_with (at_builtin; refine app_copy _ rfl _ rfl B A n c l rfl hrd hn ?_; intro A' c' w1 hO hb)
  go_ret
  obtain ⟨A1, c1, e1, hc1, _⟩ := (AppB.form (.inl hO) : _)
  injection e1 with e1 e2 e3
  subst e1; subst e3
  refine ⟨_, rfl, hb.size, RS.mk (p := 0) (Blk.new w1 _ _) (hO.reads.alloc (Nat.le_refl _) _) hc1 (by omega) (by omega) rfl, hb.alloc hb.size _⟩
end Go.Proofs.Ytebeidnmplnlpaa
end

section
namespace Go.Proofs.Ytebeidnmplnlpaa
set_option linter.unusedVariables false
open Go.RowKit

theorem u8_sh (s k : Nat) : IntKind.u8.wrap ((s : Int) / 2 ^ k) = ((UInt8.ofNat (s / 2 ^ k)).toNat : Int) := by
  rw [UInt8.toNat_ofNat', show ((s : Int) / 2 ^ k) = ((s / 2 ^ k : Nat) : Int) from by simp]
  simp [IntKind.wrap, IntKind.bits, IntKind.signed]
theorem u8_of (s : Nat) : IntKind.u8.wrap (s : Int) = ((UInt8.ofNat s).toNat : Int) := by
  rw [UInt8.toNat_ofNat']
  simp [IntKind.wrap, IntKind.bits, IntKind.signed]

set_option maxRecDepth 10000 in
theorem frPut_yes (A : Option Addr) (n c : Nat) (l : List UInt8) (A2 : Option Addr) (n2 c2 : Nat) (body : List UInt8) (w : World) (h1 : 1 ≤ n2) (h2 : n2 ≤ 1048576) (hn : n ≤ 140737488351232) (hnc : n ≤ c)
    (hr : Reads w w.heap.size 1 A n (bv l)) (hr2 : Reads w w.heap.size 1 A2 n2 (bv body)) :
    Calls Try.prog 50 #[.slice A n c, .slice A2 n2 c2] w fun e w' => ∃ A' m c', e = .returned (.tuple #[.slice A' m c', .int .i64 0]) ∧ Own w' w.heap.size (.slice A' m c') m (l ++ Frame.put body) ∧ Below w.heap.size w w' := by
  have hlb : body.length = n2 := by have := hr2.1; rw [bv_length] at this; omega
  have hi10 := Wire.int_len (n2 : Int)
  refine calls_vc Try.func50 rfl (by kernel_rfl) ?_
  ((conv => whnf); (repeat ((first | (refine VL.cons ?_) | (refine VL.nil ?_) | (refine VC.seqS rfl ?_) | (refine VC.region ?_)); (conv => whnf))))
  ((repeat ((first | (refine VL.cons ?_) | (refine VL.nil ?_) | (refine VC.seqS rfl ?_) | (refine VC.region ?_) | (refine VC.cond ?_) | (refine VC.skip ?_) | (refine VBool.f ?_) | (refine VBool.dF (by omega) ?_) | (refine VRead.lenS ?_) | (refine VC.seq ?_)); (conv => whnf))))
  refine VCall.of (putInt_any none 0 0 [] (n2 : Int) _ (by omega) (by omega) (by omega) Reads.none_) ?_
  rintro e w1 ⟨A1, m1, c1, rfl, hO1, hb1⟩
  refine ⟨_, rfl, ?_⟩
  have hm1 := hO1.len
  simp only [List.nil_append] at hm1 hO1
  ((conv => whnf); (repeat ((first | (refine VL.cons ?_) | (refine VL.nil ?_) | (refine VC.seqS rfl ?_) | (refine VC.region ?_)); (conv => whnf))))
  ((repeat ((fail); (conv => whnf))))
  refine VCall.of (of_any A1 m1 c1 w1.heap.size _ _ (by unfold maxLen; omega) hO1.reads) ?_
  rintro e w1 ⟨rfl, rfl⟩
  refine ⟨_, rfl, ?_⟩
  ((conv => whnf); (repeat ((first | (refine VL.cons ?_)); (conv => whnf))))
  have hr2' := hr2.below hb1
  refine VCall.of (more_any _ (Crc.more_lt (by omega) _) A2 n2 c2 w.heap.size body _ (by unfold maxLen; omega) hr2') ?_
  rintro e w1 ⟨rfl, rfl⟩
  refine ⟨_, rfl, ?_⟩
  ((conv => whnf); (repeat ((first | (refine VL.cons ?_) | (refine VL.nil ?_) | (refine VC.seqS rfl ?_) | (refine VC.region ?_)); (conv => whnf))))
  ((repeat ((first | (refine VL.cons ?_) | (refine VRead.lenS ?_)); (conv => whnf))))
  refine VRead.cutHM (by omega) (by omega) (by omega) ?_
  ((conv => whnf); (repeat ((first | (refine VL.cons ?_)); (conv => whnf))))
  have hd : AppB _ w.heap.size (.slice A n n) n l := AppB.of (hr.below hb1)
  refine VSem.app hd hO1.reads (by omega) hb1.size ?_
  intro A3 c3 w3 _ hO3 hb3
  have hO3 := hO3 (by omega)
  have hB3 := hb1.trans (hb3.mono (Nat.le_refl _))
  generalize hs : Crc.more (Crc.more 0 (Wire.int (n2 : Int))) body = s
  have hs2 : Frame.sum body = s := by unfold Frame.sum; rw [hlb]; exact hs
  ((conv => whnf); (repeat ((first | (refine VL.cons ?_) | (refine VL.nil ?_) | (refine VC.seqS rfl ?_) | (refine VC.region ?_)); (conv => whnf))))
  ((repeat ((first | (refine VSem.convI ?_)); (conv => whnf))))
  refine VWrap.of (u8_of s) ?_
  ((conv => whnf); (repeat ((first | (refine VL.cons ?_)); (conv => whnf))))
  ((repeat ((fail); (conv => whnf))))
  refine VRead.shr (by decide) (by decide) ?_
  ((conv => whnf); (repeat ((first | (refine VL.cons ?_)); (conv => whnf))))
  ((repeat ((first | (refine VSem.convI ?_)); (conv => whnf))))
  refine VWrap.of (u8_sh s 8) ?_
  ((conv => whnf); (repeat ((first | (refine VL.cons ?_)); (conv => whnf))))
  ((repeat ((fail); (conv => whnf))))
  refine VRead.shr (by decide) (by decide) ?_
  ((conv => whnf); (repeat ((first | (refine VL.cons ?_)); (conv => whnf))))
  ((repeat ((first | (refine VSem.convI ?_)); (conv => whnf))))
  refine VWrap.of (u8_sh s 16) ?_
  ((conv => whnf); (repeat ((first | (refine VL.cons ?_)); (conv => whnf))))
  ((repeat ((fail); (conv => whnf))))
  refine VRead.shr (by decide) (by decide) ?_
  ((conv => whnf); (repeat ((first | (refine VL.cons ?_)); (conv => whnf))))
  ((repeat ((first | (refine VSem.convI ?_)); (conv => whnf))))
  refine VWrap.of (u8_sh s 24) ?_
  ((conv => whnf); (repeat ((first | (refine VL.cons ?_)); (conv => whnf))))
  ((repeat ((fail); (conv => whnf))))
  refine VSem.buildS rfl rfl (by simp [zipP, Value.oneCell']) (by omega) ?_
  ((conv => whnf); (repeat ((first | (refine VL.cons ?_)); (conv => whnf))))
  refine VSem.appO (m := 4) (news := Frame.le4 s) (hO3.alloc _) (reads_new w3 (Frame.le4 s) _ _ _ rfl 4 rfl) (by omega) (Nat.le_trans hB3.size (by simp)) ?_
  intro A5 c5 w5 hO5 _ hb5
  have hB5 := (hB3.alloc hB3.size _).trans hb5
  ((conv => whnf); (repeat ((first | (refine VL.cons ?_) | (refine VL.nil ?_) | (refine VC.seqS rfl ?_) | (refine VC.region ?_)); (conv => whnf))))
  ((repeat ((fail); (conv => whnf))))
  refine VSem.appO hO5 (hr2.below hB5) (by omega) hB5.size ?_
  intro A6 c6 w6 hO6 _ hb6
  ((conv => whnf); (repeat ((first | (refine VL.cons ?_) | (refine VL.nil ?_) | (refine VC.ret ?_)); (conv => whnf))))
  ((repeat ((fail); (conv => whnf))))
  refine ⟨_, _, _, rfl, ?_, hB5.trans hb6⟩
  unfold Frame.put
  rw [hlb, hs2]
  simpa only [List.append_assoc] using hO6

theorem u32_shl (x : UInt8) (q k : Nat) (hk : k ≤ 3) (hq : q < 2 ^ (8 * k)) : IntKind.u32.wrap ((x.toNat : Int) * 2 ^ (8 * k)) = ((x.toNat * 2 ^ (8 * k) : Nat) : Int) ∧
    bits .or .u32 (q : Int) ((x.toNat * 2 ^ (8 * k) : Nat) : Int) = ((q + 2 ^ (8 * k) * x.toNat : Nat) : Int) := by
  have hx := x.toNat_lt
  have hp : 2 ^ (8 * k) ≤ 16777216 := by
    rcases (by omega : k = 0 ∨ k = 1 ∨ k = 2 ∨ k = 3) with rfl | rfl | rfl | rfl <;> decide
  have hm : x.toNat * 2 ^ (8 * k) ≤ 255 * 16777216 := Nat.mul_le_mul (by omega) hp
  refine ⟨?_, ?_⟩
  · rw [show ((x.toNat : Int) * 2 ^ (8 * k)) = ((x.toNat * 2 ^ (8 * k) : Nat) : Int) from by simp]
    generalize x.toNat * 2 ^ (8 * k) = y at hm
    exact wrap_u rfl (by omega) (by simp only [IntKind.bits]; omega)
  · rw [u32_or_nat _ _ (by omega) (by omega), Nat.mul_comm x.toNat, Nat.add_comm, Nat.or_comm]
    congr 1
    exact (Nat.two_pow_add_eq_or_of_lt hq _).symm
theorem num_snoc : ∀ (l : List UInt8) (x : UInt8), Crc.num (l ++ [x]) = Crc.num l + 2 ^ (8 * l.length) * x.toNat
  | [], x => by simp [Crc.num]
  | y :: l, x => by
    simp only [List.cons_append, Crc.num, num_snoc l x, List.length_cons]
    rw [show 8 * (l.length + 1) = 8 + 8 * l.length by omega, Nat.pow_add, Nat.mul_add, Nat.mul_assoc]
    omega

set_option maxRecDepth 10000 in
theorem frGet_any (A : Option Addr) (n c : Nat) (l : List UInt8) (at_ : Int) (w : World) (hn : n ≤ 140737488355328) (hnc : n ≤ c) (hat : -9223372036854775808 ≤ at_ ∧ at_ ≤ 9223372036854775807) (hr : Reads w w.heap.size 1 A n (bv l)) :
    Calls Try.prog 107 #[.slice A n c, .int .i64 at_] w fun e w' => ∃ A' m c', e = .returned (.tuple #[.slice A' m c', .int .i64 (Frame.get l at_).2.1, .int .i64 (Frame.get l at_).2.2]) ∧
      Own w' w.heap.size (.slice A' m c') m (Frame.get l at_).1 ∧ Below w.heap.size w w' := by
  have hln : l.length = n := by have := hr.1; rw [bv_length] at this; omega
  by_cases hbad : at_ < 0 ∨ (n : Int) < at_
  · have hG : Frame.get l at_ = ([], 0, 1) := by unfold Frame.get; rw [hln, if_pos hbad]
    refine calls_vc Try.func107 rfl (by kernel_rfl) ?_
    ((conv => whnf); (repeat ((first | (refine VL.cons ?_) | (refine VL.nil ?_) | (refine VC.seqS rfl ?_) | (refine VC.region ?_)); (conv => whnf))))
    ((repeat' ((first | (refine VL.cons ?_) | (refine VL.nil ?_) | (refine VC.seqS rfl ?_) | (refine VC.region ?_) | (refine VC.cond ?_) | (refine VC.ret ?_) | (refine VBool.t ?_) | (refine VBool.f ?_) | (refine VBool.dT (by omega) ?_) | (refine VRead.lenS ?_) | (refine VC.seq ?_) | (refine VBool.dec (fun h => ?_) (fun h => ?_))); (conv => whnf))))
    all_goals exact ⟨none, 0, 0, by rw [hG]; rfl, by rw [hG]; exact Own.nil _ _, Below.refl _ _⟩
  by_cases heq : at_ = n
  · have hG : Frame.get l at_ = ([], 0, 3) := by unfold Frame.get; rw [hln, if_neg hbad, if_pos heq]
    refine calls_vc Try.func107 rfl (by kernel_rfl) ?_
    ((conv => whnf); (repeat ((first | (refine VL.cons ?_) | (refine VL.nil ?_) | (refine VC.seqS rfl ?_) | (refine VC.region ?_)); (conv => whnf))))
    ((repeat ((first | (refine VL.cons ?_) | (refine VL.nil ?_) | (refine VC.seqS rfl ?_) | (refine VC.region ?_) | (refine VC.cond ?_) | (refine VC.ret ?_) | (refine VC.skip ?_) | (refine VBool.f ?_) | (refine VBool.dT (by omega) ?_) | (refine VBool.dF (by omega) ?_) | (refine VRead.lenS ?_) | (refine VC.seq ?_)); (conv => whnf))))
    exact ⟨none, 0, 0, by rw [hG]; rfl, by rw [hG]; exact Own.nil _ _, Below.refl _ _⟩
  obtain ⟨a, rfl⟩ : ∃ a : Nat, at_ = (a : Int) := ⟨at_.toNat, by omega⟩
  have ha : a < n := by omega
  have hG : Frame.get l (a : Int) = match Frame.first (l.drop a) with
      | none => ([], 0, 4)
      | some (body, r) => (body, (a : Int) + (Frame.put body).length, 0) := by
    unfold Frame.get
    rw [hln, if_neg hbad, if_neg heq, Int.toNat_natCast]
    all_goals (cases Frame.first (l.drop a) <;> rfl)
  clear hbad heq
  obtain ⟨z, hz⟩ : ∃ z : Nat, z = min n (a + 10) := ⟨_, rfl⟩
  have hL10 : (l.take z).drop a = (l.drop a).take 10 := by
    rw [List.drop_take]
    by_cases h : a + 10 ≤ n
    · rw [show z - a = 10 by omega]
    · rw [List.take_of_length_le (by simp; omega), List.take_of_length_le (by simp; omega)]
  refine calls_vc Try.func107 rfl (by kernel_rfl) ?_
  ((conv => whnf); (repeat ((first | (refine VL.cons ?_) | (refine VL.nil ?_) | (refine VC.seqS rfl ?_) | (refine VC.region ?_)); (conv => whnf))))
  ((repeat ((first | (refine VL.cons ?_) | (refine VL.nil ?_) | (refine VC.seqS rfl ?_) | (refine VC.region ?_) | (refine VC.cond ?_) | (refine VC.skip ?_) | (refine VBool.f ?_) | (refine VBool.dF (by omega) ?_) | (refine VRead.lenS ?_) | (refine VWrap.i64 (by omega) (by omega) ?_) | (refine VC.seq ?_)); (conv => whnf))))
  refine VRead.minZ (z := (z : Int)) (by split <;> omega) ?_
  ((conv => whnf); (repeat ((first | (refine VL.cons ?_)); (conv => whnf))))
  refine VRead.cutR a z hr rfl rfl (by omega) (by omega) hnc ?_
  intro A1 hr1
  rw [hL10] at hr1
  ((conv => whnf); (repeat ((first | (refine VL.cons ?_)); (conv => whnf))))
  refine VCall.of (rNew_any A1 (z - a) _ _ _ _ (by omega) hr1) ?_
  rintro e w1 ⟨g, rfl, hg, hs1, hb1⟩
  refine ⟨_, rfl, ?_⟩
  ((conv => whnf); (repeat ((first | (refine VL.cons ?_) | (refine VL.nil ?_) | (refine VC.seqS rfl ?_) | (refine VC.region ?_)); (conv => whnf))))
  ((repeat ((fail); (conv => whnf))))
  refine VCall.of (rInt_any _ _ _ hs1) ?_
  rintro e w2 ⟨rfl, hs2, hg2⟩
  refine ⟨_, rfl, ?_⟩
  have hb2 := only_new hb1 hg2 hg hb1.size
  clear hs1 hg2 hb1
  ((conv => whnf); (repeat ((first | (refine VL.cons ?_) | (refine VL.nil ?_)); (conv => whnf))))
  ((repeat ((first | (refine VL.cons ?_) | (refine VC.seqS rfl ?_) | (refine VC.region ?_) | (refine VC.seq ?_)); (conv => whnf))))
  refine VCall.of (rOk_any _ _ _ hs2) ?_
  rintro e w3 ⟨rfl, rfl⟩
  refine ⟨_, rfl, ?_⟩
  obtain ⟨t1, t2⟩ := Frame.intS_ten (l.drop a)
  rw [t1]
  have hok : Wire.okS (Wire.intS (some ((l.drop a).take 10))).2 = (Wire.intS (some (l.drop a))).2.isSome := by
    rw [← t2]; cases (Wire.intS (some ((l.drop a).take 10))).2 <;> rfl
  rw [hok]
  clear t1 t2 hok hs2
  cases hI : Wire.intS (some (l.drop a)) with
  | mk v o =>
    cases o with
    | none =>
      have hF : Frame.first (l.drop a) = none := by unfold Frame.first; rw [hI]
      rw [hF] at hG
      ((conv => whnf); (repeat ((first | (refine VL.cons ?_)); (conv => whnf))))
      ((repeat ((first | (refine VL.cons ?_) | (refine VL.nil ?_) | (refine VC.seqS rfl ?_) | (refine VC.region ?_) | (refine VC.cond ?_) | (refine VC.ret ?_) | (refine VBool.t ?_)); (conv => whnf))))
      exact ⟨none, 0, 0, by rw [hG]; rfl, by rw [hG]; exact Own.nil _ _, hb2⟩
    | some r =>
      obtain ⟨e, hv1, hv2⟩ := Wire.intS_back hI
      by_cases hvb : v < 1 ∨ 1048576 < v
      · have hF : Frame.first (l.drop a) = none := by
          unfold Frame.first; rw [hI]; simp only; rw [if_neg (by omega)]
        rw [hF] at hG
        ((conv => whnf); (repeat ((first | (refine VL.cons ?_)); (conv => whnf))))
        ((repeat' ((first | (refine VL.cons ?_) | (refine VL.nil ?_) | (refine VC.seqS rfl ?_) | (refine VC.region ?_) | (refine VC.cond ?_) | (refine VC.ret ?_) | (refine VBool.t ?_) | (refine VBool.f ?_) | (refine VBool.dT (by omega) ?_) | (refine VBool.dec (fun h => ?_) (fun h => ?_))); (conv => whnf))))
        all_goals exact ⟨none, 0, 0, by rw [hG]; rfl, by rw [hG]; exact Own.nil _ _, hb2⟩
      · obtain ⟨m, rfl⟩ : ∃ m : Nat, v = (m : Int) := ⟨v.toNat, by omega⟩
        have hLn : (l.drop a).length = n - a := by rw [List.length_drop, hln]
        have hrl : (Wire.int (m : Int)).length + r.length = n - a := by rw [← hLn, e, List.length_append]
        have hi10 := Wire.int_len (m : Int)
        ((conv => whnf); (repeat ((first | (refine VL.cons ?_)); (conv => whnf))))
        ((repeat ((first | (refine VL.cons ?_) | (refine VL.nil ?_) | (refine VC.seqS rfl ?_) | (refine VC.region ?_) | (refine VC.cond ?_) | (refine VC.skip ?_) | (refine VBool.f ?_) | (refine VBool.dF (by omega) ?_)); (conv => whnf))))
        refine VCall.of (putInt_any none 0 0 [] (m : Int) _ (by omega) (by omega) (by omega) Reads.none_) ?_
        rintro e4 w4 ⟨A4, m4, c4, rfl, hO4, hb4⟩
        refine ⟨_, rfl, ?_⟩
        have hm4 := hO4.len
        simp only [List.nil_append] at hm4 hO4
        have hb4' := hb2.trans (hb4.mono hb2.size)
        by_cases hlong : r.length < 4 + m
        · have hF : Frame.first (l.drop a) = none := by
            unfold Frame.first; rw [hI]; simp only; rw [if_neg (by omega)]
          rw [hF] at hG
          ((conv => whnf); (repeat ((first | (refine VL.cons ?_) | (refine VL.nil ?_) | (refine VC.seqS rfl ?_) | (refine VC.region ?_)); (conv => whnf))))
          ((repeat' ((first | (refine VL.cons ?_) | (refine VL.nil ?_) | (refine VC.seqS rfl ?_) | (refine VC.region ?_) | (refine VC.cond ?_) | (refine VC.ret ?_) | (refine VBool.dT (by omega) ?_) | (refine VRead.lenS ?_) | (refine VWrap.i64 (by omega) (by omega) ?_) | (refine VC.seq ?_)); (conv => whnf))))
          all_goals exact ⟨none, 0, 0, by rw [hG]; rfl, by rw [hG]; exact Own.nil _ _, hb4'⟩
        · have hr4 := hr.below hb4'
          ((conv => whnf); (repeat ((first | (refine VL.cons ?_) | (refine VL.nil ?_) | (refine VC.seqS rfl ?_) | (refine VC.region ?_)); (conv => whnf))))
          ((repeat ((first | (refine VL.cons ?_) | (refine VL.nil ?_) | (refine VC.seqS rfl ?_) | (refine VC.region ?_) | (refine VC.cond ?_) | (refine VC.skip ?_) | (refine VBool.dF (by omega) ?_) | (refine VRead.lenS ?_) | (refine VWrap.i64 (by omega) (by omega) ?_) | (refine VC.seq ?_)); (conv => whnf))))
          refine VRead.cutR (a + m4) (a + m4 + 4) hr4 (by omega) (by omega) (by omega) (by omega) hnc ?_
          intro A5 hr5
          rw [show a + m4 + 4 - (a + m4) = 4 by omega] at hr5 ⊢
          have hb4l : (l.take (a + m4 + 4)).drop (a + m4) = r.take 4 := by
            rw [List.drop_take, ← List.drop_drop, e, ← hm4, List.drop_left' rfl, show a + (Wire.int (m : Int)).length + 4 - (a + (Wire.int (m : Int)).length) = 4 by omega]
          rw [hb4l] at hr5
          have h4l : (r.take 4).length = 4 := by rw [List.length_take]; omega
          obtain ⟨ad, rfl, _, hcell⟩ := hr5.2 (by omega)
          ((conv => whnf); (repeat ((first | (refine VL.cons ?_)); (conv => whnf))))
          ((repeat ((first | (refine VL.cons ?_) | (refine VL.nil ?_) | (refine VC.block ?_) | (refine VRead.lenS ?_)); (conv => whnf))))
          refine VC.loop [11, 68] [(11, 13), (68, 80)] (fun j vs wr => ∃ k : Nat, vs = [.int .u32 (Crc.num ((r.take 4).take k) : Nat), .int .i64 (k : Int)] ∧ j = 4 - k ∧ k ≤ 4 ∧ w4 = wr) (by kernel_rfl) ⟨_, 0, rfl, rfl, by omega, rfl⟩ ?_
          rintro j τ vs w5 ⟨k, rfl, rfl, hk, rfl⟩
          by_cases hk4 : k < 4
          · obtain ⟨x, hx⟩ : ∃ x, (r.take 4)[k]? = some x := ⟨_, List.getElem?_eq_getElem (by omega)⟩
            have hcx := hcell k _ (show (bv (r.take 4))[k]? = some (.int .u8 (x.toNat : Int)) from by unfold bv; rw [List.getElem?_map, hx]; rfl)
            have htk : ((r.take 4).take k).length = k := by rw [List.length_take]; omega
            have hq := Crc.num_lt ((r.take 4).take k)
            rw [htk] at hq
            obtain ⟨e1, e2⟩ := u32_shl x _ k (by omega) hq
            have e3 : Crc.num ((r.take 4).take (k + 1)) = Crc.num ((r.take 4).take k) + 2 ^ (8 * k) * x.toNat := by rw [take_snoc hx, num_snoc, htk]
            rw [← e3] at e2
            have hx256 := x.toNat_lt
            ((conv => whnf); (repeat ((first | (refine VL.cons ?_) | (refine VL.nil ?_) | (refine VC.seqS rfl ?_) | (refine VC.region ?_)); (conv => whnf))))
            ((repeat ((first | (refine VL.cons ?_) | (refine VL.nil ?_) | (refine VC.seqS rfl ?_) | (refine VC.region ?_) | (refine VC.cond ?_) | (refine VC.block ?_) | (refine VC.skip ?_) | (refine VBool.dT (by omega) ?_) | (refine VRead.load1 (by assumption) ?_) | (refine VRead.at1 (by omega) ?_) | (refine VSem.convI ?_) | (refine VC.seq ?_)); (conv => whnf))))
            refine VWrap.u32 (by omega) (by omega) ?_
            ((conv => whnf); (repeat ((first | (refine VL.cons ?_)); (conv => whnf))))
            ((repeat ((first | (refine VL.cons ?_) | (refine VWrap.i64 (by omega) (by omega) ?_)); (conv => whnf))))
            refine VRead.shl32 (by omega) (by omega) ?_
            ((conv => whnf); (repeat ((fail); (conv => whnf))))
            refine VWrap.of e1 ?_
            ((conv => whnf); (repeat ((first | (refine VL.cons ?_)); (conv => whnf))))
            refine VRead.or ?_
            rw [e2]
            ((conv => whnf); (repeat ((first | (refine VL.cons ?_) | (refine VL.nil ?_) | (refine VC.region ?_)); (conv => whnf))))
            ((repeat ((first | (refine VL.cons ?_) | (refine VL.nil ?_) | (refine VWrap.i64 (by omega) (by omega) ?_)); (conv => whnf))))
            exact ⟨_, by omega, k + 1, rfl, rfl, by omega, rfl⟩
          · obtain rfl : k = 4 := by omega
            rw [show (r.take 4).take 4 = r.take 4 from List.take_of_length_le (by omega)]
            ((conv => whnf); (repeat ((first | (refine VL.cons ?_) | (refine VL.nil ?_) | (refine VC.seqS rfl ?_) | (refine VC.region ?_)); (conv => whnf))))
            ((repeat ((first | (refine VL.cons ?_) | (refine VC.seqS rfl ?_) | (refine VC.region ?_) | (refine VC.cond ?_) | (refine VC.exit ?_) | (refine VBool.f ?_) | (refine VWrap.i64 (by omega) (by omega) ?_) | (refine VC.seq ?_)); (conv => whnf))))
            refine VRead.cutR (a + m4 + 4) (a + m4 + 4 + m) hr4 (by omega) (by omega) (by omega) (by omega) hnc ?_
            intro A6 hr6
            rw [show a + m4 + 4 + m - (a + m4 + 4) = m by omega] at hr6 ⊢
            have hbl : (l.take (a + m4 + 4 + m)).drop (a + m4 + 4) = (r.drop 4).take m := by
              have h : l.drop (a + m4 + 4) = r.drop 4 := by rw [show a + m4 + 4 = a + (m4 + 4) by omega, ← List.drop_drop, e, ← List.drop_drop, ← hm4, List.drop_left' rfl]
              rw [List.drop_take, h, show a + m4 + 4 + m - (a + m4 + 4) = m by omega]
            rw [hbl] at hr6
            have hbm : ((r.drop 4).take m).length = m := by rw [List.length_take, List.length_drop]; omega
            ((conv => whnf); (repeat ((first | (refine VL.cons ?_)); (conv => whnf))))
            refine VSem.appO (Own.nil _ w4.heap.size) hr6 (by omega) (Nat.le_refl _) ?_
            intro A7 c7 w7 hO7 _ hb7
            rw [Nat.zero_add] at hO7 ⊢
            rw [List.nil_append] at hO7
            have hO4' := hO4.below (hb7.mono (Nat.le_refl _)) (Nat.le_refl _)
            have hB7 := hb4'.trans (hb7.mono hb4'.size)
            ((conv => whnf); (repeat ((first | (refine VL.cons ?_) | (refine VL.nil ?_)); (conv => whnf))))
            ((repeat ((first | (refine VL.cons ?_) | (refine VC.seqS rfl ?_) | (refine VC.region ?_) | (refine VC.seq ?_)); (conv => whnf))))
            refine VCall.of (of_any A4 m4 c4 _ _ _ (by unfold maxLen; omega) hO4'.reads) ?_
            rintro e8 w8 ⟨rfl, rfl⟩
            refine ⟨_, rfl, ?_⟩
            ((conv => whnf); (repeat ((first | (refine VL.cons ?_)); (conv => whnf))))
            refine VCall.of (more_any _ (Crc.more_lt (by omega) _) A7 m c7 _ _ _ (by unfold maxLen; omega) hO7.reads) ?_
            rintro e8 w8 ⟨rfl, rfl⟩
            refine ⟨_, rfl, ?_⟩
            have hsum : Crc.more (Crc.more 0 (Wire.int (m : Int))) ((r.drop 4).take m) = Frame.sum ((r.drop 4).take m) := by unfold Frame.sum; rw [hbm]
            rw [hsum]
            ((conv => whnf); (repeat ((first | (refine VL.cons ?_) | (refine VL.nil ?_) | (refine VC.cond ?_)); (conv => whnf))))
            ((repeat ((fail); (conv => whnf))))
            by_cases hs : Frame.sum ((r.drop 4).take m) = Crc.num (r.take 4)
            · have hF : Frame.first (l.drop a) = some ((r.drop 4).take m, r.drop (4 + m)) := by
                unfold Frame.first; rw [hI]; simp only [Int.toNat_natCast]
                rw [if_pos ⟨by omega, by omega, by omega, by rw [hs, Frame.le4_num h4l]⟩]
              rw [hF] at hG
              simp only at hG
              have hpl : (Frame.put ((r.drop 4).take m)).length = m4 + 4 + m := by rw [Frame.put_len, hbm, hm4]
              refine VBool.nT (by omega) ?_
              ((conv => whnf); (repeat ((first | (refine VL.cons ?_) | (refine VC.seqS rfl ?_) | (refine VC.region ?_) | (refine VC.skip ?_)); (conv => whnf))))
              ((repeat ((first | (refine VL.cons ?_) | (refine VL.nil ?_) | (refine VC.ret ?_) | (refine VWrap.i64 (by omega) (by omega) ?_)); (conv => whnf))))
              exact ⟨A7, m, c7, by rw [hG, hpl]; show Ending.returned (.tuple #[_, .int .i64 ((a : Int) + m4 + 4 + m), _]) = _; rw [show (a : Int) + m4 + 4 + m = (a : Int) + ((m4 + 4 + m : Nat) : Int) by omega]; rfl, by rw [hG]; exact hO7.more hb4'.size, hB7⟩
            · have hF : Frame.first (l.drop a) = none := by
                unfold Frame.first; rw [hI]; simp only [Int.toNat_natCast]
                rw [if_neg (fun h => hs (by rw [h.2.2.2, Frame.num_le4 (Frame.sum_lt _)]))]
              rw [hF] at hG
              refine VBool.nF (by omega) ?_
              ((conv => whnf); (repeat ((first | (refine VL.cons ?_) | (refine VL.nil ?_) | (refine VC.seqS rfl ?_) | (refine VC.region ?_) | (refine VC.ret ?_)); (conv => whnf))))
              ((repeat ((fail); (conv => whnf))))
              exact ⟨none, 0, 0, by rw [hG]; rfl, by rw [hG]; exact Own.nil _ _, hB7⟩
end Go.Proofs.Ytebeidnmplnlpaa
end

section
namespace Go.Proofs.Ytebeidnmplnlpaa
set_option linter.unusedVariables false
open Go.RowKit

end Go.Proofs.Ytebeidnmplnlpaa
end

section
namespace Go.Proofs.Ytebeidnmplnlpaa
set_option linter.unusedVariables false
open Go.RowKit

theorem Own.storeApart {w w' : World} {B : Nat} {v : Value} {n g : Nat} {l : List UInt8} (h : Own w B v n l) (hg : w.grownBy w' (some g)) (hne : v.ownBlock ≠ some g) : Own w' B v n l := by
  refine ⟨h.1, ?_⟩
  rcases h.2 with h0 | ⟨k, cap, cur, hv, hbg, hk, r⟩
  · exact .inl h0
  · refine .inr ⟨k, cap, cur, hv, hbg, ?_, r⟩
    rw [hg.block k (by have := (Array.getElem?_eq_some_iff.1 hk).1; omega) (fun e => hne (by rw [hv]; simp [Value.ownBlock]; injection e))]
    exact hk
end Go.Proofs.Ytebeidnmplnlpaa
end

section
namespace Go.Proofs.Ytebeidnmplnlpaa
set_option linter.unusedVariables false
open Go.RowKit

end Go.Proofs.Ytebeidnmplnlpaa
end

section
namespace Go.Proofs.Ytebeidnmplnlpaa
set_option linter.unusedVariables false
open Go.RowKit

namespace Frame
/-- the place of the k-th frame -/
def place (l : List UInt8) : Nat → Int
  | 0 => 0
  | k + 1 => (get l (place l k)).2.1
def okAt (l : List UInt8) (k : Nat) : Prop := (get l (place l k)).2.2 = 0
def body (l : List UInt8) (k : Nat) : List UInt8 := (get l (place l k)).1
theorem get_ok {l : List UInt8} {a : Int} (h : (get l a).2.2 = 0) : 0 ≤ a ∧ a + 6 ≤ (get l a).2.1 ∧ (get l a).2.1 ≤ l.length ∧ (get l a).2.1 = a + (put (get l a).1).length ∧ 1 ≤ (get l a).1.length := by
  unfold get at h ⊢
  split at h
  · exact absurd h (by decide)
  · rename_i h1
    rw [if_neg h1]
    split at h
    · exact absurd h (by decide)
    · rename_i h2
      rw [if_neg h2]
      split at h
      · exact absurd h (by decide)
      · rename_i body r e
        obtain ⟨e2, h3, h4⟩ := first_some e
        have e3 : (l.drop a.toNat).length = (put body).length + r.length := by rw [e2, List.length_append]
        rw [List.length_drop] at e3
        have h5 := put_len body
        have h6 := (Wire.int_len (body.length : Int)).1
        simp only at h ⊢
        refine ⟨by omega, by omega, by omega, trivial, h3⟩
theorem place_ok {l : List UInt8} {k : Nat} (h : okAt l k) : 0 ≤ place l k ∧ place l k + 6 ≤ place l (k + 1) ∧ place l (k + 1) ≤ l.length := by
  have := get_ok h
  exact ⟨this.1, this.2.1, this.2.2.1⟩
theorem place_le {l : List UInt8} {k : Nat} (h : ∀ i, i < k → okAt l i) : 0 ≤ place l k ∧ place l k ≤ l.length := by
  cases k with
  | zero => exact ⟨by unfold place; omega, by unfold place; omega⟩
  | succ k => have := place_ok (h k (by omega)); exact ⟨by omega, this.2.2⟩
end Frame

/-- a call of a value: a function's, or a loop's round -/
def VVal (P : Program) (y : Value) (args : List Value) (w : World) (K : Value → World → Prop) : Prop := match y with
  | .func (.func g) _ cap => VCall P g (args ++ cap.toList) w K
  | .func (.yield k) _ _ => VYield P k args w K
  | _ => False
structure AllJ (l : List UInt8) (y : Value) (bx : Addr) (A : Option Addr) (n c : Nat) (J Jx : Nat → World → Prop) : Prop where
  read : ∀ k W, J k W → W.cell? bx = some (.slice A n c) ∧ Reads W W.heap.size 1 A n (bv l)
  later : ∀ k W W', J k W → Below W.heap.size W W' → J k W'
  step : ∀ k W, (∀ i, i < k → Frame.okAt l i) → Frame.okAt l k → J k W → ∀ B v m, Own W B v m (Frame.body l k) →
    VVal Try.prog y [.int .i64 (Frame.place l k), v] W (fun res W2 => (res = .bool true ∧ J (k + 1) W2) ∨ (res = .bool false ∧ Jx (k + 1) W2))
set_option maxRecDepth 10000 in
theorem all1 (y : Value) (bx : Addr) (A : Option Addr) (n c : Nat) (l : List UInt8) (J Jx : Nat → World → Prop) (w : World) (hn : n ≤ 140737488355328) (hnc : n ≤ c) (hln : l.length = n)
    (hy : (∃ g p1 p2 p3, y = .func (.func g) #[] #[.pointer p1, .pointer p2, .pointer p3]) ∨ ∃ k, y = .func (.yield k) #[] #[]) (hj : AllJ l y bx A n c J Jx) (h0 : J 0 w) :
    Calls Try.prog 108 #[y, .pointer (some bx)] w fun e w' => e = .returned (.tuple #[]) ∧
      ∃ k, (∀ i, i < k → Frame.okAt l i) ∧ ((¬ Frame.okAt l k ∧ J k w') ∨ (0 < k ∧ Jx k w')) := by
  obtain ⟨hread, hlater, hstep⟩ := hj
  rcases hy with ⟨g, p1, p2, p3, rfl⟩ | ⟨g, rfl⟩
  all_goals
    refine calls_vc Try.func108 rfl (by kernel_rfl) ?_
    ((conv => whnf); (repeat ((first | (refine VL.cons ?_) | (refine VL.nil ?_) | (refine VC.seqS rfl ?_) | (refine VC.region ?_) | (refine VC.block ?_) | (refine VC.label ?_) | (refine VC.scope ?_)); (conv => whnf))))
    ((repeat ((fail); (conv => whnf))))
    refine VC.loop [3] [(3, 23)] (fun q vs W => ∃ k, vs = [.int .i64 (Frame.place l k)] ∧ q = (n - Frame.place l k).toNat ∧ (∀ i, i < k → Frame.okAt l i) ∧ J k W) (by kernel_rfl) ⟨_, 0, rfl, rfl, fun i hi => absurd hi (Nat.not_lt_zero i), h0⟩ ?_
    rintro q τ vs W ⟨k, rfl, rfl, hk, hJ⟩
    have hp := Frame.place_le hk
    obtain ⟨hc, hR⟩ := hread k W hJ
    ((conv => whnf); (repeat ((first | (refine VL.cons ?_) | (refine VC.seqS rfl ?_) | (refine VC.region ?_) | (refine VC.block ?_)); (conv => whnf))))
    ((repeat ((first | (refine VL.cons ?_) | (refine VRead.load1 (by assumption) ?_)); (conv => whnf))))
    refine VCall.of (frGet_any A n c l (Frame.place l k) W hn hnc (by omega) hR) ?_
    rintro e W1 ⟨A1, m1, c1, rfl, hO, hB⟩
    refine ⟨_, rfl, ?_⟩
    have hJ1 := hlater k W W1 hJ hB
    by_cases hok : (Frame.get l (Frame.place l k)).2.2 = 0
    · have hp1 := Frame.place_ok hok
      ((conv => whnf); (repeat ((first | (refine VL.cons ?_) | (refine VL.nil ?_)); (conv => whnf))))
      ((repeat ((first | (refine VL.cons ?_) | (refine VC.seqS rfl ?_) | (refine VC.region ?_) | (refine VBool.f ?_) | (refine VBool.nT (by omega) ?_) | (refine VC.seq ?_)); (conv => whnf))))
      first
        | refine VCall.mono (hstep k W1 hk hok hJ1 _ _ _ hO) ?_
        | refine VYield.mono (hstep k W1 hk hok hJ1 _ _ _ hO) ?_
      rintro res W2 (⟨rfl, hJ2⟩ | ⟨rfl, hX⟩)
      · ((conv => whnf); (repeat ((first | (refine VL.cons ?_)); (conv => whnf))))
        ((repeat ((first | (refine VL.cons ?_) | (refine VL.nil ?_) | (refine VC.region ?_) | (refine VC.cond ?_) | (refine VC.skip ?_) | (refine VBool.f ?_)); (conv => whnf))))
        refine ⟨_, ?_, k + 1, rfl, rfl, fun i hi => ?_, hJ2⟩
        · omega
        · rcases Nat.lt_or_ge i k with h | h
          · exact hk i h
          · rw [show i = k by omega]; exact hok
      · ((conv => whnf); (repeat ((first | (refine VL.cons ?_)); (conv => whnf))))
        ((repeat ((first | (refine VL.cons ?_) | (refine VL.nil ?_) | (refine VC.cond ?_) | (refine VC.exit ?_) | (refine VBool.t ?_) | (refine VBool.f ?_)); (conv => whnf))))
        refine ⟨rfl, k + 1, fun i hi => ?_, .inr ⟨by omega, hX⟩⟩
        rcases Nat.lt_or_ge i k with h | h
        · exact hk i h
        · rw [show i = k by omega]; exact hok
    · ((conv => whnf); (repeat ((first | (refine VL.cons ?_) | (refine VL.nil ?_)); (conv => whnf))))
      ((repeat ((first | (refine VL.cons ?_) | (refine VL.nil ?_) | (refine VC.seqS rfl ?_) | (refine VC.region ?_) | (refine VC.cond ?_) | (refine VC.exit ?_) | (refine VBool.t ?_) | (refine VBool.nF (by omega) ?_) | (refine VC.seq ?_)); (conv => whnf))))
      exact ⟨rfl, k, hk, .inl ⟨hok, hJ1⟩⟩
theorem frAll_any (v : Value) (hv : ∃ A n c, v = .slice A n c) (w : World) :
    Calls Try.prog 88 #[v] w fun e w' => ∃ g, e = .returned (.func (.func 108) #[] #[.pointer (some ⟨g, 0, none⟩)]) ∧ Blk w' g 31 #[v] ∧ w.heap.size ≤ g ∧ Below w.heap.size w w' := by
  obtain ⟨A, n, c, rfl⟩ := hv
  refine calls_vc Try.func88 rfl (by kernel_rfl) ?_
  ((conv => whnf); (repeat ((first | (refine VL.cons ?_) | (refine VC.seqS rfl ?_) | (refine VC.region ?_)); (conv => whnf))))
  ((repeat ((fail); (conv => whnf))))
  refine VSem.boxB ?_
  intro w1 g hb hg hl hB
  ((conv => whnf); (repeat ((first | (refine VL.cons ?_) | (refine VL.nil ?_) | (refine VC.seqS rfl ?_) | (refine VC.region ?_)); (conv => whnf))))
  ((repeat ((fail); (conv => whnf))))
  refine VSem.of rfl ?_
  ((conv => whnf); (repeat ((first | (refine VL.cons ?_) | (refine VL.nil ?_) | (refine VC.ret ?_)); (conv => whnf))))
  ((repeat ((fail); (conv => whnf))))
  exact ⟨g, rfl, hb, by omega, hB⟩
theorem Below.putObj {B : Nat} {a w : World} (h : Below B a w) {r : Nat} (hr : B ≤ r) (o : Obj) : Below B a (w.putObj r o) :=
  ⟨h.os, h.tape, h.output, by rw [World.putObj_size]; exact h.size, fun k hk => by rw [World.putObj_heap_other (by omega)]; exact h.block k hk⟩
theorem Blk.putObj {w : World} {g r : Nat} {T : TypeId} {cs : Array Value} (h : Blk w g T cs) (hne : g ≠ r) (o : Obj) : Blk (w.putObj r o) g T cs := by
  unfold Blk at *; rw [World.putObj_heap_other hne]; exact h
theorem Blk.later {w w' : World} {g : Nat} {T : TypeId} {cs : Array Value} (h : Blk w g T cs) (hb : Below w.heap.size w w') : Blk w' g T cs := by
  unfold Blk at *; rw [hb.block g (Array.getElem?_eq_some_iff.1 h).1]; exact h
theorem obj_later {w w' : World} {g : Nat} {o : Obj} (h : w.heap[g]? = some o) (hb : Below w.heap.size w w') : w'.heap[g]? = some o := by
  rw [hb.block g (Array.getElem?_eq_some_iff.1 h).1]; exact h
end Go.Proofs.Ytebeidnmplnlpaa
end

section
namespace Go.Proofs.Ytebeidnmplnlpaa
set_option linter.unusedVariables false
open Go.RowKit

/-- what stands between two rounds of Ends -/
structure EndsJ (l : List UInt8) (v : Value) (w : World) (r : Loop) (D g1 g4 gx : Nat) (k : Nat) (W : World) : Prop where
  b1 : Blk W g1 31 #[v]
  b4 : Blk W g4 3 #[.int .i64 (Frame.place l k)]
  bx : Blk W gx 31 #[v]
  dd : W.heap[D]? = some (.deferred (some []))
  ll : W.heap[D + 1]? = some (.loop r)
  since : Below w.heap.size w W
theorem EndsJ.later {l : List UInt8} {v : Value} {w : World} {r : Loop} {D g1 g4 gx k : Nat} {W W' : World} (h : EndsJ l v w r D g1 g4 gx k W) (hb : Below W.heap.size W W') : EndsJ l v w r D g1 g4 gx k W' :=
  ⟨h.b1.later hb, h.b4.later hb, h.bx.later hb, obj_later h.dd hb, obj_later h.ll hb, h.since.trans (hb.mono h.since.size)⟩
theorem obj_only {w w' : World} {g i : Nat} {o : Obj} (h : w.heap[i]? = some o) (hg : w.grownBy w' (some g)) (hne : i ≠ g) : w'.heap[i]? = some o := by
  rw [hg.block i (Array.getElem?_eq_some_iff.1 h).1 (fun e => by injection e with e; exact hne (by omega))]; exact h
theorem Blk.only {w w' : World} {g i : Nat} {T : TypeId} {cs : Array Value} (h : Blk w i T cs) (hg : w.grownBy w' (some g)) (hne : i ≠ g) : Blk w' i T cs := obj_only h hg hne
theorem blk_lt {w : World} {g : Nat} {T : TypeId} {cs : Array Value} (h : Blk w g T cs) : g < w.heap.size := (Array.getElem?_eq_some_iff.1 h).1
theorem put_same {w : World} {i : Nat} {o o' : Obj} (h : w.heap[i]? = some o) : (w.putObj i o').heap[i]? = some o' := World.putObj_heap_same (Array.getElem?_eq_some_iff.1 h).1
theorem put_other {w : World} {i r : Nat} {o o' : Obj} (h : w.heap[i]? = some o) (hne : i ≠ r) : (w.putObj r o').heap[i]? = some o := by rw [World.putObj_heap_other hne]; exact h
set_option maxRecDepth 10000 in
theorem frEnds_any (A : Option Addr) (n c : Nat) (l : List UInt8) (w : World) (hn : n ≤ 140737488355328) (hnc : n ≤ c) (hr : Reads w w.heap.size 1 A n (bv l)) :
    Calls Try.prog 87 #[.slice A n c] w fun e w' => ∃ k, (∀ i, i < k → Frame.okAt l i) ∧ ¬ Frame.okAt l k ∧
      e = .returned (.tuple #[.int .i64 (Frame.place l k), .bool (decide (Frame.place l k = n))]) ∧ Below w.heap.size w w' := by
  have hln : l.length = n := by have := hr.1; rw [bv_length] at this; omega
  refine calls_vw Try.func87 rfl (by kernel_rfl) ?_
  refine VW.seq (VW.vc (by kernel_rfl) ?_)
  ((conv => whnf); (repeat ((first | (refine VL.cons ?_) | (refine VC.region ?_)); (conv => whnf))))
  ((repeat ((fail); (conv => whnf))))
  refine VSem.boxB ?_
  intro w1 g1 hb1 hg1 hl1 hB1
  ((conv => whnf); (repeat ((first | (refine VL.cons ?_) | (refine VL.nil ?_)); (conv => whnf))))
  ((repeat ((fail); (conv => whnf))))
  refine VW.seq (VW.vc (by kernel_rfl) ?_)
  ((conv => whnf); (repeat ((first | (refine VL.cons ?_) | (refine VC.region ?_)); (conv => whnf))))
  ((repeat ((fail); (conv => whnf))))
  refine VSem.allocZ (z := .int .i64 0) (by kernel_rfl) ?_
  intro w2 g4 hb4 hg4 hl4 hB2
  ((conv => whnf); (repeat ((first | (refine VL.cons ?_)); (conv => whnf))))
  ((repeat ((fail); (conv => whnf))))
  refine VUnit.storeB hb4 rfl rfl rfl ?_
  intro w3 hb4' hg3
  have hB3 : Below w1.heap.size w1 w3 := only_new hB2 hg3 (by omega) (by omega)
  have hb1' := hb1.later hB3
  ((conv => whnf); (repeat ((first | (refine VL.nil ?_)); (conv => whnf))))
  ((repeat ((fail); (conv => whnf))))
  refine VW.seq (VW.seq (VW.vc (by kernel_rfl) ?_))
  ((conv => whnf); (repeat ((first | (refine VL.cons ?_) | (refine VC.region ?_)); (conv => whnf))))
  ((repeat ((fail); (conv => whnf))))
  refine VRead.loadB hb1' rfl rfl ?_
  ((conv => whnf); (repeat ((first | (refine VL.cons ?_)); (conv => whnf))))
  ((repeat ((fail); (conv => whnf))))
  refine VCall.of (frAll_any (.slice A n c) ⟨_, _, _, rfl⟩ w3) ?_
  rintro e w4 ⟨gx, rfl, hbx, hgx, hB4⟩
  refine ⟨_, rfl, ?_⟩
  ((conv => whnf); (repeat ((first | (refine VL.nil ?_)); (conv => whnf))))
  ((repeat ((fail); (conv => whnf))))
  have hB14 : Below w.heap.size w w4 := (hB1.trans (hB3.mono hB1.size)).trans (hB4.mono (by have := hB1.size; have := hB3.size; omega))
  refine VW.block (VW.range rfl (by kernel_rfl) ?_)
  intro r w5 hr1 hr2 hr3 hr4 hr5 hA5 hB5 hD5 hL5 hS5
  have hJ0 : EndsJ l (.slice A n c) w r w4.heap.size g1 g4 gx 0 w5 :=
    ⟨(hb1'.later hB4).later hB5, (hb4'.later hB4).later hB5, hbx.later hB5, hD5, hL5, hB14.trans (hB5.mono hB14.size)⟩
  refine VCall.of (all1 _ ⟨gx, 0, none⟩ A n c l (EndsJ l (.slice A n c) w r w4.heap.size g1 g4 gx) (fun _ _ => False) w5 hn hnc hln (.inr ⟨_, rfl⟩) ?_ hJ0) ?_
  · refine ⟨fun k W hJ => ⟨?_, ?_⟩, fun k W W' hJ hb => hJ.later hb, fun k W hk hok hJ B v m hO => ?_⟩
    · rw [hJ.bx.cell 0]; rfl
    · exact (hr.below hJ.since).more hJ.since.size
    refine VYield.of hJ.ll hr1 hA5 (by rw [hr3, hr4, hr5]; kernel_rfl) ?_
    rw [hr3, hr4, hr5]
    have hs1 : g1 < w4.heap.size := by have := blk_lt hb1'; have := hB4.size; omega
    have hs4 : g4 < w4.heap.size := by have := blk_lt hb4'; have := hB4.size; omega
    have hsx : gx < w4.heap.size := blk_lt hbx
    have hs43 : g4 < w3.heap.size := blk_lt hb4'
    have hp := Frame.place_ok hok
    have hsW : w4.heap.size + 1 < W.heap.size := (Array.getElem?_eq_some_iff.1 hJ.ll).1
    ((conv => whnf); (repeat ((first | (refine VL.cons ?_) | (refine VL.nil ?_) | (refine VC.region ?_)); (conv => whnf))))
    refine ⟨r, hJ.ll, hr1, ?_⟩
    obtain ⟨W2, hW2⟩ : ∃ W2, W2 = W.putObj (w4.heap.size + 1) (.loop { r with state := .busy }) := ⟨_, rfl⟩
    rw [← hW2]
    have k1 : Blk W2 g1 31 #[.slice A n c] := by rw [hW2]; exact hJ.b1.putObj (by omega) _
    have k4 : Blk W2 g4 3 #[.int .i64 (Frame.place l k)] := by rw [hW2]; exact hJ.b4.putObj (by omega) _
    have kx : Blk W2 gx 31 #[.slice A n c] := by rw [hW2]; exact hJ.bx.putObj (by omega) _
    have kd : W2.heap[w4.heap.size]? = some (.deferred (some [])) := by rw [hW2]; exact put_other hJ.dd (by omega)
    have kl : W2.heap[w4.heap.size + 1]? = some (.loop { r with state := .busy }) := by rw [hW2]; exact put_same hJ.ll
    have ks : Below w.heap.size w W2 := by rw [hW2]; exact Below.putObj hJ.since (by have := hB14.size; omega) _
    clear hW2
    ((conv => whnf); (repeat ((first | (refine VL.cons ?_) | (refine VC.region ?_) | (refine VC.block ?_)); (conv => whnf))))
    ((repeat ((fail); (conv => whnf))))
    refine VRead.loadB k1 rfl rfl ?_
    ((conv => whnf); (repeat ((first | (refine VL.cons ?_)); (conv => whnf))))
    ((repeat ((fail); (conv => whnf))))
    refine VCall.of (frGet_any A n c l (Frame.place l k) W2 hn hnc (by omega) ((hr.below ks).more ks.size)) ?_
    rintro e W3 ⟨A1, m1, c1, rfl, hO1, hB⟩
    refine ⟨_, rfl, ?_⟩
    have q1 := k1.later hB
    have q4 := k4.later hB
    have qx := kx.later hB
    have qd := obj_later kd hB
    have ql := obj_later kl hB
    have qs := ks.trans (hB.mono ks.size)
    ((conv => whnf); (repeat ((first | (refine VL.cons ?_)); (conv => whnf))))
    ((repeat ((fail); (conv => whnf))))
    refine VUnit.storeB q4 rfl rfl rfl ?_
    intro W4 p4 hg
    ((conv => whnf); (repeat ((first | (refine VL.nil ?_)); (conv => whnf))))
    ((repeat ((fail); (conv => whnf))))
    refine ⟨_, obj_only ql hg (by omega), .inl ⟨rfl, ?_⟩⟩
    have p1 := q1.only hg (by omega)
    have px := qx.only hg (by omega)
    have pd := obj_only qd hg (by omega)
    have pl := obj_only ql hg (by omega)
    have ps : Below w.heap.size w W4 := only_new qs hg (by omega) qs.size
    have er : (Loop.mk .ready none r.fn r.tmps r.params r.assign r.body r.defers) = r := by
      cases r; simp only at hr1 hr2; subst hr1 hr2; rfl
    have hsz := hB14.size
    refine ⟨p1.putObj (by omega) _, p4.putObj (by omega) _, px.putObj (by omega) _, put_other pd (by omega), ?_, Below.putObj ps (by omega) _⟩
    rw [put_same pl]
    exact congrArg (fun x => some (Obj.loop x)) er
  · rintro e W ⟨rfl, k, hk, hh⟩
    obtain ⟨hno, hJ⟩ := hh.resolve_right (fun h => h.2)
    refine ⟨_, rfl, r, hJ.ll, by rw [hr1]; decide, ?_⟩
    rw [hr2]
    have hs1 : g1 < w4.heap.size := by have := blk_lt hb1'; have := hB4.size; omega
    have hs4 : g4 < w4.heap.size := by have := blk_lt hb4'; have := hB4.size; omega
    have hsz := hB14.size
    have hp := Frame.place_le hk
    (conv => whnf)
    obtain ⟨W2, hW2⟩ : ∃ W2, W2 = W.putObj (w4.heap.size + 1) (.loop { r with state := .exhausted, pending := none }) := ⟨_, rfl⟩
    rw [← hW2]
    have k1 : Blk W2 g1 31 #[.slice A n c] := by rw [hW2]; exact hJ.b1.putObj (by omega) _
    have k4 : Blk W2 g4 3 #[.int .i64 (Frame.place l k)] := by rw [hW2]; exact hJ.b4.putObj (by omega) _
    have kd : W2.heap[w4.heap.size]? = some (.deferred (some [])) := by rw [hW2]; exact put_other hJ.dd (by omega)
    have ks : Below w.heap.size w W2 := by rw [hW2]; exact Below.putObj hJ.since (by omega) _
    clear hW2
    have hc1 : ∀ W, World.drewN W2 1 = W → W.cell? ⟨g1, 0, none⟩ = some (.slice A n c) := by rintro W rfl; exact k1.cell 0
    have hc4 : ∀ W, World.drewN W2 1 = W → W.cell? ⟨g4, 0, none⟩ = some (.int .i64 (Frame.place l k)) := by rintro W rfl; exact k4.cell 0
    refine VW.vc (by kernel_rfl) ?_
    ((conv => whnf); (repeat ((fail); (conv => whnf))))
    refine VC.seq ?_
    refine VC.draw ?_
    (refine VDraw.seg (Eq (World.drewN _ 1)) [] [0, 1, 2, 3, 4, 5, 6] (by kernel_rfl) (by kernel_rfl) rfl ?_; (conv => whnf))
    ((conv => whnf); (repeat ((first | (refine VQ.cons ?_) | (refine VG.nil ?_)); (conv => whnf))))
    ((repeat ((first | (refine VC.ret ?_) | (refine VQ.cons ?_) | (refine VQ.nil ?_) | (refine VRead.lenS ?_) | (refine VRead.load (by assumption) ?_)); (conv => whnf))))
    refine ⟨kd, ?_⟩
    exact ⟨k, hk, hno, rfl, Below.putObj (below_drewN ks 1) (by omega) _⟩
end Go.Proofs.Ytebeidnmplnlpaa
end

section
set_option maxRecDepth 10000
namespace Go.Proofs.Ytebeidnmplnlpaa
set_option linter.unusedVariables false
open Go.RowKit

/-! ### small things -/
theorem Off.of_own {w : World} {U : Foot} {B n c : Nat} {A : Option Addr} {l : List UInt8} (h : Own w B (.slice A n c) n l) (hf : Free U (.slice A n c)) : Off U A n := fun h0 => by
  obtain ⟨ad, rfl, _, _⟩ := h.reads.2 h0
  exact ⟨ad, rfl, hf _ rfl⟩
theorem Off.take {U : Foot} {A : Option Addr} {n m : Nat} (h : Off U A n) (hm : m ≤ n) : Off U A m := fun h0 => h (by omega)
theorem Off.cutA {U : Foot} {A : Option Addr} {n c m : Nat} (h : Off U A n) (hm : m ≤ n) : Off U (Go.Proofs.Ytebeidnmplnlpaa.cutA A c m) (n - m) := fun h0 => by
  obtain ⟨ad, rfl, hu⟩ := h (by omega)
  unfold Go.Proofs.Ytebeidnmplnlpaa.cutA
  split
  · exact ⟨ad, rfl, hu⟩
  · refine ⟨_, rfl, ?_⟩
    have : (ad.add m).block = ad.block := by unfold Addr.add; split <;> rfl
    rw [this]; exact hu
theorem pInt_up {B : Nat} (A : Option Addr) (n c : Nat) (l : List UInt8) (v : Int) (w : World) (hB : B ≤ w.heap.size) (hn : n + 10 ≤ 140737488355328) (hnc : n ≤ c) (hv : -9223372036854775808 ≤ v ∧ v ≤ 9223372036854775807) (hrd : Reads w w.heap.size 1 A n (bv l)) :
    Calls Try.prog 49 #[.slice A n c, .int .i64 v] w fun e w' => ∃ A' m c', e = .returned (.slice A' m c') ∧ Own w' B (.slice A' m c') m (l ++ Wire.int v) ∧ m ≤ n + 10 ∧ n + 1 ≤ m ∧ m ≤ c' ∧ Below w.heap.size w w' := by
  refine (putInt_any A n c l v w hn hnc hv hrd).mono ?_
  rintro e w' ⟨A', m, c', rfl, h1, h2⟩
  have hl := h1.len
  have h3 := Wire.int_len v
  have h4 : l.length = n := by have := hrd.1; rw [bv_length] at this; omega
  rw [List.length_append] at hl
  exact ⟨A', m, c', rfl, rows_more h1 hB, by omega, by omega, h1.cap, h2⟩
def isPre (pre s : List UInt8) : Bool := decide (s.take pre.length = pre)
theorem hasPrefix_any (s pre : List UInt8) (w : World) (hs : s.length ≤ 9223372036854775807) (hp : pre.length ≤ 9223372036854775807) :
    Calls Try.prog 53 #[.string (txt s), .string (txt pre)] w fun e w' => e = .returned (.bool (isPre pre s)) ∧ w' = w := by
  have z1 : ByteArray.size (txt pre) = pre.length := txt_size _
  have z2 : ByteArray.size (txt s) = s.length := txt_size _
  have inner : Calls Try.prog 86 #[.string (txt s), .string (txt pre)] w fun e w' => e = .returned (.bool (isPre pre s)) ∧ w' = w := by
    refine calls_vc Try.func86 rfl (by kernel_rfl) ?_
    by_cases hl : pre.length ≤ s.length
    · ((conv => whnf); (repeat ((first | (refine VL.cons ?_) | (refine VL.nil ?_) | (refine VC.seqS rfl ?_) | (refine VC.region ?_)); (conv => whnf))))
      ((repeat ((first | (refine VL.cons ?_) | (refine VBool.t ?_) | (refine VBool.dT (by omega) ?_) | (refine VRead.lenT ?_)); (conv => whnf))))
      refine VRead.txtH pre.length (by omega) hl ?_
      ((conv => whnf); (repeat ((first | (refine VL.cons ?_)); (conv => whnf))))
      ((repeat ((first | (refine VL.cons ?_) | (refine VL.nil ?_) | (refine VC.ret ?_) | (refine VBool.t ?_)); (conv => whnf))))
      refine ⟨?_, rfl⟩
      show Ending.returned (.bool (decide (txt (s.take pre.length) = txt pre))) = _
      rw [txt_dec]
      rfl
    · have e : isPre pre s = false := by
        unfold isPre
        rw [decide_eq_false]
        intro h
        have := congrArg List.length h
        rw [List.length_take] at this
        omega
      rw [e]
      ((conv => whnf); (repeat ((first | (refine VL.cons ?_) | (refine VL.nil ?_) | (refine VC.seqS rfl ?_) | (refine VC.region ?_)); (conv => whnf))))
      ((repeat ((first | (refine VL.cons ?_) | (refine VL.nil ?_) | (refine VC.ret ?_) | (refine VBool.f ?_) | (refine VBool.dF (by omega) ?_) | (refine VRead.lenT ?_)); (conv => whnf))))
      exact ⟨rfl, rfl⟩
  refine calls_vc Try.func53 rfl (by kernel_rfl) ?_
  ((conv => whnf); (repeat ((first | (refine VL.cons ?_) | (refine VL.nil ?_) | (refine VC.seqS rfl ?_) | (refine VC.region ?_)); (conv => whnf))))
  ((repeat ((fail); (conv => whnf))))
  refine VCall.of inner ?_
  rintro e w' ⟨rfl, rfl⟩
  refine ⟨_, rfl, ?_⟩
  ((conv => whnf); (repeat ((first | (refine VL.cons ?_) | (refine VL.nil ?_) | (refine VC.ret ?_)); (conv => whnf))))
  ((repeat ((fail); (conv => whnf))))
  exact ⟨rfl, rfl⟩

/-! ### plain -/
def frN : List UInt8 := [115, 110, 97, 112, 45, 116, 109, 112]
def chunksN : Nat → List UInt8 → List (List UInt8)
  | 0, _ => []
  | n + 1, l => if l = [] then [] else l.take 1000 :: chunksN n (l.drop 1000)
theorem chunksN_fuel : ∀ (n m : Nat) (l : List UInt8), l.length ≤ n → l.length ≤ m → chunksN n l = chunksN m l
  | 0, 0, _, _, _ => rfl
  | 0, m + 1, l, h, _ => by
    obtain rfl : l = [] := List.eq_nil_of_length_eq_zero (by omega)
    simp [chunksN]
  | n + 1, 0, l, _, h => by
    obtain rfl : l = [] := List.eq_nil_of_length_eq_zero (by omega)
    simp [chunksN]
  | n + 1, m + 1, l, h1, h2 => by
    unfold chunksN
    by_cases h : l = []
    · rw [if_pos h, if_pos h]
    · have : 0 < l.length := List.length_pos_iff.2 h
      rw [if_neg h, if_neg h, chunksN_fuel n m (l.drop 1000) (by rw [List.length_drop]; omega) (by rw [List.length_drop]; omega)]
def chunks (l : List UInt8) : List (List UInt8) := chunksN l.length l
theorem chunks_nil : chunks [] = [] := rfl
theorem chunks_cons {l : List UInt8} (h : l ≠ []) : chunks l = l.take 1000 :: chunks (l.drop 1000) := by
  have h0 : 0 < l.length := List.length_pos_iff.2 h
  unfold chunks
  rw [chunksN_fuel l.length (l.length + 1) l (Nat.le_refl _) (by omega)]
  show (if l = [] then [] else l.take 1000 :: chunksN l.length (l.drop 1000)) = _
  rw [if_neg h, chunksN_fuel l.length (l.drop 1000).length (l.drop 1000) (by rw [List.length_drop]; omega) (Nat.le_refl _)]
def hdB (i t : Int) (n : Nat) : List UInt8 := Wire.int i ++ Wire.int t ++ Wire.int (n : Int)
/-- one thing after another, till one fails -/
def andT (A : Int × DS) (f : DS → Int × DS) : Int × DS := if A.1 = 0 then f A.2 else A
def DS.appends (S : DS) (nm : List UInt8) : List (List UInt8) → Int × DS
  | [] => (0, S)
  | b :: r => andT (S.append nm (Frame.put b)) fun S' => DS.appends S' nm r
def DS.clear (S : DS) (pre nm : List UInt8) : List (List UInt8) → Int × DS
  | [] => (0, S)
  | x :: r => if isPre pre x = true ∧ x ≠ nm then andT (S.remove x) fun S' => DS.clear S' pre nm r else DS.clear S pre nm r
def DS.keys (S : DS) : List (List UInt8) := S.t.map (·.1)
def svBad (i t : Int) (n : Nat) : Prop := snName i = [] ∨ t < 1 ∨ 1099511627776 < t ∨ n < 1 ∨ 1048576 < n
instance (i t : Int) (n : Nat) : Decidable (svBad i t n) := by unfold svBad; infer_instance
def DS.save (S : DS) (i t : Int) (data : List UInt8) : Int × DS :=
  if svBad i t data.length then (1, S) else
  andT (S.create frN) fun S1 => andT (S1.appends frN (hdB i t data.length :: chunks data)) fun S2 => andT (S2.sync frN) fun S3 =>
    andT (S3.rename frN (snName i)) fun S4 => S4.clear snPre (snName i) S4.keys
theorem andT_ok {A : Int × DS} {f : DS → Int × DS} (h : A.1 = 0) : andT A f = f A.2 := by unfold andT; rw [if_pos h]
theorem andT_no {A : Int × DS} {f : DS → Int × DS} (h : ¬ A.1 = 0) : andT A f = A := by unfold andT; rw [if_neg h]
end Go.Proofs.Ytebeidnmplnlpaa
end

section
set_option maxRecDepth 10000
namespace Go.Proofs.Ytebeidnmplnlpaa
set_option linter.unusedVariables false
open Go.RowKit

end Go.Proofs.Ytebeidnmplnlpaa
end

section
namespace Go.Proofs.Ytebeidnmplnlpaa.Frame
set_option linter.unusedVariables false

theorem stop_le {l : List UInt8} {k j : Nat} (hk : ∀ i, i < k → okAt l i) (hj : ¬ okAt l j) : k ≤ j := by
  rcases Nat.lt_or_ge j k with h | h
  · exact absurd (hk j h) hj
  · exact h
def laid (bs : List (List UInt8)) : List UInt8 := (bs.map put).flatten
def Good (bs : List (List UInt8)) : Prop := ∀ b ∈ bs, 1 ≤ b.length ∧ b.length ≤ 2000
def ends (bs : List (List UInt8)) : List Int := (List.range bs.length).map fun i => ((laid (bs.take (i + 1))).length : Int)
theorem laid_append (a b : List (List UInt8)) : laid (a ++ b) = laid a ++ laid b := by simp [laid]
theorem laid_one (b : List UInt8) : laid [b] = put b := by simp [laid]
theorem take_succ {α : Type} {l : List α} {i : Nat} {x : α} (h : l[i]? = some x) : l.take (i + 1) = l.take i ++ [x] := by
  rw [List.take_add_one, h]; rfl
theorem put_pos (b : List UInt8) : 5 ≤ (put b).length := by
  have := (Wire.int_len (b.length : Int)).1
  rw [put_len]; omega
theorem laid_split {bs : List (List UInt8)} {i : Nat} {b : List UInt8} (h : bs[i]? = some b) : laid bs = laid (bs.take i) ++ (put b ++ laid (bs.drop (i + 1))) := by
  have hlt := (List.getElem?_eq_some_iff.1 h).1
  have h2 := (List.getElem?_eq_some_iff.1 h).2
  have e : bs = bs.take i ++ (b :: bs.drop (i + 1)) := by
    rw [← h2, ← List.drop_eq_getElem_cons hlt, List.take_append_drop]
  calc laid bs = laid (bs.take i ++ (b :: bs.drop (i + 1))) := by rw [← e]
    _ = _ := by rw [laid_append]; rfl
theorem get_mid {p b r : List UInt8} (h1 : 1 ≤ b.length) (h2 : b.length ≤ 1048576) : get (p ++ (put b ++ r)) (p.length : Int) = (b, (p.length : Int) + (put b).length, 0) := by
  have h5 := put_pos b
  unfold get
  rw [if_neg (by simp only [List.length_append]; omega), if_neg (by simp only [List.length_append]; omega), Int.toNat_natCast, List.drop_left' rfl, first_put r h1 h2]
theorem get_stop {p t : List UInt8} (h : first t = none) : (get (p ++ t) (p.length : Int)).2.2 ≠ 0 := by
  unfold get
  rw [if_neg (by simp only [List.length_append]; omega)]
  split
  · decide
  · rw [Int.toNat_natCast, List.drop_left' rfl, h]; exact (by decide : (4 : Int) ≠ 0)
section
variable {l t : List UInt8} {bs : List (List UInt8)} (e : l = laid bs ++ t) (hg : Good bs)
include e hg
end
end Go.Proofs.Ytebeidnmplnlpaa.Frame
end

section
namespace Go.Proofs.Ytebeidnmplnlpaa.Frame
set_option linter.unusedVariables false
open Go.RowKit

def Ok1 (bs : List (List UInt8)) : Prop := ∀ b ∈ bs, 1 ≤ b.length ∧ b.length ≤ 1048576
def parse : Nat → List UInt8 → List (List UInt8) × List UInt8
  | 0, l => ([], l)
  | n + 1, l => match first l with
    | none => ([], l)
    | some (b, r) => (b :: (parse n r).1, (parse n r).2)
def bodies (l : List UInt8) : List (List UInt8) := (parse l.length l).1
def rest (l : List UInt8) : List UInt8 := (parse l.length l).2
theorem laid_cons (b : List UInt8) (bs : List (List UInt8)) : laid (b :: bs) = put b ++ laid bs := by simp [laid]
theorem laid_nil : laid [] = [] := rfl
theorem parse_spec : ∀ (n : Nat) (l : List UInt8), l.length ≤ n → l = laid (parse n l).1 ++ (parse n l).2 ∧ first (parse n l).2 = none ∧ Ok1 (parse n l).1
  | 0, l, h => by
    obtain rfl : l = [] := List.eq_nil_of_length_eq_zero (by omega)
    exact ⟨rfl, first_nil, fun b hb => by simp [parse] at hb⟩
  | n + 1, l, h => by
    unfold parse
    cases hf : first l with
    | none => exact ⟨rfl, hf, fun b hb => by simp at hb⟩
    | some p =>
      obtain ⟨b, r⟩ := p
      obtain ⟨e, h1, h2⟩ := first_some hf
      have hp := put_pos b
      have hl := congrArg List.length e
      rw [List.length_append] at hl
      obtain ⟨i1, i2, i3⟩ := parse_spec n r (by omega)
      refine ⟨?_, i2, fun x hx => ?_⟩
      · simp only
        rw [laid_cons, List.append_assoc, ← i1]
        exact e
      · rcases List.mem_cons.1 hx with rfl | hx
        · exact ⟨h1, h2⟩
        · exact i3 x hx
theorem bodies_spec (l : List UInt8) : l = laid (bodies l) ++ rest l ∧ first (rest l) = none ∧ Ok1 (bodies l) := parse_spec l.length l (Nat.le_refl _)
theorem parse_laid : ∀ (bs : List (List UInt8)) (t : List UInt8) (n : Nat), Ok1 bs → first t = none → (laid bs ++ t).length ≤ n → parse n (laid bs ++ t) = (bs, t)
  | [], t, 0, _, ht, h => rfl
  | [], t, n + 1, _, ht, h => by
    unfold parse
    rw [laid_nil, List.nil_append, ht]
  | b :: bs, t, 0, hb, ht, h => by
    have := put_pos b
    rw [laid_cons] at h
    simp only [List.length_append] at h
    omega
  | b :: bs, t, n + 1, hb, ht, h => by
    have hp := put_pos b
    have hbb := hb b (by simp)
    rw [laid_cons, List.append_assoc] at h ⊢
    unfold parse
    rw [first_put _ hbb.1 hbb.2]
    simp only
    rw [parse_laid bs t n (fun x hx => hb x (List.mem_cons_of_mem _ hx)) ht (by rw [List.length_append] at h; omega)]
theorem bodies_laid {bs : List (List UInt8)} {t : List UInt8} (hb : Ok1 bs) (ht : first t = none) : bodies (laid bs ++ t) = bs ∧ rest (laid bs ++ t) = t := by
  unfold bodies rest
  rw [parse_laid bs t _ hb ht (Nat.le_refl _)]
  exact ⟨rfl, rfl⟩
theorem bodies_all {bs : List (List UInt8)} (hb : Ok1 bs) : bodies (laid bs) = bs ∧ rest (laid bs) = [] := by
  have := bodies_laid hb first_nil
  rwa [List.append_nil] at this
section
variable {l t : List UInt8} {bs : List (List UInt8)} (e : l = laid bs ++ t) (hg : Ok1 bs)
include e hg
theorem each_get {i : Nat} {b : List UInt8} (h : bs[i]? = some b) : get l ((laid (bs.take i)).length : Int) = (b, ((laid (bs.take (i + 1))).length : Int), 0) := by
  have hb := hg b (List.mem_of_getElem? h)
  rw [e, laid_split h, List.append_assoc, List.append_assoc, get_mid hb.1 hb.2, take_succ h, laid_append, laid_one, List.length_append]
  simp
theorem each_place : ∀ i, i ≤ bs.length → place l i = ((laid (bs.take i)).length : Int)
  | 0, _ => by simp [laid, place]
  | i + 1, h => by
    obtain ⟨b, hb⟩ : ∃ b, bs[i]? = some b := ⟨_, List.getElem?_eq_getElem (by omega)⟩
    have e1 : place l (i + 1) = (get l (place l i)).2.1 := rfl
    rw [e1, each_place i (by omega), each_get e hg hb]
theorem each_ok {i : Nat} (h : i < bs.length) : okAt l i := by
  obtain ⟨b, hb⟩ : ∃ b, bs[i]? = some b := ⟨_, List.getElem?_eq_getElem (by omega)⟩
  show (get l (place l i)).2.2 = 0
  rw [each_place e hg i (by omega), each_get e hg hb]
theorem each_body {i : Nat} {b : List UInt8} (h : bs[i]? = some b) : body l i = b := by
  have hlt := (List.getElem?_eq_some_iff.1 h).1
  show (get l (place l i)).1 = b
  rw [each_place e hg i (by omega), each_get e hg h]
theorem each_no (ht : first t = none) : ¬ okAt l bs.length := by
  show ¬ (get l (place l bs.length)).2.2 = 0
  rw [each_place e hg _ (Nat.le_refl _), List.take_of_length_le (Nat.le_refl _), e]
  exact get_stop ht
end
/-- how far the frames go -/
theorem reach_le {l : List UInt8} {k : Nat} (hk : ∀ i, i < k → okAt l i) : k ≤ (bodies l).length := by
  obtain ⟨e, ht, hg⟩ := bodies_spec l
  exact stop_le hk (each_no e hg ht)
theorem reach_eq {l : List UInt8} {k : Nat} (hk : ∀ i, i < k → okAt l i) (hno : ¬ okAt l k) : k = (bodies l).length := by
  obtain ⟨e, ht, hg⟩ := bodies_spec l
  have h1 := reach_le hk
  by_cases h : k = (bodies l).length
  · exact h
  · exact absurd (each_ok e hg (by omega)) hno
theorem whole_iff {l : List UInt8} : place l (bodies l).length = (l.length : Int) ↔ rest l = [] := by
  obtain ⟨e, ht, hg⟩ := bodies_spec l
  rw [each_place e hg _ (Nat.le_refl _), List.take_of_length_le (Nat.le_refl _)]
  have hl := congrArg List.length e
  rw [List.length_append] at hl
  constructor
  · intro h
    exact List.eq_nil_of_length_eq_zero (by omega)
  · intro h
    rw [h] at hl
    simp at hl
    omega
theorem body_at {l : List UInt8} {i : Nat} {b : List UInt8} (h : (bodies l)[i]? = some b) : body l i = b := by
  obtain ⟨e, ht, hg⟩ := bodies_spec l
  exact each_body e hg h
theorem body_ok {l : List UInt8} {i : Nat} {b : List UInt8} (h : (bodies l)[i]? = some b) : 1 ≤ b.length ∧ b.length ≤ 1048576 := (bodies_spec l).2.2 b (List.mem_of_getElem? h)
theorem place_at {l : List UInt8} {i : Nat} (h : i ≤ (bodies l).length) : place l i = ((laid ((bodies l).take i)).length : Int) := by
  obtain ⟨e, ht, hg⟩ := bodies_spec l
  exact each_place e hg i h
theorem place_zero {l : List UInt8} {i : Nat} (h : i < (bodies l).length) : (place l i = 0) ↔ i = 0 := by
  rw [place_at (by omega)]
  constructor
  · intro h0
    cases i with
    | zero => rfl
    | succ i =>
      obtain ⟨b, hb⟩ : ∃ b, (bodies l)[i]? = some b := ⟨_, List.getElem?_eq_getElem (by omega)⟩
      rw [take_succ hb, laid_append, laid_one, List.length_append] at h0
      have := put_pos b
      omega
  · rintro rfl; simp [laid]
end Go.Proofs.Ytebeidnmplnlpaa.Frame
end

section
set_option maxRecDepth 10000
namespace Go.Proofs.Ytebeidnmplnlpaa
set_option linter.unusedVariables false
open Go.RowKit

/-! ### a block without bytes -/
def notU8 : Value → Bool
  | .int .u8 _ => false
  | _ => true
theorem Reads.apartC {T : TypeId} {w w' : World} {k B n : Nat} {A : Option Addr} {cs : Array Value} {l : List UInt8} (h : Reads w B 1 A n (bv l)) (hk : Blk w k T cs) (hcs : cs.toList.all notU8 = true)
    (hb : w.grownBy w' (some k)) (hB : B ≤ w.heap.size) : Reads w' B 1 A n (bv l) := by
  refine ⟨h.1, fun hn => ?_⟩
  obtain ⟨ad, e, hlt, hc⟩ := h.2 hn
  have hl := h.1
  rw [bv_length] at hl
  have hne : ad.block ≠ k := by
    intro he
    obtain ⟨x, l', rfl⟩ : ∃ x l', l = x :: l' := by
      cases l with
      | nil => simp at hl; omega
      | cons x l' => exact ⟨x, l', rfl⟩
    have h0 := hc 0 (.int .u8 (x.toNat : Int)) (by simp [bv])
    rw [show ad.add 0 = ad from by simp [Addr.add]] at h0
    unfold World.cell? at h0
    rw [he] at h0
    unfold Blk at hk
    rw [hk] at h0
    simp only at h0
    split at h0
    · cases h0
    · have hm : (Value.int .u8 (x.toNat : Int)) ∈ cs.toList := by
        rw [← Array.getElem?_toList] at h0
        exact List.mem_of_getElem? h0
      have := List.all_eq_true.1 hcs _ hm
      cases this
  exact ⟨ad, e, hlt, fun j u hu => (World.cell?_of_block (hb.block _ (by rw [block_of_add]; omega) (by rw [block_of_add]; intro e; injection e with e; exact hne e))).trans (hc j u hu)⟩
theorem RS.apartC {T T' : TypeId} {w w' : World} {g k : Nat} {cs : Array Value} {s : Option (List UInt8)} (h : RS T w g s) (hk : Blk w k T' cs) (hcs : cs.toList.all notU8 = true) (hb : w.grownBy w' (some k)) (hne : g ≠ k) : RS T w' g s := by
  have hlt := h.lt
  obtain ⟨l, p, bad, ⟨A, n, c, h1, h2, h3⟩, h4⟩ := h
  exact ⟨l, p, bad, ⟨A, n, c, h1.grown hb (fun e => by injection e with e; exact hne e), h2.apartC hk hcs hb (by omega), h3⟩, h4⟩
end Go.Proofs.Ytebeidnmplnlpaa
end

section
set_option maxRecDepth 10000
namespace Go.Proofs.Ytebeidnmplnlpaa
set_option linter.unusedVariables false
open Go.RowKit

/-! ### plain -/
def hA (h : List UInt8) : Int := (Wire.intS (some h)).1
def hT (h : List UInt8) : Int := (Wire.intS (Wire.intS (some h)).2).1
def hN (h : List UInt8) : Int := (Wire.intS (Wire.intS (Wire.intS (some h)).2).2).1
def hE (h : List UInt8) : Bool := Wire.endS (Wire.intS (Wire.intS (Wire.intS (some h)).2).2).2
structure HdOk (h : List UInt8) (idx : Int) : Prop where
  e : hE h = true
  a : hA h = idx
  t1 : 1 ≤ hT h
  t2 : hT h ≤ 1099511627776
  n1 : 1 ≤ hN h
  n2 : hN h ≤ 1048576
instance (h : List UInt8) (idx : Int) : Decidable (HdOk h idx) :=
  decidable_of_iff (hE h = true ∧ hA h = idx ∧ 1 ≤ hT h ∧ hT h ≤ 1099511627776 ∧ 1 ≤ hN h ∧ hN h ≤ 1048576) ⟨fun ⟨a, b, c, d, e, f⟩ => ⟨a, b, c, d, e, f⟩, fun h => ⟨h.e, h.a, h.t1, h.t2, h.n1, h.n2⟩⟩
def gather (n : Int) : List UInt8 → List (List UInt8) → Option (List UInt8)
  | acc, [] => some acc
  | acc, b :: r => if (b.length : Int) = min 1000 (n - acc.length) then gather n (acc ++ b) r else none
theorem own_form {w : World} {B n : Nat} {v : Value} {l : List UInt8} (h : Own w B v n l) : ∃ A c, v = .slice A n c := by
  rcases h.2 with ⟨rfl, e0⟩ | ⟨g, cap, cur, e1, _⟩
  · exact ⟨none, 0, by rw [e0]⟩
  · exact ⟨_, _, e1⟩
/-- what stays while the frames are read -/
structure RdFix (v : Value) (w : World) (D : Nat) (o : Obj) (idx : Int) (g3 g4 g5 g6 gx : Nat) (W : World) : Prop where
  b3 : Blk W g3 3 #[.int .i64 idx]
  b4 : Blk W g4 3 #[.int .i64 0]
  b5 : Blk W g5 31 #[.slice none 0 0]
  b6 : Blk W g6 4 #[.bool false]
  bx : Blk W gx 31 #[v]
  dd : W.heap[D]? = some (.deferred (some []))
  ll : W.heap[D + 1]? = some o
  since : Below w.heap.size w W
section
variable {v : Value} {w W W' : World} {D : Nat} {o o' : Obj} {idx : Int} {g3 g4 g5 g6 gx g : Nat}
theorem RdFix.later (h : RdFix v w D o idx g3 g4 g5 g6 gx W) (hb : Below W.heap.size W W') : RdFix v w D o idx g3 g4 g5 g6 gx W' :=
  ⟨h.b3.later hb, h.b4.later hb, h.b5.later hb, h.b6.later hb, h.bx.later hb, obj_later h.dd hb, obj_later h.ll hb, h.since.trans (hb.mono h.since.size)⟩
theorem RdFix.only (h : RdFix v w D o idx g3 g4 g5 g6 gx W) (hg : W.grownBy W' (some g)) (h3 : g3 ≠ g) (h4 : g4 ≠ g) (h5 : g5 ≠ g) (h6 : g6 ≠ g) (hx : gx ≠ g) (hd : D ≠ g) (hl : D + 1 ≠ g) (hw : w.heap.size ≤ g) : RdFix v w D o idx g3 g4 g5 g6 gx W' :=
  ⟨h.b3.only hg h3, h.b4.only hg h4, h.b5.only hg h5, h.b6.only hg h6, h.bx.only hg hx, obj_only h.dd hg hd, obj_only h.ll hg hl, only_new h.since hg hw h.since.size⟩
theorem RdFix.loop (h : RdFix v w D o idx g3 g4 g5 g6 gx W) (h3 : g3 < D) (h4 : g4 < D) (h5 : g5 < D) (h6 : g6 < D) (hx : gx < D) (hw : w.heap.size ≤ D) : RdFix v w D o' idx g3 g4 g5 g6 gx (W.putObj (D + 1) o') :=
  ⟨h.b3.putObj (by omega) _, h.b4.putObj (by omega) _, h.b5.putObj (by omega) _, h.b6.putObj (by omega) _, h.bx.putObj (by omega) _, put_other h.dd (by omega), put_same h.ll, Below.putObj h.since (by omega) _⟩
theorem Own.loop {r : Loop} {B n : Nat} {u : Value} {l : List UInt8} (h : Own W B u n l) (hl : W.heap[D]? = some (.loop r)) (o : Obj) : Own (W.putObj D o) B u n l :=
  ownsRow_stay h (fun g hg => by
    obtain ⟨cs, hc⟩ := (row_cells h g hg).2
    refine World.putObj_heap_other (fun e => ?_)
    subst e
    rw [hl] at hc; cases hc)
end
/-- what the frames have said so far -/
def RdAcc (bs : List (List UInt8)) (idx : Int) (D g9 g10 g11 g12 : Nat) (k : Nat) (W : World) : Prop :=
  (k = 0 ∧ Blk W g9 3 #[.int .i64 0] ∧ Blk W g10 3 #[.int .i64 0] ∧ Blk W g11 3 #[.int .i64 0] ∧ Blk W g12 31 #[.slice none 0 0]) ∨
  (∃ h cs, bs = h :: cs ∧ 1 ≤ k ∧ HdOk h idx ∧ Blk W g9 3 #[.int .i64 (hA h)] ∧ Blk W g10 3 #[.int .i64 (hT h)] ∧ Blk W g11 3 #[.int .i64 (hN h)] ∧
    ∃ Ad cd acc, Blk W g12 31 #[.slice Ad acc.length cd] ∧ Own W D (.slice Ad acc.length cd) acc.length acc ∧ gather (hN h) [] (cs.take (k - 1)) = some acc)
theorem RdAcc.later {bs : List (List UInt8)} {idx : Int} {D g9 g10 g11 g12 k : Nat} {W W' : World} (h : RdAcc bs idx D g9 g10 g11 g12 k W) (hb : Below W.heap.size W W') : RdAcc bs idx D g9 g10 g11 g12 k W' := by
  rcases h with ⟨h0, h1, h2, h3, h4⟩ | ⟨h, cs, e1, e2, e3, h1, h2, h3, Ad, cd, acc, h4, h5, h6⟩
  · exact .inl ⟨h0, h1.later hb, h2.later hb, h3.later hb, h4.later hb⟩
  · exact .inr ⟨h, cs, e1, e2, e3, h1.later hb, h2.later hb, h3.later hb, Ad, cd, acc, h4.later hb, rows_below h5 hb (Nat.le_refl _), h6⟩
theorem RdAcc.loop {bs : List (List UInt8)} {idx : Int} {D g9 g10 g11 g12 k : Nat} {W : World} {r : Loop} (h : RdAcc bs idx D g9 g10 g11 g12 k W) (hl : W.heap[D + 1]? = some (.loop r)) (h9 : g9 < D) (h10 : g10 < D) (h11 : g11 < D) (h12 : g12 < D) (o : Obj) : RdAcc bs idx D g9 g10 g11 g12 k (W.putObj (D + 1) o) := by
  rcases h with ⟨h0, h1, h2, h3, h4⟩ | ⟨h, cs, e1, e2, e3, h1, h2, h3, Ad, cd, acc, h4, h5, h6⟩
  · exact .inl ⟨h0, h1.putObj (by omega) _, h2.putObj (by omega) _, h3.putObj (by omega) _, h4.putObj (by omega) _⟩
  · exact .inr ⟨h, cs, e1, e2, e3, h1.putObj (by omega) _, h2.putObj (by omega) _, h3.putObj (by omega) _, Ad, cd, acc, h4.putObj (by omega) _, h5.loop hl o, h6⟩
end Go.Proofs.Ytebeidnmplnlpaa
end

section
set_option maxRecDepth 10000
namespace Go.Proofs.Ytebeidnmplnlpaa
set_option linter.unusedVariables false
open Go.RowKit

section
variable {U : Foot} {r c : Nat} {A : Option Addr} {xs : List Value} {K : Dk} {T : PT}
end
end Go.Proofs.Ytebeidnmplnlpaa
end

section
namespace Go.Proofs.Ytebeidnmplnlpaa
set_option linter.unusedVariables false
open Go.ChangeShapes Go.WideShapes Go.ChangeAt Go.RowKit
open Go.Deep (open_bools boolRow)

def InInts (w : World) (A : Option Addr) (n c : Nat) (l : List Int) : Prop :=
  Reads w w.heap.size 1 A n (iv .i64 l) ∧ n ≤ c ∧ c ≤ 17592186043904 ∧ ∀ x ∈ l, -9223372036854775808 ≤ x ∧ x ≤ 9223372036854775807
theorem row_block {x : Addr} {n : Nat} {W : World} (hn : 0 < n) {q : List MemPlace} (h : ∀ y ∈ MemPlace.row x n ++ q, y.block < W.heap.size) : x.block < W.heap.size :=
  h (.cell x.block x.off) (by
    rw [List.mem_append]; left
    unfold MemPlace.row
    rw [List.mem_map]
    exact ⟨0, by simp; omega, by simp⟩)
theorem Reads.of_cells0 {W : World} {x : Addr} {n m : Nat} {xs : List Value} {q : List MemPlace} (hl : xs.length = n) (hnm : n ≤ m) (hb : ∀ y ∈ MemPlace.row x m ++ q, y.block < W.heap.size) (h : ∀ j u, xs[j]? = some u → W.cell? (x.add j) = some u) : Reads W W.heap.size 1 (some x) n xs :=
  ⟨by omega, fun hn => ⟨x, rfl, row_block (by omega) hb, h⟩⟩

section
variable {H : Type} {enc : TypeId × Value → H} {P : Program}
theorem in_ints {t e : TypeId} (ht : P.underlying t = some (.slice e)) (he : P.underlying e = some (.int .i64)) (hc : P.cellsOf e = 1) (hby : P.bytesOf e = 8)
    {W : World} {A : Option Addr} {n c : Nat} {d : DataW H} {p : List MemPlace} (h : DataW.Trod enc P W 0 (fun _ => true) true t (.slice A n c) d p)
    {ts : List TypeId} {ds : List (DataW H)} (hsz : (DataW.weightsEach P ts ds).all (· ≤ reachBytes) = true) {j : Nat} (hj : ts[j]? = some t) (hd : ds[j]? = some d) :
    ∃ l, InInts W A n c l ∧ n + 1 ≤ Rows.uptoBulk d := by
  have hlt : ∀ x ∈ p, x.block < W.heap.size := by obtain ⟨m, hm⟩ := h; exact DataW.trod_lt m _ _ _ hm
  obtain ⟨fuel, hf⟩ := h
  rcases open_ints ht he hc hf with ⟨hcs, hx⟩ | ⟨x, l, c', zs, hcs, _, hl, hm, hz, hx, hcell, hwz⟩
  · simp [Value.cells] at hcs
    obtain ⟨rfl, rfl, rfl⟩ := hcs
    simp only [Prod.mk.injEq] at hx
    obtain ⟨rfl, rfl⟩ := hx
    exact ⟨[], ⟨Reads.none_, Nat.le_refl _, by omega, fun x hx => by cases hx⟩, by simp [Rows.uptoBulk]⟩
  · simp [Value.cells] at hcs
    obtain ⟨rfl, rfl, rfl⟩ := hcs
    simp only [if_true] at hz
    simp only [Prod.mk.injEq] at hx
    obtain ⟨rfl, rfl⟩ := hx
    have hreach := sized_slice hsz hj hd ht
    simp [lits, hby, reachBytes] at hreach
    refine ⟨zs.take n, ⟨Reads.of_cells0 (q := []) (by simp [iv]; omega) (by omega : n ≤ zs.length) (by simpa using hlt) ?_, hl, by omega, fun y hy => ?_⟩, ?_⟩
    · intro i u hu
      unfold iv at hu
      rw [List.getElem?_map, Option.map_eq_some_iff] at hu
      obtain ⟨y, hy, rfl⟩ := hu
      have hi : i < n := by have := (List.getElem?_eq_some_iff.1 hy).1; simp at this; omega
      rw [List.getElem?_take_of_lt hi] at hy
      rw [hcell i (by omega)]
      simp [List.getD, hy]
    · exact int_bounds (hwz y (List.mem_of_mem_take hy))
    · have e1 := bulk_slice (H := H) (lits .i64 (zs.take n)) (lits .i64 (zs.drop n))
      simp [lits] at e1
      simp [lits]
      omega

end
end Go.Proofs.Ytebeidnmplnlpaa
end

section
set_option maxRecDepth 10000
namespace Go.Proofs.Ytebeidnmplnlpaa
set_option linter.unusedVariables false
open Go.ChangeShapes Go.WideShapes Go.ChangeAt Go.RowKit

structure Op17 where
  kind : Int
  a : Int
  b : Int
  n : Int
  data : List UInt8
  picks : List Int
instance : Inhabited Op17 := ⟨⟨0, 0, 0, 0, [], []⟩⟩
def i64 (z : Int) : Prop := -9223372036854775808 ≤ z ∧ z ≤ 9223372036854775807
structure Op17.Ok (W : World) (B : Nat) (o : Op17) (Ad : Option Addr) (m k : Nat) (Ap : Option Addr) (mp kp : Nat) : Prop where
  kind : i64 o.kind
  a : i64 o.a
  b : i64 o.b
  n : i64 o.n
  le : m ≤ k
  k : k ≤ 140737488351232
  data : Reads W B 1 Ad m (bv o.data)
  lep : mp ≤ kp
  kp : kp ≤ 17592186043904
  picks : Reads W B 1 Ap mp (iv .i64 o.picks)
  each : ∀ x ∈ o.picks, i64 x
def opC (o : Op17) (Ad : Option Addr) (m k : Nat) (Ap : Option Addr) (mp kp : Nat) : Array Value := #[.int .i64 o.kind, .int .i64 o.a, .int .i64 o.b, .int .i64 o.n, .slice Ad m k, .slice Ap mp kp]
def OpsAt (W : World) (B : Nat) (A : Option Addr) (n : Nat) (ops : List Op17) : Prop :=
  ops.length = n ∧ (0 < n → ∃ x, A = some x ∧ x.block < B ∧ ∀ i o, ops[i]? = some o → ∃ Ad m k Ap mp kp, (∀ j u, (opC o Ad m k Ap mp kp).toList[j]? = some u → W.cell? (x.add (6 * i + j)) = some u) ∧ o.Ok W B Ad m k Ap mp kp)
section
variable {H : Type} {enc : TypeId × Value → H}
end
theorem add_blk (x : Addr) (j : Nat) : (x.add j).block = x.block := by unfold Addr.add; split <;> rfl
theorem OpsAt.len {W : World} {B n : Nat} {A : Option Addr} {ops : List Op17} (h : OpsAt W B A n ops) : ops.length = n := h.1
theorem Op17.Ok.below {W W' : World} {B C : Nat} {o : Op17} {Ad Ap : Option Addr} {m k mp kp : Nat} (h : o.Ok W B Ad m k Ap mp kp) (hb : Below B W W') : o.Ok W' B Ad m k Ap mp kp :=
  ⟨h.kind, h.a, h.b, h.n, h.le, h.k, h.data.below hb, h.lep, h.kp, h.picks.below hb, h.each⟩
/-- an operation of a number, in all later worlds -/
theorem OpsAt.later {W : World} {B i n : Nat} {A : Option Addr} {ops : List Op17} {o : Op17} (h : OpsAt W B A n ops) (ho : ops[i]? = some o) :
    ∃ x Ad m k Ap mp kp, A = some x ∧ ∀ W', Below B W W' → (∀ j u, (opC o Ad m k Ap mp kp).toList[j]? = some u → W'.cell? ((x.add (i * 6)).add j) = some u) ∧ o.Ok W' B Ad m k Ap mp kp := by
  have hi := (List.getElem?_eq_some_iff.1 ho).1
  have h1 := h.1
  obtain ⟨x, hA, hx, h3⟩ := h.2 (by omega)
  obtain ⟨Ad, m, k, Ap, mp, kp, e1, e2⟩ := h3 i o ho
  refine ⟨x, Ad, m, k, Ap, mp, kp, hA, fun W' hb => ⟨fun j u hu => ?_, e2.below (C := 0) hb⟩⟩
  rw [hb.cell (by rw [add_blk, add_blk]; exact hx), Deep.add_add, Nat.mul_comm i 6]
  exact e1 j u hu
end Go.Proofs.Ytebeidnmplnlpaa
end

section
set_option maxRecDepth 10000
namespace Go.Proofs.Ytebeidnmplnlpaa
set_option linter.unusedVariables false
open Go.RowKit

section
variable {U : Foot} {r c : Nat} {A : Option Addr} {xs : List Value} {K : Dk} {T : PT}
end
end Go.Proofs.Ytebeidnmplnlpaa
end

section
set_option maxRecDepth 10000
namespace Go.Proofs.Ytebeidnmplnlpaa
set_option linter.unusedVariables false
open Go.RowKit

/-! ### rules -/
def cutK (A : Option Addr) (c z k : Nat) : Option Addr := if c = z then A else A.map (·.add (z * k))
theorem VRead.cutKH {P : Program} {S : World → Prop} {t e k : Nat} {A : Option Addr} {n c : Nat} {Z : Int} {kk : IntKind} {K : Value → Prop} [i : TSlice P t e k] (z : Nat) (hz : Z = (z : Int)) (h : z ≤ c) (hk : K (.slice A z c)) :
    VRead P S (Instr.sliceAt t (.slice A n c) none (some (.int kk Z)) none) K := by
  subst hz
  exact .ofW (fun W => by
    rw [run_sliceAt_slice W t _ _ _ _ (elem_of i.u), run_slice_h W t A n c (elem_of i.u) kk _ (by omega) (by omega), show P.elem t = e from by unfold Program.elem; rw [i.u], run_size i.s]
    have h0 : A.map (fun x : Addr => x.add 0) = A := by cases A <;> simp [Addr.add]
    simp [sliced, h0]) hk
/-! ### the row turns -/
section
variable {W W' : World} {U : Foot} {r n c c' : Nat} {A A' : Option Addr} {xs xs' : List Value} {K K' : Dk} {T T' : PT}
theorem FEl.own {p : List UInt8 × Fl} {a b d : Value} {cs : Array Value} (h : FEl W U p a b d) (hb : Blk W r 98 cs) (hg : W.grownBy W' (some r)) : FEl W' U p a b d := h.stay (fun A m l hl => hl.blk hb hg (by decide))
theorem FRow.own (h : FRow W U A n c xs T) {cs : Array Value} (hb : Blk W r 98 cs) (hg : W.grownBy W' (some r)) : FRow W' U A n c xs T := by
  refine ⟨ownsRow_stay h.row (fun g hg' => ?_), h.foot, h.els.stay (fun A m l hl => hl.blk hb hg (by decide))⟩
  refine hg.block g (World.ownsRow.lt h.row g hg').2 (fun e => ?_)
  injection e with e
  subst e
  obtain ⟨_, cs, hc⟩ := row_cells h.row _ hg'
  have hb' := hb
  unfold Blk at hb'
  rw [hc] at hb'
  injection hb' with hb'
  injection hb' with _ h2 _
  exact absurd h2 (by decide)
/-- the disk's own cells turn, its row as well -/
theorem RefAt.turn (h : RefAt W U r A c xs K T) (hF : FRow W U A' T'.length c' xs' T') (hb : Blk W' r 98 (rC K' A' T'.length c')) (hg : W.grownBy W' (some r)) : RefAt W' U r A' c' xs' K' T' :=
  ⟨h.hr, hb, hF.own h.blk hg⟩
theorem FRow.cap (h : FRow W U A n c xs T) : n ≤ c := by
  rcases h.row.2 with ⟨e, h0⟩ | ⟨g, cap, cur, e, _, _, h1, _⟩
  · omega
  · injection e with e1 e2 e3
    omega
theorem FRow.nil (W : World) (U : Foot) : FRow W U none 0 0 [] [] := ⟨World.ownsRow_nil _ _ _ _, fun g h => by simp [Value.ownBlock] at h, by simp [FEls]⟩
end
/-! ### the plain insertion -/
end Go.Proofs.Ytebeidnmplnlpaa
end
