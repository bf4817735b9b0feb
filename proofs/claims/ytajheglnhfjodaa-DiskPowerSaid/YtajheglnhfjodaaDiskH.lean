/- The disk: Crash. No condition. -/
import Derived.Test.YtajheglnhfjodaaDiskG
import Derived.Test.YtajheglnhfjodaaVD
set_option maxRecDepth 10000
namespace Go.Proofs.Ytajheglnhfjodaa
set_option linter.unusedVariables false
open Go.RowKit
open Go.Maps (Keyed)
open Go.ChangeMaps Go.WideElems

/-- what lies off the footprint -/
def Off (U : Foot) (A : Option Addr) (n : Nat) : Prop := 0 < n → ∃ ad, A = some ad ∧ ¬ U ad.block
theorem Reads.out {W W' : World} {U : Foot} {B s n : Nat} {A : Option Addr} {l : List Value} (h : Reads W B s A n l) (hB : B ≤ W.heap.size) (hp : Off U A n) (ho : Out U W W') : Reads W' B s A n l := by
  refine ⟨h.1, fun hm => ?_⟩
  obtain ⟨ad, rfl, h3, h4⟩ := h.2 hm
  obtain ⟨ad', e, hu⟩ := hp hm
  obtain rfl := Option.some.inj e
  refine ⟨_, rfl, h3, fun j u hj => ?_⟩
  rw [← h4 j u hj]
  exact World.cell?_of_block (by rw [add_block]; exact ho.block _ (Nat.lt_of_lt_of_le h3 hB) hu)
theorem Off.mono {U V : Foot} {A : Option Addr} {n : Nat} (h : Off U A n) (hV : ∀ j, V j → U j) : Off V A n := fun h0 => by
  obtain ⟨ad, e, h1⟩ := h h0
  exact ⟨ad, e, fun hv => h1 (hV _ hv)⟩
theorem Off.row {W : World} {U : Foot} {B e s n c : Nat} {A : Option Addr} {xs : List Value} (h : W.ownsRow B e s (.slice A n c) n xs) (hU : ∀ j, B ≤ j → ¬ U j) : Off U A n := fun h0 => by
  rcases h.2 with ⟨_, h1⟩ | ⟨g, cap, cur, e, hg, _⟩
  · omega
  · injection e with e1 e2 e3
    exact ⟨_, e1, hU _ hg⟩


def keepAt (ps : List Int) (i : Nat) : Int := if ps.length = 0 then 0 else ps.getD (i % ps.length) 0
def keepN (ps : List Int) (i : Nat) (f : Fl) : Nat := f.sure + (max 0 (min (keepAt ps i) ((f.b.length : Int) - f.sure))).toNat
def crashF (ps : List Int) (i : Nat) (f : Fl) : Fl := ⟨f.b.take (keepN ps i f), keepN ps i f⟩
def crashL (ps : List Int) : Nat → DTb → DTb
  | _, [] => []
  | i, p :: r => (p.1, (p.2.1, crashF ps i p.2.2)) :: crashL ps (i + 1) r
def crashT (ps : List Int) : Nat → PT → PT
  | _, [] => []
  | i, p :: r => (p.1, crashF ps i p.2) :: crashT ps (i + 1) r
def Dk.crash (K : Dk) : Dk := { K with armed := false, off := false }
def DS.crash (S : DS) (ps : List Int) : DS := ⟨S.k.crash, crashT ps 0 S.t⟩
theorem crashL_plain (ps : List Int) : ∀ (i : Nat) (L : DTb), plain (crashL ps i L) = crashT ps i (plain L)
  | _, [] => rfl
  | i, p :: r => by
    unfold crashL
    show _ :: plain (crashL ps (i + 1) r) = _ :: crashT ps (i + 1) (plain r)
    rw [crashL_plain ps (i + 1) r]
theorem crashL_snoc (ps : List Int) (p : List UInt8 × (Nat × Fl)) : ∀ (i : Nat) (A : DTb), crashL ps i (A ++ [p]) = crashL ps i A ++ [(p.1, (p.2.1, crashF ps (i + A.length) p.2.2))]
  | i, [] => rfl
  | i, q :: A => by
    show _ :: crashL ps (i + 1) (A ++ [p]) = _ :: (crashL ps (i + 1) A ++ _)
    rw [crashL_snoc ps p (i + 1) A]
    simp only [List.length_cons]
    rw [show i + 1 + A.length = i + (A.length + 1) by omega]
theorem crashT_keys (ps : List Int) : ∀ (i : Nat) (T : PT), (crashT ps i T).map (·.1) = T.map (·.1)
  | _, [] => rfl
  | i, p :: r => by
    show _ :: (crashT ps (i + 1) r).map (·.1) = _ :: r.map (·.1)
    rw [crashT_keys ps (i + 1) r]
theorem crashT_length (ps : List Int) (i : Nat) (T : PT) : (crashT ps i T).length = T.length := by
  have := congrArg List.length (crashT_keys ps i T)
  simpa using this
theorem keepN_le {ps : List Int} {i : Nat} {f : Fl} (h : f.sure ≤ f.b.length) : keepN ps i f ≤ f.b.length ∧ f.sure ≤ keepN ps i f := by
  unfold keepN; omega
theorem crashT_used (ps : List Int) : ∀ (i : Nat) (T : PT), used (crashT ps i T) ≤ used T
  | _, [] => Nat.le_refl _
  | i, p :: r => by
    have := crashT_used ps (i + 1) r
    show (crashF ps i p.2).b.length + used (crashT ps (i + 1) r) ≤ p.2.b.length + used r
    have : (crashF ps i p.2).b.length ≤ p.2.b.length := by unfold crashF; rw [List.length_take]; omega
    omega
theorem crashT_mem (ps : List Int) : ∀ {i : Nat} {T : PT} {p : List UInt8 × Fl}, p ∈ crashT ps i T → ∃ q ∈ T, ∃ j, p = (q.1, crashF ps j q.2)
  | i, q :: r, p, h => by
    rcases List.mem_cons.1 h with rfl | h
    · exact ⟨q, by simp, i, rfl⟩
    · obtain ⟨q', hq, j, e⟩ := crashT_mem ps h
      exact ⟨q', by simp [hq], j, e⟩
theorem DWf.crash {S : DS} (h : DWf S) (ps : List Int) : DWf (S.crash ps) := by
  refine ⟨⟨h.k.room, h.k.calls, h.k.after⟩, ?_, ?_, ?_, ?_, ?_⟩
  · have := crashT_used ps 0 S.t
    have := h.t.fit
    show (used (crashT ps 0 S.t) : Int) ≤ S.k.room
    omega
  · show (crashT ps 0 S.t).length ≤ 64
    rw [crashT_length]; exact h.t.few
  · intro p hp
    obtain ⟨q, hq, j, rfl⟩ := crashT_mem ps hp
    exact h.t.names q hq
  · show ((crashT ps 0 S.t).map (·.1)).Pairwise (· < ·)
    rw [crashT_keys]; exact h.t.ris
  · intro p hp
    obtain ⟨q, hq, j, rfl⟩ := crashT_mem ps hp
    have := keepN_le (ps := ps) (i := j) (h.t.sure q hq)
    unfold crashF
    simp only [List.length_take]
    omega
theorem VRead.remN {S : World → Prop} {t : TypeId} {x y : Operand} {k : IntKind} {m n : Nat} {K : Value → Prop} (h1 : 0 < n) (hk : K (.int k ((m % n : Nat) : Int))) :
    VRead Try.prog S (do eqGuard .rem t x y (.int k (m : Int)) (.int k (n : Int)); binOp .rem t (.int k (m : Int)) (.int k (n : Int))) K :=
  VRead.rem (by omega) (by omega) (by rw [← Int.natCast_emod]; exact hk)
theorem VRead.cutHMn {S : World → Prop} {t e : Nat} {A : Option Addr} {n c q : Nat} {z m : Int} {kk kj : IntKind} {K : Value → Prop} [i : TSlice Try.prog t e 1] (e1 : z = q) (e2 : m = q) (h : q ≤ c) (hk : K (.slice A q q)) :
    VRead Try.prog S (Instr.sliceAt t (.slice A n c) none (some (.int kk z)) (some (.int kj m))) K := by
  subst e1 e2
  exact VRead.cutHM (by omega) (by omega) (by omega) (by simpa using hk)
theorem tfind_crash {L A B : DTb} {p : List UInt8 × (Nat × Fl)} {ps : List Int} (hR : Rising (crashL ps 0 A ++ p :: B)) : tfind (crashL ps 0 A ++ p :: B) p.1 = some (p.2.1, p.2.2) :=
  tfind_of (x := (p.2.1, p.2.2)) hR.nd (List.mem_append_right _ (List.mem_cons_self ..))
set_option maxHeartbeats 1000000 in
theorem dCrash_at (W : World) (U : Foot) (d m c : Nat) (K : Dk) (L : DTb) (n k : Nat) (A : Option Addr) (ps : List Int) (h : DiskAt W U d m c K L) (hfew : L.length ≤ 64) (hsure : ∀ p ∈ L, p.2.2.sure ≤ p.2.2.b.length) (hbig : ∀ p ∈ L, p.2.2.b.length ≤ 16777216) (hnm : ∀ p ∈ L, p.1.length ≤ 32)
    (hr : Reads W W.heap.size 1 A n (iv .i64 ps)) (hoff : Off U A n) (hn : n ≤ 1000000000000000) :
    Calls Try.prog 31 #[.pointer (some ⟨d, 0, none⟩), .slice A n k] W fun e W' => e = .returned (.tuple #[]) ∧ DiskAt W' U d m c K.crash (crashL ps 0 L) ∧ Out U W W' := by
  have hpl : ps.length = n := by have := hr.1; unfold iv at this; simp at this; omega
  refine calls_vc Try.func31 rfl (by kernel_rfl) ?_
  ((conv => whnf); (repeat ((first | (refine VL.cons ?_) | (refine VL.nil ?_) | (refine VC.seqS rfl ?_) | (refine VC.region ?_) | (refine VC.draw ?_) | (refine VC.cond ?_) | (refine VC.block ?_) | (refine VC.exit ?_) | (refine VC.ret ?_) | (refine VC.skip ?_) | (refine VC.label ?_) | (refine VC.scope ?_) | (refine VQ.cons ?_) | (refine VQ.nil ?_) | (refine VG.nil ?_) | (refine VG.cons ?_)); (conv => whnf))))
  ((repeat ((first | (refine VL.cons ?_) | (refine VL.nil ?_) | (refine VC.seqS rfl ?_) | (refine VC.region ?_) | (refine VC.draw ?_) | (refine VC.cond ?_) | (refine VC.block ?_) | (refine VC.exit ?_) | (refine VC.ret ?_) | (refine VC.skip ?_) | (refine VC.label ?_) | (refine VC.scope ?_) | (refine VQ.cons ?_) | (refine VQ.nil ?_) | (refine VG.nil ?_) | (refine VG.cons ?_) | (refine VP.done ?_) | (refine VP.one ?_) | (refine VP.two ?_) | (refine VE.cons ?_) | (refine VE.nil ?_) | (refine VBool.t ?_) | (refine VBool.f ?_) | (refine VBool.dT (by omega) ?_) | (refine VBool.dF (by omega) ?_) | (refine VBool.nT (by omega) ?_) | (refine VBool.nF (by omega) ?_) | (refine VRead.lenS ?_) | (refine VRead.lenT ?_) | (refine VRead.fld ?_) | (refine VRead.load1 (by assumption) ?_) | (refine VRead.load (by assumption) ?_) | (refine VRead.neB ?_) | (refine VRead.eqPN ?_) | (refine VRead.nePN ?_) | (refine VRead.eqB ?_) | (refine VBool.nT rfl ?_) | (refine VBool.dT rfl ?_) | (refine VWrap.i64 (by omega) (by omega) ?_) | (refine VWrap.u64 (by omega) (by omega) ?_) | (refine VRead.at1 (by omega) ?_) | (refine VRead.eqNN ?_) | (refine VSem.convI ?_) | (refine VRead.convI ?_) | (refine VRead.rem (by omega) (by decide) ?_) | (refine VRead.neg ?_) | (refine VC.seq ?_)); (conv => whnf))))
  refine VCall.of (dList_at W U d m c K L h hfew) ?_
  rintro e W1 ⟨An, kn, rfl, hO1, hB1⟩
  refine ⟨_, rfl, ?_⟩
  -- the footprint of what was there
  have hV : ∃ V : Foot, (∀ j, V j → U j ∧ j < W.heap.size) ∧ (∀ j, j < W.heap.size → U j → V j) := ⟨fun j => U j ∧ j < W.heap.size, fun j h => h, fun j h1 h2 => ⟨h2, h1⟩⟩
  obtain ⟨V, hV1, hV2⟩ := hV
  have h1 : DiskAt W1 V d m c K L := (h.more hV2).below hB1 (Nat.le_refl _)
  have hoffV : Off V A n := hoff.mono (fun j hj => (hV1 j hj).1)
  have hoffN : Off V An L.length := Off.row hO1 (fun j hj hv => absurd (hV1 j hv).2 (Nat.not_lt_of_le hj))
  have hrN := Reads.row hO1
  have hr1 := hr.below hB1
  ((conv => whnf); (repeat ((first | (refine VL.cons ?_) | (refine VL.nil ?_) | (refine VC.seqS rfl ?_) | (refine VC.region ?_) | (refine VC.draw ?_) | (refine VC.cond ?_) | (refine VC.block ?_) | (refine VC.exit ?_) | (refine VC.ret ?_) | (refine VC.skip ?_) | (refine VC.label ?_) | (refine VC.scope ?_) | (refine VQ.cons ?_) | (refine VQ.nil ?_) | (refine VG.nil ?_) | (refine VG.cons ?_)); (conv => whnf))))
  ((repeat ((first | (refine VL.cons ?_) | (refine VL.nil ?_) | (refine VC.seqS rfl ?_) | (refine VC.region ?_) | (refine VC.draw ?_) | (refine VC.cond ?_) | (refine VC.block ?_) | (refine VC.exit ?_) | (refine VC.ret ?_) | (refine VC.skip ?_) | (refine VC.label ?_) | (refine VC.scope ?_) | (refine VQ.cons ?_) | (refine VQ.nil ?_) | (refine VG.nil ?_) | (refine VG.cons ?_) | (refine VP.done ?_) | (refine VP.one ?_) | (refine VP.two ?_) | (refine VE.cons ?_) | (refine VE.nil ?_) | (refine VBool.t ?_) | (refine VBool.f ?_) | (refine VBool.dT (by omega) ?_) | (refine VBool.dF (by omega) ?_) | (refine VBool.nT (by omega) ?_) | (refine VBool.nF (by omega) ?_) | (refine VRead.lenS ?_) | (refine VRead.lenT ?_) | (refine VRead.fld ?_) | (refine VRead.load1 (by assumption) ?_) | (refine VRead.load (by assumption) ?_) | (refine VRead.neB ?_) | (refine VRead.eqPN ?_) | (refine VRead.nePN ?_) | (refine VRead.eqB ?_) | (refine VBool.nT rfl ?_) | (refine VBool.dT rfl ?_) | (refine VWrap.i64 (by omega) (by omega) ?_) | (refine VWrap.u64 (by omega) (by omega) ?_) | (refine VRead.at1 (by omega) ?_) | (refine VRead.eqNN ?_) | (refine VSem.convI ?_) | (refine VRead.convI ?_) | (refine VRead.rem (by omega) (by decide) ?_) | (refine VRead.neg ?_) | (refine VC.seq ?_)); (conv => whnf))))
  refine VC.loop [11] [(4, 7), (11, 73)] (fun q vs w => ∃ A0 B0 : DTb, vs = [.int .i64 (A0.length : Int)] ∧ q = B0.length ∧ L = A0 ++ B0 ∧ DiskAt w V d m c K (crashL ps 0 A0 ++ B0) ∧ Out V W1 w) (by kernel_rfl)
    ⟨_, [], L, rfl, rfl, rfl, h1, Out.refl V W1⟩ ?_
  rintro q τ vs w ⟨A0, B0, rfl, rfl, hL, hw, hOw⟩
  have hLl : L.length = A0.length + B0.length := by rw [hL]; simp
  cases B0 with
  | nil =>
    rw [List.append_nil] at hL hw
    subst hL
    have hbw := hw.blk
    have hbw' : Blk w d 76 #[.int .i64 K.room, .map (some m), .int .i64 K.calls, .bool K.armed, .int .i64 K.kind, .int .i64 K.after, .bool K.off] := hbw
    ((conv => whnf); (repeat ((first | (refine VL.cons ?_) | (refine VL.nil ?_) | (refine VC.seqS rfl ?_) | (refine VC.region ?_) | (refine VC.draw ?_) | (refine VC.cond ?_) | (refine VC.block ?_) | (refine VC.exit ?_) | (refine VC.ret ?_) | (refine VC.skip ?_) | (refine VC.label ?_) | (refine VC.scope ?_) | (refine VQ.cons ?_) | (refine VQ.nil ?_) | (refine VG.nil ?_) | (refine VG.cons ?_)); (conv => whnf))))
    ((repeat ((first | (refine VL.cons ?_) | (refine VL.nil ?_) | (refine VC.seqS rfl ?_) | (refine VC.region ?_) | (refine VC.draw ?_) | (refine VC.cond ?_) | (refine VC.block ?_) | (refine VC.exit ?_) | (refine VC.ret ?_) | (refine VC.skip ?_) | (refine VC.label ?_) | (refine VC.scope ?_) | (refine VQ.cons ?_) | (refine VQ.nil ?_) | (refine VG.nil ?_) | (refine VG.cons ?_) | (refine VP.done ?_) | (refine VP.one ?_) | (refine VP.two ?_) | (refine VE.cons ?_) | (refine VE.nil ?_) | (refine VBool.t ?_) | (refine VBool.f ?_) | (refine VBool.dT (by omega) ?_) | (refine VBool.dF (by omega) ?_) | (refine VBool.nT (by omega) ?_) | (refine VBool.nF (by omega) ?_) | (refine VRead.lenS ?_) | (refine VRead.lenT ?_) | (refine VRead.fld ?_) | (refine VRead.load1 (by assumption) ?_) | (refine VRead.load (by assumption) ?_) | (refine VRead.neB ?_) | (refine VRead.eqPN ?_) | (refine VRead.nePN ?_) | (refine VRead.eqB ?_) | (refine VBool.nT rfl ?_) | (refine VBool.dT rfl ?_) | (refine VWrap.i64 (by omega) (by omega) ?_) | (refine VWrap.u64 (by omega) (by omega) ?_) | (refine VRead.at1 (by omega) ?_) | (refine VRead.eqNN ?_) | (refine VSem.convI ?_) | (refine VRead.convI ?_) | (refine VRead.rem (by omega) (by decide) ?_) | (refine VRead.neg ?_) | (refine VC.seq ?_)); (conv => whnf))))
    refine VUnit.storeB hbw' rfl rfl rfl ?_
    intro W2 hb2 hg2
    ((conv => whnf); (repeat ((first | (refine VL.cons ?_) | (refine VL.nil ?_) | (refine VC.seqS rfl ?_) | (refine VC.region ?_) | (refine VC.draw ?_) | (refine VC.cond ?_) | (refine VC.block ?_) | (refine VC.exit ?_) | (refine VC.ret ?_) | (refine VC.skip ?_) | (refine VC.label ?_) | (refine VC.scope ?_) | (refine VQ.cons ?_) | (refine VQ.nil ?_) | (refine VG.nil ?_) | (refine VG.cons ?_)); (conv => whnf))))
    ((repeat ((first | (refine VL.cons ?_) | (refine VL.nil ?_) | (refine VC.seqS rfl ?_) | (refine VC.region ?_) | (refine VC.draw ?_) | (refine VC.cond ?_) | (refine VC.block ?_) | (refine VC.exit ?_) | (refine VC.ret ?_) | (refine VC.skip ?_) | (refine VC.label ?_) | (refine VC.scope ?_) | (refine VQ.cons ?_) | (refine VQ.nil ?_) | (refine VG.nil ?_) | (refine VG.cons ?_) | (refine VP.done ?_) | (refine VP.one ?_) | (refine VP.two ?_) | (refine VE.cons ?_) | (refine VE.nil ?_) | (refine VBool.t ?_) | (refine VBool.f ?_) | (refine VBool.dT (by omega) ?_) | (refine VBool.dF (by omega) ?_) | (refine VBool.nT (by omega) ?_) | (refine VBool.nF (by omega) ?_) | (refine VRead.lenS ?_) | (refine VRead.lenT ?_) | (refine VRead.fld ?_) | (refine VRead.load1 (by assumption) ?_) | (refine VRead.load (by assumption) ?_) | (refine VRead.neB ?_) | (refine VRead.eqPN ?_) | (refine VRead.nePN ?_) | (refine VRead.eqB ?_) | (refine VBool.nT rfl ?_) | (refine VBool.dT rfl ?_) | (refine VWrap.i64 (by omega) (by omega) ?_) | (refine VWrap.u64 (by omega) (by omega) ?_) | (refine VRead.at1 (by omega) ?_) | (refine VRead.eqNN ?_) | (refine VSem.convI ?_) | (refine VRead.convI ?_) | (refine VRead.rem (by omega) (by decide) ?_) | (refine VRead.neg ?_) | (refine VC.seq ?_)); (conv => whnf))))
    refine VUnit.storeB hb2 rfl rfl rfl ?_
    intro W3 hb3 hg3
    ((conv => whnf); (repeat ((first | (refine VL.cons ?_) | (refine VL.nil ?_) | (refine VC.seqS rfl ?_) | (refine VC.region ?_) | (refine VC.draw ?_) | (refine VC.cond ?_) | (refine VC.block ?_) | (refine VC.exit ?_) | (refine VC.ret ?_) | (refine VC.skip ?_) | (refine VC.label ?_) | (refine VC.scope ?_) | (refine VQ.cons ?_) | (refine VQ.nil ?_) | (refine VG.nil ?_) | (refine VG.cons ?_)); (conv => whnf))))
    ((repeat ((first | (refine VL.cons ?_) | (refine VL.nil ?_) | (refine VC.seqS rfl ?_) | (refine VC.region ?_) | (refine VC.draw ?_) | (refine VC.cond ?_) | (refine VC.block ?_) | (refine VC.exit ?_) | (refine VC.ret ?_) | (refine VC.skip ?_) | (refine VC.label ?_) | (refine VC.scope ?_) | (refine VQ.cons ?_) | (refine VQ.nil ?_) | (refine VG.nil ?_) | (refine VG.cons ?_) | (refine VP.done ?_) | (refine VP.one ?_) | (refine VP.two ?_) | (refine VE.cons ?_) | (refine VE.nil ?_) | (refine VBool.t ?_) | (refine VBool.f ?_) | (refine VBool.dT (by omega) ?_) | (refine VBool.dF (by omega) ?_) | (refine VBool.nT (by omega) ?_) | (refine VBool.nF (by omega) ?_) | (refine VRead.lenS ?_) | (refine VRead.lenT ?_) | (refine VRead.fld ?_) | (refine VRead.load1 (by assumption) ?_) | (refine VRead.load (by assumption) ?_) | (refine VRead.neB ?_) | (refine VRead.eqPN ?_) | (refine VRead.nePN ?_) | (refine VRead.eqB ?_) | (refine VBool.nT rfl ?_) | (refine VBool.dT rfl ?_) | (refine VWrap.i64 (by omega) (by omega) ?_) | (refine VWrap.u64 (by omega) (by omega) ?_) | (refine VRead.at1 (by omega) ?_) | (refine VRead.eqNN ?_) | (refine VSem.convI ?_) | (refine VRead.convI ?_) | (refine VRead.rem (by omega) (by decide) ?_) | (refine VRead.neg ?_) | (refine VC.seq ?_)); (conv => whnf))))
    have hg := only_trans hg2 hg3
    have h3 : DiskAt W3 V d m c K.crash (crashL ps 0 L) := hw.own hb3 hg
    refine ⟨rfl, h3.more (fun j _ hj => (hV1 j hj).1), ?_⟩
    exact (Out.new hB1).trans ((hOw.trans (Out.grown hg hw.hd)).mono (fun j hj => (hV1 j hj).1))
  | cons p B0 =>
    have hp : p ∈ L := by rw [hL]; simp
    have hsp := hsure p hp
    have hbp := hbig p hp
    have hnp := hnm p hp
    have hrw := hr1.out (Nat.le_trans (Nat.le_refl _) hB1.size) hoffV hOw
    have hrNw := hrN.out (Nat.le_refl _) hoffN hOw
    have hf := tfind_crash (L := L) (ps := ps) (A := A0) (B := B0) (p := p) hw.ris
    obtain ⟨hVg, Af, kf, hbf, hkf, hlf⟩ := hw.fl p (by simp)
    obtain ⟨ad, u, rfl, hbl, hu, hc⟩ := hrNw.at_ (show A0.length < L.length by simp at hLl; omega)
    obtain rfl : encStr p.1 = u := by
      rw [hL] at hu
      simpa using hu
    simp only [List.length_cons] at hLl
    have hbw := hw.blk
    have hbw' : Blk w d 76 #[.int .i64 K.room, .map (some m), .int .i64 K.calls, .bool K.armed, .int .i64 K.kind, .int .i64 K.after, .bool K.off] := hbw
    ((conv => whnf); (repeat ((first | (refine VL.cons ?_) | (refine VL.nil ?_) | (refine VC.seqS rfl ?_) | (refine VC.region ?_) | (refine VC.draw ?_) | (refine VC.cond ?_) | (refine VC.block ?_) | (refine VC.exit ?_) | (refine VC.ret ?_) | (refine VC.skip ?_) | (refine VC.label ?_) | (refine VC.scope ?_) | (refine VQ.cons ?_) | (refine VQ.nil ?_) | (refine VG.nil ?_) | (refine VG.cons ?_)); (conv => whnf))))
    (repeat (first | ((first | (refine VL.cons ?_) | (refine VL.nil ?_) | (refine VC.seqS rfl ?_) | (refine VC.region ?_) | (refine VC.draw ?_) | (refine VC.cond ?_) | (refine VC.block ?_) | (refine VC.exit ?_) | (refine VC.ret ?_) | (refine VC.skip ?_) | (refine VC.label ?_) | (refine VC.scope ?_) | (refine VQ.cons ?_) | (refine VQ.nil ?_) | (refine VG.nil ?_) | (refine VG.cons ?_) | (refine VP.done ?_) | (refine VP.one ?_) | (refine VP.two ?_) | (refine VE.cons ?_) | (refine VE.nil ?_) | (refine VBool.t ?_) | (refine VBool.f ?_) | (refine VBool.dT (by omega) ?_) | (refine VBool.dF (by omega) ?_) | (refine VBool.nT (by omega) ?_) | (refine VBool.nF (by omega) ?_) | (refine VRead.lenS ?_) | (refine VRead.lenT ?_) | (refine VRead.fld ?_) | (refine VRead.load1 (by assumption) ?_) | (refine VRead.load (by assumption) ?_) | (refine VRead.neB ?_) | (refine VRead.eqPN ?_) | (refine VRead.nePN ?_) | (refine VRead.eqB ?_) | (refine VBool.nT rfl ?_) | (refine VBool.dT rfl ?_) | (refine VWrap.i64 (by omega) (by omega) ?_) | (refine VWrap.u64 (by omega) (by omega) ?_) | (refine VRead.at1 (by omega) ?_) | (refine VRead.eqNN ?_) | (refine VSem.convI ?_) | (refine VRead.convI ?_) | (refine VRead.rem (by omega) (by decide) ?_) | (refine VRead.neg ?_) | (refine VC.seq ?_)); (conv => whnf)) | (refine VRead.loadB hbw' rfl rfl ?_; (conv => whnf))))
    refine dLook hw.map (by omega) ?_
    rw [hf]
    ((repeat ((first | (refine VL.cons ?_) | (refine VL.nil ?_) | (refine VC.seqS rfl ?_) | (refine VC.region ?_) | (refine VC.draw ?_) | (refine VC.cond ?_) | (refine VC.block ?_) | (refine VC.exit ?_) | (refine VC.ret ?_) | (refine VC.skip ?_) | (refine VC.label ?_) | (refine VC.scope ?_) | (refine VQ.cons ?_) | (refine VQ.nil ?_) | (refine VG.nil ?_) | (refine VG.cons ?_) | (refine VP.done ?_) | (refine VP.one ?_) | (refine VP.two ?_) | (refine VE.cons ?_) | (refine VE.nil ?_) | (refine VBool.t ?_) | (refine VBool.f ?_) | (refine VBool.dT (by omega) ?_) | (refine VBool.dF (by omega) ?_) | (refine VBool.nT (by omega) ?_) | (refine VBool.nF (by omega) ?_) | (refine VRead.lenS ?_) | (refine VRead.lenT ?_) | (refine VRead.fld ?_) | (refine VRead.load1 (by assumption) ?_) | (refine VRead.load (by assumption) ?_) | (refine VRead.neB ?_) | (refine VRead.eqPN ?_) | (refine VRead.nePN ?_) | (refine VRead.eqB ?_) | (refine VBool.nT rfl ?_) | (refine VBool.dT rfl ?_) | (refine VWrap.i64 (by omega) (by omega) ?_) | (refine VWrap.u64 (by omega) (by omega) ?_) | (refine VRead.at1 (by omega) ?_) | (refine VRead.eqNN ?_) | (refine VSem.convI ?_) | (refine VRead.convI ?_) | (refine VRead.rem (by omega) (by decide) ?_) | (refine VRead.neg ?_)); (conv => whnf))))
    refine VC.cut [7] [(7, 7), (22, 31)] (fun vs X => vs = [.int .i64 (keepAt ps A0.length)] ∧ X = w) (by kernel_rfl) ?_ ?_
    · by_cases h0 : n = 0
      · subst h0
        have e : keepAt ps A0.length = 0 := by unfold keepAt; rw [if_pos hpl]
        ((conv => whnf); (repeat ((first | (refine VL.cons ?_) | (refine VL.nil ?_) | (refine VC.seqS rfl ?_) | (refine VC.region ?_) | (refine VC.draw ?_) | (refine VC.cond ?_) | (refine VC.block ?_) | (refine VC.exit ?_) | (refine VC.ret ?_) | (refine VC.skip ?_) | (refine VC.label ?_) | (refine VC.scope ?_) | (refine VQ.cons ?_) | (refine VQ.nil ?_) | (refine VG.nil ?_) | (refine VG.cons ?_)); (conv => whnf))))
        ((repeat ((first | (refine VL.cons ?_) | (refine VL.nil ?_) | (refine VC.seqS rfl ?_) | (refine VC.region ?_) | (refine VC.draw ?_) | (refine VC.cond ?_) | (refine VC.block ?_) | (refine VC.exit ?_) | (refine VC.ret ?_) | (refine VC.skip ?_) | (refine VC.label ?_) | (refine VC.scope ?_) | (refine VQ.cons ?_) | (refine VQ.nil ?_) | (refine VG.nil ?_) | (refine VG.cons ?_) | (refine VP.done ?_) | (refine VP.one ?_) | (refine VP.two ?_) | (refine VE.cons ?_) | (refine VE.nil ?_) | (refine VBool.t ?_) | (refine VBool.f ?_) | (refine VBool.dT (by omega) ?_) | (refine VBool.dF (by omega) ?_) | (refine VBool.nT (by omega) ?_) | (refine VBool.nF (by omega) ?_) | (refine VRead.lenS ?_) | (refine VRead.lenT ?_) | (refine VRead.fld ?_) | (refine VRead.load1 (by assumption) ?_) | (refine VRead.load (by assumption) ?_) | (refine VRead.neB ?_) | (refine VRead.eqPN ?_) | (refine VRead.nePN ?_) | (refine VRead.eqB ?_) | (refine VBool.nT rfl ?_) | (refine VBool.dT rfl ?_) | (refine VWrap.i64 (by omega) (by omega) ?_) | (refine VWrap.u64 (by omega) (by omega) ?_) | (refine VRead.at1 (by omega) ?_) | (refine VRead.eqNN ?_) | (refine VSem.convI ?_) | (refine VRead.convI ?_) | (refine VRead.rem (by omega) (by decide) ?_) | (refine VRead.neg ?_) | (refine VC.seq ?_)); (conv => whnf))))
        exact ⟨by rw [e]; rfl, rfl⟩
      · have hj : A0.length % n < n := Nat.mod_lt _ (by omega)
        obtain ⟨ap, up, rfl, hbl2, hu2, hc2⟩ := hrw.at_ hj
        have e : up = .int .i64 (keepAt ps A0.length) := by
          unfold iv at hu2
          obtain ⟨x, hx, rfl⟩ := map_at hu2
          unfold keepAt
          rw [if_neg (by omega), hpl, List.getD_eq_getElem?_getD, hx]
          rfl
        subst e
        ((conv => whnf); (repeat ((first | (refine VL.cons ?_) | (refine VL.nil ?_) | (refine VC.seqS rfl ?_) | (refine VC.region ?_) | (refine VC.draw ?_) | (refine VC.cond ?_) | (refine VC.block ?_) | (refine VC.exit ?_) | (refine VC.ret ?_) | (refine VC.skip ?_) | (refine VC.label ?_) | (refine VC.scope ?_) | (refine VQ.cons ?_) | (refine VQ.nil ?_) | (refine VG.nil ?_) | (refine VG.cons ?_)); (conv => whnf))))
        (repeat (first | ((first | (refine VL.cons ?_) | (refine VL.nil ?_) | (refine VC.seqS rfl ?_) | (refine VC.region ?_) | (refine VC.draw ?_) | (refine VC.cond ?_) | (refine VC.block ?_) | (refine VC.exit ?_) | (refine VC.ret ?_) | (refine VC.skip ?_) | (refine VC.label ?_) | (refine VC.scope ?_) | (refine VQ.cons ?_) | (refine VQ.nil ?_) | (refine VG.nil ?_) | (refine VG.cons ?_) | (refine VP.done ?_) | (refine VP.one ?_) | (refine VP.two ?_) | (refine VE.cons ?_) | (refine VE.nil ?_) | (refine VBool.t ?_) | (refine VBool.f ?_) | (refine VBool.dT (by omega) ?_) | (refine VBool.dF (by omega) ?_) | (refine VBool.nT (by omega) ?_) | (refine VBool.nF (by omega) ?_) | (refine VRead.lenS ?_) | (refine VRead.lenT ?_) | (refine VRead.fld ?_) | (refine VRead.load1 (by assumption) ?_) | (refine VRead.load (by assumption) ?_) | (refine VRead.neB ?_) | (refine VRead.eqPN ?_) | (refine VRead.nePN ?_) | (refine VRead.eqB ?_) | (refine VBool.nT rfl ?_) | (refine VBool.dT rfl ?_) | (refine VWrap.i64 (by omega) (by omega) ?_) | (refine VWrap.u64 (by omega) (by omega) ?_) | (refine VRead.at1 (by omega) ?_) | (refine VRead.eqNN ?_) | (refine VSem.convI ?_) | (refine VRead.convI ?_) | (refine VRead.rem (by omega) (by decide) ?_) | (refine VRead.neg ?_) | (refine VC.seq ?_)); (conv => whnf)) | (refine VRead.remN (by omega) ?_; (conv => whnf))))
        exact ⟨rfl, rfl⟩
    rintro τ2 vs2 w2 ⟨rfl, rfl⟩
    have hka : (max 0 (min (keepAt ps A0.length) ((p.2.2.b.length : Int) - p.2.2.sure))) = ((keepN ps A0.length p.2.2 - p.2.2.sure : Nat) : Int) := by
      unfold keepN; omega
    obtain ⟨hk1, hk2⟩ := keepN_le (ps := ps) (i := A0.length) hsp
    ((conv => whnf); (repeat ((first | (refine VL.cons ?_) | (refine VL.nil ?_) | (refine VC.seqS rfl ?_) | (refine VC.region ?_) | (refine VC.draw ?_) | (refine VC.cond ?_) | (refine VC.block ?_) | (refine VC.exit ?_) | (refine VC.ret ?_) | (refine VC.skip ?_) | (refine VC.label ?_) | (refine VC.scope ?_) | (refine VQ.cons ?_) | (refine VQ.nil ?_) | (refine VG.nil ?_) | (refine VG.cons ?_)); (conv => whnf))))
    ((repeat ((first | (refine VL.cons ?_) | (refine VL.nil ?_) | (refine VC.seqS rfl ?_) | (refine VC.region ?_) | (refine VC.draw ?_) | (refine VC.cond ?_) | (refine VC.block ?_) | (refine VC.exit ?_) | (refine VC.ret ?_) | (refine VC.skip ?_) | (refine VC.label ?_) | (refine VC.scope ?_) | (refine VQ.cons ?_) | (refine VQ.nil ?_) | (refine VG.nil ?_) | (refine VG.cons ?_) | (refine VP.done ?_) | (refine VP.one ?_) | (refine VP.two ?_) | (refine VE.cons ?_) | (refine VE.nil ?_) | (refine VBool.t ?_) | (refine VBool.f ?_) | (refine VBool.dT (by omega) ?_) | (refine VBool.dF (by omega) ?_) | (refine VBool.nT (by omega) ?_) | (refine VBool.nF (by omega) ?_) | (refine VRead.lenS ?_) | (refine VRead.lenT ?_) | (refine VRead.fld ?_) | (refine VRead.load1 (by assumption) ?_) | (refine VRead.load (by assumption) ?_) | (refine VRead.neB ?_) | (refine VRead.eqPN ?_) | (refine VRead.nePN ?_) | (refine VRead.eqB ?_) | (refine VBool.nT rfl ?_) | (refine VBool.dT rfl ?_) | (refine VWrap.i64 (by omega) (by omega) ?_) | (refine VWrap.u64 (by omega) (by omega) ?_) | (refine VRead.at1 (by omega) ?_) | (refine VRead.eqNN ?_) | (refine VSem.convI ?_) | (refine VRead.convI ?_) | (refine VRead.rem (by omega) (by decide) ?_) | (refine VRead.neg ?_) | (refine VC.seq ?_)); (conv => whnf))))
    (refine VDraw.seg (Eq (World.drewN _ 1)) [] [0, 1, 2, 3, 4, 5, 6, 7, 8, 9, 10, 11, 12, 13] (by kernel_rfl) (by kernel_rfl) rfl ?_; (conv => whnf))
    (repeat ((first | (refine VRead.loadB hbf rfl rfl ?_) | (refine VL.cons ?_) | (refine VL.nil ?_) | (refine VC.seqS rfl ?_) | (refine VC.region ?_) | (refine VC.draw ?_) | (refine VC.cond ?_) | (refine VC.block ?_) | (refine VC.exit ?_) | (refine VC.ret ?_) | (refine VC.skip ?_) | (refine VC.label ?_) | (refine VC.scope ?_) | (refine VQ.cons ?_) | (refine VQ.nil ?_) | (refine VG.nil ?_) | (refine VG.cons ?_) | (refine VP.done ?_) | (refine VP.one ?_) | (refine VP.two ?_) | (refine VE.cons ?_) | (refine VE.nil ?_) | (refine VBool.t ?_) | (refine VBool.f ?_) | (refine VBool.dT (by omega) ?_) | (refine VBool.dF (by omega) ?_) | (refine VBool.nT (by omega) ?_) | (refine VBool.nF (by omega) ?_) | (refine VRead.lenS ?_) | (refine VRead.lenT ?_) | (refine VRead.fld ?_) | (refine VRead.load1 (by assumption) ?_) | (refine VRead.load (by assumption) ?_) | (refine VRead.neB ?_) | (refine VRead.eqPN ?_) | (refine VRead.nePN ?_) | (refine VRead.eqB ?_) | (refine VBool.nT rfl ?_) | (refine VBool.dT rfl ?_) | (refine VWrap.i64 (by omega) (by omega) ?_) | (refine VWrap.u64 (by omega) (by omega) ?_) | (refine VRead.at1 (by omega) ?_) | (refine VRead.eqNN ?_) | (refine VSem.convI ?_) | (refine VRead.convI ?_) | (refine VRead.rem (by omega) (by decide) ?_) | (refine VRead.neg ?_) | (refine VC.seq ?_)); (conv => whnf)))
    refine VRead.minZ (z := min (keepAt ps A0.length) ((p.2.2.b.length : Int) - p.2.2.sure)) (by split <;> omega) ?_
    (conv => whnf)
    (repeat ((first | (refine VRead.loadB hbf rfl rfl ?_) | (refine VL.cons ?_) | (refine VL.nil ?_) | (refine VC.seqS rfl ?_) | (refine VC.region ?_) | (refine VC.draw ?_) | (refine VC.cond ?_) | (refine VC.block ?_) | (refine VC.exit ?_) | (refine VC.ret ?_) | (refine VC.skip ?_) | (refine VC.label ?_) | (refine VC.scope ?_) | (refine VQ.cons ?_) | (refine VQ.nil ?_) | (refine VG.nil ?_) | (refine VG.cons ?_) | (refine VP.done ?_) | (refine VP.one ?_) | (refine VP.two ?_) | (refine VE.cons ?_) | (refine VE.nil ?_) | (refine VBool.t ?_) | (refine VBool.f ?_) | (refine VBool.dT (by omega) ?_) | (refine VBool.dF (by omega) ?_) | (refine VBool.nT (by omega) ?_) | (refine VBool.nF (by omega) ?_) | (refine VRead.lenS ?_) | (refine VRead.lenT ?_) | (refine VRead.fld ?_) | (refine VRead.load1 (by assumption) ?_) | (refine VRead.load (by assumption) ?_) | (refine VRead.neB ?_) | (refine VRead.eqPN ?_) | (refine VRead.nePN ?_) | (refine VRead.eqB ?_) | (refine VBool.nT rfl ?_) | (refine VBool.dT rfl ?_) | (refine VWrap.i64 (by omega) (by omega) ?_) | (refine VWrap.u64 (by omega) (by omega) ?_) | (refine VRead.at1 (by omega) ?_) | (refine VRead.eqNN ?_) | (refine VSem.convI ?_) | (refine VRead.convI ?_) | (refine VRead.rem (by omega) (by decide) ?_) | (refine VRead.neg ?_) | (refine VC.seq ?_)); (conv => whnf)))
    refine VRead.maxZ (z := ((keepN ps A0.length p.2.2 - p.2.2.sure : Nat) : Int)) (by rw [← hka]; split <;> omega) ?_
    ((conv => whnf); (repeat ((first | (refine VL.cons ?_) | (refine VL.nil ?_) | (refine VC.seqS rfl ?_) | (refine VC.region ?_) | (refine VC.draw ?_) | (refine VC.cond ?_) | (refine VC.block ?_) | (refine VC.exit ?_) | (refine VC.ret ?_) | (refine VC.skip ?_) | (refine VC.label ?_) | (refine VC.scope ?_) | (refine VQ.cons ?_) | (refine VQ.nil ?_) | (refine VG.nil ?_) | (refine VG.cons ?_)); (conv => whnf))))
    ((repeat ((first | (refine VL.cons ?_) | (refine VL.nil ?_) | (refine VC.seqS rfl ?_) | (refine VC.region ?_) | (refine VC.draw ?_) | (refine VC.cond ?_) | (refine VC.block ?_) | (refine VC.exit ?_) | (refine VC.ret ?_) | (refine VC.skip ?_) | (refine VC.label ?_) | (refine VC.scope ?_) | (refine VQ.cons ?_) | (refine VQ.nil ?_) | (refine VG.nil ?_) | (refine VG.cons ?_) | (refine VP.done ?_) | (refine VP.one ?_) | (refine VP.two ?_) | (refine VE.cons ?_) | (refine VE.nil ?_) | (refine VBool.t ?_) | (refine VBool.f ?_) | (refine VBool.dT (by omega) ?_) | (refine VBool.dF (by omega) ?_) | (refine VBool.nT (by omega) ?_) | (refine VBool.nF (by omega) ?_) | (refine VRead.lenS ?_) | (refine VRead.lenT ?_) | (refine VRead.fld ?_) | (refine VRead.load1 (by assumption) ?_) | (refine VRead.load (by assumption) ?_) | (refine VRead.neB ?_) | (refine VRead.eqPN ?_) | (refine VRead.nePN ?_) | (refine VRead.eqB ?_) | (refine VBool.nT rfl ?_) | (refine VBool.dT rfl ?_) | (refine VWrap.i64 (by omega) (by omega) ?_) | (refine VWrap.u64 (by omega) (by omega) ?_) | (refine VRead.at1 (by omega) ?_) | (refine VRead.eqNN ?_) | (refine VSem.convI ?_) | (refine VRead.convI ?_) | (refine VRead.rem (by omega) (by decide) ?_) | (refine VRead.neg ?_) | (refine VC.seq ?_)); (conv => whnf))))
    refine VDraw.last [0, 1, 2, 3, 4, 5, 6, 7, 8, 9, 10, 11, 12, 13, 14, 15, 16, 17, 18, 19] 20 (by kernel_rfl) (by kernel_rfl) ?_
    (conv => whnf)
    (repeat ((first | (refine VRead.loadB hbf rfl rfl ?_) | (refine VL.cons ?_) | (refine VL.nil ?_) | (refine VC.seqS rfl ?_) | (refine VC.region ?_) | (refine VC.draw ?_) | (refine VC.cond ?_) | (refine VC.block ?_) | (refine VC.exit ?_) | (refine VC.ret ?_) | (refine VC.skip ?_) | (refine VC.label ?_) | (refine VC.scope ?_) | (refine VQ.cons ?_) | (refine VQ.nil ?_) | (refine VG.nil ?_) | (refine VG.cons ?_) | (refine VP.done ?_) | (refine VP.one ?_) | (refine VP.two ?_) | (refine VE.cons ?_) | (refine VE.nil ?_) | (refine VBool.t ?_) | (refine VBool.f ?_) | (refine VBool.dT (by omega) ?_) | (refine VBool.dF (by omega) ?_) | (refine VBool.nT (by omega) ?_) | (refine VBool.nF (by omega) ?_) | (refine VRead.lenS ?_) | (refine VRead.lenT ?_) | (refine VRead.fld ?_) | (refine VRead.load1 (by assumption) ?_) | (refine VRead.load (by assumption) ?_) | (refine VRead.neB ?_) | (refine VRead.eqPN ?_) | (refine VRead.nePN ?_) | (refine VRead.eqB ?_) | (refine VBool.nT rfl ?_) | (refine VBool.dT rfl ?_) | (refine VWrap.i64 (by omega) (by omega) ?_) | (refine VWrap.u64 (by omega) (by omega) ?_) | (refine VRead.at1 (by omega) ?_) | (refine VRead.eqNN ?_) | (refine VSem.convI ?_) | (refine VRead.convI ?_) | (refine VRead.rem (by omega) (by decide) ?_) | (refine VRead.neg ?_) | (refine VC.seq ?_)); (conv => whnf)))
    refine VRead.cutHMn (q := keepN ps A0.length p.2.2) (by omega) (by omega) (by omega) ?_
    (conv => whnf)
    (repeat ((first | (refine VRead.loadB hbf rfl rfl ?_) | (refine VL.cons ?_) | (refine VL.nil ?_) | (refine VC.seqS rfl ?_) | (refine VC.region ?_) | (refine VC.draw ?_) | (refine VC.cond ?_) | (refine VC.block ?_) | (refine VC.exit ?_) | (refine VC.ret ?_) | (refine VC.skip ?_) | (refine VC.label ?_) | (refine VC.scope ?_) | (refine VQ.cons ?_) | (refine VQ.nil ?_) | (refine VG.nil ?_) | (refine VG.cons ?_) | (refine VP.done ?_) | (refine VP.one ?_) | (refine VP.two ?_) | (refine VE.cons ?_) | (refine VE.nil ?_) | (refine VBool.t ?_) | (refine VBool.f ?_) | (refine VBool.dT (by omega) ?_) | (refine VBool.dF (by omega) ?_) | (refine VBool.nT (by omega) ?_) | (refine VBool.nF (by omega) ?_) | (refine VRead.lenS ?_) | (refine VRead.lenT ?_) | (refine VRead.fld ?_) | (refine VRead.load1 (by assumption) ?_) | (refine VRead.load (by assumption) ?_) | (refine VRead.neB ?_) | (refine VRead.eqPN ?_) | (refine VRead.nePN ?_) | (refine VRead.eqB ?_) | (refine VBool.nT rfl ?_) | (refine VBool.dT rfl ?_) | (refine VWrap.i64 (by omega) (by omega) ?_) | (refine VWrap.u64 (by omega) (by omega) ?_) | (refine VRead.at1 (by omega) ?_) | (refine VRead.eqNN ?_) | (refine VSem.convI ?_) | (refine VRead.convI ?_) | (refine VRead.rem (by omega) (by decide) ?_) | (refine VRead.neg ?_) | (refine VC.seq ?_)); (conv => whnf)))
    refine VUnit.storeB hbf rfl rfl rfl ?_
    intro W3 hb3 hg3
    (conv => whnf)
    refine Keep.mk trivial ?_
    (conv => whnf)
    replace hb3 : Blk W3 p.2.1 81 #[.slice Af (keepN ps A0.length p.2.2) (keepN ps A0.length p.2.2), .int .i64 p.2.2.sure] := hb3
    ((conv => whnf); (repeat ((first | (refine VL.cons ?_) | (refine VL.nil ?_) | (refine VC.seqS rfl ?_) | (refine VC.region ?_) | (refine VC.draw ?_) | (refine VC.cond ?_) | (refine VC.block ?_) | (refine VC.exit ?_) | (refine VC.ret ?_) | (refine VC.skip ?_) | (refine VC.label ?_) | (refine VC.scope ?_) | (refine VQ.cons ?_) | (refine VQ.nil ?_) | (refine VG.nil ?_) | (refine VG.cons ?_)); (conv => whnf))))
    (repeat (first | ((first | (refine VL.cons ?_) | (refine VL.nil ?_) | (refine VC.seqS rfl ?_) | (refine VC.region ?_) | (refine VC.draw ?_) | (refine VC.cond ?_) | (refine VC.block ?_) | (refine VC.exit ?_) | (refine VC.ret ?_) | (refine VC.skip ?_) | (refine VC.label ?_) | (refine VC.scope ?_) | (refine VQ.cons ?_) | (refine VQ.nil ?_) | (refine VG.nil ?_) | (refine VG.cons ?_) | (refine VP.done ?_) | (refine VP.one ?_) | (refine VP.two ?_) | (refine VE.cons ?_) | (refine VE.nil ?_) | (refine VBool.t ?_) | (refine VBool.f ?_) | (refine VBool.dT (by omega) ?_) | (refine VBool.dF (by omega) ?_) | (refine VBool.nT (by omega) ?_) | (refine VBool.nF (by omega) ?_) | (refine VRead.lenS ?_) | (refine VRead.lenT ?_) | (refine VRead.fld ?_) | (refine VRead.load1 (by assumption) ?_) | (refine VRead.load (by assumption) ?_) | (refine VRead.neB ?_) | (refine VRead.eqPN ?_) | (refine VRead.nePN ?_) | (refine VRead.eqB ?_) | (refine VBool.nT rfl ?_) | (refine VBool.dT rfl ?_) | (refine VWrap.i64 (by omega) (by omega) ?_) | (refine VWrap.u64 (by omega) (by omega) ?_) | (refine VRead.at1 (by omega) ?_) | (refine VRead.eqNN ?_) | (refine VSem.convI ?_) | (refine VRead.convI ?_) | (refine VRead.rem (by omega) (by decide) ?_) | (refine VRead.neg ?_) | (refine VC.seq ?_)); (conv => whnf)) | (refine VRead.loadB hb3 rfl rfl ?_; (conv => whnf))))
    refine VUnit.storeB hb3 rfl rfl rfl ?_
    intro W4 hb4 hg4
    ((conv => whnf); (repeat ((first | (refine VL.cons ?_) | (refine VL.nil ?_) | (refine VC.seqS rfl ?_) | (refine VC.region ?_) | (refine VC.draw ?_) | (refine VC.cond ?_) | (refine VC.block ?_) | (refine VC.exit ?_) | (refine VC.ret ?_) | (refine VC.skip ?_) | (refine VC.label ?_) | (refine VC.scope ?_) | (refine VQ.cons ?_) | (refine VQ.nil ?_) | (refine VG.nil ?_) | (refine VG.cons ?_)); (conv => whnf))))
    ((repeat ((first | (refine VL.cons ?_) | (refine VL.nil ?_) | (refine VC.seqS rfl ?_) | (refine VC.region ?_) | (refine VC.draw ?_) | (refine VC.cond ?_) | (refine VC.block ?_) | (refine VC.exit ?_) | (refine VC.ret ?_) | (refine VC.skip ?_) | (refine VC.label ?_) | (refine VC.scope ?_) | (refine VQ.cons ?_) | (refine VQ.nil ?_) | (refine VG.nil ?_) | (refine VG.cons ?_) | (refine VP.done ?_) | (refine VP.one ?_) | (refine VP.two ?_) | (refine VE.cons ?_) | (refine VE.nil ?_) | (refine VBool.t ?_) | (refine VBool.f ?_) | (refine VBool.dT (by omega) ?_) | (refine VBool.dF (by omega) ?_) | (refine VBool.nT (by omega) ?_) | (refine VBool.nF (by omega) ?_) | (refine VRead.lenS ?_) | (refine VRead.lenT ?_) | (refine VRead.fld ?_) | (refine VRead.load1 (by assumption) ?_) | (refine VRead.load (by assumption) ?_) | (refine VRead.neB ?_) | (refine VRead.eqPN ?_) | (refine VRead.nePN ?_) | (refine VRead.eqB ?_) | (refine VBool.nT rfl ?_) | (refine VBool.dT rfl ?_) | (refine VWrap.i64 (by omega) (by omega) ?_) | (refine VWrap.u64 (by omega) (by omega) ?_) | (refine VRead.at1 (by omega) ?_) | (refine VRead.eqNN ?_) | (refine VSem.convI ?_) | (refine VRead.convI ?_) | (refine VRead.rem (by omega) (by decide) ?_) | (refine VRead.neg ?_) | (refine VC.seq ?_)); (conv => whnf))))
    have hg3' : w2.grownBy W3 (some p.2.1) := ⟨hg3.os, hg3.tape, hg3.output, hg3.size, hg3.block⟩
    have hg : w2.grownBy W4 (some p.2.1) := only_trans hg3' hg4
    have hlen : (p.2.2.b.take (keepN ps A0.length p.2.2)).length = keepN ps A0.length p.2.2 := by rw [List.length_take]; omega
    have h4 := hw.file (f' := crashF ps A0.length p.2.2) (k := keepN ps A0.length p.2.2) (A := Af) hf (by show Blk _ _ _ #[.slice _ (p.2.2.b.take (keepN ps A0.length p.2.2)).length _, _]; rw [hlen]; exact hb4) hg (by show (p.2.2.b.take (keepN ps A0.length p.2.2)).length ≤ _; rw [hlen]; exact Nat.le_refl _)
      (by show Lies W4 V Af (p.2.2.b.take (keepN ps A0.length p.2.2)).length (p.2.2.b.take (keepN ps A0.length p.2.2)); rw [hlen]; exact (hlf.take hk1).blk hbf hg (by decide))
    rw [show crashL ps 0 A0 ++ p :: B0 = crashL ps 0 A0 ++ (p.1, p.2) :: B0 from rfl, tset_old hw.ris] at h4
    refine ⟨_, by simp, A0 ++ [p], B0, ?_, rfl, by rw [hL]; simp, ?_, hOw.trans (Out.grown hg hVg)⟩
    · simp only [List.length_append, List.length_cons, List.length_nil]; rfl
    · rw [crashL_snoc, Nat.zero_add, List.append_assoc]
      exact h4
theorem dCrash_any (W : World) (U : Foot) (d : Nat) (S : DS) (n k : Nat) (A : Option Addr) (ps : List Int) (h : Disk W U d S) (hr : Reads W W.heap.size 1 A n (iv .i64 ps)) (hoff : Off U A n) (hn : n ≤ 1000000000000000) :
    Calls Try.prog 31 #[.pointer (some ⟨d, 0, none⟩), .slice A n k] W fun e W' => e = .returned (.tuple #[]) ∧ Disk W' U d (S.crash ps) ∧ Out U W W' := by
  have hwf' := h.1.crash ps
  obtain ⟨h0, m, c, L, h, hcc, hpl⟩ := h
  have hin : ∀ p ∈ L, (p.1, p.2.2) ∈ S.t := fun p hp => by rw [← hpl]; exact List.mem_map_of_mem (f := fun p : List UInt8 × (Nat × Fl) => (p.1, p.2.2)) hp
  have hlen : L.length = S.t.length := by rw [← hpl]; exact (tmap_length _ _).symm
  refine (dCrash_at W U d m c S.k L n k A ps h (by rw [hlen]; exact h0.t.few) (fun p hp => h0.t.sure _ (hin p hp)) (fun p hp => ?_) (fun p hp => (h0.t.names _ (hin p hp)).2) hr hoff hn).mono ?_
  · have := len_used (hin p hp)
    have := h0.t.fit
    have := h0.k.room
    simp only at *
    omega
  · rintro e W' ⟨rfl, h1, hO⟩
    exact ⟨rfl, ⟨hwf', m, c, _, h1, hcc, by rw [crashL_plain, hpl]; rfl⟩, hO⟩
end Go.Proofs.Ytajheglnhfjodaa
