/- The disk in memory; calls begin. No condition. -/
import Derived.Test.YtajheglnhfjodaaTabs
import Derived.Test.YtajheglnhfjodaaLies
set_option maxRecDepth 10000
namespace Go.Proofs.Ytajheglnhfjodaa
set_option linter.unusedVariables false
open Go.RowKit
open Go.Maps (Keyed)
open Go.ChangeMaps Go.WideElems

/-! ### the plain disk -/
structure Fl where
  b : List UInt8
  sure : Nat
structure Dk where
  room : Int
  calls : Int
  armed : Bool
  kind : Int
  after : Int
  off : Bool
abbrev PT := List (List UInt8 × Fl)
structure DS where
  k : Dk
  t : PT
abbrev DTb := List (List UInt8 × (Nat × Fl))
abbrev plain (L : DTb) : PT := tmap (fun p : Nat × Fl => p.2) L
/-- how a call begins -/
def Dk.call (K : Dk) : Int × Dk :=
  if K.off then (19, { K with calls := K.calls + 1 }) else if !K.armed then (0, { K with calls := K.calls + 1 })
  else if 0 < K.after then (0, { K with calls := K.calls + 1, after := K.after - 1 })
  else (K.kind, { K with calls := K.calls + 1, armed := false, off := decide (K.kind = 19) })
def used : PT → Nat
  | [] => 0
  | p :: r => p.2.b.length + used r
def nameOk (s : List UInt8) : Prop := 1 ≤ s.length ∧ s.length ≤ 32
instance (s : List UInt8) : Decidable (nameOk s) := by unfold nameOk; infer_instance
structure KWf (K : Dk) : Prop where
  room : 0 ≤ K.room ∧ K.room ≤ 16777216
  calls : 0 ≤ K.calls ∧ K.calls ≤ 1000000
  after : 0 ≤ K.after ∧ K.after ≤ 9223372036854775807
structure TWf (room : Int) (T : PT) : Prop where
  fit : (used T : Int) ≤ room
  few : T.length ≤ 64
  names : ∀ p ∈ T, nameOk p.1
  ris : Rising T
  sure : ∀ p ∈ T, p.2.sure ≤ p.2.b.length
structure DWf (S : DS) : Prop where
  k : KWf S.k
  t : TWf S.k.room S.t
theorem Dk.call_room (K : Dk) : K.call.2.room = K.room := by
  unfold Dk.call; split
  · rfl
  · split
    · rfl
    · split <;> rfl
theorem Dk.call_calls (K : Dk) : K.call.2.calls = K.calls + 1 := by
  unfold Dk.call; split
  · rfl
  · split
    · rfl
    · split <;> rfl
theorem KWf.call {K : Dk} (h : KWf K) (hc : K.calls < 1000000) : KWf K.call.2 := by
  have h1 := h.room; have h2 := h.calls; have h3 := h.after
  refine ⟨by rw [Dk.call_room]; exact h1, by rw [Dk.call_calls]; omega, ?_⟩
  unfold Dk.call; split
  · exact h3
  · split
    · exact h3
    · split
      · simp only; omega
      · exact h3
/-! ### in memory -/
def dC (K : Dk) (m : Nat) : Array Value := #[.int .i64 K.room, .map (some m), .int .i64 K.calls, .bool K.armed, .int .i64 K.kind, .int .i64 K.after, .bool K.off]
def pEnc (p : Nat × Fl) : Value := .pointer (some ⟨p.1, 0, none⟩)
def slit (s : List UInt8) : Lit := .string s
theorem slit_inj (a b : List UInt8) (h : slit a = slit b) : a = b := by unfold slit at h; injection h
def FlAt (W : World) (U : Foot) (g : Nat) (f : Fl) : Prop := U g ∧ ∃ A c, Blk W g 81 #[.slice A f.b.length c, .int .i64 f.sure] ∧ f.b.length ≤ c ∧ Lies W U A f.b.length f.b
def MapOk (W : World) (m c : Nat) (L : DTb) : Prop := ∃ n D, n ≤ c ∧ MapIs Try.prog 9 W m n D ∧ Rel Try.prog 9 encStr slit pEnc D L
structure DiskAt (W : World) (U : Foot) (d m c : Nat) (K : Dk) (L : DTb) : Prop where
  hd : U d
  hm : U m
  blk : Blk W d 76 (dC K m)
  map : MapOk W m c L
  fl : ∀ p ∈ L, FlAt W U p.2.1 p.2.2
  nd : (L.map (·.2.1)).Nodup
  ris : Rising L
/-- a disk -/
def Disk (W : World) (U : Foot) (d : Nat) (S : DS) : Prop := DWf S ∧ ∃ m c L, DiskAt W U d m c S.k L ∧ (c : Int) ≤ S.k.calls ∧ plain L = S.t
theorem str_keyed : Keyed Try.prog 9 := Maps.string_keyed Try.underlying9
theorem str_key {s : List UInt8} (h : s.length ≤ 9223372036854775807) : keyOf Try.prog 9 (encStr s) = some (slit s) := by
  rw [keyOf_string Try.underlying9]
  unfold mapKey
  rw [Try.underlying9]
  simp [encStr, slit, ByteArray.size, maxLen, h]
section
variable {W W' : World} {U V : Foot} {d m c g k : Nat} {K K' : Dk} {L : DTb} {f : Fl}
theorem FlAt.stay (h : FlAt W U g f) (hs : W.heap.size ≤ W'.heap.size) (hk : ∀ j, j < W.heap.size → U j → W'.heap[j]? = W.heap[j]?) : FlAt W' U g f := by
  obtain ⟨h1, A, c, h3, h4, h5⟩ := h
  exact ⟨h1, A, c, (hk g h3.lt h1).trans h3, h4, h5.stay hs hk⟩
theorem FlAt.more (h : FlAt W U g f) (hV : ∀ j, j < W.heap.size → U j → V j) : FlAt W V g f := by
  obtain ⟨h1, A, c, h3, h4, h5⟩ := h
  exact ⟨hV g h3.lt h1, A, c, h3, h4, h5.more hV⟩
theorem FlAt.lt (h : FlAt W U g f) : g < W.heap.size := by
  obtain ⟨_, A, c, h3, _⟩ := h; exact h3.lt
theorem MapOk.lt (h : MapOk W m c L) : m < W.heap.size := by obtain ⟨n, D, h1, h2, h3⟩ := h; exact h2.lt
theorem MapOk.stay (h : MapOk W m c L) (hk : W'.heap[m]? = W.heap[m]?) : MapOk W' m c L := by
  obtain ⟨n, D, h1, ⟨es, clock, h2, h4⟩, h3⟩ := h
  exact ⟨n, D, h1, ⟨es, clock, by rw [hk]; exact h2, h4⟩, h3⟩
theorem MapOk.kept {row : Option Nat} (h : MapOk W m c L) (hg : W.grownBy W' row) (hne : some m ≠ row) : MapOk W' m c L := by
  obtain ⟨n, D, h1, h2, h3⟩ := h
  exact ⟨n, D, h1, h2.kept hg hne, h3⟩
theorem MapOk.grow {c' : Nat} (h : MapOk W m c L) (hc : c ≤ c') : MapOk W m c' L := by
  obtain ⟨n, D, h1, h2⟩ := h
  exact ⟨n, D, Nat.le_trans h1 hc, h2⟩
theorem MapOk.not_blk {T : TypeId} {cs : Array Value} (h : MapOk W m c L) (hb : Blk W g T cs) : m ≠ g := by
  obtain ⟨n, D, h1, ⟨es, clock, h2, _⟩, h3⟩ := h
  intro e; subst e
  unfold Blk at hb
  rw [h2] at hb
  cases hb
theorem FlAt.blk {T : TypeId} {cs : Array Value} (h : FlAt W U g f) (hb : Blk W k T cs) (hg : W.grownBy W' (some k)) (hne : 5 ≠ T) (hk : g ≠ k) : FlAt W' U g f := by
  obtain ⟨h1, A, c, h3, h4, h5⟩ := h
  exact ⟨h1, A, c, h3.grown hg (fun e => hk (Option.some.inj e)), h4, h5.blk hb hg hne⟩
theorem FlAt.map (h : FlAt W U g f) (hm : MapOk W m c L) (hg : W.grownBy W' (some m)) : FlAt W' U g f := by
  obtain ⟨h1, A, k, h3, h4, h5⟩ := h
  refine ⟨h1, A, k, h3.grown hg (fun e => hm.not_blk h3 (Option.some.inj e).symm), h4, h5.apart hg (fun k hk cs fr hc => ?_)⟩
  obtain rfl := Option.some.inj hk
  obtain ⟨n, D, _, ⟨es, clock, e2, _⟩, _⟩ := hm
  rw [hc] at e2; cases e2
theorem DiskAt.stay (h : DiskAt W U d m c K L) (hs : W.heap.size ≤ W'.heap.size) (hk : ∀ j, j < W.heap.size → U j → W'.heap[j]? = W.heap[j]?) : DiskAt W' U d m c K L :=
  ⟨h.hd, h.hm, (hk d h.blk.lt h.hd).trans h.blk, h.map.stay (hk m h.map.lt h.hm), fun p hp => (h.fl p hp).stay hs hk, h.nd, h.ris⟩
theorem DiskAt.more (h : DiskAt W U d m c K L) (hV : ∀ j, j < W.heap.size → U j → V j) : DiskAt W V d m c K L :=
  ⟨hV d h.blk.lt h.hd, hV m h.map.lt h.hm, h.blk, h.map, fun p hp => (h.fl p hp).more hV, h.nd, h.ris⟩
theorem DiskAt.below {C : Nat} (h : DiskAt W U d m c K L) (hb : Below C W W') (hC : W.heap.size ≤ C) : DiskAt W' U d m c K L :=
  h.stay hb.size (fun j hj _ => hb.block j (Nat.lt_of_lt_of_le hj hC))
theorem DiskAt.grow {c' : Nat} (h : DiskAt W U d m c K L) (hc : c ≤ c') : DiskAt W U d m c' K L := ⟨h.hd, h.hm, h.blk, h.map.grow hc, h.fl, h.nd, h.ris⟩
/-- the disk's own cells turn -/
theorem DiskAt.own (h : DiskAt W U d m c K L) (hb : Blk W' d 76 (dC K' m)) (hg : W.grownBy W' (some d)) : DiskAt W' U d m c K' L :=
  ⟨h.hd, h.hm, hb, h.map.kept hg (fun e => h.map.not_blk h.blk (Option.some.inj e)), fun p hp => (h.fl p hp).blk h.blk hg (by decide) (by
    obtain ⟨_, A, k, h3, _⟩ := h.fl p hp
    exact h3.ne_ h.blk (by decide)), h.nd, h.ris⟩
variable {S : DS}
theorem Disk.stay (h : Disk W U d S) (hs : W.heap.size ≤ W'.heap.size) (hk : ∀ j, j < W.heap.size → U j → W'.heap[j]? = W.heap[j]?) : Disk W' U d S := by
  obtain ⟨h0, m, c, L, h1, h2, h3⟩ := h
  exact ⟨h0, m, c, L, h1.stay hs hk, h2, h3⟩
theorem Disk.more (h : Disk W U d S) (hV : ∀ j, j < W.heap.size → U j → V j) : Disk W V d S := by
  obtain ⟨h0, m, c, L, h1, h2, h3⟩ := h
  exact ⟨h0, m, c, L, h1.more hV, h2, h3⟩
theorem Disk.below {C : Nat} (h : Disk W U d S) (hb : Below C W W') (hC : W.heap.size ≤ C) : Disk W' U d S :=
  h.stay hb.size (fun j hj _ => hb.block j (Nat.lt_of_lt_of_le hj hC))
end

set_option maxHeartbeats 1000000 in
theorem dCall_at (W : World) (U : Foot) (d m c : Nat) (K : Dk) (L : DTb) (h : DiskAt W U d m c K L) (hw : KWf K) :
    Calls Try.prog 40 #[.pointer (some ⟨d, 0, none⟩)] W fun e W' => e = .returned (.int .i64 K.call.1) ∧ DiskAt W' U d m c K.call.2 L ∧ W.grownBy W' (some d) := by
  obtain ⟨room, calls, armed, kind, after, off⟩ := K
  have hc := hw.calls
  have ha := hw.after
  simp only at hc ha
  have hb : Blk W d 76 #[.int .i64 room, .map (some m), .int .i64 calls, .bool armed, .int .i64 kind, .int .i64 after, .bool off] := h.blk
  refine calls_vc Try.func40 rfl (by kernel_rfl) ?_
  ((conv => whnf); (repeat ((first | (refine VL.cons ?_) | (refine VL.nil ?_) | (refine VC.seqS rfl ?_) | (refine VC.region ?_) | (refine VC.draw ?_) | (refine VC.cond ?_) | (refine VC.block ?_) | (refine VC.exit ?_) | (refine VC.ret ?_) | (refine VC.skip ?_) | (refine VC.label ?_) | (refine VC.scope ?_) | (refine VQ.cons ?_) | (refine VQ.nil ?_) | (refine VG.nil ?_) | (refine VG.cons ?_)); (conv => whnf))))
  (repeat (first | ((first | (refine VL.cons ?_) | (refine VL.nil ?_) | (refine VC.seqS rfl ?_) | (refine VC.region ?_) | (refine VC.draw ?_) | (refine VC.cond ?_) | (refine VC.block ?_) | (refine VC.exit ?_) | (refine VC.ret ?_) | (refine VC.skip ?_) | (refine VC.label ?_) | (refine VC.scope ?_) | (refine VQ.cons ?_) | (refine VQ.nil ?_) | (refine VG.nil ?_) | (refine VG.cons ?_) | (refine VP.done ?_) | (refine VP.one ?_) | (refine VP.two ?_) | (refine VE.cons ?_) | (refine VE.nil ?_) | (refine VBool.t ?_) | (refine VBool.f ?_) | (refine VBool.dT (by omega) ?_) | (refine VBool.dF (by omega) ?_) | (refine VBool.nT (by omega) ?_) | (refine VBool.nF (by omega) ?_) | (refine VRead.lenS ?_) | (refine VRead.lenT ?_) | (refine VRead.fld ?_) | (refine VRead.load1 (by assumption) ?_) | (refine VRead.load (by assumption) ?_) | (refine VRead.neB ?_) | (refine VRead.eqPN ?_) | (refine VRead.nePN ?_) | (refine VRead.eqB ?_) | (refine VBool.nT rfl ?_) | (refine VBool.dT rfl ?_) | (refine VWrap.i64 (by omega) (by omega) ?_) | (refine VWrap.u64 (by omega) (by omega) ?_) | (refine VRead.at1 (by omega) ?_) | (refine VRead.eqNN ?_) | (refine VSem.convI ?_) | (refine VRead.convI ?_) | (refine VRead.rem (by omega) (by decide) ?_) | (refine VRead.neg ?_) | (refine VC.seq ?_)); (conv => whnf)) | (refine VRead.loadB hb rfl rfl ?_; (conv => whnf))))
  refine VUnit.storeB hb rfl rfl rfl ?_
  intro W1 hb1 hg1
  replace hb1 : Blk W1 d 76 #[.int .i64 room, .map (some m), .int .i64 (calls + 1), .bool armed, .int .i64 kind, .int .i64 after, .bool off] := hb1
  have h1 : DiskAt W1 U d m c ⟨room, calls + 1, armed, kind, after, off⟩ L := h.own hb1 hg1
  ((conv => whnf); (repeat ((first | (refine VL.cons ?_) | (refine VL.nil ?_) | (refine VC.seqS rfl ?_) | (refine VC.region ?_) | (refine VC.draw ?_) | (refine VC.cond ?_) | (refine VC.block ?_) | (refine VC.exit ?_) | (refine VC.ret ?_) | (refine VC.skip ?_) | (refine VC.label ?_) | (refine VC.scope ?_) | (refine VQ.cons ?_) | (refine VQ.nil ?_) | (refine VG.nil ?_) | (refine VG.cons ?_)); (conv => whnf))))
  (repeat (first | ((first | (refine VL.cons ?_) | (refine VL.nil ?_) | (refine VC.seqS rfl ?_) | (refine VC.region ?_) | (refine VC.draw ?_) | (refine VC.cond ?_) | (refine VC.block ?_) | (refine VC.exit ?_) | (refine VC.ret ?_) | (refine VC.skip ?_) | (refine VC.label ?_) | (refine VC.scope ?_) | (refine VQ.cons ?_) | (refine VQ.nil ?_) | (refine VG.nil ?_) | (refine VG.cons ?_) | (refine VP.done ?_) | (refine VP.one ?_) | (refine VP.two ?_) | (refine VE.cons ?_) | (refine VE.nil ?_) | (refine VBool.t ?_) | (refine VBool.f ?_) | (refine VBool.dT (by omega) ?_) | (refine VBool.dF (by omega) ?_) | (refine VBool.nT (by omega) ?_) | (refine VBool.nF (by omega) ?_) | (refine VRead.lenS ?_) | (refine VRead.lenT ?_) | (refine VRead.fld ?_) | (refine VRead.load1 (by assumption) ?_) | (refine VRead.load (by assumption) ?_) | (refine VRead.neB ?_) | (refine VRead.eqPN ?_) | (refine VRead.nePN ?_) | (refine VRead.eqB ?_) | (refine VBool.nT rfl ?_) | (refine VBool.dT rfl ?_) | (refine VWrap.i64 (by omega) (by omega) ?_) | (refine VWrap.u64 (by omega) (by omega) ?_) | (refine VRead.at1 (by omega) ?_) | (refine VRead.eqNN ?_) | (refine VSem.convI ?_) | (refine VRead.convI ?_) | (refine VRead.rem (by omega) (by decide) ?_) | (refine VRead.neg ?_) | (refine VC.seq ?_)); (conv => whnf)) | (refine VRead.loadB hb1 rfl rfl ?_; (conv => whnf))))
  cases off with
  | true =>
    ((repeat ((first | (refine VL.cons ?_) | (refine VL.nil ?_) | (refine VC.seqS rfl ?_) | (refine VC.region ?_) | (refine VC.draw ?_) | (refine VC.cond ?_) | (refine VC.block ?_) | (refine VC.exit ?_) | (refine VC.ret ?_) | (refine VC.skip ?_) | (refine VC.label ?_) | (refine VC.scope ?_) | (refine VQ.cons ?_) | (refine VQ.nil ?_) | (refine VG.nil ?_) | (refine VG.cons ?_) | (refine VP.done ?_) | (refine VP.one ?_) | (refine VP.two ?_) | (refine VE.cons ?_) | (refine VE.nil ?_) | (refine VBool.t ?_) | (refine VBool.f ?_) | (refine VBool.dT (by omega) ?_) | (refine VBool.dF (by omega) ?_) | (refine VBool.nT (by omega) ?_) | (refine VBool.nF (by omega) ?_) | (refine VRead.lenS ?_) | (refine VRead.lenT ?_) | (refine VRead.fld ?_) | (refine VRead.load1 (by assumption) ?_) | (refine VRead.load (by assumption) ?_) | (refine VRead.neB ?_) | (refine VRead.eqPN ?_) | (refine VRead.nePN ?_) | (refine VRead.eqB ?_) | (refine VBool.nT rfl ?_) | (refine VBool.dT rfl ?_) | (refine VWrap.i64 (by omega) (by omega) ?_) | (refine VWrap.u64 (by omega) (by omega) ?_) | (refine VRead.at1 (by omega) ?_) | (refine VRead.eqNN ?_) | (refine VSem.convI ?_) | (refine VRead.convI ?_) | (refine VRead.rem (by omega) (by decide) ?_) | (refine VRead.neg ?_) | (refine VC.seq ?_)); (conv => whnf))))
    exact ⟨rfl, h1, hg1⟩
  | false =>
    ((repeat ((first | (refine VL.cons ?_) | (refine VL.nil ?_) | (refine VC.seqS rfl ?_) | (refine VC.region ?_) | (refine VC.draw ?_) | (refine VC.cond ?_) | (refine VC.block ?_) | (refine VC.exit ?_) | (refine VC.ret ?_) | (refine VC.skip ?_) | (refine VC.label ?_) | (refine VC.scope ?_) | (refine VQ.cons ?_) | (refine VQ.nil ?_) | (refine VG.nil ?_) | (refine VG.cons ?_) | (refine VP.done ?_) | (refine VP.one ?_) | (refine VP.two ?_) | (refine VE.cons ?_) | (refine VE.nil ?_) | (refine VBool.t ?_) | (refine VBool.f ?_) | (refine VBool.dT (by omega) ?_) | (refine VBool.dF (by omega) ?_) | (refine VBool.nT (by omega) ?_) | (refine VBool.nF (by omega) ?_) | (refine VRead.lenS ?_) | (refine VRead.lenT ?_) | (refine VRead.fld ?_) | (refine VRead.load1 (by assumption) ?_) | (refine VRead.load (by assumption) ?_) | (refine VRead.neB ?_) | (refine VRead.eqPN ?_) | (refine VRead.nePN ?_) | (refine VRead.eqB ?_) | (refine VBool.nT rfl ?_) | (refine VBool.dT rfl ?_) | (refine VWrap.i64 (by omega) (by omega) ?_) | (refine VWrap.u64 (by omega) (by omega) ?_) | (refine VRead.at1 (by omega) ?_) | (refine VRead.eqNN ?_) | (refine VSem.convI ?_) | (refine VRead.convI ?_) | (refine VRead.rem (by omega) (by decide) ?_) | (refine VRead.neg ?_) | (refine VC.seq ?_)); (conv => whnf))))
    (repeat (first | ((first | (refine VL.cons ?_) | (refine VL.nil ?_) | (refine VC.seqS rfl ?_) | (refine VC.region ?_) | (refine VC.draw ?_) | (refine VC.cond ?_) | (refine VC.block ?_) | (refine VC.exit ?_) | (refine VC.ret ?_) | (refine VC.skip ?_) | (refine VC.label ?_) | (refine VC.scope ?_) | (refine VQ.cons ?_) | (refine VQ.nil ?_) | (refine VG.nil ?_) | (refine VG.cons ?_) | (refine VP.done ?_) | (refine VP.one ?_) | (refine VP.two ?_) | (refine VE.cons ?_) | (refine VE.nil ?_) | (refine VBool.t ?_) | (refine VBool.f ?_) | (refine VBool.dT (by omega) ?_) | (refine VBool.dF (by omega) ?_) | (refine VBool.nT (by omega) ?_) | (refine VBool.nF (by omega) ?_) | (refine VRead.lenS ?_) | (refine VRead.lenT ?_) | (refine VRead.fld ?_) | (refine VRead.load1 (by assumption) ?_) | (refine VRead.load (by assumption) ?_) | (refine VRead.neB ?_) | (refine VRead.eqPN ?_) | (refine VRead.nePN ?_) | (refine VRead.eqB ?_) | (refine VBool.nT rfl ?_) | (refine VBool.dT rfl ?_) | (refine VWrap.i64 (by omega) (by omega) ?_) | (refine VWrap.u64 (by omega) (by omega) ?_) | (refine VRead.at1 (by omega) ?_) | (refine VRead.eqNN ?_) | (refine VSem.convI ?_) | (refine VRead.convI ?_) | (refine VRead.rem (by omega) (by decide) ?_) | (refine VRead.neg ?_) | (refine VC.seq ?_)); (conv => whnf)) | (refine VRead.loadB hb1 rfl rfl ?_; (conv => whnf))))
    cases armed with
    | false =>
      ((repeat ((first | (refine VL.cons ?_) | (refine VL.nil ?_) | (refine VC.seqS rfl ?_) | (refine VC.region ?_) | (refine VC.draw ?_) | (refine VC.cond ?_) | (refine VC.block ?_) | (refine VC.exit ?_) | (refine VC.ret ?_) | (refine VC.skip ?_) | (refine VC.label ?_) | (refine VC.scope ?_) | (refine VQ.cons ?_) | (refine VQ.nil ?_) | (refine VG.nil ?_) | (refine VG.cons ?_) | (refine VP.done ?_) | (refine VP.one ?_) | (refine VP.two ?_) | (refine VE.cons ?_) | (refine VE.nil ?_) | (refine VBool.t ?_) | (refine VBool.f ?_) | (refine VBool.dT (by omega) ?_) | (refine VBool.dF (by omega) ?_) | (refine VBool.nT (by omega) ?_) | (refine VBool.nF (by omega) ?_) | (refine VRead.lenS ?_) | (refine VRead.lenT ?_) | (refine VRead.fld ?_) | (refine VRead.load1 (by assumption) ?_) | (refine VRead.load (by assumption) ?_) | (refine VRead.neB ?_) | (refine VRead.eqPN ?_) | (refine VRead.nePN ?_) | (refine VRead.eqB ?_) | (refine VBool.nT rfl ?_) | (refine VBool.dT rfl ?_) | (refine VWrap.i64 (by omega) (by omega) ?_) | (refine VWrap.u64 (by omega) (by omega) ?_) | (refine VRead.at1 (by omega) ?_) | (refine VRead.eqNN ?_) | (refine VSem.convI ?_) | (refine VRead.convI ?_) | (refine VRead.rem (by omega) (by decide) ?_) | (refine VRead.neg ?_) | (refine VC.seq ?_)); (conv => whnf))))
      exact ⟨rfl, h1, hg1⟩
    | true =>
      ((repeat ((first | (refine VL.cons ?_) | (refine VL.nil ?_) | (refine VC.seqS rfl ?_) | (refine VC.region ?_) | (refine VC.draw ?_) | (refine VC.cond ?_) | (refine VC.block ?_) | (refine VC.exit ?_) | (refine VC.ret ?_) | (refine VC.skip ?_) | (refine VC.label ?_) | (refine VC.scope ?_) | (refine VQ.cons ?_) | (refine VQ.nil ?_) | (refine VG.nil ?_) | (refine VG.cons ?_) | (refine VP.done ?_) | (refine VP.one ?_) | (refine VP.two ?_) | (refine VE.cons ?_) | (refine VE.nil ?_) | (refine VBool.t ?_) | (refine VBool.f ?_) | (refine VBool.dT (by omega) ?_) | (refine VBool.dF (by omega) ?_) | (refine VBool.nT (by omega) ?_) | (refine VBool.nF (by omega) ?_) | (refine VRead.lenS ?_) | (refine VRead.lenT ?_) | (refine VRead.fld ?_) | (refine VRead.load1 (by assumption) ?_) | (refine VRead.load (by assumption) ?_) | (refine VRead.neB ?_) | (refine VRead.eqPN ?_) | (refine VRead.nePN ?_) | (refine VRead.eqB ?_) | (refine VBool.nT rfl ?_) | (refine VBool.dT rfl ?_) | (refine VWrap.i64 (by omega) (by omega) ?_) | (refine VWrap.u64 (by omega) (by omega) ?_) | (refine VRead.at1 (by omega) ?_) | (refine VRead.eqNN ?_) | (refine VSem.convI ?_) | (refine VRead.convI ?_) | (refine VRead.rem (by omega) (by decide) ?_) | (refine VRead.neg ?_) | (refine VC.seq ?_)); (conv => whnf))))
      (repeat (first | ((first | (refine VL.cons ?_) | (refine VL.nil ?_) | (refine VC.seqS rfl ?_) | (refine VC.region ?_) | (refine VC.draw ?_) | (refine VC.cond ?_) | (refine VC.block ?_) | (refine VC.exit ?_) | (refine VC.ret ?_) | (refine VC.skip ?_) | (refine VC.label ?_) | (refine VC.scope ?_) | (refine VQ.cons ?_) | (refine VQ.nil ?_) | (refine VG.nil ?_) | (refine VG.cons ?_) | (refine VP.done ?_) | (refine VP.one ?_) | (refine VP.two ?_) | (refine VE.cons ?_) | (refine VE.nil ?_) | (refine VBool.t ?_) | (refine VBool.f ?_) | (refine VBool.dT (by omega) ?_) | (refine VBool.dF (by omega) ?_) | (refine VBool.nT (by omega) ?_) | (refine VBool.nF (by omega) ?_) | (refine VRead.lenS ?_) | (refine VRead.lenT ?_) | (refine VRead.fld ?_) | (refine VRead.load1 (by assumption) ?_) | (refine VRead.load (by assumption) ?_) | (refine VRead.neB ?_) | (refine VRead.eqPN ?_) | (refine VRead.nePN ?_) | (refine VRead.eqB ?_) | (refine VBool.nT rfl ?_) | (refine VBool.dT rfl ?_) | (refine VWrap.i64 (by omega) (by omega) ?_) | (refine VWrap.u64 (by omega) (by omega) ?_) | (refine VRead.at1 (by omega) ?_) | (refine VRead.eqNN ?_) | (refine VSem.convI ?_) | (refine VRead.convI ?_) | (refine VRead.rem (by omega) (by decide) ?_) | (refine VRead.neg ?_) | (refine VC.seq ?_)); (conv => whnf)) | (refine VRead.loadB hb1 rfl rfl ?_; (conv => whnf))))
      by_cases ha0 : 0 < after
      · ((repeat ((first | (refine VL.cons ?_) | (refine VL.nil ?_) | (refine VC.seqS rfl ?_) | (refine VC.region ?_) | (refine VC.draw ?_) | (refine VC.cond ?_) | (refine VC.block ?_) | (refine VC.exit ?_) | (refine VC.ret ?_) | (refine VC.skip ?_) | (refine VC.label ?_) | (refine VC.scope ?_) | (refine VQ.cons ?_) | (refine VQ.nil ?_) | (refine VG.nil ?_) | (refine VG.cons ?_) | (refine VP.done ?_) | (refine VP.one ?_) | (refine VP.two ?_) | (refine VE.cons ?_) | (refine VE.nil ?_) | (refine VBool.t ?_) | (refine VBool.f ?_) | (refine VBool.dT (by omega) ?_) | (refine VBool.dF (by omega) ?_) | (refine VBool.nT (by omega) ?_) | (refine VBool.nF (by omega) ?_) | (refine VRead.lenS ?_) | (refine VRead.lenT ?_) | (refine VRead.fld ?_) | (refine VRead.load1 (by assumption) ?_) | (refine VRead.load (by assumption) ?_) | (refine VRead.neB ?_) | (refine VRead.eqPN ?_) | (refine VRead.nePN ?_) | (refine VRead.eqB ?_) | (refine VBool.nT rfl ?_) | (refine VBool.dT rfl ?_) | (refine VWrap.i64 (by omega) (by omega) ?_) | (refine VWrap.u64 (by omega) (by omega) ?_) | (refine VRead.at1 (by omega) ?_) | (refine VRead.eqNN ?_) | (refine VSem.convI ?_) | (refine VRead.convI ?_) | (refine VRead.rem (by omega) (by decide) ?_) | (refine VRead.neg ?_) | (refine VC.seq ?_)); (conv => whnf))))
        (repeat (first | ((first | (refine VL.cons ?_) | (refine VL.nil ?_) | (refine VC.seqS rfl ?_) | (refine VC.region ?_) | (refine VC.draw ?_) | (refine VC.cond ?_) | (refine VC.block ?_) | (refine VC.exit ?_) | (refine VC.ret ?_) | (refine VC.skip ?_) | (refine VC.label ?_) | (refine VC.scope ?_) | (refine VQ.cons ?_) | (refine VQ.nil ?_) | (refine VG.nil ?_) | (refine VG.cons ?_) | (refine VP.done ?_) | (refine VP.one ?_) | (refine VP.two ?_) | (refine VE.cons ?_) | (refine VE.nil ?_) | (refine VBool.t ?_) | (refine VBool.f ?_) | (refine VBool.dT (by omega) ?_) | (refine VBool.dF (by omega) ?_) | (refine VBool.nT (by omega) ?_) | (refine VBool.nF (by omega) ?_) | (refine VRead.lenS ?_) | (refine VRead.lenT ?_) | (refine VRead.fld ?_) | (refine VRead.load1 (by assumption) ?_) | (refine VRead.load (by assumption) ?_) | (refine VRead.neB ?_) | (refine VRead.eqPN ?_) | (refine VRead.nePN ?_) | (refine VRead.eqB ?_) | (refine VBool.nT rfl ?_) | (refine VBool.dT rfl ?_) | (refine VWrap.i64 (by omega) (by omega) ?_) | (refine VWrap.u64 (by omega) (by omega) ?_) | (refine VRead.at1 (by omega) ?_) | (refine VRead.eqNN ?_) | (refine VSem.convI ?_) | (refine VRead.convI ?_) | (refine VRead.rem (by omega) (by decide) ?_) | (refine VRead.neg ?_) | (refine VC.seq ?_)); (conv => whnf)) | (refine VRead.loadB hb1 rfl rfl ?_; (conv => whnf))))
        refine VUnit.storeB hb1 rfl rfl rfl ?_
        intro W2 hb2 hg2
        replace hb2 : Blk W2 d 76 #[.int .i64 room, .map (some m), .int .i64 (calls + 1), .bool true, .int .i64 kind, .int .i64 (after - 1), .bool false] := hb2
        ((conv => whnf); (repeat ((first | (refine VL.cons ?_) | (refine VL.nil ?_) | (refine VC.seqS rfl ?_) | (refine VC.region ?_) | (refine VC.draw ?_) | (refine VC.cond ?_) | (refine VC.block ?_) | (refine VC.exit ?_) | (refine VC.ret ?_) | (refine VC.skip ?_) | (refine VC.label ?_) | (refine VC.scope ?_) | (refine VQ.cons ?_) | (refine VQ.nil ?_) | (refine VG.nil ?_) | (refine VG.cons ?_)); (conv => whnf))))
        ((repeat ((first | (refine VL.cons ?_) | (refine VL.nil ?_) | (refine VC.seqS rfl ?_) | (refine VC.region ?_) | (refine VC.draw ?_) | (refine VC.cond ?_) | (refine VC.block ?_) | (refine VC.exit ?_) | (refine VC.ret ?_) | (refine VC.skip ?_) | (refine VC.label ?_) | (refine VC.scope ?_) | (refine VQ.cons ?_) | (refine VQ.nil ?_) | (refine VG.nil ?_) | (refine VG.cons ?_) | (refine VP.done ?_) | (refine VP.one ?_) | (refine VP.two ?_) | (refine VE.cons ?_) | (refine VE.nil ?_) | (refine VBool.t ?_) | (refine VBool.f ?_) | (refine VBool.dT (by omega) ?_) | (refine VBool.dF (by omega) ?_) | (refine VBool.nT (by omega) ?_) | (refine VBool.nF (by omega) ?_) | (refine VRead.lenS ?_) | (refine VRead.lenT ?_) | (refine VRead.fld ?_) | (refine VRead.load1 (by assumption) ?_) | (refine VRead.load (by assumption) ?_) | (refine VRead.neB ?_) | (refine VRead.eqPN ?_) | (refine VRead.nePN ?_) | (refine VRead.eqB ?_) | (refine VBool.nT rfl ?_) | (refine VBool.dT rfl ?_) | (refine VWrap.i64 (by omega) (by omega) ?_) | (refine VWrap.u64 (by omega) (by omega) ?_) | (refine VRead.at1 (by omega) ?_) | (refine VRead.eqNN ?_) | (refine VSem.convI ?_) | (refine VRead.convI ?_) | (refine VRead.rem (by omega) (by decide) ?_) | (refine VRead.neg ?_) | (refine VC.seq ?_)); (conv => whnf))))
        have e : Dk.call ⟨room, calls, true, kind, after, false⟩ = (0, ⟨room, calls + 1, true, kind, after - 1, false⟩) := by simp [Dk.call, ha0]
        rw [e]
        refine ⟨rfl, ?_, only_trans hg1 hg2⟩
        · have : DiskAt W2 U d m c ⟨room, calls + 1, true, kind, after - 1, false⟩ L := h1.own hb2 hg2
          exact this
      · ((repeat ((first | (refine VL.cons ?_) | (refine VL.nil ?_) | (refine VC.seqS rfl ?_) | (refine VC.region ?_) | (refine VC.draw ?_) | (refine VC.cond ?_) | (refine VC.block ?_) | (refine VC.exit ?_) | (refine VC.ret ?_) | (refine VC.skip ?_) | (refine VC.label ?_) | (refine VC.scope ?_) | (refine VQ.cons ?_) | (refine VQ.nil ?_) | (refine VG.nil ?_) | (refine VG.cons ?_) | (refine VP.done ?_) | (refine VP.one ?_) | (refine VP.two ?_) | (refine VE.cons ?_) | (refine VE.nil ?_) | (refine VBool.t ?_) | (refine VBool.f ?_) | (refine VBool.dT (by omega) ?_) | (refine VBool.dF (by omega) ?_) | (refine VBool.nT (by omega) ?_) | (refine VBool.nF (by omega) ?_) | (refine VRead.lenS ?_) | (refine VRead.lenT ?_) | (refine VRead.fld ?_) | (refine VRead.load1 (by assumption) ?_) | (refine VRead.load (by assumption) ?_) | (refine VRead.neB ?_) | (refine VRead.eqPN ?_) | (refine VRead.nePN ?_) | (refine VRead.eqB ?_) | (refine VBool.nT rfl ?_) | (refine VBool.dT rfl ?_) | (refine VWrap.i64 (by omega) (by omega) ?_) | (refine VWrap.u64 (by omega) (by omega) ?_) | (refine VRead.at1 (by omega) ?_) | (refine VRead.eqNN ?_) | (refine VSem.convI ?_) | (refine VRead.convI ?_) | (refine VRead.rem (by omega) (by decide) ?_) | (refine VRead.neg ?_) | (refine VC.seq ?_)); (conv => whnf))))
        refine VUnit.storeB hb1 rfl rfl rfl ?_
        intro W2 hb2 hg2
        replace hb2 : Blk W2 d 76 #[.int .i64 room, .map (some m), .int .i64 (calls + 1), .bool false, .int .i64 kind, .int .i64 after, .bool false] := hb2
        have h2 : DiskAt W2 U d m c ⟨room, calls + 1, false, kind, after, false⟩ L := h1.own hb2 hg2
        ((conv => whnf); (repeat ((first | (refine VL.cons ?_) | (refine VL.nil ?_) | (refine VC.seqS rfl ?_) | (refine VC.region ?_) | (refine VC.draw ?_) | (refine VC.cond ?_) | (refine VC.block ?_) | (refine VC.exit ?_) | (refine VC.ret ?_) | (refine VC.skip ?_) | (refine VC.label ?_) | (refine VC.scope ?_) | (refine VQ.cons ?_) | (refine VQ.nil ?_) | (refine VG.nil ?_) | (refine VG.cons ?_)); (conv => whnf))))
        (repeat (first | ((first | (refine VL.cons ?_) | (refine VL.nil ?_) | (refine VC.seqS rfl ?_) | (refine VC.region ?_) | (refine VC.draw ?_) | (refine VC.cond ?_) | (refine VC.block ?_) | (refine VC.exit ?_) | (refine VC.ret ?_) | (refine VC.skip ?_) | (refine VC.label ?_) | (refine VC.scope ?_) | (refine VQ.cons ?_) | (refine VQ.nil ?_) | (refine VG.nil ?_) | (refine VG.cons ?_) | (refine VP.done ?_) | (refine VP.one ?_) | (refine VP.two ?_) | (refine VE.cons ?_) | (refine VE.nil ?_) | (refine VBool.t ?_) | (refine VBool.f ?_) | (refine VBool.dT (by omega) ?_) | (refine VBool.dF (by omega) ?_) | (refine VBool.nT (by omega) ?_) | (refine VBool.nF (by omega) ?_) | (refine VRead.lenS ?_) | (refine VRead.lenT ?_) | (refine VRead.fld ?_) | (refine VRead.load1 (by assumption) ?_) | (refine VRead.load (by assumption) ?_) | (refine VRead.neB ?_) | (refine VRead.eqPN ?_) | (refine VRead.nePN ?_) | (refine VRead.eqB ?_) | (refine VBool.nT rfl ?_) | (refine VBool.dT rfl ?_) | (refine VWrap.i64 (by omega) (by omega) ?_) | (refine VWrap.u64 (by omega) (by omega) ?_) | (refine VRead.at1 (by omega) ?_) | (refine VRead.eqNN ?_) | (refine VSem.convI ?_) | (refine VRead.convI ?_) | (refine VRead.rem (by omega) (by decide) ?_) | (refine VRead.neg ?_) | (refine VC.seq ?_)); (conv => whnf)) | (refine VRead.loadB hb2 rfl rfl ?_; (conv => whnf))))
        refine VUnit.storeB hb2 rfl rfl rfl ?_
        intro W3 hb3 hg3
        replace hb3 : Blk W3 d 76 #[.int .i64 room, .map (some m), .int .i64 (calls + 1), .bool false, .int .i64 kind, .int .i64 after, .bool (decide (kind = 19))] := hb3
        have h3 : DiskAt W3 U d m c ⟨room, calls + 1, false, kind, after, decide (kind = 19)⟩ L := h2.own hb3 hg3
        ((conv => whnf); (repeat ((first | (refine VL.cons ?_) | (refine VL.nil ?_) | (refine VC.seqS rfl ?_) | (refine VC.region ?_) | (refine VC.draw ?_) | (refine VC.cond ?_) | (refine VC.block ?_) | (refine VC.exit ?_) | (refine VC.ret ?_) | (refine VC.skip ?_) | (refine VC.label ?_) | (refine VC.scope ?_) | (refine VQ.cons ?_) | (refine VQ.nil ?_) | (refine VG.nil ?_) | (refine VG.cons ?_)); (conv => whnf))))
        (repeat (first | ((first | (refine VL.cons ?_) | (refine VL.nil ?_) | (refine VC.seqS rfl ?_) | (refine VC.region ?_) | (refine VC.draw ?_) | (refine VC.cond ?_) | (refine VC.block ?_) | (refine VC.exit ?_) | (refine VC.ret ?_) | (refine VC.skip ?_) | (refine VC.label ?_) | (refine VC.scope ?_) | (refine VQ.cons ?_) | (refine VQ.nil ?_) | (refine VG.nil ?_) | (refine VG.cons ?_) | (refine VP.done ?_) | (refine VP.one ?_) | (refine VP.two ?_) | (refine VE.cons ?_) | (refine VE.nil ?_) | (refine VBool.t ?_) | (refine VBool.f ?_) | (refine VBool.dT (by omega) ?_) | (refine VBool.dF (by omega) ?_) | (refine VBool.nT (by omega) ?_) | (refine VBool.nF (by omega) ?_) | (refine VRead.lenS ?_) | (refine VRead.lenT ?_) | (refine VRead.fld ?_) | (refine VRead.load1 (by assumption) ?_) | (refine VRead.load (by assumption) ?_) | (refine VRead.neB ?_) | (refine VRead.eqPN ?_) | (refine VRead.nePN ?_) | (refine VRead.eqB ?_) | (refine VBool.nT rfl ?_) | (refine VBool.dT rfl ?_) | (refine VWrap.i64 (by omega) (by omega) ?_) | (refine VWrap.u64 (by omega) (by omega) ?_) | (refine VRead.at1 (by omega) ?_) | (refine VRead.eqNN ?_) | (refine VSem.convI ?_) | (refine VRead.convI ?_) | (refine VRead.rem (by omega) (by decide) ?_) | (refine VRead.neg ?_) | (refine VC.seq ?_)); (conv => whnf)) | (refine VRead.loadB hb3 rfl rfl ?_; (conv => whnf))))
        have e : Dk.call ⟨room, calls, true, kind, after, false⟩ = (kind, ⟨room, calls + 1, false, kind, after, decide (kind = 19)⟩) := by simp [Dk.call, ha0]
        rw [e]
        exact ⟨rfl, h3, only_trans hg1 (only_trans hg2 hg3)⟩
end Go.Proofs.Ytajheglnhfjodaa
