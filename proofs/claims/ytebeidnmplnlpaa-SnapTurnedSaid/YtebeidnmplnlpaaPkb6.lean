/- Texts joined: SnapD, SnapE, SnapF, SnapG, SnapH, In. No condition. -/
import Derived.Test.YtebeidnmplnlpaaPkb5
import Derived.Test.YtebeidnmplnlpaaPkb0
import Derived.SliceStrings
import Derived.Deep.Grids
section
set_option maxRecDepth 10000
namespace Go.Proofs.Ytebeidnmplnlpaa
set_option linter.unusedVariables false
open Go.RowKit

/-! ### plain -/
def hA (h : List UInt8) : Int := (Wire.intS (some h)).1
def hT (h : List UInt8) : Int := (Wire.intS (Wire.intS (some h)).2).1
def hN (h : List UInt8) : Int := (Wire.intS (Wire.intS (Wire.intS (some h)).2).2).1
def hE (h : List UInt8) : Bool := Wire.endS (Wire.intS (Wire.intS (Wire.intS (some h)).2).2).2
structure HdOk (h : List UInt8) (idx : Int) : Prop where
  e : hE h = true
  a : hA h = idx
  t1 : 1 ≤ hT h
  t2 : hT h ≤ 1099511627776
  n1 : 1 ≤ hN h
  n2 : hN h ≤ 1048576
instance (h : List UInt8) (idx : Int) : Decidable (HdOk h idx) :=
  decidable_of_iff (hE h = true ∧ hA h = idx ∧ 1 ≤ hT h ∧ hT h ≤ 1099511627776 ∧ 1 ≤ hN h ∧ hN h ≤ 1048576) ⟨fun ⟨a, b, c, d, e, f⟩ => ⟨a, b, c, d, e, f⟩, fun h => ⟨h.e, h.a, h.t1, h.t2, h.n1, h.n2⟩⟩
def gather (n : Int) : List UInt8 → List (List UInt8) → Option (List UInt8)
  | acc, [] => some acc
  | acc, b :: r => if (b.length : Int) = min 1000 (n - acc.length) then gather n (acc ++ b) r else none
def saysB (idx : Int) : List (List UInt8) → Option (Int × List UInt8)
  | [] => none
  | h :: cs => if HdOk h idx then match gather (hN h) [] cs with
    | some x => if (x.length : Int) = hN h then some (hT h, x) else none
    | none => none else none
theorem saysB_cons (idx : Int) (h : List UInt8) (cs : List (List UInt8)) : saysB idx (h :: cs) = if HdOk h idx then match gather (hN h) [] cs with
    | some x => if (x.length : Int) = hN h then some (hT h, x) else none
    | none => none else none := rfl
def saysS (l : List UInt8) (idx : Int) : Option (Int × List UInt8) := if Frame.rest l = [] then saysB idx (Frame.bodies l) else none
theorem gather_snoc {n : Int} {b : List UInt8} : ∀ {cs : List (List UInt8)} {acc : List UInt8}, gather n acc (cs ++ [b]) = match gather n acc cs with | some x => (if (b.length : Int) = min 1000 (n - x.length) then some (x ++ b) else none) | none => none
  | [], acc => by simp [gather]
  | c :: cs, acc => by
    rw [List.cons_append]
    unfold gather
    split
    · exact gather_snoc
    · rfl
theorem gather_none {n : Int} {cs : List (List UInt8)} {acc : List UInt8} {m : Nat} (h : gather n acc (cs.take m) = none) : gather n acc cs = none := by
  induction cs generalizing acc m with
  | nil => simpa using h
  | cons c cs ih =>
    cases m with
    | zero => simp [gather] at h
    | succ m =>
      rw [List.take_succ_cons] at h
      unfold gather at h ⊢
      split at h
      · rename_i hc; rw [if_pos hc]; exact ih h
      · rename_i hc; rw [if_neg hc]
theorem gather_le {n : Int} : ∀ {cs : List (List UInt8)} {acc x : List UInt8}, (acc.length : Int) ≤ n → gather n acc cs = some x → (x.length : Int) ≤ n
  | [], acc, x, h, e => by simp [gather] at e; subst e; exact h
  | c :: cs, acc, x, h, e => by
    unfold gather at e
    split at e
    · rename_i hc
      exact gather_le (by rw [List.length_append]; omega) e
    · cases e
theorem VRes.cell3 {P : Program} {w : World} {a b c t u v T1 T2 T3 g1 g2 g3 : Nat} {σ : Env} {x y z : Value} {R : Ending → World → Prop} [i : TCell P t] [j : TCell P u] [k : TCell P v]
    (ha : σ a = .pointer (some ⟨g1, 0, none⟩)) (hb : σ b = .pointer (some ⟨g2, 0, none⟩)) (hc : σ c = .pointer (some ⟨g3, 0, none⟩)) (h1 : Blk w g1 T1 #[x]) (h2 : Blk w g2 T2 #[y]) (h3 : Blk w g3 T3 #[z])
    (h : R (.returned (.tuple #[x, y, z])) w) : VRes P [.cell a t, .cell b u, .cell c v] σ w R := by
  have k1 := run_load_cell (P := P) (t := t) (W := w) i.c (by have := h1.cell 0; simpa using this)
  have k2 := run_load_cell (P := P) (t := u) (W := w) j.c (by have := h2.cell 0; simpa using this)
  have k3 := run_load_cell (P := P) (t := v) (W := w) k.c (by have := h3.cell 0; simpa using this)
  unfold Instr.loadAt Instr.sureAddr at k1 k2 k3
  simp only [Sem.run_bind, Sem.run_pure, Result.andThen_ok] at k1 k2 k3
  exact ⟨⟨_, by simp [resE, ha, hb, hc, asAddr, k1, k2, k3], h⟩⟩
def SaysV (w : World) (B : Nat) (o : Option (Int × List UInt8)) (T : Int) (v : Value) (ok : Bool) : Prop := match o with
  | some p => ok = true ∧ T = p.1 ∧ ∃ A c, v = .slice A p.2.length c ∧ Own w B (.slice A p.2.length c) p.2.length p.2
  | none => ok = false ∧ ∃ A n c, v = .slice A n c
theorem own_form {w : World} {B n : Nat} {v : Value} {l : List UInt8} (h : Own w B v n l) : ∃ A c, v = .slice A n c := by
  rcases h.2 with ⟨rfl, e0⟩ | ⟨g, cap, cur, e1, _⟩
  · exact ⟨none, 0, by rw [e0]⟩
  · exact ⟨_, _, e1⟩
/-- what stays while the frames are read -/
structure RdFix (v : Value) (w : World) (D : Nat) (o : Obj) (idx : Int) (g3 g4 g5 g6 gx : Nat) (W : World) : Prop where
  b3 : Blk W g3 3 #[.int .i64 idx]
  b4 : Blk W g4 3 #[.int .i64 0]
  b5 : Blk W g5 31 #[.slice none 0 0]
  b6 : Blk W g6 4 #[.bool false]
  bx : Blk W gx 31 #[v]
  dd : W.heap[D]? = some (.deferred (some []))
  ll : W.heap[D + 1]? = some o
  since : Below w.heap.size w W
section
variable {v : Value} {w W W' : World} {D : Nat} {o o' : Obj} {idx : Int} {g3 g4 g5 g6 gx g : Nat}
theorem RdFix.later (h : RdFix v w D o idx g3 g4 g5 g6 gx W) (hb : Below W.heap.size W W') : RdFix v w D o idx g3 g4 g5 g6 gx W' :=
  ⟨h.b3.later hb, h.b4.later hb, h.b5.later hb, h.b6.later hb, h.bx.later hb, obj_later h.dd hb, obj_later h.ll hb, h.since.trans (hb.mono h.since.size)⟩
theorem RdFix.only (h : RdFix v w D o idx g3 g4 g5 g6 gx W) (hg : W.grownBy W' (some g)) (h3 : g3 ≠ g) (h4 : g4 ≠ g) (h5 : g5 ≠ g) (h6 : g6 ≠ g) (hx : gx ≠ g) (hd : D ≠ g) (hl : D + 1 ≠ g) (hw : w.heap.size ≤ g) : RdFix v w D o idx g3 g4 g5 g6 gx W' :=
  ⟨h.b3.only hg h3, h.b4.only hg h4, h.b5.only hg h5, h.b6.only hg h6, h.bx.only hg hx, obj_only h.dd hg hd, obj_only h.ll hg hl, only_new h.since hg hw h.since.size⟩
theorem RdFix.loop (h : RdFix v w D o idx g3 g4 g5 g6 gx W) (h3 : g3 < D) (h4 : g4 < D) (h5 : g5 < D) (h6 : g6 < D) (hx : gx < D) (hw : w.heap.size ≤ D) : RdFix v w D o' idx g3 g4 g5 g6 gx (W.putObj (D + 1) o') :=
  ⟨h.b3.putObj (by omega) _, h.b4.putObj (by omega) _, h.b5.putObj (by omega) _, h.b6.putObj (by omega) _, h.bx.putObj (by omega) _, put_other h.dd (by omega), put_same h.ll, Below.putObj h.since (by omega) _⟩
theorem Own.loop {r : Loop} {B n : Nat} {u : Value} {l : List UInt8} (h : Own W B u n l) (hl : W.heap[D]? = some (.loop r)) (o : Obj) : Own (W.putObj D o) B u n l :=
  ownsRow_stay h (fun g hg => by
    obtain ⟨cs, hc⟩ := (row_cells h g hg).2
    refine World.putObj_heap_other (fun e => ?_)
    subst e
    rw [hl] at hc; cases hc)
theorem RdFix.set4 (h : RdFix v w D o idx g3 g4 g5 g6 gx W) (hb : Blk W' g4 3 #[.int .i64 0]) (hg : W.grownBy W' (some g4)) (h3 : g3 < g4) (h5 : g4 < g5) (h6 : g5 < g6) (hx : g6 < gx) (hd : gx < D) (hw : w.heap.size ≤ g3) : RdFix v w D o idx g3 g4 g5 g6 gx W' :=
  ⟨h.b3.only hg (by omega), hb, h.b5.only hg (by omega), h.b6.only hg (by omega), h.bx.only hg (by omega), obj_only h.dd hg (by omega), obj_only h.ll hg (by omega), only_new h.since hg (by omega) h.since.size⟩
theorem RdFix.set5 (h : RdFix v w D o idx g3 g4 g5 g6 gx W) (hb : Blk W' g5 31 #[.slice none 0 0]) (hg : W.grownBy W' (some g5)) (h3 : g3 < g4) (h5 : g4 < g5) (h6 : g5 < g6) (hx : g6 < gx) (hd : gx < D) (hw : w.heap.size ≤ g3) : RdFix v w D o idx g3 g4 g5 g6 gx W' :=
  ⟨h.b3.only hg (by omega), h.b4.only hg (by omega), hb, h.b6.only hg (by omega), h.bx.only hg (by omega), obj_only h.dd hg (by omega), obj_only h.ll hg (by omega), only_new h.since hg (by omega) h.since.size⟩
theorem RdFix.set6 (h : RdFix v w D o idx g3 g4 g5 g6 gx W) (hb : Blk W' g6 4 #[.bool false]) (hg : W.grownBy W' (some g6)) (h3 : g3 < g4) (h5 : g4 < g5) (h6 : g5 < g6) (hx : g6 < gx) (hd : gx < D) (hw : w.heap.size ≤ g3) : RdFix v w D o idx g3 g4 g5 g6 gx W' :=
  ⟨h.b3.only hg (by omega), h.b4.only hg (by omega), h.b5.only hg (by omega), hb, h.bx.only hg (by omega), obj_only h.dd hg (by omega), obj_only h.ll hg (by omega), only_new h.since hg (by omega) h.since.size⟩
end
/-- what the frames have said so far -/
def RdAcc (bs : List (List UInt8)) (idx : Int) (D g9 g10 g11 g12 : Nat) (k : Nat) (W : World) : Prop :=
  (k = 0 ∧ Blk W g9 3 #[.int .i64 0] ∧ Blk W g10 3 #[.int .i64 0] ∧ Blk W g11 3 #[.int .i64 0] ∧ Blk W g12 31 #[.slice none 0 0]) ∨
  (∃ h cs, bs = h :: cs ∧ 1 ≤ k ∧ HdOk h idx ∧ Blk W g9 3 #[.int .i64 (hA h)] ∧ Blk W g10 3 #[.int .i64 (hT h)] ∧ Blk W g11 3 #[.int .i64 (hN h)] ∧
    ∃ Ad cd acc, Blk W g12 31 #[.slice Ad acc.length cd] ∧ Own W D (.slice Ad acc.length cd) acc.length acc ∧ gather (hN h) [] (cs.take (k - 1)) = some acc)
theorem RdAcc.later {bs : List (List UInt8)} {idx : Int} {D g9 g10 g11 g12 k : Nat} {W W' : World} (h : RdAcc bs idx D g9 g10 g11 g12 k W) (hb : Below W.heap.size W W') : RdAcc bs idx D g9 g10 g11 g12 k W' := by
  rcases h with ⟨h0, h1, h2, h3, h4⟩ | ⟨h, cs, e1, e2, e3, h1, h2, h3, Ad, cd, acc, h4, h5, h6⟩
  · exact .inl ⟨h0, h1.later hb, h2.later hb, h3.later hb, h4.later hb⟩
  · exact .inr ⟨h, cs, e1, e2, e3, h1.later hb, h2.later hb, h3.later hb, Ad, cd, acc, h4.later hb, rows_below h5 hb (Nat.le_refl _), h6⟩
theorem RdAcc.loop {bs : List (List UInt8)} {idx : Int} {D g9 g10 g11 g12 k : Nat} {W : World} {r : Loop} (h : RdAcc bs idx D g9 g10 g11 g12 k W) (hl : W.heap[D + 1]? = some (.loop r)) (h9 : g9 < D) (h10 : g10 < D) (h11 : g11 < D) (h12 : g12 < D) (o : Obj) : RdAcc bs idx D g9 g10 g11 g12 k (W.putObj (D + 1) o) := by
  rcases h with ⟨h0, h1, h2, h3, h4⟩ | ⟨h, cs, e1, e2, e3, h1, h2, h3, Ad, cd, acc, h4, h5, h6⟩
  · exact .inl ⟨h0, h1.putObj (by omega) _, h2.putObj (by omega) _, h3.putObj (by omega) _, h4.putObj (by omega) _⟩
  · exact .inr ⟨h, cs, e1, e2, e3, h1.putObj (by omega) _, h2.putObj (by omega) _, h3.putObj (by omega) _, Ad, cd, acc, h4.putObj (by omega) _, h5.loop hl o, h6⟩
structure RdJ (bs : List (List UInt8)) (v : Value) (w : World) (D : Nat) (o : Obj) (idx : Int) (g3 g4 g5 g6 gx g9 g10 g11 g12 : Nat) (k : Nat) (W : World) : Prop where
  fix : RdFix v w D o idx g3 g4 g5 g6 gx W
  acc : RdAcc bs idx D g9 g10 g11 g12 k W
/-- the round that leaves -/
structure RdX (bs : List (List UInt8)) (v : Value) (w : World) (D : Nat) (r : Loop) (idx : Int) (g3 g4 g5 g6 gx : Nat) (W : World) : Prop where
  fix : RdFix v w D (.loop { r with state := .done, pending := some .ret }) idx g3 g4 g5 g6 gx W
  no : saysB idx bs = none
set_option maxHeartbeats 4000000 in
theorem snapRead_any (A : Option Addr) (n c : Nat) (l : List UInt8) (idx : Int) (w : World) (hn : n ≤ 16777216) (hnc : n ≤ c) (hr : Reads w w.heap.size 1 A n (bv l)) :
    Calls Try.prog 55 #[.slice A n c, .int .i64 idx] w fun e w' => (∃ T v ok, e = .returned (.tuple #[.int .i64 T, v, .bool ok]) ∧ SaysV w' w.heap.size (saysS l idx) T v ok) ∧ Below w.heap.size w w' := by
  have hln : l.length = n := by have := hr.1; rw [bv_length] at this; omega
  refine calls_vw Try.func55 rfl (by kernel_rfl) ?_
  refine VW.seq (VW.vc (by kernel_rfl) ?_)
  ((conv => whnf); (repeat ((first | (refine VL.cons ?_) | (refine VL.nil ?_) | (refine VC.seqS rfl ?_) | (refine VC.region ?_) | (refine VC.draw ?_) | (refine VC.cond ?_) | (refine VC.block ?_) | (refine VC.exit ?_) | (refine VC.ret ?_) | (refine VC.skip ?_) | (refine VC.label ?_) | (refine VC.scope ?_) | (refine VQ.cons ?_) | (refine VQ.nil ?_) | (refine VG.nil ?_) | (refine VG.cons ?_) | (refine VH.nil ?_) | (refine VH.cons ?_)); (conv => whnf))))
  ((repeat ((first | (refine VL.cons ?_) | (refine VL.nil ?_) | (refine VC.seqS rfl ?_) | (refine VC.region ?_) | (refine VC.draw ?_) | (refine VC.cond ?_) | (refine VC.block ?_) | (refine VC.exit ?_) | (refine VC.ret ?_) | (refine VC.skip ?_) | (refine VC.label ?_) | (refine VC.scope ?_) | (refine VQ.cons ?_) | (refine VQ.nil ?_) | (refine VG.nil ?_) | (refine VG.cons ?_) | (refine VH.nil ?_) | (refine VH.cons ?_) | (refine VP.done ?_) | (refine VP.one ?_) | (refine VP.two ?_) | (refine VE.cons ?_) | (refine VE.nil ?_) | (refine VBool.t ?_) | (refine VBool.f ?_) | (refine VBool.dT (by omega) ?_) | (refine VBool.dF (by omega) ?_) | (refine VBool.nT (by omega) ?_) | (refine VBool.nF (by omega) ?_) | (refine VRead.lenS ?_) | (refine VRead.lenT ?_) | (refine VRead.fld ?_) | (refine VRead.load1 (by assumption) ?_) | (refine VRead.load (by assumption) ?_) | (refine VRead.neB ?_) | (refine VRead.eqPN ?_) | (refine VRead.nePN ?_) | (refine VRead.eqB ?_) | (refine VBool.nT rfl ?_) | (refine VBool.dT rfl ?_) | (refine VWrap.i64 (by omega) (by omega) ?_) | (refine VWrap.u64 (by omega) (by omega) ?_) | (refine VRead.at1 (by omega) ?_) | (refine VRead.eqNN ?_) | (refine VSem.convI ?_) | (refine VRead.convI ?_) | (refine VRead.rem (by omega) (by decide) ?_) | (refine VRead.neg ?_) | (refine VC.seq ?_)); (conv => whnf))))
  refine VSem.boxB ?_
  intro w1 g3 hb3 hg3 hl3 hB1
  ((conv => whnf); (repeat ((first | (refine VL.cons ?_) | (refine VL.nil ?_) | (refine VC.seqS rfl ?_) | (refine VC.region ?_) | (refine VC.draw ?_) | (refine VC.cond ?_) | (refine VC.block ?_) | (refine VC.exit ?_) | (refine VC.ret ?_) | (refine VC.skip ?_) | (refine VC.label ?_) | (refine VC.scope ?_) | (refine VQ.cons ?_) | (refine VQ.nil ?_) | (refine VG.nil ?_) | (refine VG.cons ?_) | (refine VH.nil ?_) | (refine VH.cons ?_)); (conv => whnf))))
  ((repeat ((first | (refine VL.cons ?_) | (refine VL.nil ?_) | (refine VC.seqS rfl ?_) | (refine VC.region ?_) | (refine VC.draw ?_) | (refine VC.cond ?_) | (refine VC.block ?_) | (refine VC.exit ?_) | (refine VC.ret ?_) | (refine VC.skip ?_) | (refine VC.label ?_) | (refine VC.scope ?_) | (refine VQ.cons ?_) | (refine VQ.nil ?_) | (refine VG.nil ?_) | (refine VG.cons ?_) | (refine VH.nil ?_) | (refine VH.cons ?_) | (refine VP.done ?_) | (refine VP.one ?_) | (refine VP.two ?_) | (refine VE.cons ?_) | (refine VE.nil ?_) | (refine VBool.t ?_) | (refine VBool.f ?_) | (refine VBool.dT (by omega) ?_) | (refine VBool.dF (by omega) ?_) | (refine VBool.nT (by omega) ?_) | (refine VBool.nF (by omega) ?_) | (refine VRead.lenS ?_) | (refine VRead.lenT ?_) | (refine VRead.fld ?_) | (refine VRead.load1 (by assumption) ?_) | (refine VRead.load (by assumption) ?_) | (refine VRead.neB ?_) | (refine VRead.eqPN ?_) | (refine VRead.nePN ?_) | (refine VRead.eqB ?_) | (refine VBool.nT rfl ?_) | (refine VBool.dT rfl ?_) | (refine VWrap.i64 (by omega) (by omega) ?_) | (refine VWrap.u64 (by omega) (by omega) ?_) | (refine VRead.at1 (by omega) ?_) | (refine VRead.eqNN ?_) | (refine VSem.convI ?_) | (refine VRead.convI ?_) | (refine VRead.rem (by omega) (by decide) ?_) | (refine VRead.neg ?_) | (refine VC.seq ?_)); (conv => whnf))))
  refine VSem.allocZ (z := .int .i64 0) (by kernel_rfl) ?_
  intro w2 g4 hb4 hg4 hl4 hB2
  ((conv => whnf); (repeat ((first | (refine VL.cons ?_) | (refine VL.nil ?_) | (refine VC.seqS rfl ?_) | (refine VC.region ?_) | (refine VC.draw ?_) | (refine VC.cond ?_) | (refine VC.block ?_) | (refine VC.exit ?_) | (refine VC.ret ?_) | (refine VC.skip ?_) | (refine VC.label ?_) | (refine VC.scope ?_) | (refine VQ.cons ?_) | (refine VQ.nil ?_) | (refine VG.nil ?_) | (refine VG.cons ?_) | (refine VH.nil ?_) | (refine VH.cons ?_)); (conv => whnf))))
  ((repeat ((first | (refine VL.cons ?_) | (refine VL.nil ?_) | (refine VC.seqS rfl ?_) | (refine VC.region ?_) | (refine VC.draw ?_) | (refine VC.cond ?_) | (refine VC.block ?_) | (refine VC.exit ?_) | (refine VC.ret ?_) | (refine VC.skip ?_) | (refine VC.label ?_) | (refine VC.scope ?_) | (refine VQ.cons ?_) | (refine VQ.nil ?_) | (refine VG.nil ?_) | (refine VG.cons ?_) | (refine VH.nil ?_) | (refine VH.cons ?_) | (refine VP.done ?_) | (refine VP.one ?_) | (refine VP.two ?_) | (refine VE.cons ?_) | (refine VE.nil ?_) | (refine VBool.t ?_) | (refine VBool.f ?_) | (refine VBool.dT (by omega) ?_) | (refine VBool.dF (by omega) ?_) | (refine VBool.nT (by omega) ?_) | (refine VBool.nF (by omega) ?_) | (refine VRead.lenS ?_) | (refine VRead.lenT ?_) | (refine VRead.fld ?_) | (refine VRead.load1 (by assumption) ?_) | (refine VRead.load (by assumption) ?_) | (refine VRead.neB ?_) | (refine VRead.eqPN ?_) | (refine VRead.nePN ?_) | (refine VRead.eqB ?_) | (refine VBool.nT rfl ?_) | (refine VBool.dT rfl ?_) | (refine VWrap.i64 (by omega) (by omega) ?_) | (refine VWrap.u64 (by omega) (by omega) ?_) | (refine VRead.at1 (by omega) ?_) | (refine VRead.eqNN ?_) | (refine VSem.convI ?_) | (refine VRead.convI ?_) | (refine VRead.rem (by omega) (by decide) ?_) | (refine VRead.neg ?_) | (refine VC.seq ?_)); (conv => whnf))))
  refine VSem.allocZ (z := .slice none 0 0) (by kernel_rfl) ?_
  intro w3 g5 hb5 hg5 hl5 hB3
  ((conv => whnf); (repeat ((first | (refine VL.cons ?_) | (refine VL.nil ?_) | (refine VC.seqS rfl ?_) | (refine VC.region ?_) | (refine VC.draw ?_) | (refine VC.cond ?_) | (refine VC.block ?_) | (refine VC.exit ?_) | (refine VC.ret ?_) | (refine VC.skip ?_) | (refine VC.label ?_) | (refine VC.scope ?_) | (refine VQ.cons ?_) | (refine VQ.nil ?_) | (refine VG.nil ?_) | (refine VG.cons ?_) | (refine VH.nil ?_) | (refine VH.cons ?_)); (conv => whnf))))
  ((repeat ((first | (refine VL.cons ?_) | (refine VL.nil ?_) | (refine VC.seqS rfl ?_) | (refine VC.region ?_) | (refine VC.draw ?_) | (refine VC.cond ?_) | (refine VC.block ?_) | (refine VC.exit ?_) | (refine VC.ret ?_) | (refine VC.skip ?_) | (refine VC.label ?_) | (refine VC.scope ?_) | (refine VQ.cons ?_) | (refine VQ.nil ?_) | (refine VG.nil ?_) | (refine VG.cons ?_) | (refine VH.nil ?_) | (refine VH.cons ?_) | (refine VP.done ?_) | (refine VP.one ?_) | (refine VP.two ?_) | (refine VE.cons ?_) | (refine VE.nil ?_) | (refine VBool.t ?_) | (refine VBool.f ?_) | (refine VBool.dT (by omega) ?_) | (refine VBool.dF (by omega) ?_) | (refine VBool.nT (by omega) ?_) | (refine VBool.nF (by omega) ?_) | (refine VRead.lenS ?_) | (refine VRead.lenT ?_) | (refine VRead.fld ?_) | (refine VRead.load1 (by assumption) ?_) | (refine VRead.load (by assumption) ?_) | (refine VRead.neB ?_) | (refine VRead.eqPN ?_) | (refine VRead.nePN ?_) | (refine VRead.eqB ?_) | (refine VBool.nT rfl ?_) | (refine VBool.dT rfl ?_) | (refine VWrap.i64 (by omega) (by omega) ?_) | (refine VWrap.u64 (by omega) (by omega) ?_) | (refine VRead.at1 (by omega) ?_) | (refine VRead.eqNN ?_) | (refine VSem.convI ?_) | (refine VRead.convI ?_) | (refine VRead.rem (by omega) (by decide) ?_) | (refine VRead.neg ?_) | (refine VC.seq ?_)); (conv => whnf))))
  refine VSem.allocZ (z := .bool false) (by kernel_rfl) ?_
  intro w4 g6 hb6 hg6 hl6 hB4
  have s1 := hB1.size
  have s2 := hB2.size
  have s3 := hB3.size
  have s4 := hB4.size
  have hB04 : Below w.heap.size w w4 := ((hB1.trans (hB2.mono s1)).trans (hB3.mono (Nat.le_trans s1 s2))).trans (hB4.mono (Nat.le_trans (Nat.le_trans s1 s2) s3))
  replace hb3 := ((hb3.later hB2).later hB3).later hB4
  replace hb4 := (hb4.later hB3).later hB4
  replace hb5 := hb5.later hB4
  ((conv => whnf); (repeat ((first | (refine VL.cons ?_) | (refine VL.nil ?_) | (refine VC.seqS rfl ?_) | (refine VC.region ?_) | (refine VC.draw ?_) | (refine VC.cond ?_) | (refine VC.block ?_) | (refine VC.exit ?_) | (refine VC.ret ?_) | (refine VC.skip ?_) | (refine VC.label ?_) | (refine VC.scope ?_) | (refine VQ.cons ?_) | (refine VQ.nil ?_) | (refine VG.nil ?_) | (refine VG.cons ?_) | (refine VH.nil ?_) | (refine VH.cons ?_)); (conv => whnf))))
  ((repeat ((first | (refine VL.cons ?_) | (refine VL.nil ?_) | (refine VC.seqS rfl ?_) | (refine VC.region ?_) | (refine VC.draw ?_) | (refine VC.cond ?_) | (refine VC.block ?_) | (refine VC.exit ?_) | (refine VC.ret ?_) | (refine VC.skip ?_) | (refine VC.label ?_) | (refine VC.scope ?_) | (refine VQ.cons ?_) | (refine VQ.nil ?_) | (refine VG.nil ?_) | (refine VG.cons ?_) | (refine VH.nil ?_) | (refine VH.cons ?_) | (refine VP.done ?_) | (refine VP.one ?_) | (refine VP.two ?_) | (refine VE.cons ?_) | (refine VE.nil ?_) | (refine VBool.t ?_) | (refine VBool.f ?_) | (refine VBool.dT (by omega) ?_) | (refine VBool.dF (by omega) ?_) | (refine VBool.nT (by omega) ?_) | (refine VBool.nF (by omega) ?_) | (refine VRead.lenS ?_) | (refine VRead.lenT ?_) | (refine VRead.fld ?_) | (refine VRead.load1 (by assumption) ?_) | (refine VRead.load (by assumption) ?_) | (refine VRead.neB ?_) | (refine VRead.eqPN ?_) | (refine VRead.nePN ?_) | (refine VRead.eqB ?_) | (refine VBool.nT rfl ?_) | (refine VBool.dT rfl ?_) | (refine VWrap.i64 (by omega) (by omega) ?_) | (refine VWrap.u64 (by omega) (by omega) ?_) | (refine VRead.at1 (by omega) ?_) | (refine VRead.eqNN ?_) | (refine VSem.convI ?_) | (refine VRead.convI ?_) | (refine VRead.rem (by omega) (by decide) ?_) | (refine VRead.neg ?_) | (refine VC.seq ?_)); (conv => whnf))))
  refine VW.seq (VW.vc (by kernel_rfl) ?_)
  ((conv => whnf); (repeat ((first | (refine VL.cons ?_) | (refine VL.nil ?_) | (refine VC.seqS rfl ?_) | (refine VC.region ?_) | (refine VC.draw ?_) | (refine VC.cond ?_) | (refine VC.block ?_) | (refine VC.exit ?_) | (refine VC.ret ?_) | (refine VC.skip ?_) | (refine VC.label ?_) | (refine VC.scope ?_) | (refine VQ.cons ?_) | (refine VQ.nil ?_) | (refine VG.nil ?_) | (refine VG.cons ?_) | (refine VH.nil ?_) | (refine VH.cons ?_)); (conv => whnf))))
  ((repeat ((first | (refine VL.cons ?_) | (refine VL.nil ?_) | (refine VC.seqS rfl ?_) | (refine VC.region ?_) | (refine VC.draw ?_) | (refine VC.cond ?_) | (refine VC.block ?_) | (refine VC.exit ?_) | (refine VC.ret ?_) | (refine VC.skip ?_) | (refine VC.label ?_) | (refine VC.scope ?_) | (refine VQ.cons ?_) | (refine VQ.nil ?_) | (refine VG.nil ?_) | (refine VG.cons ?_) | (refine VH.nil ?_) | (refine VH.cons ?_) | (refine VP.done ?_) | (refine VP.one ?_) | (refine VP.two ?_) | (refine VE.cons ?_) | (refine VE.nil ?_) | (refine VBool.t ?_) | (refine VBool.f ?_) | (refine VBool.dT (by omega) ?_) | (refine VBool.dF (by omega) ?_) | (refine VBool.nT (by omega) ?_) | (refine VBool.nF (by omega) ?_) | (refine VRead.lenS ?_) | (refine VRead.lenT ?_) | (refine VRead.fld ?_) | (refine VRead.load1 (by assumption) ?_) | (refine VRead.load (by assumption) ?_) | (refine VRead.neB ?_) | (refine VRead.eqPN ?_) | (refine VRead.nePN ?_) | (refine VRead.eqB ?_) | (refine VBool.nT rfl ?_) | (refine VBool.dT rfl ?_) | (refine VWrap.i64 (by omega) (by omega) ?_) | (refine VWrap.u64 (by omega) (by omega) ?_) | (refine VRead.at1 (by omega) ?_) | (refine VRead.eqNN ?_) | (refine VSem.convI ?_) | (refine VRead.convI ?_) | (refine VRead.rem (by omega) (by decide) ?_) | (refine VRead.neg ?_) | (refine VC.seq ?_)); (conv => whnf))))
  refine VCall.of (frEnds_any A n c l w4 (by omega) hnc ((hr.below hB04).more hB04.size)) ?_
  rintro e w5 ⟨k, hk, hno, rfl, hB5⟩
  refine ⟨_, rfl, ?_⟩
  obtain rfl := Frame.reach_eq hk hno
  replace hb3 := hb3.later hB5
  replace hb4 := hb4.later hB5
  replace hb5 := hb5.later hB5
  replace hb6 := hb6.later hB5
  have hB05 := hB04.trans (hB5.mono hB04.size)
  have s5 := hB5.size
  ((conv => whnf); (repeat ((first | (refine VL.cons ?_) | (refine VL.nil ?_) | (refine VC.seqS rfl ?_) | (refine VC.region ?_) | (refine VC.draw ?_) | (refine VC.cond ?_) | (refine VC.block ?_) | (refine VC.exit ?_) | (refine VC.ret ?_) | (refine VC.skip ?_) | (refine VC.label ?_) | (refine VC.scope ?_) | (refine VQ.cons ?_) | (refine VQ.nil ?_) | (refine VG.nil ?_) | (refine VG.cons ?_) | (refine VH.nil ?_) | (refine VH.cons ?_)); (conv => whnf))))
  ((repeat ((first | (refine VL.cons ?_) | (refine VL.nil ?_) | (refine VC.seqS rfl ?_) | (refine VC.region ?_) | (refine VC.draw ?_) | (refine VC.cond ?_) | (refine VC.block ?_) | (refine VC.exit ?_) | (refine VC.ret ?_) | (refine VC.skip ?_) | (refine VC.label ?_) | (refine VC.scope ?_) | (refine VQ.cons ?_) | (refine VQ.nil ?_) | (refine VG.nil ?_) | (refine VG.cons ?_) | (refine VH.nil ?_) | (refine VH.cons ?_) | (refine VP.done ?_) | (refine VP.one ?_) | (refine VP.two ?_) | (refine VE.cons ?_) | (refine VE.nil ?_) | (refine VBool.t ?_) | (refine VBool.f ?_) | (refine VBool.dT (by omega) ?_) | (refine VBool.dF (by omega) ?_) | (refine VBool.nT (by omega) ?_) | (refine VBool.nF (by omega) ?_) | (refine VRead.lenS ?_) | (refine VRead.lenT ?_) | (refine VRead.fld ?_) | (refine VRead.load1 (by assumption) ?_) | (refine VRead.load (by assumption) ?_) | (refine VRead.neB ?_) | (refine VRead.eqPN ?_) | (refine VRead.nePN ?_) | (refine VRead.eqB ?_) | (refine VBool.nT rfl ?_) | (refine VBool.dT rfl ?_) | (refine VWrap.i64 (by omega) (by omega) ?_) | (refine VWrap.u64 (by omega) (by omega) ?_) | (refine VRead.at1 (by omega) ?_) | (refine VRead.eqNN ?_) | (refine VSem.convI ?_) | (refine VRead.convI ?_) | (refine VRead.rem (by omega) (by decide) ?_) | (refine VRead.neg ?_) | (refine VC.seq ?_)); (conv => whnf))))
  replace hb3 : Blk w5 g3 3 #[.int .i64 idx] := hb3
  replace hb4 : Blk w5 g4 3 #[.int .i64 0] := hb4
  replace hb5 : Blk w5 g5 31 #[.slice none 0 0] := hb5
  replace hb6 : Blk w5 g6 4 #[.bool false] := hb6
  by_cases hw : Frame.rest l = []
  case neg =>
    have hpl : ¬ Frame.place l (Frame.bodies l).length = (n : Int) := fun e => hw (Frame.whole_iff.1 (by rw [e, hln]))
    have eS : saysS l idx = none := by unfold saysS; rw [if_neg hw]
    refine VBool.nF hpl ?_
    ((conv => whnf); (repeat ((first | (refine VL.cons ?_) | (refine VL.nil ?_) | (refine VC.seqS rfl ?_) | (refine VC.region ?_) | (refine VC.draw ?_) | (refine VC.cond ?_) | (refine VC.block ?_) | (refine VC.exit ?_) | (refine VC.ret ?_) | (refine VC.skip ?_) | (refine VC.label ?_) | (refine VC.scope ?_) | (refine VQ.cons ?_) | (refine VQ.nil ?_) | (refine VG.nil ?_) | (refine VG.cons ?_) | (refine VH.nil ?_) | (refine VH.cons ?_)); (conv => whnf))))
    ((repeat ((first | (refine VL.cons ?_) | (refine VL.nil ?_) | (refine VC.seqS rfl ?_) | (refine VC.region ?_) | (refine VC.draw ?_) | (refine VC.cond ?_) | (refine VC.block ?_) | (refine VC.exit ?_) | (refine VC.ret ?_) | (refine VC.skip ?_) | (refine VC.label ?_) | (refine VC.scope ?_) | (refine VQ.cons ?_) | (refine VQ.nil ?_) | (refine VG.nil ?_) | (refine VG.cons ?_) | (refine VH.nil ?_) | (refine VH.cons ?_) | (refine VP.done ?_) | (refine VP.one ?_) | (refine VP.two ?_) | (refine VE.cons ?_) | (refine VE.nil ?_) | (refine VBool.t ?_) | (refine VBool.f ?_) | (refine VBool.dT (by omega) ?_) | (refine VBool.dF (by omega) ?_) | (refine VBool.nT (by omega) ?_) | (refine VBool.nF (by omega) ?_) | (refine VRead.lenS ?_) | (refine VRead.lenT ?_) | (refine VRead.fld ?_) | (refine VRead.load1 (by assumption) ?_) | (refine VRead.load (by assumption) ?_) | (refine VRead.neB ?_) | (refine VRead.eqPN ?_) | (refine VRead.nePN ?_) | (refine VRead.eqB ?_) | (refine VBool.nT rfl ?_) | (refine VBool.dT rfl ?_) | (refine VWrap.i64 (by omega) (by omega) ?_) | (refine VWrap.u64 (by omega) (by omega) ?_) | (refine VRead.at1 (by omega) ?_) | (refine VRead.eqNN ?_) | (refine VSem.convI ?_) | (refine VRead.convI ?_) | (refine VRead.rem (by omega) (by decide) ?_) | (refine VRead.neg ?_) | (refine VC.seq ?_)); (conv => whnf))))
    refine VUnit.storeB hb4 rfl rfl rfl ?_
    intro w6 k4 hg6'
    ((conv => whnf); (repeat ((first | (refine VL.cons ?_) | (refine VL.nil ?_) | (refine VC.seqS rfl ?_) | (refine VC.region ?_) | (refine VC.draw ?_) | (refine VC.cond ?_) | (refine VC.block ?_) | (refine VC.exit ?_) | (refine VC.ret ?_) | (refine VC.skip ?_) | (refine VC.label ?_) | (refine VC.scope ?_) | (refine VQ.cons ?_) | (refine VQ.nil ?_) | (refine VG.nil ?_) | (refine VG.cons ?_) | (refine VH.nil ?_) | (refine VH.cons ?_)); (conv => whnf))))
    ((repeat ((first | (refine VL.cons ?_) | (refine VL.nil ?_) | (refine VC.seqS rfl ?_) | (refine VC.region ?_) | (refine VC.draw ?_) | (refine VC.cond ?_) | (refine VC.block ?_) | (refine VC.exit ?_) | (refine VC.ret ?_) | (refine VC.skip ?_) | (refine VC.label ?_) | (refine VC.scope ?_) | (refine VQ.cons ?_) | (refine VQ.nil ?_) | (refine VG.nil ?_) | (refine VG.cons ?_) | (refine VH.nil ?_) | (refine VH.cons ?_) | (refine VP.done ?_) | (refine VP.one ?_) | (refine VP.two ?_) | (refine VE.cons ?_) | (refine VE.nil ?_) | (refine VBool.t ?_) | (refine VBool.f ?_) | (refine VBool.dT (by omega) ?_) | (refine VBool.dF (by omega) ?_) | (refine VBool.nT (by omega) ?_) | (refine VBool.nF (by omega) ?_) | (refine VRead.lenS ?_) | (refine VRead.lenT ?_) | (refine VRead.fld ?_) | (refine VRead.load1 (by assumption) ?_) | (refine VRead.load (by assumption) ?_) | (refine VRead.neB ?_) | (refine VRead.eqPN ?_) | (refine VRead.nePN ?_) | (refine VRead.eqB ?_) | (refine VBool.nT rfl ?_) | (refine VBool.dT rfl ?_) | (refine VWrap.i64 (by omega) (by omega) ?_) | (refine VWrap.u64 (by omega) (by omega) ?_) | (refine VRead.at1 (by omega) ?_) | (refine VRead.eqNN ?_) | (refine VSem.convI ?_) | (refine VRead.convI ?_) | (refine VRead.rem (by omega) (by decide) ?_) | (refine VRead.neg ?_) | (refine VC.seq ?_)); (conv => whnf))))
    refine VUnit.storeB (hb5.only hg6' (by omega)) rfl rfl rfl ?_
    intro w7 k5 hg7
    ((conv => whnf); (repeat ((first | (refine VL.cons ?_) | (refine VL.nil ?_) | (refine VC.seqS rfl ?_) | (refine VC.region ?_) | (refine VC.draw ?_) | (refine VC.cond ?_) | (refine VC.block ?_) | (refine VC.exit ?_) | (refine VC.ret ?_) | (refine VC.skip ?_) | (refine VC.label ?_) | (refine VC.scope ?_) | (refine VQ.cons ?_) | (refine VQ.nil ?_) | (refine VG.nil ?_) | (refine VG.cons ?_) | (refine VH.nil ?_) | (refine VH.cons ?_)); (conv => whnf))))
    ((repeat ((first | (refine VL.cons ?_) | (refine VL.nil ?_) | (refine VC.seqS rfl ?_) | (refine VC.region ?_) | (refine VC.draw ?_) | (refine VC.cond ?_) | (refine VC.block ?_) | (refine VC.exit ?_) | (refine VC.ret ?_) | (refine VC.skip ?_) | (refine VC.label ?_) | (refine VC.scope ?_) | (refine VQ.cons ?_) | (refine VQ.nil ?_) | (refine VG.nil ?_) | (refine VG.cons ?_) | (refine VH.nil ?_) | (refine VH.cons ?_) | (refine VP.done ?_) | (refine VP.one ?_) | (refine VP.two ?_) | (refine VE.cons ?_) | (refine VE.nil ?_) | (refine VBool.t ?_) | (refine VBool.f ?_) | (refine VBool.dT (by omega) ?_) | (refine VBool.dF (by omega) ?_) | (refine VBool.nT (by omega) ?_) | (refine VBool.nF (by omega) ?_) | (refine VRead.lenS ?_) | (refine VRead.lenT ?_) | (refine VRead.fld ?_) | (refine VRead.load1 (by assumption) ?_) | (refine VRead.load (by assumption) ?_) | (refine VRead.neB ?_) | (refine VRead.eqPN ?_) | (refine VRead.nePN ?_) | (refine VRead.eqB ?_) | (refine VBool.nT rfl ?_) | (refine VBool.dT rfl ?_) | (refine VWrap.i64 (by omega) (by omega) ?_) | (refine VWrap.u64 (by omega) (by omega) ?_) | (refine VRead.at1 (by omega) ?_) | (refine VRead.eqNN ?_) | (refine VSem.convI ?_) | (refine VRead.convI ?_) | (refine VRead.rem (by omega) (by decide) ?_) | (refine VRead.neg ?_) | (refine VC.seq ?_)); (conv => whnf))))
    refine VUnit.storeB ((hb6.only hg6' (by omega)).only hg7 (by omega)) rfl rfl rfl ?_
    intro w8 k6 hg8
    ((conv => whnf); (repeat ((first | (refine VL.cons ?_) | (refine VL.nil ?_) | (refine VC.seqS rfl ?_) | (refine VC.region ?_) | (refine VC.draw ?_) | (refine VC.cond ?_) | (refine VC.block ?_) | (refine VC.exit ?_) | (refine VC.ret ?_) | (refine VC.skip ?_) | (refine VC.label ?_) | (refine VC.scope ?_) | (refine VQ.cons ?_) | (refine VQ.nil ?_) | (refine VG.nil ?_) | (refine VG.cons ?_) | (refine VH.nil ?_) | (refine VH.cons ?_)); (conv => whnf))))
    ((repeat ((first | (refine VL.cons ?_) | (refine VL.nil ?_) | (refine VC.seqS rfl ?_) | (refine VC.region ?_) | (refine VC.draw ?_) | (refine VC.cond ?_) | (refine VC.block ?_) | (refine VC.exit ?_) | (refine VC.ret ?_) | (refine VC.skip ?_) | (refine VC.label ?_) | (refine VC.scope ?_) | (refine VQ.cons ?_) | (refine VQ.nil ?_) | (refine VG.nil ?_) | (refine VG.cons ?_) | (refine VH.nil ?_) | (refine VH.cons ?_) | (refine VP.done ?_) | (refine VP.one ?_) | (refine VP.two ?_) | (refine VE.cons ?_) | (refine VE.nil ?_) | (refine VBool.t ?_) | (refine VBool.f ?_) | (refine VBool.dT (by omega) ?_) | (refine VBool.dF (by omega) ?_) | (refine VBool.nT (by omega) ?_) | (refine VBool.nF (by omega) ?_) | (refine VRead.lenS ?_) | (refine VRead.lenT ?_) | (refine VRead.fld ?_) | (refine VRead.load1 (by assumption) ?_) | (refine VRead.load (by assumption) ?_) | (refine VRead.neB ?_) | (refine VRead.eqPN ?_) | (refine VRead.nePN ?_) | (refine VRead.eqB ?_) | (refine VBool.nT rfl ?_) | (refine VBool.dT rfl ?_) | (refine VWrap.i64 (by omega) (by omega) ?_) | (refine VWrap.u64 (by omega) (by omega) ?_) | (refine VRead.at1 (by omega) ?_) | (refine VRead.eqNN ?_) | (refine VSem.convI ?_) | (refine VRead.convI ?_) | (refine VRead.rem (by omega) (by decide) ?_) | (refine VRead.neg ?_) | (refine VC.seq ?_)); (conv => whnf))))
    refine VRes.cell3 rfl rfl rfl ((k4.only hg7 (by omega)).only hg8 (by omega)) (k5.only hg8 (by omega)) k6 ?_
    refine ⟨⟨_, _, _, rfl, ?_⟩, only_new (only_new (only_new hB05 hg6' (by omega) hB05.size) hg7 (by omega) (by have := hg6'.size; omega)) hg8 (by omega) (by have := hg6'.size; have := hg7.size; omega)⟩
    rw [eS]
    exact ⟨rfl, none, 0, 0, rfl⟩
  have hpl : Frame.place l (Frame.bodies l).length = (n : Int) := by rw [Frame.whole_iff.2 hw, hln]
  have eS : saysS l idx = saysB idx (Frame.bodies l) := by unfold saysS; rw [if_pos hw]
  refine VBool.nT hpl ?_
  ((conv => whnf); (repeat ((first | (refine VL.cons ?_) | (refine VL.nil ?_) | (refine VC.seqS rfl ?_) | (refine VC.region ?_) | (refine VC.draw ?_) | (refine VC.cond ?_) | (refine VC.block ?_) | (refine VC.exit ?_) | (refine VC.ret ?_) | (refine VC.skip ?_) | (refine VC.label ?_) | (refine VC.scope ?_) | (refine VQ.cons ?_) | (refine VQ.nil ?_) | (refine VG.nil ?_) | (refine VG.cons ?_) | (refine VH.nil ?_) | (refine VH.cons ?_)); (conv => whnf))))
  ((repeat ((first | (refine VL.cons ?_) | (refine VL.nil ?_) | (refine VC.seqS rfl ?_) | (refine VC.region ?_) | (refine VC.draw ?_) | (refine VC.cond ?_) | (refine VC.block ?_) | (refine VC.exit ?_) | (refine VC.ret ?_) | (refine VC.skip ?_) | (refine VC.label ?_) | (refine VC.scope ?_) | (refine VQ.cons ?_) | (refine VQ.nil ?_) | (refine VG.nil ?_) | (refine VG.cons ?_) | (refine VH.nil ?_) | (refine VH.cons ?_) | (refine VP.done ?_) | (refine VP.one ?_) | (refine VP.two ?_) | (refine VE.cons ?_) | (refine VE.nil ?_) | (refine VBool.t ?_) | (refine VBool.f ?_) | (refine VBool.dT (by omega) ?_) | (refine VBool.dF (by omega) ?_) | (refine VBool.nT (by omega) ?_) | (refine VBool.nF (by omega) ?_) | (refine VRead.lenS ?_) | (refine VRead.lenT ?_) | (refine VRead.fld ?_) | (refine VRead.load1 (by assumption) ?_) | (refine VRead.load (by assumption) ?_) | (refine VRead.neB ?_) | (refine VRead.eqPN ?_) | (refine VRead.nePN ?_) | (refine VRead.eqB ?_) | (refine VBool.nT rfl ?_) | (refine VBool.dT rfl ?_) | (refine VWrap.i64 (by omega) (by omega) ?_) | (refine VWrap.u64 (by omega) (by omega) ?_) | (refine VRead.at1 (by omega) ?_) | (refine VRead.eqNN ?_) | (refine VSem.convI ?_) | (refine VRead.convI ?_) | (refine VRead.rem (by omega) (by decide) ?_) | (refine VRead.neg ?_) | (refine VC.seq ?_)); (conv => whnf))))
  refine VW.seq (VW.vc (by kernel_rfl) ?_)
  ((conv => whnf); (repeat ((first | (refine VL.cons ?_) | (refine VL.nil ?_) | (refine VC.seqS rfl ?_) | (refine VC.region ?_) | (refine VC.draw ?_) | (refine VC.cond ?_) | (refine VC.block ?_) | (refine VC.exit ?_) | (refine VC.ret ?_) | (refine VC.skip ?_) | (refine VC.label ?_) | (refine VC.scope ?_) | (refine VQ.cons ?_) | (refine VQ.nil ?_) | (refine VG.nil ?_) | (refine VG.cons ?_) | (refine VH.nil ?_) | (refine VH.cons ?_)); (conv => whnf))))
  ((repeat ((first | (refine VL.cons ?_) | (refine VL.nil ?_) | (refine VC.seqS rfl ?_) | (refine VC.region ?_) | (refine VC.draw ?_) | (refine VC.cond ?_) | (refine VC.block ?_) | (refine VC.exit ?_) | (refine VC.ret ?_) | (refine VC.skip ?_) | (refine VC.label ?_) | (refine VC.scope ?_) | (refine VQ.cons ?_) | (refine VQ.nil ?_) | (refine VG.nil ?_) | (refine VG.cons ?_) | (refine VH.nil ?_) | (refine VH.cons ?_) | (refine VP.done ?_) | (refine VP.one ?_) | (refine VP.two ?_) | (refine VE.cons ?_) | (refine VE.nil ?_) | (refine VBool.t ?_) | (refine VBool.f ?_) | (refine VBool.dT (by omega) ?_) | (refine VBool.dF (by omega) ?_) | (refine VBool.nT (by omega) ?_) | (refine VBool.nF (by omega) ?_) | (refine VRead.lenS ?_) | (refine VRead.lenT ?_) | (refine VRead.fld ?_) | (refine VRead.load1 (by assumption) ?_) | (refine VRead.load (by assumption) ?_) | (refine VRead.neB ?_) | (refine VRead.eqPN ?_) | (refine VRead.nePN ?_) | (refine VRead.eqB ?_) | (refine VBool.nT rfl ?_) | (refine VBool.dT rfl ?_) | (refine VWrap.i64 (by omega) (by omega) ?_) | (refine VWrap.u64 (by omega) (by omega) ?_) | (refine VRead.at1 (by omega) ?_) | (refine VRead.eqNN ?_) | (refine VSem.convI ?_) | (refine VRead.convI ?_) | (refine VRead.rem (by omega) (by decide) ?_) | (refine VRead.neg ?_) | (refine VC.seq ?_)); (conv => whnf))))
  refine VSem.allocZ (z := .int .i64 0) (by kernel_rfl) ?_
  intro w6 g9 hb9 hg9 hl9 hB6
  ((conv => whnf); (repeat ((first | (refine VL.cons ?_) | (refine VL.nil ?_) | (refine VC.seqS rfl ?_) | (refine VC.region ?_) | (refine VC.draw ?_) | (refine VC.cond ?_) | (refine VC.block ?_) | (refine VC.exit ?_) | (refine VC.ret ?_) | (refine VC.skip ?_) | (refine VC.label ?_) | (refine VC.scope ?_) | (refine VQ.cons ?_) | (refine VQ.nil ?_) | (refine VG.nil ?_) | (refine VG.cons ?_) | (refine VH.nil ?_) | (refine VH.cons ?_)); (conv => whnf))))
  ((repeat ((first | (refine VL.cons ?_) | (refine VL.nil ?_) | (refine VC.seqS rfl ?_) | (refine VC.region ?_) | (refine VC.draw ?_) | (refine VC.cond ?_) | (refine VC.block ?_) | (refine VC.exit ?_) | (refine VC.ret ?_) | (refine VC.skip ?_) | (refine VC.label ?_) | (refine VC.scope ?_) | (refine VQ.cons ?_) | (refine VQ.nil ?_) | (refine VG.nil ?_) | (refine VG.cons ?_) | (refine VH.nil ?_) | (refine VH.cons ?_) | (refine VP.done ?_) | (refine VP.one ?_) | (refine VP.two ?_) | (refine VE.cons ?_) | (refine VE.nil ?_) | (refine VBool.t ?_) | (refine VBool.f ?_) | (refine VBool.dT (by omega) ?_) | (refine VBool.dF (by omega) ?_) | (refine VBool.nT (by omega) ?_) | (refine VBool.nF (by omega) ?_) | (refine VRead.lenS ?_) | (refine VRead.lenT ?_) | (refine VRead.fld ?_) | (refine VRead.load1 (by assumption) ?_) | (refine VRead.load (by assumption) ?_) | (refine VRead.neB ?_) | (refine VRead.eqPN ?_) | (refine VRead.nePN ?_) | (refine VRead.eqB ?_) | (refine VBool.nT rfl ?_) | (refine VBool.dT rfl ?_) | (refine VWrap.i64 (by omega) (by omega) ?_) | (refine VWrap.u64 (by omega) (by omega) ?_) | (refine VRead.at1 (by omega) ?_) | (refine VRead.eqNN ?_) | (refine VSem.convI ?_) | (refine VRead.convI ?_) | (refine VRead.rem (by omega) (by decide) ?_) | (refine VRead.neg ?_) | (refine VC.seq ?_)); (conv => whnf))))
  refine VSem.allocZ (z := .int .i64 0) (by kernel_rfl) ?_
  intro w7 g10 hb10 hg10 hl10 hB7
  ((conv => whnf); (repeat ((first | (refine VL.cons ?_) | (refine VL.nil ?_) | (refine VC.seqS rfl ?_) | (refine VC.region ?_) | (refine VC.draw ?_) | (refine VC.cond ?_) | (refine VC.block ?_) | (refine VC.exit ?_) | (refine VC.ret ?_) | (refine VC.skip ?_) | (refine VC.label ?_) | (refine VC.scope ?_) | (refine VQ.cons ?_) | (refine VQ.nil ?_) | (refine VG.nil ?_) | (refine VG.cons ?_) | (refine VH.nil ?_) | (refine VH.cons ?_)); (conv => whnf))))
  ((repeat ((first | (refine VL.cons ?_) | (refine VL.nil ?_) | (refine VC.seqS rfl ?_) | (refine VC.region ?_) | (refine VC.draw ?_) | (refine VC.cond ?_) | (refine VC.block ?_) | (refine VC.exit ?_) | (refine VC.ret ?_) | (refine VC.skip ?_) | (refine VC.label ?_) | (refine VC.scope ?_) | (refine VQ.cons ?_) | (refine VQ.nil ?_) | (refine VG.nil ?_) | (refine VG.cons ?_) | (refine VH.nil ?_) | (refine VH.cons ?_) | (refine VP.done ?_) | (refine VP.one ?_) | (refine VP.two ?_) | (refine VE.cons ?_) | (refine VE.nil ?_) | (refine VBool.t ?_) | (refine VBool.f ?_) | (refine VBool.dT (by omega) ?_) | (refine VBool.dF (by omega) ?_) | (refine VBool.nT (by omega) ?_) | (refine VBool.nF (by omega) ?_) | (refine VRead.lenS ?_) | (refine VRead.lenT ?_) | (refine VRead.fld ?_) | (refine VRead.load1 (by assumption) ?_) | (refine VRead.load (by assumption) ?_) | (refine VRead.neB ?_) | (refine VRead.eqPN ?_) | (refine VRead.nePN ?_) | (refine VRead.eqB ?_) | (refine VBool.nT rfl ?_) | (refine VBool.dT rfl ?_) | (refine VWrap.i64 (by omega) (by omega) ?_) | (refine VWrap.u64 (by omega) (by omega) ?_) | (refine VRead.at1 (by omega) ?_) | (refine VRead.eqNN ?_) | (refine VSem.convI ?_) | (refine VRead.convI ?_) | (refine VRead.rem (by omega) (by decide) ?_) | (refine VRead.neg ?_) | (refine VC.seq ?_)); (conv => whnf))))
  refine VSem.allocZ (z := .int .i64 0) (by kernel_rfl) ?_
  intro w8 g11 hb11 hg11 hl11 hB8
  have s6 := hB6.size
  have s7 := hB7.size
  have s8 := hB8.size
  have hB08 : Below w.heap.size w w8 := ((hB05.trans (hB6.mono hB05.size)).trans (hB7.mono (by omega))).trans (hB8.mono (by omega))
  replace hb9 := (hb9.later hB7).later hB8
  replace hb10 := hb10.later hB8
  replace hb3 := ((hb3.later hB6).later hB7).later hB8
  replace hb4 := ((hb4.later hB6).later hB7).later hB8
  replace hb5 := ((hb5.later hB6).later hB7).later hB8
  replace hb6 := ((hb6.later hB6).later hB7).later hB8
  replace hb9 : Blk w8 g9 3 #[.int .i64 0] := hb9
  replace hb10 : Blk w8 g10 3 #[.int .i64 0] := hb10
  replace hb11 : Blk w8 g11 3 #[.int .i64 0] := hb11
  ((conv => whnf); (repeat ((first | (refine VL.cons ?_) | (refine VL.nil ?_) | (refine VC.seqS rfl ?_) | (refine VC.region ?_) | (refine VC.draw ?_) | (refine VC.cond ?_) | (refine VC.block ?_) | (refine VC.exit ?_) | (refine VC.ret ?_) | (refine VC.skip ?_) | (refine VC.label ?_) | (refine VC.scope ?_) | (refine VQ.cons ?_) | (refine VQ.nil ?_) | (refine VG.nil ?_) | (refine VG.cons ?_) | (refine VH.nil ?_) | (refine VH.cons ?_)); (conv => whnf))))
  ((repeat ((first | (refine VL.cons ?_) | (refine VL.nil ?_) | (refine VC.seqS rfl ?_) | (refine VC.region ?_) | (refine VC.draw ?_) | (refine VC.cond ?_) | (refine VC.block ?_) | (refine VC.exit ?_) | (refine VC.ret ?_) | (refine VC.skip ?_) | (refine VC.label ?_) | (refine VC.scope ?_) | (refine VQ.cons ?_) | (refine VQ.nil ?_) | (refine VG.nil ?_) | (refine VG.cons ?_) | (refine VH.nil ?_) | (refine VH.cons ?_) | (refine VP.done ?_) | (refine VP.one ?_) | (refine VP.two ?_) | (refine VE.cons ?_) | (refine VE.nil ?_) | (refine VBool.t ?_) | (refine VBool.f ?_) | (refine VBool.dT (by omega) ?_) | (refine VBool.dF (by omega) ?_) | (refine VBool.nT (by omega) ?_) | (refine VBool.nF (by omega) ?_) | (refine VRead.lenS ?_) | (refine VRead.lenT ?_) | (refine VRead.fld ?_) | (refine VRead.load1 (by assumption) ?_) | (refine VRead.load (by assumption) ?_) | (refine VRead.neB ?_) | (refine VRead.eqPN ?_) | (refine VRead.nePN ?_) | (refine VRead.eqB ?_) | (refine VBool.nT rfl ?_) | (refine VBool.dT rfl ?_) | (refine VWrap.i64 (by omega) (by omega) ?_) | (refine VWrap.u64 (by omega) (by omega) ?_) | (refine VRead.at1 (by omega) ?_) | (refine VRead.eqNN ?_) | (refine VSem.convI ?_) | (refine VRead.convI ?_) | (refine VRead.rem (by omega) (by decide) ?_) | (refine VRead.neg ?_) | (refine VC.seq ?_)); (conv => whnf))))
  refine VUnit.storeB hb9 rfl rfl rfl ?_
  intro w9 q9 gg9
  ((conv => whnf); (repeat ((first | (refine VL.cons ?_) | (refine VL.nil ?_) | (refine VC.seqS rfl ?_) | (refine VC.region ?_) | (refine VC.draw ?_) | (refine VC.cond ?_) | (refine VC.block ?_) | (refine VC.exit ?_) | (refine VC.ret ?_) | (refine VC.skip ?_) | (refine VC.label ?_) | (refine VC.scope ?_) | (refine VQ.cons ?_) | (refine VQ.nil ?_) | (refine VG.nil ?_) | (refine VG.cons ?_) | (refine VH.nil ?_) | (refine VH.cons ?_)); (conv => whnf))))
  ((repeat ((first | (refine VL.cons ?_) | (refine VL.nil ?_) | (refine VC.seqS rfl ?_) | (refine VC.region ?_) | (refine VC.draw ?_) | (refine VC.cond ?_) | (refine VC.block ?_) | (refine VC.exit ?_) | (refine VC.ret ?_) | (refine VC.skip ?_) | (refine VC.label ?_) | (refine VC.scope ?_) | (refine VQ.cons ?_) | (refine VQ.nil ?_) | (refine VG.nil ?_) | (refine VG.cons ?_) | (refine VH.nil ?_) | (refine VH.cons ?_) | (refine VP.done ?_) | (refine VP.one ?_) | (refine VP.two ?_) | (refine VE.cons ?_) | (refine VE.nil ?_) | (refine VBool.t ?_) | (refine VBool.f ?_) | (refine VBool.dT (by omega) ?_) | (refine VBool.dF (by omega) ?_) | (refine VBool.nT (by omega) ?_) | (refine VBool.nF (by omega) ?_) | (refine VRead.lenS ?_) | (refine VRead.lenT ?_) | (refine VRead.fld ?_) | (refine VRead.load1 (by assumption) ?_) | (refine VRead.load (by assumption) ?_) | (refine VRead.neB ?_) | (refine VRead.eqPN ?_) | (refine VRead.nePN ?_) | (refine VRead.eqB ?_) | (refine VBool.nT rfl ?_) | (refine VBool.dT rfl ?_) | (refine VWrap.i64 (by omega) (by omega) ?_) | (refine VWrap.u64 (by omega) (by omega) ?_) | (refine VRead.at1 (by omega) ?_) | (refine VRead.eqNN ?_) | (refine VSem.convI ?_) | (refine VRead.convI ?_) | (refine VRead.rem (by omega) (by decide) ?_) | (refine VRead.neg ?_) | (refine VC.seq ?_)); (conv => whnf))))
  refine VUnit.storeB (hb10.only gg9 (by omega)) rfl rfl rfl ?_
  intro w10 q10 gg10
  ((conv => whnf); (repeat ((first | (refine VL.cons ?_) | (refine VL.nil ?_) | (refine VC.seqS rfl ?_) | (refine VC.region ?_) | (refine VC.draw ?_) | (refine VC.cond ?_) | (refine VC.block ?_) | (refine VC.exit ?_) | (refine VC.ret ?_) | (refine VC.skip ?_) | (refine VC.label ?_) | (refine VC.scope ?_) | (refine VQ.cons ?_) | (refine VQ.nil ?_) | (refine VG.nil ?_) | (refine VG.cons ?_) | (refine VH.nil ?_) | (refine VH.cons ?_)); (conv => whnf))))
  ((repeat ((first | (refine VL.cons ?_) | (refine VL.nil ?_) | (refine VC.seqS rfl ?_) | (refine VC.region ?_) | (refine VC.draw ?_) | (refine VC.cond ?_) | (refine VC.block ?_) | (refine VC.exit ?_) | (refine VC.ret ?_) | (refine VC.skip ?_) | (refine VC.label ?_) | (refine VC.scope ?_) | (refine VQ.cons ?_) | (refine VQ.nil ?_) | (refine VG.nil ?_) | (refine VG.cons ?_) | (refine VH.nil ?_) | (refine VH.cons ?_) | (refine VP.done ?_) | (refine VP.one ?_) | (refine VP.two ?_) | (refine VE.cons ?_) | (refine VE.nil ?_) | (refine VBool.t ?_) | (refine VBool.f ?_) | (refine VBool.dT (by omega) ?_) | (refine VBool.dF (by omega) ?_) | (refine VBool.nT (by omega) ?_) | (refine VBool.nF (by omega) ?_) | (refine VRead.lenS ?_) | (refine VRead.lenT ?_) | (refine VRead.fld ?_) | (refine VRead.load1 (by assumption) ?_) | (refine VRead.load (by assumption) ?_) | (refine VRead.neB ?_) | (refine VRead.eqPN ?_) | (refine VRead.nePN ?_) | (refine VRead.eqB ?_) | (refine VBool.nT rfl ?_) | (refine VBool.dT rfl ?_) | (refine VWrap.i64 (by omega) (by omega) ?_) | (refine VWrap.u64 (by omega) (by omega) ?_) | (refine VRead.at1 (by omega) ?_) | (refine VRead.eqNN ?_) | (refine VSem.convI ?_) | (refine VRead.convI ?_) | (refine VRead.rem (by omega) (by decide) ?_) | (refine VRead.neg ?_) | (refine VC.seq ?_)); (conv => whnf))))
  refine VUnit.storeB ((hb11.only gg9 (by omega)).only gg10 (by omega)) rfl rfl rfl ?_
  intro w11 q11 gg11
  have t9 := gg9.size
  have t10 := gg10.size
  have t11 := gg11.size
  replace q9 := (q9.only gg10 (by omega)).only gg11 (by omega)
  replace q10 := q10.only gg11 (by omega)
  replace q9 : Blk w11 g9 3 #[.int .i64 0] := q9
  replace q10 : Blk w11 g10 3 #[.int .i64 0] := q10
  replace q11 : Blk w11 g11 3 #[.int .i64 0] := q11
  replace hb3 := ((hb3.only gg9 (by omega)).only gg10 (by omega)).only gg11 (by omega)
  replace hb4 := ((hb4.only gg9 (by omega)).only gg10 (by omega)).only gg11 (by omega)
  replace hb5 := ((hb5.only gg9 (by omega)).only gg10 (by omega)).only gg11 (by omega)
  replace hb6 := ((hb6.only gg9 (by omega)).only gg10 (by omega)).only gg11 (by omega)
  have hB011 : Below w.heap.size w w11 := only_new (only_new (only_new hB08 gg9 (by omega) hB08.size) gg10 (by omega) (by omega)) gg11 (by omega) (by omega)
  ((conv => whnf); (repeat ((first | (refine VL.cons ?_) | (refine VL.nil ?_) | (refine VC.seqS rfl ?_) | (refine VC.region ?_) | (refine VC.draw ?_) | (refine VC.cond ?_) | (refine VC.block ?_) | (refine VC.exit ?_) | (refine VC.ret ?_) | (refine VC.skip ?_) | (refine VC.label ?_) | (refine VC.scope ?_) | (refine VQ.cons ?_) | (refine VQ.nil ?_) | (refine VG.nil ?_) | (refine VG.cons ?_) | (refine VH.nil ?_) | (refine VH.cons ?_)); (conv => whnf))))
  ((repeat ((first | (refine VL.cons ?_) | (refine VL.nil ?_) | (refine VC.seqS rfl ?_) | (refine VC.region ?_) | (refine VC.draw ?_) | (refine VC.cond ?_) | (refine VC.block ?_) | (refine VC.exit ?_) | (refine VC.ret ?_) | (refine VC.skip ?_) | (refine VC.label ?_) | (refine VC.scope ?_) | (refine VQ.cons ?_) | (refine VQ.nil ?_) | (refine VG.nil ?_) | (refine VG.cons ?_) | (refine VH.nil ?_) | (refine VH.cons ?_) | (refine VP.done ?_) | (refine VP.one ?_) | (refine VP.two ?_) | (refine VE.cons ?_) | (refine VE.nil ?_) | (refine VBool.t ?_) | (refine VBool.f ?_) | (refine VBool.dT (by omega) ?_) | (refine VBool.dF (by omega) ?_) | (refine VBool.nT (by omega) ?_) | (refine VBool.nF (by omega) ?_) | (refine VRead.lenS ?_) | (refine VRead.lenT ?_) | (refine VRead.fld ?_) | (refine VRead.load1 (by assumption) ?_) | (refine VRead.load (by assumption) ?_) | (refine VRead.neB ?_) | (refine VRead.eqPN ?_) | (refine VRead.nePN ?_) | (refine VRead.eqB ?_) | (refine VBool.nT rfl ?_) | (refine VBool.dT rfl ?_) | (refine VWrap.i64 (by omega) (by omega) ?_) | (refine VWrap.u64 (by omega) (by omega) ?_) | (refine VRead.at1 (by omega) ?_) | (refine VRead.eqNN ?_) | (refine VSem.convI ?_) | (refine VRead.convI ?_) | (refine VRead.rem (by omega) (by decide) ?_) | (refine VRead.neg ?_) | (refine VC.seq ?_)); (conv => whnf))))
  refine VW.seq (VW.vc (by kernel_rfl) ?_)
  ((conv => whnf); (repeat ((first | (refine VL.cons ?_) | (refine VL.nil ?_) | (refine VC.seqS rfl ?_) | (refine VC.region ?_) | (refine VC.draw ?_) | (refine VC.cond ?_) | (refine VC.block ?_) | (refine VC.exit ?_) | (refine VC.ret ?_) | (refine VC.skip ?_) | (refine VC.label ?_) | (refine VC.scope ?_) | (refine VQ.cons ?_) | (refine VQ.nil ?_) | (refine VG.nil ?_) | (refine VG.cons ?_) | (refine VH.nil ?_) | (refine VH.cons ?_)); (conv => whnf))))
  ((repeat ((first | (refine VL.cons ?_) | (refine VL.nil ?_) | (refine VC.seqS rfl ?_) | (refine VC.region ?_) | (refine VC.draw ?_) | (refine VC.cond ?_) | (refine VC.block ?_) | (refine VC.exit ?_) | (refine VC.ret ?_) | (refine VC.skip ?_) | (refine VC.label ?_) | (refine VC.scope ?_) | (refine VQ.cons ?_) | (refine VQ.nil ?_) | (refine VG.nil ?_) | (refine VG.cons ?_) | (refine VH.nil ?_) | (refine VH.cons ?_) | (refine VP.done ?_) | (refine VP.one ?_) | (refine VP.two ?_) | (refine VE.cons ?_) | (refine VE.nil ?_) | (refine VBool.t ?_) | (refine VBool.f ?_) | (refine VBool.dT (by omega) ?_) | (refine VBool.dF (by omega) ?_) | (refine VBool.nT (by omega) ?_) | (refine VBool.nF (by omega) ?_) | (refine VRead.lenS ?_) | (refine VRead.lenT ?_) | (refine VRead.fld ?_) | (refine VRead.load1 (by assumption) ?_) | (refine VRead.load (by assumption) ?_) | (refine VRead.neB ?_) | (refine VRead.eqPN ?_) | (refine VRead.nePN ?_) | (refine VRead.eqB ?_) | (refine VBool.nT rfl ?_) | (refine VBool.dT rfl ?_) | (refine VWrap.i64 (by omega) (by omega) ?_) | (refine VWrap.u64 (by omega) (by omega) ?_) | (refine VRead.at1 (by omega) ?_) | (refine VRead.eqNN ?_) | (refine VSem.convI ?_) | (refine VRead.convI ?_) | (refine VRead.rem (by omega) (by decide) ?_) | (refine VRead.neg ?_) | (refine VC.seq ?_)); (conv => whnf))))
  refine VSem.allocZ (z := .slice none 0 0) (by kernel_rfl) ?_
  intro w12 g12 hb12 hg12 hl12 hB12
  have s12 := hB12.size
  have hB012 := hB011.trans (hB12.mono hB011.size)
  replace hb3 := hb3.later hB12
  replace hb4 := hb4.later hB12
  replace hb5 := hb5.later hB12
  replace hb6 := hb6.later hB12
  replace q9 := q9.later hB12
  replace q10 := q10.later hB12
  replace q11 := q11.later hB12
  replace hb12 : Blk w12 g12 31 #[.slice none 0 0] := hb12
  ((conv => whnf); (repeat ((first | (refine VL.cons ?_) | (refine VL.nil ?_) | (refine VC.seqS rfl ?_) | (refine VC.region ?_) | (refine VC.draw ?_) | (refine VC.cond ?_) | (refine VC.block ?_) | (refine VC.exit ?_) | (refine VC.ret ?_) | (refine VC.skip ?_) | (refine VC.label ?_) | (refine VC.scope ?_) | (refine VQ.cons ?_) | (refine VQ.nil ?_) | (refine VG.nil ?_) | (refine VG.cons ?_) | (refine VH.nil ?_) | (refine VH.cons ?_)); (conv => whnf))))
  ((repeat ((first | (refine VL.cons ?_) | (refine VL.nil ?_) | (refine VC.seqS rfl ?_) | (refine VC.region ?_) | (refine VC.draw ?_) | (refine VC.cond ?_) | (refine VC.block ?_) | (refine VC.exit ?_) | (refine VC.ret ?_) | (refine VC.skip ?_) | (refine VC.label ?_) | (refine VC.scope ?_) | (refine VQ.cons ?_) | (refine VQ.nil ?_) | (refine VG.nil ?_) | (refine VG.cons ?_) | (refine VH.nil ?_) | (refine VH.cons ?_) | (refine VP.done ?_) | (refine VP.one ?_) | (refine VP.two ?_) | (refine VE.cons ?_) | (refine VE.nil ?_) | (refine VBool.t ?_) | (refine VBool.f ?_) | (refine VBool.dT (by omega) ?_) | (refine VBool.dF (by omega) ?_) | (refine VBool.nT (by omega) ?_) | (refine VBool.nF (by omega) ?_) | (refine VRead.lenS ?_) | (refine VRead.lenT ?_) | (refine VRead.fld ?_) | (refine VRead.load1 (by assumption) ?_) | (refine VRead.load (by assumption) ?_) | (refine VRead.neB ?_) | (refine VRead.eqPN ?_) | (refine VRead.nePN ?_) | (refine VRead.eqB ?_) | (refine VBool.nT rfl ?_) | (refine VBool.dT rfl ?_) | (refine VWrap.i64 (by omega) (by omega) ?_) | (refine VWrap.u64 (by omega) (by omega) ?_) | (refine VRead.at1 (by omega) ?_) | (refine VRead.eqNN ?_) | (refine VSem.convI ?_) | (refine VRead.convI ?_) | (refine VRead.rem (by omega) (by decide) ?_) | (refine VRead.neg ?_) | (refine VC.seq ?_)); (conv => whnf))))
  refine VW.seq (VW.seq (VW.vc (by kernel_rfl) ?_))
  ((conv => whnf); (repeat ((first | (refine VL.cons ?_) | (refine VL.nil ?_) | (refine VC.seqS rfl ?_) | (refine VC.region ?_) | (refine VC.draw ?_) | (refine VC.cond ?_) | (refine VC.block ?_) | (refine VC.exit ?_) | (refine VC.ret ?_) | (refine VC.skip ?_) | (refine VC.label ?_) | (refine VC.scope ?_) | (refine VQ.cons ?_) | (refine VQ.nil ?_) | (refine VG.nil ?_) | (refine VG.cons ?_) | (refine VH.nil ?_) | (refine VH.cons ?_)); (conv => whnf))))
  ((repeat ((first | (refine VL.cons ?_) | (refine VL.nil ?_) | (refine VC.seqS rfl ?_) | (refine VC.region ?_) | (refine VC.draw ?_) | (refine VC.cond ?_) | (refine VC.block ?_) | (refine VC.exit ?_) | (refine VC.ret ?_) | (refine VC.skip ?_) | (refine VC.label ?_) | (refine VC.scope ?_) | (refine VQ.cons ?_) | (refine VQ.nil ?_) | (refine VG.nil ?_) | (refine VG.cons ?_) | (refine VH.nil ?_) | (refine VH.cons ?_) | (refine VP.done ?_) | (refine VP.one ?_) | (refine VP.two ?_) | (refine VE.cons ?_) | (refine VE.nil ?_) | (refine VBool.t ?_) | (refine VBool.f ?_) | (refine VBool.dT (by omega) ?_) | (refine VBool.dF (by omega) ?_) | (refine VBool.nT (by omega) ?_) | (refine VBool.nF (by omega) ?_) | (refine VRead.lenS ?_) | (refine VRead.lenT ?_) | (refine VRead.fld ?_) | (refine VRead.load1 (by assumption) ?_) | (refine VRead.load (by assumption) ?_) | (refine VRead.neB ?_) | (refine VRead.eqPN ?_) | (refine VRead.nePN ?_) | (refine VRead.eqB ?_) | (refine VBool.nT rfl ?_) | (refine VBool.dT rfl ?_) | (refine VWrap.i64 (by omega) (by omega) ?_) | (refine VWrap.u64 (by omega) (by omega) ?_) | (refine VRead.at1 (by omega) ?_) | (refine VRead.eqNN ?_) | (refine VSem.convI ?_) | (refine VRead.convI ?_) | (refine VRead.rem (by omega) (by decide) ?_) | (refine VRead.neg ?_) | (refine VC.seq ?_)); (conv => whnf))))
  refine VCall.of (frAll_any (.slice A n c) ⟨_, _, _, rfl⟩ w12) ?_
  rintro e w13 ⟨gx, rfl, hbx, hgx, hB13⟩
  refine ⟨_, rfl, ?_⟩
  have hxl := blk_lt hbx
  have hB013 := hB012.trans (hB13.mono hB012.size)
  replace hb3 := hb3.later hB13
  replace hb4 := hb4.later hB13
  replace hb5 := hb5.later hB13
  replace hb6 := hb6.later hB13
  replace q9 := q9.later hB13
  replace q10 := q10.later hB13
  replace q11 := q11.later hB13
  replace hb12 := hb12.later hB13
  obtain ⟨o1, o2, o3, o4, o5, o6, o7, o8, o9, o10⟩ : w.heap.size ≤ g3 ∧ g3 < g4 ∧ g4 < g5 ∧ g5 < g6 ∧ g6 < g9 ∧ g9 < g10 ∧ g10 < g11 ∧ g11 < g12 ∧ g12 < gx ∧ gx < w13.heap.size := by omega
  clear hg3 hl3 hB1 hg4 hl4 hB2 hg5 hl5 hB3 hg6 hl6 hB4 s1 s2 s3 s4 hB04 hB5 hB05 s5 hg9 hl9 hB6 hg10 hl10 hB7 hg11 hl11 hB8 s6 s7 s8 hB08 hb9 hb10 hb11 gg9 gg10 gg11 t9 t10 t11 hB011 hg12 hl12 hB12 s12 hB012 hB13 hxl hgx hpl hk hno
  ((conv => whnf); (repeat ((first | (refine VL.cons ?_) | (refine VL.nil ?_) | (refine VC.seqS rfl ?_) | (refine VC.region ?_) | (refine VC.draw ?_) | (refine VC.cond ?_) | (refine VC.block ?_) | (refine VC.exit ?_) | (refine VC.ret ?_) | (refine VC.skip ?_) | (refine VC.label ?_) | (refine VC.scope ?_) | (refine VQ.cons ?_) | (refine VQ.nil ?_) | (refine VG.nil ?_) | (refine VG.cons ?_) | (refine VH.nil ?_) | (refine VH.cons ?_)); (conv => whnf))))
  ((repeat ((first | (refine VL.cons ?_) | (refine VL.nil ?_) | (refine VC.seqS rfl ?_) | (refine VC.region ?_) | (refine VC.draw ?_) | (refine VC.cond ?_) | (refine VC.block ?_) | (refine VC.exit ?_) | (refine VC.ret ?_) | (refine VC.skip ?_) | (refine VC.label ?_) | (refine VC.scope ?_) | (refine VQ.cons ?_) | (refine VQ.nil ?_) | (refine VG.nil ?_) | (refine VG.cons ?_) | (refine VH.nil ?_) | (refine VH.cons ?_) | (refine VP.done ?_) | (refine VP.one ?_) | (refine VP.two ?_) | (refine VE.cons ?_) | (refine VE.nil ?_) | (refine VBool.t ?_) | (refine VBool.f ?_) | (refine VBool.dT (by omega) ?_) | (refine VBool.dF (by omega) ?_) | (refine VBool.nT (by omega) ?_) | (refine VBool.nF (by omega) ?_) | (refine VRead.lenS ?_) | (refine VRead.lenT ?_) | (refine VRead.fld ?_) | (refine VRead.load1 (by assumption) ?_) | (refine VRead.load (by assumption) ?_) | (refine VRead.neB ?_) | (refine VRead.eqPN ?_) | (refine VRead.nePN ?_) | (refine VRead.eqB ?_) | (refine VBool.nT rfl ?_) | (refine VBool.dT rfl ?_) | (refine VWrap.i64 (by omega) (by omega) ?_) | (refine VWrap.u64 (by omega) (by omega) ?_) | (refine VRead.at1 (by omega) ?_) | (refine VRead.eqNN ?_) | (refine VSem.convI ?_) | (refine VRead.convI ?_) | (refine VRead.rem (by omega) (by decide) ?_) | (refine VRead.neg ?_) | (refine VC.seq ?_)); (conv => whnf))))
  refine VW.block (VW.range rfl (by kernel_rfl) ?_)
  intro r w14 hr1 hr2 hr3 hr4 hr5 hA5 hB14 hD14 hL14 hS14
  obtain ⟨D, hD⟩ : ∃ D, w13.heap.size = D := ⟨_, rfl⟩
  obtain ⟨bs, hbs⟩ : ∃ bs, Frame.bodies l = bs := ⟨_, rfl⟩
  rw [hD] at o10 hD14 hL14 hS14
  rw [hbs] at eS
  have hwD : w.heap.size ≤ D := by omega
  have hB014 := hB013.trans (hB14.mono hB013.size)
  have hJ0 : RdJ bs (.slice A n c) w D (.loop r) idx g3 g4 g5 g6 gx g9 g10 g11 g12 0 w14 :=
    ⟨⟨hb3.later hB14, hb4.later hB14, hb5.later hB14, hb6.later hB14, hbx.later hB14, hD14, hL14, hB014⟩, .inl ⟨rfl, q9.later hB14, q10.later hB14, q11.later hB14, hb12.later hB14⟩⟩
  clear hb3 hb4 hb5 hb6 q9 q10 q11 hb12 hbx hD14 hL14 hB14 hB013 hB014
  rw [hD]
  refine VCall.of (all1 _ ⟨gx, 0, none⟩ A n c l (RdJ bs (.slice A n c) w D (.loop r) idx g3 g4 g5 g6 gx g9 g10 g11 g12) (fun _ => RdX bs (.slice A n c) w D r idx g3 g4 g5 g6 gx) w14 (by omega) hnc hln (.inr ⟨_, rfl⟩) ?_ hJ0) ?_
  · refine ⟨fun k W hJ => ⟨?_, ?_⟩, fun k W W' hJ hb => ⟨hJ.fix.later hb, hJ.acc.later hb⟩, fun k W hk hok hJ B u m hO => ?_⟩
    · rw [hJ.fix.bx.cell 0]; rfl
    · exact (hr.below hJ.fix.since).more hJ.fix.since.size
    have hkb : k < bs.length := by
      rw [← hbs]
      exact Frame.reach_le (k := k + 1) (fun i hi => by
        by_cases e : i = k
        · rw [e]; exact hok
        · exact hk i (by omega))
    obtain ⟨b, hb⟩ : ∃ b, bs[k]? = some b := ⟨_, List.getElem?_eq_getElem hkb⟩
    have hbl : 1 ≤ b.length ∧ b.length ≤ 1048576 := Frame.body_ok (l := l) (by rw [hbs]; exact hb)
    have hbk : Frame.body l k = b := Frame.body_at (by rw [hbs]; exact hb)
    have hp0 : Frame.place l k = 0 ↔ k = 0 := Frame.place_zero (by rw [hbs]; exact hkb)
    obtain ⟨A1, c1, rfl⟩ := own_form hO
    rw [hbk] at hO
    have hml : b.length = m := hO.len
    refine VYield.of hJ.fix.ll hr1 hA5 (by rw [hr3, hr4, hr5]; kernel_rfl) ?_
    rw [hr3, hr4, hr5]
    ((conv => whnf); (repeat ((first | (refine VL.cons ?_) | (refine VL.nil ?_) | (refine VC.seqS rfl ?_) | (refine VC.region ?_) | (refine VC.draw ?_) | (refine VC.cond ?_) | (refine VC.block ?_) | (refine VC.exit ?_) | (refine VC.ret ?_) | (refine VC.skip ?_) | (refine VC.label ?_) | (refine VC.scope ?_) | (refine VQ.cons ?_) | (refine VQ.nil ?_) | (refine VG.nil ?_) | (refine VG.cons ?_) | (refine VH.nil ?_) | (refine VH.cons ?_)); (conv => whnf))))
    refine ⟨r, hJ.fix.ll, hr1, ?_⟩
    obtain ⟨W2, hW2⟩ : ∃ W2, W2 = W.putObj (D + 1) (.loop { r with state := .busy }) := ⟨_, rfl⟩
    rw [← hW2]
    have fx : RdFix (.slice A n c) w D (.loop { r with state := .busy }) idx g3 g4 g5 g6 gx W2 := by rw [hW2]; exact hJ.fix.loop (by omega) (by omega) (by omega) (by omega) (by omega) (by omega)
    have ac : RdAcc bs idx D g9 g10 g11 g12 k W2 := by rw [hW2]; exact hJ.acc.loop hJ.fix.ll (by omega) (by omega) (by omega) (by omega) _
    have hO2 : Own W2 B (.slice A1 m c1) m b := by rw [hW2]; exact hO.loop hJ.fix.ll _
    have hDl : D + 1 < W2.heap.size := (Array.getElem?_eq_some_iff.1 fx.ll).1
    clear hW2 hJ hO
    by_cases k0 : k = 0
    · subst k0
      rw [hp0.2 rfl]
      rcases ac with ⟨_, p9, p10, p11, p12⟩ | ⟨_, _, _, h1, _⟩
      case inr => omega
      obtain ⟨cs, hcs⟩ : ∃ cs, bs = b :: cs := by
        cases bs with
        | nil => simp at hb
        | cons x cs => simp at hb; exact ⟨cs, by rw [hb]⟩
      ((conv => whnf); (repeat ((first | (refine VL.cons ?_) | (refine VL.nil ?_) | (refine VC.seqS rfl ?_) | (refine VC.region ?_) | (refine VC.draw ?_) | (refine VC.cond ?_) | (refine VC.block ?_) | (refine VC.exit ?_) | (refine VC.ret ?_) | (refine VC.skip ?_) | (refine VC.label ?_) | (refine VC.scope ?_) | (refine VQ.cons ?_) | (refine VQ.nil ?_) | (refine VG.nil ?_) | (refine VG.cons ?_) | (refine VH.nil ?_) | (refine VH.cons ?_)); (conv => whnf))))
      ((repeat ((first | (refine VL.cons ?_) | (refine VL.nil ?_) | (refine VC.seqS rfl ?_) | (refine VC.region ?_) | (refine VC.draw ?_) | (refine VC.cond ?_) | (refine VC.block ?_) | (refine VC.exit ?_) | (refine VC.ret ?_) | (refine VC.skip ?_) | (refine VC.label ?_) | (refine VC.scope ?_) | (refine VQ.cons ?_) | (refine VQ.nil ?_) | (refine VG.nil ?_) | (refine VG.cons ?_) | (refine VH.nil ?_) | (refine VH.cons ?_) | (refine VP.done ?_) | (refine VP.one ?_) | (refine VP.two ?_) | (refine VE.cons ?_) | (refine VE.nil ?_) | (refine VBool.t ?_) | (refine VBool.f ?_) | (refine VBool.dT (by omega) ?_) | (refine VBool.dF (by omega) ?_) | (refine VBool.nT (by omega) ?_) | (refine VBool.nF (by omega) ?_) | (refine VRead.lenS ?_) | (refine VRead.lenT ?_) | (refine VRead.fld ?_) | (refine VRead.load1 (by assumption) ?_) | (refine VRead.load (by assumption) ?_) | (refine VRead.neB ?_) | (refine VRead.eqPN ?_) | (refine VRead.nePN ?_) | (refine VRead.eqB ?_) | (refine VBool.nT rfl ?_) | (refine VBool.dT rfl ?_) | (refine VWrap.i64 (by omega) (by omega) ?_) | (refine VWrap.u64 (by omega) (by omega) ?_) | (refine VRead.at1 (by omega) ?_) | (refine VRead.eqNN ?_) | (refine VSem.convI ?_) | (refine VRead.convI ?_) | (refine VRead.rem (by omega) (by decide) ?_) | (refine VRead.neg ?_) | (refine VC.seq ?_)); (conv => whnf))))
      refine VCall.of (rNew_any A1 m c1 _ b W2 (by omega) hO2.reads) ?_
      rintro e W3 ⟨gr, rfl, hgr, hR, hB3⟩
      refine ⟨_, rfl, ?_⟩
      replace fx := fx.later hB3
      replace p9 := p9.later hB3
      replace p10 := p10.later hB3
      replace p11 := p11.later hB3
      replace p12 := p12.later hB3
      ((conv => whnf); (repeat ((first | (refine VL.cons ?_) | (refine VL.nil ?_) | (refine VC.seqS rfl ?_) | (refine VC.region ?_) | (refine VC.draw ?_) | (refine VC.cond ?_) | (refine VC.block ?_) | (refine VC.exit ?_) | (refine VC.ret ?_) | (refine VC.skip ?_) | (refine VC.label ?_) | (refine VC.scope ?_) | (refine VQ.cons ?_) | (refine VQ.nil ?_) | (refine VG.nil ?_) | (refine VG.cons ?_) | (refine VH.nil ?_) | (refine VH.cons ?_)); (conv => whnf))))
      ((repeat ((first | (refine VL.cons ?_) | (refine VL.nil ?_) | (refine VC.seqS rfl ?_) | (refine VC.region ?_) | (refine VC.draw ?_) | (refine VC.cond ?_) | (refine VC.block ?_) | (refine VC.exit ?_) | (refine VC.ret ?_) | (refine VC.skip ?_) | (refine VC.label ?_) | (refine VC.scope ?_) | (refine VQ.cons ?_) | (refine VQ.nil ?_) | (refine VG.nil ?_) | (refine VG.cons ?_) | (refine VH.nil ?_) | (refine VH.cons ?_) | (refine VP.done ?_) | (refine VP.one ?_) | (refine VP.two ?_) | (refine VE.cons ?_) | (refine VE.nil ?_) | (refine VBool.t ?_) | (refine VBool.f ?_) | (refine VBool.dT (by omega) ?_) | (refine VBool.dF (by omega) ?_) | (refine VBool.nT (by omega) ?_) | (refine VBool.nF (by omega) ?_) | (refine VRead.lenS ?_) | (refine VRead.lenT ?_) | (refine VRead.fld ?_) | (refine VRead.load1 (by assumption) ?_) | (refine VRead.load (by assumption) ?_) | (refine VRead.neB ?_) | (refine VRead.eqPN ?_) | (refine VRead.nePN ?_) | (refine VRead.eqB ?_) | (refine VBool.nT rfl ?_) | (refine VBool.dT rfl ?_) | (refine VWrap.i64 (by omega) (by omega) ?_) | (refine VWrap.u64 (by omega) (by omega) ?_) | (refine VRead.at1 (by omega) ?_) | (refine VRead.eqNN ?_) | (refine VSem.convI ?_) | (refine VRead.convI ?_) | (refine VRead.rem (by omega) (by decide) ?_) | (refine VRead.neg ?_) | (refine VC.seq ?_)); (conv => whnf))))
      refine VCall.of (rInt_any W3 gr _ hR) ?_
      rintro e W4 ⟨rfl, hR4, y4⟩
      refine ⟨_, rfl, ?_⟩
      replace fx := fx.only y4 (by omega) (by omega) (by omega) (by omega) (by omega) (by omega) (by omega) (by omega)
      ((conv => whnf); (repeat ((first | (refine VL.cons ?_) | (refine VL.nil ?_) | (refine VC.seqS rfl ?_) | (refine VC.region ?_) | (refine VC.draw ?_) | (refine VC.cond ?_) | (refine VC.block ?_) | (refine VC.exit ?_) | (refine VC.ret ?_) | (refine VC.skip ?_) | (refine VC.label ?_) | (refine VC.scope ?_) | (refine VQ.cons ?_) | (refine VQ.nil ?_) | (refine VG.nil ?_) | (refine VG.cons ?_) | (refine VH.nil ?_) | (refine VH.cons ?_)); (conv => whnf))))
      ((repeat ((first | (refine VL.cons ?_) | (refine VL.nil ?_) | (refine VC.seqS rfl ?_) | (refine VC.region ?_) | (refine VC.draw ?_) | (refine VC.cond ?_) | (refine VC.block ?_) | (refine VC.exit ?_) | (refine VC.ret ?_) | (refine VC.skip ?_) | (refine VC.label ?_) | (refine VC.scope ?_) | (refine VQ.cons ?_) | (refine VQ.nil ?_) | (refine VG.nil ?_) | (refine VG.cons ?_) | (refine VH.nil ?_) | (refine VH.cons ?_) | (refine VP.done ?_) | (refine VP.one ?_) | (refine VP.two ?_) | (refine VE.cons ?_) | (refine VE.nil ?_) | (refine VBool.t ?_) | (refine VBool.f ?_) | (refine VBool.dT (by omega) ?_) | (refine VBool.dF (by omega) ?_) | (refine VBool.nT (by omega) ?_) | (refine VBool.nF (by omega) ?_) | (refine VRead.lenS ?_) | (refine VRead.lenT ?_) | (refine VRead.fld ?_) | (refine VRead.load1 (by assumption) ?_) | (refine VRead.load (by assumption) ?_) | (refine VRead.neB ?_) | (refine VRead.eqPN ?_) | (refine VRead.nePN ?_) | (refine VRead.eqB ?_) | (refine VBool.nT rfl ?_) | (refine VBool.dT rfl ?_) | (refine VWrap.i64 (by omega) (by omega) ?_) | (refine VWrap.u64 (by omega) (by omega) ?_) | (refine VRead.at1 (by omega) ?_) | (refine VRead.eqNN ?_) | (refine VSem.convI ?_) | (refine VRead.convI ?_) | (refine VRead.rem (by omega) (by decide) ?_) | (refine VRead.neg ?_) | (refine VC.seq ?_)); (conv => whnf))))
      refine VUnit.storeB (p9.only y4 (by omega)) rfl rfl rfl ?_
      intro W5 p9' y5
      have hR5 := hR4.apartC (p9.only y4 (by omega)) (by rfl) y5 (by omega)
      replace p10 := (p10.only y4 (by omega)).only y5 (by omega)
      replace p11 := (p11.only y4 (by omega)).only y5 (by omega)
      replace p12 := (p12.only y4 (by omega)).only y5 (by omega)
      replace fx := fx.only y5 (by omega) (by omega) (by omega) (by omega) (by omega) (by omega) (by omega) (by omega)
      clear p9
      ((conv => whnf); (repeat ((first | (refine VL.cons ?_) | (refine VL.nil ?_) | (refine VC.seqS rfl ?_) | (refine VC.region ?_) | (refine VC.draw ?_) | (refine VC.cond ?_) | (refine VC.block ?_) | (refine VC.exit ?_) | (refine VC.ret ?_) | (refine VC.skip ?_) | (refine VC.label ?_) | (refine VC.scope ?_) | (refine VQ.cons ?_) | (refine VQ.nil ?_) | (refine VG.nil ?_) | (refine VG.cons ?_) | (refine VH.nil ?_) | (refine VH.cons ?_)); (conv => whnf))))
      ((repeat ((first | (refine VL.cons ?_) | (refine VL.nil ?_) | (refine VC.seqS rfl ?_) | (refine VC.region ?_) | (refine VC.draw ?_) | (refine VC.cond ?_) | (refine VC.block ?_) | (refine VC.exit ?_) | (refine VC.ret ?_) | (refine VC.skip ?_) | (refine VC.label ?_) | (refine VC.scope ?_) | (refine VQ.cons ?_) | (refine VQ.nil ?_) | (refine VG.nil ?_) | (refine VG.cons ?_) | (refine VH.nil ?_) | (refine VH.cons ?_) | (refine VP.done ?_) | (refine VP.one ?_) | (refine VP.two ?_) | (refine VE.cons ?_) | (refine VE.nil ?_) | (refine VBool.t ?_) | (refine VBool.f ?_) | (refine VBool.dT (by omega) ?_) | (refine VBool.dF (by omega) ?_) | (refine VBool.nT (by omega) ?_) | (refine VBool.nF (by omega) ?_) | (refine VRead.lenS ?_) | (refine VRead.lenT ?_) | (refine VRead.fld ?_) | (refine VRead.load1 (by assumption) ?_) | (refine VRead.load (by assumption) ?_) | (refine VRead.neB ?_) | (refine VRead.eqPN ?_) | (refine VRead.nePN ?_) | (refine VRead.eqB ?_) | (refine VBool.nT rfl ?_) | (refine VBool.dT rfl ?_) | (refine VWrap.i64 (by omega) (by omega) ?_) | (refine VWrap.u64 (by omega) (by omega) ?_) | (refine VRead.at1 (by omega) ?_) | (refine VRead.eqNN ?_) | (refine VSem.convI ?_) | (refine VRead.convI ?_) | (refine VRead.rem (by omega) (by decide) ?_) | (refine VRead.neg ?_) | (refine VC.seq ?_)); (conv => whnf))))
      refine VCall.of (rInt_any W5 gr _ hR5) ?_
      rintro e W6 ⟨rfl, hR6, y6⟩
      refine ⟨_, rfl, ?_⟩
      replace fx := fx.only y6 (by omega) (by omega) (by omega) (by omega) (by omega) (by omega) (by omega) (by omega)
      ((conv => whnf); (repeat ((first | (refine VL.cons ?_) | (refine VL.nil ?_) | (refine VC.seqS rfl ?_) | (refine VC.region ?_) | (refine VC.draw ?_) | (refine VC.cond ?_) | (refine VC.block ?_) | (refine VC.exit ?_) | (refine VC.ret ?_) | (refine VC.skip ?_) | (refine VC.label ?_) | (refine VC.scope ?_) | (refine VQ.cons ?_) | (refine VQ.nil ?_) | (refine VG.nil ?_) | (refine VG.cons ?_) | (refine VH.nil ?_) | (refine VH.cons ?_)); (conv => whnf))))
      ((repeat ((first | (refine VL.cons ?_) | (refine VL.nil ?_) | (refine VC.seqS rfl ?_) | (refine VC.region ?_) | (refine VC.draw ?_) | (refine VC.cond ?_) | (refine VC.block ?_) | (refine VC.exit ?_) | (refine VC.ret ?_) | (refine VC.skip ?_) | (refine VC.label ?_) | (refine VC.scope ?_) | (refine VQ.cons ?_) | (refine VQ.nil ?_) | (refine VG.nil ?_) | (refine VG.cons ?_) | (refine VH.nil ?_) | (refine VH.cons ?_) | (refine VP.done ?_) | (refine VP.one ?_) | (refine VP.two ?_) | (refine VE.cons ?_) | (refine VE.nil ?_) | (refine VBool.t ?_) | (refine VBool.f ?_) | (refine VBool.dT (by omega) ?_) | (refine VBool.dF (by omega) ?_) | (refine VBool.nT (by omega) ?_) | (refine VBool.nF (by omega) ?_) | (refine VRead.lenS ?_) | (refine VRead.lenT ?_) | (refine VRead.fld ?_) | (refine VRead.load1 (by assumption) ?_) | (refine VRead.load (by assumption) ?_) | (refine VRead.neB ?_) | (refine VRead.eqPN ?_) | (refine VRead.nePN ?_) | (refine VRead.eqB ?_) | (refine VBool.nT rfl ?_) | (refine VBool.dT rfl ?_) | (refine VWrap.i64 (by omega) (by omega) ?_) | (refine VWrap.u64 (by omega) (by omega) ?_) | (refine VRead.at1 (by omega) ?_) | (refine VRead.eqNN ?_) | (refine VSem.convI ?_) | (refine VRead.convI ?_) | (refine VRead.rem (by omega) (by decide) ?_) | (refine VRead.neg ?_) | (refine VC.seq ?_)); (conv => whnf))))
      refine VUnit.storeB (p10.only y6 (by omega)) rfl rfl rfl ?_
      intro W7 p10' y7
      have hR7 := hR6.apartC (p10.only y6 (by omega)) (by rfl) y7 (by omega)
      replace p9' := (p9'.only y6 (by omega)).only y7 (by omega)
      replace p11 := (p11.only y6 (by omega)).only y7 (by omega)
      replace p12 := (p12.only y6 (by omega)).only y7 (by omega)
      replace fx := fx.only y7 (by omega) (by omega) (by omega) (by omega) (by omega) (by omega) (by omega) (by omega)
      clear p10
      ((conv => whnf); (repeat ((first | (refine VL.cons ?_) | (refine VL.nil ?_) | (refine VC.seqS rfl ?_) | (refine VC.region ?_) | (refine VC.draw ?_) | (refine VC.cond ?_) | (refine VC.block ?_) | (refine VC.exit ?_) | (refine VC.ret ?_) | (refine VC.skip ?_) | (refine VC.label ?_) | (refine VC.scope ?_) | (refine VQ.cons ?_) | (refine VQ.nil ?_) | (refine VG.nil ?_) | (refine VG.cons ?_) | (refine VH.nil ?_) | (refine VH.cons ?_)); (conv => whnf))))
      ((repeat ((first | (refine VL.cons ?_) | (refine VL.nil ?_) | (refine VC.seqS rfl ?_) | (refine VC.region ?_) | (refine VC.draw ?_) | (refine VC.cond ?_) | (refine VC.block ?_) | (refine VC.exit ?_) | (refine VC.ret ?_) | (refine VC.skip ?_) | (refine VC.label ?_) | (refine VC.scope ?_) | (refine VQ.cons ?_) | (refine VQ.nil ?_) | (refine VG.nil ?_) | (refine VG.cons ?_) | (refine VH.nil ?_) | (refine VH.cons ?_) | (refine VP.done ?_) | (refine VP.one ?_) | (refine VP.two ?_) | (refine VE.cons ?_) | (refine VE.nil ?_) | (refine VBool.t ?_) | (refine VBool.f ?_) | (refine VBool.dT (by omega) ?_) | (refine VBool.dF (by omega) ?_) | (refine VBool.nT (by omega) ?_) | (refine VBool.nF (by omega) ?_) | (refine VRead.lenS ?_) | (refine VRead.lenT ?_) | (refine VRead.fld ?_) | (refine VRead.load1 (by assumption) ?_) | (refine VRead.load (by assumption) ?_) | (refine VRead.neB ?_) | (refine VRead.eqPN ?_) | (refine VRead.nePN ?_) | (refine VRead.eqB ?_) | (refine VBool.nT rfl ?_) | (refine VBool.dT rfl ?_) | (refine VWrap.i64 (by omega) (by omega) ?_) | (refine VWrap.u64 (by omega) (by omega) ?_) | (refine VRead.at1 (by omega) ?_) | (refine VRead.eqNN ?_) | (refine VSem.convI ?_) | (refine VRead.convI ?_) | (refine VRead.rem (by omega) (by decide) ?_) | (refine VRead.neg ?_) | (refine VC.seq ?_)); (conv => whnf))))
      refine VCall.of (rInt_any W7 gr _ hR7) ?_
      rintro e W8 ⟨rfl, hR8, y8⟩
      refine ⟨_, rfl, ?_⟩
      replace fx := fx.only y8 (by omega) (by omega) (by omega) (by omega) (by omega) (by omega) (by omega) (by omega)
      ((conv => whnf); (repeat ((first | (refine VL.cons ?_) | (refine VL.nil ?_) | (refine VC.seqS rfl ?_) | (refine VC.region ?_) | (refine VC.draw ?_) | (refine VC.cond ?_) | (refine VC.block ?_) | (refine VC.exit ?_) | (refine VC.ret ?_) | (refine VC.skip ?_) | (refine VC.label ?_) | (refine VC.scope ?_) | (refine VQ.cons ?_) | (refine VQ.nil ?_) | (refine VG.nil ?_) | (refine VG.cons ?_) | (refine VH.nil ?_) | (refine VH.cons ?_)); (conv => whnf))))
      ((repeat ((first | (refine VL.cons ?_) | (refine VL.nil ?_) | (refine VC.seqS rfl ?_) | (refine VC.region ?_) | (refine VC.draw ?_) | (refine VC.cond ?_) | (refine VC.block ?_) | (refine VC.exit ?_) | (refine VC.ret ?_) | (refine VC.skip ?_) | (refine VC.label ?_) | (refine VC.scope ?_) | (refine VQ.cons ?_) | (refine VQ.nil ?_) | (refine VG.nil ?_) | (refine VG.cons ?_) | (refine VH.nil ?_) | (refine VH.cons ?_) | (refine VP.done ?_) | (refine VP.one ?_) | (refine VP.two ?_) | (refine VE.cons ?_) | (refine VE.nil ?_) | (refine VBool.t ?_) | (refine VBool.f ?_) | (refine VBool.dT (by omega) ?_) | (refine VBool.dF (by omega) ?_) | (refine VBool.nT (by omega) ?_) | (refine VBool.nF (by omega) ?_) | (refine VRead.lenS ?_) | (refine VRead.lenT ?_) | (refine VRead.fld ?_) | (refine VRead.load1 (by assumption) ?_) | (refine VRead.load (by assumption) ?_) | (refine VRead.neB ?_) | (refine VRead.eqPN ?_) | (refine VRead.nePN ?_) | (refine VRead.eqB ?_) | (refine VBool.nT rfl ?_) | (refine VBool.dT rfl ?_) | (refine VWrap.i64 (by omega) (by omega) ?_) | (refine VWrap.u64 (by omega) (by omega) ?_) | (refine VRead.at1 (by omega) ?_) | (refine VRead.eqNN ?_) | (refine VSem.convI ?_) | (refine VRead.convI ?_) | (refine VRead.rem (by omega) (by decide) ?_) | (refine VRead.neg ?_) | (refine VC.seq ?_)); (conv => whnf))))
      refine VUnit.storeB (p11.only y8 (by omega)) rfl rfl rfl ?_
      intro W9 p11' y9
      have hR9 := hR8.apartC (p11.only y8 (by omega)) (by rfl) y9 (by omega)
      replace p9' := (p9'.only y8 (by omega)).only y9 (by omega)
      replace p10' := (p10'.only y8 (by omega)).only y9 (by omega)
      replace p12 := (p12.only y8 (by omega)).only y9 (by omega)
      replace fx := fx.only y9 (by omega) (by omega) (by omega) (by omega) (by omega) (by omega) (by omega) (by omega)
      clear p11
      ((conv => whnf); (repeat ((first | (refine VL.cons ?_) | (refine VL.nil ?_) | (refine VC.seqS rfl ?_) | (refine VC.region ?_) | (refine VC.draw ?_) | (refine VC.cond ?_) | (refine VC.block ?_) | (refine VC.exit ?_) | (refine VC.ret ?_) | (refine VC.skip ?_) | (refine VC.label ?_) | (refine VC.scope ?_) | (refine VQ.cons ?_) | (refine VQ.nil ?_) | (refine VG.nil ?_) | (refine VG.cons ?_) | (refine VH.nil ?_) | (refine VH.cons ?_)); (conv => whnf))))
      ((repeat ((first | (refine VL.cons ?_) | (refine VL.nil ?_) | (refine VC.seqS rfl ?_) | (refine VC.region ?_) | (refine VC.draw ?_) | (refine VC.cond ?_) | (refine VC.block ?_) | (refine VC.exit ?_) | (refine VC.ret ?_) | (refine VC.skip ?_) | (refine VC.label ?_) | (refine VC.scope ?_) | (refine VQ.cons ?_) | (refine VQ.nil ?_) | (refine VG.nil ?_) | (refine VG.cons ?_) | (refine VH.nil ?_) | (refine VH.cons ?_) | (refine VP.done ?_) | (refine VP.one ?_) | (refine VP.two ?_) | (refine VE.cons ?_) | (refine VE.nil ?_) | (refine VBool.t ?_) | (refine VBool.f ?_) | (refine VBool.dT (by omega) ?_) | (refine VBool.dF (by omega) ?_) | (refine VBool.nT (by omega) ?_) | (refine VBool.nF (by omega) ?_) | (refine VRead.lenS ?_) | (refine VRead.lenT ?_) | (refine VRead.fld ?_) | (refine VRead.load1 (by assumption) ?_) | (refine VRead.load (by assumption) ?_) | (refine VRead.neB ?_) | (refine VRead.eqPN ?_) | (refine VRead.nePN ?_) | (refine VRead.eqB ?_) | (refine VBool.nT rfl ?_) | (refine VBool.dT rfl ?_) | (refine VWrap.i64 (by omega) (by omega) ?_) | (refine VWrap.u64 (by omega) (by omega) ?_) | (refine VRead.at1 (by omega) ?_) | (refine VRead.eqNN ?_) | (refine VSem.convI ?_) | (refine VRead.convI ?_) | (refine VRead.rem (by omega) (by decide) ?_) | (refine VRead.neg ?_) | (refine VC.seq ?_)); (conv => whnf))))
      refine VCall.of (rEnd_any W9 gr _ hR9) ?_
      rintro e W10 ⟨rfl, N, rfl⟩
      refine ⟨_, rfl, ?_⟩
      have hN10 : Below W9.heap.size W9 (W9.drewN N) := below_drewN (Below.refl _ _) N
      replace fx := fx.later hN10
      replace p9' : Blk (W9.drewN N) g9 3 #[.int .i64 (hA b)] := p9'.later hN10
      replace p10' : Blk (W9.drewN N) g10 3 #[.int .i64 (hT b)] := p10'.later hN10
      replace p11' : Blk (W9.drewN N) g11 3 #[.int .i64 (hN b)] := p11'.later hN10
      replace p12 := p12.later hN10
      rw [show Wire.endS (Wire.intS (Wire.intS (Wire.intS (some b)).2).2).2 = hE b from rfl]
      generalize W9.drewN N = W10 at *
      have k3 := fx.b3
      by_cases hh : HdOk b idx
      · have h1 := hh.e
        have h2 := hh.a
        have h3 := hh.t1
        have h4 := hh.t2
        have h5 := hh.n1
        have h6 := hh.n2
        rw [h1]
        ((conv => whnf); (repeat ((first | (refine VL.cons ?_) | (refine VL.nil ?_) | (refine VC.seqS rfl ?_) | (refine VC.region ?_) | (refine VC.draw ?_) | (refine VC.cond ?_) | (refine VC.block ?_) | (refine VC.exit ?_) | (refine VC.ret ?_) | (refine VC.skip ?_) | (refine VC.label ?_) | (refine VC.scope ?_) | (refine VQ.cons ?_) | (refine VQ.nil ?_) | (refine VG.nil ?_) | (refine VG.cons ?_) | (refine VH.nil ?_) | (refine VH.cons ?_)); (conv => whnf))))
        (repeat (first | ((first | (refine VL.cons ?_) | (refine VL.nil ?_) | (refine VC.seqS rfl ?_) | (refine VC.region ?_) | (refine VC.draw ?_) | (refine VC.cond ?_) | (refine VC.block ?_) | (refine VC.exit ?_) | (refine VC.ret ?_) | (refine VC.skip ?_) | (refine VC.label ?_) | (refine VC.scope ?_) | (refine VQ.cons ?_) | (refine VQ.nil ?_) | (refine VG.nil ?_) | (refine VG.cons ?_) | (refine VH.nil ?_) | (refine VH.cons ?_) | (refine VP.done ?_) | (refine VP.one ?_) | (refine VP.two ?_) | (refine VE.cons ?_) | (refine VE.nil ?_) | (refine VBool.t ?_) | (refine VBool.f ?_) | (refine VBool.dT (by omega) ?_) | (refine VBool.dF (by omega) ?_) | (refine VBool.nT (by omega) ?_) | (refine VBool.nF (by omega) ?_) | (refine VRead.lenS ?_) | (refine VRead.lenT ?_) | (refine VRead.fld ?_) | (refine VRead.load1 (by assumption) ?_) | (refine VRead.load (by assumption) ?_) | (refine VRead.neB ?_) | (refine VRead.eqPN ?_) | (refine VRead.nePN ?_) | (refine VRead.eqB ?_) | (refine VBool.nT rfl ?_) | (refine VBool.dT rfl ?_) | (refine VWrap.i64 (by omega) (by omega) ?_) | (refine VWrap.u64 (by omega) (by omega) ?_) | (refine VRead.at1 (by omega) ?_) | (refine VRead.eqNN ?_) | (refine VSem.convI ?_) | (refine VRead.convI ?_) | (refine VRead.rem (by omega) (by decide) ?_) | (refine VRead.neg ?_) | (refine VC.seq ?_)); (conv => whnf)) | (refine VRead.loadB k3 rfl rfl ?_; (conv => whnf)) | (refine VRead.loadB p9' rfl rfl ?_; (conv => whnf)) | (refine VRead.loadB p10' rfl rfl ?_; (conv => whnf)) | (refine VRead.loadB p11' rfl rfl ?_; (conv => whnf))))
        refine ⟨_, fx.ll, .inl ⟨rfl, ?_⟩⟩
        have er : (Loop.mk .ready none r.fn r.tmps r.params r.assign r.body r.defers) = r := by
          cases r; simp only at hr1 hr2; subst hr1 hr2; rfl
        refine ⟨?_, .inr ⟨b, cs, hcs, Nat.le_refl _, hh, p9'.putObj (by omega) _, p10'.putObj (by omega) _, p11'.putObj (by omega) _, none, 0, [], p12.putObj (by omega) _, Own.nil _ _, rfl⟩⟩
        have := fx.loop (o' := .loop r) (by omega) (by omega) (by omega) (by omega) (by omega) (by omega)
        show RdFix (.slice A n c) w D (.loop r) idx g3 g4 g5 g6 gx (W10.putObj (D + 1) (.loop (Loop.mk .ready none r.fn r.tmps r.params r.assign r.body r.defers)))
        rw [er]
        exact this
      · have hno : saysB idx bs = none := by rw [hcs, saysB_cons, if_neg hh]
        have hcase : hE b = false ∨ (hE b = true ∧ hA b ≠ idx) ∨ (hE b = true ∧ hA b = idx ∧ hT b < 1) ∨ (hE b = true ∧ hA b = idx ∧ 1 ≤ hT b ∧ 1099511627776 < hT b) ∨ (hE b = true ∧ hA b = idx ∧ 1 ≤ hT b ∧ hT b ≤ 1099511627776 ∧ hN b < 1) ∨
            (hE b = true ∧ hA b = idx ∧ 1 ≤ hT b ∧ hT b ≤ 1099511627776 ∧ 1 ≤ hN b ∧ 1048576 < hN b) := by
          cases h1 : hE b with
          | false => exact .inl rfl
          | true =>
            right
            by_cases h2 : hA b = idx
            case neg => exact .inl ⟨rfl, h2⟩
            by_cases h3 : 1 ≤ hT b
            case neg => exact .inr (.inl ⟨rfl, h2, by omega⟩)
            by_cases h4 : hT b ≤ 1099511627776
            case neg => exact .inr (.inr (.inl ⟨rfl, h2, h3, by omega⟩))
            by_cases h5 : 1 ≤ hN b
            case neg => exact .inr (.inr (.inr (.inl ⟨rfl, h2, h3, h4, by omega⟩)))
            by_cases h6 : hN b ≤ 1048576
            case neg => exact .inr (.inr (.inr (.inr ⟨rfl, h2, h3, h4, h5, by omega⟩)))
            exact absurd ⟨h1, h2, h3, h4, h5, h6⟩ hh
        rcases hcase with h1 | ⟨h1, h2⟩ | ⟨h1, h2, h3⟩ | ⟨h1, h2, h3, h4⟩ | ⟨h1, h2, h3, h4, h5⟩ | ⟨h1, h2, h3, h4, h5, h6⟩
        all_goals
          rw [h1]
          ((conv => whnf); (repeat ((first | (refine VL.cons ?_) | (refine VL.nil ?_) | (refine VC.seqS rfl ?_) | (refine VC.region ?_) | (refine VC.draw ?_) | (refine VC.cond ?_) | (refine VC.block ?_) | (refine VC.exit ?_) | (refine VC.ret ?_) | (refine VC.skip ?_) | (refine VC.label ?_) | (refine VC.scope ?_) | (refine VQ.cons ?_) | (refine VQ.nil ?_) | (refine VG.nil ?_) | (refine VG.cons ?_) | (refine VH.nil ?_) | (refine VH.cons ?_)); (conv => whnf))))
          (repeat (first | ((first | (refine VL.cons ?_) | (refine VL.nil ?_) | (refine VC.seqS rfl ?_) | (refine VC.region ?_) | (refine VC.draw ?_) | (refine VC.cond ?_) | (refine VC.block ?_) | (refine VC.exit ?_) | (refine VC.ret ?_) | (refine VC.skip ?_) | (refine VC.label ?_) | (refine VC.scope ?_) | (refine VQ.cons ?_) | (refine VQ.nil ?_) | (refine VG.nil ?_) | (refine VG.cons ?_) | (refine VH.nil ?_) | (refine VH.cons ?_) | (refine VP.done ?_) | (refine VP.one ?_) | (refine VP.two ?_) | (refine VE.cons ?_) | (refine VE.nil ?_) | (refine VBool.t ?_) | (refine VBool.f ?_) | (refine VBool.dT (by omega) ?_) | (refine VBool.dF (by omega) ?_) | (refine VBool.nT (by omega) ?_) | (refine VBool.nF (by omega) ?_) | (refine VRead.lenS ?_) | (refine VRead.lenT ?_) | (refine VRead.fld ?_) | (refine VRead.load1 (by assumption) ?_) | (refine VRead.load (by assumption) ?_) | (refine VRead.neB ?_) | (refine VRead.eqPN ?_) | (refine VRead.nePN ?_) | (refine VRead.eqB ?_) | (refine VBool.nT rfl ?_) | (refine VBool.dT rfl ?_) | (refine VWrap.i64 (by omega) (by omega) ?_) | (refine VWrap.u64 (by omega) (by omega) ?_) | (refine VRead.at1 (by omega) ?_) | (refine VRead.eqNN ?_) | (refine VSem.convI ?_) | (refine VRead.convI ?_) | (refine VRead.rem (by omega) (by decide) ?_) | (refine VRead.neg ?_) | (refine VC.seq ?_)); (conv => whnf)) | (refine VRead.loadB k3 rfl rfl ?_; (conv => whnf)) | (refine VRead.loadB p9' rfl rfl ?_; (conv => whnf)) | (refine VRead.loadB p10' rfl rfl ?_; (conv => whnf)) | (refine VRead.loadB p11' rfl rfl ?_; (conv => whnf))))
          refine VUnit.storeB fx.b4 rfl rfl rfl ?_
          intro V1 z4 y1
          have fx1 := fx.set4 z4 y1 (by omega) (by omega) (by omega) (by omega) (by omega) (by omega)
          ((conv => whnf); (repeat ((first | (refine VL.cons ?_) | (refine VL.nil ?_) | (refine VC.seqS rfl ?_) | (refine VC.region ?_) | (refine VC.draw ?_) | (refine VC.cond ?_) | (refine VC.block ?_) | (refine VC.exit ?_) | (refine VC.ret ?_) | (refine VC.skip ?_) | (refine VC.label ?_) | (refine VC.scope ?_) | (refine VQ.cons ?_) | (refine VQ.nil ?_) | (refine VG.nil ?_) | (refine VG.cons ?_) | (refine VH.nil ?_) | (refine VH.cons ?_)); (conv => whnf))))
          ((repeat ((first | (refine VL.cons ?_) | (refine VL.nil ?_) | (refine VC.seqS rfl ?_) | (refine VC.region ?_) | (refine VC.draw ?_) | (refine VC.cond ?_) | (refine VC.block ?_) | (refine VC.exit ?_) | (refine VC.ret ?_) | (refine VC.skip ?_) | (refine VC.label ?_) | (refine VC.scope ?_) | (refine VQ.cons ?_) | (refine VQ.nil ?_) | (refine VG.nil ?_) | (refine VG.cons ?_) | (refine VH.nil ?_) | (refine VH.cons ?_) | (refine VP.done ?_) | (refine VP.one ?_) | (refine VP.two ?_) | (refine VE.cons ?_) | (refine VE.nil ?_) | (refine VBool.t ?_) | (refine VBool.f ?_) | (refine VBool.dT (by omega) ?_) | (refine VBool.dF (by omega) ?_) | (refine VBool.nT (by omega) ?_) | (refine VBool.nF (by omega) ?_) | (refine VRead.lenS ?_) | (refine VRead.lenT ?_) | (refine VRead.fld ?_) | (refine VRead.load1 (by assumption) ?_) | (refine VRead.load (by assumption) ?_) | (refine VRead.neB ?_) | (refine VRead.eqPN ?_) | (refine VRead.nePN ?_) | (refine VRead.eqB ?_) | (refine VBool.nT rfl ?_) | (refine VBool.dT rfl ?_) | (refine VWrap.i64 (by omega) (by omega) ?_) | (refine VWrap.u64 (by omega) (by omega) ?_) | (refine VRead.at1 (by omega) ?_) | (refine VRead.eqNN ?_) | (refine VSem.convI ?_) | (refine VRead.convI ?_) | (refine VRead.rem (by omega) (by decide) ?_) | (refine VRead.neg ?_) | (refine VC.seq ?_)); (conv => whnf))))
          refine VUnit.storeB fx1.b5 rfl rfl rfl ?_
          intro V2 z5 y2
          have fx2 := fx1.set5 z5 y2 (by omega) (by omega) (by omega) (by omega) (by omega) (by omega)
          ((conv => whnf); (repeat ((first | (refine VL.cons ?_) | (refine VL.nil ?_) | (refine VC.seqS rfl ?_) | (refine VC.region ?_) | (refine VC.draw ?_) | (refine VC.cond ?_) | (refine VC.block ?_) | (refine VC.exit ?_) | (refine VC.ret ?_) | (refine VC.skip ?_) | (refine VC.label ?_) | (refine VC.scope ?_) | (refine VQ.cons ?_) | (refine VQ.nil ?_) | (refine VG.nil ?_) | (refine VG.cons ?_) | (refine VH.nil ?_) | (refine VH.cons ?_)); (conv => whnf))))
          ((repeat ((first | (refine VL.cons ?_) | (refine VL.nil ?_) | (refine VC.seqS rfl ?_) | (refine VC.region ?_) | (refine VC.draw ?_) | (refine VC.cond ?_) | (refine VC.block ?_) | (refine VC.exit ?_) | (refine VC.ret ?_) | (refine VC.skip ?_) | (refine VC.label ?_) | (refine VC.scope ?_) | (refine VQ.cons ?_) | (refine VQ.nil ?_) | (refine VG.nil ?_) | (refine VG.cons ?_) | (refine VH.nil ?_) | (refine VH.cons ?_) | (refine VP.done ?_) | (refine VP.one ?_) | (refine VP.two ?_) | (refine VE.cons ?_) | (refine VE.nil ?_) | (refine VBool.t ?_) | (refine VBool.f ?_) | (refine VBool.dT (by omega) ?_) | (refine VBool.dF (by omega) ?_) | (refine VBool.nT (by omega) ?_) | (refine VBool.nF (by omega) ?_) | (refine VRead.lenS ?_) | (refine VRead.lenT ?_) | (refine VRead.fld ?_) | (refine VRead.load1 (by assumption) ?_) | (refine VRead.load (by assumption) ?_) | (refine VRead.neB ?_) | (refine VRead.eqPN ?_) | (refine VRead.nePN ?_) | (refine VRead.eqB ?_) | (refine VBool.nT rfl ?_) | (refine VBool.dT rfl ?_) | (refine VWrap.i64 (by omega) (by omega) ?_) | (refine VWrap.u64 (by omega) (by omega) ?_) | (refine VRead.at1 (by omega) ?_) | (refine VRead.eqNN ?_) | (refine VSem.convI ?_) | (refine VRead.convI ?_) | (refine VRead.rem (by omega) (by decide) ?_) | (refine VRead.neg ?_) | (refine VC.seq ?_)); (conv => whnf))))
          refine VUnit.storeB fx2.b6 rfl rfl rfl ?_
          intro V3 z6 y3
          have fx3 := fx2.set6 z6 y3 (by omega) (by omega) (by omega) (by omega) (by omega) (by omega)
          ((conv => whnf); (repeat ((first | (refine VL.cons ?_) | (refine VL.nil ?_) | (refine VC.seqS rfl ?_) | (refine VC.region ?_) | (refine VC.draw ?_) | (refine VC.cond ?_) | (refine VC.block ?_) | (refine VC.exit ?_) | (refine VC.ret ?_) | (refine VC.skip ?_) | (refine VC.label ?_) | (refine VC.scope ?_) | (refine VQ.cons ?_) | (refine VQ.nil ?_) | (refine VG.nil ?_) | (refine VG.cons ?_) | (refine VH.nil ?_) | (refine VH.cons ?_)); (conv => whnf))))
          ((repeat ((first | (refine VL.cons ?_) | (refine VL.nil ?_) | (refine VC.seqS rfl ?_) | (refine VC.region ?_) | (refine VC.draw ?_) | (refine VC.cond ?_) | (refine VC.block ?_) | (refine VC.exit ?_) | (refine VC.ret ?_) | (refine VC.skip ?_) | (refine VC.label ?_) | (refine VC.scope ?_) | (refine VQ.cons ?_) | (refine VQ.nil ?_) | (refine VG.nil ?_) | (refine VG.cons ?_) | (refine VH.nil ?_) | (refine VH.cons ?_) | (refine VP.done ?_) | (refine VP.one ?_) | (refine VP.two ?_) | (refine VE.cons ?_) | (refine VE.nil ?_) | (refine VBool.t ?_) | (refine VBool.f ?_) | (refine VBool.dT (by omega) ?_) | (refine VBool.dF (by omega) ?_) | (refine VBool.nT (by omega) ?_) | (refine VBool.nF (by omega) ?_) | (refine VRead.lenS ?_) | (refine VRead.lenT ?_) | (refine VRead.fld ?_) | (refine VRead.load1 (by assumption) ?_) | (refine VRead.load (by assumption) ?_) | (refine VRead.neB ?_) | (refine VRead.eqPN ?_) | (refine VRead.nePN ?_) | (refine VRead.eqB ?_) | (refine VBool.nT rfl ?_) | (refine VBool.dT rfl ?_) | (refine VWrap.i64 (by omega) (by omega) ?_) | (refine VWrap.u64 (by omega) (by omega) ?_) | (refine VRead.at1 (by omega) ?_) | (refine VRead.eqNN ?_) | (refine VSem.convI ?_) | (refine VRead.convI ?_) | (refine VRead.rem (by omega) (by decide) ?_) | (refine VRead.neg ?_) | (refine VC.seq ?_)); (conv => whnf))))
          exact ⟨_, fx3.ll, .inr ⟨rfl, ⟨fx3.loop (by omega) (by omega) (by omega) (by omega) (by omega) (by omega), hno⟩⟩⟩
    · have hp0' : ¬ Frame.place l k = 0 := fun e => k0 (hp0.1 e)
      rcases ac with ⟨h0, _⟩ | ⟨h, cs, hcs, hk1, hh, p9, p10, p11, Ad, cd, acc, p12, hOa, hga⟩
      · exact absurd h0 k0
      have hcb : cs[k - 1]? = some b := by
        rw [hcs] at hb
        obtain ⟨j, rfl⟩ : ∃ j, k = j + 1 := ⟨k - 1, by omega⟩
        simpa using hb
      have htk : cs.take (k + 1 - 1) = cs.take (k - 1) ++ [b] := by
        rw [show k + 1 - 1 = (k - 1) + 1 from by omega]
        exact take_snoc hcb
      have hsn : gather (hN h) [] (cs.take (k + 1 - 1)) = if (b.length : Int) = min 1000 (hN h - acc.length) then some (acc ++ b) else none := by rw [htk, gather_snoc, hga]
      have hn2 := hh.n2
      have hn1 := hh.n1
      have hal : (acc.length : Int) ≤ hN h := gather_le (by simp; omega) hga
      have k12 := p12
      by_cases hlen : (b.length : Int) = min 1000 (hN h - acc.length)
      · rw [if_pos hlen] at hsn
        ((conv => whnf); (repeat ((first | (refine VL.cons ?_) | (refine VL.nil ?_) | (refine VC.seqS rfl ?_) | (refine VC.region ?_) | (refine VC.draw ?_) | (refine VC.cond ?_) | (refine VC.block ?_) | (refine VC.exit ?_) | (refine VC.ret ?_) | (refine VC.skip ?_) | (refine VC.label ?_) | (refine VC.scope ?_) | (refine VQ.cons ?_) | (refine VQ.nil ?_) | (refine VG.nil ?_) | (refine VG.cons ?_) | (refine VH.nil ?_) | (refine VH.cons ?_)); (conv => whnf))))
        (repeat (first | ((first | (refine VL.cons ?_) | (refine VL.nil ?_) | (refine VC.seqS rfl ?_) | (refine VC.region ?_) | (refine VC.draw ?_) | (refine VC.cond ?_) | (refine VC.block ?_) | (refine VC.exit ?_) | (refine VC.ret ?_) | (refine VC.skip ?_) | (refine VC.label ?_) | (refine VC.scope ?_) | (refine VQ.cons ?_) | (refine VQ.nil ?_) | (refine VG.nil ?_) | (refine VG.cons ?_) | (refine VH.nil ?_) | (refine VH.cons ?_) | (refine VP.done ?_) | (refine VP.one ?_) | (refine VP.two ?_) | (refine VE.cons ?_) | (refine VE.nil ?_) | (refine VBool.t ?_) | (refine VBool.f ?_) | (refine VBool.dT (by omega) ?_) | (refine VBool.dF (by omega) ?_) | (refine VBool.nT (by omega) ?_) | (refine VBool.nF (by omega) ?_) | (refine VRead.lenS ?_) | (refine VRead.lenT ?_) | (refine VRead.fld ?_) | (refine VRead.load1 (by assumption) ?_) | (refine VRead.load (by assumption) ?_) | (refine VRead.neB ?_) | (refine VRead.eqPN ?_) | (refine VRead.nePN ?_) | (refine VRead.eqB ?_) | (refine VBool.nT rfl ?_) | (refine VBool.dT rfl ?_) | (refine VWrap.i64 (by omega) (by omega) ?_) | (refine VWrap.u64 (by omega) (by omega) ?_) | (refine VRead.at1 (by omega) ?_) | (refine VRead.eqNN ?_) | (refine VSem.convI ?_) | (refine VRead.convI ?_) | (refine VRead.rem (by omega) (by decide) ?_) | (refine VRead.neg ?_) | (refine VC.seq ?_)); (conv => whnf)) | (refine VBool.dF hp0' ?_; (conv => whnf)) | (refine VRead.loadB p11 rfl rfl ?_; (conv => whnf)) | (refine VRead.loadB p12 rfl rfl ?_; (conv => whnf)) | (refine VRead.minZ (z := (b.length : Int)) (by rw [hlen]; split <;> omega) ?_; (conv => whnf))))
        refine VSem.appO hOa (Own.reads hO2) (by omega) (by omega) ?_
        intro Ad2 cd2 W3 hOa3 y3 _
        have hrow : ∀ g, (Value.slice Ad acc.length cd).ownBlock = some g → D ≤ g ∧ g ≠ D ∧ g ≠ D + 1 ∧ g < W2.heap.size := fun g hg => by
          obtain ⟨h1, cs0, h2⟩ := row_cells hOa g hg
          refine ⟨h1, fun e => ?_, fun e => ?_, (World.ownsRow.lt hOa g hg).2⟩
          · subst e; rw [fx.dd] at h2; cases h2
          · subst e; rw [fx.ll] at h2; cases h2
        have keep : ∀ i, i < W2.heap.size → i < D ∨ i = D ∨ i = D + 1 → W3.heap[i]? = W2.heap[i]? := fun i hi hid => y3.block i hi (fun e => by
          have := hrow i e.symm
          omega)
        have hsz3 := y3.size
        have q3 : RdFix (.slice A n c) w D (.loop { r with state := .busy }) idx g3 g4 g5 g6 gx W3 :=
          ⟨(keep g3 (by omega) (.inl (by omega))).trans fx.b3, (keep g4 (by omega) (.inl (by omega))).trans fx.b4, (keep g5 (by omega) (.inl (by omega))).trans fx.b5, (keep g6 (by omega) (.inl (by omega))).trans fx.b6, (keep gx (by omega) (.inl (by omega))).trans fx.bx,
            (keep D (by omega) (.inr (.inl rfl))).trans fx.dd, (keep (D + 1) (by omega) (.inr (.inr rfl))).trans fx.ll, fx.since.grown y3 fx.since.size (fun g hg => by have := hrow g hg; omega)⟩
        have r9 : Blk W3 g9 3 #[.int .i64 (hA h)] := (keep g9 (by omega) (.inl (by omega))).trans p9
        have r10 : Blk W3 g10 3 #[.int .i64 (hT h)] := (keep g10 (by omega) (.inl (by omega))).trans p10
        have r11 : Blk W3 g11 3 #[.int .i64 (hN h)] := (keep g11 (by omega) (.inl (by omega))).trans p11
        have r12 : Blk W3 g12 31 #[.slice Ad acc.length cd] := (keep g12 (by omega) (.inl (by omega))).trans p12
        ((conv => whnf); (repeat ((first | (refine VL.cons ?_) | (refine VL.nil ?_) | (refine VC.seqS rfl ?_) | (refine VC.region ?_) | (refine VC.draw ?_) | (refine VC.cond ?_) | (refine VC.block ?_) | (refine VC.exit ?_) | (refine VC.ret ?_) | (refine VC.skip ?_) | (refine VC.label ?_) | (refine VC.scope ?_) | (refine VQ.cons ?_) | (refine VQ.nil ?_) | (refine VG.nil ?_) | (refine VG.cons ?_) | (refine VH.nil ?_) | (refine VH.cons ?_)); (conv => whnf))))
        ((repeat ((first | (refine VL.cons ?_) | (refine VL.nil ?_) | (refine VC.seqS rfl ?_) | (refine VC.region ?_) | (refine VC.draw ?_) | (refine VC.cond ?_) | (refine VC.block ?_) | (refine VC.exit ?_) | (refine VC.ret ?_) | (refine VC.skip ?_) | (refine VC.label ?_) | (refine VC.scope ?_) | (refine VQ.cons ?_) | (refine VQ.nil ?_) | (refine VG.nil ?_) | (refine VG.cons ?_) | (refine VH.nil ?_) | (refine VH.cons ?_) | (refine VP.done ?_) | (refine VP.one ?_) | (refine VP.two ?_) | (refine VE.cons ?_) | (refine VE.nil ?_) | (refine VBool.t ?_) | (refine VBool.f ?_) | (refine VBool.dT (by omega) ?_) | (refine VBool.dF (by omega) ?_) | (refine VBool.nT (by omega) ?_) | (refine VBool.nF (by omega) ?_) | (refine VRead.lenS ?_) | (refine VRead.lenT ?_) | (refine VRead.fld ?_) | (refine VRead.load1 (by assumption) ?_) | (refine VRead.load (by assumption) ?_) | (refine VRead.neB ?_) | (refine VRead.eqPN ?_) | (refine VRead.nePN ?_) | (refine VRead.eqB ?_) | (refine VBool.nT rfl ?_) | (refine VBool.dT rfl ?_) | (refine VWrap.i64 (by omega) (by omega) ?_) | (refine VWrap.u64 (by omega) (by omega) ?_) | (refine VRead.at1 (by omega) ?_) | (refine VRead.eqNN ?_) | (refine VSem.convI ?_) | (refine VRead.convI ?_) | (refine VRead.rem (by omega) (by decide) ?_) | (refine VRead.neg ?_) | (refine VC.seq ?_)); (conv => whnf))))
        refine VUnit.storeB r12 rfl rfl rfl ?_
        intro W4 r12' y4
        have q4 := q3.only y4 (by omega) (by omega) (by omega) (by omega) (by omega) (by omega) (by omega) (by omega)
        have hOa4 : Own W4 D (.slice Ad2 (acc.length + m) cd2) (acc.length + m) (acc ++ b) := ownsRow_stay hOa3 (fun g hg => y4.block g (World.ownsRow.lt hOa3 g hg).2 (fun e => by injection e with e; have := (World.ownsRow.lt hOa3 g hg).1; omega))
        ((conv => whnf); (repeat ((first | (refine VL.cons ?_) | (refine VL.nil ?_) | (refine VC.seqS rfl ?_) | (refine VC.region ?_) | (refine VC.draw ?_) | (refine VC.cond ?_) | (refine VC.block ?_) | (refine VC.exit ?_) | (refine VC.ret ?_) | (refine VC.skip ?_) | (refine VC.label ?_) | (refine VC.scope ?_) | (refine VQ.cons ?_) | (refine VQ.nil ?_) | (refine VG.nil ?_) | (refine VG.cons ?_) | (refine VH.nil ?_) | (refine VH.cons ?_)); (conv => whnf))))
        ((repeat ((first | (refine VL.cons ?_) | (refine VL.nil ?_) | (refine VC.seqS rfl ?_) | (refine VC.region ?_) | (refine VC.draw ?_) | (refine VC.cond ?_) | (refine VC.block ?_) | (refine VC.exit ?_) | (refine VC.ret ?_) | (refine VC.skip ?_) | (refine VC.label ?_) | (refine VC.scope ?_) | (refine VQ.cons ?_) | (refine VQ.nil ?_) | (refine VG.nil ?_) | (refine VG.cons ?_) | (refine VH.nil ?_) | (refine VH.cons ?_) | (refine VP.done ?_) | (refine VP.one ?_) | (refine VP.two ?_) | (refine VE.cons ?_) | (refine VE.nil ?_) | (refine VBool.t ?_) | (refine VBool.f ?_) | (refine VBool.dT (by omega) ?_) | (refine VBool.dF (by omega) ?_) | (refine VBool.nT (by omega) ?_) | (refine VBool.nF (by omega) ?_) | (refine VRead.lenS ?_) | (refine VRead.lenT ?_) | (refine VRead.fld ?_) | (refine VRead.load1 (by assumption) ?_) | (refine VRead.load (by assumption) ?_) | (refine VRead.neB ?_) | (refine VRead.eqPN ?_) | (refine VRead.nePN ?_) | (refine VRead.eqB ?_) | (refine VBool.nT rfl ?_) | (refine VBool.dT rfl ?_) | (refine VWrap.i64 (by omega) (by omega) ?_) | (refine VWrap.u64 (by omega) (by omega) ?_) | (refine VRead.at1 (by omega) ?_) | (refine VRead.eqNN ?_) | (refine VSem.convI ?_) | (refine VRead.convI ?_) | (refine VRead.rem (by omega) (by decide) ?_) | (refine VRead.neg ?_) | (refine VC.seq ?_)); (conv => whnf))))
        refine ⟨_, q4.ll, .inl ⟨rfl, ?_⟩⟩
        have er : (Loop.mk .ready none r.fn r.tmps r.params r.assign r.body r.defers) = r := by
          cases r; simp only at hr1 hr2; subst hr1 hr2; rfl
        have e5 : (acc ++ b).length = acc.length + m := by rw [List.length_append, hml]
        refine ⟨?_, .inr ⟨h, cs, hcs, by omega, hh, (r9.only y4 (by omega)).putObj (by omega) _, (r10.only y4 (by omega)).putObj (by omega) _, (r11.only y4 (by omega)).putObj (by omega) _, Ad2, cd2, acc ++ b, ?_, ?_, hsn⟩⟩
        · have := q4.loop (o' := .loop r) (by omega) (by omega) (by omega) (by omega) (by omega) (by omega)
          show RdFix (.slice A n c) w D (.loop r) idx g3 g4 g5 g6 gx (W4.putObj (D + 1) (.loop (Loop.mk .ready none r.fn r.tmps r.params r.assign r.body r.defers)))
          rw [er]
          exact this
        · rw [e5]
          exact Blk.putObj (T := 31) (cs := #[.slice Ad2 (acc.length + m) cd2]) r12' (by omega) _
        · rw [e5]
          exact hOa4.loop q4.ll _
      · rw [if_neg hlen] at hsn
        have hno : saysB idx bs = none := by
          rw [hcs, saysB_cons, if_pos hh, gather_none hsn]
        ((conv => whnf); (repeat ((first | (refine VL.cons ?_) | (refine VL.nil ?_) | (refine VC.seqS rfl ?_) | (refine VC.region ?_) | (refine VC.draw ?_) | (refine VC.cond ?_) | (refine VC.block ?_) | (refine VC.exit ?_) | (refine VC.ret ?_) | (refine VC.skip ?_) | (refine VC.label ?_) | (refine VC.scope ?_) | (refine VQ.cons ?_) | (refine VQ.nil ?_) | (refine VG.nil ?_) | (refine VG.cons ?_) | (refine VH.nil ?_) | (refine VH.cons ?_)); (conv => whnf))))
        (repeat (first | ((first | (refine VL.cons ?_) | (refine VL.nil ?_) | (refine VC.seqS rfl ?_) | (refine VC.region ?_) | (refine VC.draw ?_) | (refine VC.cond ?_) | (refine VC.block ?_) | (refine VC.exit ?_) | (refine VC.ret ?_) | (refine VC.skip ?_) | (refine VC.label ?_) | (refine VC.scope ?_) | (refine VQ.cons ?_) | (refine VQ.nil ?_) | (refine VG.nil ?_) | (refine VG.cons ?_) | (refine VH.nil ?_) | (refine VH.cons ?_) | (refine VP.done ?_) | (refine VP.one ?_) | (refine VP.two ?_) | (refine VE.cons ?_) | (refine VE.nil ?_) | (refine VBool.t ?_) | (refine VBool.f ?_) | (refine VBool.dT (by omega) ?_) | (refine VBool.dF (by omega) ?_) | (refine VBool.nT (by omega) ?_) | (refine VBool.nF (by omega) ?_) | (refine VRead.lenS ?_) | (refine VRead.lenT ?_) | (refine VRead.fld ?_) | (refine VRead.load1 (by assumption) ?_) | (refine VRead.load (by assumption) ?_) | (refine VRead.neB ?_) | (refine VRead.eqPN ?_) | (refine VRead.nePN ?_) | (refine VRead.eqB ?_) | (refine VBool.nT rfl ?_) | (refine VBool.dT rfl ?_) | (refine VWrap.i64 (by omega) (by omega) ?_) | (refine VWrap.u64 (by omega) (by omega) ?_) | (refine VRead.at1 (by omega) ?_) | (refine VRead.eqNN ?_) | (refine VSem.convI ?_) | (refine VRead.convI ?_) | (refine VRead.rem (by omega) (by decide) ?_) | (refine VRead.neg ?_) | (refine VC.seq ?_)); (conv => whnf)) | (refine VBool.dF hp0' ?_; (conv => whnf)) | (refine VRead.loadB p11 rfl rfl ?_; (conv => whnf)) | (refine VRead.loadB p12 rfl rfl ?_; (conv => whnf)) | (refine VRead.minZ (z := min 1000 (hN h - acc.length)) (by split <;> omega) ?_; (conv => whnf))))
        refine VUnit.storeB fx.b4 rfl rfl rfl ?_
        intro V1 z4 y1
        have fx1 := fx.set4 z4 y1 (by omega) (by omega) (by omega) (by omega) (by omega) (by omega)
        ((conv => whnf); (repeat ((first | (refine VL.cons ?_) | (refine VL.nil ?_) | (refine VC.seqS rfl ?_) | (refine VC.region ?_) | (refine VC.draw ?_) | (refine VC.cond ?_) | (refine VC.block ?_) | (refine VC.exit ?_) | (refine VC.ret ?_) | (refine VC.skip ?_) | (refine VC.label ?_) | (refine VC.scope ?_) | (refine VQ.cons ?_) | (refine VQ.nil ?_) | (refine VG.nil ?_) | (refine VG.cons ?_) | (refine VH.nil ?_) | (refine VH.cons ?_)); (conv => whnf))))
        ((repeat ((first | (refine VL.cons ?_) | (refine VL.nil ?_) | (refine VC.seqS rfl ?_) | (refine VC.region ?_) | (refine VC.draw ?_) | (refine VC.cond ?_) | (refine VC.block ?_) | (refine VC.exit ?_) | (refine VC.ret ?_) | (refine VC.skip ?_) | (refine VC.label ?_) | (refine VC.scope ?_) | (refine VQ.cons ?_) | (refine VQ.nil ?_) | (refine VG.nil ?_) | (refine VG.cons ?_) | (refine VH.nil ?_) | (refine VH.cons ?_) | (refine VP.done ?_) | (refine VP.one ?_) | (refine VP.two ?_) | (refine VE.cons ?_) | (refine VE.nil ?_) | (refine VBool.t ?_) | (refine VBool.f ?_) | (refine VBool.dT (by omega) ?_) | (refine VBool.dF (by omega) ?_) | (refine VBool.nT (by omega) ?_) | (refine VBool.nF (by omega) ?_) | (refine VRead.lenS ?_) | (refine VRead.lenT ?_) | (refine VRead.fld ?_) | (refine VRead.load1 (by assumption) ?_) | (refine VRead.load (by assumption) ?_) | (refine VRead.neB ?_) | (refine VRead.eqPN ?_) | (refine VRead.nePN ?_) | (refine VRead.eqB ?_) | (refine VBool.nT rfl ?_) | (refine VBool.dT rfl ?_) | (refine VWrap.i64 (by omega) (by omega) ?_) | (refine VWrap.u64 (by omega) (by omega) ?_) | (refine VRead.at1 (by omega) ?_) | (refine VRead.eqNN ?_) | (refine VSem.convI ?_) | (refine VRead.convI ?_) | (refine VRead.rem (by omega) (by decide) ?_) | (refine VRead.neg ?_) | (refine VC.seq ?_)); (conv => whnf))))
        refine VUnit.storeB fx1.b5 rfl rfl rfl ?_
        intro V2 z5 y2
        have fx2 := fx1.set5 z5 y2 (by omega) (by omega) (by omega) (by omega) (by omega) (by omega)
        ((conv => whnf); (repeat ((first | (refine VL.cons ?_) | (refine VL.nil ?_) | (refine VC.seqS rfl ?_) | (refine VC.region ?_) | (refine VC.draw ?_) | (refine VC.cond ?_) | (refine VC.block ?_) | (refine VC.exit ?_) | (refine VC.ret ?_) | (refine VC.skip ?_) | (refine VC.label ?_) | (refine VC.scope ?_) | (refine VQ.cons ?_) | (refine VQ.nil ?_) | (refine VG.nil ?_) | (refine VG.cons ?_) | (refine VH.nil ?_) | (refine VH.cons ?_)); (conv => whnf))))
        ((repeat ((first | (refine VL.cons ?_) | (refine VL.nil ?_) | (refine VC.seqS rfl ?_) | (refine VC.region ?_) | (refine VC.draw ?_) | (refine VC.cond ?_) | (refine VC.block ?_) | (refine VC.exit ?_) | (refine VC.ret ?_) | (refine VC.skip ?_) | (refine VC.label ?_) | (refine VC.scope ?_) | (refine VQ.cons ?_) | (refine VQ.nil ?_) | (refine VG.nil ?_) | (refine VG.cons ?_) | (refine VH.nil ?_) | (refine VH.cons ?_) | (refine VP.done ?_) | (refine VP.one ?_) | (refine VP.two ?_) | (refine VE.cons ?_) | (refine VE.nil ?_) | (refine VBool.t ?_) | (refine VBool.f ?_) | (refine VBool.dT (by omega) ?_) | (refine VBool.dF (by omega) ?_) | (refine VBool.nT (by omega) ?_) | (refine VBool.nF (by omega) ?_) | (refine VRead.lenS ?_) | (refine VRead.lenT ?_) | (refine VRead.fld ?_) | (refine VRead.load1 (by assumption) ?_) | (refine VRead.load (by assumption) ?_) | (refine VRead.neB ?_) | (refine VRead.eqPN ?_) | (refine VRead.nePN ?_) | (refine VRead.eqB ?_) | (refine VBool.nT rfl ?_) | (refine VBool.dT rfl ?_) | (refine VWrap.i64 (by omega) (by omega) ?_) | (refine VWrap.u64 (by omega) (by omega) ?_) | (refine VRead.at1 (by omega) ?_) | (refine VRead.eqNN ?_) | (refine VSem.convI ?_) | (refine VRead.convI ?_) | (refine VRead.rem (by omega) (by decide) ?_) | (refine VRead.neg ?_) | (refine VC.seq ?_)); (conv => whnf))))
        refine VUnit.storeB fx2.b6 rfl rfl rfl ?_
        intro V3 z6 y3
        have fx3 := fx2.set6 z6 y3 (by omega) (by omega) (by omega) (by omega) (by omega) (by omega)
        ((conv => whnf); (repeat ((first | (refine VL.cons ?_) | (refine VL.nil ?_) | (refine VC.seqS rfl ?_) | (refine VC.region ?_) | (refine VC.draw ?_) | (refine VC.cond ?_) | (refine VC.block ?_) | (refine VC.exit ?_) | (refine VC.ret ?_) | (refine VC.skip ?_) | (refine VC.label ?_) | (refine VC.scope ?_) | (refine VQ.cons ?_) | (refine VQ.nil ?_) | (refine VG.nil ?_) | (refine VG.cons ?_) | (refine VH.nil ?_) | (refine VH.cons ?_)); (conv => whnf))))
        ((repeat ((first | (refine VL.cons ?_) | (refine VL.nil ?_) | (refine VC.seqS rfl ?_) | (refine VC.region ?_) | (refine VC.draw ?_) | (refine VC.cond ?_) | (refine VC.block ?_) | (refine VC.exit ?_) | (refine VC.ret ?_) | (refine VC.skip ?_) | (refine VC.label ?_) | (refine VC.scope ?_) | (refine VQ.cons ?_) | (refine VQ.nil ?_) | (refine VG.nil ?_) | (refine VG.cons ?_) | (refine VH.nil ?_) | (refine VH.cons ?_) | (refine VP.done ?_) | (refine VP.one ?_) | (refine VP.two ?_) | (refine VE.cons ?_) | (refine VE.nil ?_) | (refine VBool.t ?_) | (refine VBool.f ?_) | (refine VBool.dT (by omega) ?_) | (refine VBool.dF (by omega) ?_) | (refine VBool.nT (by omega) ?_) | (refine VBool.nF (by omega) ?_) | (refine VRead.lenS ?_) | (refine VRead.lenT ?_) | (refine VRead.fld ?_) | (refine VRead.load1 (by assumption) ?_) | (refine VRead.load (by assumption) ?_) | (refine VRead.neB ?_) | (refine VRead.eqPN ?_) | (refine VRead.nePN ?_) | (refine VRead.eqB ?_) | (refine VBool.nT rfl ?_) | (refine VBool.dT rfl ?_) | (refine VWrap.i64 (by omega) (by omega) ?_) | (refine VWrap.u64 (by omega) (by omega) ?_) | (refine VRead.at1 (by omega) ?_) | (refine VRead.eqNN ?_) | (refine VSem.convI ?_) | (refine VRead.convI ?_) | (refine VRead.rem (by omega) (by decide) ?_) | (refine VRead.neg ?_) | (refine VC.seq ?_)); (conv => whnf))))
        exact ⟨_, fx3.ll, .inr ⟨rfl, ⟨fx3.loop (by omega) (by omega) (by omega) (by omega) (by omega) (by omega), hno⟩⟩⟩
  · rintro e W ⟨rfl, k, hk, hh⟩
    rcases hh with ⟨hno, hJ⟩ | ⟨_, hX⟩
    · have hkk : k = bs.length := by rw [← hbs]; exact Frame.reach_eq hk hno
      refine ⟨_, rfl, r, hJ.fix.ll, by rw [hr1]; decide, ?_⟩
      rw [hr2]
      (conv => whnf)
      obtain ⟨W2, hW2⟩ : ∃ W2, W2 = W.putObj (D + 1) (.loop { r with state := .exhausted, pending := none }) := ⟨_, rfl⟩
      rw [← hW2]
      have fx : RdFix (.slice A n c) w D (.loop { r with state := .exhausted, pending := none }) idx g3 g4 g5 g6 gx W2 := by rw [hW2]; exact hJ.fix.loop (by omega) (by omega) (by omega) (by omega) (by omega) (by omega)
      have ac : RdAcc bs idx D g9 g10 g11 g12 k W2 := by rw [hW2]; exact hJ.acc.loop hJ.fix.ll (by omega) (by omega) (by omega) (by omega) _
      have hDl : D + 1 < W2.heap.size := (Array.getElem?_eq_some_iff.1 fx.ll).1
      clear hW2 hJ
      obtain ⟨T, N, x, A2, c2, p10, p11, p12, hOx, hval⟩ : ∃ (T N : Int) (x : List UInt8) (A2 : Option Addr) (c2 : Nat), Blk W2 g10 3 #[.int .i64 T] ∧ Blk W2 g11 3 #[.int .i64 N] ∧ Blk W2 g12 31 #[.slice A2 x.length c2] ∧ Own W2 D (.slice A2 x.length c2) x.length x ∧
          saysB idx bs = if 0 < N ∧ (x.length : Int) = N then some (T, x) else none := by
        rcases ac with ⟨h0, p9, p10, p11, p12⟩ | ⟨h, cs, hcs, hk1, hh, p9, p10, p11, Ad, cd, acc, p12, hOa, hga⟩
        · have : bs = [] := List.eq_nil_of_length_eq_zero (by omega)
          exact ⟨0, 0, [], none, 0, p10, p11, p12, Own.nil _ _, by rw [this]; rfl⟩
        · have : cs.take (k - 1) = cs := List.take_of_length_le (by rw [hcs, List.length_cons] at hkk; omega)
          rw [this] at hga
          refine ⟨_, _, acc, Ad, cd, p10, p11, p12, hOa, ?_⟩
          rw [hcs, saysB_cons, if_pos hh, hga]
          have := hh.n1
          simp only
          by_cases e : (acc.length : Int) = hN h
          · rw [if_pos e, if_pos ⟨by omega, e⟩]
          · rw [if_neg e, if_neg (fun h => e h.2)]
      have fin : ∀ (b : Bool) (W5 : World), (b = true → 0 < N ∧ (x.length : Int) = N) → (b = false → ¬ (0 < N ∧ (x.length : Int) = N)) → Own W5 D (.slice A2 x.length c2) x.length x → SaysV W5 w.heap.size (saysS l idx) T (.slice A2 x.length c2) b := fun b W5 h1 h2 h3 => by
        rw [eS, hval]
        cases b with
        | true => rw [if_pos (h1 rfl)]; exact ⟨rfl, rfl, A2, c2, rfl, rows_more h3 (by omega)⟩
        | false => rw [if_neg (h2 rfl)]; exact ⟨rfl, _, _, _, rfl⟩
      have hrow : ∀ g, (Value.slice A2 x.length c2).ownBlock = some g → D ≤ g ∧ g ≠ D ∧ g < W2.heap.size := fun g hg => by
        obtain ⟨h1, cs0, h2⟩ := row_cells hOx g hg
        refine ⟨h1, fun e => ?_, (World.ownsRow.lt hOx g hg).2⟩
        subst e; rw [fx.dd] at h2; cases h2
      refine VW.vc (by kernel_rfl) ?_
      ((conv => whnf); (repeat ((first | (refine VL.cons ?_) | (refine VL.nil ?_) | (refine VC.seqS rfl ?_) | (refine VC.region ?_) | (refine VC.draw ?_) | (refine VC.cond ?_) | (refine VC.block ?_) | (refine VC.exit ?_) | (refine VC.ret ?_) | (refine VC.skip ?_) | (refine VC.label ?_) | (refine VC.scope ?_) | (refine VQ.cons ?_) | (refine VQ.nil ?_) | (refine VG.nil ?_) | (refine VG.cons ?_) | (refine VH.nil ?_) | (refine VH.cons ?_)); (conv => whnf))))
      refine VC.seq ?_
      refine VC.draw ?_
      refine VDraw.seg (fun X => Blk X g10 3 #[.int .i64 T] ∧ Blk X g11 3 #[.int .i64 N] ∧ Blk X g12 31 #[.slice A2 x.length c2]) [([0, 1, 2, 3, 4, 5, 6, 7, 8, 9], 10), ([], 11), ([], 12)] [] (by kernel_rfl) (by kernel_rfl) ⟨p10, p11, p12⟩ ?_
      (conv => whnf)
      have tail : ∀ (b : Bool) (V1 V2 V3 : World), Blk V1 g4 3 #[.int .i64 T] → (W2.drewN 1).grownBy V1 (some g4) → Blk V2 g5 31 #[.slice A2 x.length c2] → V1.grownBy V2 (some g5) → Blk V3 g6 4 #[.bool b] → V2.grownBy V3 (some g6) →
          (b = true → 0 < N ∧ (x.length : Int) = N) → (b = false → ¬ (0 < N ∧ (x.length : Int) = N)) → V3.heap[D]? = some (.deferred (some [])) ∧ Blk (V3.putObj D (.deferred none)) g4 3 #[.int .i64 T] ∧ Blk (V3.putObj D (.deferred none)) g5 31 #[.slice A2 x.length c2] ∧
          Blk (V3.putObj D (.deferred none)) g6 4 #[.bool b] ∧ (∃ T v ok, Ending.returned (.tuple #[.int .i64 T, v, .bool ok]) = .returned (.tuple #[.int .i64 T, v, .bool ok]) ∧ SaysV (V3.putObj D (.deferred none)) w.heap.size (saysS l idx) T v ok) ∧
          SaysV (V3.putObj D (.deferred none)) w.heap.size (saysS l idx) T (.slice A2 x.length c2) b ∧ Below w.heap.size w (V3.putObj D (.deferred none)) := by
        intro b V1 V2 V3 z4 y1 z5 y2 z6 y3 hb1 hb2
        have dd0 : (W2.drewN 1).heap[D]? = some (.deferred (some [])) := fx.dd
        have dd3 := obj_only (obj_only (obj_only dd0 y1 (by omega)) y2 (by omega)) y3 (by omega)
        have hO0 : Own (W2.drewN 1) D (.slice A2 x.length c2) x.length x := rows_below hOx (below_drewN (Below.refl W2.heap.size W2) 1) (Nat.le_refl _)
        have hO3 : Own (V3.putObj D (.deferred none)) D (.slice A2 x.length c2) x.length x := ownsRow_stay hO0 (fun g hg => by
          have h := hrow g hg
          have e0 : (W2.drewN 1).heap.size = W2.heap.size := rfl
          have := y1.size
          have := y2.size
          rw [World.putObj_heap_other (by omega), y3.block g (by omega) (fun e => by injection e; omega), y2.block g (by omega) (fun e => by injection e; omega), y1.block g (by omega) (fun e => by injection e; omega)])
        have hS := fin b (V3.putObj D (.deferred none)) hb1 hb2 hO3
        refine ⟨dd3, ((z4.only y2 (by omega)).only y3 (by omega)).putObj (by omega) _, (z5.only y3 (by omega)).putObj (by omega) _, z6.putObj (by omega) _, ⟨_, _, _, rfl, hS⟩, hS, Below.putObj ?_ (by omega) _⟩
        have b0 : Below w.heap.size w (W2.drewN 1) := below_drewN fx.since 1
        exact only_new (only_new (only_new b0 y1 (by omega) b0.size) y2 (by omega) (by have := b0.size; have := y1.size; omega)) y3 (by omega) (by have := b0.size; have := y1.size; have := y2.size; omega)
      have k4 : Blk (W2.drewN 1) g4 3 #[.int .i64 0] := fx.b4
      have k5 : Blk (W2.drewN 1) g5 31 #[.slice none 0 0] := fx.b5
      have k6 : Blk (W2.drewN 1) g6 4 #[.bool false] := fx.b6
      have k10 : Blk (W2.drewN 1) g10 3 #[.int .i64 T] := p10
      have k11 : Blk (W2.drewN 1) g11 3 #[.int .i64 N] := p11
      have k12 : Blk (W2.drewN 1) g12 31 #[.slice A2 x.length c2] := p12
      by_cases hN0 : 0 < N
      · (repeat ((first | (refine VRead.loadBS (fun X hX => hX.1) rfl rfl ?_) | (refine VRead.loadBS (fun X hX => hX.2.1) rfl rfl ?_) | (refine VRead.loadBS (fun X hX => hX.2.2) rfl rfl ?_) | (refine VL.cons ?_) | (refine VL.nil ?_) | (refine VC.seqS rfl ?_) | (refine VC.region ?_) | (refine VC.draw ?_) | (refine VC.cond ?_) | (refine VC.block ?_) | (refine VC.exit ?_) | (refine VC.ret ?_) | (refine VC.skip ?_) | (refine VC.label ?_) | (refine VC.scope ?_) | (refine VQ.cons ?_) | (refine VQ.nil ?_) | (refine VG.nil ?_) | (refine VG.cons ?_) | (refine VH.nil ?_) | (refine VH.cons ?_) | (refine VP.done ?_) | (refine VP.one ?_) | (refine VP.two ?_) | (refine VE.cons ?_) | (refine VE.nil ?_) | (refine VBool.t ?_) | (refine VBool.f ?_) | (refine VBool.dT (by omega) ?_) | (refine VBool.dF (by omega) ?_) | (refine VBool.nT (by omega) ?_) | (refine VBool.nF (by omega) ?_) | (refine VRead.lenS ?_) | (refine VRead.lenT ?_) | (refine VRead.fld ?_) | (refine VRead.load1 (by assumption) ?_) | (refine VRead.load (by assumption) ?_) | (refine VRead.neB ?_) | (refine VRead.eqPN ?_) | (refine VRead.nePN ?_) | (refine VRead.eqB ?_) | (refine VBool.nT rfl ?_) | (refine VBool.dT rfl ?_) | (refine VWrap.i64 (by omega) (by omega) ?_) | (refine VWrap.u64 (by omega) (by omega) ?_) | (refine VRead.at1 (by omega) ?_) | (refine VRead.eqNN ?_) | (refine VSem.convI ?_) | (refine VRead.convI ?_) | (refine VRead.rem (by omega) (by decide) ?_) | (refine VRead.neg ?_) | (refine VC.seq ?_)); (conv => whnf)))
        refine VUnit.storeB k4 rfl rfl rfl ?_
        intro V1 z4 y1
        (conv => whnf)
        refine Keep.mk ⟨k10.only y1 (by omega), k11.only y1 (by omega), k12.only y1 (by omega)⟩ ?_
        (conv => whnf)
        ((repeat ((first | (refine VL.cons ?_) | (refine VL.nil ?_) | (refine VC.seqS rfl ?_) | (refine VC.region ?_) | (refine VC.draw ?_) | (refine VC.cond ?_) | (refine VC.block ?_) | (refine VC.exit ?_) | (refine VC.ret ?_) | (refine VC.skip ?_) | (refine VC.label ?_) | (refine VC.scope ?_) | (refine VQ.cons ?_) | (refine VQ.nil ?_) | (refine VG.nil ?_) | (refine VG.cons ?_) | (refine VH.nil ?_) | (refine VH.cons ?_) | (refine VP.done ?_) | (refine VP.one ?_) | (refine VP.two ?_) | (refine VE.cons ?_) | (refine VE.nil ?_) | (refine VBool.t ?_) | (refine VBool.f ?_) | (refine VBool.dT (by omega) ?_) | (refine VBool.dF (by omega) ?_) | (refine VBool.nT (by omega) ?_) | (refine VBool.nF (by omega) ?_) | (refine VRead.lenS ?_) | (refine VRead.lenT ?_) | (refine VRead.fld ?_) | (refine VRead.load1 (by assumption) ?_) | (refine VRead.load (by assumption) ?_) | (refine VRead.neB ?_) | (refine VRead.eqPN ?_) | (refine VRead.nePN ?_) | (refine VRead.eqB ?_) | (refine VBool.nT rfl ?_) | (refine VBool.dT rfl ?_) | (refine VWrap.i64 (by omega) (by omega) ?_) | (refine VWrap.u64 (by omega) (by omega) ?_) | (refine VRead.at1 (by omega) ?_) | (refine VRead.eqNN ?_) | (refine VSem.convI ?_) | (refine VRead.convI ?_) | (refine VRead.rem (by omega) (by decide) ?_) | (refine VRead.neg ?_) | (refine VC.seq ?_)); (conv => whnf))))
        refine VUnit.storeB (k5.only y1 (by omega)) rfl rfl rfl ?_
        intro V2 z5 y2
        (conv => whnf)
        refine Keep.mk ⟨(k10.only y1 (by omega)).only y2 (by omega), (k11.only y1 (by omega)).only y2 (by omega), (k12.only y1 (by omega)).only y2 (by omega)⟩ ?_
        (conv => whnf)
        ((repeat ((first | (refine VL.cons ?_) | (refine VL.nil ?_) | (refine VC.seqS rfl ?_) | (refine VC.region ?_) | (refine VC.draw ?_) | (refine VC.cond ?_) | (refine VC.block ?_) | (refine VC.exit ?_) | (refine VC.ret ?_) | (refine VC.skip ?_) | (refine VC.label ?_) | (refine VC.scope ?_) | (refine VQ.cons ?_) | (refine VQ.nil ?_) | (refine VG.nil ?_) | (refine VG.cons ?_) | (refine VH.nil ?_) | (refine VH.cons ?_) | (refine VP.done ?_) | (refine VP.one ?_) | (refine VP.two ?_) | (refine VE.cons ?_) | (refine VE.nil ?_) | (refine VBool.t ?_) | (refine VBool.f ?_) | (refine VBool.dT (by omega) ?_) | (refine VBool.dF (by omega) ?_) | (refine VBool.nT (by omega) ?_) | (refine VBool.nF (by omega) ?_) | (refine VRead.lenS ?_) | (refine VRead.lenT ?_) | (refine VRead.fld ?_) | (refine VRead.load1 (by assumption) ?_) | (refine VRead.load (by assumption) ?_) | (refine VRead.neB ?_) | (refine VRead.eqPN ?_) | (refine VRead.nePN ?_) | (refine VRead.eqB ?_) | (refine VBool.nT rfl ?_) | (refine VBool.dT rfl ?_) | (refine VWrap.i64 (by omega) (by omega) ?_) | (refine VWrap.u64 (by omega) (by omega) ?_) | (refine VRead.at1 (by omega) ?_) | (refine VRead.eqNN ?_) | (refine VSem.convI ?_) | (refine VRead.convI ?_) | (refine VRead.rem (by omega) (by decide) ?_) | (refine VRead.neg ?_) | (refine VC.seq ?_)); (conv => whnf))))
        refine VUnit.storeB ((k6.only y1 (by omega)).only y2 (by omega)) rfl rfl rfl ?_
        intro V3 z6 y3
        (conv => whnf)
        refine Keep.mk ⟨((k10.only y1 (by omega)).only y2 (by omega)).only y3 (by omega), ((k11.only y1 (by omega)).only y2 (by omega)).only y3 (by omega), ((k12.only y1 (by omega)).only y2 (by omega)).only y3 (by omega)⟩ ?_
        (conv => whnf)
        ((repeat ((first | (refine VL.cons ?_) | (refine VL.nil ?_) | (refine VC.seqS rfl ?_) | (refine VC.region ?_) | (refine VC.draw ?_) | (refine VC.cond ?_) | (refine VC.block ?_) | (refine VC.exit ?_) | (refine VC.ret ?_) | (refine VC.skip ?_) | (refine VC.label ?_) | (refine VC.scope ?_) | (refine VQ.cons ?_) | (refine VQ.nil ?_) | (refine VG.nil ?_) | (refine VG.cons ?_) | (refine VH.nil ?_) | (refine VH.cons ?_) | (refine VP.done ?_) | (refine VP.one ?_) | (refine VP.two ?_) | (refine VE.cons ?_) | (refine VE.nil ?_) | (refine VBool.t ?_) | (refine VBool.f ?_) | (refine VBool.dT (by omega) ?_) | (refine VBool.dF (by omega) ?_) | (refine VBool.nT (by omega) ?_) | (refine VBool.nF (by omega) ?_) | (refine VRead.lenS ?_) | (refine VRead.lenT ?_) | (refine VRead.fld ?_) | (refine VRead.load1 (by assumption) ?_) | (refine VRead.load (by assumption) ?_) | (refine VRead.neB ?_) | (refine VRead.eqPN ?_) | (refine VRead.nePN ?_) | (refine VRead.eqB ?_) | (refine VBool.nT rfl ?_) | (refine VBool.dT rfl ?_) | (refine VWrap.i64 (by omega) (by omega) ?_) | (refine VWrap.u64 (by omega) (by omega) ?_) | (refine VRead.at1 (by omega) ?_) | (refine VRead.eqNN ?_) | (refine VSem.convI ?_) | (refine VRead.convI ?_) | (refine VRead.rem (by omega) (by decide) ?_) | (refine VRead.neg ?_) | (refine VC.seq ?_)); (conv => whnf))))
        have tt := tail (decide ((x.length : Int) = N)) V1 V2 V3 z4 y1 z5 y2 z6 y3 (fun h => ⟨hN0, of_decide_eq_true h⟩) (fun h hh => of_decide_eq_false h hh.2)
        refine ⟨tt.1, ?_⟩
        refine VRes.cell3 rfl rfl rfl tt.2.1 tt.2.2.1 tt.2.2.2.1 ?_
        exact ⟨⟨_, _, _, rfl, tt.2.2.2.2.2.1⟩, tt.2.2.2.2.2.2⟩
      · (repeat ((first | (refine VRead.loadBS (fun X hX => hX.1) rfl rfl ?_) | (refine VRead.loadBS (fun X hX => hX.2.1) rfl rfl ?_) | (refine VRead.loadBS (fun X hX => hX.2.2) rfl rfl ?_) | (refine VL.cons ?_) | (refine VL.nil ?_) | (refine VC.seqS rfl ?_) | (refine VC.region ?_) | (refine VC.draw ?_) | (refine VC.cond ?_) | (refine VC.block ?_) | (refine VC.exit ?_) | (refine VC.ret ?_) | (refine VC.skip ?_) | (refine VC.label ?_) | (refine VC.scope ?_) | (refine VQ.cons ?_) | (refine VQ.nil ?_) | (refine VG.nil ?_) | (refine VG.cons ?_) | (refine VH.nil ?_) | (refine VH.cons ?_) | (refine VP.done ?_) | (refine VP.one ?_) | (refine VP.two ?_) | (refine VE.cons ?_) | (refine VE.nil ?_) | (refine VBool.t ?_) | (refine VBool.f ?_) | (refine VBool.dT (by omega) ?_) | (refine VBool.dF (by omega) ?_) | (refine VBool.nT (by omega) ?_) | (refine VBool.nF (by omega) ?_) | (refine VRead.lenS ?_) | (refine VRead.lenT ?_) | (refine VRead.fld ?_) | (refine VRead.load1 (by assumption) ?_) | (refine VRead.load (by assumption) ?_) | (refine VRead.neB ?_) | (refine VRead.eqPN ?_) | (refine VRead.nePN ?_) | (refine VRead.eqB ?_) | (refine VBool.nT rfl ?_) | (refine VBool.dT rfl ?_) | (refine VWrap.i64 (by omega) (by omega) ?_) | (refine VWrap.u64 (by omega) (by omega) ?_) | (refine VRead.at1 (by omega) ?_) | (refine VRead.eqNN ?_) | (refine VSem.convI ?_) | (refine VRead.convI ?_) | (refine VRead.rem (by omega) (by decide) ?_) | (refine VRead.neg ?_) | (refine VC.seq ?_)); (conv => whnf)))
        refine VUnit.storeB k4 rfl rfl rfl ?_
        intro V1 z4 y1
        (conv => whnf)
        refine Keep.mk ⟨k10.only y1 (by omega), k11.only y1 (by omega), k12.only y1 (by omega)⟩ ?_
        (conv => whnf)
        ((repeat ((first | (refine VL.cons ?_) | (refine VL.nil ?_) | (refine VC.seqS rfl ?_) | (refine VC.region ?_) | (refine VC.draw ?_) | (refine VC.cond ?_) | (refine VC.block ?_) | (refine VC.exit ?_) | (refine VC.ret ?_) | (refine VC.skip ?_) | (refine VC.label ?_) | (refine VC.scope ?_) | (refine VQ.cons ?_) | (refine VQ.nil ?_) | (refine VG.nil ?_) | (refine VG.cons ?_) | (refine VH.nil ?_) | (refine VH.cons ?_) | (refine VP.done ?_) | (refine VP.one ?_) | (refine VP.two ?_) | (refine VE.cons ?_) | (refine VE.nil ?_) | (refine VBool.t ?_) | (refine VBool.f ?_) | (refine VBool.dT (by omega) ?_) | (refine VBool.dF (by omega) ?_) | (refine VBool.nT (by omega) ?_) | (refine VBool.nF (by omega) ?_) | (refine VRead.lenS ?_) | (refine VRead.lenT ?_) | (refine VRead.fld ?_) | (refine VRead.load1 (by assumption) ?_) | (refine VRead.load (by assumption) ?_) | (refine VRead.neB ?_) | (refine VRead.eqPN ?_) | (refine VRead.nePN ?_) | (refine VRead.eqB ?_) | (refine VBool.nT rfl ?_) | (refine VBool.dT rfl ?_) | (refine VWrap.i64 (by omega) (by omega) ?_) | (refine VWrap.u64 (by omega) (by omega) ?_) | (refine VRead.at1 (by omega) ?_) | (refine VRead.eqNN ?_) | (refine VSem.convI ?_) | (refine VRead.convI ?_) | (refine VRead.rem (by omega) (by decide) ?_) | (refine VRead.neg ?_) | (refine VC.seq ?_)); (conv => whnf))))
        refine VUnit.storeB (k5.only y1 (by omega)) rfl rfl rfl ?_
        intro V2 z5 y2
        (conv => whnf)
        refine Keep.mk ⟨(k10.only y1 (by omega)).only y2 (by omega), (k11.only y1 (by omega)).only y2 (by omega), (k12.only y1 (by omega)).only y2 (by omega)⟩ ?_
        (conv => whnf)
        ((repeat ((first | (refine VL.cons ?_) | (refine VL.nil ?_) | (refine VC.seqS rfl ?_) | (refine VC.region ?_) | (refine VC.draw ?_) | (refine VC.cond ?_) | (refine VC.block ?_) | (refine VC.exit ?_) | (refine VC.ret ?_) | (refine VC.skip ?_) | (refine VC.label ?_) | (refine VC.scope ?_) | (refine VQ.cons ?_) | (refine VQ.nil ?_) | (refine VG.nil ?_) | (refine VG.cons ?_) | (refine VH.nil ?_) | (refine VH.cons ?_) | (refine VP.done ?_) | (refine VP.one ?_) | (refine VP.two ?_) | (refine VE.cons ?_) | (refine VE.nil ?_) | (refine VBool.t ?_) | (refine VBool.f ?_) | (refine VBool.dT (by omega) ?_) | (refine VBool.dF (by omega) ?_) | (refine VBool.nT (by omega) ?_) | (refine VBool.nF (by omega) ?_) | (refine VRead.lenS ?_) | (refine VRead.lenT ?_) | (refine VRead.fld ?_) | (refine VRead.load1 (by assumption) ?_) | (refine VRead.load (by assumption) ?_) | (refine VRead.neB ?_) | (refine VRead.eqPN ?_) | (refine VRead.nePN ?_) | (refine VRead.eqB ?_) | (refine VBool.nT rfl ?_) | (refine VBool.dT rfl ?_) | (refine VWrap.i64 (by omega) (by omega) ?_) | (refine VWrap.u64 (by omega) (by omega) ?_) | (refine VRead.at1 (by omega) ?_) | (refine VRead.eqNN ?_) | (refine VSem.convI ?_) | (refine VRead.convI ?_) | (refine VRead.rem (by omega) (by decide) ?_) | (refine VRead.neg ?_) | (refine VC.seq ?_)); (conv => whnf))))
        refine VUnit.storeB ((k6.only y1 (by omega)).only y2 (by omega)) rfl rfl rfl ?_
        intro V3 z6 y3
        (conv => whnf)
        refine Keep.mk ⟨((k10.only y1 (by omega)).only y2 (by omega)).only y3 (by omega), ((k11.only y1 (by omega)).only y2 (by omega)).only y3 (by omega), ((k12.only y1 (by omega)).only y2 (by omega)).only y3 (by omega)⟩ ?_
        (conv => whnf)
        ((repeat ((first | (refine VL.cons ?_) | (refine VL.nil ?_) | (refine VC.seqS rfl ?_) | (refine VC.region ?_) | (refine VC.draw ?_) | (refine VC.cond ?_) | (refine VC.block ?_) | (refine VC.exit ?_) | (refine VC.ret ?_) | (refine VC.skip ?_) | (refine VC.label ?_) | (refine VC.scope ?_) | (refine VQ.cons ?_) | (refine VQ.nil ?_) | (refine VG.nil ?_) | (refine VG.cons ?_) | (refine VH.nil ?_) | (refine VH.cons ?_) | (refine VP.done ?_) | (refine VP.one ?_) | (refine VP.two ?_) | (refine VE.cons ?_) | (refine VE.nil ?_) | (refine VBool.t ?_) | (refine VBool.f ?_) | (refine VBool.dT (by omega) ?_) | (refine VBool.dF (by omega) ?_) | (refine VBool.nT (by omega) ?_) | (refine VBool.nF (by omega) ?_) | (refine VRead.lenS ?_) | (refine VRead.lenT ?_) | (refine VRead.fld ?_) | (refine VRead.load1 (by assumption) ?_) | (refine VRead.load (by assumption) ?_) | (refine VRead.neB ?_) | (refine VRead.eqPN ?_) | (refine VRead.nePN ?_) | (refine VRead.eqB ?_) | (refine VBool.nT rfl ?_) | (refine VBool.dT rfl ?_) | (refine VWrap.i64 (by omega) (by omega) ?_) | (refine VWrap.u64 (by omega) (by omega) ?_) | (refine VRead.at1 (by omega) ?_) | (refine VRead.eqNN ?_) | (refine VSem.convI ?_) | (refine VRead.convI ?_) | (refine VRead.rem (by omega) (by decide) ?_) | (refine VRead.neg ?_) | (refine VC.seq ?_)); (conv => whnf))))
        have tt := tail false V1 V2 V3 z4 y1 z5 y2 z6 y3 (fun h => by cases h) (fun _ hh => hN0 hh.1)
        refine ⟨tt.1, ?_⟩
        refine VRes.cell3 rfl rfl rfl tt.2.1 tt.2.2.1 tt.2.2.2.1 ?_
        exact ⟨⟨_, _, _, rfl, tt.2.2.2.2.2.1⟩, tt.2.2.2.2.2.2⟩
    · refine ⟨_, rfl, _, hX.fix.ll, by simp, ?_⟩
      (conv => whnf)
      have fx := hX.fix.loop (o' := .loop { r with state := .exhausted, pending := some .ret }) (by omega) (by omega) (by omega) (by omega) (by omega) (by omega)
      refine ⟨fx.dd, ?_⟩
      have z4 := fx.b4.putObj (r := D) (by omega) (.deferred none)
      have z5 := fx.b5.putObj (r := D) (by omega) (.deferred none)
      have z6 := fx.b6.putObj (r := D) (by omega) (.deferred none)
      refine VRes.cell3 rfl rfl rfl z4 z5 z6 ?_
      refine ⟨⟨_, _, _, rfl, ?_⟩, Below.putObj fx.since (by omega) _⟩
      rw [eS, hX.no]
      exact ⟨rfl, none, 0, 0, rfl⟩
end Go.Proofs.Ytebeidnmplnlpaa
end

section
set_option maxRecDepth 10000
namespace Go.Proofs.Ytebeidnmplnlpaa
set_option linter.unusedVariables false
open Go.RowKit

theorem VRes.tmp4 {P : Program} {a b c d : Nat} {σ : Env} {w : World} {R : Ending → World → Prop} (h : R (.returned (.tuple #[σ a, σ b, σ c, σ d])) w) : VRes P [.tmp a, .tmp b, .tmp c, .tmp d] σ w R := ⟨⟨_, by simp [resE], h⟩⟩
abbrev Sn := Nat × Int × List UInt8
def newStep (acc : Option Sn) (p : List UInt8 × Fl) : Option Sn := match snNum p.1 with
  | some n => match saysS p.2.b n with
    | some y => some (n, y.1, y.2)
    | none => acc
  | none => acc
def newest (T : PT) : Option Sn := T.foldl newStep none
def SnV (W : World) (B : Nat) (o : Option Sn) (i t : Int) (v : Value) : Prop := match o with
  | some y => i = (y.1 : Int) ∧ 1 ≤ y.1 ∧ y.1 ≤ 1099511627776 ∧ t = y.2.1 ∧ ∃ A c, v = .slice A y.2.2.length c ∧ Own W B (.slice A y.2.2.length c) y.2.2.length y.2.2
  | none => i = 0 ∧ t = 0 ∧ v = .slice none 0 0
theorem SnV.below {W W' : World} {B : Nat} {o : Option Sn} {i t : Int} {v : Value} (h : SnV W B o i t v) (hb : Below W.heap.size W W') : SnV W' B o i t v := by
  unfold SnV at *
  cases o with
  | none => exact h
  | some y =>
    obtain ⟨h1, h2, h3, h4, A, c, h5, h6⟩ := h
    exact ⟨h1, h2, h3, h4, A, c, h5, rows_below h6 hb (Nat.le_refl _)⟩
def snErr (o : Option Sn) : Int := match o with | some _ => 0 | none => 3
set_option maxHeartbeats 2000000 in
theorem snapNewest_any (W : World) (U : Foot) (d : Nat) (S : DS) (h : Dsk W U d S) :
    Calls Try.prog 22 #[.pointer (some ⟨d, 0, none⟩)] W fun e W' => (∃ i t v, e = .returned (.tuple #[.int .i64 i, .int .i64 t, v, .int .i64 (snErr (newest S.t))]) ∧ SnV W' W.heap.size (newest S.t) i t v) ∧ Below W.heap.size W W' := by
  have hfew := h.wf.t.few
  have hris := h.wf.t.ris
  have hroom := h.wf.k.room
  have hfit := h.wf.t.fit
  refine calls_vc Try.func22 rfl (by kernel_rfl) ?_
  ((conv => whnf); (repeat ((first | (refine VL.cons ?_) | (refine VL.nil ?_) | (refine VC.seqS rfl ?_) | (refine VC.region ?_) | (refine VC.draw ?_) | (refine VC.cond ?_) | (refine VC.block ?_) | (refine VC.exit ?_) | (refine VC.ret ?_) | (refine VC.skip ?_) | (refine VC.label ?_) | (refine VC.scope ?_) | (refine VQ.cons ?_) | (refine VQ.nil ?_) | (refine VG.nil ?_) | (refine VG.cons ?_) | (refine VH.nil ?_) | (refine VH.cons ?_)); (conv => whnf))))
  ((repeat ((first | (refine VL.cons ?_) | (refine VL.nil ?_) | (refine VC.seqS rfl ?_) | (refine VC.region ?_) | (refine VC.draw ?_) | (refine VC.cond ?_) | (refine VC.block ?_) | (refine VC.exit ?_) | (refine VC.ret ?_) | (refine VC.skip ?_) | (refine VC.label ?_) | (refine VC.scope ?_) | (refine VQ.cons ?_) | (refine VQ.nil ?_) | (refine VG.nil ?_) | (refine VG.cons ?_) | (refine VH.nil ?_) | (refine VH.cons ?_) | (refine VP.done ?_) | (refine VP.one ?_) | (refine VP.two ?_) | (refine VE.cons ?_) | (refine VE.nil ?_) | (refine VBool.t ?_) | (refine VBool.f ?_) | (refine VBool.dT (by omega) ?_) | (refine VBool.dF (by omega) ?_) | (refine VBool.nT (by omega) ?_) | (refine VBool.nF (by omega) ?_) | (refine VRead.lenS ?_) | (refine VRead.lenT ?_) | (refine VRead.fld ?_) | (refine VRead.load1 (by assumption) ?_) | (refine VRead.load (by assumption) ?_) | (refine VRead.neB ?_) | (refine VRead.eqPN ?_) | (refine VRead.nePN ?_) | (refine VRead.eqB ?_) | (refine VBool.nT rfl ?_) | (refine VBool.dT rfl ?_) | (refine VWrap.i64 (by omega) (by omega) ?_) | (refine VWrap.u64 (by omega) (by omega) ?_) | (refine VRead.at1 (by omega) ?_) | (refine VRead.eqNN ?_) | (refine VSem.convI ?_) | (refine VRead.convI ?_) | (refine VRead.rem (by omega) (by decide) ?_) | (refine VRead.neg ?_) | (refine VC.seq ?_)); (conv => whnf))))
  refine VCall.of (oList W U d S h) ?_
  rintro e W1 ⟨Al, kl, rfl, hOl, hB1⟩
  refine ⟨_, rfl, ?_⟩
  ((conv => whnf); (repeat ((first | (refine VL.cons ?_) | (refine VL.nil ?_) | (refine VC.seqS rfl ?_) | (refine VC.region ?_) | (refine VC.draw ?_) | (refine VC.cond ?_) | (refine VC.block ?_) | (refine VC.exit ?_) | (refine VC.ret ?_) | (refine VC.skip ?_) | (refine VC.label ?_) | (refine VC.scope ?_) | (refine VQ.cons ?_) | (refine VQ.nil ?_) | (refine VG.nil ?_) | (refine VG.cons ?_) | (refine VH.nil ?_) | (refine VH.cons ?_)); (conv => whnf))))
  ((repeat ((first | (refine VL.cons ?_) | (refine VL.nil ?_) | (refine VC.seqS rfl ?_) | (refine VC.region ?_) | (refine VC.draw ?_) | (refine VC.cond ?_) | (refine VC.block ?_) | (refine VC.exit ?_) | (refine VC.ret ?_) | (refine VC.skip ?_) | (refine VC.label ?_) | (refine VC.scope ?_) | (refine VQ.cons ?_) | (refine VQ.nil ?_) | (refine VG.nil ?_) | (refine VG.cons ?_) | (refine VH.nil ?_) | (refine VH.cons ?_) | (refine VP.done ?_) | (refine VP.one ?_) | (refine VP.two ?_) | (refine VE.cons ?_) | (refine VE.nil ?_) | (refine VBool.t ?_) | (refine VBool.f ?_) | (refine VBool.dT (by omega) ?_) | (refine VBool.dF (by omega) ?_) | (refine VBool.nT (by omega) ?_) | (refine VBool.nF (by omega) ?_) | (refine VRead.lenS ?_) | (refine VRead.lenT ?_) | (refine VRead.fld ?_) | (refine VRead.load1 (by assumption) ?_) | (refine VRead.load (by assumption) ?_) | (refine VRead.neB ?_) | (refine VRead.eqPN ?_) | (refine VRead.nePN ?_) | (refine VRead.eqB ?_) | (refine VBool.nT rfl ?_) | (refine VBool.dT rfl ?_) | (refine VWrap.i64 (by omega) (by omega) ?_) | (refine VWrap.u64 (by omega) (by omega) ?_) | (refine VRead.at1 (by omega) ?_) | (refine VRead.eqNN ?_) | (refine VSem.convI ?_) | (refine VRead.convI ?_) | (refine VRead.rem (by omega) (by decide) ?_) | (refine VRead.neg ?_) | (refine VC.seq ?_)); (conv => whnf))))
  refine VC.loop [6, 7, 8, 20] [(6, 8), (10, 16), (20, 49)] (fun q vs w => ∃ (j : Nat) (i t : Int) (v : Value), vs = [.int .i64 i, .int .i64 t, v, .int .i64 (j : Int)] ∧ q = S.t.length - j ∧ j ≤ S.t.length ∧ SnV w W.heap.size ((S.t.take j).foldl newStep none) i t v ∧ Below W1.heap.size W1 w) (by kernel_rfl)
    ⟨_, 0, 0, 0, .slice none 0 0, rfl, rfl, by omega, ⟨rfl, rfl, rfl⟩, Below.refl _ _⟩ ?_
  rintro q τ vs w ⟨j, i, t, v, rfl, rfl, hj, hV, hBw⟩
  have hB0w := hB1.trans (hBw.mono hB1.size)
  by_cases hjn : j < S.t.length
  case neg =>
    obtain rfl : j = S.t.length := by omega
    rw [List.take_length] at hV
    have hnw : S.t.foldl newStep none = newest S.t := rfl
    rw [hnw] at hV
    cases hs : newest S.t with
    | none =>
      rw [hs] at hV
      obtain ⟨rfl, rfl, rfl⟩ := hV
      ((conv => whnf); (repeat ((first | (refine VL.cons ?_) | (refine VL.nil ?_) | (refine VC.seqS rfl ?_) | (refine VC.region ?_) | (refine VC.draw ?_) | (refine VC.cond ?_) | (refine VC.block ?_) | (refine VC.exit ?_) | (refine VC.ret ?_) | (refine VC.skip ?_) | (refine VC.label ?_) | (refine VC.scope ?_) | (refine VQ.cons ?_) | (refine VQ.nil ?_) | (refine VG.nil ?_) | (refine VG.cons ?_) | (refine VH.nil ?_) | (refine VH.cons ?_)); (conv => whnf))))
      ((repeat ((first | (refine VL.cons ?_) | (refine VL.nil ?_) | (refine VC.seqS rfl ?_) | (refine VC.region ?_) | (refine VC.draw ?_) | (refine VC.cond ?_) | (refine VC.block ?_) | (refine VC.exit ?_) | (refine VC.ret ?_) | (refine VC.skip ?_) | (refine VC.label ?_) | (refine VC.scope ?_) | (refine VQ.cons ?_) | (refine VQ.nil ?_) | (refine VG.nil ?_) | (refine VG.cons ?_) | (refine VH.nil ?_) | (refine VH.cons ?_) | (refine VP.done ?_) | (refine VP.one ?_) | (refine VP.two ?_) | (refine VE.cons ?_) | (refine VE.nil ?_) | (refine VBool.t ?_) | (refine VBool.f ?_) | (refine VBool.dT (by omega) ?_) | (refine VBool.dF (by omega) ?_) | (refine VBool.nT (by omega) ?_) | (refine VBool.nF (by omega) ?_) | (refine VRead.lenS ?_) | (refine VRead.lenT ?_) | (refine VRead.fld ?_) | (refine VRead.load1 (by assumption) ?_) | (refine VRead.load (by assumption) ?_) | (refine VRead.neB ?_) | (refine VRead.eqPN ?_) | (refine VRead.nePN ?_) | (refine VRead.eqB ?_) | (refine VBool.nT rfl ?_) | (refine VBool.dT rfl ?_) | (refine VWrap.i64 (by omega) (by omega) ?_) | (refine VWrap.u64 (by omega) (by omega) ?_) | (refine VRead.at1 (by omega) ?_) | (refine VRead.eqNN ?_) | (refine VSem.convI ?_) | (refine VRead.convI ?_) | (refine VRead.rem (by omega) (by decide) ?_) | (refine VRead.neg ?_) | (refine VC.seq ?_)); (conv => whnf))))
      refine VRes.tmp4 ?_
      exact ⟨⟨0, 0, .slice none 0 0, rfl, ⟨rfl, rfl, rfl⟩⟩, hB0w⟩
    | some y =>
      rw [hs] at hV
      obtain ⟨rfl, h1, h2, rfl, A, c, rfl, hO⟩ := hV
      ((conv => whnf); (repeat ((first | (refine VL.cons ?_) | (refine VL.nil ?_) | (refine VC.seqS rfl ?_) | (refine VC.region ?_) | (refine VC.draw ?_) | (refine VC.cond ?_) | (refine VC.block ?_) | (refine VC.exit ?_) | (refine VC.ret ?_) | (refine VC.skip ?_) | (refine VC.label ?_) | (refine VC.scope ?_) | (refine VQ.cons ?_) | (refine VQ.nil ?_) | (refine VG.nil ?_) | (refine VG.cons ?_) | (refine VH.nil ?_) | (refine VH.cons ?_)); (conv => whnf))))
      ((repeat ((first | (refine VL.cons ?_) | (refine VL.nil ?_) | (refine VC.seqS rfl ?_) | (refine VC.region ?_) | (refine VC.draw ?_) | (refine VC.cond ?_) | (refine VC.block ?_) | (refine VC.exit ?_) | (refine VC.ret ?_) | (refine VC.skip ?_) | (refine VC.label ?_) | (refine VC.scope ?_) | (refine VQ.cons ?_) | (refine VQ.nil ?_) | (refine VG.nil ?_) | (refine VG.cons ?_) | (refine VH.nil ?_) | (refine VH.cons ?_) | (refine VP.done ?_) | (refine VP.one ?_) | (refine VP.two ?_) | (refine VE.cons ?_) | (refine VE.nil ?_) | (refine VBool.t ?_) | (refine VBool.f ?_) | (refine VBool.dT (by omega) ?_) | (refine VBool.dF (by omega) ?_) | (refine VBool.nT (by omega) ?_) | (refine VBool.nF (by omega) ?_) | (refine VRead.lenS ?_) | (refine VRead.lenT ?_) | (refine VRead.fld ?_) | (refine VRead.load1 (by assumption) ?_) | (refine VRead.load (by assumption) ?_) | (refine VRead.neB ?_) | (refine VRead.eqPN ?_) | (refine VRead.nePN ?_) | (refine VRead.eqB ?_) | (refine VBool.nT rfl ?_) | (refine VBool.dT rfl ?_) | (refine VWrap.i64 (by omega) (by omega) ?_) | (refine VWrap.u64 (by omega) (by omega) ?_) | (refine VRead.at1 (by omega) ?_) | (refine VRead.eqNN ?_) | (refine VSem.convI ?_) | (refine VRead.convI ?_) | (refine VRead.rem (by omega) (by decide) ?_) | (refine VRead.neg ?_) | (refine VC.seq ?_)); (conv => whnf))))
      refine VRes.tmp4 ?_
      exact ⟨⟨_, _, _, rfl, ⟨rfl, h1, h2, rfl, A, c, rfl, hO⟩⟩, hB0w⟩
  obtain ⟨p, hp⟩ : ∃ p, S.t[j]? = some p := ⟨_, List.getElem?_eq_getElem hjn⟩
  have hpm := List.mem_of_getElem? hp
  have hpn := (h.wf.t.names p hpm).2
  have htk : (S.t.take (j + 1)).foldl newStep none = newStep ((S.t.take j).foldl newStep none) p := by rw [take_snoc hp, List.foldl_append]; rfl
  have hpu := len_used hpm
  obtain ⟨ad, u, rfl, _, hu, hcell⟩ := ((Reads.row hOl).below hBw).at_ hjn
  obtain ⟨x', hx', rfl⟩ := map_at hu
  rw [List.getElem?_map, hp] at hx'
  obtain rfl := Option.some.inj hx'
  have hcell' : w.cell? (ad.add j) = some (.string (txt p.1)) := hcell
  generalize (S.t.take j).foldl newStep none = acc at *
  ((conv => whnf); (repeat ((first | (refine VL.cons ?_) | (refine VL.nil ?_) | (refine VC.seqS rfl ?_) | (refine VC.region ?_) | (refine VC.draw ?_) | (refine VC.cond ?_) | (refine VC.block ?_) | (refine VC.exit ?_) | (refine VC.ret ?_) | (refine VC.skip ?_) | (refine VC.label ?_) | (refine VC.scope ?_) | (refine VQ.cons ?_) | (refine VQ.nil ?_) | (refine VG.nil ?_) | (refine VG.cons ?_) | (refine VH.nil ?_) | (refine VH.cons ?_)); (conv => whnf))))
  (repeat (first | ((first | (refine VL.cons ?_) | (refine VL.nil ?_) | (refine VC.seqS rfl ?_) | (refine VC.region ?_) | (refine VC.draw ?_) | (refine VC.cond ?_) | (refine VC.block ?_) | (refine VC.exit ?_) | (refine VC.ret ?_) | (refine VC.skip ?_) | (refine VC.label ?_) | (refine VC.scope ?_) | (refine VQ.cons ?_) | (refine VQ.nil ?_) | (refine VG.nil ?_) | (refine VG.cons ?_) | (refine VH.nil ?_) | (refine VH.cons ?_) | (refine VP.done ?_) | (refine VP.one ?_) | (refine VP.two ?_) | (refine VE.cons ?_) | (refine VE.nil ?_) | (refine VBool.t ?_) | (refine VBool.f ?_) | (refine VBool.dT (by omega) ?_) | (refine VBool.dF (by omega) ?_) | (refine VBool.nT (by omega) ?_) | (refine VBool.nF (by omega) ?_) | (refine VRead.lenS ?_) | (refine VRead.lenT ?_) | (refine VRead.fld ?_) | (refine VRead.load1 (by assumption) ?_) | (refine VRead.load (by assumption) ?_) | (refine VRead.neB ?_) | (refine VRead.eqPN ?_) | (refine VRead.nePN ?_) | (refine VRead.eqB ?_) | (refine VBool.nT rfl ?_) | (refine VBool.dT rfl ?_) | (refine VWrap.i64 (by omega) (by omega) ?_) | (refine VWrap.u64 (by omega) (by omega) ?_) | (refine VRead.at1 (by omega) ?_) | (refine VRead.eqNN ?_) | (refine VSem.convI ?_) | (refine VRead.convI ?_) | (refine VRead.rem (by omega) (by decide) ?_) | (refine VRead.neg ?_) | (refine VC.seq ?_)); (conv => whnf)) | (refine VRead.at1 hjn ?_; (conv => whnf))))
  refine VCall.of (snapNumber_any p.1 w (by omega)) ?_
  rintro e w2 ⟨rfl, hB2⟩
  refine ⟨_, rfl, ?_⟩
  cases hN : snNum p.1 with
  | none =>
    have e1 : newStep acc p = acc := by unfold newStep; rw [hN]
    ((conv => whnf); (repeat ((first | (refine VL.cons ?_) | (refine VL.nil ?_) | (refine VC.seqS rfl ?_) | (refine VC.region ?_) | (refine VC.draw ?_) | (refine VC.cond ?_) | (refine VC.block ?_) | (refine VC.exit ?_) | (refine VC.ret ?_) | (refine VC.skip ?_) | (refine VC.label ?_) | (refine VC.scope ?_) | (refine VQ.cons ?_) | (refine VQ.nil ?_) | (refine VG.nil ?_) | (refine VG.cons ?_) | (refine VH.nil ?_) | (refine VH.cons ?_)); (conv => whnf))))
    ((repeat ((first | (refine VL.cons ?_) | (refine VL.nil ?_) | (refine VC.seqS rfl ?_) | (refine VC.region ?_) | (refine VC.draw ?_) | (refine VC.cond ?_) | (refine VC.block ?_) | (refine VC.exit ?_) | (refine VC.ret ?_) | (refine VC.skip ?_) | (refine VC.label ?_) | (refine VC.scope ?_) | (refine VQ.cons ?_) | (refine VQ.nil ?_) | (refine VG.nil ?_) | (refine VG.cons ?_) | (refine VH.nil ?_) | (refine VH.cons ?_) | (refine VP.done ?_) | (refine VP.one ?_) | (refine VP.two ?_) | (refine VE.cons ?_) | (refine VE.nil ?_) | (refine VBool.t ?_) | (refine VBool.f ?_) | (refine VBool.dT (by omega) ?_) | (refine VBool.dF (by omega) ?_) | (refine VBool.nT (by omega) ?_) | (refine VBool.nF (by omega) ?_) | (refine VRead.lenS ?_) | (refine VRead.lenT ?_) | (refine VRead.fld ?_) | (refine VRead.load1 (by assumption) ?_) | (refine VRead.load (by assumption) ?_) | (refine VRead.neB ?_) | (refine VRead.eqPN ?_) | (refine VRead.nePN ?_) | (refine VRead.eqB ?_) | (refine VBool.nT rfl ?_) | (refine VBool.dT rfl ?_) | (refine VWrap.i64 (by omega) (by omega) ?_) | (refine VWrap.u64 (by omega) (by omega) ?_) | (refine VRead.at1 (by omega) ?_) | (refine VRead.eqNN ?_) | (refine VSem.convI ?_) | (refine VRead.convI ?_) | (refine VRead.rem (by omega) (by decide) ?_) | (refine VRead.neg ?_) | (refine VC.seq ?_)); (conv => whnf))))
    exact ⟨_, by omega, j + 1, i, t, v, rfl, rfl, by omega, by rw [htk, e1]; exact hV.below hB2, hBw.trans (hB2.mono hBw.size)⟩
  | some k =>
    obtain ⟨_, hk1, hk2⟩ := snNum_some hN
    have hB02 := hB0w.trans (hB2.mono hB0w.size)
    have hd2 : Dsk w2 U d S := ⟨h.disk.below hB02 (Nat.le_refl _), fun j hj => Nat.lt_of_lt_of_le (h.lt j hj) hB02.size⟩
    ((conv => whnf); (repeat ((first | (refine VL.cons ?_) | (refine VL.nil ?_) | (refine VC.seqS rfl ?_) | (refine VC.region ?_) | (refine VC.draw ?_) | (refine VC.cond ?_) | (refine VC.block ?_) | (refine VC.exit ?_) | (refine VC.ret ?_) | (refine VC.skip ?_) | (refine VC.label ?_) | (refine VC.scope ?_) | (refine VQ.cons ?_) | (refine VQ.nil ?_) | (refine VG.nil ?_) | (refine VG.cons ?_) | (refine VH.nil ?_) | (refine VH.cons ?_)); (conv => whnf))))
    ((repeat ((first | (refine VL.cons ?_) | (refine VL.nil ?_) | (refine VC.seqS rfl ?_) | (refine VC.region ?_) | (refine VC.draw ?_) | (refine VC.cond ?_) | (refine VC.block ?_) | (refine VC.exit ?_) | (refine VC.ret ?_) | (refine VC.skip ?_) | (refine VC.label ?_) | (refine VC.scope ?_) | (refine VQ.cons ?_) | (refine VQ.nil ?_) | (refine VG.nil ?_) | (refine VG.cons ?_) | (refine VH.nil ?_) | (refine VH.cons ?_) | (refine VP.done ?_) | (refine VP.one ?_) | (refine VP.two ?_) | (refine VE.cons ?_) | (refine VE.nil ?_) | (refine VBool.t ?_) | (refine VBool.f ?_) | (refine VBool.dT (by omega) ?_) | (refine VBool.dF (by omega) ?_) | (refine VBool.nT (by omega) ?_) | (refine VBool.nF (by omega) ?_) | (refine VRead.lenS ?_) | (refine VRead.lenT ?_) | (refine VRead.fld ?_) | (refine VRead.load1 (by assumption) ?_) | (refine VRead.load (by assumption) ?_) | (refine VRead.neB ?_) | (refine VRead.eqPN ?_) | (refine VRead.nePN ?_) | (refine VRead.eqB ?_) | (refine VBool.nT rfl ?_) | (refine VBool.dT rfl ?_) | (refine VWrap.i64 (by omega) (by omega) ?_) | (refine VWrap.u64 (by omega) (by omega) ?_) | (refine VRead.at1 (by omega) ?_) | (refine VRead.eqNN ?_) | (refine VSem.convI ?_) | (refine VRead.convI ?_) | (refine VRead.rem (by omega) (by decide) ?_) | (refine VRead.neg ?_) | (refine VC.seq ?_)); (conv => whnf))))
    refine VCall.of (oRead w2 U d S p.1 hd2 (by omega)) ?_
    rintro e w3 ⟨u3, rfl, hrd, hB3⟩
    refine ⟨_, rfl, ?_⟩
    unfold readR at hrd
    rw [tfind_of hris.nd (show (p.1, p.2) ∈ S.t from hpm)] at hrd
    obtain ⟨A3, k3, rfl, hO3⟩ := hrd
    ((conv => whnf); (repeat ((first | (refine VL.cons ?_) | (refine VL.nil ?_) | (refine VC.seqS rfl ?_) | (refine VC.region ?_) | (refine VC.draw ?_) | (refine VC.cond ?_) | (refine VC.block ?_) | (refine VC.exit ?_) | (refine VC.ret ?_) | (refine VC.skip ?_) | (refine VC.label ?_) | (refine VC.scope ?_) | (refine VQ.cons ?_) | (refine VQ.nil ?_) | (refine VG.nil ?_) | (refine VG.cons ?_) | (refine VH.nil ?_) | (refine VH.cons ?_)); (conv => whnf))))
    ((repeat ((first | (refine VL.cons ?_) | (refine VL.nil ?_) | (refine VC.seqS rfl ?_) | (refine VC.region ?_) | (refine VC.draw ?_) | (refine VC.cond ?_) | (refine VC.block ?_) | (refine VC.exit ?_) | (refine VC.ret ?_) | (refine VC.skip ?_) | (refine VC.label ?_) | (refine VC.scope ?_) | (refine VQ.cons ?_) | (refine VQ.nil ?_) | (refine VG.nil ?_) | (refine VG.cons ?_) | (refine VH.nil ?_) | (refine VH.cons ?_) | (refine VP.done ?_) | (refine VP.one ?_) | (refine VP.two ?_) | (refine VE.cons ?_) | (refine VE.nil ?_) | (refine VBool.t ?_) | (refine VBool.f ?_) | (refine VBool.dT (by omega) ?_) | (refine VBool.dF (by omega) ?_) | (refine VBool.nT (by omega) ?_) | (refine VBool.nF (by omega) ?_) | (refine VRead.lenS ?_) | (refine VRead.lenT ?_) | (refine VRead.fld ?_) | (refine VRead.load1 (by assumption) ?_) | (refine VRead.load (by assumption) ?_) | (refine VRead.neB ?_) | (refine VRead.eqPN ?_) | (refine VRead.nePN ?_) | (refine VRead.eqB ?_) | (refine VBool.nT rfl ?_) | (refine VBool.dT rfl ?_) | (refine VWrap.i64 (by omega) (by omega) ?_) | (refine VWrap.u64 (by omega) (by omega) ?_) | (refine VRead.at1 (by omega) ?_) | (refine VRead.eqNN ?_) | (refine VSem.convI ?_) | (refine VRead.convI ?_) | (refine VRead.rem (by omega) (by decide) ?_) | (refine VRead.neg ?_) | (refine VC.seq ?_)); (conv => whnf))))
    refine VCall.of (snapRead_any A3 p.2.b.length k3 p.2.b (k : Int) w3 (by omega) hO3.cap hO3.reads) ?_
    rintro e w4 ⟨⟨T, v4, ok, rfl, hS4⟩, hB4⟩
    refine ⟨_, rfl, ?_⟩
    have hB24 : Below w.heap.size w w4 := (hB2.trans (hB3.mono hB2.size)).trans (hB4.mono (Nat.le_trans hB2.size hB3.size))
    cases hs : saysS p.2.b (k : Int) with
    | none =>
      rw [hs] at hS4
      obtain ⟨rfl, A, n, c, rfl⟩ := hS4
      have e1 : newStep acc p = acc := by unfold newStep; rw [hN]; simp only; rw [hs]
      ((conv => whnf); (repeat ((first | (refine VL.cons ?_) | (refine VL.nil ?_) | (refine VC.seqS rfl ?_) | (refine VC.region ?_) | (refine VC.draw ?_) | (refine VC.cond ?_) | (refine VC.block ?_) | (refine VC.exit ?_) | (refine VC.ret ?_) | (refine VC.skip ?_) | (refine VC.label ?_) | (refine VC.scope ?_) | (refine VQ.cons ?_) | (refine VQ.nil ?_) | (refine VG.nil ?_) | (refine VG.cons ?_) | (refine VH.nil ?_) | (refine VH.cons ?_)); (conv => whnf))))
      ((repeat ((first | (refine VL.cons ?_) | (refine VL.nil ?_) | (refine VC.seqS rfl ?_) | (refine VC.region ?_) | (refine VC.draw ?_) | (refine VC.cond ?_) | (refine VC.block ?_) | (refine VC.exit ?_) | (refine VC.ret ?_) | (refine VC.skip ?_) | (refine VC.label ?_) | (refine VC.scope ?_) | (refine VQ.cons ?_) | (refine VQ.nil ?_) | (refine VG.nil ?_) | (refine VG.cons ?_) | (refine VH.nil ?_) | (refine VH.cons ?_) | (refine VP.done ?_) | (refine VP.one ?_) | (refine VP.two ?_) | (refine VE.cons ?_) | (refine VE.nil ?_) | (refine VBool.t ?_) | (refine VBool.f ?_) | (refine VBool.dT (by omega) ?_) | (refine VBool.dF (by omega) ?_) | (refine VBool.nT (by omega) ?_) | (refine VBool.nF (by omega) ?_) | (refine VRead.lenS ?_) | (refine VRead.lenT ?_) | (refine VRead.fld ?_) | (refine VRead.load1 (by assumption) ?_) | (refine VRead.load (by assumption) ?_) | (refine VRead.neB ?_) | (refine VRead.eqPN ?_) | (refine VRead.nePN ?_) | (refine VRead.eqB ?_) | (refine VBool.nT rfl ?_) | (refine VBool.dT rfl ?_) | (refine VWrap.i64 (by omega) (by omega) ?_) | (refine VWrap.u64 (by omega) (by omega) ?_) | (refine VRead.at1 (by omega) ?_) | (refine VRead.eqNN ?_) | (refine VSem.convI ?_) | (refine VRead.convI ?_) | (refine VRead.rem (by omega) (by decide) ?_) | (refine VRead.neg ?_) | (refine VC.seq ?_)); (conv => whnf))))
      exact ⟨_, by omega, j + 1, i, t, v, rfl, rfl, by omega, by rw [htk, e1]; exact hV.below hB24, hBw.trans (hB24.mono hBw.size)⟩
    | some y =>
      rw [hs] at hS4
      obtain ⟨rfl, rfl, A, c, rfl, hO4⟩ := hS4
      have e1 : newStep acc p = some (k, y.1, y.2) := by unfold newStep; rw [hN]; simp only; rw [hs]
      ((conv => whnf); (repeat ((first | (refine VL.cons ?_) | (refine VL.nil ?_) | (refine VC.seqS rfl ?_) | (refine VC.region ?_) | (refine VC.draw ?_) | (refine VC.cond ?_) | (refine VC.block ?_) | (refine VC.exit ?_) | (refine VC.ret ?_) | (refine VC.skip ?_) | (refine VC.label ?_) | (refine VC.scope ?_) | (refine VQ.cons ?_) | (refine VQ.nil ?_) | (refine VG.nil ?_) | (refine VG.cons ?_) | (refine VH.nil ?_) | (refine VH.cons ?_)); (conv => whnf))))
      ((repeat ((first | (refine VL.cons ?_) | (refine VL.nil ?_) | (refine VC.seqS rfl ?_) | (refine VC.region ?_) | (refine VC.draw ?_) | (refine VC.cond ?_) | (refine VC.block ?_) | (refine VC.exit ?_) | (refine VC.ret ?_) | (refine VC.skip ?_) | (refine VC.label ?_) | (refine VC.scope ?_) | (refine VQ.cons ?_) | (refine VQ.nil ?_) | (refine VG.nil ?_) | (refine VG.cons ?_) | (refine VH.nil ?_) | (refine VH.cons ?_) | (refine VP.done ?_) | (refine VP.one ?_) | (refine VP.two ?_) | (refine VE.cons ?_) | (refine VE.nil ?_) | (refine VBool.t ?_) | (refine VBool.f ?_) | (refine VBool.dT (by omega) ?_) | (refine VBool.dF (by omega) ?_) | (refine VBool.nT (by omega) ?_) | (refine VBool.nF (by omega) ?_) | (refine VRead.lenS ?_) | (refine VRead.lenT ?_) | (refine VRead.fld ?_) | (refine VRead.load1 (by assumption) ?_) | (refine VRead.load (by assumption) ?_) | (refine VRead.neB ?_) | (refine VRead.eqPN ?_) | (refine VRead.nePN ?_) | (refine VRead.eqB ?_) | (refine VBool.nT rfl ?_) | (refine VBool.dT rfl ?_) | (refine VWrap.i64 (by omega) (by omega) ?_) | (refine VWrap.u64 (by omega) (by omega) ?_) | (refine VRead.at1 (by omega) ?_) | (refine VRead.eqNN ?_) | (refine VSem.convI ?_) | (refine VRead.convI ?_) | (refine VRead.rem (by omega) (by decide) ?_) | (refine VRead.neg ?_) | (refine VC.seq ?_)); (conv => whnf))))
      exact ⟨_, by omega, j + 1, (k : Int), y.1, _, rfl, rfl, by omega, by rw [htk, e1]; exact ⟨rfl, hk1, hk2, rfl, A, c, rfl, rows_more hO4 (by have := hB0w.size; have := hB2.size; have := hB3.size; omega)⟩, hBw.trans (hB24.mono hBw.size)⟩
end Go.Proofs.Ytebeidnmplnlpaa
end

section
set_option maxRecDepth 10000
namespace Go.Proofs.Ytebeidnmplnlpaa
set_option linter.unusedVariables false
open Go.RowKit

/-! ### what is in a file -/
def fileB (i t : Int) (data : List UInt8) : List UInt8 := Frame.laid (hdB i t data.length :: chunks data)
def fullF (b : List UInt8) : Fl := ⟨b, b.length⟩
theorem chunks_ind {P : List UInt8 → Prop} (h0 : P []) (h1 : ∀ l, l ≠ [] → P (l.drop 1000) → P l) : ∀ (n : Nat) (l : List UInt8), l.length ≤ n → P l
  | 0, l, h => by
    obtain rfl : l = [] := List.eq_nil_of_length_eq_zero (by omega)
    exact h0
  | n + 1, l, h => by
    by_cases hl : l = []
    · subst hl; exact h0
    · have : 0 < l.length := List.length_pos_iff.2 hl
      exact h1 l hl (chunks_ind h0 h1 n _ (by rw [List.length_drop]; omega))
theorem chunks_ok (l : List UInt8) : Frame.Ok1 (chunks l) :=
  chunks_ind (P := fun l => Frame.Ok1 (chunks l)) (fun b hb => by simp [chunks_nil] at hb) (fun l hl ih b hb => by
    have : 0 < l.length := List.length_pos_iff.2 hl
    rw [chunks_cons hl] at hb
    rcases List.mem_cons.1 hb with rfl | hb
    · rw [List.length_take]; omega
    · exact ih b hb) l.length l (Nat.le_refl _)
theorem chunks_flat (l : List UInt8) : (chunks l).flatten = l :=
  chunks_ind (P := fun l => (chunks l).flatten = l) rfl (fun l hl ih => by rw [chunks_cons hl, List.flatten_cons, ih, List.take_append_drop]) l.length l (Nat.le_refl _)
theorem intS_put' {v : Int} (h : -9223372036854775808 ≤ v ∧ v ≤ 9223372036854775807) (t : List UInt8) : Wire.intS (some (Wire.int v ++ t)) = (v, some t) := by
  unfold Wire.intS
  simp only
  rw [Wire.getInt_int h]
theorem hd_read {i t : Int} {n : Nat} (hi : -9223372036854775808 ≤ i ∧ i ≤ 9223372036854775807) (ht : -9223372036854775808 ≤ t ∧ t ≤ 9223372036854775807) (hn : n ≤ 9223372036854775807) :
    hA (hdB i t n) = i ∧ hT (hdB i t n) = t ∧ hN (hdB i t n) = (n : Int) ∧ hE (hdB i t n) = true := by
  have e0 : hdB i t n = Wire.int i ++ (Wire.int t ++ (Wire.int (n : Int) ++ [])) := by unfold hdB; simp
  have e1 : Wire.intS (some (hdB i t n)) = (i, some (Wire.int t ++ (Wire.int (n : Int) ++ []))) := by rw [e0]; exact intS_put' hi _
  have e2 : Wire.intS (some (Wire.int t ++ (Wire.int (n : Int) ++ []))) = (t, some (Wire.int (n : Int) ++ [])) := intS_put' ht _
  have e3 : Wire.intS (some (Wire.int (n : Int) ++ [])) = ((n : Int), some []) := intS_put' (by omega) _
  refine ⟨?_, ?_, ?_, ?_⟩
  · unfold hA; rw [e1]
  · unfold hT; rw [e1]; simp only; rw [e2]
  · unfold hN; rw [e1]; simp only; rw [e2]; simp only; rw [e3]
  · unfold hE; rw [e1]; simp only; rw [e2]; simp only; rw [e3]; rfl
theorem hd_len (i t : Int) (n : Nat) : 3 ≤ (hdB i t n).length ∧ (hdB i t n).length ≤ 30 := by
  have a1 := Wire.int_len i
  have a2 := Wire.int_len t
  have a3 := Wire.int_len (n : Int)
  unfold hdB
  simp only [List.length_append]
  omega
theorem gather_chunks (n : Int) : ∀ (k : Nat) (l acc : List UInt8), l.length ≤ k → (acc.length : Int) + l.length = n → gather n acc (chunks l) = some (acc ++ l)
  | 0, l, acc, h, hn => by
    obtain rfl : l = [] := List.eq_nil_of_length_eq_zero (by omega)
    simp [chunks_nil, gather]
  | k + 1, l, acc, h, hn => by
    by_cases hl : l = []
    · subst hl; simp [chunks_nil, gather]
    · have h0 : 0 < l.length := List.length_pos_iff.2 hl
      rw [chunks_cons hl]
      unfold gather
      rw [if_pos (by rw [List.length_take]; omega), gather_chunks n k (l.drop 1000) (acc ++ l.take 1000) (by rw [List.length_drop]; omega) (by rw [List.length_append, List.length_take, List.length_drop]; omega), List.append_assoc, List.take_append_drop]
structure SvOk (i t : Int) (data : List UInt8) : Prop where
  i1 : 1 ≤ i
  i2 : i ≤ 1099511627776
  t1 : 1 ≤ t
  t2 : t ≤ 1099511627776
  n1 : 1 ≤ data.length
  n2 : data.length ≤ 1048576
theorem SvOk.hd {i t : Int} {data : List UInt8} (h : SvOk i t data) : HdOk (hdB i t data.length) i := by
  obtain ⟨h1, h2, h3, h4, h5, h6⟩ := h
  obtain ⟨e1, e2, e3, e4⟩ := hd_read (i := i) (t := t) (n := data.length) (by omega) (by omega) (by omega)
  exact ⟨e4, e1, by rw [e2]; exact h3, by rw [e2]; exact h4, by rw [e3]; omega, by rw [e3]; omega⟩
theorem SvOk.bs {i t : Int} {data : List UInt8} (h : SvOk i t data) : Frame.Ok1 (hdB i t data.length :: chunks data) := fun b hb => by
  rcases List.mem_cons.1 hb with rfl | hb
  · have := hd_len i t data.length; omega
  · exact chunks_ok data b hb
theorem says_file {i t : Int} {data : List UInt8} (h : SvOk i t data) : saysS (fileB i t data) i = some (t, data) := by
  obtain ⟨b1, b2⟩ := Frame.bodies_all h.bs
  obtain ⟨h1, h2, h3, h4, h5, h6⟩ := id h
  obtain ⟨e1, e2, e3, e4⟩ := hd_read (i := i) (t := t) (n := data.length) (by omega) (by omega) (by omega)
  unfold saysS fileB
  rw [b2, if_pos rfl, b1, saysB_cons, if_pos h.hd, gather_chunks _ data.length data [] (Nat.le_refl _) (by rw [e3]; simp)]
  simp only [List.nil_append]
  rw [if_pos e3.symm, e2]
theorem not_bad {i t : Int} {data : List UInt8} (h : SvOk i t data) : ¬ svBad i t data.length := by
  obtain ⟨h1, h2, h3, h4, h5, h6⟩ := h
  rintro (hb | hb | hb | hb | hb)
  · unfold snName at hb
    rw [if_neg (by omega)] at hb
    have := congrArg List.length hb
    rw [nameN_len] at this
    cases this
  all_goals omega
theorem laid_len : ∀ (bs : List (List UInt8)), (Frame.laid bs).length ≤ 14 * bs.length + bs.flatten.length
  | [] => by simp [Frame.laid]
  | b :: bs => by
    have := laid_len bs
    have h1 := Frame.put_len b
    have h2 := (Wire.int_len (b.length : Int)).2
    rw [Frame.laid_cons, List.length_append, List.flatten_cons, List.length_append, List.length_cons]
    omega
theorem file_len {i t : Int} {data : List UInt8} {k : Nat} (h : data.length ≤ 1000 * k) : (fileB i t data).length ≤ 14 * (k + 1) + 30 + data.length := by
  have h1 := laid_len (hdB i t data.length :: chunks data)
  have h2 := chunks_count k data h
  have h3 := (hd_len i t data.length).2
  rw [List.flatten_cons, List.length_append, chunks_flat, List.length_cons] at h1
  unfold fileB
  omega
theorem newest_one {n : Nat} {t : Int} {data : List UInt8} {f : Fl} (h : SvOk (n : Int) t data) (hf : f.b = fileB (n : Int) t data) (acc : Option Sn) : newStep acc (snName (n : Int), f) = some (n, t, data) := by
  have h1 := h.i1
  have h2 := h.i2
  unfold newStep
  simp only
  rw [snNum_name (by omega) (by omega)]
  simp only
  rw [hf, says_file h]
theorem newest_tmp (f : Fl) (acc : Option Sn) : newStep acc (frN, f) = acc := by
  have : snNum frN = none := by decide
  unfold newStep
  rw [this]

/-! ### tables of few files -/
theorem sn_lt_tmp {n : Nat} (h1 : 1 ≤ n) (h2 : n ≤ 1099511627776) : snName (n : Int) < frN := by
  rw [snName_of h1 h2]
  show snPre ++ dgs 13 n < snPre ++ [116, 109, 112]
  refine append_lt.2 ?_
  have hl := dgs_len 13 n
  have ha := dgs_all 13 n
  cases hd : dgs 13 n with
  | nil => rw [hd] at hl; cases hl
  | cons x r =>
    rw [hd] at ha
    have hx : isDig x = true := List.all_eq_true.1 ha x (by simp)
    unfold isDig at hx
    simp at hx
    rw [List.cons_lt_cons_iff]
    left
    rw [UInt8.lt_iff_toNat_lt]
    have : (116 : UInt8).toNat = 116 := rfl
    omega
theorem sn_lt {n m : Nat} (h1 : 1 ≤ n) (h : n < m) (h2 : m ≤ 1099511627776) : snName (n : Int) < snName (m : Int) := by
  rw [snName_of h1 (by omega), snName_of (by omega) h2]
  exact nameN_lt h (by have : (10 : Nat) ^ 13 = 10000000000000 := by decide
                       omega)
theorem isPre_sn {n : Nat} (h1 : 1 ≤ n) (h2 : n ≤ 1099511627776) : isPre snPre (snName (n : Int)) = true := by
  rw [snName_of h1 h2]
  unfold isPre nameN
  simp
section
variable {T : PT} {s : List UInt8} {f g : Fl}
theorem tset_cons (j : List UInt8) (y : Fl) (r : PT) (i : List UInt8) (x : Fl) : tset ((j, y) :: r) i x = if i < j then (i, x) :: (j, y) :: r else if j = i then (i, x) :: r else (j, y) :: tset r i x := rfl
theorem tset_nil (i : List UInt8) (x : Fl) : tset ([] : PT) i x = [(i, x)] := rfl
theorem tset_tset : ∀ {T : PT}, tset (tset T s f) s g = tset T s g
  | [] => by rw [tset_nil, tset_cons, if_neg (List.lt_irrefl _), if_pos rfl, tset_nil]
  | (j, y) :: T => by
    rw [tset_cons, tset_cons]
    by_cases h1 : s < j
    · rw [if_pos h1, if_pos h1, tset_cons, if_neg (List.lt_irrefl _), if_pos rfl]
    · rw [if_neg h1, if_neg h1]
      by_cases h2 : j = s
      · rw [if_pos h2, if_pos h2, tset_cons, if_neg (List.lt_irrefl _), if_pos rfl]
      · rw [if_neg h2, if_neg h2, tset_cons, if_neg h1, if_neg h2, tset_tset]
theorem tset_last (hT : ∀ p ∈ T, p.1 < s) : tset T s f = T ++ [(s, f)] := by
  induction T with
  | nil => rfl
  | cons q T ih =>
    obtain ⟨j, y⟩ := q
    have hq : j < s := hT (j, y) (by simp)
    rw [tset_cons, if_neg (fun h => List.lt_irrefl _ (List.lt_trans hq h)), if_neg (fun e => by subst e; exact List.lt_irrefl _ hq), ih (fun p hp => hT p (List.mem_cons_of_mem _ hp))]
    rfl
theorem tfind_last (hT : ∀ p ∈ T, p.1 < s) : tfind (T ++ [(s, f)]) s = some f := by
  induction T with
  | nil => simp [tfind]
  | cons q T ih =>
    obtain ⟨j, y⟩ := q
    have hq : j < s := hT (j, y) (by simp)
    rw [List.cons_append]
    unfold tfind
    rw [if_neg (fun e => by subst e; exact List.lt_irrefl _ hq)]
    exact ih (fun p hp => hT p (List.mem_cons_of_mem _ hp))
theorem tdel_low (hT : ∀ p ∈ T, p.1 < s) : tdel T s = T := tdel_not (fun h => by
  obtain ⟨p, hp, rfl⟩ := List.mem_map.1 h
  exact List.lt_irrefl _ (hT p hp))
theorem tdel_last (hT : ∀ p ∈ T, p.1 < s) : tdel (T ++ [(s, f)]) s = T := by
  unfold tdel
  rw [List.filter_append]
  have h1 := tdel_low hT
  unfold tdel at h1
  rw [h1]
  simp
theorem tset_lastA (hT : ∀ p ∈ T, p.1 < s) : tset (T ++ [(s, f)]) s g = T ++ [(s, g)] := by rw [← tset_last (f := f) hT, tset_tset, tset_last hT]
end
end Go.Proofs.Ytebeidnmplnlpaa
end

section
set_option maxRecDepth 10000
namespace Go.Proofs.Ytebeidnmplnlpaa
set_option linter.unusedVariables false
open Go.RowKit

section
variable {S : DS} {s u b : List UInt8} {f : Fl}
theorem create_or (hs : nameOk s) (hf : S.t.length < 64) : ((S.create s).1 = 0 ∧ (S.create s).2.t = tset S.t s ⟨[], 0⟩) ∨ ((S.create s).1 ≠ 0 ∧ (S.create s).2.t = S.t) := by
  unfold DS.create
  split
  · rename_i h; exact .inr ⟨h, rfl⟩
  · try rw [if_neg (not_not_intro hs)]
    rw [if_neg (by omega)]; exact .inl ⟨rfl, rfl⟩
theorem append_or (hs : nameOk s) (hf : tfind S.t s = some f) (hsame : tset S.t s f = S.t) : ∃ f', (S.append s b).2.t = tset S.t s f' ∧ f'.sure = f.sure ∧ ((S.append s b).1 = 0 → f'.b = f.b ++ b) := by
  have hp : ∀ (K : Dk) (x : List UInt8), ∃ f', (DS.put ⟨K, S.t⟩ s f x).2.t = tset S.t s f' ∧ f'.sure = f.sure ∧ ((DS.put ⟨K, S.t⟩ s f x).1 = 0 → f'.b = f.b ++ x) := fun K x => by
    unfold DS.put
    split
    · exact ⟨f, hsame.symm, rfl, fun h => by cases h⟩
    · exact ⟨_, rfl, rfl, fun _ => rfl⟩
  unfold DS.append
  split
  · rename_i h
    split
    · rw [hf]
      obtain ⟨f', h1, h2, _⟩ := hp S.k.call.2 (b.take (b.length / 2))
      exact ⟨f', h1, h2, fun e => absurd e h⟩
    · exact ⟨f, hsame.symm, rfl, fun e => absurd e h⟩
  · try rw [if_neg (not_not_intro hs)]
    rw [hf]
    exact hp S.k.call.2 b
theorem sync_or (hs : nameOk s) (hf : tfind S.t s = some f) : ((S.sync s).1 = 0 ∧ (S.sync s).2.t = tset S.t s ⟨f.b, f.b.length⟩) ∨ ((S.sync s).1 ≠ 0 ∧ (S.sync s).2.t = S.t) := by
  unfold DS.sync
  split
  · rename_i h; exact .inr ⟨h, rfl⟩
  · try rw [if_neg (not_not_intro hs)]
    rw [hf]; exact .inl ⟨rfl, rfl⟩
theorem rename_or (hs : nameOk s) (hu : nameOk u) (hf : tfind S.t s = some f) : ((S.rename s u).1 = 0 ∧ (S.rename s u).2.t = tset (tdel S.t s) u f) ∨ ((S.rename s u).1 ≠ 0 ∧ (S.rename s u).2.t = S.t) := by
  unfold DS.rename
  split
  · rename_i h; exact .inr ⟨h, rfl⟩
  · try rw [if_neg (not_not_intro ⟨hs, hu⟩)]
    rw [hf]; exact .inl ⟨rfl, rfl⟩
theorem remove_or (hs : nameOk s) (hf : tfind S.t s = some f) : ((S.remove s).1 = 0 ∧ (S.remove s).2.t = tdel S.t s) ∨ ((S.remove s).1 ≠ 0 ∧ (S.remove s).2.t = S.t) := by
  unfold DS.remove
  split
  · rename_i h; exact .inr ⟨h, rfl⟩
  · try rw [if_neg (not_not_intro hs)]
    rw [hf]; exact .inl ⟨rfl, rfl⟩
end
theorem appends_or {s : List UInt8} (hs : nameOk s) {T0 : PT} (hT : ∀ p ∈ T0, p.1 < s) : ∀ (bs : List (List UInt8)) (S : DS) (f : Fl), S.t = T0 ++ [(s, f)] →
    ∃ f', (S.appends s bs).2.t = T0 ++ [(s, f')] ∧ f'.sure = f.sure ∧ ((S.appends s bs).1 = 0 → f'.b = f.b ++ Frame.laid bs)
  | [], S, f, h => ⟨f, h, rfl, fun _ => by simp [Frame.laid]⟩
  | b :: bs, S, f, h => by
    obtain ⟨f1, h1, h2, h3⟩ := append_or (S := S) (b := Frame.put b) hs (f := f) (by rw [h]; exact tfind_last hT) (by rw [h]; exact tset_lastA hT)
    rw [h, tset_lastA hT] at h1
    unfold DS.appends
    by_cases h0 : (S.append s (Frame.put b)).1 = 0
    · rw [andT_ok h0]
      obtain ⟨f2, k1, k2, k3⟩ := appends_or hs hT bs _ f1 h1
      exact ⟨f2, k1, k2.trans h2, fun e => by rw [k3 e, h3 h0, Frame.laid_cons, List.append_assoc]⟩
    · rw [andT_no h0]
      exact ⟨f1, h1, h2, fun e => absurd e h0⟩
theorem clear_cons (S : DS) (pre nm x : List UInt8) (r : List (List UInt8)) : S.clear pre nm (x :: r) = if isPre pre x = true ∧ x ≠ nm then andT (S.remove x) fun S' => DS.clear S' pre nm r else DS.clear S pre nm r := rfl
theorem clear_or {pre c : List UInt8} {f : Fl} : ∀ (T0 : PT) (S : DS), S.t = T0 ++ [(c, f)] → Rising (T0 ++ [(c, f)]) → (∀ p ∈ T0, isPre pre p.1 = true ∧ nameOk p.1) →
    ((S.clear pre c (T0.map (·.1) ++ [c])).1 = 0 ∧ (S.clear pre c (T0.map (·.1) ++ [c])).2.t = [(c, f)]) ∨
    ((S.clear pre c (T0.map (·.1) ++ [c])).1 ≠ 0 ∧ ∃ k, (S.clear pre c (T0.map (·.1) ++ [c])).2.t = T0.drop k ++ [(c, f)])
  | [], S, h, hR, hp => by
    rw [List.map_nil, List.nil_append]
    unfold DS.clear
    rw [if_neg (fun e => e.2 rfl)]
    exact .inl ⟨rfl, h⟩
  | p :: T0, S, h, hR, hp => by
    have hpp := hp p (by simp)
    have hlt : ∀ q ∈ T0 ++ [(c, f)], p.1 < q.1 := fun q hq => by
      have hR' : ((p :: (T0 ++ [(c, f)])).map (·.1)).Pairwise (· < ·) := hR
      rw [List.map_cons, List.pairwise_cons] at hR'
      exact hR'.1 q.1 (List.mem_map_of_mem hq)
    have hne : p.1 ≠ c := fun e => by
      have := hlt (c, f) (by simp)
      rw [e] at this
      exact List.lt_irrefl _ this
    have hR2 : Rising (T0 ++ [(c, f)]) := by
      have hR' : ((p :: (T0 ++ [(c, f)])).map (·.1)).Pairwise (· < ·) := hR
      rw [List.map_cons, List.pairwise_cons] at hR'
      exact hR'.2
    rw [List.map_cons, List.cons_append]
    unfold DS.clear
    rw [if_pos ⟨hpp.1, hne⟩]
    have hfi : tfind S.t p.1 = some p.2 := by
      rw [h, List.cons_append]
      unfold tfind
      rw [if_pos rfl]
    have hde : tdel S.t p.1 = T0 ++ [(c, f)] := by
      rw [h]
      have := tdel_eq (A := []) (B := T0 ++ [(c, f)]) (i := p.1) (y := p.2) hR.nd
      exact this
    rcases remove_or (S := S) hpp.2 hfi with ⟨h1, h2⟩ | ⟨h1, h2⟩
    · rw [andT_ok h1]
      rcases clear_or T0 _ (h2.trans hde) hR2 (fun q hq => hp q (List.mem_cons_of_mem _ hq)) with h3 | ⟨h3, k, h4⟩
      · exact .inl h3
      · exact .inr ⟨h3, k + 1, by rw [h4]; rfl⟩
    · rw [andT_no h1]
      exact .inr ⟨h1, 0, by rw [h2, h]; rfl⟩
/-- a table of snapshots elder than one -/
structure Elder (T0 : PT) (n : Nat) : Prop where
  ris : Rising T0
  low : ∀ p ∈ T0, p.1 < snName (n : Int)
  pre : ∀ p ∈ T0, isPre snPre p.1 = true ∧ nameOk p.1
  few : T0.length < 64
theorem frN_ok : nameOk frN := by decide
theorem snName_nm {n : Nat} (h1 : 1 ≤ n) (h2 : n ≤ 1099511627776) : nameOk (snName (n : Int)) := by unfold nameOk; rw [snName_len h1 h2]; omega
theorem save_eq {S : DS} {i t : Int} {data : List UInt8} (h : SvOk i t data) : S.save i t data = andT (S.create frN) fun S1 => andT (S1.appends frN (hdB i t data.length :: chunks data)) fun S2 => andT (S2.sync frN) fun S3 => andT (S3.rename frN (snName i)) fun S4 => S4.clear snPre (snName i) S4.keys := by
  unfold DS.save
  rw [if_neg (not_bad h)]
theorem save_or {S : DS} {T0 : PT} {n : Nat} {t : Int} {data : List UInt8} (hT : S.t = T0) (hE : Elder T0 n) (h : SvOk (n : Int) t data) :
    ((S.save n t data).1 = 0 ∧ (S.save n t data).2.t = [(snName (n : Int), fullF (fileB n t data))]) ∨
    ((S.save n t data).1 ≠ 0 ∧ ((S.save n t data).2.t = T0 ∨ (∃ f, f.sure ≤ f.b.length ∧ (S.save n t data).2.t = T0 ++ [(frN, f)]) ∨ ∃ k, (S.save n t data).2.t = T0.drop k ++ [(snName (n : Int), fullF (fileB n t data))])) := by
  have h1 := h.i1
  have h2 := h.i2
  have hlt : snName (n : Int) < frN := sn_lt_tmp (by omega) (by omega)
  have hlow : ∀ p ∈ T0, p.1 < frN := fun p hp => List.lt_trans (hE.low p hp) hlt
  have hnm := snName_nm (n := n) (by omega) (by omega)
  rw [save_eq h]
  rcases create_or (S := S) frN_ok (by rw [hT]; exact hE.few) with ⟨c1, c2⟩ | ⟨c1, c2⟩
  case inr => rw [andT_no c1]; exact .inr ⟨c1, .inl (c2.trans hT)⟩
  rw [andT_ok c1]
  rw [hT, tset_last hlow] at c2
  obtain ⟨f1, a1, a2, a3⟩ := appends_or frN_ok hlow (hdB n t data.length :: chunks data) _ _ c2
  by_cases c3 : ((S.create frN).2.appends frN (hdB n t data.length :: chunks data)).1 = 0
  case neg => rw [andT_no c3]; exact .inr ⟨c3, .inr (.inl ⟨f1, by rw [a2]; exact Nat.zero_le _, a1⟩)⟩
  rw [andT_ok c3]
  have e1 : f1.b = fileB n t data := by rw [a3 c3]; rfl
  generalize (S.create frN).2.appends frN (hdB n t data.length :: chunks data) = X at *
  rcases sync_or (S := X.2) frN_ok (f := f1) (by rw [a1]; exact tfind_last hlow) with ⟨d1, d2⟩ | ⟨d1, d2⟩
  case inr => rw [andT_no d1]; exact .inr ⟨d1, .inr (.inl ⟨f1, by rw [a2]; exact Nat.zero_le _, d2.trans a1⟩)⟩
  rw [andT_ok d1]
  rw [a1, tset_lastA hlow] at d2
  generalize X.2.sync frN = Y at *
  rcases rename_or (S := Y.2) frN_ok hnm (f := ⟨f1.b, f1.b.length⟩) (by rw [d2]; exact tfind_last hlow) with ⟨g1, g2⟩ | ⟨g1, g2⟩
  case inr => rw [andT_no g1]; exact .inr ⟨g1, .inr (.inl ⟨_, Nat.le_refl _, g2.trans d2⟩)⟩
  rw [andT_ok g1]
  rw [d2, tdel_last hlow, tset_last hE.low, e1] at g2
  generalize Y.2.rename frN (snName (n : Int)) = Z at *
  have hk : Z.2.keys = T0.map (·.1) ++ [snName (n : Int)] := by unfold DS.keys; rw [g2]; simp
  rw [hk]
  have hR : Rising (T0 ++ [(snName (n : Int), (⟨fileB n t data, (fileB n t data).length⟩ : Fl))]) := by
    unfold Rising
    rw [List.map_append, List.pairwise_append]
    refine ⟨hE.ris, by simp, fun a ha b hb => ?_⟩
    obtain ⟨p, hp, rfl⟩ := List.mem_map.1 ha
    simp at hb
    rw [hb]
    exact hE.low p hp
  rcases clear_or T0 Z.2 g2 hR hE.pre with h3 | ⟨h3, k, h4⟩
  · exact .inl h3
  · exact .inr ⟨h3, .inr (.inr ⟨k, h4⟩)⟩

/-! ### a disk that nothing ails -/
theorem used_append (A B : PT) : used (A ++ B) = used A + used B := by
  induction A with
  | nil => simp [used]
  | cons p A ih => rw [List.cons_append, show used (p :: (A ++ B)) = p.2.b.length + used (A ++ B) from rfl, show used (p :: A) = p.2.b.length + used A from rfl, ih]; omega
theorem appends_k0 {r : Int} {s : List UInt8} (hs : nameOk s) {T0 : PT} (hT : ∀ p ∈ T0, p.1 < s) : ∀ (bs : List (List UInt8)) (c : Int) (f : Fl), (used T0 : Int) + f.b.length + (Frame.laid bs).length ≤ r →
    DS.appends ⟨k0 r c, T0 ++ [(s, f)]⟩ s bs = (0, ⟨k0 r (c + bs.length), T0 ++ [(s, ⟨f.b ++ Frame.laid bs, f.sure⟩)]⟩)
  | [], c, f, h => by simp [DS.appends, Frame.laid]
  | b :: bs, c, f, h => by
    rw [Frame.laid_cons, List.length_append] at h
    have hu : used (T0 ++ [(s, f)]) = used T0 + f.b.length := by rw [used_append]; simp [used]
    unfold DS.appends
    rw [k0_append hs (tfind_last hT) (by rw [hu]; omega), andT_ok rfl, tset_lastA hT]
    simp only
    rw [appends_k0 hs hT bs (c + 1) _ (by simp only [List.length_append]; omega), Frame.laid_cons, List.append_assoc]
    congr 3
    rw [List.length_cons]
    omega
theorem clear_k0 {r : Int} {pre c : List UInt8} {f : Fl} : ∀ (T0 : PT) (k : Int), Rising (T0 ++ [(c, f)]) → (∀ p ∈ T0, isPre pre p.1 = true ∧ nameOk p.1) →
    DS.clear ⟨k0 r k, T0 ++ [(c, f)]⟩ pre c (T0.map (·.1) ++ [c]) = (0, ⟨k0 r (k + T0.length), [(c, f)]⟩)
  | [], k, hR, hp => by
    rw [List.map_nil, List.nil_append, List.nil_append, clear_cons, if_neg (fun e => e.2 rfl)]
    simp [DS.clear]
  | p :: T0, k, hR, hp => by
    have hpp := hp p (by simp)
    have hR' : ((p :: (T0 ++ [(c, f)])).map (·.1)).Pairwise (· < ·) := hR
    rw [List.map_cons, List.pairwise_cons] at hR'
    have hne : p.1 ≠ c := fun e => by
      have := hR'.1 c (List.mem_map_of_mem (f := (·.1)) (a := (c, f)) (by simp))
      rw [e] at this
      exact List.lt_irrefl _ this
    rw [List.map_cons]
    show DS.clear ⟨k0 r k, p :: T0 ++ [(c, f)]⟩ pre c (p.1 :: (T0.map (·.1) ++ [c])) = _
    rw [clear_cons, if_pos ⟨hpp.1, hne⟩]
    have hfi : tfind (p :: T0 ++ [(c, f)]) p.1 = some p.2 := by
      rw [List.cons_append]
      unfold tfind
      rw [if_pos rfl]
    have hde : tdel (p :: T0 ++ [(c, f)]) p.1 = T0 ++ [(c, f)] := tdel_eq (A := []) (B := T0 ++ [(c, f)]) (i := p.1) (y := p.2) hR.nd
    rw [k0_remove hpp.2 hfi, andT_ok rfl, hde]
    simp only
    rw [clear_k0 T0 (k + 1) hR'.2 (fun q hq => hp q (List.mem_cons_of_mem _ hq))]
    congr 3
    rw [List.length_cons]
    omega
theorem save_k0 {r c : Int} {T0 : PT} {n : Nat} {t : Int} {data : List UInt8} (hE : Elder T0 n) (h : SvOk (n : Int) t data) (hr : (used T0 : Int) + (fileB n t data).length ≤ r) :
    ∃ c', c ≤ c' ∧ c' ≤ c + 1200 ∧ DS.save ⟨k0 r c, T0⟩ n t data = (0, ⟨k0 r c', [(snName (n : Int), fullF (fileB n t data))]⟩) := by
  have h1 := h.i1
  have h2 := h.i2
  have hn2 := h.n2
  have hlt : snName (n : Int) < frN := sn_lt_tmp (by omega) (by omega)
  have hlow : ∀ p ∈ T0, p.1 < frN := fun p hp => List.lt_trans (hE.low p hp) hlt
  have hnm := snName_nm (n := n) (by omega) (by omega)
  have hcnt := chunks_count 1049 data (by omega)
  have hfew := hE.few
  rw [save_eq h, k0_create frN_ok (by omega), andT_ok rfl, tset_last hlow]
  simp only
  rw [appends_k0 frN_ok hlow _ _ _ (by simpa [fileB] using hr), andT_ok rfl]
  simp only
  rw [k0_sync frN_ok (tfind_last hlow), andT_ok rfl, tset_lastA hlow]
  simp only
  rw [k0_rename frN_ok hnm (tfind_last hlow), andT_ok rfl, tdel_last hlow, tset_last hE.low]
  simp only
  have hR : Rising (T0 ++ [(snName (n : Int), (⟨[] ++ Frame.laid (hdB n t data.length :: chunks data), ([] ++ Frame.laid (hdB n t data.length :: chunks data)).length⟩ : Fl))]) := by
    unfold Rising
    rw [List.map_append, List.pairwise_append]
    refine ⟨hE.ris, by simp, fun a ha b hb => ?_⟩
    obtain ⟨p, hp, rfl⟩ := List.mem_map.1 ha
    simp at hb
    rw [hb]
    exact hE.low p hp
  have hkeys : ∀ (K : Dk) (f : Fl), DS.keys ⟨K, T0 ++ [(snName (n : Int), f)]⟩ = T0.map (·.1) ++ [snName (n : Int)] := fun K f => by unfold DS.keys; simp
  rw [hkeys, clear_k0 T0 _ hR hE.pre]
  refine ⟨_, ?_, ?_, rfl⟩
  · rw [List.length_cons]; omega
  · rw [List.length_cons]; omega
end Go.Proofs.Ytebeidnmplnlpaa
end

section
set_option maxRecDepth 10000
namespace Go.Proofs.Ytebeidnmplnlpaa
set_option linter.unusedVariables false
open Go.RowKit

theorem elder_nil (n : Nat) : Elder [] n := ⟨by simp [Rising], by simp, by simp, by simp⟩
theorem newest_sn {n : Nat} {t : Int} {data : List UInt8} (h : SvOk (n : Int) t data) : newest [(snName (n : Int), fullF (fileB n t data))] = some (n, t, data) := by
  unfold newest
  rw [List.foldl_cons, List.foldl_nil]
  exact newest_one h rfl _
/-- the first snapshot on a new disk -/
theorem save_new {room : Int} {n : Nat} {t : Int} {data : List UInt8} (h : SvOk (n : Int) t data) (h0 : 0 ≤ room) (hr : ((fileB n t data).length : Int) ≤ room) (hr2 : room ≤ 16777216) :
    ∃ c', 0 ≤ c' ∧ c' ≤ 1200 ∧ (DS.new room).save n t data = (0, ⟨k0 room c', [(snName (n : Int), fullF (fileB n t data))]⟩) := by
  obtain ⟨c', h1, h2, h3⟩ := save_k0 (r := room) (c := 0) (elder_nil n) h (by simpa [used] using hr)
  exact ⟨c', h1, by omega, by rw [new_k0 h0 hr2]; exact h3⟩
def abc : List UInt8 := [97, 98, 99]
theorem abc_ok : SvOk ((7 : Nat) : Int) 2 abc := ⟨by decide, by decide, by decide, by decide, by decide, by decide⟩
theorem abc_len : (fileB ((7 : Nat) : Int) 2 abc).length ≤ 1000 := by
  have := file_len (i := ((7 : Nat) : Int)) (t := 2) (data := abc) (k := 1) (by decide)
  have h3 : abc.length = 3 := rfl
  omega
set_option maxHeartbeats 1000000 in
theorem awake19_any (W : World) : Calls Try.prog 17 #[] W fun e W' => e = .returned (.bool true) ∧ Below W.heap.size W W' := by
  obtain ⟨c', hc0, hc1, hsv⟩ := save_new (room := 10000) abc_ok (by decide) (by have := abc_len; omega) (by decide)
  refine calls_vc Try.func17 rfl (by kernel_rfl) ?_
  ((conv => whnf); (repeat ((first | (refine VL.cons ?_) | (refine VL.nil ?_) | (refine VC.seqS rfl ?_) | (refine VC.region ?_) | (refine VC.draw ?_) | (refine VC.cond ?_) | (refine VC.block ?_) | (refine VC.exit ?_) | (refine VC.ret ?_) | (refine VC.skip ?_) | (refine VC.label ?_) | (refine VC.scope ?_) | (refine VQ.cons ?_) | (refine VQ.nil ?_) | (refine VG.nil ?_) | (refine VG.cons ?_) | (refine VH.nil ?_) | (refine VH.cons ?_)); (conv => whnf))))
  ((repeat ((first | (refine VL.cons ?_) | (refine VL.nil ?_) | (refine VC.seqS rfl ?_) | (refine VC.region ?_) | (refine VC.draw ?_) | (refine VC.cond ?_) | (refine VC.block ?_) | (refine VC.exit ?_) | (refine VC.ret ?_) | (refine VC.skip ?_) | (refine VC.label ?_) | (refine VC.scope ?_) | (refine VQ.cons ?_) | (refine VQ.nil ?_) | (refine VG.nil ?_) | (refine VG.cons ?_) | (refine VH.nil ?_) | (refine VH.cons ?_) | (refine VP.done ?_) | (refine VP.one ?_) | (refine VP.two ?_) | (refine VE.cons ?_) | (refine VE.nil ?_) | (refine VBool.t ?_) | (refine VBool.f ?_) | (refine VBool.dT (by omega) ?_) | (refine VBool.dF (by omega) ?_) | (refine VBool.nT (by omega) ?_) | (refine VBool.nF (by omega) ?_) | (refine VRead.lenS ?_) | (refine VRead.lenT ?_) | (refine VRead.fld ?_) | (refine VRead.load1 (by assumption) ?_) | (refine VRead.load (by assumption) ?_) | (refine VRead.neB ?_) | (refine VRead.eqPN ?_) | (refine VRead.nePN ?_) | (refine VRead.eqB ?_) | (refine VBool.nT rfl ?_) | (refine VBool.dT rfl ?_) | (refine VWrap.i64 (by omega) (by omega) ?_) | (refine VWrap.u64 (by omega) (by omega) ?_) | (refine VRead.at1 (by omega) ?_) | (refine VRead.eqNN ?_) | (refine VSem.convI ?_) | (refine VRead.convI ?_) | (refine VRead.rem (by omega) (by decide) ?_) | (refine VRead.neg ?_) | (refine VC.seq ?_)); (conv => whnf))))
  refine VCall.of (oNew W 10000) ?_
  rintro e W1 ⟨d, U, rfl, hd1, hUB, hB1⟩
  refine ⟨_, rfl, ?_⟩
  ((conv => whnf); (repeat ((first | (refine VL.cons ?_) | (refine VL.nil ?_) | (refine VC.seqS rfl ?_) | (refine VC.region ?_) | (refine VC.draw ?_) | (refine VC.cond ?_) | (refine VC.block ?_) | (refine VC.exit ?_) | (refine VC.ret ?_) | (refine VC.skip ?_) | (refine VC.label ?_) | (refine VC.scope ?_) | (refine VQ.cons ?_) | (refine VQ.nil ?_) | (refine VG.nil ?_) | (refine VG.cons ?_) | (refine VH.nil ?_) | (refine VH.cons ?_)); (conv => whnf))))
  ((repeat ((first | (refine VL.cons ?_) | (refine VL.nil ?_) | (refine VC.seqS rfl ?_) | (refine VC.region ?_) | (refine VC.draw ?_) | (refine VC.cond ?_) | (refine VC.block ?_) | (refine VC.exit ?_) | (refine VC.ret ?_) | (refine VC.skip ?_) | (refine VC.label ?_) | (refine VC.scope ?_) | (refine VQ.cons ?_) | (refine VQ.nil ?_) | (refine VG.nil ?_) | (refine VG.cons ?_) | (refine VH.nil ?_) | (refine VH.cons ?_) | (refine VP.done ?_) | (refine VP.one ?_) | (refine VP.two ?_) | (refine VE.cons ?_) | (refine VE.nil ?_) | (refine VBool.t ?_) | (refine VBool.f ?_) | (refine VBool.dT (by omega) ?_) | (refine VBool.dF (by omega) ?_) | (refine VBool.nT (by omega) ?_) | (refine VBool.nF (by omega) ?_) | (refine VRead.lenS ?_) | (refine VRead.lenT ?_) | (refine VRead.fld ?_) | (refine VRead.load1 (by assumption) ?_) | (refine VRead.load (by assumption) ?_) | (refine VRead.neB ?_) | (refine VRead.eqPN ?_) | (refine VRead.nePN ?_) | (refine VRead.eqB ?_) | (refine VBool.nT rfl ?_) | (refine VBool.dT rfl ?_) | (refine VWrap.i64 (by omega) (by omega) ?_) | (refine VWrap.u64 (by omega) (by omega) ?_) | (refine VRead.at1 (by omega) ?_) | (refine VRead.eqNN ?_) | (refine VSem.convI ?_) | (refine VRead.convI ?_) | (refine VRead.rem (by omega) (by decide) ?_) | (refine VRead.neg ?_) | (refine VC.seq ?_)); (conv => whnf))))
  refine VSem.buildS rfl rfl (by simp [zipP, Value.oneCell']) (by omega) ?_
  ((conv => whnf); (repeat ((first | (refine VL.cons ?_) | (refine VL.nil ?_) | (refine VC.seqS rfl ?_) | (refine VC.region ?_) | (refine VC.draw ?_) | (refine VC.cond ?_) | (refine VC.block ?_) | (refine VC.exit ?_) | (refine VC.ret ?_) | (refine VC.skip ?_) | (refine VC.label ?_) | (refine VC.scope ?_) | (refine VQ.cons ?_) | (refine VQ.nil ?_) | (refine VG.nil ?_) | (refine VG.cons ?_) | (refine VH.nil ?_) | (refine VH.cons ?_)); (conv => whnf))))
  ((repeat ((first | (refine VL.cons ?_) | (refine VL.nil ?_) | (refine VC.seqS rfl ?_) | (refine VC.region ?_) | (refine VC.draw ?_) | (refine VC.cond ?_) | (refine VC.block ?_) | (refine VC.exit ?_) | (refine VC.ret ?_) | (refine VC.skip ?_) | (refine VC.label ?_) | (refine VC.scope ?_) | (refine VQ.cons ?_) | (refine VQ.nil ?_) | (refine VG.nil ?_) | (refine VG.cons ?_) | (refine VH.nil ?_) | (refine VH.cons ?_) | (refine VP.done ?_) | (refine VP.one ?_) | (refine VP.two ?_) | (refine VE.cons ?_) | (refine VE.nil ?_) | (refine VBool.t ?_) | (refine VBool.f ?_) | (refine VBool.dT (by omega) ?_) | (refine VBool.dF (by omega) ?_) | (refine VBool.nT (by omega) ?_) | (refine VBool.nF (by omega) ?_) | (refine VRead.lenS ?_) | (refine VRead.lenT ?_) | (refine VRead.fld ?_) | (refine VRead.load1 (by assumption) ?_) | (refine VRead.load (by assumption) ?_) | (refine VRead.neB ?_) | (refine VRead.eqPN ?_) | (refine VRead.nePN ?_) | (refine VRead.eqB ?_) | (refine VBool.nT rfl ?_) | (refine VBool.dT rfl ?_) | (refine VWrap.i64 (by omega) (by omega) ?_) | (refine VWrap.u64 (by omega) (by omega) ?_) | (refine VRead.at1 (by omega) ?_) | (refine VRead.eqNN ?_) | (refine VSem.convI ?_) | (refine VRead.convI ?_) | (refine VRead.rem (by omega) (by decide) ?_) | (refine VRead.neg ?_) | (refine VC.seq ?_)); (conv => whnf))))
  refine VSem.of (w' := W1.alloc (.cells (bv abc).toArray 5 (3, 4))) (Lib.run_convert_bytes_const (P := Try.prog) W1 31 5 _ 3 3 Try.underlying31 Try.underlying5) ?_
  have hr3 : Reads (W1.alloc (.cells (bv abc).toArray 5 (3, 4))) (W1.alloc (.cells (bv abc).toArray 5 (3, 4))).heap.size 1 (some ⟨W1.heap.size, 0, none⟩) 3 (bv abc) := (reads_new W1 abc 5 (3, 4) _ rfl 3 rfl).more (by simp)
  have hB2 := (Below.refl W1.heap.size W1).alloc (Nat.le_refl _) (.cells (bv abc).toArray 5 (3, 4))
  generalize W1.alloc (.cells (bv abc).toArray 5 (3, 4)) = W2 at *
  have hd2 := hd1.below hB2
  have hoff : Off U (some ⟨W1.heap.size, 0, none⟩) 3 := fun _ => ⟨_, rfl, fun hu => by have := hd1.lt _ hu; simp at this⟩
  ((conv => whnf); (repeat ((first | (refine VL.cons ?_) | (refine VL.nil ?_) | (refine VC.seqS rfl ?_) | (refine VC.region ?_) | (refine VC.draw ?_) | (refine VC.cond ?_) | (refine VC.block ?_) | (refine VC.exit ?_) | (refine VC.ret ?_) | (refine VC.skip ?_) | (refine VC.label ?_) | (refine VC.scope ?_) | (refine VQ.cons ?_) | (refine VQ.nil ?_) | (refine VG.nil ?_) | (refine VG.cons ?_) | (refine VH.nil ?_) | (refine VH.cons ?_)); (conv => whnf))))
  ((repeat ((first | (refine VL.cons ?_) | (refine VL.nil ?_) | (refine VC.seqS rfl ?_) | (refine VC.region ?_) | (refine VC.draw ?_) | (refine VC.cond ?_) | (refine VC.block ?_) | (refine VC.exit ?_) | (refine VC.ret ?_) | (refine VC.skip ?_) | (refine VC.label ?_) | (refine VC.scope ?_) | (refine VQ.cons ?_) | (refine VQ.nil ?_) | (refine VG.nil ?_) | (refine VG.cons ?_) | (refine VH.nil ?_) | (refine VH.cons ?_) | (refine VP.done ?_) | (refine VP.one ?_) | (refine VP.two ?_) | (refine VE.cons ?_) | (refine VE.nil ?_) | (refine VBool.t ?_) | (refine VBool.f ?_) | (refine VBool.dT (by omega) ?_) | (refine VBool.dF (by omega) ?_) | (refine VBool.nT (by omega) ?_) | (refine VBool.nF (by omega) ?_) | (refine VRead.lenS ?_) | (refine VRead.lenT ?_) | (refine VRead.fld ?_) | (refine VRead.load1 (by assumption) ?_) | (refine VRead.load (by assumption) ?_) | (refine VRead.neB ?_) | (refine VRead.eqPN ?_) | (refine VRead.nePN ?_) | (refine VRead.eqB ?_) | (refine VBool.nT rfl ?_) | (refine VBool.dT rfl ?_) | (refine VWrap.i64 (by omega) (by omega) ?_) | (refine VWrap.u64 (by omega) (by omega) ?_) | (refine VRead.at1 (by omega) ?_) | (refine VRead.eqNN ?_) | (refine VSem.convI ?_) | (refine VRead.convI ?_) | (refine VRead.rem (by omega) (by decide) ?_) | (refine VRead.neg ?_) | (refine VC.seq ?_)); (conv => whnf))))
  refine VCall.of (snapSave_any W2 U d (DS.new 10000) 7 2 3 3 _ abc hd2 hr3 hoff (by decide) (by decide) (by decide) (by decide) (by decide)) ?_
  rw [show (7 : Int) = ((7 : Nat) : Int) from rfl, hsv]
  rintro e W3 ⟨rfl, U3, hd3, st3⟩
  refine ⟨_, rfl, ?_⟩
  ((conv => whnf); (repeat ((first | (refine VL.cons ?_) | (refine VL.nil ?_) | (refine VC.seqS rfl ?_) | (refine VC.region ?_) | (refine VC.draw ?_) | (refine VC.cond ?_) | (refine VC.block ?_) | (refine VC.exit ?_) | (refine VC.ret ?_) | (refine VC.skip ?_) | (refine VC.label ?_) | (refine VC.scope ?_) | (refine VQ.cons ?_) | (refine VQ.nil ?_) | (refine VG.nil ?_) | (refine VG.cons ?_) | (refine VH.nil ?_) | (refine VH.cons ?_)); (conv => whnf))))
  ((repeat ((first | (refine VL.cons ?_) | (refine VL.nil ?_) | (refine VC.seqS rfl ?_) | (refine VC.region ?_) | (refine VC.draw ?_) | (refine VC.cond ?_) | (refine VC.block ?_) | (refine VC.exit ?_) | (refine VC.ret ?_) | (refine VC.skip ?_) | (refine VC.label ?_) | (refine VC.scope ?_) | (refine VQ.cons ?_) | (refine VQ.nil ?_) | (refine VG.nil ?_) | (refine VG.cons ?_) | (refine VH.nil ?_) | (refine VH.cons ?_) | (refine VP.done ?_) | (refine VP.one ?_) | (refine VP.two ?_) | (refine VE.cons ?_) | (refine VE.nil ?_) | (refine VBool.t ?_) | (refine VBool.f ?_) | (refine VBool.dT (by omega) ?_) | (refine VBool.dF (by omega) ?_) | (refine VBool.nT (by omega) ?_) | (refine VBool.nF (by omega) ?_) | (refine VRead.lenS ?_) | (refine VRead.lenT ?_) | (refine VRead.fld ?_) | (refine VRead.load1 (by assumption) ?_) | (refine VRead.load (by assumption) ?_) | (refine VRead.neB ?_) | (refine VRead.eqPN ?_) | (refine VRead.nePN ?_) | (refine VRead.eqB ?_) | (refine VBool.nT rfl ?_) | (refine VBool.dT rfl ?_) | (refine VWrap.i64 (by omega) (by omega) ?_) | (refine VWrap.u64 (by omega) (by omega) ?_) | (refine VRead.at1 (by omega) ?_) | (refine VRead.eqNN ?_) | (refine VSem.convI ?_) | (refine VRead.convI ?_) | (refine VRead.rem (by omega) (by decide) ?_) | (refine VRead.neg ?_) | (refine VC.seq ?_)); (conv => whnf))))
  refine VCall.of (snapNewest_any W3 U3 d _ hd3) ?_
  simp only
  rw [newest_sn abc_ok]
  rintro e W4 ⟨⟨i, t, v, rfl, hV⟩, hB4⟩
  refine ⟨_, rfl, ?_⟩
  obtain ⟨rfl, _, _, rfl, A, c, rfl, hO⟩ := hV
  ((conv => whnf); (repeat ((first | (refine VL.cons ?_) | (refine VL.nil ?_) | (refine VC.seqS rfl ?_) | (refine VC.region ?_) | (refine VC.draw ?_) | (refine VC.cond ?_) | (refine VC.block ?_) | (refine VC.exit ?_) | (refine VC.ret ?_) | (refine VC.skip ?_) | (refine VC.label ?_) | (refine VC.scope ?_) | (refine VQ.cons ?_) | (refine VQ.nil ?_) | (refine VG.nil ?_) | (refine VG.cons ?_) | (refine VH.nil ?_) | (refine VH.cons ?_)); (conv => whnf))))
  ((repeat ((first | (refine VL.cons ?_) | (refine VL.nil ?_) | (refine VC.seqS rfl ?_) | (refine VC.region ?_) | (refine VC.draw ?_) | (refine VC.cond ?_) | (refine VC.block ?_) | (refine VC.exit ?_) | (refine VC.ret ?_) | (refine VC.skip ?_) | (refine VC.label ?_) | (refine VC.scope ?_) | (refine VQ.cons ?_) | (refine VQ.nil ?_) | (refine VG.nil ?_) | (refine VG.cons ?_) | (refine VH.nil ?_) | (refine VH.cons ?_) | (refine VP.done ?_) | (refine VP.one ?_) | (refine VP.two ?_) | (refine VE.cons ?_) | (refine VE.nil ?_) | (refine VBool.t ?_) | (refine VBool.f ?_) | (refine VBool.dT (by omega) ?_) | (refine VBool.dF (by omega) ?_) | (refine VBool.nT (by omega) ?_) | (refine VBool.nF (by omega) ?_) | (refine VRead.lenS ?_) | (refine VRead.lenT ?_) | (refine VRead.fld ?_) | (refine VRead.load1 (by assumption) ?_) | (refine VRead.load (by assumption) ?_) | (refine VRead.neB ?_) | (refine VRead.eqPN ?_) | (refine VRead.nePN ?_) | (refine VRead.eqB ?_) | (refine VBool.nT rfl ?_) | (refine VBool.dT rfl ?_) | (refine VWrap.i64 (by omega) (by omega) ?_) | (refine VWrap.u64 (by omega) (by omega) ?_) | (refine VRead.at1 (by omega) ?_) | (refine VRead.eqNN ?_) | (refine VSem.convI ?_) | (refine VRead.convI ?_) | (refine VRead.rem (by omega) (by decide) ?_) | (refine VRead.neg ?_) | (refine VC.seq ?_)); (conv => whnf))))
  refine VSem.convT (Own.reads hO) ?_
  ((conv => whnf); (repeat ((first | (refine VL.cons ?_) | (refine VL.nil ?_) | (refine VC.seqS rfl ?_) | (refine VC.region ?_) | (refine VC.draw ?_) | (refine VC.cond ?_) | (refine VC.block ?_) | (refine VC.exit ?_) | (refine VC.ret ?_) | (refine VC.skip ?_) | (refine VC.label ?_) | (refine VC.scope ?_) | (refine VQ.cons ?_) | (refine VQ.nil ?_) | (refine VG.nil ?_) | (refine VG.cons ?_) | (refine VH.nil ?_) | (refine VH.cons ?_)); (conv => whnf))))
  ((repeat ((first | (refine VL.cons ?_) | (refine VL.nil ?_) | (refine VC.seqS rfl ?_) | (refine VC.region ?_) | (refine VC.draw ?_) | (refine VC.cond ?_) | (refine VC.block ?_) | (refine VC.exit ?_) | (refine VC.ret ?_) | (refine VC.skip ?_) | (refine VC.label ?_) | (refine VC.scope ?_) | (refine VQ.cons ?_) | (refine VQ.nil ?_) | (refine VG.nil ?_) | (refine VG.cons ?_) | (refine VH.nil ?_) | (refine VH.cons ?_) | (refine VP.done ?_) | (refine VP.one ?_) | (refine VP.two ?_) | (refine VE.cons ?_) | (refine VE.nil ?_) | (refine VBool.t ?_) | (refine VBool.f ?_) | (refine VBool.dT (by omega) ?_) | (refine VBool.dF (by omega) ?_) | (refine VBool.nT (by omega) ?_) | (refine VBool.nF (by omega) ?_) | (refine VRead.lenS ?_) | (refine VRead.lenT ?_) | (refine VRead.fld ?_) | (refine VRead.load1 (by assumption) ?_) | (refine VRead.load (by assumption) ?_) | (refine VRead.neB ?_) | (refine VRead.eqPN ?_) | (refine VRead.nePN ?_) | (refine VRead.eqB ?_) | (refine VBool.nT rfl ?_) | (refine VBool.dT rfl ?_) | (refine VWrap.i64 (by omega) (by omega) ?_) | (refine VWrap.u64 (by omega) (by omega) ?_) | (refine VRead.at1 (by omega) ?_) | (refine VRead.eqNN ?_) | (refine VSem.convI ?_) | (refine VRead.convI ?_) | (refine VRead.rem (by omega) (by decide) ?_) | (refine VRead.neg ?_) | (refine VC.seq ?_)); (conv => whnf))))
  refine VCall.of (snapName_any 7 W4 (by decide)) ?_
  rintro e W5 ⟨rfl, hB5⟩
  refine ⟨_, rfl, ?_⟩
  ((conv => whnf); (repeat ((first | (refine VL.cons ?_) | (refine VL.nil ?_) | (refine VC.seqS rfl ?_) | (refine VC.region ?_) | (refine VC.draw ?_) | (refine VC.cond ?_) | (refine VC.block ?_) | (refine VC.exit ?_) | (refine VC.ret ?_) | (refine VC.skip ?_) | (refine VC.label ?_) | (refine VC.scope ?_) | (refine VQ.cons ?_) | (refine VQ.nil ?_) | (refine VG.nil ?_) | (refine VG.cons ?_) | (refine VH.nil ?_) | (refine VH.cons ?_)); (conv => whnf))))
  ((repeat ((first | (refine VL.cons ?_) | (refine VL.nil ?_) | (refine VC.seqS rfl ?_) | (refine VC.region ?_) | (refine VC.draw ?_) | (refine VC.cond ?_) | (refine VC.block ?_) | (refine VC.exit ?_) | (refine VC.ret ?_) | (refine VC.skip ?_) | (refine VC.label ?_) | (refine VC.scope ?_) | (refine VQ.cons ?_) | (refine VQ.nil ?_) | (refine VG.nil ?_) | (refine VG.cons ?_) | (refine VH.nil ?_) | (refine VH.cons ?_) | (refine VP.done ?_) | (refine VP.one ?_) | (refine VP.two ?_) | (refine VE.cons ?_) | (refine VE.nil ?_) | (refine VBool.t ?_) | (refine VBool.f ?_) | (refine VBool.dT (by omega) ?_) | (refine VBool.dF (by omega) ?_) | (refine VBool.nT (by omega) ?_) | (refine VBool.nF (by omega) ?_) | (refine VRead.lenS ?_) | (refine VRead.lenT ?_) | (refine VRead.fld ?_) | (refine VRead.load1 (by assumption) ?_) | (refine VRead.load (by assumption) ?_) | (refine VRead.neB ?_) | (refine VRead.eqPN ?_) | (refine VRead.nePN ?_) | (refine VRead.eqB ?_) | (refine VBool.nT rfl ?_) | (refine VBool.dT rfl ?_) | (refine VWrap.i64 (by omega) (by omega) ?_) | (refine VWrap.u64 (by omega) (by omega) ?_) | (refine VRead.at1 (by omega) ?_) | (refine VRead.eqNN ?_) | (refine VSem.convI ?_) | (refine VRead.convI ?_) | (refine VRead.rem (by omega) (by decide) ?_) | (refine VRead.neg ?_) | (refine VC.seq ?_)); (conv => whnf))))
  have hB02 := hB1.trans (hB2.mono hB1.size)
  have hB03 := hB02.trans (st3.below hUB hB02.size)
  have hB04 := hB03.trans (hB4.mono hB03.size)
  refine ⟨?_, hB04.trans (hB5.mono hB04.size)⟩
  congr 2
end Go.Proofs.Ytebeidnmplnlpaa
end

section
namespace Go.Proofs.Ytebeidnmplnlpaa
set_option linter.unusedVariables false
open Go.ChangeShapes Go.WideShapes Go.ChangeAt Go.RowKit
open Go.Deep (open_bools boolRow)

def InInts (w : World) (A : Option Addr) (n c : Nat) (l : List Int) : Prop :=
  Reads w w.heap.size 1 A n (iv .i64 l) ∧ n ≤ c ∧ c ≤ 17592186043904 ∧ ∀ x ∈ l, -9223372036854775808 ≤ x ∧ x ≤ 9223372036854775807
theorem row_block {x : Addr} {n : Nat} {W : World} (hn : 0 < n) {q : List MemPlace} (h : ∀ y ∈ MemPlace.row x n ++ q, y.block < W.heap.size) : x.block < W.heap.size :=
  h (.cell x.block x.off) (by
    rw [List.mem_append]; left
    unfold MemPlace.row
    rw [List.mem_map]
    exact ⟨0, by simp; omega, by simp⟩)
theorem Reads.of_cells0 {W : World} {x : Addr} {n m : Nat} {xs : List Value} {q : List MemPlace} (hl : xs.length = n) (hnm : n ≤ m) (hb : ∀ y ∈ MemPlace.row x m ++ q, y.block < W.heap.size) (h : ∀ j u, xs[j]? = some u → W.cell? (x.add j) = some u) : Reads W W.heap.size 1 (some x) n xs :=
  ⟨by omega, fun hn => ⟨x, rfl, row_block (by omega) hb, h⟩⟩

section
variable {H : Type} {enc : TypeId × Value → H} {P : Program}
theorem in_ints {t e : TypeId} (ht : P.underlying t = some (.slice e)) (he : P.underlying e = some (.int .i64)) (hc : P.cellsOf e = 1) (hby : P.bytesOf e = 8)
    {W : World} {A : Option Addr} {n c : Nat} {d : DataW H} {p : List MemPlace} (h : DataW.Trod enc P W 0 (fun _ => true) true t (.slice A n c) d p)
    {ts : List TypeId} {ds : List (DataW H)} (hsz : (DataW.weightsEach P ts ds).all (· ≤ reachBytes) = true) {j : Nat} (hj : ts[j]? = some t) (hd : ds[j]? = some d) :
    ∃ l, InInts W A n c l ∧ n + 1 ≤ Rows.uptoBulk d := by
  have hlt : ∀ x ∈ p, x.block < W.heap.size := by obtain ⟨m, hm⟩ := h; exact DataW.trod_lt m _ _ _ hm
  obtain ⟨fuel, hf⟩ := h
  rcases open_ints ht he hc hf with ⟨hcs, hx⟩ | ⟨x, l, c', zs, hcs, _, hl, hm, hz, hx, hcell, hwz⟩
  · simp [Value.cells] at hcs
    obtain ⟨rfl, rfl, rfl⟩ := hcs
    simp only [Prod.mk.injEq] at hx
    obtain ⟨rfl, rfl⟩ := hx
    exact ⟨[], ⟨Reads.none_, Nat.le_refl _, by omega, fun x hx => by cases hx⟩, by simp [Rows.uptoBulk]⟩
  · simp [Value.cells] at hcs
    obtain ⟨rfl, rfl, rfl⟩ := hcs
    simp only [if_true] at hz
    simp only [Prod.mk.injEq] at hx
    obtain ⟨rfl, rfl⟩ := hx
    have hreach := sized_slice hsz hj hd ht
    simp [lits, hby, reachBytes] at hreach
    refine ⟨zs.take n, ⟨Reads.of_cells0 (q := []) (by simp [iv]; omega) (by omega : n ≤ zs.length) (by simpa using hlt) ?_, hl, by omega, fun y hy => ?_⟩, ?_⟩
    · intro i u hu
      unfold iv at hu
      rw [List.getElem?_map, Option.map_eq_some_iff] at hu
      obtain ⟨y, hy, rfl⟩ := hu
      have hi : i < n := by have := (List.getElem?_eq_some_iff.1 hy).1; simp at this; omega
      rw [List.getElem?_take_of_lt hi] at hy
      rw [hcell i (by omega)]
      simp [List.getD, hy]
    · exact int_bounds (hwz y (List.mem_of_mem_take hy))
    · have e1 := bulk_slice (H := H) (lits .i64 (zs.take n)) (lits .i64 (zs.drop n))
      simp [lits] at e1
      simp [lits]
      omega

end
end Go.Proofs.Ytebeidnmplnlpaa
end
