/- Texts joined: VE, RdA, DskO, Var, VarB, Crc, FrameL, Sum, SumFns, Wire, Reg, Reader, ReadInt, ReadFns, ReadRef, ReadMore, Frame, Ref3. No condition. -/
import Derived.Test.YtebeidnmplnlpaaGreatPkw1
import Derived.Test.YtebeidnmplnlpaaGreatPkw0
import Derived.KernelRfl
import Derived.WalkKit
import Derived.WalkSpells
import Derived.WalkLawsBesides
import Derived.Lib.Hide
import Derived.Lib.SlBytesConst
import Derived.Deep.DeepCutAuto
import Derived.StillTailTactics
import Derived.BigQuiet
import Derived.Deep.LoopGhost
section
namespace Go.Proofs.YtebeidnmplnlpaaGreat
set_option linter.unusedVariables false
open Go.RowKit

def vsegL (P : Program) (S : World → Prop) (ops : List Oper) (K : Env → World → Prop) : List (List Nat × Nat) → List Nat → Nat → Env → World → Prop
  | [], l, c, σ, w => vquiet P S ops (fun σ' => vone P (fun _ => True) ops K (nthOp ops c) σ' w) (picks ops l) σ
  | (l1, c1) :: r, l, c, σ, w => vquiet P S ops (fun σ' => vone P S ops (fun σ2 w2 => vsegL P S ops K r l c σ2 w2) (nthOp ops c1) σ' w) (picks ops l1) σ
theorem segL_sound {P : Program} {n : Nat} {ds : List Deferred} {ops : List Oper} {md : Region.Mode} {Q : Exit → Act → World → Prop} {S : World → Prop} {K : Env → World → Prop} {D : List Nat} {σ0 : Env} {l : List Nat} {c : Nat} (hf : feeds md ops.toArray c = true) (hdst : ∀ o ∈ ops, ∀ t, o.dst = some t → t < n ∧ t ∈ D) (hs : Region.noSelect ops.toArray = true)
    (hQ : ∀ x a a' w, Q (.panic x) a w → Q (.panic x) a' w) (hK : ∀ a σ w, Agr n ds a σ → Fr D σ σ0 → K σ w → Q .normal a w) (hl : (l.all fun i => Nat.blt i c) = true) :
    ∀ (segs : List (List Nat × Nat)) (L : Array Bool) (a : Act) (σ : Env) (w : World), (segs.all fun p => (p.1.all fun i => Nat.blt i c) && Nat.blt p.2 c) = true → Down md ops.toArray L → S w → segC md ops.toArray (segs ++ [(l, c)]) [] L = true → Agr n ds a σ → Fr D σ σ0 → vsegL P S ops K segs l c σ w →
      wpAnyC P md ops.toArray Q S c (segLn (segs ++ [(l, c)]) []) L a w
  | [], L, a, σ, w, hb, hD, hS, hB, hA, hF, h => by
    rw [List.nil_append] at hB ⊢
    unfold segC at hB
    cases hT : takeC md ops.toArray l L with
    | none => rw [hT] at hB; cases hB
    | some L' =>
      rw [hT] at hB
      simp only [Bool.and_eq_true, beq_iff_eq] at hB
      obtain ⟨⟨k1, k2⟩, k3⟩ := hB
      unfold vsegL at h
      have := quiet_takeC (md := md) (Q := Q) (S := S) (w := w) (fuel := 1) (σ0 := σ0) hf hdst hs hQ hS (fun a σ' hA hF ha => ?_) l L a σ hD hl hT hA hF h
      · rw [show segLn [(l, c)] [] = 1 + l.length from by simp [segLn]; omega]
        exact this
      · refine ⟨fun h0 => absurd (k1 ▸ h0) (by simp), fun i hi => ?_⟩
        rw [k1] at hi
        simp only [List.mem_singleton] at hi
        subst hi
        rw [nthOp_eq] at ha
        cases ho : ops[i]? with
        | none => rw [ho] at ha; exact ha.elim
        | some o =>
          rw [ho] at ha
          simp only [vone] at ha
          have hmo : o ∈ ops := List.mem_of_getElem? ho
          have k4 : Region.ready md ops.toArray (L'.setIfInBounds i true) = [] := by
            unfold segC takeC at k3
            simpa [List.isEmpty_iff] using k3
          unfold wpOp
          rw [show ops.toArray[i]? = some o from by simpa using ho]
          simp only
          rcases vguard_sound hA ha with ⟨j1, j2⟩ | ⟨j1, j2⟩
          · rw [if_pos j1]
            exact .inl (vop_sound hA j2 fun v w' hk => ⟨fun h => absurd rfl h, k4, hK _ _ _ (hA.put (fun t ht => (hdst o hmo t ht).1) v) (hF.put (fun t ht => (hdst o hmo t ht).2) v) hk.rest⟩)
          · rw [if_neg (by rw [j1]; simp)]
            exact ⟨fun h => absurd rfl h, k4, hK _ _ _ (hA.put (fun t ht => (hdst o hmo t ht).1) undef) (hF.put (fun t ht => (hdst o hmo t ht).2) undef) j2⟩
  | (l1, c1) :: r, L, a, σ, w, hb, hD, hS, hB, hA, hF, h => by
    rw [List.cons_append] at hB ⊢
    simp only [List.all_cons, Bool.and_eq_true] at hb
    unfold segC at hB
    cases hT : takeC md ops.toArray l1 L with
    | none => rw [hT] at hB; cases hB
    | some L' =>
      rw [hT] at hB
      simp only [Bool.and_eq_true, beq_iff_eq] at hB
      obtain ⟨⟨k1, k2⟩, k3⟩ := hB
      unfold vsegL at h
      have hD' : ∀ (l : List Nat) (L L' : Array Bool), Down md ops.toArray L → takeC md ops.toArray l L = some L' → Down md ops.toArray L' := by
        intro l
        induction l with
        | nil => intro L L' h1 h2; simp only [takeC, Option.some.injEq] at h2; subst h2; exact h1
        | cons i r ih =>
          intro L L' h1 h2
          unfold takeC at h2
          split at h2
          · rename_i hc
            simp only [Bool.and_eq_true] at hc
            exact ih _ _ (h1.set (by simpa using hc.1.2)) h2
          · cases h2
      have hDL := hD' l1 L L' hD hT
      have := quiet_takeC (md := md) (Q := Q) (S := S) (w := w) (fuel := segLn (r ++ [(l, c)]) [] + 1) (σ0 := σ0) hf hdst hs hQ hS (fun a σ' hA hF ha => ?_) l1 L a σ hD hb.1.1 hT hA hF h
      · rw [show segLn ((l1, c1) :: (r ++ [(l, c)])) [] = segLn (r ++ [(l, c)]) [] + 1 + l1.length from by simp [segLn]; omega]
        exact this
      · refine ⟨fun h0 => absurd (k1 ▸ h0) (by simp), fun i hi => ?_⟩
        have hi0 := hi
        rw [k1] at hi
        simp only [List.mem_singleton] at hi
        subst hi
        rw [nthOp_eq] at ha
        cases ho : ops[i]? with
        | none => rw [ho] at ha; exact ha.elim
        | some o =>
          rw [ho] at ha
          simp only [vone] at ha
          have hmo : o ∈ ops := List.mem_of_getElem? ho
          unfold wpOp
          rw [show ops.toArray[i]? = some o from by simpa using ho]
          simp only
          rcases vguard_sound hA ha with ⟨j1, j2⟩ | ⟨j1, j2⟩
          · rw [if_pos j1]
            exact .inl (vop_sound hA j2 fun v w' hk => ⟨fun _ => hk.keep, segL_sound hf hdst hs hQ hK hl r _ _ _ w' hb.2 (hDL.set hi0) hk.keep k3 (hA.put (fun t ht => (hdst o hmo t ht).1) v) (hF.put (fun t ht => (hdst o hmo t ht).2) v) hk.rest⟩)
          · rw [if_neg (by rw [j1]; simp)]
            exact ⟨fun _ => hS, segL_sound hf hdst hs hQ hK hl r _ _ _ w hb.2 (hDL.set hi0) hS k3 (hA.put (fun t ht => (hdst o hmo t ht).1) undef) (hF.put (fun t ht => (hdst o hmo t ht).2) undef) j2⟩
def lastsB (n : Nat) (ops : List Oper) (segs : List (List Nat × Nat)) (l : List Nat) (c : Nat) : Bool :=
  Region.noSelect ops.toArray && feeds .any ops.toArray c && (l.all fun i => Nat.blt i c) && (segs.all fun p => (p.1.all fun i => Nat.blt i c) && Nat.blt p.2 c) && segC .any ops.toArray (segs ++ [(l, c)]) [] (Array.replicate ops.length false) && Nat.beq (segLn (segs ++ [(l, c)]) []) ops.length && ops.all fun o => match o.dst with | some d => Nat.blt d n | none => true
structure VE (P : Program) (S : World → Prop) (ops : List Oper) (K : Env → World → Prop) (segs : List (List Nat × Nat)) (l : List Nat) (c : Nat) (σ : Env) (w : World) : Prop where
  out : vsegL P S ops K segs l c σ w
theorem VE_fun (P : Program) (S : World → Prop) (ops : List Oper) (K : Env → World → Prop) (segs : List (List Nat × Nat)) (l : List Nat) (c : Nat) : VE P S ops K segs l c = vsegL P S ops K segs l c := by funext σ w; exact propext ⟨fun h => h.out, fun h => ⟨h⟩⟩
section
variable {P : Program} {S : World → Prop} {ops : List Oper} {K : Env → World → Prop} {l l1 : List Nat} {c c1 : Nat} {r : List (List Nat × Nat)} {σ : Env} {w : World}
theorem VE.nil (h : VQ P S ops (fun σ' => vone P (fun _ => True) ops K (nthOp ops c) σ' w) (picks ops l) σ) : VE P S ops K [] l c σ w := ⟨h.out⟩
theorem VE.cons (h : VQ P S ops (fun σ' => vone P S ops (fun σ2 w2 => VE P S ops K r l c σ2 w2) (nthOp ops c1) σ' w) (picks ops l1) σ) : VE P S ops K ((l1, c1) :: r) l c σ w := by
  refine ⟨?_⟩
  have h := h.out
  simp only [VE_fun] at h
  exact h
end
theorem VDraw.lasts {P : Program} {n : Nat} {ops : List Oper} {Q : Post} {σ : Env} {w : World} (S : World → Prop) (segs : List (List Nat × Nat)) (l : List Nat) (c : Nat) (hm : P.follows .mixedOrders = true) (hB : lastsB n ops segs l c = true)
    (hS : S (w.drewN 1)) (h : VE P S ops (fun σ2 w2 => Q .normal σ2 w2) segs l c σ (w.drewN 1)) : VDraw P n ops Q σ w := by
  replace h := h.out
  unfold lastsB at hB
  simp only [Bool.and_eq_true] at hB
  obtain ⟨⟨⟨⟨⟨⟨h1, h2⟩, h3⟩, h4⟩, h5⟩, h6⟩, h7⟩ := hB
  have hlen := Nat.eq_of_beq_eq_true h6
  have hdst : ∀ o ∈ ops, ∀ t, o.dst = some t → t < n ∧ t ∈ dsts ops := fun o ho t ht => ⟨by
    have := List.all_eq_true.1 h7 o ho
    rw [ht] at this
    exact Nat.blt_eq ▸ this, mem_dsts ho ht⟩
  simp only [VDraw_eq]
  intro ds a id hA
  refine wp_region_any hm (wpAny_ofC (S := S) (c := c) _ _ _ _ ?_)
  have h4' : (segs.all fun p => (p.1.all fun i => Nat.blt i c) && Nat.blt p.2 c) = true := h4
  have := segL_sound (md := .any) (ds := ds) (Q := Lift n ds Q (dsts ops) σ) (S := S) (K := fun σ2 w2 => Q .normal σ2 w2) (σ0 := σ) h2 hdst h1 (fun c a a' w h => h) (fun a σ' w hA hF hk => ⟨σ', hA, hF, hk⟩) h3 segs _ a σ _ h4' (Down.start _) hS h5 hA (Fr.refl _ _) h
  rw [hlen] at this
  rw [show ops.toArray.size = ops.length from by simp]
  exact this
end Go.Proofs.YtebeidnmplnlpaaGreat
end

section
set_option maxRecDepth 10000
namespace Go.Proofs.YtebeidnmplnlpaaGreat
set_option linter.unusedVariables false
open Go.RowKit

/-! ### a file's three cells -/
def FEl (W : World) (U : Foot) (p : List UInt8 × Fl) (a b c : Value) : Prop :=
  a = encStr p.1 ∧ (∃ As cs, b = .slice As p.2.sure cs ∧ Lies W U As p.2.sure (p.2.b.take p.2.sure) ∧ p.2.sure ≤ cs) ∧
    ∃ Ap cp, c = .slice Ap (p.2.b.length - p.2.sure) cp ∧ Lies W U Ap (p.2.b.length - p.2.sure) (p.2.b.drop p.2.sure) ∧ p.2.b.length - p.2.sure ≤ cp
def FEls (W : World) (U : Foot) : PT → List Value → Prop
  | [], [] => True
  | p :: T, a :: b :: c :: xs => FEl W U p a b c ∧ FEls W U T xs
  | _, _ => False
section
variable {W W' : World} {U V : Foot}
theorem FEl.stay {p : List UInt8 × Fl} {a b c : Value} (h : FEl W U p a b c) (hl : ∀ A m (l : List UInt8), Lies W U A m l → Lies W' V A m l) : FEl W' V p a b c := by
  obtain ⟨h1, ⟨As, cs, h2, h3, h4⟩, Ap, cp, h5, h6, h7⟩ := h
  exact ⟨h1, ⟨As, cs, h2, hl _ _ _ h3, h4⟩, Ap, cp, h5, hl _ _ _ h6, h7⟩
theorem FEls.stay (hl : ∀ A m (l : List UInt8), Lies W U A m l → Lies W' V A m l) : ∀ {T : PT} {xs : List Value}, FEls W U T xs → FEls W' V T xs
  | [], [], _ => trivial
  | p :: T, a :: b :: c :: xs, h => ⟨h.1.stay hl, FEls.stay hl h.2⟩
  | [], _ :: _, h => h.elim
  | _ :: _, [], h => h.elim
  | _ :: _, [_], h => h.elim
  | _ :: _, [_, _], h => h.elim
theorem FEls.len : ∀ {T : PT} {xs : List Value}, FEls W U T xs → xs.length = T.length * 3
  | [], [], _ => rfl
  | p :: T, a :: b :: c :: xs, h => by have := FEls.len h.2; simp only [List.length_cons]; omega
  | [], _ :: _, h => h.elim
  | _ :: _, [], h => h.elim
  | _ :: _, [_], h => h.elim
  | _ :: _, [_, _], h => h.elim
theorem FEls.append : ∀ {T1 T2 : PT} {x1 x2 : List Value}, FEls W U T1 x1 → FEls W U T2 x2 → FEls W U (T1 ++ T2) (x1 ++ x2)
  | [], _, [], _, _, h => h
  | p :: T, _, a :: b :: c :: xs, _, h, k => ⟨h.1, FEls.append h.2 k⟩
  | [], _, _ :: _, _, h, _ => h.elim
  | _ :: _, _, [], _, h, _ => h.elim
  | _ :: _, _, [_], _, h, _ => h.elim
  | _ :: _, _, [_, _], _, h, _ => h.elim
theorem FEls.split : ∀ {T1 T2 : PT} {xs : List Value}, FEls W U (T1 ++ T2) xs → FEls W U T1 (xs.take (T1.length * 3)) ∧ FEls W U T2 (xs.drop (T1.length * 3))
  | [], _, xs, h => ⟨by simp [FEls], by simpa using h⟩
  | p :: T, T2, a :: b :: c :: xs, h => by
    obtain ⟨h1, h2⟩ := FEls.split (T1 := T) h.2
    have e : (p :: T).length * 3 = T.length * 3 + 3 := by simp; omega
    rw [e]
    exact ⟨⟨h.1, h1⟩, h2⟩
  | _ :: _, _, [], h => h.elim
  | _ :: _, _, [_], h => h.elim
  | _ :: _, _, [_, _], h => h.elim
/-- the cells of a file of a number -/
theorem FEls.at_ {A B : PT} {p : List UInt8 × Fl} {xs : List Value} (h : FEls W U (A ++ p :: B) xs) :
    ∃ x1 a b c x2, xs = x1 ++ a :: b :: c :: x2 ∧ x1.length = A.length * 3 ∧ FEls W U A x1 ∧ FEl W U p a b c ∧ FEls W U B x2 := by
  obtain ⟨h1, h2⟩ := FEls.split h
  have hl := h1.len
  generalize hd : xs.drop (A.length * 3) = ys at h2
  match ys, h2 with
  | a :: b :: c :: x2, h2 => exact ⟨_, a, b, c, x2, by rw [← hd, List.take_append_drop], hl, h1, h2.1, h2.2⟩
  | [], h => exact h.elim
  | [_], h => exact h.elim
  | [_, _], h => exact h.elim
theorem FEls.one : ∀ {T : PT} {xs : List Value}, FEls W U T xs → ∀ u ∈ xs, u.oneCell' = true
  | [], [], _, u, hu => by cases hu
  | p :: T, a :: b :: c :: xs, h, u, hu => by
    obtain ⟨⟨rfl, ⟨As, cs, rfl, _, _⟩, Ap, cp, rfl, _, _⟩, h2⟩ := h
    simp only [List.mem_cons] at hu
    rcases hu with rfl | rfl | rfl | hu
    · rfl
    · rfl
    · rfl
    · exact FEls.one h2 u hu
  | [], _ :: _, h, _, _ => h.elim
  | _ :: _, [], h, _, _ => h.elim
  | _ :: _, [_], h, _, _ => h.elim
  | _ :: _, [_, _], h, _, _ => h.elim
end
def rC (K : Dk) (A : Option Addr) (n c : Nat) : Array Value := #[.slice A n c, .int .i64 K.room, .int .i64 K.calls, .bool K.armed, .int .i64 K.kind, .int .i64 K.after, .bool K.off]
/-- a row of files -/
structure FRow (W : World) (U : Foot) (A : Option Addr) (n c : Nat) (xs : List Value) (T : PT) : Prop where
  row : W.ownsRow 0 67 3 (.slice A n c) n xs
  foot : ∀ g, (Value.slice A n c).ownBlock = some g → U g
  els : FEls W U T xs
structure RefAt (W : World) (U : Foot) (r : Nat) (A : Option Addr) (c : Nat) (xs : List Value) (K : Dk) (T : PT) : Prop where
  hr : U r
  blk : Blk W r 47 (rC K A T.length c)
  fr : FRow W U A T.length c xs T
def RefD (W : World) (U : Foot) (r : Nat) (S : DS) : Prop := DWf S ∧ ∃ A c xs, RefAt W U r A c xs S.k S.t
section
variable {W W' : World} {U V : Foot} {r n c : Nat} {A : Option Addr} {xs : List Value} {K K' : Dk} {T : PT} {S : DS}
theorem ownsRow_stay {B e s m : Nat} {v : Value} {ys : List Value} (h : W.ownsRow B e s v m ys) (hk : ∀ g, v.ownBlock = some g → W'.heap[g]? = W.heap[g]?) : W'.ownsRow B e s v m ys := by
  refine ⟨h.1, ?_⟩
  rcases h.2 with h0 | ⟨k, cap, cur, hv, hbg, hh, q⟩
  · exact .inl h0
  · exact .inr ⟨k, cap, cur, hv, hbg, by rw [hk k (by rw [hv]; rfl)]; exact hh, q⟩
theorem FRow.stay (h : FRow W U A n c xs T) (hs : W.heap.size ≤ W'.heap.size) (hk : ∀ j, j < W.heap.size → U j → W'.heap[j]? = W.heap[j]?) : FRow W' U A n c xs T :=
  ⟨ownsRow_stay h.row (fun g hg => hk g (World.ownsRow.lt h.row g hg).2 (h.foot g hg)), h.foot, h.els.stay (fun A m l hl => hl.stay hs hk)⟩
theorem FRow.more (h : FRow W U A n c xs T) (hV : ∀ j, j < W.heap.size → U j → V j) : FRow W V A n c xs T :=
  ⟨h.row, fun g hg => hV g (World.ownsRow.lt h.row g hg).2 (h.foot g hg), h.els.stay (fun A m l hl => hl.more hV)⟩
theorem FRow.below {C : Nat} (h : FRow W U A n c xs T) (hb : Below C W W') (hC : W.heap.size ≤ C) : FRow W' U A n c xs T :=
  h.stay hb.size (fun j hj _ => hb.block j (Nat.lt_of_lt_of_le hj hC))
theorem RefAt.stay (h : RefAt W U r A c xs K T) (hs : W.heap.size ≤ W'.heap.size) (hk : ∀ j, j < W.heap.size → U j → W'.heap[j]? = W.heap[j]?) : RefAt W' U r A c xs K T :=
  ⟨h.hr, (hk r h.blk.lt h.hr).trans h.blk, h.fr.stay hs hk⟩
theorem RefAt.more (h : RefAt W U r A c xs K T) (hV : ∀ j, j < W.heap.size → U j → V j) : RefAt W V r A c xs K T := ⟨hV r h.blk.lt h.hr, h.blk, h.fr.more hV⟩
theorem RefAt.below {C : Nat} (h : RefAt W U r A c xs K T) (hb : Below C W W') (hC : W.heap.size ≤ C) : RefAt W' U r A c xs K T :=
  h.stay hb.size (fun j hj _ => hb.block j (Nat.lt_of_lt_of_le hj hC))
theorem RefAt.own (h : RefAt W U r A c xs K T) (hb : Blk W' r 47 (rC K' A T.length c)) (hg : W.grownBy W' (some r)) : RefAt W' U r A c xs K' T := by
  refine ⟨h.hr, hb, ⟨ownsRow_stay h.fr.row (fun g hg' => ?_), h.fr.foot, h.fr.els.stay (fun A m l hl => hl.blk h.blk hg (by decide))⟩⟩
  refine hg.block g (World.ownsRow.lt h.fr.row g hg').2 (fun e => ?_)
  injection e with e
  subst e
  obtain ⟨_, cs, hc⟩ := row_cells h.fr.row _ hg'
  have hb' := h.blk
  unfold Blk at hb'
  rw [hc] at hb'
  injection hb' with hb'
  injection hb' with _ h2 _
  exact absurd h2 (by decide)
theorem RefD.wf (h : RefD W U r S) : DWf S := h.1
theorem RefD.stay (h : RefD W U r S) (hs : W.heap.size ≤ W'.heap.size) (hk : ∀ j, j < W.heap.size → U j → W'.heap[j]? = W.heap[j]?) : RefD W' U r S := by
  obtain ⟨h0, A, c, xs, h1⟩ := h; exact ⟨h0, A, c, xs, h1.stay hs hk⟩
theorem RefD.more (h : RefD W U r S) (hV : ∀ j, j < W.heap.size → U j → V j) : RefD W V r S := by
  obtain ⟨h0, A, c, xs, h1⟩ := h; exact ⟨h0, A, c, xs, h1.more hV⟩
theorem RefD.below {C : Nat} (h : RefD W U r S) (hb : Below C W W') (hC : W.heap.size ≤ C) : RefD W' U r S :=
  h.stay hb.size (fun j hj _ => hb.block j (Nat.lt_of_lt_of_le hj hC))
/-- a cell of a file -/
theorem FRow.cell (h : FRow W U A n c xs T) {i k : Nat} {v : Value} (hi : xs[i * 3 + k]? = some v) : ∃ g, A = some ⟨g, 0, none⟩ ∧ g < W.heap.size ∧ W.cell? (((⟨g, 0, none⟩ : Addr).add (i * 3)).add k) = some v := by
  have hl := h.row.1
  have hlt := (List.getElem?_eq_some_iff.1 hi).1
  obtain ⟨g, cap, e, _⟩ := World.ownsRow.form h.row (by omega)
  injection e with e1 e2 e3
  have hlt := (World.ownsRow.lt h.row g (by rw [e1]; rfl)).2
  refine ⟨g, e1, hlt, ?_⟩
  have := World.ownsRow.cells h.row (g := g) (by rw [e1]; rfl) (i * 3 + k) v hi
  rw [Addr.add_add]
  exact this
end
end Go.Proofs.YtebeidnmplnlpaaGreat
end

section
set_option maxRecDepth 10000
namespace Go.Proofs.YtebeidnmplnlpaaGreat
set_option linter.unusedVariables false
open Go.RowKit

/-- one went on to another world and footprint: what lay outside stays, and stays outside -/
structure Step (W : World) (U : Foot) (W' : World) (U' : Foot) : Prop where
  out : Out U W W'
  sub : ∀ j, U' j → U j ∨ W.heap.size ≤ j
section
variable {W W' W'' : World} {U U' U'' : Foot}
theorem Step.refl (W : World) (U : Foot) : Step W U W U := ⟨Out.refl _ _, fun j h => .inl h⟩
theorem Step.trans (h : Step W U W' U') (k : Step W' U' W'' U'') : Step W U W'' U'' := by
  have hs := h.out.size
  refine ⟨⟨k.out.os.trans h.out.os, k.out.tape.trans h.out.tape, k.out.output.trans h.out.output, Nat.le_trans hs k.out.size, fun j hj hu => ?_⟩, fun j hj => ?_⟩
  · rw [k.out.block j (by omega) (fun h' => ?_), h.out.block j hj hu]
    rcases h.sub j h' with h' | h'
    · exact hu h'
    · omega
  · rcases k.sub j hj with h' | h'
    · exact h.sub j h'
    · right; omega
theorem Step.new (h : Below W.heap.size W W') : Step W U W' U := ⟨Out.new h, fun j hj => .inl hj⟩
theorem Step.size (h : Step W U W' U') : W.heap.size ≤ W'.heap.size := h.out.size
theorem Step.below {B : Nat} (h : Step W U W' U') (hU : ∀ j, U j → B ≤ j) (hB : B ≤ W.heap.size) : Below B W W' := h.out.below hU hB
theorem Step.min {B : Nat} (h : Step W U W' U') (hU : ∀ j, U j → B ≤ j) (hB : B ≤ W.heap.size) : ∀ j, U' j → B ≤ j := fun j hj => by
  rcases h.sub j hj with h' | h'
  · exact hU j h'
  · omega
/-- a value whose block is not of the footprint -/
def Free (U : Foot) (v : Value) : Prop := ∀ g, v.ownBlock = some g → ¬ U g
theorem Free.new {B e s n : Nat} {v : Value} {xs : List Value} (h : W'.ownsRow B e s v n xs) (hU : ∀ j, U j → j < B) : Free U v := fun g hg hu => by
  have := (World.ownsRow.lt h g hg).1
  have := hU g hu
  omega
theorem Step.rows {B e s n : Nat} {v : Value} {xs : List Value} (h : Step W U W' U') (ho : W.ownsRow B e s v n xs) (hf : Free U v) : W'.ownsRow B e s v n xs ∧ Free U' v := by
  refine ⟨ownsRow_stay ho (fun g hg => h.out.block g (World.ownsRow.lt ho g hg).2 (hf g hg)), fun g hg hu => ?_⟩
  rcases h.sub g hu with h' | h'
  · exact hf g hg h'
  · have := (World.ownsRow.lt ho g hg).2; omega
theorem Step.own {B n : Nat} {v : Value} {l : List UInt8} (h : Step W U W' U') (ho : Own W B v n l) (hf : Free U v) : Own W' B v n l ∧ Free U' v := h.rows ho hf
theorem Step.off {B s n : Nat} {A : Option Addr} {l : List Value} (h : Step W U W' U') (hr : Reads W B s A n l) (hB : B ≤ W.heap.size) (ho : Off U A n) : Reads W' B s A n l ∧ Off U' A n := by
  refine ⟨hr.out hB ho h.out, fun h0 => ?_⟩
  obtain ⟨ad, e, hu⟩ := ho h0
  refine ⟨ad, e, fun h' => ?_⟩
  obtain ⟨ad', e', hl, _⟩ := hr.2 h0
  rw [e] at e'
  obtain rfl := Option.some.inj e'
  rcases h.sub _ h' with h' | h'
  · exact hu h'
  · omega
theorem Step.blk {g T : Nat} {cs : Array Value} (h : Step W U W' U') (hb : Blk W g T cs) (hf : ¬ U g) : Blk W' g T cs ∧ ¬ U' g := by
  refine ⟨(h.out.block g hb.lt hf).trans hb, fun hu => ?_⟩
  rcases h.sub g hu with h' | h'
  · exact hf h'
  · have := hb.lt; omega
end
/-- a disk in its footprint -/
structure Dsk (W : World) (U : Foot) (d : Nat) (S : DS) : Prop where
  disk : Disk W U d S
  lt : ∀ j, U j → j < W.heap.size
section
variable {W W' : World} {U V : Foot} {d : Nat} {S S' : DS}
theorem Dsk.wf (h : Dsk W U d S) : DWf S := h.disk.wf
theorem Dsk.below (h : Dsk W U d S) (hb : Below W.heap.size W W') : Dsk W' U d S := ⟨h.disk.below hb (Nat.le_refl _), fun j hj => Nat.lt_of_lt_of_le (h.lt j hj) hb.size⟩
theorem Dsk.apart {V' : Foot} (h : Dsk W U d S) (hs : Step W V W' V') (hn : ∀ j, U j → ¬ V j) : Dsk W' U d S ∧ ∀ j, U j → ¬ V' j :=
  ⟨⟨h.disk.stay hs.size (fun j hj hu => hs.out.block j hj (hn j hu)), fun j hj => Nat.lt_of_lt_of_le (h.lt j hj) hs.size⟩, fun j hj hv => by
    rcases hs.sub j hv with h' | h'
    · exact hn j hj h'
    · have := h.lt j hj; omega⟩
def grow (U : Foot) (W : World) : Foot := fun j => U j ∨ W.heap.size ≤ j
theorem grow_up (U : Foot) (W : World) : Up (grow U W) W := fun j hj => .inr hj
theorem Dsk.more (h : Dsk W U d S) : Disk W (grow U W) d S := h.disk.more (fun j _ hj => .inl hj)
theorem Dsk.op (h : Disk W' (grow U W) d S') (hO : Out (grow U W) W W') : ∃ U', Dsk W' U' d S' ∧ Step W U W' U' := by
  refine ⟨fun j => grow U W j ∧ j < W'.heap.size, ⟨h.more (fun j hj hu => ⟨hu, hj⟩), fun j hj => hj.2⟩, ⟨⟨hO.os, hO.tape, hO.output, hO.size, fun j hj hu => hO.block j hj (fun h' => ?_)⟩, fun j hj => hj.1⟩⟩
  rcases h' with h' | h'
  · exact hu h'
  · omega
end
theorem oNew (W : World) (room : Int) : Calls Tryz.prog 4 #[.int .i64 room] W fun e W' => ∃ d U, e = .returned (.pointer (some ⟨d, 0, none⟩)) ∧ Dsk W' U d (DS.new room) ∧ (∀ j, U j → W.heap.size ≤ j) ∧ Below W.heap.size W W' := by
  refine (dNew_any W room).mono ?_
  rintro e W' ⟨d, rfl, h, hB⟩
  exact ⟨d, fun j => W.heap.size ≤ j ∧ j < W'.heap.size, rfl, ⟨h.more (fun j h1 h2 => ⟨h2, h1⟩), fun j hj => hj.2⟩, fun j hj => hj.1, hB⟩
section
variable (W : World) (U : Foot) (d : Nat) (S : DS)
theorem oCreate (s : List UInt8) (h : Dsk W U d S) (hc : S.k.calls < 1000000) (hs : s.length ≤ 1000) :
    Calls Tryz.prog 9 #[.pointer (some ⟨d, 0, none⟩), .string (txt s)] W fun e W' => e = .returned (.int .i64 (S.create s).1) ∧ ∃ U', Dsk W' U' d (S.create s).2 ∧ Step W U W' U' := by
  refine (dCreate_any W (grow U W) d S s h.more hc hs (grow_up U W)).mono ?_
  rintro e W' ⟨rfl, h2, hO⟩
  exact ⟨rfl, Dsk.op h2 hO⟩
theorem oAppend (s : List UInt8) (n k : Nat) (A : Option Addr) (b : List UInt8) (h : Dsk W U d S) (hc : S.k.calls < 1000000) (hs : s.length ≤ 1000) (hr : Src W (grow U W) A n b) (hn : n ≤ 140737488351232) (hnk : n ≤ k) :
    Calls Tryz.prog 11 #[.pointer (some ⟨d, 0, none⟩), .string (txt s), .slice A n k] W fun e W' => e = .returned (.int .i64 (S.append s b).1) ∧ ∃ U', Dsk W' U' d (S.append s b).2 ∧ Step W U W' U' := by
  refine (dAppend_any W (grow U W) d S s n k A b h.more hc hs hr hn hnk (grow_up U W)).mono ?_
  rintro e W' ⟨rfl, h2, hO⟩
  exact ⟨rfl, Dsk.op h2 hO⟩
theorem oSync (s : List UInt8) (h : Dsk W U d S) (hc : S.k.calls < 1000000) (hs : s.length ≤ 1000) :
    Calls Tryz.prog 14 #[.pointer (some ⟨d, 0, none⟩), .string (txt s)] W fun e W' => e = .returned (.int .i64 (S.sync s).1) ∧ ∃ U', Dsk W' U' d (S.sync s).2 ∧ Step W U W' U' := by
  refine (dSync_any W (grow U W) d S s h.more hc hs).mono ?_
  rintro e W' ⟨rfl, h2, hO⟩
  exact ⟨rfl, Dsk.op h2 hO⟩
theorem oRemove (s : List UInt8) (h : Dsk W U d S) (hc : S.k.calls < 1000000) (hs : s.length ≤ 1000) :
    Calls Tryz.prog 69 #[.pointer (some ⟨d, 0, none⟩), .string (txt s)] W fun e W' => e = .returned (.int .i64 (S.remove s).1) ∧ ∃ U', Dsk W' U' d (S.remove s).2 ∧ Step W U W' U' := by
  refine (dRemove_any W (grow U W) d S s h.more hc hs).mono ?_
  rintro e W' ⟨rfl, h2, hO⟩
  exact ⟨rfl, Dsk.op h2 hO⟩
theorem oRename (s t : List UInt8) (h : Dsk W U d S) (hc : S.k.calls < 1000000) (hs : s.length ≤ 1000) (ht : t.length ≤ 1000) :
    Calls Tryz.prog 68 #[.pointer (some ⟨d, 0, none⟩), .string (txt s), .string (txt t)] W fun e W' => e = .returned (.int .i64 (S.rename s t).1) ∧ ∃ U', Dsk W' U' d (S.rename s t).2 ∧ Step W U W' U' := by
  refine (dRename_any W (grow U W) d S s t h.more hc hs ht).mono ?_
  rintro e W' ⟨rfl, h2, hO⟩
  exact ⟨rfl, Dsk.op h2 hO⟩
theorem oList (h : Dsk W U d S) :
    Calls Tryz.prog 36 #[.pointer (some ⟨d, 0, none⟩)] W fun e W' => ∃ A k, e = .returned (.slice A S.t.length k) ∧ W'.ownsRow W.heap.size 9 1 (.slice A S.t.length k) S.t.length ((S.t.map (·.1)).map encStr) ∧ Below W.heap.size W W' := dList_any W U d S h.disk
theorem oRead (s : List UInt8) (h : Dsk W U d S) (hs : s.length ≤ 1000) :
    Calls Tryz.prog 39 #[.pointer (some ⟨d, 0, none⟩), .string (txt s)] W fun e W' => ∃ v, e = .returned v ∧ readR W' W.heap.size S.t s v ∧ Below W.heap.size W W' := dRead_any W U d S s h.disk hs
theorem oCalls (h : Dsk W U d S) :
    Calls Tryz.prog 19 #[.pointer (some ⟨d, 0, none⟩)] W fun e W' => e = .returned (.int .i64 S.k.calls) ∧ W' = W := dCalls_any W U d S h.disk
end
end Go.Proofs.YtebeidnmplnlpaaGreat
end

section
namespace Go.Proofs.YtebeidnmplnlpaaGreat.Wire
set_option linter.unusedVariables false

/-- a number in groups of seven bits -/
def var : Nat → Nat → List UInt8
  | 0, u => [UInt8.ofNat u]
  | f + 1, u => if u < 128 then [UInt8.ofNat u] else UInt8.ofNat (u % 128 + 128) :: var f (u / 128)
/-- the sign below -/
def zz (v : Int) : Nat := if 0 ≤ v then (2 * v).toNat else (-2 * v - 1).toNat
def int (v : Int) : List UInt8 := var 9 (zz v)
def bool (t : Bool) : List UInt8 := [if t then 1 else 0]
def text (s : List UInt8) : List UInt8 := int s.length ++ s

theorem zz_lt {v : Int} (h : -9223372036854775808 ≤ v ∧ v ≤ 9223372036854775807) : zz v < 18446744073709551616 := by unfold zz; split <;> omega
theorem var_pos : ∀ (f u : Nat), 1 ≤ (var f u).length
  | 0, _ => by simp [var]
  | f + 1, u => by unfold var; split <;> simp
theorem var_le : ∀ (f u : Nat), (var f u).length ≤ f + 1
  | 0, _ => by simp [var]
  | f + 1, u => by
    unfold var
    split
    · simp
    · have := var_le f (u / 128); simp; omega
/-- what groups of seven bits say: the number, and what is left -/
def dec : Nat → Bool → List UInt8 → Option (Nat × List UInt8)
  | _, _, [] => none
  | 0, first, x :: r => if 1 < x.toNat ∨ (first = false ∧ x.toNat = 0) then none else some (x.toNat, r)
  | f + 1, first, x :: r => if first = false ∧ x.toNat = 0 then none else if x.toNat < 128 then some (x.toNat, r) else (dec f false r).map fun p => (x.toNat - 128 + 128 * p.1, p.2)
def uz (u : Nat) : Int := if u % 2 = 1 then -((u / 2 : Nat) : Int) - 1 else ((u / 2 : Nat) : Int)
/-- the number at the head of bytes, and what is left -/
def getInt (l : List UInt8) : Option (Int × List UInt8) := (dec 9 true l).map fun p => (uz p.1, p.2)

theorem uz_zz (v : Int) : uz (zz v) = v := by unfold uz zz; split <;> split <;> omega
theorem zz_uz (u : Nat) : zz (uz u) = u := by unfold uz zz; split <;> split <;> omega
theorem ofNat_toNat {u : Nat} (h : u < 256) : (UInt8.ofNat u).toNat = u := by rw [UInt8.toNat_ofNat']; omega
theorem dec_var : ∀ (f : Nat) (first : Bool) (u : Nat) (r : List UInt8), u < 2 * 128 ^ f → (first = true ∨ u ≠ 0) → dec f first (var f u ++ r) = some (u, r)
  | 0, first, u, r, h, h0 => by
    simp only [var, List.cons_append, List.nil_append, dec]
    rw [ofNat_toNat (by omega), if_neg]
    rintro (h1 | ⟨h1, h2⟩)
    · omega
    · rcases h0 with h0 | h0
      · rw [h0] at h1; cases h1
      · exact h0 h2
  | f + 1, first, u, r, h, h0 => by
    have hne : ¬ (first = false ∧ u = 0) := by
      rintro ⟨h1, h2⟩
      rcases h0 with h0 | h0
      · rw [h0] at h1; cases h1
      · exact h0 h2
    unfold var
    by_cases hu : u < 128
    · rw [if_pos hu]
      simp only [List.cons_append, List.nil_append, dec]
      rw [ofNat_toNat (by omega), if_neg hne, if_pos hu]
    · rw [if_neg hu]
      simp only [List.cons_append, dec]
      rw [ofNat_toNat (by omega), if_neg (by omega), if_neg (by omega), dec_var f false (u / 128) r (by rw [Nat.pow_succ] at h; omega) (.inr (by omega))]
      simp
      omega
theorem var_dec : ∀ (f : Nat) (first : Bool) (l : List UInt8) (u : Nat) (r : List UInt8), dec f first l = some (u, r) → l = var f u ++ r ∧ u < 2 * 128 ^ f ∧ (first = true ∨ u ≠ 0)
  | f, first, [], u, r, h => by cases f <;> simp [dec] at h
  | 0, first, x :: l, u, r, h => by
    simp only [dec] at h
    split at h
    · cases h
    · rename_i hc
      simp only [Option.some.injEq, Prod.mk.injEq] at h
      obtain ⟨rfl, rfl⟩ := h
      have hc' : ¬ 1 < x.toNat := fun k => hc (.inl k)
      refine ⟨by simp [var], by omega, ?_⟩
      cases first
      · exact .inr fun k => hc (.inr ⟨rfl, k⟩)
      · exact .inl rfl
  | f + 1, first, x :: l, u, r, h => by
    have hx := x.toNat_lt
    simp only [dec] at h
    split at h
    · cases h
    · rename_i hc
      split at h
      · rename_i h1
        simp only [Option.some.injEq, Prod.mk.injEq] at h
        obtain ⟨rfl, rfl⟩ := h
        refine ⟨by simp [var, h1], by have : 0 < 128 ^ f := Nat.pow_pos (by omega); rw [Nat.pow_succ]; omega, ?_⟩
        cases first
        · exact .inr fun k => hc ⟨rfl, k⟩
        · exact .inl rfl
      · rename_i h1
        obtain ⟨⟨u', r'⟩, hd, he⟩ := Option.map_eq_some_iff.1 h
        simp only [Prod.mk.injEq] at he
        obtain ⟨rfl, rfl⟩ := he
        obtain ⟨e1, e2, e3⟩ := var_dec f false l u' r' hd
        have e4 : u' ≠ 0 := by rcases e3 with e3 | e3; cases e3; exact e3
        refine ⟨?_, by rw [Nat.pow_succ]; omega, .inr (by omega)⟩
        unfold var
        rw [if_neg (by omega), show (x.toNat - 128 + 128 * u') % 128 + 128 = x.toNat from by omega, show (x.toNat - 128 + 128 * u') / 128 = u' from by omega]
        simp [e1]
theorem getInt_int {v : Int} (h : -9223372036854775808 ≤ v ∧ v ≤ 9223372036854775807) (r : List UInt8) : getInt (int v ++ r) = some (v, r) := by
  unfold getInt int
  rw [dec_var 9 true (zz v) r (by have := zz_lt h; omega) (.inl rfl)]
  simp [uz_zz]
theorem uz_range {u : Nat} (h : u < 18446744073709551616) : -9223372036854775808 ≤ uz u ∧ uz u ≤ 9223372036854775807 := by unfold uz; split <;> omega
theorem getInt_back {l r : List UInt8} {v : Int} (h : getInt l = some (v, r)) : l = int v ++ r ∧ -9223372036854775808 ≤ v ∧ v ≤ 9223372036854775807 := by
  unfold getInt at h
  obtain ⟨⟨u, r'⟩, hd, he⟩ := Option.map_eq_some_iff.1 h
  simp only [Prod.mk.injEq] at he
  obtain ⟨rfl, rfl⟩ := he
  obtain ⟨e1, e2, _⟩ := var_dec 9 true l u r' hd
  refine ⟨?_, uz_range (by omega)⟩
  unfold int
  rw [zz_uz]
  exact e1
/-- a Reader's state: what is left, or nothing: it isn't Ok -/
def intS : Option (List UInt8) → Int × Option (List UInt8)
  | none => (0, none)
  | some l => match getInt l with
    | none => (0, none)
    | some (v, r) => (v, some r)
def leftS : Option (List UInt8) → Nat
  | none => 0
  | some l => l.length
def endS : Option (List UInt8) → Bool
  | none => false
  | some l => decide (l.length = 0)
def boolS : Option (List UInt8) → Bool × Option (List UInt8)
  | none => (false, none)
  | some [] => (false, none)
  | some (x :: r) => if 1 < x.toNat then (false, none) else (decide (x.toNat = 1), some r)
def countS (most : Int) (s : Option (List UInt8)) : Int × Option (List UInt8) :=
  match intS s with
  | (_, none) => (0, none)
  | (v, some r) => if v < 0 ∨ most < v ∨ (r.length : Int) < v then (0, none) else (v, some r)
def textS (most : Int) (s : Option (List UInt8)) : List UInt8 × Option (List UInt8) :=
  match countS most s with
  | (_, none) => ([], none)
  | (v, some r) => (r.take v.toNat, some (r.drop v.toNat))
def okS : Option (List UInt8) → Bool
  | none => false
  | some _ => true
theorem countS_range {most v : Int} {s : Option (List UInt8)} {r : List UInt8} (h : countS most s = (v, some r)) : 0 ≤ v ∧ v ≤ (r.length : Int) := by
  unfold countS at h
  split at h
  · cases h
  · split at h
    · cases h
    · rename_i hc
      simp only [Prod.mk.injEq, Option.some.injEq] at h
      obtain ⟨rfl, rfl⟩ := h
      omega
theorem intS_none {l : List UInt8} (h : dec 9 true l = none) : intS (some l) = (0, none) := by simp [intS, getInt, h]
theorem intS_some {l r : List UInt8} {u : Nat} (h : dec 9 true l = some (u, r)) : intS (some l) = (uz u, some r) := by simp [intS, getInt, h]
theorem dec_stop {f : Nat} {first : Bool} {x : UInt8} {r : List UInt8} (h : (f = 0 ∧ 1 < x.toNat) ∨ (first = false ∧ x.toNat = 0)) : dec f first (x :: r) = none := by
  cases f with
  | zero =>
    simp only [dec]
    rw [if_pos]
    rcases h with ⟨_, h⟩ | h
    · exact .inl h
    · exact .inr h
  | succ f =>
    simp only [dec]
    rw [if_pos]
    rcases h with ⟨h, _⟩ | h
    · cases h
    · exact h
theorem dec_end {f : Nat} {first : Bool} {x : UInt8} {r : List UInt8} (h1 : f = 0 → x.toNat ≤ 1) (h2 : first = false → x.toNat ≠ 0) (h3 : x.toNat < 128) : dec f first (x :: r) = some (x.toNat, r) := by
  cases f with
  | zero =>
    simp only [dec]
    rw [if_neg]
    rintro (h | ⟨ha, hb⟩)
    · have := h1 rfl; omega
    · exact h2 ha hb
  | succ f =>
    simp only [dec]
    rw [if_neg (fun h => h2 h.1 h.2), if_pos h3]
theorem dec_more {f : Nat} {first : Bool} {x : UInt8} {r : List UInt8} (h3 : 128 ≤ x.toNat) : dec (f + 1) first (x :: r) = (dec f false r).map fun p => (x.toNat - 128 + 128 * p.1, p.2) := by
  simp only [dec]
  rw [if_neg (by omega), if_neg (by omega)]
theorem int_len (v : Int) : 1 ≤ (int v).length ∧ (int v).length ≤ 10 := ⟨var_pos _ _, var_le _ _⟩
end Go.Proofs.YtebeidnmplnlpaaGreat.Wire
end

section
namespace Go.Proofs.YtebeidnmplnlpaaGreat.Wire
set_option linter.unusedVariables false
theorem intS_back {l r : List UInt8} {v : Int} (h : intS (some l) = (v, some r)) : l = int v ++ r ∧ -9223372036854775808 ≤ v ∧ v ≤ 9223372036854775807 := by
  unfold intS at h
  simp only at h
  split at h
  · simp at h
  · rename_i v' r' hg
    simp only [Prod.mk.injEq, Option.some.injEq] at h
    obtain ⟨rfl, rfl⟩ := h
    exact getInt_back hg
theorem intS_bad {s : Option (List UInt8)} {v : Int} (h : intS s = (v, none)) : v = 0 := by
  unfold intS at h
  split at h
  · simp at h; exact h.symm
  · split at h <;> simp at h
    exact h.symm
theorem intS_int {v : Int} (h : -9223372036854775808 ≤ v ∧ v ≤ 9223372036854775807) (r : List UInt8) : intS (some (int v ++ r)) = (v, some r) := by
  simp [intS, getInt_int h]
theorem countS_int {most v : Int} (h : -9223372036854775808 ≤ v ∧ v ≤ 9223372036854775807) (r : List UInt8) : countS most (some (int v ++ r)) = if v < 0 ∨ most < v ∨ (r.length : Int) < v then (0, none) else (v, some r) := by
  simp [countS, intS_int h]
theorem textS_text {most : Int} (t r : List UInt8) (ht : t.length ≤ 9223372036854775807) (hm : (t.length : Int) ≤ most) : textS most (some (text t ++ r)) = (t, some r) := by
  have hc : countS most (some (text t ++ r)) = ((t.length : Int), some (t ++ r)) := by
    unfold text
    rw [List.append_assoc, countS_int ⟨by omega, by omega⟩, if_neg (by simp; omega)]
  unfold textS
  rw [hc]
  simp
end Go.Proofs.YtebeidnmplnlpaaGreat.Wire
end

section
namespace Go.Proofs.YtebeidnmplnlpaaGreat.Crc

/-- one bit's step -/
def bit (r : Nat) : Nat := if r % 2 = 1 then (r / 2) ^^^ 3988292384 else r / 2
/-- n bits' steps -/
def bits : Nat → Nat → Nat
  | 0, r => r
  | n + 1, r => bits n (bit r)
/-- one byte's step -/
def byte (r x : Nat) : Nat := bits 8 (r ^^^ x)
/-- the register behind bytes -/
def reg (r : Nat) (l : List UInt8) : Nat := l.foldl (fun r x => byte r x.toNat) r
def more (s : Nat) (l : List UInt8) : Nat := (reg (4294967295 - s) l) ^^^ 4294967295

theorem xor_lt {a b : Nat} (ha : a < 4294967296) (hb : b < 4294967296) : a ^^^ b < 4294967296 := Nat.xor_lt_two_pow (n := 32) ha hb
theorem bit_lt {r : Nat} (h : r < 4294967296) : bit r < 4294967296 := by
  unfold bit; split
  · exact xor_lt (by omega) (by omega)
  · omega
theorem bits_lt : ∀ (n : Nat) {r : Nat}, r < 4294967296 → bits n r < 4294967296
  | 0, _, h => h
  | n + 1, _, h => bits_lt n (bit_lt h)
theorem bits_succ : ∀ (n r : Nat), bits (n + 1) r = bit (bits n r)
  | 0, _ => rfl
  | n + 1, r => bits_succ n (bit r)
theorem byte_lt {r : Nat} (h : r < 4294967296) (x : UInt8) : byte r x.toNat < 4294967296 :=
  bits_lt 8 (xor_lt h (by have := x.toNat_lt; omega))
theorem reg_lt : ∀ (l : List UInt8) {r : Nat}, r < 4294967296 → reg r l < 4294967296
  | [], _, h => h
  | x :: l, _, h => reg_lt l (byte_lt h x)
theorem reg_snoc (r : Nat) (l : List UInt8) (x : UInt8) : reg r (l ++ [x]) = byte (reg r l) x.toNat := by simp [reg]
theorem more_lt {s : Nat} (h : s < 4294967296) (l : List UInt8) : more s l < 4294967296 := xor_lt (reg_lt l (by omega)) (by omega)
theorem not_eq {s : Nat} (h : s < 4294967296) : 4294967295 - s = s ^^^ 4294967295 := by
  have e := BitVec.toNat_not (x := BitVec.ofNat 32 s)
  have e2 := congrArg BitVec.toNat (BitVec.xor_allOnes (x := BitVec.ofNat 32 s))
  rw [e, BitVec.toNat_xor] at e2
  simp only [BitVec.toNat_ofNat, BitVec.toNat_allOnes] at e2
  rw [Nat.mod_eq_of_lt (by omega)] at e2
  simpa using e2.symm
theorem not_not {s : Nat} (h : s < 4294967296) : 4294967295 - (s ^^^ 4294967295) = s := by rw [← not_eq h]; omega
theorem two_test (q y : Nat) : ((q : Int) % 2 != ((y : Int)).tmod 2 % 4294967296) = decide (q % 2 ≠ y % 2) := by
  rw [Int.tmod_eq_emod_of_nonneg (by omega), Bool.eq_iff_iff]
  simp
  omega
/-- the other text's step: the byte is not laid into the register ahead -/
def two (q y : Nat) : Nat := if q % 2 ≠ y % 2 then (q / 2) ^^^ 3988292384 else q / 2
theorem two_pos {q y : Nat} (h : ((q : Int) % 2 != ((y : Int)).tmod 2 % 4294967296) = true) : two q y = (q / 2) ^^^ 3988292384 := by
  rw [two_test] at h; unfold two; exact if_pos (of_decide_eq_true h)
theorem two_neg {q y : Nat} (h : ((q : Int) % 2 != ((y : Int)).tmod 2 % 4294967296) = false) : two q y = q / 2 := by
  rw [two_test] at h; unfold two; exact if_neg (of_decide_eq_false h)
theorem two_pos' {q x k : Nat} (h : ((q : Int) % 2 != ((x : Int) / 2 ^ k).tmod 2 % 4294967296) = true) : two q (x / 2 ^ k) = (q / 2) ^^^ 3988292384 :=
  two_pos (by rw [← h]; simp)
theorem two_neg' {q x k : Nat} (h : ((q : Int) % 2 != ((x : Int) / 2 ^ k).tmod 2 % 4294967296) = false) : two q (x / 2 ^ k) = q / 2 :=
  two_neg (by rw [← h]; simp)
theorem two_lt {q y : Nat} (h : q < 4294967296) : two q y < 4294967296 := by
  unfold two; split
  · exact xor_lt (by omega) (by omega)
  · omega
theorem two_bit (q y : Nat) : two q y ^^^ (y / 2) = bit (q ^^^ y) := by
  have e : (q ^^^ y) % 2 = 1 ↔ ¬(q % 2 = 1 ↔ y % 2 = 1) := Nat.xor_mod_two_eq_one
  unfold two bit
  rw [Nat.xor_div_two]
  by_cases h : q % 2 ≠ y % 2
  · rw [if_pos h, if_pos (e.2 (by omega)), Nat.xor_assoc, Nat.xor_comm 3988292384, ← Nat.xor_assoc]
  · rw [if_neg h, if_neg (fun k => (e.1 k) (by omega))]
theorem two_bits {q x k r : Nat} (h : q ^^^ (x / 2 ^ k) = bits k r) : two q (x / 2 ^ k) ^^^ (x / 2 ^ (k + 1)) = bits (k + 1) r := by
  rw [bits_succ, ← h, ← two_bit, Nat.pow_succ, Nat.div_div_eq_div_mul]

/-! ### the sum is linear -/
theorem xor_cancel {a b c : Nat} (h : a ^^^ c = b ^^^ c) : a = b := by
  have := congrArg (· ^^^ c) h
  simpa [Nat.xor_assoc] using this
theorem xor_zero {a b : Nat} (h : a ^^^ b = 0) : a = b := xor_cancel (c := b) (by rw [h, Nat.xor_self])
/-! ### up to 32 bits in a row -/
/-- bytes as one number, the first one lowest -/
def num : List UInt8 → Nat
  | [] => 0
  | x :: l => x.toNat + 256 * num l
theorem num_lt : ∀ (l : List UInt8), num l < 2 ^ (8 * l.length)
  | [] => by simp [num]
  | x :: l => by
    have h := num_lt l
    have hx := x.toNat_lt
    simp only [num, List.length_cons]
    rw [show 8 * (l.length + 1) = 8 * l.length + 8 from by omega, Nat.pow_add]
    omega
theorem num_inj : ∀ (l m : List UInt8), l.length = m.length → num l = num m → l = m
  | [], [], _, _ => rfl
  | x :: l, y :: m, h, e => by
    have hx := x.toNat_lt
    have hy := y.toNat_lt
    simp only [num] at e
    have e1 : x = y := UInt8.toNat_inj.1 (by omega)
    rw [e1, num_inj l m (by simpa using h) (by omega)]
  | [], _ :: _, h, _ => by simp at h
  | _ :: _, [], h, _ => by simp at h
end Go.Proofs.YtebeidnmplnlpaaGreat.Crc
end

section
namespace Go.Proofs.YtebeidnmplnlpaaGreat.Frame
set_option linter.unusedVariables false

def le4 (s : Nat) : List UInt8 := [UInt8.ofNat s, UInt8.ofNat (s / 2 ^ 8), UInt8.ofNat (s / 2 ^ 16), UInt8.ofNat (s / 2 ^ 24)]
def sum (body : List UInt8) : Nat := Crc.more (Crc.more 0 (Wire.int body.length)) body
def put (body : List UInt8) : List UInt8 := Wire.int body.length ++ le4 (sum body) ++ body
theorem sum_lt (body : List UInt8) : sum body < 4294967296 := Crc.more_lt (Crc.more_lt (by omega) _) _
theorem le4_len (s : Nat) : (le4 s).length = 4 := rfl
theorem put_len (body : List UInt8) : (put body).length = (Wire.int body.length).length + 4 + body.length := by simp [put, le4_len]; omega
theorem num_le4 {s : Nat} (h : s < 4294967296) : Crc.num (le4 s) = s := by
  simp only [le4, Crc.num, UInt8.toNat_ofNat']
  omega
theorem le4_num {l : List UInt8} (h : l.length = 4) : le4 (Crc.num l) = l := by
  have h2 : Crc.num l < 4294967296 := by have := Crc.num_lt l; rw [h] at this; exact this
  exact Crc.num_inj _ _ (by rw [le4_len, h]) (num_le4 h2)

/-- the frame at the head of bytes: its body, what is behind it -/
def first (l : List UInt8) : Option (List UInt8 × List UInt8) :=
  match Wire.intS (some l) with
  | (n, some r) => if 1 ≤ n ∧ n ≤ 1048576 ∧ 4 + n.toNat ≤ r.length ∧ r.take 4 = le4 (sum ((r.drop 4).take n.toNat)) then some ((r.drop 4).take n.toNat, r.drop (4 + n.toNat)) else none
  | _ => none
theorem int_small {n : Nat} (h : n ≤ 1048576) (r : List UInt8) : Wire.intS (some (Wire.int (n : Int) ++ r)) = ((n : Int), some r) := Wire.intS_int (by omega) r
theorem first_put {body : List UInt8} (r : List UInt8) (h1 : 1 ≤ body.length) (h2 : body.length ≤ 1048576) : first (put body ++ r) = some (body, r) := by
  unfold first put
  rw [List.append_assoc, List.append_assoc, int_small h2]
  have e1 : (le4 (sum body) ++ (body ++ r)).take 4 = le4 (sum body) := List.take_left' (le4_len _)
  have e2 : (le4 (sum body) ++ (body ++ r)).drop 4 = body ++ r := List.drop_left' (le4_len _)
  have e3 : (body ++ r).take body.length = body := List.take_left' rfl
  have e4 : (le4 (sum body) ++ (body ++ r)).drop (4 + body.length) = r := by rw [← List.drop_drop, e2, List.drop_left' rfl]
  simp only [Int.toNat_natCast, e1, e2, e3, e4]
  rw [if_pos ⟨by omega, by omega, by simp [le4_len], trivial⟩]
theorem first_some {l body r : List UInt8} (h : first l = some (body, r)) : l = put body ++ r ∧ 1 ≤ body.length ∧ body.length ≤ 1048576 := by
  unfold first at h
  split at h
  · rename_i n r0 hI
    split at h
    · rename_i hc
      obtain ⟨c1, c2, c3, c4⟩ := hc
      simp only [Option.some.injEq, Prod.mk.injEq] at h
      obtain ⟨hb, hr⟩ := h
      obtain ⟨e, _, _⟩ := Wire.intS_back hI
      have hl : body.length = n.toNat := by rw [← hb]; simp; omega
      have hn : ((body.length : Nat) : Int) = n := by omega
      refine ⟨?_, by omega, by omega⟩
      rw [e]
      unfold put
      rw [hn, List.append_assoc, List.append_assoc]
      congr 1
      rw [← hb] at hl ⊢
      rw [← c4, ← hr, ← List.drop_drop, List.take_append_drop, List.take_append_drop]
    · cases h
  · cases h
theorem first_nil : first [] = none := rfl

/-- the frame at a place: a body, the place behind it, an answer -/
def get (l : List UInt8) (at_ : Int) : List UInt8 × Int × Int :=
  if at_ < 0 ∨ (l.length : Int) < at_ then ([], 0, 1) else if at_ = l.length then ([], 0, 3) else
  match first (l.drop at_.toNat) with
  | none => ([], 0, 4)
  | some (body, r) => (body, at_ + (put body).length, 0)
/-- what the first ten bytes say of a number is what all say -/
theorem intS_ten (l : List UInt8) : (Wire.intS (some (l.take 10))).1 = (Wire.intS (some l)).1 ∧ ((Wire.intS (some (l.take 10))).2.isSome = (Wire.intS (some l)).2.isSome) := by
  cases hI : Wire.intS (some l) with
  | mk v o =>
    cases o with
    | some r =>
      obtain ⟨e, h1, h2⟩ := Wire.intS_back hI
      have hl := (Wire.int_len v).2
      have e2 : l.take 10 = Wire.int v ++ r.take (10 - (Wire.int v).length) := by rw [e, List.take_append, List.take_of_length_le hl]
      rw [e2, Wire.intS_int ⟨h1, h2⟩]
      exact ⟨rfl, rfl⟩
    | none =>
      have hv := Wire.intS_bad hI
      cases hJ : Wire.intS (some (l.take 10)) with
      | mk v' o' =>
        cases o' with
        | none => exact ⟨by rw [hv, Wire.intS_bad hJ], rfl⟩
        | some r =>
          exfalso
          obtain ⟨e, h1, h2⟩ := Wire.intS_back hJ
          have e2 : l = Wire.int v' ++ (r ++ l.drop 10) := by rw [← List.append_assoc, ← e, List.take_append_drop]
          rw [e2, Wire.intS_int ⟨h1, h2⟩] at hI
          cases hI
end Go.Proofs.YtebeidnmplnlpaaGreat.Frame
end

section
namespace Go.Proofs.YtebeidnmplnlpaaGreat
set_option linter.unusedVariables false
open Go.RowKit

set_option maxHeartbeats 400000 in
theorem more_any (s : Nat) (hs : s < 4294967296) (A : Option Addr) (n c B : Nat) (l : List UInt8) (w : World) (hl : n ≤ maxLen) (hrd : Reads w B 1 A n (bv l)) :
    Calls Tryz.prog 72 #[.int .u32 (s : Int), .slice A n c] w fun e w' => e = .returned (.int .u32 (Crc.more s l : Nat)) ∧ w = w' := by
  unfold maxLen at hl
  go_enter Tryz.func72, Tryz.ntmps72
  go_wp2
  go_loop [5, 7, 8, 13, 21] (fun r _ _ i _ => ∃ k q : Nat, k ≤ n ∧ q < 4294967296 ∧ Hid (Crc.reg (4294967295 - s) (l.take k) = q) ∧ r = .int .u32 (q : Int) ∧ i = .int .i64 (k : Int)) (fun _ _ _ i _ => n - (intOf i).toNat)
  case atStart =>
    refine ⟨0, 4294967295 - s, by omega, by omega, rfl, ?_, rfl⟩
    rw [show IntKind.u32.max = ((4294967295 : Nat) : Int) from rfl, u32_xor_nat _ _ (by omega) hs, Nat.xor_comm, ← Crc.not_eq hs]
  case round =>
    obtain ⟨k, q, hk, hq, HQ, rfl, rfl⟩ := hrel
    by_cases hlt : k < n
    · obtain ⟨ad, u, rfl, hb, hx, hc⟩ := hrd.at_ hlt
      obtain ⟨x, hx', rfl⟩ := bv_at hx
      have hx1 := x.toNat_lt
      have hq' : q ^^^ x.toNat < 4294967296 := Crc.xor_lt hq (by omega)
      have e1 : bits BinOp.xor IntKind.u32 (q : Int) (x.toNat : Int) = ((q ^^^ x.toNat : Nat) : Int) := u32_xor_nat _ _ hq (by omega)
      go_wp2
      clear e1
      go_loop [5, 8, 21] (fun r _ i => ∃ k' q' : Nat, k' ≤ 8 ∧ q' < 4294967296 ∧ Hid (Crc.bits k' (q ^^^ x.toNat) = q') ∧ r = .int .u32 (q' : Int) ∧ i = .int .i64 (k' : Int)) (fun _ _ i => 8 - (intOf i).toNat)
      case atStart => exact ⟨0, _, by omega, hq', rfl, rfl, rfl⟩
      case round =>
        obtain ⟨k', q', hk', hq2, HQ', rfl, rfl⟩ := hrel
        have e2 : bits BinOp.and IntKind.u32 (q' : Int) 1 = ((q' % 2 : Nat) : Int) := by
          rw [show (1 : Int) = ((1 : Nat) : Int) from rfl, u32_and_nat _ _ hq2 (by omega), nat_mask1]
        by_cases hlt' : k' < 8
        · have e3 : bits BinOp.xor IntKind.u32 ((q' : Int) / 2) 3988292384 = ((q' / 2 ^^^ 3988292384 : Nat) : Int) := by
            rw [show (3988292384 : Int) = ((3988292384 : Nat) : Int) from rfl, show (q' : Int) / 2 = ((q' / 2 : Nat) : Int) from by omega]
            exact u32_xor_nat _ _ (by omega) (by omega)
          go_wp2
          · have ht : q' % 2 = 1 := by
              have : ((q' : Int) % 2 == 1) = true := by assumption
              simp at this; omega
            go_round
            case rel =>
              exact ⟨k' + 1, Crc.bit q', by omega, Crc.bit_lt hq2, by show Crc.bits _ _ = _; rw [Crc.bits_succ, show Crc.bits k' (q ^^^ x.toNat) = q' from HQ'], by simp only [Crc.bit, if_pos ht], by go_num⟩
            case measure => simp [intOf]; omega
          · have ht : ¬ q' % 2 = 1 := by
              have : ((q' : Int) % 2 == 1) = false := by assumption
              simp at this; omega
            go_round
            case rel =>
              exact ⟨k' + 1, Crc.bit q', by omega, Crc.bit_lt hq2, by show Crc.bits _ _ = _; rw [Crc.bits_succ, show Crc.bits k' (q ^^^ x.toNat) = q' from HQ'], by simp only [Crc.bit, if_neg ht]; go_num, by go_num⟩
            case measure => simp [intOf]; omega
        · have h8 : k' = 8 := by omega
          clear e2
          subst h8
          go_wp2
          go_round
          case rel =>
            exact ⟨k + 1, q', by omega, hq2, by show Crc.reg _ _ = _; rw [take_snoc hx', Crc.reg_snoc, show Crc.reg _ _ = q from HQ]; exact HQ', rfl, by go_num⟩
          case measure => simp [intOf]; omega
    · have hkn : l.take k = l := List.take_of_length_le (by have := hrd.1; rw [bv_length] at this; omega)
      rw [hkn] at HQ
      clear hkn
      have e1 : bits BinOp.xor IntKind.u32 IntKind.u32.max (q : Int) = ((q ^^^ 4294967295 : Nat) : Int) := by
        rw [show IntKind.u32.max = ((4294967295 : Nat) : Int) from rfl, u32_xor_nat _ _ (by omega) hq, Nat.xor_comm]
      go_wp2
      go_ret
      refine ⟨?_, rfl⟩
      unfold Crc.more
      rw [show Crc.reg _ _ = q from HQ]
      rfl

set_option maxHeartbeats 400000 in
theorem refMore_any (s : Nat) (hs : s < 4294967296) (A : Option Addr) (n c B : Nat) (l : List UInt8) (w : World) (hl : n ≤ maxLen) (hrd : Reads w B 1 A n (bv l)) :
    Calls Tryz.prog 119 #[.int .u32 (s : Int), .slice A n c] w fun e w' => e = .returned (.int .u32 (Crc.more s l : Nat)) ∧ w = w' := by
  unfold maxLen at hl
  go_enter Tryz.func119, Tryz.ntmps119
  go_wp2
  go_loop [5, 6, 7, 8] (fun r i _ _ => ∃ k q : Nat, k ≤ n ∧ q < 4294967296 ∧ Hid (Crc.reg (4294967295 - s) (l.take k) = q) ∧ r = .int .u32 (q : Int) ∧ i = .int .i64 (k : Int)) (fun _ i _ _ => n - (intOf i).toNat)
  case atStart =>
    refine ⟨0, 4294967295 - s, by omega, by omega, rfl, ?_, rfl⟩
    rw [show (4294967295 : Int) = ((4294967295 : Nat) : Int) from rfl, u32_xor_nat _ _ hs (by omega), ← Crc.not_eq hs]
  case round =>
    obtain ⟨k, q, hk, hq, HQ, rfl, rfl⟩ := hrel
    by_cases hlt : k < n
    · obtain ⟨ad, u, rfl, hb, hx, hc⟩ := hrd.at_ hlt
      obtain ⟨x, hx', rfl⟩ := bv_at hx
      have hx1 := x.toNat_lt
      go_wp2
      go_loop [5, 7, 8] (fun r i _ => ∃ k' q' : Nat, k' ≤ 8 ∧ q' < 4294967296 ∧ Hid (q' ^^^ (x.toNat / 2 ^ k') = Crc.bits k' (q ^^^ x.toNat)) ∧ r = .int .u32 (q' : Int) ∧ i = .int .i64 (k' : Int)) (fun _ i _ => 8 - (intOf i).toNat)
      case atStart => exact ⟨0, q, by omega, hq, by show _ = _; simp [Crc.bits], rfl, rfl⟩
      case round =>
        obtain ⟨k', q', hk', hq2, HQ', rfl, rfl⟩ := hrel
        by_cases hlt' : k' < 8
        · have e3 : bits BinOp.xor IntKind.u32 ((q' : Int) / 2) 3988292384 = ((q' / 2 ^^^ 3988292384 : Nat) : Int) := by
            rw [show (3988292384 : Int) = ((3988292384 : Nat) : Int) from rfl, show (q' : Int) / 2 = ((q' / 2 : Nat) : Int) from by omega]
            exact u32_xor_nat _ _ (by omega) (by omega)
          go_wp2
          · have ht := Crc.two_pos' (q := q') (x := x.toNat) (k := k') ‹_›
            go_round
            case rel => exact ⟨k' + 1, Crc.two q' (x.toNat / 2 ^ k'), by omega, Crc.two_lt hq2, Crc.two_bits HQ', by rw [ht], by go_num⟩
            case measure => simp [intOf]; omega
          · have ht := Crc.two_neg' (q := q') (x := x.toNat) (k := k') ‹_›
            go_round
            case rel => exact ⟨k' + 1, Crc.two q' (x.toNat / 2 ^ k'), by omega, Crc.two_lt hq2, Crc.two_bits HQ', by rw [ht]; go_num, by go_num⟩
            case measure => simp [intOf]; omega
        · have h8 : k' = 8 := by omega
          subst h8
          go_wp2
          go_round
          case rel =>
            refine ⟨k + 1, q', by omega, hq2, ?_, rfl, by go_num⟩
            show Crc.reg _ _ = _
            rw [take_snoc hx', Crc.reg_snoc, show Crc.reg _ _ = q from HQ]
            have e := HQ'.out
            rw [Nat.div_eq_of_lt (by omega), Nat.xor_zero] at e
            exact e.symm
          case measure => simp [intOf]; omega
    · have hkn : l.take k = l := List.take_of_length_le (by have := hrd.1; rw [bv_length] at this; omega)
      rw [hkn] at HQ
      clear hkn
      have e1 : bits BinOp.xor IntKind.u32 (q : Int) 4294967295 = ((q ^^^ 4294967295 : Nat) : Int) := by
        rw [show (4294967295 : Int) = ((4294967295 : Nat) : Int) from rfl, u32_xor_nat _ _ hq (by omega)]
      go_wp2
      go_ret
      refine ⟨?_, rfl⟩
      unfold Crc.more
      rw [show Crc.reg _ _ = q from HQ]
      rfl
end Go.Proofs.YtebeidnmplnlpaaGreat
end

section
namespace Go.Proofs.YtebeidnmplnlpaaGreat
set_option linter.unusedVariables false
open Go.RowKit

set_option maxHeartbeats 400000 in
theorem of_any (A : Option Addr) (n c B : Nat) (l : List UInt8) (w : World) (hl : n ≤ maxLen) (hrd : Reads w B 1 A n (bv l)) :
    Calls Tryz.prog 73 #[.slice A n c] w fun e w' => e = .returned (.int .u32 (Crc.more 0 l : Nat)) ∧ w = w' := by
  go_enter Tryz.func73, Tryz.ntmps73
  go_wp2_with fail
  refine (more_any 0 (by omega) _ _ _ B l _ hl hrd).mono ?_
  rintro e w' ⟨rfl, rfl⟩
  go_wp2
  go_ret
  exact ⟨rfl, rfl⟩
set_option maxHeartbeats 400000 in
theorem refOf_any (A : Option Addr) (n c B : Nat) (l : List UInt8) (w : World) (hl : n ≤ maxLen) (hrd : Reads w B 1 A n (bv l)) :
    Calls Tryz.prog 120 #[.slice A n c] w fun e w' => e = .returned (.int .u32 (Crc.more 0 l : Nat)) ∧ w = w' := by
  go_enter Tryz.func120, Tryz.ntmps120
  go_wp2_with fail
  refine (refMore_any 0 (by omega) _ _ _ B l _ hl hrd).mono ?_
  rintro e w' ⟨rfl, rfl⟩
  go_wp2
  go_ret
  exact ⟨rfl, rfl⟩

end Go.Proofs.YtebeidnmplnlpaaGreat
end

section
namespace Go.Proofs.YtebeidnmplnlpaaGreat
set_option linter.unusedVariables false
open Go.RowKit

theorem slice_lhm (w : World) (A : Option Addr) (n c : Nat) (hk : n ≤ c) :
    (Instr.slice 33 (.slice A n c) none (some (.int .i64 (n : Int))) (some (.int .i64 (n : Int)))).run Tryz.prog w = .ok (.slice A n n) w := by
  rw [run_slice_hm w 33 A n c (by kernel_rfl) .i64 .i64 n n (by omega) (by omega) (by omega)]
  rw [show (sizeOf (Tryz.prog.elem 33)).run Tryz.prog w = .ok 1 w from by kernel_rfl]
  have h := cutA_zero A n
  unfold cutA at h
  simp [Result.andThen, sliced, h]

theorem zz_go {v : Int} (hv : -9223372036854775808 ≤ v ∧ v ≤ 9223372036854775807) :
    bits BinOp.xor IntKind.u64 (IntKind.u64.wrap (IntKind.u64.wrap v * 2)) (IntKind.u64.wrap (v / 9223372036854775808)) = (Wire.zz v : Int) := by
  simp only [IntKind.wrap_u64]
  unfold Wire.zz
  split
  · rename_i h
    rw [show v % 18446744073709551616 * 2 % 18446744073709551616 = (((2 * v).toNat : Nat) : Int) from by omega, show v / 9223372036854775808 % 18446744073709551616 = ((0 : Nat) : Int) from by omega,
      bits_xor_u64_nat _ _ (by omega) (by omega), Nat.xor_zero]
  · rename_i h
    rw [show v % 18446744073709551616 * 2 % 18446744073709551616 = (((2 * v + 18446744073709551616).toNat : Nat) : Int) from by omega,
      show v / 9223372036854775808 % 18446744073709551616 = ((18446744073709551615 : Nat) : Int) from by omega, bits_xor_u64_nat _ _ (by omega) (by omega), u64_not (by omega)]
    omega
set_option maxHeartbeats 400000 in
theorem putInt_any (A : Option Addr) (n c : Nat) (l : List UInt8) (v : Int) (w : World) (hn : n + 10 ≤ 140737488355328) (hnc : n ≤ c) (hv : -9223372036854775808 ≤ v ∧ v ≤ 9223372036854775807)
    (hrd : Reads w w.heap.size 1 A n (bv l)) :
    Calls Tryz.prog 71 #[.slice A n c, .int .i64 v] w fun e w' => ∃ A' m c', e = .returned (.slice A' m c') ∧ Own w' w.heap.size (.slice A' m c') m (l ++ Wire.int v) ∧ Below w.heap.size w w' := by
  have hA : A = none → n = 0 := hrd.none_zero
  have hs1 := fun w => slice_lhm w A n c hnc
  have hz : Hid (Wire.zz v < 2 * 128 ^ 9) := by have := Wire.zz_lt hv; show _ < _; omega
  go_enter Tryz.func71, Tryz.ntmps71
  go_upto_region 2 with fail
  go_cut [5] (fun s5 wx => wx = w ∧ s5 = .int .u64 (Wire.zz v : Int))
  case first =>
    go_wp2
    go_meet
    exact ⟨rfl, by rw [zz_go hv]⟩
  case rest =>
  obtain ⟨rfl, rfl⟩ := hcut
  clear hv
  go_wp2
  go_loopw [0, 5] (fun b u wr => ∃ (m : Nat) (pre : List UInt8) (q f : Nat), u = .int .u64 (q : Int) ∧ AppB wr wc.heap.size b m (l ++ pre) ∧ f ≤ 9 ∧ m + f ≤ n + 9 ∧ Hid (q < 2 * 128 ^ f) ∧
      Hid (pre ++ Wire.var f q = Wire.int v) ∧ Below wc.heap.size wc wr) (fun _ u _ => (intOf u).toNat)
  case atStart =>
    refine ⟨n, [], Wire.zz v, 9, ?_, .inr ⟨A, rfl, by simpa using hrd, hA⟩, by omega, by omega, hz, rfl, Below.refl _ _⟩
    rfl
  case round =>
    obtain ⟨m, pre, q, f, rfl, hap, hf, hm, hq, HV, hbr⟩ := hrel
    obtain ⟨A1, c1, rfl, hc1, hn1⟩ := hap.form
    by_cases hlt : 128 ≤ q
    · have e1 := u8_or128 q
      obtain ⟨x, hx⟩ : ∃ x : UInt8, x.toNat = q % 128 + 128 := ⟨UInt8.ofNat (q % 128 + 128), by rw [UInt8.toNat_ofNat']; omega⟩
      rw [← hx] at e1
      have HX := Lib.hid hx
      clear hx
      have ht : decide ((128 : Int) ≤ (q : Int)) = true := by simp; omega
      have HLT := Lib.hid hlt
      clear hlt
      have hsz := hbr.size
      have hm1 : m + 1 ≤ 140737488355328 := by omega
      go_wp2_with (at_builtin; refine app_grow _ rfl (.tmp 21) (.tmp 25) rfl wc.heap.size _ m (l ++ pre) rfl (hap.alloc hsz _) _ ⟨wr.heap.size, 0, none⟩ 1 1 [x] rfl (reads_new wr [x] _ _ _ rfl 1 rfl) (Nat.le_refl _) hm1 (Nat.le_trans hsz (by simp)) ?_; intro A2 c2 w2 hO2 hb2)
      go_roundw
      case rel =>
        have hq' := hq.out
        have hl' := HLT.out
        obtain ⟨f', rfl⟩ : ∃ f', f = f' + 1 := by
          cases f with
          | zero => omega
          | succ f' => exact ⟨f', rfl⟩
        refine ⟨m + 1, pre ++ [x], q / 128, f', by go_num, .inl (by rw [← List.append_assoc]; exact hO2), by omega, by omega, ?_, ?_, (hbr.alloc hsz _).trans hb2⟩
        · show _ < _
          rw [Nat.pow_succ] at hq'
          omega
        · show _ = _
          rw [← HV.out, List.append_assoc]
          congr 1
          have hxe : x = UInt8.ofNat (q % 128 + 128) := UInt8.toNat_inj.1 (by rw [HX.out, UInt8.toNat_ofNat']; omega)
          conv => rhs; unfold Wire.var
          rw [if_neg (by omega), hxe]
          rfl
      case measure =>
        have hl' := HLT.out
        simp [intOf]; omega
    · have ht : decide ((128 : Int) ≤ (q : Int)) = false := by simp; omega
      have HLT := Lib.hid hlt
      clear hlt
      obtain ⟨x, hx⟩ : ∃ x : UInt8, x.toNat = q := ⟨UInt8.ofNat q, by have := HLT.out; rw [UInt8.toNat_ofNat']; omega⟩
      have e1 : (q : Int) % 256 = (x.toNat : Int) := by have := x.toNat_lt; omega
      have HX := Lib.hid hx
      clear hx
      have hsz := hbr.size
      have hm1 : m + 1 ≤ 140737488355328 := by omega
      go_wp2_with (at_builtin; refine app_grow _ rfl (.tmp 29) (.tmp 32) rfl wc.heap.size _ m (l ++ pre) rfl (hap.alloc hsz _) _ ⟨wr.heap.size, 0, none⟩ 1 1 [x] rfl (reads_new wr [x] _ _ _ rfl 1 rfl) (Nat.le_refl _) hm1 (Nat.le_trans hsz (by simp)) ?_; intro A2 c2 w2 hO2 hb2)
      go_ret
      refine ⟨A2, m + 1, c2, rfl, ?_, (hbr.alloc hsz _).trans hb2⟩
      rw [← HV.out, ← List.append_assoc]
      have hxe : Wire.var f q = [x] := by
        have hl' := HLT.out
        have hxe : x = UInt8.ofNat q := UInt8.toNat_inj.1 (by rw [HX.out, UInt8.toNat_ofNat']; omega)
        cases f with
        | zero => simp [Wire.var, hxe]
        | succ f => unfold Wire.var; rw [if_pos (by omega), hxe]
      rw [hxe]
      exact hO2

set_option maxHeartbeats 400000 in
theorem putBool_any (A : Option Addr) (n c : Nat) (l : List UInt8) (t : Bool) (w : World) (hn : n + 10 ≤ 140737488355328) (hnc : n ≤ c) (hrd : Reads w w.heap.size 1 A n (bv l)) :
    Calls Tryz.prog 74 #[.slice A n c, .bool t] w fun e w' => ∃ A' c', e = .returned (.slice A' (n + 1) c') ∧ Own w' w.heap.size (.slice A' (n + 1) c') (n + 1) (l ++ Wire.bool t) ∧ Below w.heap.size w w' := by
  have hA : A = none → n = 0 := hrd.none_zero
  have hs1 := fun w => slice_lhm w A n c hnc
  have hap : AppB w w.heap.size (.slice A n n) n l := .inr ⟨A, rfl, hrd, hA⟩
  have hm1 : n + 1 ≤ 140737488355328 := by omega
  cases t
  · go_enter Tryz.func74, Tryz.ntmps74
    go_wp2_with (at_builtin; refine app_grow _ rfl (.tmp 12) (.tmp 14) rfl w.heap.size _ n l rfl (hap.alloc (Nat.le_refl _) _) _ ⟨w.heap.size, 0, none⟩ 1 1 [0] rfl (reads_new w [0] _ _ _ rfl 1 rfl) (Nat.le_refl _) hm1 (by simp) ?_; intro A2 c2 w2 hO2 hb2)
    go_ret
    exact ⟨A2, c2, rfl, hO2, ((Below.refl _ _).alloc (Nat.le_refl _) _).trans hb2⟩
  · go_enter Tryz.func74, Tryz.ntmps74
    go_wp2_with (at_builtin; refine app_grow _ rfl (.tmp 12) (.tmp 14) rfl w.heap.size _ n l rfl (hap.alloc (Nat.le_refl _) _) _ ⟨w.heap.size, 0, none⟩ 1 1 [1] rfl (reads_new w [1] _ _ _ rfl 1 rfl) (Nat.le_refl _) hm1 (by simp) ?_; intro A2 c2 w2 hO2 hb2)
    go_ret
    exact ⟨A2, c2, rfl, hO2, ((Below.refl _ _).alloc (Nat.le_refl _) _).trans hb2⟩

set_option maxHeartbeats 400000 in
theorem putText_any (A : Option Addr) (n c : Nat) (l : List UInt8) (s : ByteArray) (w : World) (hn : n + 10 + s.size ≤ 140737488355328) (hnc : n ≤ c) (hrd : Reads w w.heap.size 1 A n (bv l)) :
    Calls Tryz.prog 75 #[.slice A n c, .string s] w fun e w' => ∃ A' m c', e = .returned (.slice A' m c') ∧ Own w' w.heap.size (.slice A' m c') m (l ++ Wire.text s.data.toList) ∧ Below w.heap.size w w' := by
  have hls : Hid (s.data.toList.length = s.size) := by show _ = _; rw [Array.length_toList]; rfl
  have hln := Lib.hid (Wire.int_len (s.size : Int))
  have hlr : Hid (l.length = n) := by have := hrd.1; rw [bv_length] at this; show _ = _; omega
  go_enter Tryz.func75, Tryz.ntmps75
  go_wp2_with fail
  refine (putInt_any _ _ _ l s.size _ (by omega) hnc (by omega) hrd).mono ?_
  rintro e w1 ⟨A1, m1, c1, rfl, hO1, hb1⟩
  have hm1 : m1 + s.size ≤ 140737488355328 := by
    have h1 := hO1.len
    have h2 := hln.out
    have h3 := hlr.out
    rw [List.length_append] at h1
    omega
  go_wp2_with (at_builtin; refine app_text _ rfl (.tmp 8) (.tmp 9) rfl w.heap.size _ m1 _ rfl hO1 s rfl hm1 hb1.size ?_; intro A2 c2 w2 hO2 hb2)
  go_ret
  refine ⟨A2, _, c2, rfl, ?_, hb1.trans hb2⟩
  unfold Wire.text
  rw [hls.out, ← List.append_assoc]
  exact hO2

set_option maxHeartbeats 400000 in
theorem refInt_any (v : Int) (w : World) (hv : -9223372036854775808 ≤ v ∧ v ≤ 9223372036854775807) :
    Calls Tryz.prog 102 #[.int .i64 v] w fun e w' => ∃ A' m c', e = .returned (.slice A' m c') ∧ Own w' w.heap.size (.slice A' m c') m (Wire.int v) ∧ Below w.heap.size w w' := by
  have hz : Hid (Wire.zz v < 2 * 128 ^ 9) := by have := Wire.zz_lt hv; show _ < _; omega
  have h1 : 0 ≤ v → Wire.zz v = (2 * v).toNat := fun h => by unfold Wire.zz; rw [if_pos h]
  have h2 : v < 0 → Wire.zz v = (-2 * v - 1).toNat := fun h => by unfold Wire.zz; rw [if_neg (by omega)]
  have H1 := Lib.hid h1
  have H2 := Lib.hid h2
  clear h1 h2
  go_enter Tryz.func102, Tryz.ntmps102
  go_upto_if 9 with fail
  go_cut [3] (fun s3 wx => wx = w ∧ s3 = .int .u64 (Wire.zz v : Int))
  case first =>
    by_cases hneg : v < 0
    · have e1 : IntKind.u64.wrap (IntKind.u64.wrap (-(v + 1)) * 2 + 1) = (Wire.zz v : Int) := by
        rw [H2.out hneg]; simp only [IntKind.wrap_u64]; omega
      go_wp2
      go_meet
      refine ⟨rfl, congrArg _ ?_⟩
      rw [H2.out hneg]
      omega
    · have hpos : 0 ≤ v := by omega
      go_wp2
      go_meet
      refine ⟨rfl, congrArg _ ?_⟩
      rw [H1.out hpos]
      simp only [IntKind.wrap_u64]
      omega
  case rest =>
  obtain ⟨rfl, rfl⟩ := hcut
  clear hv
  go_wp2
  go_loopw [3, 4] (fun u b wr => ∃ (m : Nat) (pre : List UInt8) (q f : Nat), u = .int .u64 (q : Int) ∧ Own wr wc.heap.size b m pre ∧ f ≤ 9 ∧ m + f ≤ 9 ∧ Hid (q < 2 * 128 ^ f) ∧
      Hid (pre ++ Wire.var f q = Wire.int v) ∧ Below wc.heap.size wc wr) (fun u _ _ => (intOf u).toNat)
  case atStart => exact ⟨0, [], Wire.zz v, 9, rfl, Own.nil _ _, by omega, by omega, hz, rfl, Below.refl _ _⟩
  case round =>
    obtain ⟨m, pre, q, f, rfl, hO, hf, hm, hq, HV, hbr⟩ := hrel
    obtain ⟨A1, c1, rfl⟩ := hO.form
    have hsz := hbr.size
    have hm1 : m + 1 ≤ 140737488355328 := by omega
    by_cases hlt : 128 ≤ q
    · have ht : decide ((128 : Int) ≤ (q : Int)) = true := by simp; omega
      have HLT := Lib.hid hlt
      clear hlt
      obtain ⟨x, hx⟩ : ∃ x : UInt8, x.toNat = q % 128 + 128 := ⟨UInt8.ofNat (q % 128 + 128), by rw [UInt8.toNat_ofNat']; omega⟩
      have e1 : (q : Int) % 128 + 128 = (x.toNat : Int) := by omega
      have e2 : IntKind.u64.wrap ((q : Int) / 128) = (q : Int) / 128 := by
        have hq' := hq.out
        have h9 : 128 ^ f ≤ 128 ^ 9 := Nat.pow_le_pow_right (by omega) hf
        have hq2 : q < 18446744073709551616 := Nat.lt_of_lt_of_le hq' (by omega)
        rw [IntKind.wrap_u64]
        omega
      have HX := Lib.hid hx
      clear hx
      go_wp2_with (at_builtin; refine app_grow _ rfl (.tmp 18) (.tmp 23) rfl wc.heap.size _ m pre rfl (.inl (hO.alloc _)) _ ⟨wr.heap.size, 0, none⟩ 1 1 [x] rfl (reads_new wr [x] _ _ _ rfl 1 rfl) (Nat.le_refl _) hm1 (Nat.le_trans hsz (by simp)) ?_; intro A2 c2 w2 hO2 hb2)
      go_roundw
      case rel =>
        have hq' := hq.out
        have hl' := HLT.out
        obtain ⟨f', rfl⟩ : ∃ f', f = f' + 1 := by
          cases f with
          | zero => omega
          | succ f' => exact ⟨f', rfl⟩
        refine ⟨m + 1, pre ++ [x], q / 128, f', by go_num, hO2, by omega, by omega, ?_, ?_, (hbr.alloc hsz _).trans hb2⟩
        · show _ < _
          rw [Nat.pow_succ] at hq'
          omega
        · show _ = _
          rw [← HV.out, List.append_assoc]
          congr 1
          have hxe : x = UInt8.ofNat (q % 128 + 128) := UInt8.toNat_inj.1 (by rw [HX.out, UInt8.toNat_ofNat']; omega)
          conv => rhs; unfold Wire.var
          rw [if_neg (by omega), hxe]
          rfl
      case measure =>
        have hl' := HLT.out
        simp [intOf]; omega
    · have ht : decide ((128 : Int) ≤ (q : Int)) = false := by simp; omega
      have HLT := Lib.hid hlt
      clear hlt
      obtain ⟨x, hx⟩ : ∃ x : UInt8, x.toNat = q := ⟨UInt8.ofNat q, by have := HLT.out; rw [UInt8.toNat_ofNat']; omega⟩
      have e1 : (q : Int) % 256 = (x.toNat : Int) := by have := x.toNat_lt; omega
      have HX := Lib.hid hx
      clear hx
      go_wp2_with (at_builtin; refine app_grow _ rfl (.tmp 27) (.tmp 30) rfl wc.heap.size _ m pre rfl (.inl (hO.alloc _)) _ ⟨wr.heap.size, 0, none⟩ 1 1 [x] rfl (reads_new wr [x] _ _ _ rfl 1 rfl) (Nat.le_refl _) hm1 (Nat.le_trans hsz (by simp)) ?_; intro A2 c2 w2 hO2 hb2)
      go_ret
      refine ⟨A2, m + 1, c2, rfl, ?_, (hbr.alloc hsz _).trans hb2⟩
      have hxe : Wire.var f q = [x] := by
        have hl' := HLT.out
        have hxe : x = UInt8.ofNat q := UInt8.toNat_inj.1 (by rw [HX.out, UInt8.toNat_ofNat']; omega)
        cases f with
        | zero => simp [Wire.var, hxe]
        | succ f => unfold Wire.var; rw [if_pos (by omega), hxe]
      rw [← HV.out, hxe]
      exact hO2

set_option maxHeartbeats 400000 in
theorem refBool_any (t : Bool) (w : World) :
    Calls Tryz.prog 103 #[.bool t] w fun e w' => ∃ A' c', e = .returned (.slice A' 1 c') ∧ Own w' w.heap.size (.slice A' 1 c') 1 (Wire.bool t) ∧ Below w.heap.size w w' := by
  have hO : ∀ (x : UInt8), Own (w.alloc (.cells #[.int .u8 (x.toNat : Int)] 5)) w.heap.size (.slice (some ⟨w.heap.size, 0, none⟩) 1 1) 1 [x] := fun x =>
    World.ownsRow_lit w #[.int .u8 (x.toNat : Int)] 1 (Nat.le_refl _) (by decide) rfl
  have hb := fun o => (Below.refl w.heap.size w).alloc (Nat.le_refl _) o
  have h0 := hO 0
  have h1 := hO 1
  clear hO
  cases t
  · go_enter Tryz.func103, Tryz.ntmps103
    go_wp2
    go_ret
    exact ⟨_, _, rfl, h0, hb _⟩
  · go_enter Tryz.func103, Tryz.ntmps103
    go_wp2
    go_ret
    exact ⟨_, _, rfl, h1, hb _⟩

set_option maxHeartbeats 400000 in
theorem refText_any (s : ByteArray) (w : World) (hn : 10 + s.size ≤ 140737488355328) :
    Calls Tryz.prog 104 #[.string s] w fun e w' => ∃ A' m c', e = .returned (.slice A' m c') ∧ Own w' w.heap.size (.slice A' m c') m (Wire.text s.data.toList) ∧ Below w.heap.size w w' := by
  have hls : Hid (s.data.toList.length = s.size) := by show _ = _; rw [Array.length_toList]; rfl
  have hln := Lib.hid (Wire.int_len (s.size : Int))
  go_enter Tryz.func104, Tryz.ntmps104
  go_wp2_with fail
  refine (refInt_any s.size _ (by omega)).mono ?_
  rintro e w1 ⟨A1, m1, c1, rfl, hO1, hb1⟩
  have hm1 : m1 + s.size ≤ 140737488355328 := by
    have h1 := hO1.len
    have h2 := hln.out
    omega
  go_wp2_with (at_builtin; refine app_text _ rfl (.tmp 5) (.tmp 6) rfl w.heap.size _ m1 _ rfl hO1 s rfl hm1 hb1.size ?_; intro A2 c2 w2 hO2 hb2)
  go_ret
  refine ⟨A2, _, c2, rfl, ?_, hb1.trans hb2⟩
  unfold Wire.text
  rw [hls.out]
  exact hO2
end Go.Proofs.YtebeidnmplnlpaaGreat
end

section
namespace Go.Proofs.YtebeidnmplnlpaaGreat
set_option linter.unusedVariables false
open Go.RowKit

end Go.Proofs.YtebeidnmplnlpaaGreat
end

section
namespace Go.Proofs.YtebeidnmplnlpaaGreat
set_option linter.unusedVariables false
open Go.RowKit

/-- a Reader in block g: its bytes, its place, whether something was wrong -/
def Rdr (T : TypeId) (w : World) (g : Nat) (l : List UInt8) (p : Nat) (bad : Bool) : Prop :=
  ∃ A n c, Blk w g T #[.slice A n c, .int .i64 (p : Int), .bool bad] ∧ Reads w g 1 A n (bv l) ∧ n ≤ c ∧ n ≤ 4611686018427387904 ∧ p ≤ n
/-- .. told by what is left -/
def RS (T : TypeId) (w : World) (g : Nat) (s : Option (List UInt8)) : Prop :=
  ∃ l p bad, Rdr T w g l p bad ∧ s = if bad then none else some (l.drop p)
theorem Rdr.lt {T : TypeId} {w : World} {g : Nat} {l : List UInt8} {p : Nat} {bad : Bool} (h : Rdr T w g l p bad) : g < w.heap.size := by
  obtain ⟨_, _, _, h, _⟩ := h; exact h.lt
theorem RS.lt {T : TypeId} {w : World} {g : Nat} {s : Option (List UInt8)} (h : RS T w g s) : g < w.heap.size := by
  obtain ⟨_, _, _, h, _⟩ := h; exact h.lt
theorem RS.mk {T : TypeId} {w : World} {g : Nat} {l : List UInt8} {p : Nat} {A : Option Addr} {n c : Nat} {bad : Bool} (hb : Blk w g T #[.slice A n c, .int .i64 (p : Int), .bool bad]) (hr : Reads w g 1 A n (bv l)) (hnc : n ≤ c)
    (hc : n ≤ 4611686018427387904) (hp : p ≤ n) {s : Option (List UInt8)} (hs : s = if bad then none else some (l.drop p)) : RS T w g s := ⟨l, p, bad, ⟨A, n, c, hb, hr, hnc, hc, hp⟩, hs⟩
theorem RS.below {T : TypeId} {w w' : World} {g B : Nat} {s : Option (List UInt8)} (h : RS T w g s) (hb : Below B w w') (hg : g < B) : RS T w' g s := by
  obtain ⟨l, p, bad, ⟨A, n, c, h1, h2, h3⟩, h4⟩ := h
  exact ⟨l, p, bad, ⟨A, n, c, h1.below hb hg, h2.below (hb.mono (by omega)), h3⟩, h4⟩
theorem RS.other {T : TypeId} {w w' : World} {g k : Nat} {s : Option (List UInt8)} (h : RS T w g s) (hb : w.grownBy w' (some k)) (hg : g < k) : RS T w' g s := by
  have hlt := h.lt
  obtain ⟨l, p, bad, ⟨A, n, c, h1, h2, h3⟩, h4⟩ := h
  exact ⟨l, p, bad, ⟨A, n, c, h1.grown hb (fun e => by injection e with e; omega), h2.only hb (by omega) (by omega), h3⟩, h4⟩
theorem RS.drewN {T : TypeId} {w : World} {g : Nat} {s : Option (List UInt8)} (h : RS T w g s) (n : Nat) : RS T (w.drewN n) g s := by
  obtain ⟨l, p, bad, ⟨A, n', c, h1, h2, h3⟩, h4⟩ := h
  exact ⟨l, p, bad, ⟨A, n', c, h1.drewN n, h2.drewN n, h3⟩, h4⟩

theorem uz_go {s : Nat} (h : s < 18446744073709551616) :
    bits BinOp.xor IntKind.i64 (wrap64 ((s : Int) / 2)) (wrap64 (-wrap64 (bits BinOp.and IntKind.u64 (s : Int) 1))) = Wire.uz s := by
  rw [show (1 : Int) = ((1 : Nat) : Int) from rfl, u64_and_nat _ _ h (by omega), nat_mask1]
  have e1 : wrap64 ((s : Int) / 2) = ((s / 2 : Nat) : Int) := by rw [IntWalk.wrap64_in _ ⟨by omega, by omega⟩]; omega
  rw [e1]
  unfold Wire.uz
  by_cases h2 : s % 2 = 1
  · rw [if_pos h2, h2, show wrap64 (-wrap64 ((1 : Nat) : Int)) = -1 from by rw [IntWalk.wrap64_in ((1 : Nat) : Int) ⟨by decide, by decide⟩, IntWalk.wrap64_in _ ⟨by decide, by decide⟩]; rfl, i64_xor_neg _ (by omega)]
  · rw [if_neg h2, show s % 2 = 0 from by omega, show wrap64 (-wrap64 ((0 : Nat) : Int)) = 0 from by rw [IntWalk.wrap64_in ((0 : Nat) : Int) ⟨by decide, by decide⟩, IntWalk.wrap64_in _ ⟨by decide, by decide⟩]; rfl, i64_xor_zero _ (by omega)]

/-- what the loop's round reckons -/
structure IntStep (x : UInt8) (k q y z s : Nat) : Prop where
  e1 : bits BinOp.and IntKind.u8 (x.toNat : Int) 127 = (y : Int)
  e2 : IntKind.u64.wrap (IntKind.u64.wrap (y : Int) * 2 ^ (7 * k)) = (z : Int)
  e3 : bits BinOp.or IntKind.u64 (q : Int) (z : Int) = (s : Int)
theorem intStep (x : UInt8) (k q : Nat) (hk : k ≤ 9) (hq : q < 128 ^ k) (h9 : k = 9 → x.toNat ≤ 1) : ∃ y z s, IntStep x k q y z s ∧ s = q + 128 ^ k * (x.toNat % 128) ∧ s < 18446744073709551616 := by
  have hx := x.toNat_lt
  have hp : 2 ^ (7 * k) = 128 ^ k := by rw [Nat.pow_mul]
  have hz : x.toNat % 128 * 128 ^ k < 18446744073709551616 ∧ q + x.toNat % 128 * 128 ^ k < 18446744073709551616 := by
    rcases Nat.lt_or_ge k 9 with h | h
    · have h8 : 128 ^ k ≤ 128 ^ 8 := Nat.pow_le_pow_right (by omega) (by omega)
      have h7 : x.toNat % 128 * 128 ^ k ≤ 127 * 128 ^ 8 := Nat.mul_le_mul (by omega) h8
      omega
    · obtain rfl : k = 9 := by omega
      have := h9 rfl
      have h7 : x.toNat % 128 * 128 ^ 9 ≤ 1 * 128 ^ 9 := Nat.mul_le_mul (by omega) (Nat.le_refl _)
      omega
  refine ⟨x.toNat % 128, x.toNat % 128 * 128 ^ k, q + 128 ^ k * (x.toNat % 128), ⟨u8_and127 x, ?_, ?_⟩, rfl, by rw [Nat.mul_comm (128 ^ k)]; exact hz.2⟩
  · have e : ((x.toNat % 128 : Nat) : Int) * 2 ^ (7 * k) = ((x.toNat % 128 * 128 ^ k : Nat) : Int) := by rw [← hp]; simp
    rw [IntWalk.u64_in ((x.toNat % 128 : Nat) : Int) (by omega), e, IntWalk.u64_in _ (by omega)]
  · rw [Nat.mul_comm (128 ^ k)]
    exact u64_or_add (i := 7 * k) (by rw [hp]; exact hq) hz.1 (by rw [hp]; exact Nat.dvd_mul_left _ _) hz.2
end Go.Proofs.YtebeidnmplnlpaaGreat
end

section
namespace Go.Proofs.YtebeidnmplnlpaaGreat
set_option linter.unusedVariables false
open Go.RowKit

/-- the frame at the jump -/
def JumpFrame (g : Nat) (a : Act) : Prop := ∃ (u2 u3 u4 u5 u6 u7 u8 u9 u10 u11 u12 u13 u14 u15 u16 u17 u18 u19 u20 u21 u22 u23 u24 u25 u26 u27 u28 u29 u30 u31 u32 u33 u34 u35 u36 u37 u38 u39 u40 u41 u42 u43 u44 u45 u46 u47 u48 u49 u50 u51 u52 u53 u54 u55 u56 u57 u58 u59 u60 u61 u62 u63 u64 u65 u66 u67 u68 u69 u70 u71 u72 u73 u74 u75 u76 u77 u78 u79 u80 : Value), a = { tmps := #[.pointer (some ⟨g, 0, none⟩), undef, u2, u3, u4, u5, u6, u7, u8, u9, u10, u11, u12, u13, u14, u15, u16, u17, u18, u19, u20, u21, u22, u23, u24, u25, u26, u27, u28, u29, u30, u31, u32, u33, u34, u35, u36, u37, u38, u39, u40, u41, u42, u43, u44, u45, u46, u47, u48, u49, u50, u51, u52, u53, u54, u55, u56, u57, u58, u59, u60, u61, u62, u63, u64, u65, u66, u67, u68, u69, u70, u71, u72, u73, u74, u75, u76, u77, u78, u79, u80], defers := [] }

set_option maxRecDepth 100000 in
set_option maxHeartbeats 1000000 in
theorem rInt_ok (w : World) (g : Nat) (l : List UInt8) (a0 : Nat) (hr : Rdr 157 w g l a0 false) :
    Calls Tryz.prog 89 #[.pointer (some ⟨g, 0, none⟩)] w fun e w' =>
      e = .returned (.int .i64 (Wire.intS (some (l.drop a0))).1) ∧ RS 157 w' g (Wire.intS (some (l.drop a0))).2 ∧ w.grownBy w' (some g) := by
  obtain ⟨A, n, c, hb, hrd, hnc, hc, han⟩ := hr
  have hgl := hb.lt
  have hln : Hid (l.length = n) := by have := hrd.1; rw [bv_length] at this; show _ = _; omega
  go_enter Tryz.func89, Tryz.ntmps89
  go_wp2
  refine wp_scope_jumps 0 (fun a' w' => JumpFrame g a' ∧ Hid (Wire.intS (some (l.drop a0)) = (0, none)) ∧ (∃ (A' : Option Addr) (n' c' p' : Nat), Blk w' g 157 #[.slice A' n' c', .int .i64 (p' : Int), .bool false] ∧ Reads w' g 1 A' n' (bv l) ∧ n' ≤ c' ∧ n' ≤ 4611686018427387904 ∧ p' ≤ n') ∧ w.grownBy w' (some g)) (fun _ _ => 0) rfl ?_ ?_
  case refine_2 =>
    rintro a' w' ⟨⟨u2, u3, u4, u5, u6, u7, u8, u9, u10, u11, u12, u13, u14, u15, u16, u17, u18, u19, u20, u21, u22, u23, u24, u25, u26, u27, u28, u29, u30, u31, u32, u33, u34, u35, u36, u37, u38, u39, u40, u41, u42, u43, u44, u45, u46, u47, u48, u49, u50, u51, u52, u53, u54, u55, u56, u57, u58, u59, u60, u61, u62, u63, u64, u65, u66, u67, u68, u69, u70, u71, u72, u73, u74, u75, u76, u77, u78, u79, u80, rfl⟩, HI, ⟨A', n', c', p', hbj, hrj, hnj, hcj, hpj⟩, hgj⟩
    have h0 := hbj.cell 0
    have h1 := hbj.cell 1
    have h2 := hbj.cell 2
    have f2 := hbj.frozen 2
    have hbk : Blk (w'.setCell ⟨g, 2, none⟩ (.bool true)) g 157 #[.slice A' n' c', .int .i64 (p' : Int), .bool true] := hbj.set_ 2 (.bool true)
    have hgk : w.grownBy (w'.setCell ⟨g, 2, none⟩ (.bool true)) (some g) := only_setCell hgj (.inl rfl) _
    simp at h0 h1 h2
    go_wp2
    simp only [Exit.jump]
    go_ret
    rw [HI.out]
    exact ⟨rfl, RS.mk hbk (hrj.only (only_setCell (only_refl w' g) (.inl rfl) _) (Nat.le_of_lt hbj.lt) (Nat.le_refl _)) hnj hcj hpj rfl, hgk⟩
  go_wp2
  go_loopw [3, 4, 5] (fun u i _ wr => ∃ (k q p : Nat), u = .int .u64 (q : Int) ∧ i = .int .i64 (k : Int) ∧ k ≤ 9 ∧ Hid (q < 128 ^ k) ∧ Hid (p = a0 + k) ∧ p ≤ n ∧ Blk wr g 157 #[.slice A n c, .int .i64 (p : Int), .bool false] ∧
      Hid (Wire.dec 9 true (l.drop a0) = (Wire.dec (9 - k) (decide (k = 0)) (l.drop p)).map fun r => (q + 128 ^ k * r.1, r.2)) ∧ w.grownBy wr (some g)) (fun _ i _ _ => 9 - (intOf i).toNat)
  case atStart => exact ⟨0, 0, a0, rfl, rfl, by omega, by show _ < _; simp, rfl, han, hb, by show _ = _; simp, only_refl w g⟩
  case round =>
    obtain ⟨k, q, p, rfl, rfl, hk, hq, HP, hak, hbw, HD, hgr⟩ := hrel
    have h0 := hbw.cell 0
    have h1 := hbw.cell 1
    have h2 := hbw.cell 2
    have f1 := hbw.frozen 1
    have f2 := hbw.frozen 2
    have hszr := hgr.size
    simp at h0 h1 h2
    have t1 : decide ((k : Int) < 10) = true := by simp; omega
    by_cases hlt : p < n
    · obtain ⟨ad, u, hAd, _, hx, hcx⟩ := (hrd.only hgr (by omega) (Nat.le_refl _)).at_ hlt
      obtain ⟨x, hx', rfl⟩ := bv_at hx
      subst hAd
      have hcw : wr.cell? (ad.add p) = some (.int .u8 (x.toNat : Int)) := hcx
      have hld : l.drop p = x :: l.drop (p + 1) := by
        have e := List.drop_eq_getElem_cons (l := l) (i := p) (by have := hln.out; omega)
        rw [e]
        congr 1
        have := List.getElem?_eq_some_iff.1 hx'
        exact this.2
      have HL := Lib.hid hld
      clear hx' hx hcx hld
      have hways : (k = 9 ∧ 1 < x.toNat) ∨ (k = 9 ∧ x.toNat = 0) ∨ (k < 9 ∧ 0 < k ∧ x.toNat = 0) ∨ (k = 9 ∧ x.toNat = 1) ∨ (k < 9 ∧ 0 < k ∧ 0 < x.toNat ∧ x.toNat < 128) ∨ (k = 0 ∧ x.toNat < 128) ∨ (k < 9 ∧ 0 < k ∧ 128 ≤ x.toNat) ∨ (k = 0 ∧ 128 ≤ x.toNat) := by have := x.toNat_lt; omega
      have hbq : ∀ N, Blk ((wr.drewN N).setCell ⟨g, 1, none⟩ (.int .i64 ((p : Int) + 1))) g 157 #[.slice (some ad) n c, .int .i64 ((p + 1 : Nat) : Int), .bool false] := fun N => (hbw.drewN N).set_ 1 (.int .i64 ((p : Int) + 1))
      have hgq : ∀ N, w.grownBy ((wr.drewN N).setCell ⟨g, 1, none⟩ (.int .i64 ((p : Int) + 1))) (some g) := fun N => only_setCell (only_drewN hgr N) (.inl rfl) _
      rcases hways with hway | hway | hway | hway | hway | hway | hway | hway
      · have HW := Lib.hid hway
        have t9 : ((k : Int) == 9) = true := by rw [beq_iff_eq]; omega
        have u1 : decide ((1 : Int) < (x.toNat : Int)) = true := by simp; omega
        clear hway
        go_wp2
        go_quiet (fail)
        go_wp2
        go_quiet (fail)
        go_wp2
        go_step3
        have hde : Wire.intS (some (l.drop a0)) = (0, none) := by
          have hw := HW.out
          apply Wire.intS_none
          rw [HD.out, HL.out, Wire.dec_stop (by simp; omega)]
          rfl
        refine ⟨rfl, ?_, hde, ⟨some ad, n, c, p + 1, hbq _, hrd.only (hgq _) (by omega) (Nat.le_refl _), hnc, hc, by omega⟩, hgq _⟩
        unfold JumpFrame
        repeat apply Exists.intro
        rfl
      · have HW := Lib.hid hway
        have t9 : ((k : Int) == 9) = true := by rw [beq_iff_eq]; omega
        have u1 : decide ((1 : Int) < (x.toNat : Int)) = false := by simp; omega
        have u0 : decide ((0 : Int) < (k : Int)) = true := by simp; omega
        have u0' : decide (0 < k) = true := by simp; omega
        have uz : ((x.toNat : Int) == 0) = true := by rw [beq_iff_eq]; omega
        clear hway
        go_wp2
        go_quiet (fail)
        go_wp2
        go_quiet (fail)
        go_wp2
        go_step3
        have hde : Wire.intS (some (l.drop a0)) = (0, none) := by
          have hw := HW.out
          apply Wire.intS_none
          rw [HD.out, HL.out, Wire.dec_stop (by simp; omega)]
          rfl
        refine ⟨rfl, ?_, hde, ⟨some ad, n, c, p + 1, hbq _, hrd.only (hgq _) (by omega) (Nat.le_refl _), hnc, hc, by omega⟩, hgq _⟩
        unfold JumpFrame
        repeat apply Exists.intro
        rfl
      · have HW := Lib.hid hway
        have t9 : ((k : Int) == 9) = false := by rw [beq_eq_false_iff_ne]; omega
        have u0 : decide ((0 : Int) < (k : Int)) = true := by simp; omega
        have u0' : decide (0 < k) = true := by simp; omega
        have uz : ((x.toNat : Int) == 0) = true := by rw [beq_iff_eq]; omega
        clear hway
        go_wp2
        go_quiet (fail)
        go_wp2
        go_quiet (fail)
        go_wp2
        go_step3
        have hde : Wire.intS (some (l.drop a0)) = (0, none) := by
          have hw := HW.out
          apply Wire.intS_none
          rw [HD.out, HL.out, Wire.dec_stop (by simp; omega)]
          rfl
        refine ⟨rfl, ?_, hde, ⟨some ad, n, c, p + 1, hbq _, hrd.only (hgq _) (by omega) (Nat.le_refl _), hnc, hc, by omega⟩, hgq _⟩
        unfold JumpFrame
        repeat apply Exists.intro
        rfl
      · have HW := Lib.hid hway
        have t9 : ((k : Int) == 9) = true := by rw [beq_iff_eq]; omega
        have u1 : decide ((1 : Int) < (x.toNat : Int)) = false := by simp; omega
        have u0 : decide ((0 : Int) < (k : Int)) = true := by simp; omega
        have u0' : decide (0 < k) = true := by simp; omega
        have uz : ((x.toNat : Int) == 0) = false := by rw [beq_eq_false_iff_ne]; omega
        have u8 : decide ((x.toNat : Int) < 128) = true := by simp; omega
        obtain ⟨y, z, s, hst, hse, hs64⟩ := intStep x k q hk hq.out (by omega)
        obtain ⟨e1, e2, e3⟩ := hst
        have HSE := Lib.hid hse
        have HS := Lib.hid hs64
        clear hse hs64
        clear hway
        go_wp2
        go_quiet (fail)
        go_wp2
        go_quiet (fail)
        go_wp2
        rw [uz_go HS.out]
        simp only [Exit.jump]
        go_ret
        have hde : Wire.intS (some (l.drop a0)) = (Wire.uz s, some (l.drop (p + 1))) := by
          have hw := HW.out
          apply Wire.intS_some
          rw [HD.out, HL.out, Wire.dec_end (by omega) (by simp; omega) (by omega), HSE.out, Nat.mod_eq_of_lt (by omega)]
          rfl
        rw [hde]
        exact ⟨rfl, RS.mk (p := p + 1) (hbq _) (hrd.only (hgq _) (by omega) (Nat.le_refl _)) hnc hc (by omega) rfl, hgq _⟩
      · have HW := Lib.hid hway
        have t9 : ((k : Int) == 9) = false := by rw [beq_eq_false_iff_ne]; omega
        have u0 : decide ((0 : Int) < (k : Int)) = true := by simp; omega
        have u0' : decide (0 < k) = true := by simp; omega
        have uz : ((x.toNat : Int) == 0) = false := by rw [beq_eq_false_iff_ne]; omega
        have u8 : decide ((x.toNat : Int) < 128) = true := by simp; omega
        obtain ⟨y, z, s, hst, hse, hs64⟩ := intStep x k q hk hq.out (by omega)
        obtain ⟨e1, e2, e3⟩ := hst
        have HSE := Lib.hid hse
        have HS := Lib.hid hs64
        clear hse hs64
        clear hway
        go_wp2
        go_quiet (fail)
        go_wp2
        go_quiet (fail)
        go_wp2
        rw [uz_go HS.out]
        simp only [Exit.jump]
        go_ret
        have hde : Wire.intS (some (l.drop a0)) = (Wire.uz s, some (l.drop (p + 1))) := by
          have hw := HW.out
          apply Wire.intS_some
          rw [HD.out, HL.out, Wire.dec_end (by omega) (by simp; omega) (by omega), HSE.out, Nat.mod_eq_of_lt (by omega)]
          rfl
        rw [hde]
        exact ⟨rfl, RS.mk (p := p + 1) (hbq _) (hrd.only (hgq _) (by omega) (Nat.le_refl _)) hnc hc (by omega) rfl, hgq _⟩
      · have HW := Lib.hid hway
        have t9 : ((k : Int) == 9) = false := by rw [beq_eq_false_iff_ne]; omega
        have u0 : decide ((0 : Int) < (k : Int)) = false := by simp; omega
        have u0' : decide (0 < k) = false := by simp; omega
        have u8 : decide ((x.toNat : Int) < 128) = true := by simp; omega
        obtain ⟨y, z, s, hst, hse, hs64⟩ := intStep x k q hk hq.out (by omega)
        obtain ⟨e1, e2, e3⟩ := hst
        have HSE := Lib.hid hse
        have HS := Lib.hid hs64
        clear hse hs64
        clear hway
        go_wp2
        go_quiet (fail)
        go_wp2
        go_quiet (fail)
        go_wp2
        rw [uz_go HS.out]
        simp only [Exit.jump]
        go_ret
        have hde : Wire.intS (some (l.drop a0)) = (Wire.uz s, some (l.drop (p + 1))) := by
          have hw := HW.out
          apply Wire.intS_some
          rw [HD.out, HL.out, Wire.dec_end (by omega) (by simp; omega) (by omega), HSE.out, Nat.mod_eq_of_lt (by omega)]
          rfl
        rw [hde]
        exact ⟨rfl, RS.mk (p := p + 1) (hbq _) (hrd.only (hgq _) (by omega) (Nat.le_refl _)) hnc hc (by omega) rfl, hgq _⟩
      · have HW := Lib.hid hway
        have t9 : ((k : Int) == 9) = false := by rw [beq_eq_false_iff_ne]; omega
        have u0 : decide ((0 : Int) < (k : Int)) = true := by simp; omega
        have u0' : decide (0 < k) = true := by simp; omega
        have uz : ((x.toNat : Int) == 0) = false := by rw [beq_eq_false_iff_ne]; omega
        have u8 : decide ((x.toNat : Int) < 128) = false := by simp; omega
        obtain ⟨y, z, s, hst, hse, hs64⟩ := intStep x k q hk hq.out (by omega)
        obtain ⟨e1, e2, e3⟩ := hst
        have HSE := Lib.hid hse
        have HS := Lib.hid hs64
        clear hse hs64
        clear hway
        go_wp2
        go_quiet (fail)
        go_wp2
        go_quiet (fail)
        go_wp2
        go_roundw
        case rel =>
          have hw := HW.out
          have hs := HSE.out
          have hq' := hq.out
          have hp' := HP.out
          have hxm : x.toNat % 128 = x.toNat - 128 := by have := x.toNat_lt; omega
          refine ⟨k + 1, s, p + 1, rfl, by go_num, by omega, ?_, ?_, by omega, hbq _, ?_, hgq _⟩
          · show s < 128 ^ (k + 1)
            have h7 : 128 ^ k * (x.toNat % 128) ≤ 128 ^ k * 127 := Nat.mul_le_mul (Nat.le_refl _) (by omega)
            rw [Nat.pow_succ]
            omega
          · show p + 1 = a0 + (k + 1)
            omega
          · show _ = _
            rw [HD.out, HL.out, show 9 - k = (9 - (k + 1)) + 1 from by omega, Wire.dec_more (by omega), Option.map_map, decide_eq_false (by omega)]
            congr 1
            funext r
            simp only [Function.comp_apply, Prod.mk.injEq, and_true]
            rw [hs, hxm, Nat.pow_succ, Nat.mul_add, ← Nat.mul_assoc, Nat.add_assoc]
        case measure =>
          have hw := HW.out
          simp [intOf]; omega
      · have HW := Lib.hid hway
        have t9 : ((k : Int) == 9) = false := by rw [beq_eq_false_iff_ne]; omega
        have u0 : decide ((0 : Int) < (k : Int)) = false := by simp; omega
        have u0' : decide (0 < k) = false := by simp; omega
        have u8 : decide ((x.toNat : Int) < 128) = false := by simp; omega
        obtain ⟨y, z, s, hst, hse, hs64⟩ := intStep x k q hk hq.out (by omega)
        obtain ⟨e1, e2, e3⟩ := hst
        have HSE := Lib.hid hse
        have HS := Lib.hid hs64
        clear hse hs64
        clear hway
        go_wp2
        go_quiet (fail)
        go_wp2
        go_quiet (fail)
        go_wp2
        go_roundw
        case rel =>
          have hw := HW.out
          have hs := HSE.out
          have hq' := hq.out
          have hp' := HP.out
          have hxm : x.toNat % 128 = x.toNat - 128 := by have := x.toNat_lt; omega
          refine ⟨k + 1, s, p + 1, rfl, by go_num, by omega, ?_, ?_, by omega, hbq _, ?_, hgq _⟩
          · show s < 128 ^ (k + 1)
            have h7 : 128 ^ k * (x.toNat % 128) ≤ 128 ^ k * 127 := Nat.mul_le_mul (Nat.le_refl _) (by omega)
            rw [Nat.pow_succ]
            omega
          · show p + 1 = a0 + (k + 1)
            omega
          · show _ = _
            rw [HD.out, HL.out, show 9 - k = (9 - (k + 1)) + 1 from by omega, Wire.dec_more (by omega), Option.map_map, decide_eq_false (by omega)]
            congr 1
            funext r
            simp only [Function.comp_apply, Prod.mk.injEq, and_true]
            rw [hs, hxm, Nat.pow_succ, Nat.mul_add, ← Nat.mul_assoc, Nat.add_assoc]
        case measure =>
          have hw := HW.out
          simp [intOf]; omega
    · have hdn : l.drop p = [] := List.drop_eq_nil_of_le (by have := hln.out; omega)
      have HI : Hid (Wire.intS (some (l.drop a0)) = (0, none)) := by
        apply Wire.intS_none
        rw [HD.out, hdn]
        cases h : 9 - k <;> rfl
      have t2 : decide ((p : Int) < (n : Int)) = false := by simp; omega
      have t2' : decide (p < n) = false := by simp; omega
      clear hdn
      have hbk : ∀ N, Blk ((wr.drewN N).setCell ⟨g, 2, none⟩ (.bool true)) g 157 #[.slice A n c, .int .i64 (p : Int), .bool true] := fun N => (hbw.drewN N).set_ 2 (.bool true)
      have hgk : ∀ N, w.grownBy ((wr.drewN N).setCell ⟨g, 2, none⟩ (.bool true)) (some g) := fun N => only_setCell (only_drewN hgr N) (.inl rfl) _
      go_wp2
      go_quiet (fail)
      go_wp2
      go_step3
      go_wp2
      simp only [Exit.jump]
      go_ret
      rw [HI.out]
      exact ⟨rfl, RS.mk (hbk _) (hrd.only (hgk _) (by omega) (Nat.le_refl _)) hnc hc hak rfl, hgk _⟩

set_option maxRecDepth 100000 in
set_option maxHeartbeats 400000 in
theorem rInt_bad (w : World) (g : Nat) (l : List UInt8) (a0 : Nat) (hr : Rdr 157 w g l a0 true) :
    Calls Tryz.prog 89 #[.pointer (some ⟨g, 0, none⟩)] w fun e w' =>
      e = .returned (.int .i64 0) ∧ RS 157 w' g none ∧ w.grownBy w' (some g) := by
  obtain ⟨A, n, c, hb, hrd, hnc, hc, han⟩ := hr
  have h0 := hb.cell 0
  have h1 := hb.cell 1
  have h2 := hb.cell 2
  have f2 := hb.frozen 2
  have hgl := hb.lt
  simp at h0 h1 h2
  have hbk : ∀ N, Blk ((w.drewN N).setCell ⟨g, 2, none⟩ (.bool true)) g 157 #[.slice A n c, .int .i64 (a0 : Int), .bool true] := fun N => (hb.drewN N).set_ 2 (.bool true)
  have hgk : ∀ N, w.grownBy ((w.drewN N).setCell ⟨g, 2, none⟩ (.bool true)) (some g) := fun N => only_setCell (only_drewN (only_refl w g) N) (.inl rfl) _
  go_enter Tryz.func89, Tryz.ntmps89
  go_wp2
  go_step3
  go_wp2
  refine wp_loop_rounds 1 ?_
  rw [rounds_succ]
  go_wp2
  go_quiet (fail)
  go_wp2
  go_step3
  go_wp2
  rw [Exit.noGoto_ret]
  go_ret
  exact ⟨rfl, RS.mk (hbk _) (hrd.only (hgk _) (by omega) (Nat.le_refl _)) hnc hc han rfl, hgk _⟩

theorem rInt_any (w : World) (g : Nat) (s : Option (List UInt8)) (hr : RS 157 w g s) :
    Calls Tryz.prog 89 #[.pointer (some ⟨g, 0, none⟩)] w fun e w' =>
      e = .returned (.int .i64 (Wire.intS s).1) ∧ RS 157 w' g (Wire.intS s).2 ∧ w.grownBy w' (some g) := by
  obtain ⟨l, p, bad, h, rfl⟩ := hr
  cases bad
  · exact rInt_ok w g l p h
  · exact rInt_bad w g l p h
end Go.Proofs.YtebeidnmplnlpaaGreat
end

section
namespace Go.Proofs.YtebeidnmplnlpaaGreat
set_option linter.unusedVariables false
open Go.RowKit

set_option maxHeartbeats 400000 in
theorem rLeft_any (w : World) (g : Nat) (s : Option (List UInt8)) (hr : RS 157 w g s) :
    Calls Tryz.prog 127 #[.pointer (some ⟨g, 0, none⟩)] w fun e w' => e = .returned (.int .i64 (Wire.leftS s : Nat)) ∧ ∃ N, w' = w.drewN N := by
  obtain ⟨l, p, bad, ⟨A, n, c, hb, hrd, hnc, hc, hp⟩, rfl⟩ := hr
  have h0 := hb.cell 0
  have h1 := hb.cell 1
  have h2 := hb.cell 2
  have f1 := hb.frozen 1
  have f2 := hb.frozen 2
  have hgl := hb.lt
  have hln : Hid (l.length = n) := by have := hrd.1; rw [bv_length] at this; show _ = _; omega
  simp at h0 h1 h2
  cases bad
  · have hlf : Wire.leftS (some (l.drop p)) = n - p := by have := hln.out; simp [Wire.leftS]; omega
    have HLF := Lib.hid hlf
    clear hlf
    go_enter Tryz.func127, Tryz.ntmps127
    go_wp2
    go_quiet (fail)
    go_wp2
    go_ret
    refine ⟨?_, _, rfl⟩
    show _ = Ending.returned (.int .i64 (Wire.leftS (some (l.drop p)) : Nat))
    rw [HLF.out]
    exact ret_i64 (by omega)
  · 
    go_enter Tryz.func127, Tryz.ntmps127
    go_wp2
    go_ret
    exact ⟨rfl, 0, rfl⟩

set_option maxHeartbeats 400000 in
theorem rEnd_any (w : World) (g : Nat) (s : Option (List UInt8)) (hr : RS 157 w g s) :
    Calls Tryz.prog 90 #[.pointer (some ⟨g, 0, none⟩)] w fun e w' => e = .returned (.bool (Wire.endS s)) ∧ ∃ N, w' = w.drewN N := by
  obtain ⟨l, p, bad, ⟨A, n, c, hb, hrd, hnc, hc, hp⟩, rfl⟩ := hr
  have h0 := hb.cell 0
  have h1 := hb.cell 1
  have h2 := hb.cell 2
  have f1 := hb.frozen 1
  have f2 := hb.frozen 2
  have hgl := hb.lt
  have hln : Hid (l.length = n) := by have := hrd.1; rw [bv_length] at this; show _ = _; omega
  simp at h0 h1 h2
  cases bad
  · have hlf : (((p : Int)) == (n : Int)) = Wire.endS (some (l.drop p)) := by
      have := hln.out
      unfold Wire.endS
      rw [Bool.eq_iff_iff, beq_iff_eq]
      simp
      omega
    have HLF := Lib.hid hlf
    clear hlf
    go_enter Tryz.func90, Tryz.ntmps90
    go_wp2
    go_quiet (fail)
    go_wp2
    go_ret
    refine ⟨?_, _, rfl⟩
    show _ = Ending.returned (.bool (Wire.endS (some (l.drop p))))
    rw [← HLF.out]
    rfl
  · 
    go_enter Tryz.func90, Tryz.ntmps90
    go_wp2
    go_quiet (fail)
    go_wp2
    go_ret
    exact ⟨rfl, _, rfl⟩

set_option maxRecDepth 100000 in
set_option maxHeartbeats 400000 in
theorem rBool_any (w : World) (g : Nat) (s : Option (List UInt8)) (hr : RS 157 w g s) :
    Calls Tryz.prog 91 #[.pointer (some ⟨g, 0, none⟩)] w fun e w' => e = .returned (.bool (Wire.boolS s).1) ∧ RS 157 w' g (Wire.boolS s).2 ∧ w.grownBy w' (some g) := by
  obtain ⟨l, p, bad, ⟨A, n, c, hb, hrd, hnc, hc, hp⟩, rfl⟩ := hr
  have h0 := hb.cell 0
  have h1 := hb.cell 1
  have h2 := hb.cell 2
  have f1 := hb.frozen 1
  have f2 := hb.frozen 2
  have hgl := hb.lt
  have hln : Hid (l.length = n) := by have := hrd.1; rw [bv_length] at this; show _ = _; omega
  simp at h0 h1 h2
  have hbk : ∀ N, Blk ((w.drewN N).setCell ⟨g, 2, none⟩ (.bool true)) g 157 #[.slice A n c, .int .i64 (p : Int), .bool true] := fun N => (hb.drewN N).set_ 2 (.bool true)
  have hgk : ∀ N, w.grownBy ((w.drewN N).setCell ⟨g, 2, none⟩ (.bool true)) (some g) := fun N => only_setCell (only_drewN (only_refl w g) N) (.inl rfl) _
  have hbad : ∀ N, RS 157 ((w.drewN N).setCell ⟨g, 2, none⟩ (.bool true)) g none := fun N => RS.mk (hbk N) (hrd.only (hgk N) (by omega) (Nat.le_refl _)) hnc hc hp rfl
  clear hbk
  cases bad
  · by_cases hlt : p < n
    · obtain ⟨ad, u, hAd, _, hx, hcx⟩ := hrd.at_ hlt
      obtain ⟨x, hx', rfl⟩ := bv_at hx
      subst hAd
      have hld : l.drop p = x :: l.drop (p + 1) := by
        rw [List.drop_eq_getElem_cons (l := l) (i := p) (by have := hln.out; omega)]
        congr 1
        exact (List.getElem?_eq_some_iff.1 hx').2
      have t1 : decide ((n : Int) ≤ (p : Int)) = false := by simp; omega
      by_cases hx1 : x.toNat ≤ 1
      · have hs : Wire.boolS (some (l.drop p)) = (decide (x.toNat = 1), some (l.drop (p + 1))) := by rw [hld]; simp [Wire.boolS]; omega
        have HS := Lib.hid hs
        have t2 : decide ((1 : Int) < (x.toNat : Int)) = false := by simp; omega
        have t3 : (((x.toNat : Int)) == 1) = decide (x.toNat = 1) := by rw [Bool.eq_iff_iff, beq_iff_eq, decide_eq_true_iff]; omega
        generalize decide (x.toNat = 1) = bx at t3 HS
        clear hs hld hx' hx hx1 hbad hgk
        have hbj : ∀ N, Blk ((w.drewN N).setCell ⟨g, 1, none⟩ (.int .i64 ((p : Int) + 1))) g 157 #[.slice (some ad) n c, .int .i64 ((p + 1 : Nat) : Int), .bool false] := fun N => (hb.drewN N).set_ 1 (.int .i64 ((p : Int) + 1))
        have hgj : ∀ N, w.grownBy ((w.drewN N).setCell ⟨g, 1, none⟩ (.int .i64 ((p : Int) + 1))) (some g) := fun N => only_setCell (only_drewN (only_refl w g) N) (.inl rfl) _
        have hrj : ∀ N, RS 157 ((w.drewN N).setCell ⟨g, 1, none⟩ (.int .i64 ((p : Int) + 1))) g (some (l.drop (p + 1))) := fun N => RS.mk (p := p + 1) (hbj N) (hrd.only (hgj N) (by omega) (Nat.le_refl _)) hnc hc (by omega) rfl
        clear hbj
        have hc' : ∀ N v, ((w.drewN N).setCell ⟨g, 1, none⟩ v).cell? (ad.add p) = some (.int .u8 (x.toNat : Int)) := fun N v => by
          rw [World.cell?_setCell_other _ _ _ _ (fun e => by have := congrArg Addr.block e; rw [block_of_add] at this; simp at this; omega)]; exact hcx
        go_enter Tryz.func91, Tryz.ntmps91
        go_wp2
        go_quiet (fail)
        go_wp2
        go_quiet (fail)
        go_wp2
        go_ret
        show _ = Ending.returned (.bool (Wire.boolS (some (l.drop p))).1) ∧ RS 157 _ g (Wire.boolS (some (l.drop p))).2 ∧ _
        rw [HS.out]
        exact ⟨rfl, (hrj _).drewN _, only_drewN (hgj _) _⟩
      · have hs : Wire.boolS (some (l.drop p)) = (false, none) := by rw [hld]; simp [Wire.boolS]; omega
        have HS := Lib.hid hs
        have t2 : decide ((1 : Int) < (x.toNat : Int)) = true := by simp; omega
        clear hs hld hx' hx hx1
        go_enter Tryz.func91, Tryz.ntmps91
        go_wp2
        go_quiet (fail)
        go_wp2
        go_ret
        show _ = Ending.returned (.bool (Wire.boolS (some (l.drop p))).1) ∧ RS 157 _ g (Wire.boolS (some (l.drop p))).2 ∧ _
        rw [HS.out]
        exact ⟨rfl, hbad _, hgk _⟩
    · have hs : Wire.boolS (some (l.drop p)) = (false, none) := by rw [List.drop_eq_nil_of_le (by have := hln.out; omega)]; rfl
      have HS := Lib.hid hs
      have t1 : decide ((n : Int) ≤ (p : Int)) = true := by simp; omega
      clear hs
      go_enter Tryz.func91, Tryz.ntmps91
      go_wp2
      go_quiet (fail)
      go_wp2
      go_ret
      show _ = Ending.returned (.bool (Wire.boolS (some (l.drop p))).1) ∧ RS 157 _ g (Wire.boolS (some (l.drop p))).2 ∧ _
      rw [HS.out]
      exact ⟨rfl, hbad _, hgk _⟩
  · 
    go_enter Tryz.func91, Tryz.ntmps91
    go_wp2
    go_quiet (fail)
    go_wp2
    go_ret
    exact ⟨rfl, hbad _, hgk _⟩

set_option maxHeartbeats 400000 in
theorem fLeft_any (w : World) (g : Nat) (s : Option (List UInt8)) (hr : RS 141 w g s) :
    Calls Tryz.prog 128 #[.pointer (some ⟨g, 0, none⟩)] w fun e w' => e = .returned (.int .i64 (Wire.leftS s : Nat)) ∧ ∃ N, w' = w.drewN N := by
  obtain ⟨l, p, bad, ⟨A, n, c, hb, hrd, hnc, hc, hp⟩, rfl⟩ := hr
  have h0 := hb.cell 0
  have h1 := hb.cell 1
  have h2 := hb.cell 2
  have f1 := hb.frozen 1
  have f2 := hb.frozen 2
  have hgl := hb.lt
  have hln : Hid (l.length = n) := by have := hrd.1; rw [bv_length] at this; show _ = _; omega
  simp at h0 h1 h2
  cases bad
  · have hlf : Wire.leftS (some (l.drop p)) = n - p := by have := hln.out; simp [Wire.leftS]; omega
    have HLF := Lib.hid hlf
    clear hlf
    go_enter Tryz.func128, Tryz.ntmps128
    go_wp2
    go_quiet (fail)
    go_wp2
    go_ret
    refine ⟨?_, _, rfl⟩
    show _ = Ending.returned (.int .i64 (Wire.leftS (some (l.drop p)) : Nat))
    rw [HLF.out]
    exact ret_i64 (by omega)
  · 
    go_enter Tryz.func128, Tryz.ntmps128
    go_wp2
    go_ret
    exact ⟨rfl, 0, rfl⟩

set_option maxHeartbeats 400000 in
theorem fEnd_any (w : World) (g : Nat) (s : Option (List UInt8)) (hr : RS 141 w g s) :
    Calls Tryz.prog 96 #[.pointer (some ⟨g, 0, none⟩)] w fun e w' => e = .returned (.bool (Wire.endS s)) ∧ ∃ N, w' = w.drewN N := by
  obtain ⟨l, p, bad, ⟨A, n, c, hb, hrd, hnc, hc, hp⟩, rfl⟩ := hr
  have h0 := hb.cell 0
  have h1 := hb.cell 1
  have h2 := hb.cell 2
  have f1 := hb.frozen 1
  have f2 := hb.frozen 2
  have hgl := hb.lt
  have hln : Hid (l.length = n) := by have := hrd.1; rw [bv_length] at this; show _ = _; omega
  simp at h0 h1 h2
  cases bad
  · have hlf : (((p : Int)) == (n : Int)) = Wire.endS (some (l.drop p)) := by
      have := hln.out
      unfold Wire.endS
      rw [Bool.eq_iff_iff, beq_iff_eq]
      simp
      omega
    have HLF := Lib.hid hlf
    clear hlf
    go_enter Tryz.func96, Tryz.ntmps96
    go_wp2
    go_quiet (fail)
    go_wp2
    go_ret
    refine ⟨?_, _, rfl⟩
    show _ = Ending.returned (.bool (Wire.endS (some (l.drop p))))
    rw [← HLF.out]
    rfl
  · 
    go_enter Tryz.func96, Tryz.ntmps96
    go_wp2
    go_quiet (fail)
    go_wp2
    go_ret
    exact ⟨rfl, _, rfl⟩

set_option maxRecDepth 100000 in
set_option maxHeartbeats 400000 in
theorem fBool_any (w : World) (g : Nat) (s : Option (List UInt8)) (hr : RS 141 w g s) :
    Calls Tryz.prog 98 #[.pointer (some ⟨g, 0, none⟩)] w fun e w' => e = .returned (.bool (Wire.boolS s).1) ∧ RS 141 w' g (Wire.boolS s).2 ∧ w.grownBy w' (some g) := by
  obtain ⟨l, p, bad, ⟨A, n, c, hb, hrd, hnc, hc, hp⟩, rfl⟩ := hr
  have h0 := hb.cell 0
  have h1 := hb.cell 1
  have h2 := hb.cell 2
  have f1 := hb.frozen 1
  have f2 := hb.frozen 2
  have hgl := hb.lt
  have hln : Hid (l.length = n) := by have := hrd.1; rw [bv_length] at this; show _ = _; omega
  simp at h0 h1 h2
  have hbk : ∀ N, Blk ((w.drewN N).setCell ⟨g, 2, none⟩ (.bool true)) g 141 #[.slice A n c, .int .i64 (p : Int), .bool true] := fun N => (hb.drewN N).set_ 2 (.bool true)
  have hgk : ∀ N, w.grownBy ((w.drewN N).setCell ⟨g, 2, none⟩ (.bool true)) (some g) := fun N => only_setCell (only_drewN (only_refl w g) N) (.inl rfl) _
  have hbad : ∀ N, RS 141 ((w.drewN N).setCell ⟨g, 2, none⟩ (.bool true)) g none := fun N => RS.mk (hbk N) (hrd.only (hgk N) (by omega) (Nat.le_refl _)) hnc hc hp rfl
  clear hbk
  cases bad
  · by_cases hlt : p < n
    · obtain ⟨ad, u, hAd, _, hx, hcx⟩ := hrd.at_ hlt
      obtain ⟨x, hx', rfl⟩ := bv_at hx
      subst hAd
      have hld : l.drop p = x :: l.drop (p + 1) := by
        rw [List.drop_eq_getElem_cons (l := l) (i := p) (by have := hln.out; omega)]
        congr 1
        exact (List.getElem?_eq_some_iff.1 hx').2
      have t1 : decide ((n : Int) ≤ (p : Int)) = false := by simp; omega
      by_cases hx1 : x.toNat ≤ 1
      · have hs : Wire.boolS (some (l.drop p)) = (decide (x.toNat = 1), some (l.drop (p + 1))) := by rw [hld]; simp [Wire.boolS]; omega
        have HS := Lib.hid hs
        have t2 : decide ((1 : Int) < (x.toNat : Int)) = false := by simp; omega
        have t3 : (((x.toNat : Int)) == 1) = decide (x.toNat = 1) := by rw [Bool.eq_iff_iff, beq_iff_eq, decide_eq_true_iff]; omega
        generalize decide (x.toNat = 1) = bx at t3 HS
        clear hs hld hx' hx hx1 hbad hgk
        have hbj : ∀ N, Blk ((w.drewN N).setCell ⟨g, 1, none⟩ (.int .i64 ((p : Int) + 1))) g 141 #[.slice (some ad) n c, .int .i64 ((p + 1 : Nat) : Int), .bool false] := fun N => (hb.drewN N).set_ 1 (.int .i64 ((p : Int) + 1))
        have hgj : ∀ N, w.grownBy ((w.drewN N).setCell ⟨g, 1, none⟩ (.int .i64 ((p : Int) + 1))) (some g) := fun N => only_setCell (only_drewN (only_refl w g) N) (.inl rfl) _
        have hrj : ∀ N, RS 141 ((w.drewN N).setCell ⟨g, 1, none⟩ (.int .i64 ((p : Int) + 1))) g (some (l.drop (p + 1))) := fun N => RS.mk (p := p + 1) (hbj N) (hrd.only (hgj N) (by omega) (Nat.le_refl _)) hnc hc (by omega) rfl
        clear hbj
        have hc' : ∀ N v, ((w.drewN N).setCell ⟨g, 1, none⟩ v).cell? (ad.add p) = some (.int .u8 (x.toNat : Int)) := fun N v => by
          rw [World.cell?_setCell_other _ _ _ _ (fun e => by have := congrArg Addr.block e; rw [block_of_add] at this; simp at this; omega)]; exact hcx
        go_enter Tryz.func98, Tryz.ntmps98
        go_wp2
        go_quiet (fail)
        go_wp2
        go_quiet (fail)
        go_wp2
        go_ret
        show _ = Ending.returned (.bool (Wire.boolS (some (l.drop p))).1) ∧ RS 141 _ g (Wire.boolS (some (l.drop p))).2 ∧ _
        rw [HS.out]
        exact ⟨rfl, (hrj _).drewN _, only_drewN (hgj _) _⟩
      · have hs : Wire.boolS (some (l.drop p)) = (false, none) := by rw [hld]; simp [Wire.boolS]; omega
        have HS := Lib.hid hs
        have t2 : decide ((1 : Int) < (x.toNat : Int)) = true := by simp; omega
        clear hs hld hx' hx hx1
        go_enter Tryz.func98, Tryz.ntmps98
        go_wp2
        go_quiet (fail)
        go_wp2
        go_ret
        show _ = Ending.returned (.bool (Wire.boolS (some (l.drop p))).1) ∧ RS 141 _ g (Wire.boolS (some (l.drop p))).2 ∧ _
        rw [HS.out]
        exact ⟨rfl, hbad _, hgk _⟩
    · have hs : Wire.boolS (some (l.drop p)) = (false, none) := by rw [List.drop_eq_nil_of_le (by have := hln.out; omega)]; rfl
      have HS := Lib.hid hs
      have t1 : decide ((n : Int) ≤ (p : Int)) = true := by simp; omega
      clear hs
      go_enter Tryz.func98, Tryz.ntmps98
      go_wp2
      go_quiet (fail)
      go_wp2
      go_ret
      show _ = Ending.returned (.bool (Wire.boolS (some (l.drop p))).1) ∧ RS 141 _ g (Wire.boolS (some (l.drop p))).2 ∧ _
      rw [HS.out]
      exact ⟨rfl, hbad _, hgk _⟩
  · 
    go_enter Tryz.func98, Tryz.ntmps98
    go_wp2
    go_quiet (fail)
    go_wp2
    go_ret
    exact ⟨rfl, hbad _, hgk _⟩
end Go.Proofs.YtebeidnmplnlpaaGreat
end

section
namespace Go.Proofs.YtebeidnmplnlpaaGreat
set_option linter.unusedVariables false
open Go.RowKit

structure RefStep (x : UInt8) (k q z s h : Nat) : Prop where
  r1 : IntKind.u64.wrap ((x.toNat : Int) % 128 * 2 ^ (7 * k)) = (z : Int)
  r2 : IntKind.u64.wrap ((q : Int) + (z : Int)) = (s : Int)
  r3 : IntKind.u64.wrap ((s : Int).tdiv 2) = (h : Int)
  r4 : IntKind.u64.wrap ((s : Int) / 2) = (h : Int)
theorem refStep (x : UInt8) (k q : Nat) (hk : k ≤ 9) (hq : q < 128 ^ k) (h9 : k = 9 → x.toNat ≤ 1) : ∃ z s h, RefStep x k q z s h ∧ s = q + 128 ^ k * (x.toNat % 128) ∧ s < 18446744073709551616 ∧ h = s / 2 := by
  obtain ⟨y, z, s, ⟨e1, e2, e3⟩, hs, hs64⟩ := intStep x k q hk hq h9
  have hp : 2 ^ (7 * k) = 128 ^ k := by rw [Nat.pow_mul]
  refine ⟨x.toNat % 128 * 128 ^ k, s, s / 2, ⟨?_, ?_, ?_, ?_⟩, hs, hs64, rfl⟩
  · have e : ((x.toNat : Int) % 128) * 2 ^ (7 * k) = ((x.toNat % 128 * 128 ^ k : Nat) : Int) := by rw [← hp]; simp
    rw [e, IntWalk.u64_in _ (by rw [Nat.mul_comm] at hs; omega)]
  · rw [show ((q : Int) + ((x.toNat % 128 * 128 ^ k : Nat) : Int)) = (s : Int) from by rw [hs, Nat.mul_comm (128 ^ k)]; simp, IntWalk.u64_in _ (by omega)]
  · rw [Int.tdiv_eq_ediv_of_nonneg (by omega), IntWalk.u64_in _ (by omega)]; omega
  · rw [IntWalk.u64_in _ (by omega)]; omega
theorem uz_odd {s h : Nat} (hs : s < 18446744073709551616) (hh : h = s / 2) (ho : ((s : Int) % 2 == 1) = true) : wrap64 (wrap64 (-wrap64 (h : Int)) - 1) = Wire.uz s := by
  have ho' : s % 2 = 1 := by rw [beq_iff_eq] at ho; omega
  subst hh
  unfold Wire.uz
  rw [if_pos ho', IntWalk.wrap64_in ((s / 2 : Nat) : Int) ⟨by omega, by omega⟩, IntWalk.wrap64_in (-((s / 2 : Nat) : Int)) ⟨by omega, by omega⟩, IntWalk.wrap64_in _ ⟨by omega, by omega⟩]
theorem uz_even {s h : Nat} (hs : s < 18446744073709551616) (hh : h = s / 2) (ho : ((s : Int) % 2 == 1) = false) : wrap64 (h : Int) = Wire.uz s := by
  have ho' : ¬ s % 2 = 1 := by rw [beq_eq_false_iff_ne] at ho; omega
  subst hh
  unfold Wire.uz
  rw [if_neg ho', IntWalk.wrap64_in ((s / 2 : Nat) : Int) ⟨by omega, by omega⟩]

set_option maxRecDepth 100000 in
set_option maxHeartbeats 1000000 in
theorem fInt_ok (w : World) (g : Nat) (l : List UInt8) (a0 : Nat) (hr : Rdr 141 w g l a0 false) :
    Calls Tryz.prog 95 #[.pointer (some ⟨g, 0, none⟩)] w fun e w' =>
      e = .returned (.int .i64 (Wire.intS (some (l.drop a0))).1) ∧ RS 141 w' g (Wire.intS (some (l.drop a0))).2 ∧ w.grownBy w' (some g) := by
  obtain ⟨A, n, c, hb, hrd, hnc, hc, han⟩ := hr
  have hgl := hb.lt
  have hln : Hid (l.length = n) := by have := hrd.1; rw [bv_length] at this; show _ = _; omega
  go_enter Tryz.func95, Tryz.ntmps95
  go_wp2
  go_loopw [3, 4, 5] (fun u i _ wr => ∃ (k q p : Nat), u = .int .u64 (q : Int) ∧ i = .int .i64 (k : Int) ∧ k ≤ 9 ∧ Hid (q < 128 ^ k) ∧ Hid (p = a0 + k) ∧ p ≤ n ∧ Blk wr g 141 #[.slice A n c, .int .i64 (p : Int), .bool false] ∧
      Hid (Wire.dec 9 true (l.drop a0) = (Wire.dec (9 - k) (decide (k = 0)) (l.drop p)).map fun r => (q + 128 ^ k * r.1, r.2)) ∧ w.grownBy wr (some g)) (fun _ i _ _ => 9 - (intOf i).toNat)
  case atStart => exact ⟨0, 0, a0, rfl, rfl, by omega, by show _ < _; simp, rfl, han, hb, by show _ = _; simp, only_refl w g⟩
  case round =>
    obtain ⟨k, q, p, rfl, rfl, hk, hq, HP, hak, hbw, HD, hgr⟩ := hrel
    have h0 := hbw.cell 0
    have h1 := hbw.cell 1
    have h2 := hbw.cell 2
    have f1 := hbw.frozen 1
    have f2 := hbw.frozen 2
    have hszr := hgr.size
    simp at h0 h1 h2
    have t1 : decide ((k : Int) < 10) = true := by simp; omega
    by_cases hlt : p < n
    · obtain ⟨ad, u, hAd, _, hx, hcx⟩ := (hrd.only hgr (by omega) (Nat.le_refl _)).at_ hlt
      obtain ⟨x, hx', rfl⟩ := bv_at hx
      subst hAd
      have hcw : wr.cell? (ad.add p) = some (.int .u8 (x.toNat : Int)) := hcx
      have hld : l.drop p = x :: l.drop (p + 1) := by
        have e := List.drop_eq_getElem_cons (l := l) (i := p) (by have := hln.out; omega)
        rw [e]
        congr 1
        have := List.getElem?_eq_some_iff.1 hx'
        exact this.2
      have HL := Lib.hid hld
      clear hx' hx hcx hld
      have hways : (k = 9 ∧ 1 < x.toNat) ∨ (k = 9 ∧ x.toNat = 0) ∨ (k < 9 ∧ 0 < k ∧ x.toNat = 0) ∨ (k = 9 ∧ x.toNat = 1) ∨ (k < 9 ∧ 0 < k ∧ 0 < x.toNat ∧ x.toNat < 128) ∨ (k = 0 ∧ x.toNat < 128) ∨ (k < 9 ∧ 0 < k ∧ 128 ≤ x.toNat) ∨ (k = 0 ∧ 128 ≤ x.toNat) := by have := x.toNat_lt; omega
      have hbq : ∀ N, Blk ((wr.drewN N).setCell ⟨g, 1, none⟩ (.int .i64 ((p : Int) + 1))) g 141 #[.slice (some ad) n c, .int .i64 ((p + 1 : Nat) : Int), .bool false] := fun N => (hbw.drewN N).set_ 1 (.int .i64 ((p : Int) + 1))
      have hgq : ∀ N, w.grownBy ((wr.drewN N).setCell ⟨g, 1, none⟩ (.int .i64 ((p : Int) + 1))) (some g) := fun N => only_setCell (only_drewN hgr N) (.inl rfl) _
      rcases hways with hway | hway | hway | hway | hway | hway | hway | hway
      · have HW := Lib.hid hway
        have t9 : ((k : Int) == 9) = true := by rw [beq_iff_eq]; omega
        have u1 : decide ((1 : Int) < (x.toNat : Int)) = true := by simp; omega
        have hbs : ∀ N, Blk (((wr.drewN N).setCell ⟨g, 1, none⟩ (.int .i64 ((p : Int) + 1))).setCell ⟨g, 2, none⟩ (.bool true)) g 141 #[.slice (some ad) n c, .int .i64 ((p + 1 : Nat) : Int), .bool true] := fun N => (hbq N).set_ 2 (.bool true)
        have hgs : ∀ N, w.grownBy (((wr.drewN N).setCell ⟨g, 1, none⟩ (.int .i64 ((p : Int) + 1))).setCell ⟨g, 2, none⟩ (.bool true)) (some g) := fun N => only_setCell (hgq N) (.inl rfl) _
        clear hway
        go_wp2
        go_quiet (fail)
        go_wp2
        go_quiet (fail)
        go_wp2
        go_ret
        have hde : Wire.intS (some (l.drop a0)) = (0, none) := by
          have hw := HW.out
          apply Wire.intS_none
          rw [HD.out, HL.out, Wire.dec_stop (by simp; omega)]
          rfl
        rw [hde]
        exact ⟨rfl, RS.mk (p := p + 1) (hbs _) (hrd.only (hgs _) (by omega) (Nat.le_refl _)) hnc hc (by omega) rfl, hgs _⟩
      · have HW := Lib.hid hway
        have t9 : ((k : Int) == 9) = true := by rw [beq_iff_eq]; omega
        have u1 : decide ((1 : Int) < (x.toNat : Int)) = false := by simp; omega
        have u0 : decide ((0 : Int) < (k : Int)) = true := by simp; omega
        have u0' : decide (0 < k) = true := by simp; omega
        have uz : ((x.toNat : Int) == 0) = true := by rw [beq_iff_eq]; omega
        have hbs : ∀ N, Blk (((wr.drewN N).setCell ⟨g, 1, none⟩ (.int .i64 ((p : Int) + 1))).setCell ⟨g, 2, none⟩ (.bool true)) g 141 #[.slice (some ad) n c, .int .i64 ((p + 1 : Nat) : Int), .bool true] := fun N => (hbq N).set_ 2 (.bool true)
        have hgs : ∀ N, w.grownBy (((wr.drewN N).setCell ⟨g, 1, none⟩ (.int .i64 ((p : Int) + 1))).setCell ⟨g, 2, none⟩ (.bool true)) (some g) := fun N => only_setCell (hgq N) (.inl rfl) _
        clear hway
        go_wp2
        go_quiet (fail)
        go_wp2
        go_quiet (fail)
        go_wp2
        go_ret
        have hde : Wire.intS (some (l.drop a0)) = (0, none) := by
          have hw := HW.out
          apply Wire.intS_none
          rw [HD.out, HL.out, Wire.dec_stop (by simp; omega)]
          rfl
        rw [hde]
        exact ⟨rfl, RS.mk (p := p + 1) (hbs _) (hrd.only (hgs _) (by omega) (Nat.le_refl _)) hnc hc (by omega) rfl, hgs _⟩
      · have HW := Lib.hid hway
        have t9 : ((k : Int) == 9) = false := by rw [beq_eq_false_iff_ne]; omega
        have u0 : decide ((0 : Int) < (k : Int)) = true := by simp; omega
        have u0' : decide (0 < k) = true := by simp; omega
        have uz : ((x.toNat : Int) == 0) = true := by rw [beq_iff_eq]; omega
        have hbs : ∀ N, Blk (((wr.drewN N).setCell ⟨g, 1, none⟩ (.int .i64 ((p : Int) + 1))).setCell ⟨g, 2, none⟩ (.bool true)) g 141 #[.slice (some ad) n c, .int .i64 ((p + 1 : Nat) : Int), .bool true] := fun N => (hbq N).set_ 2 (.bool true)
        have hgs : ∀ N, w.grownBy (((wr.drewN N).setCell ⟨g, 1, none⟩ (.int .i64 ((p : Int) + 1))).setCell ⟨g, 2, none⟩ (.bool true)) (some g) := fun N => only_setCell (hgq N) (.inl rfl) _
        clear hway
        go_wp2
        go_quiet (fail)
        go_wp2
        go_quiet (fail)
        go_wp2
        go_ret
        have hde : Wire.intS (some (l.drop a0)) = (0, none) := by
          have hw := HW.out
          apply Wire.intS_none
          rw [HD.out, HL.out, Wire.dec_stop (by simp; omega)]
          rfl
        rw [hde]
        exact ⟨rfl, RS.mk (p := p + 1) (hbs _) (hrd.only (hgs _) (by omega) (Nat.le_refl _)) hnc hc (by omega) rfl, hgs _⟩
      · have HW := Lib.hid hway
        have t9 : ((k : Int) == 9) = true := by rw [beq_iff_eq]; omega
        have u1 : decide ((1 : Int) < (x.toNat : Int)) = false := by simp; omega
        have u0 : decide ((0 : Int) < (k : Int)) = true := by simp; omega
        have u0' : decide (0 < k) = true := by simp; omega
        have uz : ((x.toNat : Int) == 0) = false := by rw [beq_eq_false_iff_ne]; omega
        have u8 : decide ((x.toNat : Int) < 128) = true := by simp; omega
        obtain ⟨z, s, h, hst, hse, hs64, hh⟩ := refStep x k q hk hq.out (by omega)
        obtain ⟨r1, r2, r3, r4⟩ := hst
        have HSE := Lib.hid hse
        have HS := Lib.hid hs64
        have HH := Lib.hid hh
        clear hse hs64 hh
        clear hway
        go_wp2
        go_quiet (fail)
        go_wp2
        go_quiet (fail)
        go_wp2
        all_goals
          have hde : Wire.intS (some (l.drop a0)) = (Wire.uz s, some (l.drop (p + 1))) := by
            have hw := HW.out
            apply Wire.intS_some
            rw [HD.out, HL.out, Wire.dec_end (by omega) (by simp; omega) (by omega), HSE.out, Nat.mod_eq_of_lt (by omega)]
            rfl
          rw [hde]
          first
            | rw [uz_odd HS.out HH.out ‹_›]
            | rw [uz_even HS.out HH.out ‹_›]
          go_ret
          exact ⟨rfl, RS.mk (p := p + 1) (hbq _) (hrd.only (hgq _) (by omega) (Nat.le_refl _)) hnc hc (by omega) rfl, hgq _⟩
      · have HW := Lib.hid hway
        have t9 : ((k : Int) == 9) = false := by rw [beq_eq_false_iff_ne]; omega
        have u0 : decide ((0 : Int) < (k : Int)) = true := by simp; omega
        have u0' : decide (0 < k) = true := by simp; omega
        have uz : ((x.toNat : Int) == 0) = false := by rw [beq_eq_false_iff_ne]; omega
        have u8 : decide ((x.toNat : Int) < 128) = true := by simp; omega
        obtain ⟨z, s, h, hst, hse, hs64, hh⟩ := refStep x k q hk hq.out (by omega)
        obtain ⟨r1, r2, r3, r4⟩ := hst
        have HSE := Lib.hid hse
        have HS := Lib.hid hs64
        have HH := Lib.hid hh
        clear hse hs64 hh
        clear hway
        go_wp2
        go_quiet (fail)
        go_wp2
        go_quiet (fail)
        go_wp2
        all_goals
          have hde : Wire.intS (some (l.drop a0)) = (Wire.uz s, some (l.drop (p + 1))) := by
            have hw := HW.out
            apply Wire.intS_some
            rw [HD.out, HL.out, Wire.dec_end (by omega) (by simp; omega) (by omega), HSE.out, Nat.mod_eq_of_lt (by omega)]
            rfl
          rw [hde]
          first
            | rw [uz_odd HS.out HH.out ‹_›]
            | rw [uz_even HS.out HH.out ‹_›]
          go_ret
          exact ⟨rfl, RS.mk (p := p + 1) (hbq _) (hrd.only (hgq _) (by omega) (Nat.le_refl _)) hnc hc (by omega) rfl, hgq _⟩
      · have HW := Lib.hid hway
        have t9 : ((k : Int) == 9) = false := by rw [beq_eq_false_iff_ne]; omega
        have u0 : decide ((0 : Int) < (k : Int)) = false := by simp; omega
        have u0' : decide (0 < k) = false := by simp; omega
        have u8 : decide ((x.toNat : Int) < 128) = true := by simp; omega
        obtain ⟨z, s, h, hst, hse, hs64, hh⟩ := refStep x k q hk hq.out (by omega)
        obtain ⟨r1, r2, r3, r4⟩ := hst
        have HSE := Lib.hid hse
        have HS := Lib.hid hs64
        have HH := Lib.hid hh
        clear hse hs64 hh
        clear hway
        go_wp2
        go_quiet (fail)
        go_wp2
        go_quiet (fail)
        go_wp2
        all_goals
          have hde : Wire.intS (some (l.drop a0)) = (Wire.uz s, some (l.drop (p + 1))) := by
            have hw := HW.out
            apply Wire.intS_some
            rw [HD.out, HL.out, Wire.dec_end (by omega) (by simp; omega) (by omega), HSE.out, Nat.mod_eq_of_lt (by omega)]
            rfl
          rw [hde]
          first
            | rw [uz_odd HS.out HH.out ‹_›]
            | rw [uz_even HS.out HH.out ‹_›]
          go_ret
          exact ⟨rfl, RS.mk (p := p + 1) (hbq _) (hrd.only (hgq _) (by omega) (Nat.le_refl _)) hnc hc (by omega) rfl, hgq _⟩
      · have HW := Lib.hid hway
        have t9 : ((k : Int) == 9) = false := by rw [beq_eq_false_iff_ne]; omega
        have u0 : decide ((0 : Int) < (k : Int)) = true := by simp; omega
        have u0' : decide (0 < k) = true := by simp; omega
        have uz : ((x.toNat : Int) == 0) = false := by rw [beq_eq_false_iff_ne]; omega
        have u8 : decide ((x.toNat : Int) < 128) = false := by simp; omega
        obtain ⟨z, s, h, hst, hse, hs64, hh⟩ := refStep x k q hk hq.out (by omega)
        obtain ⟨r1, r2, r3, r4⟩ := hst
        have HSE := Lib.hid hse
        have HS := Lib.hid hs64
        have HH := Lib.hid hh
        clear hse hs64 hh
        clear hway
        go_wp2
        go_quiet (fail)
        go_wp2
        go_quiet (fail)
        go_wp2
        go_roundw
        case rel =>
          have hw := HW.out
          have hs := HSE.out
          have hq' := hq.out
          have hp' := HP.out
          have hxm : x.toNat % 128 = x.toNat - 128 := by have := x.toNat_lt; omega
          refine ⟨k + 1, s, p + 1, rfl, by go_num, by omega, ?_, ?_, by omega, hbq _, ?_, hgq _⟩
          · show s < 128 ^ (k + 1)
            have h7 : 128 ^ k * (x.toNat % 128) ≤ 128 ^ k * 127 := Nat.mul_le_mul (Nat.le_refl _) (by omega)
            rw [Nat.pow_succ]
            omega
          · show p + 1 = a0 + (k + 1)
            omega
          · show _ = _
            rw [HD.out, HL.out, show 9 - k = (9 - (k + 1)) + 1 from by omega, Wire.dec_more (by omega), Option.map_map, decide_eq_false (by omega)]
            congr 1
            funext r
            simp only [Function.comp_apply, Prod.mk.injEq, and_true]
            rw [hs, hxm, Nat.pow_succ, Nat.mul_add, ← Nat.mul_assoc, Nat.add_assoc]
        case measure =>
          have hw := HW.out
          simp [intOf]; omega
      · have HW := Lib.hid hway
        have t9 : ((k : Int) == 9) = false := by rw [beq_eq_false_iff_ne]; omega
        have u0 : decide ((0 : Int) < (k : Int)) = false := by simp; omega
        have u0' : decide (0 < k) = false := by simp; omega
        have u8 : decide ((x.toNat : Int) < 128) = false := by simp; omega
        obtain ⟨z, s, h, hst, hse, hs64, hh⟩ := refStep x k q hk hq.out (by omega)
        obtain ⟨r1, r2, r3, r4⟩ := hst
        have HSE := Lib.hid hse
        have HS := Lib.hid hs64
        have HH := Lib.hid hh
        clear hse hs64 hh
        clear hway
        go_wp2
        go_quiet (fail)
        go_wp2
        go_quiet (fail)
        go_wp2
        go_roundw
        case rel =>
          have hw := HW.out
          have hs := HSE.out
          have hq' := hq.out
          have hp' := HP.out
          have hxm : x.toNat % 128 = x.toNat - 128 := by have := x.toNat_lt; omega
          refine ⟨k + 1, s, p + 1, rfl, by go_num, by omega, ?_, ?_, by omega, hbq _, ?_, hgq _⟩
          · show s < 128 ^ (k + 1)
            have h7 : 128 ^ k * (x.toNat % 128) ≤ 128 ^ k * 127 := Nat.mul_le_mul (Nat.le_refl _) (by omega)
            rw [Nat.pow_succ]
            omega
          · show p + 1 = a0 + (k + 1)
            omega
          · show _ = _
            rw [HD.out, HL.out, show 9 - k = (9 - (k + 1)) + 1 from by omega, Wire.dec_more (by omega), Option.map_map, decide_eq_false (by omega)]
            congr 1
            funext r
            simp only [Function.comp_apply, Prod.mk.injEq, and_true]
            rw [hs, hxm, Nat.pow_succ, Nat.mul_add, ← Nat.mul_assoc, Nat.add_assoc]
        case measure =>
          have hw := HW.out
          simp [intOf]; omega
    · have hdn : l.drop p = [] := List.drop_eq_nil_of_le (by have := hln.out; omega)
      have HI : Hid (Wire.intS (some (l.drop a0)) = (0, none)) := by
        apply Wire.intS_none
        rw [HD.out, hdn]
        cases h : 9 - k <;> rfl
      have t2 : decide ((n : Int) ≤ (p : Int)) = true := by simp; omega
      have t2' : decide (n ≤ p) = true := by simp; omega
      clear hdn
      have hbk : ∀ N, Blk ((wr.drewN N).setCell ⟨g, 2, none⟩ (.bool true)) g 141 #[.slice A n c, .int .i64 (p : Int), .bool true] := fun N => (hbw.drewN N).set_ 2 (.bool true)
      have hgk : ∀ N, w.grownBy ((wr.drewN N).setCell ⟨g, 2, none⟩ (.bool true)) (some g) := fun N => only_setCell (only_drewN hgr N) (.inl rfl) _
      go_wp2
      go_quiet (fail)
      go_wp2
      go_ret
      rw [HI.out]
      exact ⟨rfl, RS.mk (hbk _) (hrd.only (hgk _) (by omega) (Nat.le_refl _)) hnc hc hak rfl, hgk _⟩

set_option maxRecDepth 100000 in
set_option maxHeartbeats 400000 in
theorem fInt_bad (w : World) (g : Nat) (l : List UInt8) (a0 : Nat) (hr : Rdr 141 w g l a0 true) :
    Calls Tryz.prog 95 #[.pointer (some ⟨g, 0, none⟩)] w fun e w' =>
      e = .returned (.int .i64 0) ∧ RS 141 w' g none ∧ w.grownBy w' (some g) := by
  obtain ⟨A, n, c, hb, hrd, hnc, hc, han⟩ := hr
  have h0 := hb.cell 0
  have h1 := hb.cell 1
  have h2 := hb.cell 2
  have f2 := hb.frozen 2
  have hgl := hb.lt
  simp at h0 h1 h2
  have hbk : ∀ N, Blk ((w.drewN N).setCell ⟨g, 2, none⟩ (.bool true)) g 141 #[.slice A n c, .int .i64 (a0 : Int), .bool true] := fun N => (hb.drewN N).set_ 2 (.bool true)
  have hgk : ∀ N, w.grownBy ((w.drewN N).setCell ⟨g, 2, none⟩ (.bool true)) (some g) := fun N => only_setCell (only_drewN (only_refl w g) N) (.inl rfl) _
  go_enter Tryz.func95, Tryz.ntmps95
  go_wp2
  refine wp_loop_rounds 1 ?_
  rw [rounds_succ]
  go_wp2
  go_quiet (fail)
  go_wp2
  go_ret
  exact ⟨rfl, RS.mk (hbk _) (hrd.only (hgk _) (by omega) (Nat.le_refl _)) hnc hc han rfl, hgk _⟩

theorem fInt_any (w : World) (g : Nat) (s : Option (List UInt8)) (hr : RS 141 w g s) :
    Calls Tryz.prog 95 #[.pointer (some ⟨g, 0, none⟩)] w fun e w' =>
      e = .returned (.int .i64 (Wire.intS s).1) ∧ RS 141 w' g (Wire.intS s).2 ∧ w.grownBy w' (some g) := by
  obtain ⟨l, p, bad, h, rfl⟩ := hr
  cases bad
  · exact fInt_ok w g l p h
  · exact fInt_bad w g l p h
end Go.Proofs.YtebeidnmplnlpaaGreat
end

section
namespace Go.Proofs.YtebeidnmplnlpaaGreat
set_option linter.unusedVariables false
open Go.RowKit

theorem RS.split {T : TypeId} {w : World} {g : Nat} {s : Option (List UInt8)} (h : RS T w g s) :
    ∃ (l : List UInt8) (p : Nat) (A : Option Addr) (n c : Nat), Blk w g T #[.slice A n c, .int .i64 (p : Int), .bool (s == none)] ∧ Reads w g 1 A n (bv l) ∧ n ≤ c ∧ n ≤ 4611686018427387904 ∧ p ≤ n ∧ l.length = n ∧ (∀ r, s = some r → r = l.drop p) := by
  obtain ⟨l, p, bad, ⟨A, n, c, hb, hrd, hnc, hc, hp⟩, rfl⟩ := h
  have hln : l.length = n := by have := hrd.1; rw [bv_length] at this; omega
  cases bad
  · exact ⟨l, p, A, n, c, hb, hrd, hnc, hc, hp, hln, fun r hr => by simp at hr; exact hr.symm⟩
  · exact ⟨l, p, A, n, c, hb, hrd, hnc, hc, hp, hln, fun r hr => by simp at hr⟩

set_option maxHeartbeats 800000 in
theorem rCount_any (w : World) (g : Nat) (s : Option (List UInt8)) (most : Int) (hr : RS 157 w g s) :
    Calls Tryz.prog 117 #[.pointer (some ⟨g, 0, none⟩), .int .i64 most] w fun e w' => e = .returned (.int .i64 (Wire.countS most s).1) ∧ RS 157 w' g (Wire.countS most s).2 ∧ w.grownBy w' (some g) := by
  obtain ⟨v, s', hI⟩ : ∃ v s', Wire.intS s = (v, s') := ⟨_, _, rfl⟩
  have HI := Lib.hid hI
  cases s' with
  | none =>
    have hcs : Wire.countS most s = (0, none) := by unfold Wire.countS; rw [hI]
    clear hI
    have HC := Lib.hid hcs
    clear hcs
    go_enter Tryz.func117, Tryz.ntmps117
    go_wp2_with fail
    refine (rInt_any w g s hr).mono ?_
    rintro e w1 ⟨rfl, hr1, hg1⟩
    rw [HI.out] at hr1 ⊢
    obtain ⟨l, p, A, n, c, hb, hrd, hnc, hc, hp, hln, hsr⟩ := hr1.split
    have hsl := hr1.lt
    have h0 := hb.cell 0
    have h1 := hb.cell 1
    have h2 := hb.cell 2
    have f2 := hb.frozen 2
    simp at h0 h1 h2
    have hbk : ∀ N, Blk ((w1.drewN N).setCell ⟨g, 2, none⟩ (.bool true)) g 157 #[.slice A n c, .int .i64 (p : Int), .bool true] := fun N => (hb.drewN N).set_ 2 (.bool true)
    have hgk : ∀ N, w1.grownBy ((w1.drewN N).setCell ⟨g, 2, none⟩ (.bool true)) (some g) := fun N => only_setCell (only_drewN (only_refl w1 g) N) (.inl rfl) _
    have hbad : ∀ N, RS 157 ((w1.drewN N).setCell ⟨g, 2, none⟩ (.bool true)) g none := fun N => RS.mk (hbk N) (hrd.only (hgk N) (by omega) (Nat.le_refl _)) hnc hc hp rfl
    clear hbk hln hsr hb hrd
    go_wp2
    go_ret
    rw [HC.out]
    exact ⟨rfl, hbad 0, only_trans hg1 (hgk 0)⟩
  | some r =>
    by_cases hv0 : v < 0
    · have hcs : Wire.countS most s = (0, none) := by unfold Wire.countS; rw [hI]; simp [hv0]
      clear hI
      have t0 : decide (v < 0) = true := by simpa using hv0
      have HC := Lib.hid hcs
      clear hcs
      go_enter Tryz.func117, Tryz.ntmps117
      go_wp2_with fail
      refine (rInt_any w g s hr).mono ?_
      rintro e w1 ⟨rfl, hr1, hg1⟩
      rw [HI.out] at hr1 ⊢
      obtain ⟨l, p, A, n, c, hb, hrd, hnc, hc, hp, hln, hsr⟩ := hr1.split
      have hsl := hr1.lt
      have h0 := hb.cell 0
      have h1 := hb.cell 1
      have h2 := hb.cell 2
      have f2 := hb.frozen 2
      simp at h0 h1 h2
      have hbk : ∀ N, Blk ((w1.drewN N).setCell ⟨g, 2, none⟩ (.bool true)) g 157 #[.slice A n c, .int .i64 (p : Int), .bool true] := fun N => (hb.drewN N).set_ 2 (.bool true)
      have hgk : ∀ N, w1.grownBy ((w1.drewN N).setCell ⟨g, 2, none⟩ (.bool true)) (some g) := fun N => only_setCell (only_drewN (only_refl w1 g) N) (.inl rfl) _
      have hbad : ∀ N, RS 157 ((w1.drewN N).setCell ⟨g, 2, none⟩ (.bool true)) g none := fun N => RS.mk (hbk N) (hrd.only (hgk N) (by omega) (Nat.le_refl _)) hnc hc hp rfl
      clear hbk hln hsr hb hrd
      go_wp2
      go_ret
      rw [HC.out]
      exact ⟨rfl, hbad 0, only_trans hg1 (hgk 0)⟩
    · have t0 : decide (v < 0) = false := by simpa using hv0
      by_cases hvm : most < v
      · have hcs : Wire.countS most s = (0, none) := by unfold Wire.countS; rw [hI]; simp [hvm]
        clear hI
        have t1 : decide (most < v) = true := by simpa using hvm
        have HC := Lib.hid hcs
        clear hcs
        go_enter Tryz.func117, Tryz.ntmps117
        go_wp2_with fail
        refine (rInt_any w g s hr).mono ?_
        rintro e w1 ⟨rfl, hr1, hg1⟩
        rw [HI.out] at hr1 ⊢
        obtain ⟨l, p, A, n, c, hb, hrd, hnc, hc, hp, hln, hsr⟩ := hr1.split
        have hsl := hr1.lt
        have h0 := hb.cell 0
        have h1 := hb.cell 1
        have h2 := hb.cell 2
        have f2 := hb.frozen 2
        simp at h0 h1 h2
        have hbk : ∀ N, Blk ((w1.drewN N).setCell ⟨g, 2, none⟩ (.bool true)) g 157 #[.slice A n c, .int .i64 (p : Int), .bool true] := fun N => (hb.drewN N).set_ 2 (.bool true)
        have hgk : ∀ N, w1.grownBy ((w1.drewN N).setCell ⟨g, 2, none⟩ (.bool true)) (some g) := fun N => only_setCell (only_drewN (only_refl w1 g) N) (.inl rfl) _
        have hbad : ∀ N, RS 157 ((w1.drewN N).setCell ⟨g, 2, none⟩ (.bool true)) g none := fun N => RS.mk (hbk N) (hrd.only (hgk N) (by omega) (Nat.le_refl _)) hnc hc hp rfl
        clear hbk hln hsr hb hrd
        go_wp2
        go_ret
        rw [HC.out]
        exact ⟨rfl, hbad 0, only_trans hg1 (hgk 0)⟩
      · have t1 : decide (most < v) = false := by simpa using hvm
        by_cases hvl : (r.length : Int) < v
        · have hcs : Wire.countS most s = (0, none) := by unfold Wire.countS; rw [hI]; simp [hvl]
          clear hI
          have t2 : decide ((Wire.leftS (some r) : Int) < v) = true := decide_eq_true hvl
          have HC := Lib.hid hcs
          clear hcs
          go_enter Tryz.func117, Tryz.ntmps117
          go_wp2_with fail
          refine (rInt_any w g s hr).mono ?_
          rintro e w1 ⟨rfl, hr1, hg1⟩
          rw [HI.out] at hr1 ⊢
          obtain ⟨l, p, A, n, c, hb, hrd, hnc, hc, hp, hln, hsr⟩ := hr1.split
          have hsl := hr1.lt
          have h0 := hb.cell 0
          have h1 := hb.cell 1
          have h2 := hb.cell 2
          have f2 := hb.frozen 2
          simp at h0 h1 h2
          have hbk : ∀ N, Blk ((w1.drewN N).setCell ⟨g, 2, none⟩ (.bool true)) g 157 #[.slice A n c, .int .i64 (p : Int), .bool true] := fun N => (hb.drewN N).set_ 2 (.bool true)
          have hgk : ∀ N, w1.grownBy ((w1.drewN N).setCell ⟨g, 2, none⟩ (.bool true)) (some g) := fun N => only_setCell (only_drewN (only_refl w1 g) N) (.inl rfl) _
          have hbad : ∀ N, RS 157 ((w1.drewN N).setCell ⟨g, 2, none⟩ (.bool true)) g none := fun N => RS.mk (hbk N) (hrd.only (hgk N) (by omega) (Nat.le_refl _)) hnc hc hp rfl
          clear hbk hln hsr hb hrd
          go_wp2_with fail
          refine (rLeft_any _ g _ hr1).mono ?_
          rintro e w2 ⟨rfl, N, rfl⟩
          go_wp2
          go_ret
          rw [HC.out]
          exact ⟨rfl, hbad N, only_trans hg1 (hgk N)⟩
        · have hcs : Wire.countS most s = (v, some r) := by unfold Wire.countS; rw [hI]; simp; omega
          have HC := Lib.hid hcs
          clear hcs hI
          have t2 : decide ((Wire.leftS (some r) : Int) < v) = false := decide_eq_false hvl
          go_enter Tryz.func117, Tryz.ntmps117
          go_wp2_with fail
          refine (rInt_any w g s hr).mono ?_
          rintro e w1 ⟨rfl, hr1, hg1⟩
          rw [HI.out] at hr1 ⊢
          obtain ⟨l, p, A, n, c, hb, hrd, hnc, hc, hp, hln, hsr⟩ := hr1.split
          have h2 := hb.cell 2
          simp at h2
          clear hln hsr hb hrd
          go_wp2_with fail
          refine (rLeft_any _ g _ hr1).mono ?_
          rintro e w2 ⟨rfl, N, rfl⟩
          go_wp2
          go_ret
          rw [HC.out]
          exact ⟨rfl, hr1.drewN N, only_drewN hg1 N⟩

set_option maxRecDepth 100000 in
set_option maxHeartbeats 800000 in
theorem rText_any (w : World) (g : Nat) (s : Option (List UInt8)) (most : Int) (hr : RS 157 w g s) :
    Calls Tryz.prog 92 #[.pointer (some ⟨g, 0, none⟩), .int .i64 most] w fun e w' => e = .returned (.string (txt (Wire.textS most s).1)) ∧ RS 157 w' g (Wire.textS most s).2 ∧ w.grownBy w' (some g) := by
  obtain ⟨v, s', hI⟩ : ∃ v s', Wire.countS most s = (v, s') := ⟨_, _, rfl⟩
  have HI := Lib.hid hI
  cases s' with
  | none =>
    have hcs : Wire.textS most s = ([], none) := by unfold Wire.textS; rw [hI]
    have HC := Lib.hid hcs
    clear hI hcs
    go_enter Tryz.func92, Tryz.ntmps92
    go_wp2_with fail
    refine (rCount_any w g s most hr).mono ?_
    rintro e w1 ⟨rfl, hr1, hg1⟩
    rw [HI.out] at hr1 ⊢
    obtain ⟨l, p, A, n, c, hb, hrd, hnc, hc, hp, hln, hsr⟩ := hr1.split
    have h2 := hb.cell 2
    simp at h2
    clear hln hsr hb hrd
    go_wp2
    go_ret
    rw [HC.out]
    exact ⟨rfl, hr1, hg1⟩
  | some r =>
    have hv := Wire.countS_range hI
    have hcs : Wire.textS most s = (r.take v.toNat, some (r.drop v.toNat)) := by unfold Wire.textS; rw [hI]
    have HC := Lib.hid hcs
    clear hI hcs
    obtain ⟨k, rfl⟩ := Int.eq_ofNat_of_zero_le hv.1
    have hv2 := hv.2
    have HV := Lib.hid hv2
    clear hv hv2
    go_enter Tryz.func92, Tryz.ntmps92
    go_wp2_with fail
    refine (rCount_any w g s most hr).mono ?_
    rintro e w1 ⟨rfl, hr1, hg1⟩
    rw [HI.out] at hr1 ⊢
    obtain ⟨l, p, A, n, c, hb, hrd, hnc, hc, hp, hln, hsr⟩ := hr1.split
    have hrr := hsr r rfl
    subst hrr
    have hkn : p + k ≤ n := by have := HV.out; rw [List.length_drop] at this; omega
    have h0 := hb.cell 0
    have h1 := hb.cell 1
    have h2 := hb.cell 2
    have f1 := hb.frozen 1
    simp at h0 h1 h2
    have hbk : Blk (w1.setCell ⟨g, 1, none⟩ (.int .i64 ((p : Int) + (k : Int)))) g 157 #[.slice A n c, .int .i64 ((p + k : Nat) : Int), .bool false] := hb.set_ 1 (.int .i64 ((p : Int) + (k : Int)))
    have hgk : w1.grownBy (w1.setCell ⟨g, 1, none⟩ (.int .i64 ((p : Int) + (k : Int)))) (some g) := only_setCell (only_refl w1 g) (.inl rfl) _
    have hrk := hrd.only hgk (by have := hb.lt; omega) (Nat.le_refl _)
    have hs1 : ∀ W, (Instr.slice 33 (.slice A n c) (some (.int .i64 (p : Int))) (some (.int .i64 ((p : Int) + (k : Int)))) none).run Tryz.prog W = .ok (.slice (cutA A c p) (p + k - p) (c - p)) W :=
      fun W => slice_lh W A n c p (p + k) (by omega) (by omega)
    rw [show p + k - p = k from by omega] at hs1
    have hrt := (hrk.take (k := p + k) (by omega)).cutA (k := p) (c := c) (by omega) (by omega)
    rw [show p + k - p = k from by omega] at hrt
    have kc := fun N => run_string_of (P := Tryz.prog) ((w1.setCell ⟨g, 1, none⟩ (.int .i64 ((p : Int) + (k : Int)))).drewN N) Tryz.underlying33 Tryz.underlying5 Tryz.underlying9 (c - p) (hrt.drewN N)
    have hend : RS 157 (w1.setCell ⟨g, 1, none⟩ (.int .i64 ((p : Int) + (k : Int)))) g (some ((l.drop p).drop k)) := RS.mk (p := p + k) hbk hrk hnc hc hkn (by simp)
    have hte : (l.take (p + k)).drop p = (l.drop p).take k := by rw [List.drop_take]; congr 1; omega
    rw [hte] at kc
    have HLN := Lib.hid hln
    have hen : ((p : Int) + (k : Int)) - (k : Int) = (p : Int) := by omega
    clear hln hsr hrd hrk hrt hbk hb hr1 hte
    go_wp2
    go_quiet (fail)
    go_wp2
    go_ret
    rw [HC.out, Int.toNat_natCast]
    exact ⟨rfl, hend.drewN _, only_drewN (only_trans hg1 hgk) _⟩

set_option maxHeartbeats 800000 in
theorem fCount_any (w : World) (g : Nat) (s : Option (List UInt8)) (most : Int) (hr : RS 141 w g s) :
    Calls Tryz.prog 118 #[.pointer (some ⟨g, 0, none⟩), .int .i64 most] w fun e w' => e = .returned (.int .i64 (Wire.countS most s).1) ∧ RS 141 w' g (Wire.countS most s).2 ∧ w.grownBy w' (some g) := by
  obtain ⟨v, s', hI⟩ : ∃ v s', Wire.intS s = (v, s') := ⟨_, _, rfl⟩
  have HI := Lib.hid hI
  cases s' with
  | none =>
    have hcs : Wire.countS most s = (0, none) := by unfold Wire.countS; rw [hI]
    clear hI
    have HC := Lib.hid hcs
    clear hcs
    go_enter Tryz.func118, Tryz.ntmps118
    go_wp2_with fail
    refine (fInt_any w g s hr).mono ?_
    rintro e w1 ⟨rfl, hr1, hg1⟩
    rw [HI.out] at hr1 ⊢
    obtain ⟨l, p, A, n, c, hb, hrd, hnc, hc, hp, hln, hsr⟩ := hr1.split
    have hsl := hr1.lt
    have h0 := hb.cell 0
    have h1 := hb.cell 1
    have h2 := hb.cell 2
    have f2 := hb.frozen 2
    simp at h0 h1 h2
    have hbk : ∀ N, Blk ((w1.drewN N).setCell ⟨g, 2, none⟩ (.bool true)) g 141 #[.slice A n c, .int .i64 (p : Int), .bool true] := fun N => (hb.drewN N).set_ 2 (.bool true)
    have hgk : ∀ N, w1.grownBy ((w1.drewN N).setCell ⟨g, 2, none⟩ (.bool true)) (some g) := fun N => only_setCell (only_drewN (only_refl w1 g) N) (.inl rfl) _
    have hbad : ∀ N, RS 141 ((w1.drewN N).setCell ⟨g, 2, none⟩ (.bool true)) g none := fun N => RS.mk (hbk N) (hrd.only (hgk N) (by omega) (Nat.le_refl _)) hnc hc hp rfl
    clear hbk hln hsr hb hrd
    go_wp2
    go_ret
    rw [HC.out]
    exact ⟨rfl, hbad 0, only_trans hg1 (hgk 0)⟩
  | some r =>
    by_cases hv0 : v < 0
    · have hcs : Wire.countS most s = (0, none) := by unfold Wire.countS; rw [hI]; simp [hv0]
      clear hI
      have t0 : decide (v < 0) = true := by simpa using hv0
      have HC := Lib.hid hcs
      clear hcs
      go_enter Tryz.func118, Tryz.ntmps118
      go_wp2_with fail
      refine (fInt_any w g s hr).mono ?_
      rintro e w1 ⟨rfl, hr1, hg1⟩
      rw [HI.out] at hr1 ⊢
      obtain ⟨l, p, A, n, c, hb, hrd, hnc, hc, hp, hln, hsr⟩ := hr1.split
      have hsl := hr1.lt
      have h0 := hb.cell 0
      have h1 := hb.cell 1
      have h2 := hb.cell 2
      have f2 := hb.frozen 2
      simp at h0 h1 h2
      have hbk : ∀ N, Blk ((w1.drewN N).setCell ⟨g, 2, none⟩ (.bool true)) g 141 #[.slice A n c, .int .i64 (p : Int), .bool true] := fun N => (hb.drewN N).set_ 2 (.bool true)
      have hgk : ∀ N, w1.grownBy ((w1.drewN N).setCell ⟨g, 2, none⟩ (.bool true)) (some g) := fun N => only_setCell (only_drewN (only_refl w1 g) N) (.inl rfl) _
      have hbad : ∀ N, RS 141 ((w1.drewN N).setCell ⟨g, 2, none⟩ (.bool true)) g none := fun N => RS.mk (hbk N) (hrd.only (hgk N) (by omega) (Nat.le_refl _)) hnc hc hp rfl
      clear hbk hln hsr hb hrd
      go_wp2
      go_ret
      rw [HC.out]
      exact ⟨rfl, hbad 0, only_trans hg1 (hgk 0)⟩
    · have t0 : decide (v < 0) = false := by simpa using hv0
      by_cases hvm : most < v
      · have hcs : Wire.countS most s = (0, none) := by unfold Wire.countS; rw [hI]; simp [hvm]
        clear hI
        have t1 : decide (most < v) = true := by simpa using hvm
        have HC := Lib.hid hcs
        clear hcs
        go_enter Tryz.func118, Tryz.ntmps118
        go_wp2_with fail
        refine (fInt_any w g s hr).mono ?_
        rintro e w1 ⟨rfl, hr1, hg1⟩
        rw [HI.out] at hr1 ⊢
        obtain ⟨l, p, A, n, c, hb, hrd, hnc, hc, hp, hln, hsr⟩ := hr1.split
        have hsl := hr1.lt
        have h0 := hb.cell 0
        have h1 := hb.cell 1
        have h2 := hb.cell 2
        have f2 := hb.frozen 2
        simp at h0 h1 h2
        have hbk : ∀ N, Blk ((w1.drewN N).setCell ⟨g, 2, none⟩ (.bool true)) g 141 #[.slice A n c, .int .i64 (p : Int), .bool true] := fun N => (hb.drewN N).set_ 2 (.bool true)
        have hgk : ∀ N, w1.grownBy ((w1.drewN N).setCell ⟨g, 2, none⟩ (.bool true)) (some g) := fun N => only_setCell (only_drewN (only_refl w1 g) N) (.inl rfl) _
        have hbad : ∀ N, RS 141 ((w1.drewN N).setCell ⟨g, 2, none⟩ (.bool true)) g none := fun N => RS.mk (hbk N) (hrd.only (hgk N) (by omega) (Nat.le_refl _)) hnc hc hp rfl
        clear hbk hln hsr hb hrd
        go_wp2
        go_ret
        rw [HC.out]
        exact ⟨rfl, hbad 0, only_trans hg1 (hgk 0)⟩
      · have t1 : decide (most < v) = false := by simpa using hvm
        by_cases hvl : (r.length : Int) < v
        · have hcs : Wire.countS most s = (0, none) := by unfold Wire.countS; rw [hI]; simp [hvl]
          clear hI
          have t2 : decide ((Wire.leftS (some r) : Int) < v) = true := decide_eq_true hvl
          have HC := Lib.hid hcs
          clear hcs
          go_enter Tryz.func118, Tryz.ntmps118
          go_wp2_with fail
          refine (fInt_any w g s hr).mono ?_
          rintro e w1 ⟨rfl, hr1, hg1⟩
          rw [HI.out] at hr1 ⊢
          obtain ⟨l, p, A, n, c, hb, hrd, hnc, hc, hp, hln, hsr⟩ := hr1.split
          have hsl := hr1.lt
          have h0 := hb.cell 0
          have h1 := hb.cell 1
          have h2 := hb.cell 2
          have f2 := hb.frozen 2
          simp at h0 h1 h2
          have hbk : ∀ N, Blk ((w1.drewN N).setCell ⟨g, 2, none⟩ (.bool true)) g 141 #[.slice A n c, .int .i64 (p : Int), .bool true] := fun N => (hb.drewN N).set_ 2 (.bool true)
          have hgk : ∀ N, w1.grownBy ((w1.drewN N).setCell ⟨g, 2, none⟩ (.bool true)) (some g) := fun N => only_setCell (only_drewN (only_refl w1 g) N) (.inl rfl) _
          have hbad : ∀ N, RS 141 ((w1.drewN N).setCell ⟨g, 2, none⟩ (.bool true)) g none := fun N => RS.mk (hbk N) (hrd.only (hgk N) (by omega) (Nat.le_refl _)) hnc hc hp rfl
          clear hbk hln hsr hb hrd
          go_wp2_with fail
          refine (fLeft_any _ g _ hr1).mono ?_
          rintro e w2 ⟨rfl, N, rfl⟩
          go_wp2
          go_ret
          rw [HC.out]
          exact ⟨rfl, hbad N, only_trans hg1 (hgk N)⟩
        · have hcs : Wire.countS most s = (v, some r) := by unfold Wire.countS; rw [hI]; simp; omega
          have HC := Lib.hid hcs
          clear hcs hI
          have t2 : decide ((Wire.leftS (some r) : Int) < v) = false := decide_eq_false hvl
          go_enter Tryz.func118, Tryz.ntmps118
          go_wp2_with fail
          refine (fInt_any w g s hr).mono ?_
          rintro e w1 ⟨rfl, hr1, hg1⟩
          rw [HI.out] at hr1 ⊢
          obtain ⟨l, p, A, n, c, hb, hrd, hnc, hc, hp, hln, hsr⟩ := hr1.split
          have h2 := hb.cell 2
          simp at h2
          clear hln hsr hb hrd
          go_wp2_with fail
          refine (fLeft_any _ g _ hr1).mono ?_
          rintro e w2 ⟨rfl, N, rfl⟩
          go_wp2
          go_ret
          rw [HC.out]
          exact ⟨rfl, hr1.drewN N, only_drewN hg1 N⟩

set_option maxRecDepth 100000 in
set_option maxHeartbeats 800000 in
theorem fText_any (w : World) (g : Nat) (s : Option (List UInt8)) (most : Int) (hr : RS 141 w g s) :
    Calls Tryz.prog 99 #[.pointer (some ⟨g, 0, none⟩), .int .i64 most] w fun e w' => e = .returned (.string (txt (Wire.textS most s).1)) ∧ RS 141 w' g (Wire.textS most s).2 ∧ w.grownBy w' (some g) := by
  obtain ⟨v, s', hI⟩ : ∃ v s', Wire.countS most s = (v, s') := ⟨_, _, rfl⟩
  have HI := Lib.hid hI
  cases s' with
  | none =>
    have hcs : Wire.textS most s = ([], none) := by unfold Wire.textS; rw [hI]
    have HC := Lib.hid hcs
    clear hI hcs
    go_enter Tryz.func99, Tryz.ntmps99
    go_wp2_with fail
    refine (fCount_any w g s most hr).mono ?_
    rintro e w1 ⟨rfl, hr1, hg1⟩
    rw [HI.out] at hr1 ⊢
    obtain ⟨l, p, A, n, c, hb, hrd, hnc, hc, hp, hln, hsr⟩ := hr1.split
    have h2 := hb.cell 2
    simp at h2
    clear hln hsr hb hrd
    go_wp2
    go_ret
    rw [HC.out]
    exact ⟨rfl, hr1, hg1⟩
  | some r =>
    have hv := Wire.countS_range hI
    have hcs : Wire.textS most s = (r.take v.toNat, some (r.drop v.toNat)) := by unfold Wire.textS; rw [hI]
    have HC := Lib.hid hcs
    clear hI hcs
    obtain ⟨k, rfl⟩ := Int.eq_ofNat_of_zero_le hv.1
    have hv2 := hv.2
    have HV := Lib.hid hv2
    clear hv hv2
    go_enter Tryz.func99, Tryz.ntmps99
    go_wp2_with fail
    refine (fCount_any w g s most hr).mono ?_
    rintro e w1 ⟨rfl, hr1, hg1⟩
    rw [HI.out] at hr1 ⊢
    obtain ⟨l, p, A, n, c, hb, hrd, hnc, hc, hp, hln, hsr⟩ := hr1.split
    have hrr := hsr r rfl
    subst hrr
    have hkn : p + k ≤ n := by have := HV.out; rw [List.length_drop] at this; omega
    have h0 := hb.cell 0
    have h1 := hb.cell 1
    have h2 := hb.cell 2
    have f1 := hb.frozen 1
    simp at h0 h1 h2
    have hbk : Blk (w1.setCell ⟨g, 1, none⟩ (.int .i64 ((p : Int) + (k : Int)))) g 141 #[.slice A n c, .int .i64 ((p + k : Nat) : Int), .bool false] := hb.set_ 1 (.int .i64 ((p : Int) + (k : Int)))
    have hgk : w1.grownBy (w1.setCell ⟨g, 1, none⟩ (.int .i64 ((p : Int) + (k : Int)))) (some g) := only_setCell (only_refl w1 g) (.inl rfl) _
    have hrk := hrd.only hgk (by have := hb.lt; omega) (Nat.le_refl _)
    have hs1 : ∀ W, (Instr.slice 33 (.slice A n c) (some (.int .i64 (p : Int))) (some (.int .i64 ((p : Int) + (k : Int)))) none).run Tryz.prog W = .ok (.slice (cutA A c p) (p + k - p) (c - p)) W :=
      fun W => slice_lh W A n c p (p + k) (by omega) (by omega)
    rw [show p + k - p = k from by omega] at hs1
    have hrt := (hrk.take (k := p + k) (by omega)).cutA (k := p) (c := c) (by omega) (by omega)
    rw [show p + k - p = k from by omega] at hrt
    have kc := fun N => run_string_of (P := Tryz.prog) ((w1.setCell ⟨g, 1, none⟩ (.int .i64 ((p : Int) + (k : Int)))).drewN N) Tryz.underlying33 Tryz.underlying5 Tryz.underlying9 (c - p) (hrt.drewN N)
    have hend : RS 141 (w1.setCell ⟨g, 1, none⟩ (.int .i64 ((p : Int) + (k : Int)))) g (some ((l.drop p).drop k)) := RS.mk (p := p + k) hbk hrk hnc hc hkn (by simp)
    have hte : (l.take (p + k)).drop p = (l.drop p).take k := by rw [List.drop_take]; congr 1; omega
    rw [hte] at kc
    have HLN := Lib.hid hln
    have hen : ((p : Int) + (k : Int)) - (k : Int) = (p : Int) := by omega
    clear hln hsr hrd hrk hrt hbk hb hr1 hte
    go_wp2
    go_quiet (fail)
    go_wp2
    go_ret
    rw [HC.out, Int.toNat_natCast]
    exact ⟨rfl, hend.drewN _, only_drewN (only_trans hg1 hgk) _⟩

theorem rOk_any (w : World) (g : Nat) (s : Option (List UInt8)) (hr : RS 157 w g s) :
    Calls Tryz.prog 116 #[.pointer (some ⟨g, 0, none⟩)] w fun e w' => e = .returned (.bool (Wire.okS s)) ∧ w = w' := by
  obtain ⟨l, p, A, n, c, hb, _⟩ := hr.split
  have h2 := hb.cell 2
  simp at h2
  go_enter Tryz.func116, Tryz.ntmps116
  go_wp2
  go_ret
  exact ⟨by cases s <;> rfl, rfl⟩

set_option maxHeartbeats 400000 in
theorem rNew_any (A : Option Addr) (n c B : Nat) (l : List UInt8) (w : World) (hn : n ≤ 140737488355328) (hrd : Reads w B 1 A n (bv l)) :
    Calls Tryz.prog 88 #[.slice A n c] w fun e w' => ∃ g, e = .returned (.pointer (some ⟨g, 0, none⟩)) ∧ w.heap.size ≤ g ∧ RS 157 w' g (some l) ∧ Below w.heap.size w w' := by
  go_enter Tryz.func88, Tryz.ntmps88
  go_wp2_with (at_builtin; refine app_copy _ rfl _ rfl B A n c l rfl hrd hn ?_; intro A' c' w1 hO hb)
  go_ret
  obtain ⟨A1, c1, e1, hc1, _⟩ := (AppB.form (.inl hO) : _)
  injection e1 with e1 e2 e3
  subst e1; subst e3
  refine ⟨_, rfl, hb.size, RS.mk (p := 0) (Blk.new w1 _ _) (hO.reads.alloc (Nat.le_refl _) _) hc1 (by omega) (by omega) rfl, hb.alloc hb.size _⟩
end Go.Proofs.YtebeidnmplnlpaaGreat
end

section
namespace Go.Proofs.YtebeidnmplnlpaaGreat
set_option linter.unusedVariables false
open Go.RowKit

theorem u8_sh (s k : Nat) : IntKind.u8.wrap ((s : Int) / 2 ^ k) = ((UInt8.ofNat (s / 2 ^ k)).toNat : Int) := by
  rw [UInt8.toNat_ofNat', show ((s : Int) / 2 ^ k) = ((s / 2 ^ k : Nat) : Int) from by simp]
  simp [IntKind.wrap, IntKind.bits, IntKind.signed]
theorem u8_of (s : Nat) : IntKind.u8.wrap (s : Int) = ((UInt8.ofNat s).toNat : Int) := by
  rw [UInt8.toNat_ofNat']
  simp [IntKind.wrap, IntKind.bits, IntKind.signed]

set_option maxRecDepth 10000 in
theorem frPut_yes (A : Option Addr) (n c : Nat) (l : List UInt8) (A2 : Option Addr) (n2 c2 : Nat) (body : List UInt8) (w : World) (h1 : 1 ≤ n2) (h2 : n2 ≤ 1048576) (hn : n ≤ 140737488351232) (hnc : n ≤ c)
    (hr : Reads w w.heap.size 1 A n (bv l)) (hr2 : Reads w w.heap.size 1 A2 n2 (bv body)) :
    Calls Tryz.prog 46 #[.slice A n c, .slice A2 n2 c2] w fun e w' => ∃ A' m c', e = .returned (.tuple #[.slice A' m c', .int .i64 0]) ∧ Own w' w.heap.size (.slice A' m c') m (l ++ Frame.put body) ∧ Below w.heap.size w w' := by
  have hlb : body.length = n2 := by have := hr2.1; rw [bv_length] at this; omega
  have hi10 := Wire.int_len (n2 : Int)
  refine calls_vc Tryz.func46 rfl (by kernel_rfl) ?_
  ((conv => whnf); (repeat ((first | (refine VL.cons ?_) | (refine VL.nil ?_) | (refine VC.seqS rfl ?_) | (refine VC.region ?_)); (conv => whnf))))
  ((repeat ((first | (refine VL.cons ?_) | (refine VL.nil ?_) | (refine VC.seqS rfl ?_) | (refine VC.region ?_) | (refine VC.cond ?_) | (refine VC.skip ?_) | (refine VBool.f ?_) | (refine VBool.dF (by omega) ?_) | (refine VRead.lenS ?_) | (refine VC.seq ?_)); (conv => whnf))))
  refine VCall.of (putInt_any none 0 0 [] (n2 : Int) _ (by omega) (by omega) (by omega) Reads.none_) ?_
  rintro e w1 ⟨A1, m1, c1, rfl, hO1, hb1⟩
  refine ⟨_, rfl, ?_⟩
  have hm1 := hO1.len
  simp only [List.nil_append] at hm1 hO1
  ((conv => whnf); (repeat ((first | (refine VL.cons ?_) | (refine VL.nil ?_) | (refine VC.seqS rfl ?_) | (refine VC.region ?_)); (conv => whnf))))
  ((repeat ((fail); (conv => whnf))))
  refine VCall.of (of_any A1 m1 c1 w1.heap.size _ _ (by unfold maxLen; omega) hO1.reads) ?_
  rintro e w1 ⟨rfl, rfl⟩
  refine ⟨_, rfl, ?_⟩
  ((conv => whnf); (repeat ((first | (refine VL.cons ?_)); (conv => whnf))))
  have hr2' := hr2.below hb1
  refine VCall.of (more_any _ (Crc.more_lt (by omega) _) A2 n2 c2 w.heap.size body _ (by unfold maxLen; omega) hr2') ?_
  rintro e w1 ⟨rfl, rfl⟩
  refine ⟨_, rfl, ?_⟩
  ((conv => whnf); (repeat ((first | (refine VL.cons ?_) | (refine VL.nil ?_) | (refine VC.seqS rfl ?_) | (refine VC.region ?_)); (conv => whnf))))
  ((repeat ((first | (refine VL.cons ?_) | (refine VRead.lenS ?_)); (conv => whnf))))
  refine VRead.cutHM (by omega) (by omega) (by omega) ?_
  ((conv => whnf); (repeat ((first | (refine VL.cons ?_)); (conv => whnf))))
  have hd : AppB _ w.heap.size (.slice A n n) n l := AppB.of (hr.below hb1)
  refine VSem.app hd hO1.reads (by omega) hb1.size ?_
  intro A3 c3 w3 _ hO3 hb3
  have hO3 := hO3 (by omega)
  have hB3 := hb1.trans (hb3.mono (Nat.le_refl _))
  generalize hs : Crc.more (Crc.more 0 (Wire.int (n2 : Int))) body = s
  have hs2 : Frame.sum body = s := by unfold Frame.sum; rw [hlb]; exact hs
  ((conv => whnf); (repeat ((first | (refine VL.cons ?_) | (refine VL.nil ?_) | (refine VC.seqS rfl ?_) | (refine VC.region ?_)); (conv => whnf))))
  ((repeat ((first | (refine VSem.convI ?_)); (conv => whnf))))
  refine VWrap.of (u8_of s) ?_
  ((conv => whnf); (repeat ((first | (refine VL.cons ?_)); (conv => whnf))))
  ((repeat ((fail); (conv => whnf))))
  refine VRead.shr (by decide) (by decide) ?_
  ((conv => whnf); (repeat ((first | (refine VL.cons ?_)); (conv => whnf))))
  ((repeat ((first | (refine VSem.convI ?_)); (conv => whnf))))
  refine VWrap.of (u8_sh s 8) ?_
  ((conv => whnf); (repeat ((first | (refine VL.cons ?_)); (conv => whnf))))
  ((repeat ((fail); (conv => whnf))))
  refine VRead.shr (by decide) (by decide) ?_
  ((conv => whnf); (repeat ((first | (refine VL.cons ?_)); (conv => whnf))))
  ((repeat ((first | (refine VSem.convI ?_)); (conv => whnf))))
  refine VWrap.of (u8_sh s 16) ?_
  ((conv => whnf); (repeat ((first | (refine VL.cons ?_)); (conv => whnf))))
  ((repeat ((fail); (conv => whnf))))
  refine VRead.shr (by decide) (by decide) ?_
  ((conv => whnf); (repeat ((first | (refine VL.cons ?_)); (conv => whnf))))
  ((repeat ((first | (refine VSem.convI ?_)); (conv => whnf))))
  refine VWrap.of (u8_sh s 24) ?_
  ((conv => whnf); (repeat ((first | (refine VL.cons ?_)); (conv => whnf))))
  ((repeat ((fail); (conv => whnf))))
  refine VSem.buildS rfl rfl (by simp [zipP, Value.oneCell']) (by omega) ?_
  ((conv => whnf); (repeat ((first | (refine VL.cons ?_)); (conv => whnf))))
  refine VSem.appO (m := 4) (news := Frame.le4 s) (hO3.alloc _) (reads_new w3 (Frame.le4 s) _ _ _ rfl 4 rfl) (by omega) (Nat.le_trans hB3.size (by simp)) ?_
  intro A5 c5 w5 hO5 _ hb5
  have hB5 := (hB3.alloc hB3.size _).trans hb5
  ((conv => whnf); (repeat ((first | (refine VL.cons ?_) | (refine VL.nil ?_) | (refine VC.seqS rfl ?_) | (refine VC.region ?_)); (conv => whnf))))
  ((repeat ((fail); (conv => whnf))))
  refine VSem.appO hO5 (hr2.below hB5) (by omega) hB5.size ?_
  intro A6 c6 w6 hO6 _ hb6
  ((conv => whnf); (repeat ((first | (refine VL.cons ?_) | (refine VL.nil ?_) | (refine VC.ret ?_)); (conv => whnf))))
  ((repeat ((fail); (conv => whnf))))
  refine ⟨_, _, _, rfl, ?_, hB5.trans hb6⟩
  unfold Frame.put
  rw [hlb, hs2]
  simpa only [List.append_assoc] using hO6

theorem refOfI_any (A : Option Addr) (n c B : Nat) (l : List UInt8) (w : World) (hl : n ≤ maxLen) (hrd : Reads w B 1 A n (bv l)) :
    Calls Tryz.prog 120 #[.slice A n c] w fun e w' => e = .returned (.int .u32 (Crc.more 0 l : Nat)) ∧ w = w' := (refOf_any A n c B l w hl hrd)
set_option maxRecDepth 10000 in
theorem refPut_any (A2 : Option Addr) (n2 c2 : Nat) (body : List UInt8) (w : World) (h2 : n2 ≤ 140737488351232) (hr2 : Reads w w.heap.size 1 A2 n2 (bv body)) :
    Calls Tryz.prog 101 #[.slice A2 n2 c2] w fun e w' => ∃ A' m c', e = .returned (.slice A' m c') ∧ Own w' w.heap.size (.slice A' m c') m (Frame.put body) ∧ Below w.heap.size w w' := by
  have hlb : body.length = n2 := by have := hr2.1; rw [bv_length] at this; omega
  have hi10 := Wire.int_len (n2 : Int)
  refine calls_vc Tryz.func101 rfl (by kernel_rfl) ?_
  ((conv => whnf); (repeat ((first | (refine VL.cons ?_) | (refine VL.nil ?_) | (refine VC.seqS rfl ?_) | (refine VC.region ?_)); (conv => whnf))))
  ((repeat ((first | (refine VL.cons ?_) | (refine VRead.lenS ?_)); (conv => whnf))))
  refine VCall.of (refInt_any (n2 : Int) _ (by omega)) ?_
  rintro e w1 ⟨A1, m1, c1, rfl, hO1, hb1⟩
  refine ⟨_, rfl, ?_⟩
  have hm1 := hO1.len
  ((conv => whnf); (repeat ((first | (refine VL.cons ?_) | (refine VL.nil ?_) | (refine VC.seqS rfl ?_) | (refine VC.region ?_)); (conv => whnf))))
  ((repeat ((fail); (conv => whnf))))
  refine VCall.of (refOfI_any A1 m1 c1 w1.heap.size _ _ (by unfold maxLen; omega) hO1.reads) ?_
  rintro e w1 ⟨rfl, rfl⟩
  refine ⟨_, rfl, ?_⟩
  ((conv => whnf); (repeat ((first | (refine VL.cons ?_)); (conv => whnf))))
  have hr2' := hr2.below hb1
  refine VCall.of (refMore_any _ (Crc.more_lt (by omega) _) A2 n2 c2 w.heap.size body _ (by unfold maxLen; omega) hr2') ?_
  rintro e w1 ⟨rfl, rfl⟩
  refine ⟨_, rfl, ?_⟩
  generalize hs : Crc.more (Crc.more 0 (Wire.int (n2 : Int))) body = s
  have hs2 : Frame.sum body = s := by unfold Frame.sum; rw [hlb]; exact hs
  ((conv => whnf); (repeat ((first | (refine VL.cons ?_) | (refine VL.nil ?_) | (refine VC.seqS rfl ?_) | (refine VC.region ?_)); (conv => whnf))))
  ((repeat ((first | (refine VSem.convI ?_)); (conv => whnf))))
  refine VWrap.of (u8_of s) ?_
  ((conv => whnf); (repeat ((first | (refine VL.cons ?_)); (conv => whnf))))
  ((repeat ((fail); (conv => whnf))))
  refine VRead.shr (by decide) (by decide) ?_
  ((conv => whnf); (repeat ((first | (refine VL.cons ?_)); (conv => whnf))))
  ((repeat ((first | (refine VSem.convI ?_)); (conv => whnf))))
  refine VWrap.of (u8_sh s 8) ?_
  ((conv => whnf); (repeat ((first | (refine VL.cons ?_)); (conv => whnf))))
  ((repeat ((fail); (conv => whnf))))
  refine VRead.shr (by decide) (by decide) ?_
  ((conv => whnf); (repeat ((first | (refine VL.cons ?_)); (conv => whnf))))
  ((repeat ((first | (refine VSem.convI ?_)); (conv => whnf))))
  refine VWrap.of (u8_sh s 16) ?_
  ((conv => whnf); (repeat ((first | (refine VL.cons ?_)); (conv => whnf))))
  ((repeat ((fail); (conv => whnf))))
  refine VRead.shr (by decide) (by decide) ?_
  ((conv => whnf); (repeat ((first | (refine VL.cons ?_)); (conv => whnf))))
  ((repeat ((first | (refine VSem.convI ?_)); (conv => whnf))))
  refine VWrap.of (u8_sh s 24) ?_
  ((conv => whnf); (repeat ((first | (refine VL.cons ?_)); (conv => whnf))))
  ((repeat ((fail); (conv => whnf))))
  refine VSem.buildS rfl rfl (by simp [zipP, Value.oneCell']) (by omega) ?_
  ((conv => whnf); (repeat ((first | (refine VL.cons ?_)); (conv => whnf))))
  refine VSem.appO (m := 4) (news := Frame.le4 s) (hO1.alloc _) (reads_new _ (Frame.le4 s) _ _ _ rfl 4 rfl) (by omega) (Nat.le_trans hb1.size (by simp)) ?_
  intro A5 c5 w5 hO5 _ hb5
  have hB5 := (hb1.alloc hb1.size _).trans hb5
  ((conv => whnf); (repeat ((first | (refine VL.cons ?_) | (refine VL.nil ?_) | (refine VC.seqS rfl ?_) | (refine VC.region ?_)); (conv => whnf))))
  ((repeat ((fail); (conv => whnf))))
  refine VSem.appO hO5 (hr2.below hB5) (by omega) hB5.size ?_
  intro A6 c6 w6 hO6 _ hb6
  ((conv => whnf); (repeat ((first | (refine VL.cons ?_) | (refine VL.nil ?_) | (refine VC.ret ?_)); (conv => whnf))))
  ((repeat ((fail); (conv => whnf))))
  refine ⟨_, _, _, rfl, ?_, hB5.trans hb6⟩
  unfold Frame.put
  rw [hlb, hs2]
  simpa only [List.append_assoc] using hO6

theorem u32_shl (x : UInt8) (q k : Nat) (hk : k ≤ 3) (hq : q < 2 ^ (8 * k)) : IntKind.u32.wrap ((x.toNat : Int) * 2 ^ (8 * k)) = ((x.toNat * 2 ^ (8 * k) : Nat) : Int) ∧
    bits .or .u32 (q : Int) ((x.toNat * 2 ^ (8 * k) : Nat) : Int) = ((q + 2 ^ (8 * k) * x.toNat : Nat) : Int) := by
  have hx := x.toNat_lt
  have hp : 2 ^ (8 * k) ≤ 16777216 := by
    rcases (by omega : k = 0 ∨ k = 1 ∨ k = 2 ∨ k = 3) with rfl | rfl | rfl | rfl <;> decide
  have hm : x.toNat * 2 ^ (8 * k) ≤ 255 * 16777216 := Nat.mul_le_mul (by omega) hp
  refine ⟨?_, ?_⟩
  · rw [show ((x.toNat : Int) * 2 ^ (8 * k)) = ((x.toNat * 2 ^ (8 * k) : Nat) : Int) from by simp]
    generalize x.toNat * 2 ^ (8 * k) = y at hm
    exact wrap_u rfl (by omega) (by simp only [IntKind.bits]; omega)
  · rw [u32_or_nat _ _ (by omega) (by omega), Nat.mul_comm x.toNat, Nat.add_comm, Nat.or_comm]
    congr 1
    exact (Nat.two_pow_add_eq_or_of_lt hq _).symm
theorem num_snoc : ∀ (l : List UInt8) (x : UInt8), Crc.num (l ++ [x]) = Crc.num l + 2 ^ (8 * l.length) * x.toNat
  | [], x => by simp [Crc.num]
  | y :: l, x => by
    simp only [List.cons_append, Crc.num, num_snoc l x, List.length_cons]
    rw [show 8 * (l.length + 1) = 8 + 8 * l.length by omega, Nat.pow_add, Nat.mul_add, Nat.mul_assoc]
    omega

set_option maxRecDepth 10000 in
theorem frGet_any (A : Option Addr) (n c : Nat) (l : List UInt8) (at_ : Int) (w : World) (hn : n ≤ 140737488355328) (hnc : n ≤ c) (hat : -9223372036854775808 ≤ at_ ∧ at_ ≤ 9223372036854775807) (hr : Reads w w.heap.size 1 A n (bv l)) :
    Calls Tryz.prog 86 #[.slice A n c, .int .i64 at_] w fun e w' => ∃ A' m c', e = .returned (.tuple #[.slice A' m c', .int .i64 (Frame.get l at_).2.1, .int .i64 (Frame.get l at_).2.2]) ∧
      Own w' w.heap.size (.slice A' m c') m (Frame.get l at_).1 ∧ Below w.heap.size w w' := by
  have hln : l.length = n := by have := hr.1; rw [bv_length] at this; omega
  by_cases hbad : at_ < 0 ∨ (n : Int) < at_
  · have hG : Frame.get l at_ = ([], 0, 1) := by unfold Frame.get; rw [hln, if_pos hbad]
    refine calls_vc Tryz.func86 rfl (by kernel_rfl) ?_
    ((conv => whnf); (repeat ((first | (refine VL.cons ?_) | (refine VL.nil ?_) | (refine VC.seqS rfl ?_) | (refine VC.region ?_)); (conv => whnf))))
    ((repeat' ((first | (refine VL.cons ?_) | (refine VL.nil ?_) | (refine VC.seqS rfl ?_) | (refine VC.region ?_) | (refine VC.cond ?_) | (refine VC.ret ?_) | (refine VBool.t ?_) | (refine VBool.f ?_) | (refine VBool.dT (by omega) ?_) | (refine VRead.lenS ?_) | (refine VC.seq ?_) | (refine VBool.dec (fun h => ?_) (fun h => ?_))); (conv => whnf))))
    all_goals exact ⟨none, 0, 0, by rw [hG]; rfl, by rw [hG]; exact Own.nil _ _, Below.refl _ _⟩
  by_cases heq : at_ = n
  · have hG : Frame.get l at_ = ([], 0, 3) := by unfold Frame.get; rw [hln, if_neg hbad, if_pos heq]
    refine calls_vc Tryz.func86 rfl (by kernel_rfl) ?_
    ((conv => whnf); (repeat ((first | (refine VL.cons ?_) | (refine VL.nil ?_) | (refine VC.seqS rfl ?_) | (refine VC.region ?_)); (conv => whnf))))
    ((repeat ((first | (refine VL.cons ?_) | (refine VL.nil ?_) | (refine VC.seqS rfl ?_) | (refine VC.region ?_) | (refine VC.cond ?_) | (refine VC.ret ?_) | (refine VC.skip ?_) | (refine VBool.f ?_) | (refine VBool.dT (by omega) ?_) | (refine VBool.dF (by omega) ?_) | (refine VRead.lenS ?_) | (refine VC.seq ?_)); (conv => whnf))))
    exact ⟨none, 0, 0, by rw [hG]; rfl, by rw [hG]; exact Own.nil _ _, Below.refl _ _⟩
  obtain ⟨a, rfl⟩ : ∃ a : Nat, at_ = (a : Int) := ⟨at_.toNat, by omega⟩
  have ha : a < n := by omega
  have hG : Frame.get l (a : Int) = match Frame.first (l.drop a) with
      | none => ([], 0, 4)
      | some (body, r) => (body, (a : Int) + (Frame.put body).length, 0) := by
    unfold Frame.get
    rw [hln, if_neg hbad, if_neg heq, Int.toNat_natCast]
    all_goals (cases Frame.first (l.drop a) <;> rfl)
  clear hbad heq
  obtain ⟨z, hz⟩ : ∃ z : Nat, z = min n (a + 10) := ⟨_, rfl⟩
  have hL10 : (l.take z).drop a = (l.drop a).take 10 := by
    rw [List.drop_take]
    by_cases h : a + 10 ≤ n
    · rw [show z - a = 10 by omega]
    · rw [List.take_of_length_le (by simp; omega), List.take_of_length_le (by simp; omega)]
  refine calls_vc Tryz.func86 rfl (by kernel_rfl) ?_
  ((conv => whnf); (repeat ((first | (refine VL.cons ?_) | (refine VL.nil ?_) | (refine VC.seqS rfl ?_) | (refine VC.region ?_)); (conv => whnf))))
  ((repeat ((first | (refine VL.cons ?_) | (refine VL.nil ?_) | (refine VC.seqS rfl ?_) | (refine VC.region ?_) | (refine VC.cond ?_) | (refine VC.skip ?_) | (refine VBool.f ?_) | (refine VBool.dF (by omega) ?_) | (refine VRead.lenS ?_) | (refine VWrap.i64 (by omega) (by omega) ?_) | (refine VC.seq ?_)); (conv => whnf))))
  refine VRead.minZ (z := (z : Int)) (by split <;> omega) ?_
  ((conv => whnf); (repeat ((first | (refine VL.cons ?_)); (conv => whnf))))
  refine VRead.cutR a z hr rfl rfl (by omega) (by omega) hnc ?_
  intro A1 hr1
  rw [hL10] at hr1
  ((conv => whnf); (repeat ((first | (refine VL.cons ?_)); (conv => whnf))))
  refine VCall.of (rNew_any A1 (z - a) _ _ _ _ (by omega) hr1) ?_
  rintro e w1 ⟨g, rfl, hg, hs1, hb1⟩
  refine ⟨_, rfl, ?_⟩
  ((conv => whnf); (repeat ((first | (refine VL.cons ?_) | (refine VL.nil ?_) | (refine VC.seqS rfl ?_) | (refine VC.region ?_)); (conv => whnf))))
  ((repeat ((fail); (conv => whnf))))
  refine VCall.of (rInt_any _ _ _ hs1) ?_
  rintro e w2 ⟨rfl, hs2, hg2⟩
  refine ⟨_, rfl, ?_⟩
  have hb2 := only_new hb1 hg2 hg hb1.size
  clear hs1 hg2 hb1
  ((conv => whnf); (repeat ((first | (refine VL.cons ?_) | (refine VL.nil ?_)); (conv => whnf))))
  ((repeat ((first | (refine VL.cons ?_) | (refine VC.seqS rfl ?_) | (refine VC.region ?_) | (refine VC.seq ?_)); (conv => whnf))))
  refine VCall.of (rOk_any _ _ _ hs2) ?_
  rintro e w3 ⟨rfl, rfl⟩
  refine ⟨_, rfl, ?_⟩
  obtain ⟨t1, t2⟩ := Frame.intS_ten (l.drop a)
  rw [t1]
  have hok : Wire.okS (Wire.intS (some ((l.drop a).take 10))).2 = (Wire.intS (some (l.drop a))).2.isSome := by
    rw [← t2]; cases (Wire.intS (some ((l.drop a).take 10))).2 <;> rfl
  rw [hok]
  clear t1 t2 hok hs2
  cases hI : Wire.intS (some (l.drop a)) with
  | mk v o =>
    cases o with
    | none =>
      have hF : Frame.first (l.drop a) = none := by unfold Frame.first; rw [hI]
      rw [hF] at hG
      ((conv => whnf); (repeat ((first | (refine VL.cons ?_)); (conv => whnf))))
      ((repeat ((first | (refine VL.cons ?_) | (refine VL.nil ?_) | (refine VC.seqS rfl ?_) | (refine VC.region ?_) | (refine VC.cond ?_) | (refine VC.ret ?_) | (refine VBool.t ?_)); (conv => whnf))))
      exact ⟨none, 0, 0, by rw [hG]; rfl, by rw [hG]; exact Own.nil _ _, hb2⟩
    | some r =>
      obtain ⟨e, hv1, hv2⟩ := Wire.intS_back hI
      by_cases hvb : v < 1 ∨ 1048576 < v
      · have hF : Frame.first (l.drop a) = none := by
          unfold Frame.first; rw [hI]; simp only; rw [if_neg (by omega)]
        rw [hF] at hG
        ((conv => whnf); (repeat ((first | (refine VL.cons ?_)); (conv => whnf))))
        ((repeat' ((first | (refine VL.cons ?_) | (refine VL.nil ?_) | (refine VC.seqS rfl ?_) | (refine VC.region ?_) | (refine VC.cond ?_) | (refine VC.ret ?_) | (refine VBool.t ?_) | (refine VBool.f ?_) | (refine VBool.dT (by omega) ?_) | (refine VBool.dec (fun h => ?_) (fun h => ?_))); (conv => whnf))))
        all_goals exact ⟨none, 0, 0, by rw [hG]; rfl, by rw [hG]; exact Own.nil _ _, hb2⟩
      · obtain ⟨m, rfl⟩ : ∃ m : Nat, v = (m : Int) := ⟨v.toNat, by omega⟩
        have hLn : (l.drop a).length = n - a := by rw [List.length_drop, hln]
        have hrl : (Wire.int (m : Int)).length + r.length = n - a := by rw [← hLn, e, List.length_append]
        have hi10 := Wire.int_len (m : Int)
        ((conv => whnf); (repeat ((first | (refine VL.cons ?_)); (conv => whnf))))
        ((repeat ((first | (refine VL.cons ?_) | (refine VL.nil ?_) | (refine VC.seqS rfl ?_) | (refine VC.region ?_) | (refine VC.cond ?_) | (refine VC.skip ?_) | (refine VBool.f ?_) | (refine VBool.dF (by omega) ?_)); (conv => whnf))))
        refine VCall.of (putInt_any none 0 0 [] (m : Int) _ (by omega) (by omega) (by omega) Reads.none_) ?_
        rintro e4 w4 ⟨A4, m4, c4, rfl, hO4, hb4⟩
        refine ⟨_, rfl, ?_⟩
        have hm4 := hO4.len
        simp only [List.nil_append] at hm4 hO4
        have hb4' := hb2.trans (hb4.mono hb2.size)
        by_cases hlong : r.length < 4 + m
        · have hF : Frame.first (l.drop a) = none := by
            unfold Frame.first; rw [hI]; simp only; rw [if_neg (by omega)]
          rw [hF] at hG
          ((conv => whnf); (repeat ((first | (refine VL.cons ?_) | (refine VL.nil ?_) | (refine VC.seqS rfl ?_) | (refine VC.region ?_)); (conv => whnf))))
          ((repeat' ((first | (refine VL.cons ?_) | (refine VL.nil ?_) | (refine VC.seqS rfl ?_) | (refine VC.region ?_) | (refine VC.cond ?_) | (refine VC.ret ?_) | (refine VBool.dT (by omega) ?_) | (refine VRead.lenS ?_) | (refine VWrap.i64 (by omega) (by omega) ?_) | (refine VC.seq ?_)); (conv => whnf))))
          all_goals exact ⟨none, 0, 0, by rw [hG]; rfl, by rw [hG]; exact Own.nil _ _, hb4'⟩
        · have hr4 := hr.below hb4'
          ((conv => whnf); (repeat ((first | (refine VL.cons ?_) | (refine VL.nil ?_) | (refine VC.seqS rfl ?_) | (refine VC.region ?_)); (conv => whnf))))
          ((repeat ((first | (refine VL.cons ?_) | (refine VL.nil ?_) | (refine VC.seqS rfl ?_) | (refine VC.region ?_) | (refine VC.cond ?_) | (refine VC.skip ?_) | (refine VBool.dF (by omega) ?_) | (refine VRead.lenS ?_) | (refine VWrap.i64 (by omega) (by omega) ?_) | (refine VC.seq ?_)); (conv => whnf))))
          refine VRead.cutR (a + m4) (a + m4 + 4) hr4 (by omega) (by omega) (by omega) (by omega) hnc ?_
          intro A5 hr5
          rw [show a + m4 + 4 - (a + m4) = 4 by omega] at hr5 ⊢
          have hb4l : (l.take (a + m4 + 4)).drop (a + m4) = r.take 4 := by
            rw [List.drop_take, ← List.drop_drop, e, ← hm4, List.drop_left' rfl, show a + (Wire.int (m : Int)).length + 4 - (a + (Wire.int (m : Int)).length) = 4 by omega]
          rw [hb4l] at hr5
          have h4l : (r.take 4).length = 4 := by rw [List.length_take]; omega
          obtain ⟨ad, rfl, _, hcell⟩ := hr5.2 (by omega)
          ((conv => whnf); (repeat ((first | (refine VL.cons ?_)); (conv => whnf))))
          ((repeat ((first | (refine VL.cons ?_) | (refine VL.nil ?_) | (refine VC.block ?_) | (refine VRead.lenS ?_)); (conv => whnf))))
          refine VC.loop [11, 68] [(11, 13), (68, 80)] (fun j vs wr => ∃ k : Nat, vs = [.int .u32 (Crc.num ((r.take 4).take k) : Nat), .int .i64 (k : Int)] ∧ j = 4 - k ∧ k ≤ 4 ∧ w4 = wr) (by kernel_rfl) ⟨_, 0, rfl, rfl, by omega, rfl⟩ ?_
          rintro j τ vs w5 ⟨k, rfl, rfl, hk, rfl⟩
          by_cases hk4 : k < 4
          · obtain ⟨x, hx⟩ : ∃ x, (r.take 4)[k]? = some x := ⟨_, List.getElem?_eq_getElem (by omega)⟩
            have hcx := hcell k _ (show (bv (r.take 4))[k]? = some (.int .u8 (x.toNat : Int)) from by unfold bv; rw [List.getElem?_map, hx]; rfl)
            have htk : ((r.take 4).take k).length = k := by rw [List.length_take]; omega
            have hq := Crc.num_lt ((r.take 4).take k)
            rw [htk] at hq
            obtain ⟨e1, e2⟩ := u32_shl x _ k (by omega) hq
            have e3 : Crc.num ((r.take 4).take (k + 1)) = Crc.num ((r.take 4).take k) + 2 ^ (8 * k) * x.toNat := by rw [take_snoc hx, num_snoc, htk]
            rw [← e3] at e2
            have hx256 := x.toNat_lt
            ((conv => whnf); (repeat ((first | (refine VL.cons ?_) | (refine VL.nil ?_) | (refine VC.seqS rfl ?_) | (refine VC.region ?_)); (conv => whnf))))
            ((repeat ((first | (refine VL.cons ?_) | (refine VL.nil ?_) | (refine VC.seqS rfl ?_) | (refine VC.region ?_) | (refine VC.cond ?_) | (refine VC.block ?_) | (refine VC.skip ?_) | (refine VBool.dT (by omega) ?_) | (refine VRead.load1 (by assumption) ?_) | (refine VRead.at1 (by omega) ?_) | (refine VSem.convI ?_) | (refine VC.seq ?_)); (conv => whnf))))
            refine VWrap.u32 (by omega) (by omega) ?_
            ((conv => whnf); (repeat ((first | (refine VL.cons ?_)); (conv => whnf))))
            ((repeat ((first | (refine VL.cons ?_) | (refine VWrap.i64 (by omega) (by omega) ?_)); (conv => whnf))))
            refine VRead.shl32 (by omega) (by omega) ?_
            ((conv => whnf); (repeat ((fail); (conv => whnf))))
            refine VWrap.of e1 ?_
            ((conv => whnf); (repeat ((first | (refine VL.cons ?_)); (conv => whnf))))
            refine VRead.or ?_
            rw [e2]
            ((conv => whnf); (repeat ((first | (refine VL.cons ?_) | (refine VL.nil ?_) | (refine VC.region ?_)); (conv => whnf))))
            ((repeat ((first | (refine VL.cons ?_) | (refine VL.nil ?_) | (refine VWrap.i64 (by omega) (by omega) ?_)); (conv => whnf))))
            exact ⟨_, by omega, k + 1, rfl, rfl, by omega, rfl⟩
          · obtain rfl : k = 4 := by omega
            rw [show (r.take 4).take 4 = r.take 4 from List.take_of_length_le (by omega)]
            ((conv => whnf); (repeat ((first | (refine VL.cons ?_) | (refine VL.nil ?_) | (refine VC.seqS rfl ?_) | (refine VC.region ?_)); (conv => whnf))))
            ((repeat ((first | (refine VL.cons ?_) | (refine VC.seqS rfl ?_) | (refine VC.region ?_) | (refine VC.cond ?_) | (refine VC.exit ?_) | (refine VBool.f ?_) | (refine VWrap.i64 (by omega) (by omega) ?_) | (refine VC.seq ?_)); (conv => whnf))))
            refine VRead.cutR (a + m4 + 4) (a + m4 + 4 + m) hr4 (by omega) (by omega) (by omega) (by omega) hnc ?_
            intro A6 hr6
            rw [show a + m4 + 4 + m - (a + m4 + 4) = m by omega] at hr6 ⊢
            have hbl : (l.take (a + m4 + 4 + m)).drop (a + m4 + 4) = (r.drop 4).take m := by
              have h : l.drop (a + m4 + 4) = r.drop 4 := by rw [show a + m4 + 4 = a + (m4 + 4) by omega, ← List.drop_drop, e, ← List.drop_drop, ← hm4, List.drop_left' rfl]
              rw [List.drop_take, h, show a + m4 + 4 + m - (a + m4 + 4) = m by omega]
            rw [hbl] at hr6
            have hbm : ((r.drop 4).take m).length = m := by rw [List.length_take, List.length_drop]; omega
            ((conv => whnf); (repeat ((first | (refine VL.cons ?_)); (conv => whnf))))
            refine VSem.appO (Own.nil _ w4.heap.size) hr6 (by omega) (Nat.le_refl _) ?_
            intro A7 c7 w7 hO7 _ hb7
            rw [Nat.zero_add] at hO7 ⊢
            rw [List.nil_append] at hO7
            have hO4' := hO4.below (hb7.mono (Nat.le_refl _)) (Nat.le_refl _)
            have hB7 := hb4'.trans (hb7.mono hb4'.size)
            ((conv => whnf); (repeat ((first | (refine VL.cons ?_) | (refine VL.nil ?_)); (conv => whnf))))
            ((repeat ((first | (refine VL.cons ?_) | (refine VC.seqS rfl ?_) | (refine VC.region ?_) | (refine VC.seq ?_)); (conv => whnf))))
            refine VCall.of (of_any A4 m4 c4 _ _ _ (by unfold maxLen; omega) hO4'.reads) ?_
            rintro e8 w8 ⟨rfl, rfl⟩
            refine ⟨_, rfl, ?_⟩
            ((conv => whnf); (repeat ((first | (refine VL.cons ?_)); (conv => whnf))))
            refine VCall.of (more_any _ (Crc.more_lt (by omega) _) A7 m c7 _ _ _ (by unfold maxLen; omega) hO7.reads) ?_
            rintro e8 w8 ⟨rfl, rfl⟩
            refine ⟨_, rfl, ?_⟩
            have hsum : Crc.more (Crc.more 0 (Wire.int (m : Int))) ((r.drop 4).take m) = Frame.sum ((r.drop 4).take m) := by unfold Frame.sum; rw [hbm]
            rw [hsum]
            ((conv => whnf); (repeat ((first | (refine VL.cons ?_) | (refine VL.nil ?_) | (refine VC.cond ?_)); (conv => whnf))))
            ((repeat ((fail); (conv => whnf))))
            by_cases hs : Frame.sum ((r.drop 4).take m) = Crc.num (r.take 4)
            · have hF : Frame.first (l.drop a) = some ((r.drop 4).take m, r.drop (4 + m)) := by
                unfold Frame.first; rw [hI]; simp only [Int.toNat_natCast]
                rw [if_pos ⟨by omega, by omega, by omega, by rw [hs, Frame.le4_num h4l]⟩]
              rw [hF] at hG
              simp only at hG
              have hpl : (Frame.put ((r.drop 4).take m)).length = m4 + 4 + m := by rw [Frame.put_len, hbm, hm4]
              refine VBool.nT (by omega) ?_
              ((conv => whnf); (repeat ((first | (refine VL.cons ?_) | (refine VC.seqS rfl ?_) | (refine VC.region ?_) | (refine VC.skip ?_)); (conv => whnf))))
              ((repeat ((first | (refine VL.cons ?_) | (refine VL.nil ?_) | (refine VC.ret ?_) | (refine VWrap.i64 (by omega) (by omega) ?_)); (conv => whnf))))
              exact ⟨A7, m, c7, by rw [hG, hpl]; show Ending.returned (.tuple #[_, .int .i64 ((a : Int) + m4 + 4 + m), _]) = _; rw [show (a : Int) + m4 + 4 + m = (a : Int) + ((m4 + 4 + m : Nat) : Int) by omega]; rfl, by rw [hG]; exact hO7.more hb4'.size, hB7⟩
            · have hF : Frame.first (l.drop a) = none := by
                unfold Frame.first; rw [hI]; simp only [Int.toNat_natCast]
                rw [if_neg (fun h => hs (by rw [h.2.2.2, Frame.num_le4 (Frame.sum_lt _)]))]
              rw [hF] at hG
              refine VBool.nF (by omega) ?_
              ((conv => whnf); (repeat ((first | (refine VL.cons ?_) | (refine VL.nil ?_) | (refine VC.seqS rfl ?_) | (refine VC.region ?_) | (refine VC.ret ?_)); (conv => whnf))))
              ((repeat ((fail); (conv => whnf))))
              exact ⟨none, 0, 0, by rw [hG]; rfl, by rw [hG]; exact Own.nil _ _, hB7⟩
end Go.Proofs.YtebeidnmplnlpaaGreat
end

section
namespace Go.Proofs.YtebeidnmplnlpaaGreat
set_option linter.unusedVariables false
open Go.RowKit

/-- the reference's Reader in block g, whole -/
def R3 (w : World) (g : Nat) (A : Option Addr) (n c p : Nat) (bad : Bool) : Prop := Blk w g 141 #[.slice A n c, .int .i64 (p : Int), .bool bad]
/-- what a loop over the bytes of a number knows -/
def Dec (l : List UInt8) (p k q : Nat) : Prop := Wire.intS (some (l.drop p)) = match Wire.dec (9 - k) (decide (k = 0)) (l.drop (p + k)) with
  | none => (0, none)
  | some (u, r) => (Wire.uz (q + 128 ^ k * u), some r)

set_option maxRecDepth 10000 in
theorem fIntX (w : World) (g : Nat) (A : Option Addr) (n c p : Nat) (l : List UInt8) (hb : R3 w g A n c p false) (hr : Reads w g 1 A n (bv l)) (hn : n ≤ 4611686018427387904) (hp : p ≤ n) :
    Calls Tryz.prog 95 #[.pointer (some ⟨g, 0, none⟩)] w fun e w' =>
      e = .returned (.int .i64 (Wire.intS (some (l.drop p))).1) ∧ ∃ p' bad', R3 w' g A n c p' bad' ∧ p' ≤ n ∧ (Wire.intS (some (l.drop p))).2 = (if bad' then none else some (l.drop p')) ∧ w.grownBy w' (some g) := by
  have hln : l.length = n := by have := hr.1; rw [bv_length] at this; omega
  have hgl := hb.lt
  refine calls_vc Tryz.func95 rfl (by kernel_rfl) ?_
  ((conv => whnf); (repeat ((first | (refine VL.cons ?_) | (refine VL.nil ?_) | (refine VC.seqS rfl ?_) | (refine VC.region ?_)); (conv => whnf))))
  refine VC.seq ?_
  ((conv => whnf); (repeat ((first | (refine VL.cons ?_) | (refine VL.nil ?_) | (refine VC.seqS rfl ?_) | (refine VC.region ?_) | (refine VC.block ?_)); (conv => whnf))))
  refine VC.loop [3, 4] [(2, 84)] (fun m vs wr => ∃ k q : Nat, vs = [.int .u64 (q : Int), .int .i64 (k : Int)] ∧ m = 10 - k ∧ k ≤ 10 ∧ R3 wr g A n c (p + k) false ∧ p + k ≤ n ∧ w.grownBy wr (some g) ∧
      q < 128 ^ k ∧ (k ≤ 9 → Dec l p k q) ∧ (k = 10 → Wire.intS (some (l.drop p)) = (0, none))) (by kernel_rfl) ⟨_, 0, 0, rfl, rfl, by omega, hb, by omega, only_refl _ _, by simp, fun _ => ?_, by simp⟩ ?_
  · unfold Dec Wire.intS Wire.getInt
    simp
    cases Wire.dec 9 true (l.drop p) <;> simp
  · rintro m τ vs w1 ⟨k, q, rfl, rfl, hk, hb1, hpk, hg1, hq, hD, h10⟩
    have h0 := hb1.cell 0
    have h1 := hb1.cell 1
    have h2 := hb1.cell 2
    have f1 := hb1.frozen 1
    have f2 := hb1.frozen 2
    have hgl1 := hb1.lt
    simp at h0 h1 h2
    have hr1 := hr.only hg1 (by omega) (Nat.le_refl _)
    by_cases hk10 : k = 10
    · subst hk10
      have hI := h10 rfl
      ((conv => whnf); (repeat ((fail); (conv => whnf))))
      refine VC.seq ?_
      ((conv => whnf); (repeat ((first | (refine VL.cons ?_) | (refine VL.nil ?_) | (refine VC.seqS rfl ?_) | (refine VC.region ?_) | (refine VC.cond ?_)); (conv => whnf))))
      ((repeat ((first | (refine VL.cons ?_) | (refine VC.seqS rfl ?_) | (refine VC.region ?_) | (refine VC.exit ?_) | (refine VBool.f ?_) | (refine VRead.fld ?_)); (conv => whnf))))
      refine VUnit.store h2 f2 rfl ?_
      ((conv => whnf); (repeat ((first | (refine VL.cons ?_) | (refine VL.nil ?_) | (refine VC.seqS rfl ?_) | (refine VC.region ?_) | (refine VC.ret ?_)); (conv => whnf))))
      ((repeat ((fail); (conv => whnf))))
      refine ⟨by rw [hI]; rfl, p + 10, true, hb1.set_ 2 (.bool true), hpk, by rw [hI]; rfl, only_setCell hg1 (.inl rfl) _⟩
    · have hk9 : k ≤ 9 := by omega
      have hDk := hD hk9
      unfold Dec at hDk
      by_cases hlt : p + k < n
      · obtain ⟨ad, u, rfl, _, hx, hcx⟩ := hr1.at_ hlt
        obtain ⟨x, hx', rfl⟩ := bv_at hx
        have hld : l.drop (p + k) = x :: l.drop (p + k + 1) := by
          rw [List.drop_eq_getElem_cons (l := l) (i := p + k) (by omega)]
          congr 1
          exact (List.getElem?_eq_some_iff.1 hx').2
        rw [hld] at hDk
        have hx256 := x.toNat_lt
        ((conv => whnf); (repeat ((fail); (conv => whnf))))
        refine VC.seq ?_
        ((conv => whnf); (repeat ((first | (refine VL.cons ?_) | (refine VL.nil ?_) | (refine VC.seqS rfl ?_) | (refine VC.region ?_) | (refine VC.cond ?_)); (conv => whnf))))
        ((repeat ((first | (refine VC.draw ?_) | (refine VC.block ?_) | (refine VC.skip ?_) | (refine VBool.dT (by omega) ?_) | (refine VC.seq ?_)); (conv => whnf))))
        (refine VDraw.seg (Eq (World.drewN _ 1)) [] [0, 1, 2, 3, 4, 5, 6, 7, 8, 9, 10, 11, 12, 13, 14, 15] (by kernel_rfl) (by kernel_rfl) rfl ?_; (conv => whnf))
        ((repeat ((first | (refine VC.draw ?_) | (refine VC.cond ?_) | (refine VC.skip ?_) | (refine VQ.cons ?_) | (refine VQ.nil ?_) | (refine VG.nil ?_) | (refine VBool.f ?_) | (refine VBool.dF (by omega) ?_) | (refine VRead.lenS ?_) | (refine VRead.fld ?_) | (refine VRead.load1 (by assumption) ?_) | (refine VC.seq ?_)); (conv => whnf))))
        (refine VDraw.seg (Eq (World.drewN _ 1)) [] [0, 1, 2, 3, 4, 5, 6, 7, 8, 9, 10] (by kernel_rfl) (by kernel_rfl) rfl ?_; (conv => whnf))
        ((repeat ((first | (refine VL.cons ?_) | (refine VC.seqS rfl ?_) | (refine VC.region ?_) | (refine VQ.cons ?_) | (refine VQ.nil ?_) | (refine VG.nil ?_) | (refine VRead.fld ?_) | (refine VRead.load1 (by assumption) ?_) | (refine VWrap.i64 (by omega) (by omega) ?_) | (refine VRead.at1 (by omega) ?_)); (conv => whnf))))
        refine VUnit.storeB (i := 1) (hb1.drewN 1) rfl rfl rfl ?_
        intro w2 hb2 hg2
        have hg2 := only_trans hg1 (only_of_drewN (only_of_drewN hg2))
        have hb2 : R3 w2 g (some ad) n c (p + k + 1) false := hb2
        have j0 := hb2.cell 0
        have j1 := hb2.cell 1
        have j2 := hb2.cell 2
        simp at j0 j1 j2
        have hbad : (k = 9 ∧ 1 < x.toNat) ∨ (0 < k ∧ x.toNat = 0) → Wire.intS (some (l.drop p)) = (0, none) := fun h => by
          rw [hDk, Wire.dec_stop]
          rcases h with h | h
          · exact .inl ⟨by omega, h.2⟩
          · exact .inr ⟨by simp; omega, h.2⟩
        ((conv => whnf); (repeat ((first | (refine VL.nil ?_)); (conv => whnf))))
        ((repeat ((fail); (conv => whnf))))
        refine VC.cut [] [(2, 2), (46, 62)] (fun vs w' => vs = [] ∧ w2 = w' ∧ ¬ ((k = 9 ∧ 1 < x.toNat) ∨ (0 < k ∧ x.toNat = 0))) (by kernel_rfl) ?_ ?_
        · ((conv => whnf); (repeat ((first | (refine VL.cons ?_) | (refine VC.seqS rfl ?_) | (refine VC.region ?_)); (conv => whnf))))
          ((repeat' ((first | (refine VL.cons ?_) | (refine VL.nil ?_) | (refine VC.seqS rfl ?_) | (refine VC.region ?_) | (refine VC.cond ?_) | (refine VC.skip ?_) | (refine VBool.t ?_) | (refine VBool.f ?_) | (refine VBool.dT (by omega) ?_) | (refine VRead.fld ?_) | (refine VBool.dec (fun h => ?_) (fun h => ?_))); (conv => whnf))))
          all_goals first
            | exact ⟨rfl, rfl, by omega⟩
            | (have hI := hbad (by omega)
               refine VUnit.storeB (i := 2) hb2 rfl rfl rfl ?_
               intro w3 hb3 hg3
               ((conv => whnf); (repeat ((first | (refine VL.cons ?_) | (refine VL.nil ?_) | (refine VC.seqS rfl ?_) | (refine VC.region ?_) | (refine VC.ret ?_)); (conv => whnf))))
               ((repeat ((fail); (conv => whnf))))
               exact ⟨by rw [hI]; rfl, p + k + 1, true, hb3, by omega, by rw [hI]; rfl, only_trans hg2 hg3⟩)
        · rintro τ2 vs w2' ⟨rfl, rfl, hnb⟩
          obtain ⟨z, s, h, ⟨r1, r2, r3, r4⟩, hs, hs64, hh⟩ := refStep x k q hk9 hq (by omega)
          ((conv => whnf); (repeat ((first | (refine VL.cons ?_) | (refine VC.seqS rfl ?_) | (refine VC.region ?_)); (conv => whnf))))
          ((repeat ((first | (refine VL.cons ?_) | (refine VWrap.i64 (by omega) (by omega) ?_) | (refine VWrap.u64 (by omega) (by omega) ?_) | (refine VSem.convI ?_) | (refine VRead.rem (by omega) (by decide) ?_)); (conv => whnf))))
          refine VRead.shl64 (by omega) (by omega) ?_
          ((conv => whnf); (repeat ((fail); (conv => whnf))))
          refine VWrap.of r1 ?_
          ((conv => whnf); (repeat ((first | (refine VL.cons ?_)); (conv => whnf))))
          refine VWrap.of r2 ?_
          ((conv => whnf); (repeat ((first | (refine VL.cons ?_) | (refine VL.nil ?_) | (refine VC.seqS rfl ?_) | (refine VC.region ?_) | (refine VC.cond ?_)); (conv => whnf))))
          by_cases h128 : x.toNat < 128
          · have hI : Wire.intS (some (l.drop p)) = (Wire.uz s, some (l.drop (p + k + 1))) := by
              rw [hDk, Wire.dec_end (by omega) (by simp; omega) h128]
              simp only
              rw [hs, Nat.mod_eq_of_lt h128]
            have hp1 : p + k + 1 ≤ n := by omega
            by_cases hodd : s % 2 = 1
            · have hu : Wire.uz s = 0 - (s : Int) / 2 - 1 := by unfold Wire.uz; rw [if_pos hodd]; omega
              ((repeat ((first | (refine VL.cons ?_) | (refine VL.nil ?_) | (refine VC.seqS rfl ?_) | (refine VC.region ?_) | (refine VC.cond ?_) | (refine VBool.dT (by omega) ?_) | (refine VRead.rem (by omega) (by decide) ?_) | (refine VC.seq ?_)); (conv => whnf))))
              refine VRead.quoU (by omega) (by omega) (by omega) ?_
              ((conv => whnf); (repeat ((first | (refine VL.cons ?_)); (conv => whnf))))
              ((repeat ((first | (refine VL.cons ?_) | (refine VL.nil ?_) | (refine VC.ret ?_) | (refine VWrap.i64 (by omega) (by omega) ?_) | (refine VSem.convI ?_) | (refine VRead.neg ?_)); (conv => whnf))))
              exact ⟨by rw [hI]; show Ending.returned (Value.int .i64 (0 - (s : Int) / 2 - 1)) = _; rw [← hu], p + k + 1, false, hb2, hp1, by rw [hI]; rfl, hg2⟩
            · have hu : Wire.uz s = (s : Int) / 2 := by unfold Wire.uz; rw [if_neg hodd]; omega
              ((repeat ((first | (refine VL.cons ?_) | (refine VL.nil ?_) | (refine VC.seqS rfl ?_) | (refine VC.region ?_) | (refine VC.cond ?_) | (refine VC.skip ?_) | (refine VBool.dT (by omega) ?_) | (refine VBool.dF (by omega) ?_) | (refine VRead.rem (by omega) (by decide) ?_) | (refine VC.seq ?_)); (conv => whnf))))
              refine VRead.quoU (by omega) (by omega) (by omega) ?_
              ((conv => whnf); (repeat ((first | (refine VL.cons ?_)); (conv => whnf))))
              ((repeat ((first | (refine VL.cons ?_) | (refine VL.nil ?_) | (refine VC.ret ?_) | (refine VWrap.i64 (by omega) (by omega) ?_) | (refine VSem.convI ?_)); (conv => whnf))))
              exact ⟨by rw [hI]; show Ending.returned (Value.int .i64 ((s : Int) / 2)) = _; rw [← hu], p + k + 1, false, hb2, hp1, by rw [hI]; rfl, hg2⟩
          · ((repeat ((first | (refine VL.cons ?_) | (refine VL.nil ?_) | (refine VC.region ?_) | (refine VC.skip ?_) | (refine VBool.dF (by omega) ?_) | (refine VWrap.i64 (by omega) (by omega) ?_)); (conv => whnf))))
            refine ⟨_, ?_, k + 1, s, rfl, rfl, by omega, by rw [← Nat.add_assoc]; exact hb2, by omega, hg2, ?_, ?_, ?_⟩
            · omega
            · rw [hs, Nat.pow_succ]
              have := Nat.mul_le_mul_left (128 ^ k) (show x.toNat % 128 ≤ 127 by omega)
              omega
            · intro h9
              unfold Dec
              rw [hDk, show 9 - k = (9 - (k + 1)) + 1 by omega, Wire.dec_more (by omega)]
              simp only [show decide (k + 1 = 0) = false from by simp, ← Nat.add_assoc]
              cases Wire.dec (9 - (k + 1)) false (l.drop (p + k + 1)) with
              | none => rfl
              | some ur =>
                obtain ⟨u, r⟩ := ur
                simp only [Option.map_some]
                rw [hs, Nat.pow_succ]
                have e : q + 128 ^ k * (x.toNat - 128 + 128 * u) = q + 128 ^ k * (x.toNat % 128) + 128 ^ k * 128 * u := by
                  rw [show x.toNat % 128 = x.toNat - 128 by omega, Nat.mul_add, Nat.mul_assoc, Nat.add_assoc]
                rw [e]
            · intro h10
              rw [hDk, show 9 - k = 0 by omega, Wire.dec_stop (.inl ⟨rfl, by omega⟩)]
      · have hI : Wire.intS (some (l.drop p)) = (0, none) := by
          rw [hDk, List.drop_eq_nil_of_le (by omega)]
          cases 9 - k <;> rfl
        ((conv => whnf); (repeat ((fail); (conv => whnf))))
        refine VC.seq ?_
        ((conv => whnf); (repeat ((first | (refine VL.cons ?_) | (refine VL.nil ?_) | (refine VC.seqS rfl ?_) | (refine VC.region ?_) | (refine VC.cond ?_)); (conv => whnf))))
        ((repeat ((first | (refine VC.draw ?_) | (refine VC.block ?_) | (refine VC.skip ?_) | (refine VBool.dT (by omega) ?_) | (refine VC.seq ?_)); (conv => whnf))))
        (refine VDraw.seg (Eq (World.drewN _ 1)) [] [0, 1, 2, 3, 4, 5, 6, 7, 8, 9, 10, 11, 12, 13, 14, 15] (by kernel_rfl) (by kernel_rfl) rfl ?_; (conv => whnf))
        ((repeat ((first | (refine VL.cons ?_) | (refine VC.seqS rfl ?_) | (refine VC.region ?_) | (refine VC.cond ?_) | (refine VQ.cons ?_) | (refine VQ.nil ?_) | (refine VG.nil ?_) | (refine VBool.f ?_) | (refine VBool.dT (by omega) ?_) | (refine VRead.lenS ?_) | (refine VRead.fld ?_) | (refine VRead.load1 (by assumption) ?_)); (conv => whnf))))
        refine VUnit.storeB (i := 2) (hb1.drewN 1) rfl rfl rfl ?_
        intro w3 hb3 hg3
        ((conv => whnf); (repeat ((first | (refine VL.cons ?_) | (refine VL.nil ?_) | (refine VC.seqS rfl ?_) | (refine VC.region ?_) | (refine VC.ret ?_)); (conv => whnf))))
        ((repeat ((fail); (conv => whnf))))
        exact ⟨by rw [hI]; rfl, p + k, true, hb3, by omega, by rw [hI]; rfl, only_trans hg1 (only_of_drewN hg3)⟩
end Go.Proofs.YtebeidnmplnlpaaGreat
end
