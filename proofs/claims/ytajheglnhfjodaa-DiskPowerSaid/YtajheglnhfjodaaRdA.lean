/- The reference's disk in memory. No condition. -/
import Derived.Test.YtajheglnhfjodaaDiskI
import Derived.Test.YtajheglnhfjodaaVE
set_option maxRecDepth 10000
namespace Go.Proofs.Ytajheglnhfjodaa
set_option linter.unusedVariables false
open Go.RowKit

/-! ### a file's three cells -/
def FEl (W : World) (U : Foot) (p : List UInt8 × Fl) (a b c : Value) : Prop :=
  a = encStr p.1 ∧ (∃ As cs, b = .slice As p.2.sure cs ∧ Lies W U As p.2.sure (p.2.b.take p.2.sure) ∧ p.2.sure ≤ cs) ∧
    ∃ Ap cp, c = .slice Ap (p.2.b.length - p.2.sure) cp ∧ Lies W U Ap (p.2.b.length - p.2.sure) (p.2.b.drop p.2.sure) ∧ p.2.b.length - p.2.sure ≤ cp
def FEls (W : World) (U : Foot) : PT → List Value → Prop
  | [], [] => True
  | p :: T, a :: b :: c :: xs => FEl W U p a b c ∧ FEls W U T xs
  | _, _ => False
section
variable {W W' : World} {U V : Foot}
theorem FEl.stay {p : List UInt8 × Fl} {a b c : Value} (h : FEl W U p a b c) (hl : ∀ A m (l : List UInt8), Lies W U A m l → Lies W' V A m l) : FEl W' V p a b c := by
  obtain ⟨h1, ⟨As, cs, h2, h3, h4⟩, Ap, cp, h5, h6, h7⟩ := h
  exact ⟨h1, ⟨As, cs, h2, hl _ _ _ h3, h4⟩, Ap, cp, h5, hl _ _ _ h6, h7⟩
theorem FEls.stay (hl : ∀ A m (l : List UInt8), Lies W U A m l → Lies W' V A m l) : ∀ {T : PT} {xs : List Value}, FEls W U T xs → FEls W' V T xs
  | [], [], _ => trivial
  | p :: T, a :: b :: c :: xs, h => ⟨h.1.stay hl, FEls.stay hl h.2⟩
  | [], _ :: _, h => h.elim
  | _ :: _, [], h => h.elim
  | _ :: _, [_], h => h.elim
  | _ :: _, [_, _], h => h.elim
theorem FEls.len : ∀ {T : PT} {xs : List Value}, FEls W U T xs → xs.length = T.length * 3
  | [], [], _ => rfl
  | p :: T, a :: b :: c :: xs, h => by have := FEls.len h.2; simp only [List.length_cons]; omega
  | [], _ :: _, h => h.elim
  | _ :: _, [], h => h.elim
  | _ :: _, [_], h => h.elim
  | _ :: _, [_, _], h => h.elim
theorem FEls.append : ∀ {T1 T2 : PT} {x1 x2 : List Value}, FEls W U T1 x1 → FEls W U T2 x2 → FEls W U (T1 ++ T2) (x1 ++ x2)
  | [], _, [], _, _, h => h
  | p :: T, _, a :: b :: c :: xs, _, h, k => ⟨h.1, FEls.append h.2 k⟩
  | [], _, _ :: _, _, h, _ => h.elim
  | _ :: _, _, [], _, h, _ => h.elim
  | _ :: _, _, [_], _, h, _ => h.elim
  | _ :: _, _, [_, _], _, h, _ => h.elim
theorem FEls.split : ∀ {T1 T2 : PT} {xs : List Value}, FEls W U (T1 ++ T2) xs → FEls W U T1 (xs.take (T1.length * 3)) ∧ FEls W U T2 (xs.drop (T1.length * 3))
  | [], _, xs, h => ⟨by simp [FEls], by simpa using h⟩
  | p :: T, T2, a :: b :: c :: xs, h => by
    obtain ⟨h1, h2⟩ := FEls.split (T1 := T) h.2
    have e : (p :: T).length * 3 = T.length * 3 + 3 := by simp; omega
    rw [e]
    exact ⟨⟨h.1, h1⟩, h2⟩
  | _ :: _, _, [], h => h.elim
  | _ :: _, _, [_], h => h.elim
  | _ :: _, _, [_, _], h => h.elim
/-- the cells of a file of a number -/
theorem FEls.at_ {A B : PT} {p : List UInt8 × Fl} {xs : List Value} (h : FEls W U (A ++ p :: B) xs) :
    ∃ x1 a b c x2, xs = x1 ++ a :: b :: c :: x2 ∧ x1.length = A.length * 3 ∧ FEls W U A x1 ∧ FEl W U p a b c ∧ FEls W U B x2 := by
  obtain ⟨h1, h2⟩ := FEls.split h
  have hl := h1.len
  generalize hd : xs.drop (A.length * 3) = ys at h2
  match ys, h2 with
  | a :: b :: c :: x2, h2 => exact ⟨_, a, b, c, x2, by rw [← hd, List.take_append_drop], hl, h1, h2.1, h2.2⟩
  | [], h => exact h.elim
  | [_], h => exact h.elim
  | [_, _], h => exact h.elim
theorem FEls.one : ∀ {T : PT} {xs : List Value}, FEls W U T xs → ∀ u ∈ xs, u.oneCell' = true
  | [], [], _, u, hu => by cases hu
  | p :: T, a :: b :: c :: xs, h, u, hu => by
    obtain ⟨⟨rfl, ⟨As, cs, rfl, _, _⟩, Ap, cp, rfl, _, _⟩, h2⟩ := h
    simp only [List.mem_cons] at hu
    rcases hu with rfl | rfl | rfl | hu
    · rfl
    · rfl
    · rfl
    · exact FEls.one h2 u hu
  | [], _ :: _, h, _, _ => h.elim
  | _ :: _, [], h, _, _ => h.elim
  | _ :: _, [_], h, _, _ => h.elim
  | _ :: _, [_, _], h, _, _ => h.elim
end
def rC (K : Dk) (A : Option Addr) (n c : Nat) : Array Value := #[.slice A n c, .int .i64 K.room, .int .i64 K.calls, .bool K.armed, .int .i64 K.kind, .int .i64 K.after, .bool K.off]
/-- a row of files -/
structure FRow (W : World) (U : Foot) (A : Option Addr) (n c : Nat) (xs : List Value) (T : PT) : Prop where
  row : W.ownsRow 0 99 3 (.slice A n c) n xs
  foot : ∀ g, (Value.slice A n c).ownBlock = some g → U g
  els : FEls W U T xs
structure RefAt (W : World) (U : Foot) (r : Nat) (A : Option Addr) (c : Nat) (xs : List Value) (K : Dk) (T : PT) : Prop where
  hr : U r
  blk : Blk W r 89 (rC K A T.length c)
  fr : FRow W U A T.length c xs T
def RefD (W : World) (U : Foot) (r : Nat) (S : DS) : Prop := DWf S ∧ ∃ A c xs, RefAt W U r A c xs S.k S.t
section
variable {W W' : World} {U V : Foot} {r n c : Nat} {A : Option Addr} {xs : List Value} {K K' : Dk} {T : PT} {S : DS}
theorem ownsRow_stay {B e s m : Nat} {v : Value} {ys : List Value} (h : W.ownsRow B e s v m ys) (hk : ∀ g, v.ownBlock = some g → W'.heap[g]? = W.heap[g]?) : W'.ownsRow B e s v m ys := by
  refine ⟨h.1, ?_⟩
  rcases h.2 with h0 | ⟨k, cap, cur, hv, hbg, hh, q⟩
  · exact .inl h0
  · exact .inr ⟨k, cap, cur, hv, hbg, by rw [hk k (by rw [hv]; rfl)]; exact hh, q⟩
theorem FRow.stay (h : FRow W U A n c xs T) (hs : W.heap.size ≤ W'.heap.size) (hk : ∀ j, j < W.heap.size → U j → W'.heap[j]? = W.heap[j]?) : FRow W' U A n c xs T :=
  ⟨ownsRow_stay h.row (fun g hg => hk g (World.ownsRow.lt h.row g hg).2 (h.foot g hg)), h.foot, h.els.stay (fun A m l hl => hl.stay hs hk)⟩
theorem FRow.more (h : FRow W U A n c xs T) (hV : ∀ j, j < W.heap.size → U j → V j) : FRow W V A n c xs T :=
  ⟨h.row, fun g hg => hV g (World.ownsRow.lt h.row g hg).2 (h.foot g hg), h.els.stay (fun A m l hl => hl.more hV)⟩
theorem FRow.below {C : Nat} (h : FRow W U A n c xs T) (hb : Below C W W') (hC : W.heap.size ≤ C) : FRow W' U A n c xs T :=
  h.stay hb.size (fun j hj _ => hb.block j (Nat.lt_of_lt_of_le hj hC))
theorem RefAt.stay (h : RefAt W U r A c xs K T) (hs : W.heap.size ≤ W'.heap.size) (hk : ∀ j, j < W.heap.size → U j → W'.heap[j]? = W.heap[j]?) : RefAt W' U r A c xs K T :=
  ⟨h.hr, (hk r h.blk.lt h.hr).trans h.blk, h.fr.stay hs hk⟩
theorem RefAt.more (h : RefAt W U r A c xs K T) (hV : ∀ j, j < W.heap.size → U j → V j) : RefAt W V r A c xs K T := ⟨hV r h.blk.lt h.hr, h.blk, h.fr.more hV⟩
theorem RefAt.below {C : Nat} (h : RefAt W U r A c xs K T) (hb : Below C W W') (hC : W.heap.size ≤ C) : RefAt W' U r A c xs K T :=
  h.stay hb.size (fun j hj _ => hb.block j (Nat.lt_of_lt_of_le hj hC))
theorem RefAt.own (h : RefAt W U r A c xs K T) (hb : Blk W' r 89 (rC K' A T.length c)) (hg : W.grownBy W' (some r)) : RefAt W' U r A c xs K' T := by
  refine ⟨h.hr, hb, ⟨ownsRow_stay h.fr.row (fun g hg' => ?_), h.fr.foot, h.fr.els.stay (fun A m l hl => hl.blk h.blk hg (by decide))⟩⟩
  refine hg.block g (World.ownsRow.lt h.fr.row g hg').2 (fun e => ?_)
  injection e with e
  subst e
  obtain ⟨_, cs, hc⟩ := row_cells h.fr.row _ hg'
  have hb' := h.blk
  unfold Blk at hb'
  rw [hc] at hb'
  injection hb' with hb'
  injection hb' with _ h2 _
  exact absurd h2 (by decide)
theorem RefD.wf (h : RefD W U r S) : DWf S := h.1
theorem RefD.stay (h : RefD W U r S) (hs : W.heap.size ≤ W'.heap.size) (hk : ∀ j, j < W.heap.size → U j → W'.heap[j]? = W.heap[j]?) : RefD W' U r S := by
  obtain ⟨h0, A, c, xs, h1⟩ := h; exact ⟨h0, A, c, xs, h1.stay hs hk⟩
theorem RefD.more (h : RefD W U r S) (hV : ∀ j, j < W.heap.size → U j → V j) : RefD W V r S := by
  obtain ⟨h0, A, c, xs, h1⟩ := h; exact ⟨h0, A, c, xs, h1.more hV⟩
theorem RefD.below {C : Nat} (h : RefD W U r S) (hb : Below C W W') (hC : W.heap.size ≤ C) : RefD W' U r S :=
  h.stay hb.size (fun j hj _ => hb.block j (Nat.lt_of_lt_of_le hj hC))
/-- a cell of a file -/
theorem FRow.cell (h : FRow W U A n c xs T) {i k : Nat} {v : Value} (hi : xs[i * 3 + k]? = some v) : ∃ g, A = some ⟨g, 0, none⟩ ∧ g < W.heap.size ∧ W.cell? (((⟨g, 0, none⟩ : Addr).add (i * 3)).add k) = some v := by
  have hl := h.row.1
  have hlt := (List.getElem?_eq_some_iff.1 hi).1
  obtain ⟨g, cap, e, _⟩ := World.ownsRow.form h.row (by omega)
  injection e with e1 e2 e3
  have hlt := (World.ownsRow.lt h.row g (by rw [e1]; rfl)).2
  refine ⟨g, e1, hlt, ?_⟩
  have := World.ownsRow.cells h.row (g := g) (by rw [e1]; rfl) (i * 3 + k) v hi
  rw [Addr.add_add]
  exact this
end
end Go.Proofs.Ytajheglnhfjodaa
