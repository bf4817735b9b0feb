/- Texts joined: RdD, RdE, RdF, RdG, RdH, RdI, RdJ, RdK, RskO, WalA, SnS, SnapH, SnapJ, SnT, FrameW, FrameS. No condition. -/
import Derived.Test.YtebeidnmplnlpaaPki3
import Derived.Great.BuildSlice
import Derived.Test.YtebeidnmplnlpaaPki2
import Derived.Test.YtebeidnmplnlpaaPki0
section
set_option maxRecDepth 10000
namespace Go.Proofs.Ytebeidnmplnlpaa
set_option linter.unusedVariables false
open Go.RowKit

/-! ### rules -/
def cutK (A : Option Addr) (c z k : Nat) : Option Addr := if c = z then A else A.map (·.add (z * k))
theorem VRead.cutKL {P : Program} {S : World → Prop} {t e k : Nat} {A : Option Addr} {n c : Nat} {Z : Int} {kk : IntKind} {K : Value → Prop} [i : TSlice P t e k] (z : Nat) (hz : Z = (z : Int)) (h : z ≤ n) (hk : K (.slice (cutK A c z k) (n - z) (c - z))) :
    VRead P S (Instr.sliceAt t (.slice A n c) (some (.int kk Z)) none none) K := by
  subst hz
  exact .ofW (fun W => by
    rw [run_sliceAt_slice W t _ _ _ _ (elem_of i.u), run_slice_l W t A n c (elem_of i.u) kk _ (by omega) (by omega), show P.elem t = e from by unfold Program.elem; rw [i.u], run_size i.s]
    simp [sliced, cutK]) hk
theorem VRead.cutKH {P : Program} {S : World → Prop} {t e k : Nat} {A : Option Addr} {n c : Nat} {Z : Int} {kk : IntKind} {K : Value → Prop} [i : TSlice P t e k] (z : Nat) (hz : Z = (z : Int)) (h : z ≤ c) (hk : K (.slice A z c)) :
    VRead P S (Instr.sliceAt t (.slice A n c) none (some (.int kk Z)) none) K := by
  subst hz
  exact .ofW (fun W => by
    rw [run_sliceAt_slice W t _ _ _ _ (elem_of i.u), run_slice_h W t A n c (elem_of i.u) kk _ (by omega) (by omega), show P.elem t = e from by unfold Program.elem; rw [i.u], run_size i.s]
    have h0 : A.map (fun x : Addr => x.add 0) = A := by cases A <;> simp [Addr.add]
    simp [sliced, h0]) hk
theorem Reads.takeK {w : World} {B k n z : Nat} {A : Option Addr} {xs : List Value} (h : Reads w B k A n xs) (hz : z ≤ n) : Reads w B k A z (xs.take (z * k)) := by
  refine ⟨by rw [List.length_take, h.1]; exact Nat.min_eq_left (Nat.mul_le_mul_right _ hz), fun h0 => ?_⟩
  obtain ⟨ad, e, hb, hc⟩ := h.2 (by omega)
  refine ⟨ad, e, hb, fun j u hu => hc j u ?_⟩
  rw [List.getElem?_take] at hu
  split at hu
  · exact hu
  · cases hu
theorem bytes_lt : ∀ (x y : List UInt8), Op.bytesLess x y = decide (x < y)
  | [], [] => by simp [Op.bytesLess]
  | _ :: _, [] => by simp [Op.bytesLess]
  | [], _ :: _ => by simp [Op.bytesLess]
  | a :: x, b :: y => by
    rw [Op.bytesLess, bytes_lt x y]
    simp only [List.cons_lt_cons_iff]
    by_cases h1 : a < b <;> by_cases h2 : a = b <;> by_cases h3 : x < y <;> simp [h1, h2, h3]
theorem VRead.sLt {P : Program} {S : World → Prop} {t : TypeId} {x y : Operand} {a b : List UInt8} {K : Value → Prop} (hk : K (.bool (decide (a < b)))) :
    VRead P S (do eqGuard .lss t x y (encStr a) (encStr b); binOp .lss t (encStr a) (encStr b)) K := by
  refine VRead.ofW (fun W => ?_) hk
  rw [eqGuard_lss, show encStr a = .string (txt a) from rfl, show encStr b = .string (txt b) from rfl, binOp_string_lss, bytes_lt, Lib.toList_data, Lib.toList_data]
  rfl
/-- a cell of a row is stored -/
theorem VUnit.storeRw {P : Program} {w : World} {t : TypeId} {p : Addr} {g j B e k n c : Nat} {xs : List Value} {v : Value} {Q : World → Prop} [i : TCell P t] (hO : w.ownsRow B e k (.slice (some ⟨g, 0, none⟩) n c) n xs) (hp : p = ⟨g, j, none⟩) (hj : j < n * k) (hv : v.oneCell' = true)
    (h : ∀ w', w'.ownsRow B e k (.slice (some ⟨g, 0, none⟩) n c) n (xs.set j v) → w.grownBy w' (some g) → Q w') : VUnit P (Instr.storeAt t (.pointer (some p)) v) w Q := by
  subst hp
  have hl := hO.1
  have h1 := hO.cellAt j hj
  rw [List.getElem?_eq_getElem (by omega)] at h1
  obtain ⟨h2, h3⟩ := hO.stored j v
  exact VUnit.store h1 (hO.frozenAt j) hv (h _ h2 h3)
/-! ### the row turns -/
section
variable {W W' : World} {U : Foot} {r n c c' : Nat} {A A' : Option Addr} {xs xs' : List Value} {K K' : Dk} {T T' : PT}
theorem FEl.own {p : List UInt8 × Fl} {a b d : Value} {cs : Array Value} (h : FEl W U p a b d) (hb : Blk W r 98 cs) (hg : W.grownBy W' (some r)) : FEl W' U p a b d := h.stay (fun A m l hl => hl.blk hb hg (by decide))
theorem FRow.own (h : FRow W U A n c xs T) {cs : Array Value} (hb : Blk W r 98 cs) (hg : W.grownBy W' (some r)) : FRow W' U A n c xs T := by
  refine ⟨ownsRow_stay h.row (fun g hg' => ?_), h.foot, h.els.stay (fun A m l hl => hl.blk hb hg (by decide))⟩
  refine hg.block g (World.ownsRow.lt h.row g hg').2 (fun e => ?_)
  injection e with e
  subst e
  obtain ⟨_, cs, hc⟩ := row_cells h.row _ hg'
  have hb' := hb
  unfold Blk at hb'
  rw [hc] at hb'
  injection hb' with hb'
  injection hb' with _ h2 _
  exact absurd h2 (by decide)
/-- the disk's own cells turn, its row as well -/
theorem RefAt.turn (h : RefAt W U r A c xs K T) (hF : FRow W U A' T'.length c' xs' T') (hb : Blk W' r 98 (rC K' A' T'.length c')) (hg : W.grownBy W' (some r)) : RefAt W' U r A' c' xs' K' T' :=
  ⟨h.hr, hb, hF.own h.blk hg⟩
theorem F_info : (Try.prog.info? 100).map (fun i => (i.zero, i.size, i.bytes)) = some (some (.agg #[.string ByteArray.empty, .slice none 0 0, .slice none 0 0]), 3, 64) := by kernel_rfl
/-- files more -/
theorem VSem.appF {w : World} {ty : TypeId} {C m c B : Nat} {xs' : List Value} {T' : PT} {Q : Value → World → Prop} (h : FRow w U A n c xs T) (hn : T.length = n) (hU : Up U w) (hr : Reads w C 3 A' m xs') (he : FEls w U T' xs') (hm : T'.length = m) (hfew : n + m ≤ 100000)
    (hB : B ≤ w.heap.size) (hown : ∀ g, (Value.slice A n c).ownBlock = some g → B ≤ g) (hk : ∀ A2 c2 w', FRow w' U A2 (n + m) c2 (xs ++ xs') (T ++ T') → Below B w w' → (∀ g, (Value.slice A2 (n + m) c2).ownBlock = some g → B ≤ g) → Q (.slice A2 (n + m) c2) w') :
    VSem Try.prog (Builtin.append_ #[96, 96] ty [.slice A n c, .slice A' m c'].toArray) w Q := by
  obtain ⟨i0, hi0, hz0, hz1, hz2⟩ := info_parts F_info
  refine VSem.appR Try.underlying96 hi0 hz0 hz1 hz2 rfl (by decide) h.row hr he.one (by simp only [maxLen]; omega) (by omega) (Nat.zero_le _) fun A2 c2 w' k1 k2 k3 => ?_
  have hl : ∀ (A : Option Addr) (m : Nat) (l : List UInt8), Lies w U A m l → Lies w' U A m l := fun A m l hl => hl.row h.row k2 (by decide)
  refine hk A2 c2 w' ⟨k1, fun g hg => ?_, (h.els.stay hl).append (he.stay hl)⟩ ((Below.refl _ _).grown k2 hB hown) (fun g hg => ?_)
  · rcases k3 with e | e
    · rw [e] at hg; exact h.foot g hg
    · rw [e] at hg; injection hg with hg; subst hg; exact hU _ (Nat.le_refl _)
  · rcases k3 with e | e
    · rw [e] at hg; exact hown g hg
    · rw [e] at hg; injection hg with hg; subst hg; exact hB
theorem FRow.cap (h : FRow W U A n c xs T) : n ≤ c := by
  rcases h.row.2 with ⟨e, h0⟩ | ⟨g, cap, cur, e, _, _, h1, _⟩
  · omega
  · injection e with e1 e2 e3
    omega
theorem FRow.nil (W : World) (U : Foot) : FRow W U none 0 0 [] [] := ⟨World.ownsRow_nil _ _ _ _, fun g h => by simp [Value.ownBlock] at h, by simp [FEls]⟩
end
/-! ### the plain insertion -/
theorem tset_mid {A B : PT} {s : List UInt8} {f : Fl} (hA : ∀ p ∈ A, p.1 < s) (hB : ∀ p ∈ B, s < p.1) : tset (A ++ B) s f = A ++ (s, f) :: B := by
  induction A with
  | nil =>
    cases B with
    | nil => rfl
    | cons q B =>
      obtain ⟨j, y⟩ := q
      simp only [List.nil_append, tset]
      rw [if_pos (hB (j, y) (by simp))]
  | cons q A ih =>
    obtain ⟨j, y⟩ := q
    have h1 : j < s := hA (j, y) (by simp)
    simp only [List.cons_append, tset]
    rw [if_neg (fun h => TO.irr _ (TO.tr _ _ _ h1 h)), if_neg (fun h => by subst h; exact TO.irr _ h1), ih (fun p hp => hA p (by simp [hp]))]
theorem tset_del {T : PT} {s : List UInt8} {f : Fl} (hR : Rising T) : tset (tdel T s) s f = tset T s f := by
  cases hf : tfind T s with
  | none => rw [tdel_not (tfind_none hf)]
  | some y =>
    obtain ⟨A, B, rfl⟩ := tfind_some hf
    rw [tdel_eq hR.nd, tset_old hR]
    unfold Rising at hR
    rw [List.map_append, List.pairwise_append] at hR
    obtain ⟨h1, h2, h3⟩ := hR
    rw [List.map_cons, List.pairwise_cons] at h2
    exact tset_mid (fun p hp => h3 _ (List.mem_map_of_mem hp) _ (by simp)) (fun p hp => h2.1 _ (List.mem_map_of_mem hp))
theorem rising_last {A B : PT} {q : List UInt8 × Fl} {s : List UInt8} (hR : Rising (A ++ q :: B)) (hs : s ∉ (A ++ q :: B).map (·.1)) (hq : ¬ s < q.1) : ∀ p ∈ A ++ [q], p.1 < s := by
  have h1 : q.1 < s := by
    rcases TO.tri q.1 s with h | h | h
    · exact h
    · exact absurd (by rw [← h]; simp) hs
    · exact absurd h hq
  intro p hp
  rcases List.mem_append.1 hp with hp | hp
  · unfold Rising at hR
    rw [List.map_append, List.pairwise_append] at hR
    exact TO.tr _ _ _ (hR.2.2 _ (List.mem_map_of_mem hp) q.1 (by simp)) h1
  · simp at hp; subst hp; exact h1
end Go.Proofs.Ytebeidnmplnlpaa
end

section
set_option maxRecDepth 10000
namespace Go.Proofs.Ytebeidnmplnlpaa
set_option linter.unusedVariables false
open Go.RowKit

section
variable {U : Foot} {r c : Nat} {A : Option Addr} {xs : List Value} {K : Dk} {T : PT}
theorem FEls.two {W : World} {T0 T1 : PT} (h : FEls W U (T0 ++ T1) xs) : ∃ x0 x1, xs = x0 ++ x1 ∧ x0.length = T0.length * 3 ∧ x1.length = T1.length * 3 ∧ FEls W U T0 x0 ∧ FEls W U T1 x1 := by
  obtain ⟨h1, h2⟩ := h.split
  exact ⟨_, _, (List.take_append_drop _ _).symm, h1.len, h2.len, h1, h2⟩
set_option maxHeartbeats 1000000 in
theorem rWithout_at (W : World) {T0 T1 : PT} {p : List UInt8 × Fl} (h : RefAt W U r A c xs K T) (hT : T = T0 ++ p :: T1) (hU : Up U W) (hfew : T.length ≤ 1000) :
    Calls Try.prog 102 #[.pointer (some ⟨r, 0, none⟩), .int .i64 (T0.length : Int)] W fun e W' => e = .returned (.tuple #[]) ∧ (∃ A' c' xs', RefAt W' U r A' c' xs' K (T0 ++ T1)) ∧ Out U W W' ∧ ∀ (A : Option Addr) (m : Nat) (l : List UInt8), Lies W U A m l → Lies W' U A m l := by
  have hb : Blk W r 98 (rC K A T.length c) := h.blk
  have hTl : T.length = T0.length + (T1.length + 1) := by rw [hT]; simp
  have hc := h.fr.cap
  have hr := Reads.row h.fr.row
  have hels := h.fr.els
  rw [hT] at hels
  obtain ⟨x0, a, b, d, x1, hxs, hx0, he0, _, he1⟩ := hels.at_
  have hr0 := hr.takeK (z := T0.length) (by omega)
  have hr1 := hr.cut (k := T0.length + 1) (cap := c) (by omega) hc
  rw [show xs.take (T0.length * 3) = x0 by rw [hxs, ← hx0, List.take_left]] at hr0
  rw [show xs.drop ((T0.length + 1) * 3) = x1 by rw [hxs, show (T0.length + 1) * 3 = x0.length + 3 by omega, ← List.drop_drop, List.drop_left]; rfl, show T.length - (T0.length + 1) = T1.length by omega] at hr1
  replace hr1 : Reads W W.heap.size 3 (cutK A c (T0.length + 1) 3) T1.length x1 := hr1
  refine calls_vc Try.func102 rfl (by kernel_rfl) ?_
  have hS : Below W.heap.size W (W.drewN 1) := below_drewN (Below.refl _ _) 1
  have kB : ∀ X, Below W.heap.size W X → Blk X r 98 (rC K A T.length c) := fun X hX => hb.below hX hb.lt
  have kB' : ∀ X, Below W.heap.size W X → Blk X r 98 #[.slice A T.length c, .int .i64 K.room, .int .i64 K.calls, .bool K.armed, .int .i64 K.kind, .int .i64 K.after, .bool K.off] := kB
  ((conv => whnf); (repeat ((first | (refine VC.draw ?_)); (conv => whnf))))
  ((repeat ((fail); (conv => whnf))))
  refine VDraw.lasts (fun X => Below W.heap.size W X) [([0, 1, 2, 3, 4, 5, 6, 8, 9, 10, 11, 12, 13, 14], 7), ([], 15)] [16, 17] 18 (by kernel_rfl) (by kernel_rfl) hS ?_
  (conv => whnf)
  (repeat ((first | (refine VRead.loadBS kB' rfl rfl ?_) | (refine VQ.cons ?_) | (refine VE.cons ?_) | (refine VRead.fld ?_)); (conv => whnf)))
  refine VRead.cutKH T0.length (by omega) (by omega) ?_
  (conv => whnf)
  (repeat ((first | (refine VRead.loadBS kB' rfl rfl ?_) | (refine VQ.cons ?_) | (refine VRead.fld ?_) | (refine VWrap.i64 (by omega) (by omega) ?_)); (conv => whnf)))
  refine VRead.cutKL (T0.length + 1) (by omega) (by omega) ?_
  (conv => whnf)
  ((repeat ((first | (refine VQ.nil ?_)); (conv => whnf))))
  refine VSem.appF (FRow.nil _ U) rfl (hU.grow hS.size) (hr0.below hS) (he0.stay (fun _ _ _ hl => hl.below hS (Nat.le_refl _))) rfl (by omega) hS.size (fun g h => by simp [Value.ownBlock] at h) ?_
  intro A2 c2 W2 hF2 hB2 ho2
  rw [Nat.zero_add] at hF2 ho2 ⊢
  rw [List.nil_append, List.nil_append] at hF2
  have hS2 := hS.trans hB2
  (conv => whnf)
  refine Keep.mk hS2 ?_
  (conv => whnf)
  (repeat ((first | (refine VQ.nil ?_) | (refine VE.cons ?_)); (conv => whnf)))
  rw [show T.length - (T0.length + 1) = T1.length by omega]
  refine VSem.appF hF2 rfl (hU.grow hS2.size) (hr1.below hS2) (he1.stay (fun _ _ _ hl => hl.below hS2 (Nat.le_refl _))) rfl (by omega) hS2.size ho2 ?_
  intro A3 c3 W3 hF3 hB3 ho3
  have hS3 := hS2.trans hB3
  have hb3 := kB W3 hS3
  (conv => whnf)
  refine Keep.mk hS3 ?_
  (conv => whnf)
  (repeat ((first | (refine VQ.cons ?_) | (refine VQ.nil ?_) | (refine VE.nil ?_) | (refine VRead.fld ?_)); (conv => whnf)))
  refine VUnit.storeB hb3 rfl rfl rfl ?_
  intro W4 hb4 hg4
  (conv => whnf)
  refine Keep.mk trivial ?_
  (conv => whnf)
  ((repeat ((fail); (conv => whnf))))
  have hl : (T0 ++ T1).length = T0.length + T1.length := List.length_append
  rw [← hl] at hF3
  have h3 := h.below hS3 (Nat.le_refl _)
  refine ⟨rfl, ⟨A3, c3, _, h3.turn hF3 (K' := K) ?_ hg4⟩, (Out.new hS3).trans (Out.grown hg4 h.hr), fun A m l hl => (hl.below hS3 (Nat.le_refl _)).blk hb3 hg4 (by decide)⟩
  rw [hl]
  exact hb4
end
/-- a row of one file -/
theorem VSem.oneF {w : World} {a b d : Value} {Q : Value → World → Prop}
    (h : ∀ w', Reads w' w'.heap.size 3 (some ⟨w.heap.size, 0, none⟩) 1 [a, b, d] → Below w.heap.size w w' → Q (.slice (some ⟨w.heap.size, 0, none⟩) 1 1) w') :
    VSem Try.prog (Instr.buildSlice 96 1 [(0, .agg #[a, b, d])].toArray) w Q := by
  obtain ⟨i0, hi0, hz0, hz1, hz2⟩ := info_parts F_info
  have hrun := run_buildSlice (P := Try.prog) w 96 100 1 #[(0, .agg #[a, b, d])] #[a, b, d] i0 _ Try.underlying96 hi0 hz0 (by rw [hz1]; decide) (by rw [hz1]; decide) (by rw [hz1]; simp [Instr.fill, Value.cells, show Array.range 3 = #[0, 1, 2] from by decide])
  refine VSem.of hrun ?_
  have hsz : (w.alloc (.cells #[a, b, d] 100)).heap.size = w.heap.size + 1 := by simp
  have hnew := Blk.new w 100 #[a, b, d]
  refine h _ ⟨rfl, fun _ => ⟨_, rfl, by show w.heap.size < _; rw [hsz]; omega, fun j u hu => ?_⟩⟩ ((Below.refl w.heap.size w).alloc (Nat.le_refl _) _)
  rw [add0, hnew.cell j]
  simpa using hu
end Go.Proofs.Ytebeidnmplnlpaa
end

section
set_option maxRecDepth 10000
namespace Go.Proofs.Ytebeidnmplnlpaa
set_option linter.unusedVariables false
open Go.RowKit

/-- a cut at a small part whose rest waits -/
theorem VC.cutT {P : Program} {n : Nat} {a : Code} {R : Env → World → Prop} {Q : Post} {σ : Env} {w : World} (slots : List Nat) (D : List (Nat × Nat)) (J : List Value → World → Prop) (hD : inB (writes a) D = true)
    (h1 : VC P n a (thenP (fun σ' w' => J (slots.map σ') w') Q) σ w) (h2 : ∀ τ vs w', J vs w' → R (setAll slots vs (hav D τ σ)) w') : VC P n a (thenP R Q) σ w := by
  refine ⟨vc_mf a _ _ σ w h1.out fun e σ' w' hq hF => ?_⟩
  cases e with
  | normal =>
    have := h2 σ' (slots.map σ') w' hq
    rwa [hav_fr (hF.sub hD), setAll_self] at this
  | _ => exact hq
theorem VRead.atKZ {P : Program} {S : World → Prop} {t e k : Nat} {a : Addr} {n c : Nat} {Z : Int} {kk : IntKind} {K : Value → Prop} [i : TSlice P t e k] (j : Nat) (hz : Z = (j : Int)) (h : j < n) (hk : K (.pointer (some (a.add (j * k))))) : VRead P S (Instr.indexAt t (.slice (some a) n c) (.int kk Z)) K := by
  subst hz; exact VRead.atK h hk
theorem VSem.appF' {U : Foot} {n c c' : Nat} {A A' : Option Addr} {xs : List Value} {T : PT} {w : World} {ty : TypeId} {C m B : Nat} {xs' : List Value} {T' : PT} {Q : Value → World → Prop} (h : FRow w U A n c xs T) (hn : T.length = n) (hU : Up U w) (hr : Reads w C 3 A' m xs') (he : FEls w U T' xs') (hm : T'.length = m) (hfew : n + m ≤ 100000)
    (hB : B ≤ w.heap.size) (hown : ∀ g, (Value.slice A n c).ownBlock = some g → B ≤ g) (k : Nat) (hnk : n + m = k) (hk : ∀ A2 c2 w', FRow w' U A2 k c2 (xs ++ xs') (T ++ T') → Below B w w' → (∀ g, (Value.slice A2 k c2).ownBlock = some g → B ≤ g) → Q (.slice A2 k c2) w') :
    VSem Try.prog (Builtin.append_ #[96, 96] ty [.slice A n c, .slice A' m c'].toArray) w Q := by
  subst hnk
  exact VSem.appF h hn hU hr he hm hfew hB hown hk
section
variable {U : Foot} {r c : Nat} {A : Option Addr} {xs : List Value} {K : Dk} {T : PT}
theorem FEl.below {W W' : World} {C : Nat} {p : List UInt8 × Fl} {a b d : Value} (h : FEl W U p a b d) (hb : Below C W W') (hC : W.heap.size ≤ C) : FEl W' U p a b d := h.stay (fun _ _ _ hl => hl.below hb hC)
theorem FEls.below {W W' : World} {C : Nat} {T : PT} {xs : List Value} (h : FEls W U T xs) (hb : Below C W W') (hC : W.heap.size ≤ C) : FEls W' U T xs := h.stay (fun _ _ _ hl => hl.below hb hC)
set_option maxHeartbeats 2000000 in
theorem rPut_at (W : World) {s : List UInt8} {f : Fl} {x y z : Value} (h : RefAt W U r A c xs K T) (hR : Rising T) (hx : FEl W U (s, f) x y z) (hU : Up U W) (hfew : T.length ≤ 900) :
    Calls Try.prog 98 #[.pointer (some ⟨r, 0, none⟩), .agg #[x, y, z]] W fun e W' => e = .returned (.tuple #[]) ∧ (∃ A' c' xs', RefAt W' U r A' c' xs' K (tset T s f)) ∧ Out U W W' := by
  obtain ⟨As, cs, Ap, cp, rfl, rfl, rfl⟩ : ∃ As cs Ap cp, x = encStr s ∧ y = .slice As f.sure cs ∧ z = .slice Ap (f.b.length - f.sure) cp := by
    obtain ⟨rfl, ⟨As, cs, rfl, _⟩, Ap, cp, rfl, _⟩ := hx
    exact ⟨As, cs, Ap, cp, rfl, rfl, rfl⟩
  refine calls_vc Try.func98 rfl (by kernel_rfl) ?_
  ((conv => whnf); (repeat ((first | (refine VL.cons ?_) | (refine VC.seqS rfl ?_) | (refine VC.region ?_)); (conv => whnf))))
  refine VSem.boxB ?_
  intro W1 g hbg hg1 hl1 hB1
  replace hbg : Blk W1 g 100 #[encStr s, .slice As f.sure cs, .slice Ap (f.b.length - f.sure) cp] := hbg
  obtain ⟨V, hV⟩ : ∃ V : Foot, V = fun j => U j ∧ j ≠ g := ⟨_, rfl⟩
  have hVU : ∀ j, V j → U j := fun j hj => by rw [hV] at hj; exact hj.1
  have hUV : ∀ j, j < W.heap.size → U j → V j := fun j h1 h2 => by rw [hV]; exact ⟨h2, by omega⟩
  have hVg : ¬ V g := fun hj => by rw [hV] at hj; exact hj.2 rfl
  have hUpV : Up V W1 := fun j hj => by rw [hV]; exact ⟨hU j (by have := hB1.size; omega), by omega⟩
  have h1 := (h.more hUV).below hB1 (Nat.le_refl _)
  have hx1 : FEl W1 V (s, f) (encStr s) (.slice As f.sure cs) (.slice Ap (f.b.length - f.sure) cp) := hx.stay (fun _ _ _ hl => (hl.more hUV).below hB1 (Nat.le_refl _))
  clear hV h hx
  ((conv => whnf); (repeat ((first | (refine VL.nil ?_)); (conv => whnf))))
  (repeat (first | ((first | (refine VL.cons ?_) | (refine VC.seqS rfl ?_) | (refine VC.region ?_) | (refine VRead.fld ?_) | (refine VC.seq ?_)); (conv => whnf)) | (refine VRead.loadB hbg rfl rfl ?_; (conv => whnf))))
  refine VCall.of (rFind_at W1 s h1 hR (by omega)) ?_
  rintro e W1' ⟨⟨k, rfl, hst⟩, eW⟩
  obtain rfl := eW.symm
  refine ⟨_, rfl, ?_⟩
  (conv => whnf)
  (iterate 2 ((first | (refine VL.cons ?_) | (refine VL.nil ?_)); (conv => whnf)))
  refine VC.cutT [] [(11, 15)] (fun vs w => vs = [] ∧ (∃ A' c' xs', RefAt w V r A' c' xs' K (tdel T s)) ∧ Out V W1 w ∧ Blk w g 100 #[encStr s, .slice As f.sure cs, .slice Ap (f.b.length - f.sure) cp] ∧ FEl w V (s, f) (encStr s) (.slice As f.sure cs) (.slice Ap (f.b.length - f.sure) cp)) (by kernel_rfl) ?_ ?_
  · rcases hst with ⟨hf, rfl⟩ | ⟨T0, f0, T1, hT, hf, rfl⟩
    · ((conv => whnf); (repeat ((first | (refine VL.cons ?_) | (refine VL.nil ?_) | (refine VC.seqS rfl ?_) | (refine VC.region ?_) | (refine VC.cond ?_)); (conv => whnf))))
      ((repeat ((first | (refine VC.skip ?_) | (refine VBool.f ?_)); (conv => whnf))))
      refine ⟨rfl, ⟨A, c, xs, ?_⟩, Out.refl _ _, hbg, hx1⟩
      rw [tdel_not (tfind_none hf)]
      exact h1
    · ((conv => whnf); (repeat ((first | (refine VL.cons ?_) | (refine VL.nil ?_) | (refine VC.seqS rfl ?_) | (refine VC.region ?_) | (refine VC.cond ?_)); (conv => whnf))))
      ((repeat ((first | (refine VL.cons ?_) | (refine VC.region ?_) | (refine VBool.t ?_)); (conv => whnf))))
      refine VCall.of (rWithout_at W1 h1 hT hUpV (by omega)) ?_
      rintro e W2 ⟨rfl, h2, hO2, hl2⟩
      refine ⟨_, rfl, ?_⟩
      ((conv => whnf); (repeat ((first | (refine VL.nil ?_)); (conv => whnf))))
      ((repeat ((fail); (conv => whnf))))
      refine ⟨rfl, ?_, hO2, ?_, hx1.stay hl2⟩
      · rw [hT, tdel_eq (by rw [← hT]; exact hR.nd)]
        exact h2
      · exact (hO2.block g hl1 hVg).trans hbg
  rintro τ2 vs2 w2 ⟨rfl, ⟨A2, c2, xs2, h2⟩, hO2, hb2, hx2⟩
  have hR' : Rising (tdel T s) := hR.del
  have hs' : s ∉ (tdel T s).map (·.1) := fun hm => by
    obtain ⟨p, hp, e⟩ := List.mem_map.1 hm
    exact (mem_tdel hp).2 e
  have hl' := tdel_le (L := T) s
  rw [← tset_del hR]
  clear hst h1 hx1 hR hbg
  generalize tdel T s = T' at *
  have hbr : Blk w2 r 98 #[.slice A2 T'.length c2, .int .i64 K.room, .int .i64 K.calls, .bool K.armed, .int .i64 K.kind, .int .i64 K.after, .bool K.off] := h2.blk
  refine VC.seq ?_
  (conv => whnf)
  ((repeat ((first | (refine VL.cons ?_) | (refine VC.region ?_) | (refine VRead.fld ?_)); (conv => whnf))))
  refine VRead.loadB hbr rfl rfl ?_
  (conv => whnf)
  ((repeat ((first | (refine VL.cons ?_) | (refine VL.nil ?_) | (refine VRead.lenS ?_)); (conv => whnf))))
  refine VC.cut [5] [(5, 5), (21, 38)] (fun vs w => ∃ T0 T1 : PT, vs = [.int .i64 (T0.length : Int)] ∧ T' = T0 ++ T1 ∧ (∀ p ∈ T0, p.1 < s) ∧ (∀ p ∈ T1, s < p.1) ∧ Below w2.heap.size w2 w) (by kernel_rfl) ?_ ?_
  · ((conv => whnf); (repeat ((first | (refine VC.block ?_)); (conv => whnf))))
    refine VC.loop [5] [(5, 5), (21, 38)] (fun q vs w => ∃ T0 T1 : PT, vs = [.int .i64 (T0.length : Int)] ∧ q = T0.length ∧ T' = T0 ++ T1 ∧ (∀ p ∈ T1, s < p.1) ∧ Below w2.heap.size w2 w) (by kernel_rfl) ⟨_, T', [], rfl, rfl, by simp, by simp, Below.refl _ _⟩ ?_
    rintro q τ3 vs3 w ⟨T0, T1, rfl, rfl, hT, hgt, hB⟩
    have hb3 := hb2.below hB hb2.lt
    have hbr3 := hbr.below hB hbr.lt
    have hTl : T'.length = T0.length + T1.length := by rw [hT]; simp
    rcases List.eq_nil_or_concat T0 with rfl | ⟨T0, p, rfl⟩
    · ((conv => whnf); (repeat ((fail); (conv => whnf))))
      ((repeat ((first | (refine VC.draw ?_) | (refine VC.seq ?_)); (conv => whnf))))
      (refine VDraw.seg (Eq (World.drewN _ 1)) [] [0, 1, 2, 3, 4, 5, 6, 7, 8, 9, 10, 11, 12, 13, 14, 15] (by kernel_rfl) (by kernel_rfl) rfl ?_; (conv => whnf))
      ((repeat ((first | (refine VC.cond ?_) | (refine VC.exit ?_) | (refine VQ.cons ?_) | (refine VQ.nil ?_) | (refine VG.nil ?_) | (refine VBool.f ?_)); (conv => whnf))))
      exact ⟨[], T1, rfl, hT, by simp, hgt, below_drewN hB 1⟩
    · rw [List.concat_eq_append] at hT hTl ⊢
      have hTl2 : (T0 ++ [p]).length = T0.length + 1 := by simp
      rw [hTl2] at hTl ⊢
      rw [List.append_assoc] at hT
      obtain ⟨g', As', cs', Ap', cp', rfl, hgl, c0, _, _, _, _, _, _⟩ := rCell (h2.below hB (Nat.le_refl _)).fr hT
      ((conv => whnf); (repeat ((fail); (conv => whnf))))
      ((repeat ((first | (refine VC.draw ?_) | (refine VC.seq ?_)); (conv => whnf))))
      (refine VDraw.seg (Eq (World.drewN _ 1)) [] [0, 1, 2, 3, 4, 5, 6, 7, 8, 9, 10, 11, 12, 13, 14, 15] (by kernel_rfl) (by kernel_rfl) rfl ?_; (conv => whnf))
      ((repeat ((first | (refine VQ.cons ?_) | (refine VG.nil ?_) | (refine VBool.t ?_) | (refine VBool.dT (by omega) ?_) | (refine VRead.fld ?_)); (conv => whnf))))
      refine VRead.loadB hb3 rfl rfl ?_
      (conv => whnf)
      ((repeat ((first | (refine VQ.cons ?_) | (refine VBool.t ?_) | (refine VRead.fld ?_)); (conv => whnf))))
      refine VRead.loadB hbr3 rfl rfl ?_
      (conv => whnf)
      ((repeat ((first | (refine VQ.cons ?_) | (refine VBool.t ?_) | (refine VWrap.i64 (by omega) (by omega) ?_)); (conv => whnf))))
      refine VRead.atKZ T0.length (by omega) (by omega) ?_
      (conv => whnf)
      ((repeat ((first | (refine VQ.cons ?_) | (refine VBool.t ?_) | (refine VRead.fld ?_) | (refine VRead.load1 (by assumption) ?_)); (conv => whnf))))
      refine VRead.sLt ?_
      (conv => whnf)
      by_cases hlt : s < p.1
      · (repeat (first | ((first | (refine VL.cons ?_) | (refine VL.nil ?_) | (refine VC.region ?_) | (refine VC.cond ?_) | (refine VC.block ?_) | (refine VC.skip ?_) | (refine VQ.cons ?_) | (refine VQ.nil ?_) | (refine VBool.dT (by omega) ?_) | (refine VWrap.i64 (by omega) (by omega) ?_)); (conv => whnf)) | (refine VBool.dT hlt ?_; (conv => whnf))))
        exact ⟨_, by omega, T0, p :: T1, by show [Value.int .i64 (((T0.length + 1 : Nat) : Int) - 1)] = _; rw [show (((T0.length + 1 : Nat) : Int) - 1) = (T0.length : Int) by omega], rfl, hT, fun q hq => by
          rcases List.mem_cons.1 hq with e | hq
          · rw [e]; exact hlt
          · exact hgt q hq, below_drewN hB 1⟩
      · (repeat (first | ((first | (refine VC.cond ?_) | (refine VC.exit ?_) | (refine VQ.cons ?_) | (refine VQ.nil ?_) | (refine VBool.dF (by omega) ?_)); (conv => whnf)) | (refine VBool.dF hlt ?_; (conv => whnf))))
        refine ⟨T0 ++ [p], T1, by rw [hTl2]; rfl, by rw [hT]; simp, ?_, hgt, below_drewN hB 1⟩
        exact rising_last (B := T1) (by have := hR'; rw [hT] at this; simpa using this) (by have := hs'; rw [hT] at this; simpa using this) hlt
  · rintro τ3 vs3 w3 ⟨T0, T1, rfl, hT, hlo, hhi, hB3⟩
    have hTl : T'.length = T0.length + T1.length := by rw [hT]; simp
    have h3 := h2.below hB3 (Nat.le_refl _)
    have hbg3 := hb2.below hB3 hb2.lt
    have hbr3 := hbr.below hB3 hbr.lt
    have hx3 := hx2.below hB3 (Nat.le_refl _)
    have hc := h3.fr.cap
    have hUp3 : Up V w3 := hUpV.grow (Nat.le_trans hO2.size hB3.size)
    have hr := Reads.row h3.fr.row
    have hels := h3.fr.els
    rw [hT] at hels
    obtain ⟨x0, x1, hxs, hx0, hxl, he0, he1⟩ := hels.two
    have hr0 := hr.takeK (z := T0.length) (by omega)
    have hr1 := hr.cut (k := T0.length) (cap := c2) (by omega) hc
    rw [show xs2.take (T0.length * 3) = x0 by rw [hxs, ← hx0, List.take_left]] at hr0
    rw [show xs2.drop (T0.length * 3) = x1 by rw [hxs, ← hx0, List.drop_left], show T'.length - T0.length = T1.length by omega] at hr1
    replace hr1 : Reads w3 w3.heap.size 3 (cutK A2 c2 T0.length 3) T1.length x1 := hr1
    ((conv => whnf); (repeat ((first | (refine VL.cons ?_) | (refine VL.nil ?_) | (refine VC.seqS rfl ?_) | (refine VC.region ?_)); (conv => whnf))))
    (repeat (first | ((first | (refine VL.cons ?_) | (refine VRead.fld ?_)); (conv => whnf)) | (refine VRead.loadB hbr3 rfl rfl ?_; (conv => whnf))))
    refine VRead.cutKH T0.length (by omega) (by omega) ?_
    (conv => whnf)
    ((repeat ((first | (refine VL.cons ?_)); (conv => whnf))))
    refine VSem.appF' (FRow.nil _ V) rfl hUp3 hr0 he0 rfl (by omega) (Nat.le_refl _) (fun g h => by simp [Value.ownBlock] at h) T0.length (by omega) ?_
    intro A4 c4 w4 hF4 hB4 ho4
    rw [List.nil_append, List.nil_append] at hF4
    have hbg4 := hbg3.below hB4 hbg3.lt
    ((conv => whnf); (repeat ((first | (refine VL.cons ?_) | (refine VL.nil ?_) | (refine VC.seqS rfl ?_) | (refine VC.region ?_)); (conv => whnf))))
    ((repeat ((fail); (conv => whnf))))
    refine VRead.loadAB1 hbg4 rfl rfl ?_
    (conv => whnf)
    ((repeat ((first | (refine VL.cons ?_)); (conv => whnf))))
    refine VSem.oneF ?_
    intro w5 hr5 hB5
    have hB35 := hB4.trans (hB5.mono hB4.size)
    ((conv => whnf); (repeat ((first | (refine VL.cons ?_)); (conv => whnf))))
    ((repeat ((fail); (conv => whnf))))
    refine VSem.appF' (T' := [(s, f)]) (hF4.below hB5 (Nat.le_refl _)) rfl (hUp3.grow hB35.size) hr5 (show FEls w5 V [(s, f)] _ from ⟨hx3.below hB35 (Nat.le_refl _), trivial⟩) rfl (by omega) hB35.size ho4 (T0.length + 1) rfl ?_
    intro A6 c6 w6 hF6 hB6 ho6
    have hB36 := hB35.trans hB6
    have hbr6 := hbr3.below hB36 hbr3.lt
    ((conv => whnf); (repeat ((first | (refine VL.cons ?_) | (refine VL.nil ?_) | (refine VC.region ?_)); (conv => whnf))))
    (repeat (first | ((first | (refine VL.cons ?_) | (refine VRead.fld ?_)); (conv => whnf)) | (refine VRead.loadB hbr6 rfl rfl ?_; (conv => whnf))))
    refine VRead.cutKL T0.length (by omega) (by omega) ?_
    rw [show T'.length - T0.length = T1.length by omega]
    (conv => whnf)
    ((repeat ((first | (refine VL.cons ?_)); (conv => whnf))))
    refine VSem.appF' hF6 (by simp) (hUp3.grow hB36.size) (hr1.below hB36) (he1.below hB36 (Nat.le_refl _)) rfl (by omega) hB36.size ho6 (T0.length + 1 + T1.length) rfl ?_
    intro A7 c7 w7 hF7 hB7 ho7
    have hB37 := hB36.trans hB7
    have hbr7 := hbr3.below hB37 hbr3.lt
    ((conv => whnf); (repeat ((first | (refine VL.cons ?_)); (conv => whnf))))
    ((repeat ((first | (refine VL.cons ?_) | (refine VRead.fld ?_)); (conv => whnf))))
    refine VUnit.storeB hbr7 rfl rfl rfl ?_
    intro w8 hb8 hg8
    ((conv => whnf); (repeat ((first | (refine VL.nil ?_)); (conv => whnf))))
    ((repeat ((fail); (conv => whnf))))
    have e : tset T' s f = T0 ++ (s, f) :: T1 := by rw [hT]; exact tset_mid hlo hhi
    have e2 : T0 ++ [(s, f)] ++ T1 = tset T' s f := by rw [e]; simp
    have el : (tset T' s f).length = T0.length + 1 + T1.length := by rw [e]; simp; omega
    rw [e2, ← el] at hF7
    refine ⟨rfl, ⟨A7, c7, _, ((h3.below hB37 (Nat.le_refl _)).turn hF7 (K' := K) ?_ hg8).more (fun j _ hj => hVU j hj)⟩, ?_⟩
    · rw [el]; exact hb8
    · exact (Out.new hB1).trans (((hO2.trans (Out.new hB3)).trans ((Out.new hB37).trans (Out.grown hg8 h3.hr))).mono hVU)
end
end Go.Proofs.Ytebeidnmplnlpaa
end

section
set_option maxRecDepth 10000
namespace Go.Proofs.Ytebeidnmplnlpaa
set_option linter.unusedVariables false
open Go.RowKit

theorem RefD.of {W : World} {U : Foot} {r c : Nat} {A : Option Addr} {xs : List Value} {S : DS} (hwf : DWf S) (h : RefAt W U r A c xs S.k S.t) : RefD W U r S := ⟨hwf, A, c, xs, h⟩
section
variable {U : Foot} {r : Nat}
set_option maxHeartbeats 1000000 in
theorem rCreate_any (W : World) (S : DS) (s : List UInt8) (h : RefD W U r S) (hc : S.k.calls < 1000000) (hs : s.length ≤ 1000) (hU : Up U W) :
    Calls Try.prog 61 #[.pointer (some ⟨r, 0, none⟩), encStr s] W fun e W' => e = .returned (.int .i64 (S.create s).1) ∧ RefD W' U r (S.create s).2 ∧ Out U W W' := by
  have hwf' := h.1.create hc s
  obtain ⟨h0, A, c, xs, h⟩ := h
  have hfew := h0.t.few
  have hris := h0.t.ris
  obtain ⟨K, T⟩ := S
  simp only at h h0 hc hfew hris
  have fin : ∀ {W' : World} {A : Option Addr} {c : Nat} {xs : List Value} {q : Int × DS}, DS.create ⟨K, T⟩ s = q → RefAt W' U r A c xs q.2.k q.2.t → RefD W' U r (DS.create ⟨K, T⟩ s).2 := fun e h1 => .of hwf' (by rw [e]; exact h1)
  refine calls_vc Try.func61 rfl (by kernel_rfl) ?_
  ((conv => whnf); (repeat ((first | (refine VL.cons ?_) | (refine VL.nil ?_) | (refine VC.seqS rfl ?_) | (refine VC.region ?_)); (conv => whnf))))
  ((repeat ((first | (refine VL.cons ?_) | (refine VC.seqS rfl ?_) | (refine VC.region ?_) | (refine VC.seq ?_)); (conv => whnf))))
  refine VCall.of (rCall_at W h h0.k) ?_
  rintro e W1 ⟨rfl, h1, hg1⟩
  have hO1 := Out.grown hg1 h.hr
  refine ⟨_, rfl, ?_⟩
  obtain ⟨e1, K1, hK⟩ : ∃ e1 K1, K.call = (e1, K1) := ⟨_, _, rfl⟩
  rw [hK] at h1 ⊢
  simp only at h1 ⊢
  have c1 : e1 ≠ 0 → DS.create ⟨K, T⟩ s = (e1, ⟨K1, T⟩) := fun h => by unfold DS.create; rw [hK]; exact if_pos h
  have c2 : e1 = 0 → ¬ nameOk s → DS.create ⟨K, T⟩ s = (1, ⟨K1, T⟩) := fun h h' => by unfold DS.create; rw [hK, if_neg (not_not_intro h)]; exact if_pos h'
  have c3 : e1 = 0 → nameOk s → (tfind T s = none ∧ 64 ≤ T.length) → DS.create ⟨K, T⟩ s = (2, ⟨K1, T⟩) := fun h h' h'' => by unfold DS.create; rw [hK, if_neg (not_not_intro h), if_neg (not_not_intro h')]; exact if_pos h''
  have c4 : e1 = 0 → nameOk s → ¬ (tfind T s = none ∧ 64 ≤ T.length) → DS.create ⟨K, T⟩ s = (0, ⟨K1, tset T s ⟨[], 0⟩⟩) := fun h h' h'' => by unfold DS.create; rw [hK, if_neg (not_not_intro h), if_neg (not_not_intro h')]; exact if_neg h''
  by_cases he : e1 = 0
  case neg =>
    ((conv => whnf); (repeat ((first | (refine VL.cons ?_) | (refine VL.nil ?_) | (refine VC.seqS rfl ?_) | (refine VC.region ?_) | (refine VC.cond ?_)); (conv => whnf))))
    ((repeat ((first | (refine VL.cons ?_) | (refine VL.nil ?_) | (refine VC.seqS rfl ?_) | (refine VC.region ?_) | (refine VC.ret ?_) | (refine VBool.nF (by omega) ?_)); (conv => whnf))))
    exact ⟨by rw [c1 he]; rfl, fin (c1 he) h1, hO1⟩
  subst he
  ((conv => whnf); (repeat ((first | (refine VL.cons ?_) | (refine VL.nil ?_) | (refine VC.seqS rfl ?_) | (refine VC.region ?_) | (refine VC.cond ?_)); (conv => whnf))))
  ((repeat ((first | (refine VL.cons ?_) | (refine VC.seqS rfl ?_) | (refine VC.region ?_) | (refine VC.skip ?_) | (refine VBool.f ?_) | (refine VC.seq ?_)); (conv => whnf))))
  refine VCall.of (rNamed_any W1 s hs) ?_
  rintro e W1' ⟨rfl, eW⟩
  obtain rfl := eW.symm
  refine ⟨_, rfl, ?_⟩
  by_cases hn : nameOk s
  case neg =>
    rw [decide_eq_false hn]
    ((conv => whnf); (repeat ((first | (refine VL.cons ?_) | (refine VL.nil ?_) | (refine VC.cond ?_)); (conv => whnf))))
    ((repeat ((first | (refine VL.cons ?_) | (refine VL.nil ?_) | (refine VC.seqS rfl ?_) | (refine VC.region ?_) | (refine VC.ret ?_) | (refine VBool.t ?_)); (conv => whnf))))
    exact ⟨by rw [c2 rfl hn]; rfl, fin (c2 rfl hn) h1, hO1⟩
  rw [decide_eq_true hn]
  ((conv => whnf); (repeat ((first | (refine VL.cons ?_) | (refine VL.nil ?_) | (refine VC.cond ?_)); (conv => whnf))))
  ((repeat ((first | (refine VL.cons ?_) | (refine VC.seqS rfl ?_) | (refine VC.region ?_) | (refine VC.skip ?_) | (refine VBool.f ?_) | (refine VC.seq ?_)); (conv => whnf))))
  refine VCall.of (rFind_at W1 s h1 hris (by omega)) ?_
  rintro e W1' ⟨⟨k, rfl, hst⟩, eW⟩
  obtain rfl := eW.symm
  refine ⟨_, rfl, ?_⟩
  have hb : Blk W1 r 98 #[.slice A T.length c, .int .i64 K1.room, .int .i64 K1.calls, .bool K1.armed, .int .i64 K1.kind, .int .i64 K1.after, .bool K1.off] := h1.blk
  have hx : FEl W1 U (s, ⟨[], 0⟩) (encStr s) (.slice none 0 0) (.slice none 0 0) := ⟨rfl, ⟨none, 0, rfl, Lies.nil _ _ _, Nat.le_refl _⟩, none, 0, rfl, Lies.nil _ _ _, Nat.le_refl _⟩
  have put : ¬ (tfind T s = none ∧ 64 ≤ T.length) → Calls Try.prog 98 #[.pointer (some ⟨r, 0, none⟩), .agg #[encStr s, .slice none 0 0, .slice none 0 0]] W1 fun e W' => e = .returned (.tuple #[]) ∧ RefD W' U r (DS.create ⟨K, T⟩ s).2 ∧ Out U W W' := fun hno => by
    refine (rPut_at W1 h1 hris hx (hU.grow hO1.size) (by omega)).mono ?_
    rintro e W2 ⟨rfl, ⟨A2, c2, xs2, h2⟩, hO2⟩
    exact ⟨rfl, fin (c4 rfl hn hno) h2, hO1.trans hO2⟩
  rcases hst with ⟨hf, rfl⟩ | ⟨T0, f, T1, hT, hf, rfl⟩
  · by_cases hfull : 64 ≤ T.length
    · have c3' := c3 rfl hn ⟨hf, hfull⟩
      ((conv => whnf); (repeat ((first | (refine VL.cons ?_)); (conv => whnf))))
      (repeat (first | ((first | (refine VL.cons ?_) | (refine VL.nil ?_) | (refine VC.seqS rfl ?_) | (refine VC.region ?_) | (refine VC.cond ?_) | (refine VC.ret ?_) | (refine VBool.t ?_) | (refine VBool.dT (by omega) ?_) | (refine VRead.lenS ?_) | (refine VRead.fld ?_)); (conv => whnf)) | (refine VRead.loadB hb rfl rfl ?_; (conv => whnf))))
      exact ⟨by rw [c3']; rfl, fin c3' h1, hO1⟩
    · have hno : ¬ (tfind T s = none ∧ 64 ≤ T.length) := fun h => hfull h.2
      have c4' := c4 rfl hn hno
      ((conv => whnf); (repeat ((first | (refine VL.cons ?_)); (conv => whnf))))
      (repeat (first | ((first | (refine VL.cons ?_) | (refine VL.nil ?_) | (refine VC.seqS rfl ?_) | (refine VC.region ?_) | (refine VC.cond ?_) | (refine VC.skip ?_) | (refine VBool.t ?_) | (refine VBool.dF (by omega) ?_) | (refine VRead.lenS ?_) | (refine VRead.fld ?_)); (conv => whnf)) | (refine VRead.loadB hb rfl rfl ?_; (conv => whnf))))
      refine VRead.ofW (v := .agg #[encStr s, .slice none 0 0, .slice none 0 0]) (fun _ => by kernel_rfl) ?_
      ((conv => whnf); (repeat ((first | (refine VL.cons ?_)); (conv => whnf))))
      ((repeat ((fail); (conv => whnf))))
      refine VCall.of (put hno) ?_
      rintro e W2 ⟨rfl, h2, hO2⟩
      refine ⟨_, rfl, ?_⟩
      ((conv => whnf); (repeat ((first | (refine VL.cons ?_) | (refine VL.nil ?_) | (refine VC.seqS rfl ?_) | (refine VC.region ?_) | (refine VC.ret ?_)); (conv => whnf))))
      ((repeat ((fail); (conv => whnf))))
      exact ⟨by rw [c4']; rfl, h2, hO2⟩
  · have hno : ¬ (tfind T s = none ∧ 64 ≤ T.length) := by rw [hf]; intro h; cases h.1
    have c4' := c4 rfl hn hno
    ((conv => whnf); (repeat ((first | (refine VL.cons ?_)); (conv => whnf))))
    (repeat (first | ((first | (refine VL.cons ?_) | (refine VL.nil ?_) | (refine VC.seqS rfl ?_) | (refine VC.region ?_) | (refine VC.cond ?_) | (refine VC.skip ?_) | (refine VBool.f ?_)); (conv => whnf)) | (refine VRead.loadB hb rfl rfl ?_; (conv => whnf))))
    refine VRead.ofW (v := .agg #[encStr s, .slice none 0 0, .slice none 0 0]) (fun _ => by kernel_rfl) ?_
    ((conv => whnf); (repeat ((first | (refine VL.cons ?_)); (conv => whnf))))
    ((repeat ((fail); (conv => whnf))))
    refine VCall.of (put hno) ?_
    rintro e W2 ⟨rfl, h2, hO2⟩
    refine ⟨_, rfl, ?_⟩
    ((conv => whnf); (repeat ((first | (refine VL.cons ?_) | (refine VL.nil ?_) | (refine VC.seqS rfl ?_) | (refine VC.region ?_) | (refine VC.ret ?_)); (conv => whnf))))
    ((repeat ((fail); (conv => whnf))))
    exact ⟨by rw [c4']; rfl, h2, hO2⟩
set_option maxHeartbeats 1000000 in
theorem rRemove_any (W : World) (S : DS) (s : List UInt8) (h : RefD W U r S) (hc : S.k.calls < 1000000) (hs : s.length ≤ 1000) (hU : Up U W) :
    Calls Try.prog 67 #[.pointer (some ⟨r, 0, none⟩), encStr s] W fun e W' => e = .returned (.int .i64 (S.remove s).1) ∧ RefD W' U r (S.remove s).2 ∧ Out U W W' := by
  have hwf' := h.1.remove (s := s) hc
  obtain ⟨h0, A, c, xs, h⟩ := h
  have hfew := h0.t.few
  have hris := h0.t.ris
  obtain ⟨K, T⟩ := S
  simp only at h h0 hc hfew hris
  have fin : ∀ {W' : World} {A : Option Addr} {c : Nat} {xs : List Value} {q : Int × DS}, DS.remove ⟨K, T⟩ s = q → RefAt W' U r A c xs q.2.k q.2.t → RefD W' U r (DS.remove ⟨K, T⟩ s).2 := fun e h1 => .of hwf' (by rw [e]; exact h1)
  refine calls_vc Try.func67 rfl (by kernel_rfl) ?_
  ((conv => whnf); (repeat ((first | (refine VL.cons ?_) | (refine VL.nil ?_) | (refine VC.seqS rfl ?_) | (refine VC.region ?_)); (conv => whnf))))
  ((repeat ((first | (refine VL.cons ?_) | (refine VC.seqS rfl ?_) | (refine VC.region ?_) | (refine VC.seq ?_)); (conv => whnf))))
  refine VCall.of (rCall_at W h h0.k) ?_
  rintro e W1 ⟨rfl, h1, hg1⟩
  have hO1 := Out.grown hg1 h.hr
  refine ⟨_, rfl, ?_⟩
  obtain ⟨e1, K1, hK⟩ : ∃ e1 K1, K.call = (e1, K1) := ⟨_, _, rfl⟩
  rw [hK] at h1 ⊢
  simp only at h1 ⊢
  have c1 : e1 ≠ 0 → DS.remove ⟨K, T⟩ s = (e1, ⟨K1, T⟩) := fun h => by unfold DS.remove; rw [hK]; exact if_pos h
  have c2 : e1 = 0 → ¬ nameOk s → DS.remove ⟨K, T⟩ s = (1, ⟨K1, T⟩) := fun h h' => by unfold DS.remove; rw [hK, if_neg (not_not_intro h)]; exact if_pos h'
  have c3 : e1 = 0 → nameOk s → tfind T s = none → DS.remove ⟨K, T⟩ s = (3, ⟨K1, T⟩) := fun h h' h'' => by unfold DS.remove; rw [hK, if_neg (not_not_intro h), if_neg (not_not_intro h'), h'']
  have c4 : ∀ f, e1 = 0 → nameOk s → tfind T s = some f → DS.remove ⟨K, T⟩ s = (0, ⟨K1, tdel T s⟩) := fun f h h' h'' => by unfold DS.remove; rw [hK, if_neg (not_not_intro h), if_neg (not_not_intro h'), h'']
  by_cases he : e1 = 0
  case neg =>
    ((conv => whnf); (repeat ((first | (refine VL.cons ?_) | (refine VL.nil ?_) | (refine VC.seqS rfl ?_) | (refine VC.region ?_) | (refine VC.cond ?_)); (conv => whnf))))
    ((repeat ((first | (refine VL.cons ?_) | (refine VL.nil ?_) | (refine VC.seqS rfl ?_) | (refine VC.region ?_) | (refine VC.ret ?_) | (refine VBool.nF (by omega) ?_)); (conv => whnf))))
    exact ⟨by rw [c1 he]; rfl, fin (c1 he) h1, hO1⟩
  subst he
  ((conv => whnf); (repeat ((first | (refine VL.cons ?_) | (refine VL.nil ?_) | (refine VC.seqS rfl ?_) | (refine VC.region ?_) | (refine VC.cond ?_)); (conv => whnf))))
  ((repeat ((first | (refine VL.cons ?_) | (refine VC.seqS rfl ?_) | (refine VC.region ?_) | (refine VC.skip ?_) | (refine VBool.f ?_) | (refine VC.seq ?_)); (conv => whnf))))
  refine VCall.of (rNamed_any W1 s hs) ?_
  rintro e W1' ⟨rfl, eW⟩
  obtain rfl := eW.symm
  refine ⟨_, rfl, ?_⟩
  by_cases hn : nameOk s
  case neg =>
    rw [decide_eq_false hn]
    ((conv => whnf); (repeat ((first | (refine VL.cons ?_) | (refine VL.nil ?_) | (refine VC.cond ?_)); (conv => whnf))))
    ((repeat ((first | (refine VL.cons ?_) | (refine VL.nil ?_) | (refine VC.seqS rfl ?_) | (refine VC.region ?_) | (refine VC.ret ?_) | (refine VBool.t ?_)); (conv => whnf))))
    exact ⟨by rw [c2 rfl hn]; rfl, fin (c2 rfl hn) h1, hO1⟩
  rw [decide_eq_true hn]
  ((conv => whnf); (repeat ((first | (refine VL.cons ?_) | (refine VL.nil ?_) | (refine VC.cond ?_)); (conv => whnf))))
  ((repeat ((first | (refine VL.cons ?_) | (refine VC.seqS rfl ?_) | (refine VC.region ?_) | (refine VC.skip ?_) | (refine VBool.f ?_)); (conv => whnf))))
  refine VCall.of (rFind_at W1 s h1 hris (by omega)) ?_
  rintro e W1' ⟨⟨k, rfl, hst⟩, eW⟩
  obtain rfl := eW.symm
  refine ⟨_, rfl, ?_⟩
  rcases hst with ⟨hf, rfl⟩ | ⟨T0, f, T1, hT, hf, rfl⟩
  · have c3' := c3 rfl hn hf
    ((conv => whnf); (repeat ((first | (refine VL.cons ?_) | (refine VL.nil ?_)); (conv => whnf))))
    ((repeat ((first | (refine VL.cons ?_) | (refine VL.nil ?_) | (refine VC.seqS rfl ?_) | (refine VC.region ?_) | (refine VC.cond ?_) | (refine VC.ret ?_) | (refine VBool.t ?_) | (refine VC.seq ?_)); (conv => whnf))))
    exact ⟨by rw [c3']; rfl, fin c3' h1, hO1⟩
  · have c4' := c4 f rfl hn hf
    ((conv => whnf); (repeat ((first | (refine VL.cons ?_) | (refine VL.nil ?_)); (conv => whnf))))
    ((repeat ((first | (refine VL.cons ?_) | (refine VL.nil ?_) | (refine VC.seqS rfl ?_) | (refine VC.region ?_) | (refine VC.cond ?_) | (refine VC.skip ?_) | (refine VBool.f ?_) | (refine VC.seq ?_)); (conv => whnf))))
    refine VCall.of (rWithout_at W1 h1 hT (hU.grow hO1.size) (by omega)) ?_
    rintro e W2 ⟨rfl, ⟨A2, c2, xs2, h2⟩, hO2, _⟩
    refine ⟨_, rfl, ?_⟩
    ((conv => whnf); (repeat ((first | (refine VL.cons ?_) | (refine VL.nil ?_) | (refine VC.seqS rfl ?_) | (refine VC.region ?_) | (refine VC.ret ?_)); (conv => whnf))))
    ((repeat ((fail); (conv => whnf))))
    refine ⟨by rw [c4']; rfl, fin (A := A2) (c := c2) (xs := xs2) c4' ?_, hO1.trans hO2⟩
    have e : tdel T s = T0 ++ T1 := by rw [hT]; exact tdel_eq (by rw [← hT]; exact hris.nd)
    simp only
    rw [e]; exact h2
set_option maxHeartbeats 1000000 in
theorem rRename_any (W : World) (S : DS) (s t : List UInt8) (h : RefD W U r S) (hc : S.k.calls < 1000000) (hs : s.length ≤ 1000) (ht : t.length ≤ 1000) (hU : Up U W) :
    Calls Try.prog 65 #[.pointer (some ⟨r, 0, none⟩), encStr s, encStr t] W fun e W' => e = .returned (.int .i64 (S.rename s t).1) ∧ RefD W' U r (S.rename s t).2 ∧ Out U W W' := by
  have hwf' := h.1.rename (s := s) (t := t) hc
  obtain ⟨h0, A, c, xs, h⟩ := h
  have hfew := h0.t.few
  have hris := h0.t.ris
  obtain ⟨K, T⟩ := S
  simp only at h h0 hc hfew hris
  have fin : ∀ {W' : World} {A : Option Addr} {c : Nat} {xs : List Value} {q : Int × DS}, DS.rename ⟨K, T⟩ s t = q → RefAt W' U r A c xs q.2.k q.2.t → RefD W' U r (DS.rename ⟨K, T⟩ s t).2 := fun e h1 => .of hwf' (by rw [e]; exact h1)
  refine calls_vc Try.func65 rfl (by kernel_rfl) ?_
  ((conv => whnf); (repeat ((first | (refine VL.cons ?_) | (refine VL.nil ?_) | (refine VC.seqS rfl ?_) | (refine VC.region ?_)); (conv => whnf))))
  ((repeat ((first | (refine VL.cons ?_) | (refine VC.seqS rfl ?_) | (refine VC.region ?_) | (refine VC.seq ?_)); (conv => whnf))))
  refine VCall.of (rCall_at W h h0.k) ?_
  rintro e W1 ⟨rfl, h1, hg1⟩
  have hO1 := Out.grown hg1 h.hr
  refine ⟨_, rfl, ?_⟩
  obtain ⟨e1, K1, hK⟩ : ∃ e1 K1, K.call = (e1, K1) := ⟨_, _, rfl⟩
  rw [hK] at h1 ⊢
  simp only at h1 ⊢
  have c1 : e1 ≠ 0 → DS.rename ⟨K, T⟩ s t = (e1, ⟨K1, T⟩) := fun h => by unfold DS.rename; rw [hK]; exact if_pos h
  have c2 : e1 = 0 → ¬ (nameOk s ∧ nameOk t) → DS.rename ⟨K, T⟩ s t = (1, ⟨K1, T⟩) := fun h h' => by unfold DS.rename; rw [hK, if_neg (not_not_intro h)]; exact if_pos h'
  have c3 : e1 = 0 → nameOk s ∧ nameOk t → tfind T s = none → DS.rename ⟨K, T⟩ s t = (3, ⟨K1, T⟩) := fun h h' h'' => by unfold DS.rename; rw [hK, if_neg (not_not_intro h), if_neg (not_not_intro h'), h'']
  have c4 : ∀ f, e1 = 0 → nameOk s ∧ nameOk t → tfind T s = some f → DS.rename ⟨K, T⟩ s t = (0, ⟨K1, tset (tdel T s) t f⟩) := fun f h h' h'' => by unfold DS.rename; rw [hK, if_neg (not_not_intro h), if_neg (not_not_intro h'), h'']
  by_cases he : e1 = 0
  case neg =>
    ((conv => whnf); (repeat ((first | (refine VL.cons ?_) | (refine VL.nil ?_) | (refine VC.seqS rfl ?_) | (refine VC.region ?_) | (refine VC.cond ?_)); (conv => whnf))))
    ((repeat ((first | (refine VL.cons ?_) | (refine VL.nil ?_) | (refine VC.seqS rfl ?_) | (refine VC.region ?_) | (refine VC.ret ?_) | (refine VBool.nF (by omega) ?_)); (conv => whnf))))
    exact ⟨by rw [c1 he]; rfl, fin (c1 he) h1, hO1⟩
  subst he
  ((conv => whnf); (repeat ((first | (refine VL.cons ?_) | (refine VL.nil ?_) | (refine VC.seqS rfl ?_) | (refine VC.region ?_) | (refine VC.cond ?_)); (conv => whnf))))
  ((repeat ((first | (refine VL.cons ?_) | (refine VC.seqS rfl ?_) | (refine VC.region ?_) | (refine VC.skip ?_) | (refine VBool.f ?_) | (refine VC.seq ?_)); (conv => whnf))))
  refine VCall.of (rNamed_any W1 s hs) ?_
  rintro e W1' ⟨rfl, eW⟩
  obtain rfl := eW.symm
  refine ⟨_, rfl, ?_⟩
  by_cases hn : nameOk s
  case neg =>
    rw [decide_eq_false hn]
    ((conv => whnf); (repeat ((first | (refine VL.cons ?_)); (conv => whnf))))
    ((repeat ((first | (refine VL.cons ?_) | (refine VL.nil ?_) | (refine VC.seqS rfl ?_) | (refine VC.region ?_) | (refine VC.cond ?_) | (refine VC.ret ?_) | (refine VBool.t ?_)); (conv => whnf))))
    have c2' := c2 rfl (fun h => hn h.1)
    exact ⟨by rw [c2']; rfl, fin c2' h1, hO1⟩
  rw [decide_eq_true hn]
  ((conv => whnf); (repeat ((first | (refine VL.cons ?_)); (conv => whnf))))
  ((repeat ((first | (refine VL.cons ?_) | (refine VBool.f ?_)); (conv => whnf))))
  refine VCall.of (rNamed_any W1 t ht) ?_
  rintro e W1' ⟨rfl, eW⟩
  obtain rfl := eW.symm
  refine ⟨_, rfl, ?_⟩
  by_cases hm : nameOk t
  case neg =>
    rw [decide_eq_false hm]
    ((conv => whnf); (repeat ((first | (refine VL.cons ?_)); (conv => whnf))))
    ((repeat ((first | (refine VL.cons ?_) | (refine VL.nil ?_) | (refine VC.seqS rfl ?_) | (refine VC.region ?_) | (refine VC.cond ?_) | (refine VC.ret ?_) | (refine VBool.t ?_) | (refine VBool.f ?_)); (conv => whnf))))
    have c2' := c2 rfl (fun h => hm h.2)
    exact ⟨by rw [c2']; rfl, fin c2' h1, hO1⟩
  rw [decide_eq_true hm]
  ((conv => whnf); (repeat ((first | (refine VL.cons ?_)); (conv => whnf))))
  ((repeat ((first | (refine VL.cons ?_) | (refine VL.nil ?_) | (refine VC.seqS rfl ?_) | (refine VC.region ?_) | (refine VC.cond ?_) | (refine VC.skip ?_) | (refine VBool.f ?_)); (conv => whnf))))
  refine VCall.of (rFind_at W1 s h1 hris (by omega)) ?_
  rintro e W1' ⟨⟨k, rfl, hst⟩, eW⟩
  obtain rfl := eW.symm
  refine ⟨_, rfl, ?_⟩
  rcases hst with ⟨hf, rfl⟩ | ⟨T0, f, T1, hT, hf, rfl⟩
  · have c3' := c3 rfl ⟨hn, hm⟩ hf
    ((conv => whnf); (repeat ((first | (refine VL.cons ?_) | (refine VL.nil ?_)); (conv => whnf))))
    ((repeat ((first | (refine VL.cons ?_) | (refine VL.nil ?_) | (refine VC.seqS rfl ?_) | (refine VC.region ?_) | (refine VC.cond ?_) | (refine VC.ret ?_) | (refine VBool.t ?_) | (refine VC.seq ?_)); (conv => whnf))))
    exact ⟨by rw [c3']; rfl, fin c3' h1, hO1⟩
  · have c4' := c4 f rfl ⟨hn, hm⟩ hf
    have hTl : T.length = T0.length + (T1.length + 1) := by rw [hT]; simp
    have hb : Blk W1 r 98 #[.slice A T.length c, .int .i64 K1.room, .int .i64 K1.calls, .bool K1.armed, .int .i64 K1.kind, .int .i64 K1.after, .bool K1.off] := h1.blk
    obtain ⟨g, As, cs, Ap, cp, rfl, hgl, d0, d1, d2, hls, hlp, hcs, hcp⟩ := rCell h1.fr hT
    have hcell : ∀ j v, (#[encStr s, Value.slice As f.sure cs, .slice Ap (f.b.length - f.sure) cp] : Array Value).toList[j]? = some v → W1.cell? (((⟨g, 0, none⟩ : Addr).add (T0.length * 3)).add j) = some v := fun j v hj => by
      match j, hj with
      | 0, hj => obtain rfl := Option.some.inj hj; exact d0
      | 1, hj => obtain rfl := Option.some.inj hj; exact d1
      | 2, hj => obtain rfl := Option.some.inj hj; exact d2
      | j + 3, hj => simp at hj
    ((conv => whnf); (repeat ((first | (refine VL.cons ?_) | (refine VL.nil ?_)); (conv => whnf))))
    (repeat (first | ((first | (refine VL.cons ?_) | (refine VL.nil ?_) | (refine VC.seqS rfl ?_) | (refine VC.region ?_) | (refine VC.cond ?_) | (refine VC.skip ?_) | (refine VBool.f ?_) | (refine VRead.fld ?_) | (refine VC.seq ?_)); (conv => whnf)) | (refine VRead.loadB hb rfl rfl ?_; (conv => whnf)) | (refine VRead.atK (by omega) ?_; (conv => whnf))))
    refine VRead.loadL hcell rfl ?_
    ((conv => whnf); (repeat ((first | (refine VL.cons ?_)); (conv => whnf))))
    ((repeat ((fail); (conv => whnf))))
    refine VSem.allocZ (z := .agg #[.string ByteArray.empty, .slice none 0 0, .slice none 0 0]) (by kernel_rfl) ?_
    intro W2 gf hbf hgf hlf hB2
    ((conv => whnf); (repeat ((first | (refine VL.cons ?_)); (conv => whnf))))
    ((repeat ((fail); (conv => whnf))))
    refine VUnit.storeAB hbf rfl rfl rfl (by simp [encStr, Value.oneCell']) ?_
    intro W3 hb3 hg3
    replace hb3 : Blk W3 gf 100 #[encStr s, .slice As f.sure cs, .slice Ap (f.b.length - f.sure) cp] := hb3
    have hB3 : Below W1.heap.size W1 W3 := only_new hB2 hg3 (by omega) (by omega)
    have hlf3 : gf < W3.heap.size := Nat.lt_of_lt_of_le hlf hg3.size
    obtain ⟨V, hV⟩ : ∃ V : Foot, V = fun j => U j ∧ j ≠ gf := ⟨_, rfl⟩
    have hVU : ∀ j, V j → U j := fun j hj => by rw [hV] at hj; exact hj.1
    have hUV : ∀ j, j < W1.heap.size → U j → V j := fun j h1 h2 => by rw [hV]; exact ⟨h2, by omega⟩
    have hVg : ¬ V gf := fun hj => by rw [hV] at hj; exact hj.2 rfl
    have hUpV : Up V W3 := fun j hj => by rw [hV]; exact ⟨hU j (by have := hB3.size; have := hO1.size; omega), by omega⟩
    have h3 := (h1.more hUV).below hB3 (Nat.le_refl _)
    have hls3 := (hls.more hUV).below hB3 (Nat.le_refl _)
    have hlp3 := (hlp.more hUV).below hB3 (Nat.le_refl _)
    ((conv => whnf); (repeat ((first | (refine VL.cons ?_) | (refine VL.nil ?_) | (refine VC.seqS rfl ?_) | (refine VC.region ?_)); (conv => whnf))))
    ((repeat ((fail); (conv => whnf))))
    refine VCall.of (rWithout_at W3 h3 hT hUpV (by omega)) ?_
    rintro e W4 ⟨rfl, ⟨A4, c4, xs4, h4⟩, hO4, hl4⟩
    refine ⟨_, rfl, ?_⟩
    have hb4 := (hO4.block gf hlf3 hVg).trans hb3
    replace hb4 : Blk W4 gf 100 #[encStr s, .slice As f.sure cs, .slice Ap (f.b.length - f.sure) cp] := hb4
    have hlf4 : gf < W4.heap.size := Nat.lt_of_lt_of_le hlf3 hO4.size
    ((conv => whnf); (repeat ((first | (refine VL.cons ?_) | (refine VL.nil ?_) | (refine VC.seqS rfl ?_) | (refine VC.region ?_)); (conv => whnf))))
    ((repeat ((first | (refine VL.cons ?_) | (refine VRead.fld ?_)); (conv => whnf))))
    refine VUnit.storeB hb4 rfl rfl rfl ?_
    intro W5 hb5 hg5
    replace hb5 : Blk W5 gf 100 #[encStr t, .slice As f.sure cs, .slice Ap (f.b.length - f.sure) cp] := hb5
    have h5 : RefAt W5 V r A4 c4 xs4 K1 (T0 ++ T1) := h4.stay hg5.size (fun j hj hv => hg5.block j hj (fun e => by injection e with e; exact hVg (e ▸ hv)))
    have hx5 : FEl W5 V (t, f) (encStr t) (.slice As f.sure cs) (.slice Ap (f.b.length - f.sure) cp) :=
      ⟨rfl, ⟨As, cs, rfl, (hl4 _ _ _ hls3).stay hg5.size (fun j hj hv => hg5.block j hj (fun e => by injection e with e; exact hVg (e ▸ hv))), hcs⟩, Ap, cp, rfl, (hl4 _ _ _ hlp3).stay hg5.size (fun j hj hv => hg5.block j hj (fun e => by injection e with e; exact hVg (e ▸ hv))), hcp⟩
    have e : tdel T s = T0 ++ T1 := by rw [hT]; exact tdel_eq (by rw [← hT]; exact hris.nd)
    ((conv => whnf); (repeat ((first | (refine VL.cons ?_) | (refine VL.nil ?_) | (refine VC.seqS rfl ?_) | (refine VC.region ?_)); (conv => whnf))))
    ((repeat ((fail); (conv => whnf))))
    refine VRead.loadAB1 hb5 rfl rfl ?_
    (conv => whnf)
    ((repeat ((first | (refine VL.cons ?_)); (conv => whnf))))
    refine VCall.of (rPut_at W5 h5 (by rw [← e]; exact hris.del) hx5 (hUpV.grow (Nat.le_trans hO4.size hg5.size)) (by rw [List.length_append]; omega)) ?_
    rintro e' W6 ⟨rfl, ⟨A6, c6, xs6, h6⟩, hO6⟩
    refine ⟨_, rfl, ?_⟩
    ((conv => whnf); (repeat ((first | (refine VL.cons ?_) | (refine VL.nil ?_) | (refine VC.seqS rfl ?_) | (refine VC.region ?_) | (refine VC.ret ?_)); (conv => whnf))))
    ((repeat ((fail); (conv => whnf))))
    refine ⟨by rw [c4']; rfl, fin (A := A6) (c := c6) (xs := xs6) c4' ?_, ?_⟩
    · simp only
      rw [e]
      exact h6.more (fun j _ hj => hVU j hj)
    · exact hO1.trans ((Out.new hB3).trans ((hO4.mono hVU).trans ((Out.grown hg5 (hU gf (by have := hO1.size; omega))).trans (hO6.mono hVU))))
end
end Go.Proofs.Ytebeidnmplnlpaa
end

section
set_option maxRecDepth 10000
namespace Go.Proofs.Ytebeidnmplnlpaa
set_option linter.unusedVariables false
open Go.RowKit

theorem set_cell {x0 x1 : List Value} {a b d v : Value} {n : Nat} (h : x0.length = n) : (x0 ++ a :: b :: d :: x1).set (n + 1) v = x0 ++ a :: v :: d :: x1 := by
  subst h
  rw [List.set_append_right _ _ (by omega), show x0.length + 1 - x0.length = 1 by omega]
  rfl
theorem set_cell2 {x0 x1 : List Value} {a b d v : Value} {n : Nat} (h : x0.length = n) : (x0 ++ a :: b :: d :: x1).set (n + 2) v = x0 ++ a :: b :: v :: x1 := by
  subst h
  rw [List.set_append_right _ _ (by omega), show x0.length + 2 - x0.length = 2 by omega]
  rfl
section
variable {W W' : World} {U : Foot} {r c g n B : Nat} {A : Option Addr} {xs xs' : List Value} {K : Dk} {T T0 T1 : PT} {s : List UInt8} {f : Fl} {b : List UInt8}
theorem FEls.mid {p : List UInt8 × Fl} {x0 x1 : List Value} {a b d : Value} (h : FEls W U (T0 ++ p :: T1) (x0 ++ a :: b :: d :: x1)) (hx0 : x0.length = T0.length * 3) : FEls W U T0 x0 ∧ FEl W U p a b d ∧ FEls W U T1 x1 := by
  obtain ⟨h1, h2⟩ := h.split
  rw [← hx0, List.take_left] at h1
  rw [← hx0, List.drop_left] at h2
  exact ⟨h1, h2.1, h2.2⟩
/-- a file's two slices turn -/
theorem RefAt.file {p q : List UInt8 × Fl} {x0 x1 : List Value} {a b d a' b' d' : Value} (h : RefAt W U r (some ⟨g, 0, none⟩) c xs K T) (hT : T = T0 ++ p :: T1) (hxs : xs = x0 ++ a :: b :: d :: x1) (hx0 : x0.length = T0.length * 3)
    (row : W'.ownsRow 0 100 3 (.slice (some ⟨g, 0, none⟩) T.length c) T.length (x0 ++ a' :: b' :: d' :: x1)) (hg : W.grownBy W' (some g)) (hel : FEl W' U q a' b' d') :
    RefAt W' U r (some ⟨g, 0, none⟩) c (x0 ++ a' :: b' :: d' :: x1) K (T0 ++ q :: T1) := by
  have hl : (T0 ++ q :: T1).length = T.length := by rw [hT]; simp
  have hels := h.fr.els
  have hrow := h.fr.row
  rw [hxs, hT] at hels
  obtain ⟨e0, _, e1⟩ := hels.mid hx0
  have hne : r ≠ g := by
    obtain ⟨_, cs, hc⟩ := row_cells hrow g rfl
    intro e; subst e
    have hb' := h.blk
    unfold Blk at hb'
    rw [hc] at hb'
    injection hb' with hb'
    injection hb' with _ h2 _
    exact absurd h2 (by decide)
  have st : ∀ (A : Option Addr) (m : Nat) (l : List UInt8), Lies W U A m l → Lies W' U A m l := fun A m l hl => hl.row hrow (by exact hg) (by decide)
  refine ⟨h.hr, ?_, ?_⟩
  · rw [hl]; exact h.blk.grown hg (fun e => hne (Option.some.inj e))
  · rw [hl]
    exact ⟨row, h.fr.foot, (e0.stay st).append (show FEls W' U (q :: T1) (a' :: b' :: d' :: x1) from ⟨hel, e1.stay st⟩)⟩
/-- what is pending grows -/
theorem RefAt.pend {A2 : Option Addr} {m2 c2 : Nat} (h : RefAt W U r (some ⟨g, 0, none⟩) c xs K T) (hT : T = T0 ++ (s, f) :: T1) (hsu : f.sure ≤ f.b.length)
    (row : W'.ownsRow 0 100 3 (.slice (some ⟨g, 0, none⟩) T.length c) T.length (xs.set (T0.length * 3 + 2) (.slice A2 m2 c2))) (hg : W.grownBy W' (some g)) (hO : Own W B (.slice A2 m2 c2) m2 (f.b.drop f.sure ++ b)) (hU : ∀ j, B ≤ j → U j) :
    ∃ xs', RefAt W' U r (some ⟨g, 0, none⟩) c xs' K (T0 ++ (s, ⟨f.b ++ b, f.sure⟩) :: T1) := by
  have hels := h.fr.els
  rw [hT] at hels
  obtain ⟨x0, a, y, d, x1, hxs, hx0, _, ⟨ha, ⟨As, cs, hy, hls, hcs⟩, _⟩, _⟩ := hels.at_
  have hrow := h.fr.row
  rw [hxs, set_cell2 hx0] at row
  have st : ∀ (A : Option Addr) (m : Nat) (l : List UInt8), Lies W U A m l → Lies W' U A m l := fun A m l hl => hl.row hrow (by exact hg) (by decide)
  have hm2 : m2 = f.b.length + b.length - f.sure := by
    have := hO.len
    simp only [List.length_append, List.length_drop] at this
    omega
  have hm3 : (f.b ++ b).length - f.sure = m2 := by rw [List.length_append]; omega
  simp only at hy hls hcs
  have hcap := hO.cap
  refine ⟨_, h.file hT hxs hx0 row hg ⟨ha, ⟨As, cs, hy, ?_, hcs⟩, A2, c2, ?_, ?_, ?_⟩⟩
  · simp only
    rw [List.take_append_of_le_length hsu]
    exact st _ _ _ hls
  · simp only; rw [hm3]
  · simp only
    rw [hm3, List.drop_append_of_le_length hsu]
    exact st _ _ _ (Lies.of_own hO hU)
  · simp only; rw [hm3]; exact hcap
/-- what is pending becomes sure, up to a number of bytes -/
theorem RefAt.made {A2 : Option Addr} {m2 c2 : Nat} {l : List UInt8} (h : RefAt W U r (some ⟨g, 0, none⟩) c xs K T) (hT : T = T0 ++ (s, f) :: T1)
    (row : W'.ownsRow 0 100 3 (.slice (some ⟨g, 0, none⟩) T.length c) T.length ((xs.set (T0.length * 3 + 1) (.slice A2 m2 c2)).set (T0.length * 3 + 2) (.slice none 0 0))) (hg : W.grownBy W' (some g)) (hO : Own W B (.slice A2 m2 c2) m2 l) (hU : ∀ j, B ≤ j → U j) :
    ∃ xs', RefAt W' U r (some ⟨g, 0, none⟩) c xs' K (T0 ++ (s, ⟨l, l.length⟩) :: T1) := by
  have hels := h.fr.els
  rw [hT] at hels
  obtain ⟨x0, a, y, d, x1, hxs, hx0, _, ⟨ha, _⟩, _⟩ := hels.at_
  have hrow := h.fr.row
  rw [hxs, set_cell hx0, set_cell2 hx0] at row
  have hl : l.length = m2 := hO.len
  have hcap := hO.cap
  refine ⟨_, h.file hT hxs hx0 row hg ⟨ha, ⟨A2, c2, ?_, ?_, ?_⟩, none, 0, ?_, ?_, ?_⟩⟩
  · simp only; rw [hl]
  · simp only
    rw [hl, List.take_of_length_le (by omega)]
    exact (Lies.of_own hO hU).row hrow (by exact hg) (by decide)
  · simp only; rw [hl]; exact hcap
  · simp only; rw [Nat.sub_self]
  · simp only; rw [Nat.sub_self, List.drop_length]; exact Lies.nil _ _ _
  · simp only; omega
end
section
variable {U : Foot} {r : Nat}
set_option maxHeartbeats 2000000 in
theorem rSync_any (W : World) (S : DS) (s : List UInt8) (h : RefD W U r S) (hc : S.k.calls < 1000000) (hs : s.length ≤ 1000) (hU : Up U W) :
    Calls Try.prog 64 #[.pointer (some ⟨r, 0, none⟩), encStr s] W fun e W' => e = .returned (.int .i64 (S.sync s).1) ∧ RefD W' U r (S.sync s).2 ∧ Out U W W' := by
  have hwf' := h.1.sync (s := s) hc
  obtain ⟨h0, A, c, xs, h⟩ := h
  have hfew := h0.t.few
  have hris := h0.t.ris
  have hroom := h0.k.room
  have hfit := h0.t.fit
  obtain ⟨K, T⟩ := S
  simp only at h h0 hc hfew hris hroom hfit
  have fin : ∀ {W' : World} {A : Option Addr} {c : Nat} {xs : List Value} {q : Int × DS}, DS.sync ⟨K, T⟩ s = q → RefAt W' U r A c xs q.2.k q.2.t → RefD W' U r (DS.sync ⟨K, T⟩ s).2 := fun e h1 => .of hwf' (by rw [e]; exact h1)
  refine calls_vc Try.func64 rfl (by kernel_rfl) ?_
  ((conv => whnf); (repeat ((first | (refine VL.cons ?_) | (refine VL.nil ?_) | (refine VC.seqS rfl ?_) | (refine VC.region ?_)); (conv => whnf))))
  ((repeat ((first | (refine VL.cons ?_) | (refine VC.seqS rfl ?_) | (refine VC.region ?_) | (refine VC.seq ?_)); (conv => whnf))))
  refine VCall.of (rCall_at W h h0.k) ?_
  rintro e W1 ⟨rfl, h1, hg1⟩
  have hO1 := Out.grown hg1 h.hr
  refine ⟨_, rfl, ?_⟩
  obtain ⟨e1, K1, hK⟩ : ∃ e1 K1, K.call = (e1, K1) := ⟨_, _, rfl⟩
  rw [hK] at h1 ⊢
  simp only at h1 ⊢
  have c1 : e1 ≠ 0 → DS.sync ⟨K, T⟩ s = (e1, ⟨K1, T⟩) := fun h => by unfold DS.sync; rw [hK]; exact if_pos h
  have c2 : e1 = 0 → ¬ nameOk s → DS.sync ⟨K, T⟩ s = (1, ⟨K1, T⟩) := fun h h' => by unfold DS.sync; rw [hK, if_neg (not_not_intro h)]; exact if_pos h'
  have c3 : e1 = 0 → nameOk s → tfind T s = none → DS.sync ⟨K, T⟩ s = (3, ⟨K1, T⟩) := fun h h' h'' => by unfold DS.sync; rw [hK, if_neg (not_not_intro h), if_neg (not_not_intro h'), h'']
  have c4 : ∀ f, e1 = 0 → nameOk s → tfind T s = some f → DS.sync ⟨K, T⟩ s = (0, ⟨K1, tset T s ⟨f.b, f.b.length⟩⟩) := fun f h h' h'' => by unfold DS.sync; rw [hK, if_neg (not_not_intro h), if_neg (not_not_intro h'), h'']
  by_cases he : e1 = 0
  case neg =>
    ((conv => whnf); (repeat ((first | (refine VL.cons ?_) | (refine VL.nil ?_) | (refine VC.seqS rfl ?_) | (refine VC.region ?_) | (refine VC.cond ?_)); (conv => whnf))))
    ((repeat ((first | (refine VL.cons ?_) | (refine VL.nil ?_) | (refine VC.seqS rfl ?_) | (refine VC.region ?_) | (refine VC.ret ?_) | (refine VBool.nF (by omega) ?_)); (conv => whnf))))
    exact ⟨by rw [c1 he]; rfl, fin (c1 he) h1, hO1⟩
  subst he
  ((conv => whnf); (repeat ((first | (refine VL.cons ?_) | (refine VL.nil ?_) | (refine VC.seqS rfl ?_) | (refine VC.region ?_) | (refine VC.cond ?_)); (conv => whnf))))
  ((repeat ((first | (refine VL.cons ?_) | (refine VC.seqS rfl ?_) | (refine VC.region ?_) | (refine VC.skip ?_) | (refine VBool.f ?_) | (refine VC.seq ?_)); (conv => whnf))))
  refine VCall.of (rNamed_any W1 s hs) ?_
  rintro e W1' ⟨rfl, eW⟩
  obtain rfl := eW.symm
  refine ⟨_, rfl, ?_⟩
  by_cases hn : nameOk s
  case neg =>
    rw [decide_eq_false hn]
    ((conv => whnf); (repeat ((first | (refine VL.cons ?_) | (refine VL.nil ?_) | (refine VC.cond ?_)); (conv => whnf))))
    ((repeat ((first | (refine VL.cons ?_) | (refine VL.nil ?_) | (refine VC.seqS rfl ?_) | (refine VC.region ?_) | (refine VC.ret ?_) | (refine VBool.t ?_)); (conv => whnf))))
    exact ⟨by rw [c2 rfl hn]; rfl, fin (c2 rfl hn) h1, hO1⟩
  rw [decide_eq_true hn]
  ((conv => whnf); (repeat ((first | (refine VL.cons ?_) | (refine VL.nil ?_) | (refine VC.cond ?_)); (conv => whnf))))
  ((repeat ((first | (refine VL.cons ?_) | (refine VC.seqS rfl ?_) | (refine VC.region ?_) | (refine VC.skip ?_) | (refine VBool.f ?_)); (conv => whnf))))
  refine VCall.of (rFind_at W1 s h1 hris (by omega)) ?_
  rintro e W1' ⟨⟨k, rfl, hst⟩, eW⟩
  obtain rfl := eW.symm
  refine ⟨_, rfl, ?_⟩
  rcases hst with ⟨hf, rfl⟩ | ⟨T0, f, T1, hT, hf, rfl⟩
  · have c3' := c3 rfl hn hf
    ((conv => whnf); (repeat ((first | (refine VL.cons ?_) | (refine VL.nil ?_)); (conv => whnf))))
    ((repeat ((first | (refine VL.cons ?_) | (refine VL.nil ?_) | (refine VC.seqS rfl ?_) | (refine VC.region ?_) | (refine VC.cond ?_) | (refine VC.ret ?_) | (refine VBool.t ?_) | (refine VC.seq ?_)); (conv => whnf))))
    exact ⟨by rw [c3']; rfl, fin c3' h1, hO1⟩
  · have c4' := c4 f rfl hn hf
    have hTl : T.length = T0.length + (T1.length + 1) := by rw [hT]; simp
    have hlen := len_used (T := T) (p := (s, f)) (tfind_mem hf)
    have hsu := h0.t.sure (s, f) (tfind_mem hf)
    have hb : Blk W1 r 98 #[.slice A T.length c, .int .i64 K1.room, .int .i64 K1.calls, .bool K1.armed, .int .i64 K1.kind, .int .i64 K1.after, .bool K1.off] := h1.blk
    obtain ⟨g, As, cs, Ap, cp, rfl, hgl, d0, d1, d2, hls, hlp, hcs, hcp⟩ := rCell h1.fr hT
    simp only at hlen hsu d1 d2 hls hlp hcs hcp
    have hS : Below W1.heap.size W1 (W1.drewN 1) := below_drewN (Below.refl _ _) 1
    have kB : ∀ X, Below W1.heap.size W1 X → Blk X r 98 #[.slice (some ⟨g, 0, none⟩) T.length c, .int .i64 K1.room, .int .i64 K1.calls, .bool K1.armed, .int .i64 K1.kind, .int .i64 K1.after, .bool K1.off] := fun X hX => hb.below hX hb.lt
    have kc : ∀ {j : Nat} {v : Value}, W1.cell? (((⟨g, 0, none⟩ : Addr).add (T0.length * 3)).add j) = some v → ∀ X, Below W1.heap.size W1 X → X.cell? (((⟨g, 0, none⟩ : Addr).add (T0.length * 3)).add j) = some v := fun h X hX => by rw [hX.cell (by rw [add_blk, add_blk]; exact hgl)]; exact h
    ((conv => whnf); (repeat ((first | (refine VL.cons ?_) | (refine VL.nil ?_)); (conv => whnf))))
    ((repeat ((first | (refine VL.cons ?_) | (refine VL.nil ?_) | (refine VC.seqS rfl ?_) | (refine VC.region ?_) | (refine VC.draw ?_) | (refine VC.cond ?_) | (refine VC.skip ?_) | (refine VBool.f ?_) | (refine VC.seq ?_)); (conv => whnf))))
    refine VDraw.lasts (fun X => Below W1.heap.size W1 X) [([0, 1, 2, 3, 4, 5, 6, 7, 8, 9, 10, 11, 12, 14, 15, 16, 17, 18, 19, 20, 21], 13), ([], 22)] [23, 24] 25 (by kernel_rfl) (by kernel_rfl) hS ?_
    (conv => whnf)
    (repeat ((first | (refine VRead.loadBS kB rfl rfl ?_) | (refine VRead.atK (by omega) ?_) | (refine VRead.load (kc d1) ?_) | (refine VRead.load (kc d2) ?_) | (refine VQ.cons ?_) | (refine VQ.nil ?_) | (refine VE.cons ?_) | (refine VRead.fld ?_)); (conv => whnf)))
    refine VSem.appO (Own.nil (W1.drewN 1) W1.heap.size) (hls.below hS (Nat.le_refl _)).1 (by omega) (Nat.le_refl _) ?_
    intro A' k' W2 hO2 _ hB2
    rw [Nat.zero_add, List.nil_append] at hO2
    rw [Nat.zero_add]
    have hS2 := hS.trans hB2
    (conv => whnf)
    refine Keep.mk hS2 ?_
    (conv => whnf)
    (repeat ((first | (refine VQ.nil ?_) | (refine VE.cons ?_)); (conv => whnf)))
    refine VSem.appO hO2 (hlp.below hS2 (Nat.le_refl _)).1 (by omega) hS2.size ?_
    intro A3 k3 W3 hO3 _ hB3
    rw [List.take_append_drop] at hO3
    have e : f.sure + (f.b.length - f.sure) = f.b.length := by omega
    rw [e] at hO3 ⊢
    have hS3 := hS2.trans hB3
    have h3 := h1.below hS3 (Nat.le_refl _)
    (conv => whnf)
    refine Keep.mk hS3 ?_
    (conv => whnf)
    (repeat ((first | (refine VRead.atK (by omega) ?_) | (refine VQ.cons ?_) | (refine VQ.nil ?_) | (refine VE.nil ?_) | (refine VRead.fld ?_)); (conv => whnf)))
    refine VUnit.storeRw h3.fr.row (j := T0.length * 3 + 1) (by rw [add0]; rfl) (by omega) rfl ?_
    intro W4 row4 hg4
    have hb4 : Blk W4 r 98 #[.slice (some ⟨g, 0, none⟩) T.length c, .int .i64 K1.room, .int .i64 K1.calls, .bool K1.armed, .int .i64 K1.kind, .int .i64 K1.after, .bool K1.off] := (kB W3 hS3).grown hg4 (fun e => by
      obtain ⟨_, cs, hc⟩ := row_cells h3.fr.row g rfl
      have e := Option.some.inj e
      subst e
      have hb' := kB W3 hS3
      unfold Blk at hb'
      rw [hc] at hb'
      injection hb' with hb'
      injection hb' with _ h2 _
      exact absurd h2 (by decide))
    (conv => whnf)
    refine Keep.mk trivial ?_
    (conv => whnf)
    (repeat (first | ((first | (refine VL.cons ?_) | (refine VC.seqS rfl ?_) | (refine VC.region ?_) | (refine VRead.fld ?_)); (conv => whnf)) | (refine VRead.loadB hb4 rfl rfl ?_; (conv => whnf)) | (refine VRead.atK (by omega) ?_; (conv => whnf))))
    refine VUnit.storeRw row4 (j := T0.length * 3 + 2) (by rw [add0]; rfl) (by omega) rfl ?_
    intro W5 row5 hg5
    ((conv => whnf); (repeat ((first | (refine VL.cons ?_) | (refine VL.nil ?_) | (refine VC.seqS rfl ?_) | (refine VC.region ?_) | (refine VC.ret ?_)); (conv => whnf))))
    ((repeat ((fail); (conv => whnf))))
    have hg : W3.grownBy W5 (some g) := only_trans hg4 hg5
    obtain ⟨xs5, h5⟩ := h3.made hT row5 hg hO3 (fun j hj => hU j (Nat.le_trans hO1.size hj))
    refine ⟨by rw [c4']; rfl, fin (A := some ⟨g, 0, none⟩) (c := c) (xs := xs5) c4' ?_, hO1.trans ((Out.new hS3).trans (Out.grown hg (h3.fr.foot g rfl)))⟩
    simp only
    rw [hT, tset_old (by rw [← hT]; exact hris)]
    exact h5
end
end Go.Proofs.Ytebeidnmplnlpaa
end

section
set_option maxRecDepth 10000
namespace Go.Proofs.Ytebeidnmplnlpaa
set_option linter.unusedVariables false
open Go.RowKit

theorem RefAt.other {W W' : World} {r c g : Nat} {A : Option Addr} {K : Dk} {T : PT} {B k n : Nat} {v : Value} {ys : List Value} (hb : Blk W r 98 (rC K A T.length c)) (row : W.ownsRow B 100 k v n ys) (hv : v.ownBlock = some g) (hg : W.grownBy W' (some g)) : Blk W' r 98 (rC K A T.length c) := hb.grown hg (fun e => by
  obtain ⟨_, cs, hc⟩ := row_cells row g hv
  have e := Option.some.inj e
  subst e
  have hb' := hb
  unfold Blk at hb'
  rw [hc] at hb'
  injection hb' with hb'
  injection hb' with _ h2 _
  exact absurd h2 (by decide))
section
variable {U : Foot} {r : Nat}
set_option maxHeartbeats 4000000 in
theorem rAppend_any (W : World) (S : DS) (s : List UInt8) (n k : Nat) (Ab : Option Addr) (b : List UInt8) (h : RefD W U r S) (hc : S.k.calls < 1000000) (hs : s.length ≤ 1000) (hr : Src W U Ab n b) (hn : n ≤ 140737488351232) (hnk : n ≤ k) (hU : Up U W) :
    Calls Try.prog 63 #[.pointer (some ⟨r, 0, none⟩), encStr s, .slice Ab n k] W fun e W' => e = .returned (.int .i64 (S.append s b).1) ∧ RefD W' U r (S.append s b).2 ∧ Out U W W' := by
  have hwf' := h.1.append (s := s) (b := b) hc
  have hbl := hr.len
  obtain ⟨h0, A, c, xs, h⟩ := h
  have hfew := h0.t.few
  have hris := h0.t.ris
  have hroom := h0.k.room
  have hfit := h0.t.fit
  have hoff0 : S.k.off = S.k.off := rfl
  have hwf1 := h0.call hc
  obtain ⟨K, T⟩ := S
  simp only at h h0 hc hfew hris hroom hfit hwf1
  have fin : ∀ {W' : World} {A : Option Addr} {c : Nat} {xs : List Value} {q : Int × DS}, DS.append ⟨K, T⟩ s b = q → RefAt W' U r A c xs q.2.k q.2.t → RefD W' U r (DS.append ⟨K, T⟩ s b).2 := fun e h1 => .of hwf' (by rw [e]; exact h1)
  have hbK : Blk W r 98 #[.slice A T.length c, .int .i64 K.room, .int .i64 K.calls, .bool K.armed, .int .i64 K.kind, .int .i64 K.after, .bool K.off] := h.blk
  refine calls_vc Try.func63 rfl (by kernel_rfl) ?_
  ((conv => whnf); (repeat ((first | (refine VL.cons ?_) | (refine VL.nil ?_) | (refine VC.seqS rfl ?_) | (refine VC.region ?_)); (conv => whnf))))
  (repeat (first | ((first | (refine VL.cons ?_) | (refine VL.nil ?_) | (refine VC.seqS rfl ?_) | (refine VC.region ?_) | (refine VRead.fld ?_)); (conv => whnf)) | (refine VRead.loadB hbK rfl rfl ?_; (conv => whnf))))
  refine VCall.of (rCall_at W h h0.k) ?_
  rintro e W1 ⟨rfl, h1, hg1⟩
  have hO1 := Out.grown hg1 h.hr
  have hr1 := hr.blk h.blk h.hr hg1 (by decide)
  refine ⟨_, rfl, ?_⟩
  obtain ⟨e1, K1, hK⟩ : ∃ e1 K1, K.call = (e1, K1) := ⟨_, _, rfl⟩
  have hrm : K1.room = K.room := by have := Dk.call_room K; rw [hK] at this; exact this
  rw [hK] at h1 hwf1 ⊢
  simp only at h1 hwf1 ⊢
  ((conv => whnf); (repeat ((first | (refine VL.cons ?_) | (refine VL.nil ?_) | (refine VC.seqS rfl ?_) | (refine VC.region ?_)); (conv => whnf))))
  ((repeat ((fail); (conv => whnf))))
  refine VCall.of (rFind_at W1 s h1 hris (by omega)) ?_
  rintro e W1' ⟨⟨p, rfl, hst⟩, eW⟩
  obtain rfl := eW.symm
  refine ⟨_, rfl, ?_⟩
  have hb : Blk W1 r 98 #[.slice A T.length c, .int .i64 K1.room, .int .i64 K1.calls, .bool K1.armed, .int .i64 K1.kind, .int .i64 K1.after, .bool K1.off] := h1.blk
  have hS : Below W1.heap.size W1 (W1.drewN 1) := below_drewN (Below.refl _ _) 1
  have kB : ∀ X, Below W1.heap.size W1 X → Blk X r 98 #[.slice A T.length c, .int .i64 K1.room, .int .i64 K1.calls, .bool K1.armed, .int .i64 K1.kind, .int .i64 K1.after, .bool K1.off] := fun X hX => hb.below hX hb.lt
  have hrU : ∀ X, Below W1.heap.size W1 X → Calls Try.prog 101 #[.pointer (some ⟨r, 0, none⟩)] X fun e W' => e = .returned (.int .i64 (used T : Int)) ∧ Below X.heap.size X W' := fun X hX =>
    rUsed_at X (h1.below hX (Nat.le_refl _)) (by omega) (by have := hwf1.t; simpa using this)
  by_cases he : e1 = 0
  · subst he
    have a2 : ¬ nameOk s → DS.append ⟨K, T⟩ s b = (1, ⟨K1, T⟩) := fun h' => by unfold DS.append; rw [hK, if_neg (by simp)]; exact if_pos h'
    have a3 : nameOk s → tfind T s = none → DS.append ⟨K, T⟩ s b = (3, ⟨K1, T⟩) := fun h' h'' => by unfold DS.append; rw [hK, if_neg (by simp), if_neg (not_not_intro h'), h'']
    have a4 : ∀ f, nameOk s → tfind T s = some f → DS.append ⟨K, T⟩ s b = DS.put ⟨K1, T⟩ s f b := fun f h' h'' => by unfold DS.append; rw [hK, if_neg (by simp), if_neg (not_not_intro h'), h'']
    ((conv => whnf); (repeat ((first | (refine VL.cons ?_) | (refine VL.nil ?_)); (conv => whnf))))
    ((repeat ((first | (refine VL.cons ?_) | (refine VL.nil ?_) | (refine VC.seqS rfl ?_) | (refine VC.region ?_) | (refine VC.cond ?_) | (refine VC.skip ?_) | (refine VBool.f ?_) | (refine VC.seq ?_)); (conv => whnf))))
    refine VCall.of (rNamed_any W1 s hs) ?_
    rintro e W1' ⟨rfl, eW⟩
    obtain rfl := eW.symm
    refine ⟨_, rfl, ?_⟩
    by_cases hnm : nameOk s
    case neg =>
      rw [decide_eq_false hnm]
      ((conv => whnf); (repeat ((first | (refine VL.cons ?_) | (refine VL.nil ?_) | (refine VC.cond ?_)); (conv => whnf))))
      ((repeat ((first | (refine VL.cons ?_) | (refine VL.nil ?_) | (refine VC.seqS rfl ?_) | (refine VC.region ?_) | (refine VC.ret ?_) | (refine VBool.t ?_)); (conv => whnf))))
      exact ⟨by rw [a2 hnm]; rfl, fin (a2 hnm) h1, hO1⟩
    rw [decide_eq_true hnm]
    rcases hst with ⟨hf, rfl⟩ | ⟨T0, f, T1, hT, hf, rfl⟩
    · have a3' := a3 hnm hf
      ((conv => whnf); (repeat ((first | (refine VL.cons ?_) | (refine VL.nil ?_) | (refine VC.cond ?_)); (conv => whnf))))
      ((repeat ((first | (refine VL.cons ?_) | (refine VL.nil ?_) | (refine VC.seqS rfl ?_) | (refine VC.region ?_) | (refine VC.cond ?_) | (refine VC.ret ?_) | (refine VC.skip ?_) | (refine VBool.t ?_) | (refine VBool.f ?_) | (refine VC.seq ?_)); (conv => whnf))))
      exact ⟨by rw [a3']; rfl, fin a3' h1, hO1⟩
    have a4' := a4 f hnm hf
    have hTl : T.length = T0.length + (T1.length + 1) := by rw [hT]; simp
    have hlen := len_used (T := T) (p := (s, f)) (tfind_mem hf)
    have hsu := h0.t.sure (s, f) (tfind_mem hf)
    simp only at hlen hsu
    ((conv => whnf); (repeat ((first | (refine VL.cons ?_) | (refine VL.nil ?_) | (refine VC.cond ?_)); (conv => whnf))))
    ((repeat ((first | (refine VL.cons ?_) | (refine VL.nil ?_) | (refine VC.seqS rfl ?_) | (refine VC.region ?_) | (refine VC.draw ?_) | (refine VC.cond ?_) | (refine VC.skip ?_) | (refine VBool.f ?_) | (refine VC.seq ?_)); (conv => whnf))))
    refine VDraw.seg (fun X => Below W1.heap.size W1 X) [([0, 1, 2, 3, 4, 5, 6], 7)] [8, 9] (by kernel_rfl) (by kernel_rfl) hS ?_
    (conv => whnf)
    (repeat ((first | (refine VRead.loadBS kB rfl rfl ?_) | (refine VQ.cons ?_) | (refine VQ.nil ?_) | (refine VG.cons ?_) | (refine VRead.lenS ?_) | (refine VRead.fld ?_)); (conv => whnf)))
    refine VCall.of (hrU _ hS) ?_
    rintro e W2 ⟨rfl, hB2⟩
    refine ⟨_, rfl, ?_⟩
    have hS2 : Below W1.heap.size W1 W2 := hS.trans hB2
    (conv => whnf)
    refine Keep.mk hS2 ?_
    (conv => whnf)
    by_cases hbig : K1.room < (used T : Int) + b.length
    · have a5 : DS.append ⟨K, T⟩ s b = (18, ⟨K1, T⟩) := by rw [a4']; unfold DS.put; exact if_pos hbig
      ((repeat ((first | (refine VL.cons ?_) | (refine VL.nil ?_) | (refine VC.seqS rfl ?_) | (refine VC.region ?_) | (refine VC.cond ?_) | (refine VC.ret ?_) | (refine VQ.cons ?_) | (refine VQ.nil ?_) | (refine VG.nil ?_) | (refine VBool.dT (by omega) ?_) | (refine VWrap.i64 (by omega) (by omega) ?_)); (conv => whnf))))
      exact ⟨by rw [a5]; rfl, fin a5 (h1.below hS2 (Nat.le_refl _)), hO1.trans (Out.new hS2)⟩
    have a5 : DS.append ⟨K, T⟩ s b = (0, ⟨K1, tset T s ⟨f.b ++ b, f.sure⟩⟩) := by rw [a4']; unfold DS.put; exact if_neg hbig
    have h2 := h1.below hS2 (Nat.le_refl _)
    have hr2 := (hr1.1.below hS2).more hS2.size
    obtain ⟨g, As, cs, Ap, cp, rfl, hgl, d0, d1, d2, hls, hlp, hcs, hcp⟩ := rCell h2.fr hT
    simp only at d1 d2 hls hlp hcs hcp
    have hT2 : Below W2.heap.size W2 (W2.drewN 1) := below_drewN (Below.refl _ _) 1
    have kB2 : ∀ X, Below W2.heap.size W2 X → Blk X r 98 #[.slice (some ⟨g, 0, none⟩) T.length c, .int .i64 K1.room, .int .i64 K1.calls, .bool K1.armed, .int .i64 K1.kind, .int .i64 K1.after, .bool K1.off] := fun X hX => h2.blk.below hX h2.blk.lt
    have kc : ∀ {j : Nat} {v : Value}, W2.cell? (((⟨g, 0, none⟩ : Addr).add (T0.length * 3)).add j) = some v → ∀ X, Below W2.heap.size W2 X → X.cell? (((⟨g, 0, none⟩ : Addr).add (T0.length * 3)).add j) = some v := fun h X hX => by rw [hX.cell (by rw [add_blk, add_blk]; exact hgl)]; exact h
    ((repeat ((first | (refine VC.draw ?_) | (refine VC.cond ?_) | (refine VC.skip ?_) | (refine VQ.cons ?_) | (refine VQ.nil ?_) | (refine VG.nil ?_) | (refine VBool.dF (by omega) ?_) | (refine VWrap.i64 (by omega) (by omega) ?_) | (refine VC.seq ?_)); (conv => whnf))))
    refine VDraw.lasts (fun X => Below W2.heap.size W2 X) [([0, 1, 2, 3, 4, 5, 6, 7, 8, 9, 10, 11, 12, 14], 13), ([], 15)] [16, 17] 18 (by kernel_rfl) (by kernel_rfl) hT2 ?_
    (conv => whnf)
    (repeat ((first | (refine VRead.loadBS kB2 rfl rfl ?_) | (refine VRead.atK (by omega) ?_) | (refine VRead.load (kc d2) ?_) | (refine VQ.cons ?_) | (refine VQ.nil ?_) | (refine VE.cons ?_) | (refine VRead.fld ?_)); (conv => whnf)))
    refine VSem.appO (Own.nil (W2.drewN 1) W2.heap.size) (hlp.below hT2 (Nat.le_refl _)).1 (by omega) (Nat.le_refl _) ?_
    intro A' k' W3 hO3 _ hB3
    rw [Nat.zero_add, List.nil_append] at hO3
    rw [Nat.zero_add]
    have hT3 := hT2.trans hB3
    (conv => whnf)
    refine Keep.mk hT3 ?_
    (conv => whnf)
    (repeat ((first | (refine VQ.nil ?_) | (refine VE.cons ?_)); (conv => whnf)))
    refine VSem.appO hO3 (hr2.below hT3) (by omega) hT3.size ?_
    intro A4 k4 W4 hO4 _ hB4
    have hT4 := hT3.trans hB4
    have h4 := h2.below hT4 (Nat.le_refl _)
    (conv => whnf)
    refine Keep.mk hT4 ?_
    (conv => whnf)
    (repeat ((first | (refine VRead.atK (by omega) ?_) | (refine VQ.cons ?_) | (refine VQ.nil ?_) | (refine VE.nil ?_) | (refine VRead.fld ?_)); (conv => whnf)))
    refine VUnit.storeRw h4.fr.row (j := T0.length * 3 + 2) (by rw [add0]; rfl) (by omega) rfl ?_
    intro W5 row5 hg5
    (conv => whnf)
    refine Keep.mk trivial ?_
    (conv => whnf)
    ((repeat ((first | (refine VL.cons ?_) | (refine VL.nil ?_) | (refine VC.seqS rfl ?_) | (refine VC.region ?_) | (refine VC.ret ?_)); (conv => whnf))))
    obtain ⟨xs5, h5⟩ := h4.pend hT hsu row5 hg5 hO4 (fun j hj => hU j (Nat.le_trans hO1.size (Nat.le_trans hS2.size hj)))
    refine ⟨by rw [a5]; rfl, fin (A := some ⟨g, 0, none⟩) (c := c) (xs := xs5) a5 ?_, hO1.trans ((Out.new hS2).trans ((Out.new hT4).trans (Out.grown hg5 (h4.fr.foot g rfl))))⟩
    simp only
    rw [hT, tset_old (by rw [← hT]; exact hris)]
    exact h5
  · have ea0 : ¬ (K.off = false ∧ nameOk s) → DS.append ⟨K, T⟩ s b = (e1, ⟨K1, T⟩) := fun h => by unfold DS.append; rw [hK, if_pos he]; simp only; rw [if_neg h]
    have ea1 : (K.off = false ∧ nameOk s) → DS.append ⟨K, T⟩ s b = (e1, match tfind T s with | some f => (DS.put ⟨K1, T⟩ s f (b.take (b.length / 2))).2 | none => ⟨K1, T⟩) := fun h => by unfold DS.append; rw [hK, if_pos he]; simp only; rw [if_pos h]; rfl
    have hq : ((n : Int) / 2) = ((n / 2 : Nat) : Int) := by omega
    cases hoff : K.off with
    | true =>
      replace ea0 := ea0 (by rw [hoff]; simp)
      ((conv => whnf); (repeat ((first | (refine VL.cons ?_) | (refine VL.nil ?_)); (conv => whnf))))
      ((repeat ((first | (refine VL.cons ?_) | (refine VL.nil ?_) | (refine VC.seqS rfl ?_) | (refine VC.region ?_) | (refine VC.cond ?_) | (refine VBool.nF (by omega) ?_) | (refine VRead.lenS ?_) | (refine VC.seq ?_)); (conv => whnf))))
      refine VRead.quo64 (by omega) (by omega) (by omega) ?_
      ((conv => whnf); (repeat ((first | (refine VL.cons ?_) | (refine VL.nil ?_)); (conv => whnf))))
      ((repeat ((first | (refine VC.draw ?_) | (refine VC.seq ?_)); (conv => whnf))))
      refine VDraw.seg (fun X => Below W1.heap.size W1 X) [([0, 1, 2, 3, 4, 5, 6, 7, 8, 9, 10, 11, 12], 13)] [14, 15, 16] (by kernel_rfl) (by kernel_rfl) hS ?_
      (conv => whnf)
      ((repeat ((first | (refine VL.cons ?_) | (refine VL.nil ?_) | (refine VC.seqS rfl ?_) | (refine VC.region ?_) | (refine VC.cond ?_) | (refine VC.ret ?_) | (refine VC.skip ?_) | (refine VQ.cons ?_) | (refine VQ.nil ?_) | (refine VG.nil ?_) | (refine VG.cons ?_) | (refine VBool.f ?_)); (conv => whnf))))
      exact ⟨by rw [ea0]; rfl, fin ea0 (h1.below hS (Nat.le_refl _)), hO1.trans (Out.new hS)⟩
    | false =>
      rcases hst with ⟨hf, rfl⟩ | ⟨T0, f, T1, hT, hf, rfl⟩
      · have ea : DS.append ⟨K, T⟩ s b = (e1, ⟨K1, T⟩) := by
          by_cases hnm : nameOk s
          · rw [ea1 ⟨hoff, hnm⟩, hf]
          · exact ea0 (fun h => hnm h.2)
        ((conv => whnf); (repeat ((first | (refine VL.cons ?_) | (refine VL.nil ?_)); (conv => whnf))))
        ((repeat ((first | (refine VL.cons ?_) | (refine VL.nil ?_) | (refine VC.seqS rfl ?_) | (refine VC.region ?_) | (refine VC.cond ?_) | (refine VBool.nF (by omega) ?_) | (refine VRead.lenS ?_) | (refine VC.seq ?_)); (conv => whnf))))
        refine VRead.quo64 (by omega) (by omega) (by omega) ?_
        ((conv => whnf); (repeat ((first | (refine VL.cons ?_) | (refine VL.nil ?_)); (conv => whnf))))
        ((repeat ((first | (refine VC.draw ?_) | (refine VC.seq ?_)); (conv => whnf))))
        refine VDraw.seg (fun X => Below W1.heap.size W1 X) [([0, 1, 2, 3, 4, 5, 6, 7, 8, 9, 10, 11, 12], 13)] [14, 15, 16] (by kernel_rfl) (by kernel_rfl) hS ?_
        (conv => whnf)
        ((repeat ((first | (refine VL.cons ?_) | (refine VL.nil ?_) | (refine VC.seqS rfl ?_) | (refine VC.region ?_) | (refine VC.cond ?_) | (refine VC.ret ?_) | (refine VC.skip ?_) | (refine VQ.cons ?_) | (refine VQ.nil ?_) | (refine VG.nil ?_) | (refine VG.cons ?_) | (refine VBool.t ?_) | (refine VBool.f ?_)); (conv => whnf))))
        exact ⟨by rw [ea]; rfl, fin ea (h1.below hS (Nat.le_refl _)), hO1.trans (Out.new hS)⟩
      have hnm : nameOk s := h0.t.names (s, f) (tfind_mem hf)
      replace ea1 := ea1 ⟨hoff, hnm⟩
      rw [hf] at ea1
      simp only at ea1
      have htl : (b.take (b.length / 2)).length = n / 2 := by rw [List.length_take]; omega
      have hTl : T.length = T0.length + (T1.length + 1) := by rw [hT]; simp
      have hlen := len_used (T := T) (p := (s, f)) (tfind_mem hf)
      have hsu := h0.t.sure (s, f) (tfind_mem hf)
      simp only at hlen hsu
      ((conv => whnf); (repeat ((first | (refine VL.cons ?_) | (refine VL.nil ?_)); (conv => whnf))))
      ((repeat ((first | (refine VL.cons ?_) | (refine VL.nil ?_) | (refine VC.seqS rfl ?_) | (refine VC.region ?_) | (refine VC.cond ?_) | (refine VBool.nF (by omega) ?_) | (refine VRead.lenS ?_) | (refine VC.seq ?_)); (conv => whnf))))
      refine VRead.quo64 (by omega) (by omega) (by omega) ?_
      rw [hq]
      ((conv => whnf); (repeat ((first | (refine VL.cons ?_) | (refine VL.nil ?_)); (conv => whnf))))
      ((repeat ((first | (refine VC.draw ?_) | (refine VC.seq ?_)); (conv => whnf))))
      refine VDraw.seg (fun X => Below W1.heap.size W1 X) [([0, 1, 2, 3, 4, 5, 6, 7, 8, 9, 10, 11, 12], 13)] [14, 15, 16] (by kernel_rfl) (by kernel_rfl) hS ?_
      (conv => whnf)
      (repeat ((first | (refine VRead.loadBS kB rfl rfl ?_) | (refine VQ.cons ?_) | (refine VQ.nil ?_) | (refine VG.cons ?_) | (refine VBool.t ?_) | (refine VRead.fld ?_)); (conv => whnf)))
      refine VCall.of (hrU _ hS) ?_
      rintro e W2 ⟨rfl, hB2⟩
      refine ⟨_, rfl, ?_⟩
      have hS2 : Below W1.heap.size W1 W2 := hS.trans hB2
      (conv => whnf)
      refine Keep.mk hS2 ?_
      (conv => whnf)
      by_cases hbig : K1.room < (used T : Int) + (b.take (b.length / 2)).length
      · have a5 : DS.append ⟨K, T⟩ s b = (e1, ⟨K1, T⟩) := by rw [ea1]; unfold DS.put; rw [if_pos hbig]
        ((repeat ((first | (refine VL.cons ?_) | (refine VL.nil ?_) | (refine VC.seqS rfl ?_) | (refine VC.region ?_) | (refine VC.cond ?_) | (refine VC.ret ?_) | (refine VC.skip ?_) | (refine VQ.cons ?_) | (refine VQ.nil ?_) | (refine VG.nil ?_) | (refine VBool.t ?_) | (refine VBool.dF (by omega) ?_) | (refine VWrap.i64 (by omega) (by omega) ?_)); (conv => whnf))))
        exact ⟨by rw [a5]; rfl, fin a5 (h1.below hS2 (Nat.le_refl _)), hO1.trans (Out.new hS2)⟩
      have a5 : DS.append ⟨K, T⟩ s b = (e1, ⟨K1, tset T s ⟨f.b ++ b.take (b.length / 2), f.sure⟩⟩) := by rw [ea1]; unfold DS.put; rw [if_neg hbig]
      have h2 := h1.below hS2 (Nat.le_refl _)
      have hr2 := (hr1.1.below hS2).more hS2.size
      obtain ⟨g, As, cs, Ap, cp, rfl, hgl, d0, d1, d2, hls, hlp, hcs, hcp⟩ := rCell h2.fr hT
      simp only at d1 d2 hls hlp hcs hcp
      have hT2 : Below W2.heap.size W2 (W2.drewN 1) := below_drewN (Below.refl _ _) 1
      have kB2 : ∀ X, Below W2.heap.size W2 X → Blk X r 98 #[.slice (some ⟨g, 0, none⟩) T.length c, .int .i64 K1.room, .int .i64 K1.calls, .bool K1.armed, .int .i64 K1.kind, .int .i64 K1.after, .bool K1.off] := fun X hX => h2.blk.below hX h2.blk.lt
      have kc : ∀ {j : Nat} {v : Value}, W2.cell? (((⟨g, 0, none⟩ : Addr).add (T0.length * 3)).add j) = some v → ∀ X, Below W2.heap.size W2 X → X.cell? (((⟨g, 0, none⟩ : Addr).add (T0.length * 3)).add j) = some v := fun h X hX => by rw [hX.cell (by rw [add_blk, add_blk]; exact hgl)]; exact h
      ((repeat ((first | (refine VC.draw ?_) | (refine VC.cond ?_) | (refine VQ.cons ?_) | (refine VQ.nil ?_) | (refine VG.nil ?_) | (refine VBool.t ?_) | (refine VBool.dT (by omega) ?_) | (refine VWrap.i64 (by omega) (by omega) ?_)); (conv => whnf))))
      refine VDraw.lasts (fun X => Below W2.heap.size W2 X) [([0, 1, 2, 3, 4, 5, 6, 7, 8, 9, 10, 11, 12, 14, 15, 16], 13), ([], 17)] [18, 19] 20 (by kernel_rfl) (by kernel_rfl) hT2 ?_
      (conv => whnf)
      (repeat ((first | (refine VRead.loadBS kB2 rfl rfl ?_) | (refine VRead.atK (by omega) ?_) | (refine VRead.load (kc d2) ?_) | (refine VQ.cons ?_) | (refine VE.cons ?_) | (refine VRead.fld ?_)); (conv => whnf)))
      refine VRead.cutRH (n / 2) hr2 rfl (by omega) hnk ?_
      intro hrh
      (conv => whnf)
      ((repeat ((first | (refine VQ.nil ?_)); (conv => whnf))))
      refine VSem.appO (Own.nil (W2.drewN 1) W2.heap.size) (hlp.below hT2 (Nat.le_refl _)).1 (by omega) (Nat.le_refl _) ?_
      intro A' k' W3 hO3 _ hB3
      rw [Nat.zero_add, List.nil_append] at hO3
      rw [Nat.zero_add]
      have hT3 := hT2.trans hB3
      (conv => whnf)
      refine Keep.mk hT3 ?_
      (conv => whnf)
      (repeat ((first | (refine VQ.nil ?_) | (refine VE.cons ?_)); (conv => whnf)))
      refine VSem.appO hO3 (hrh.below hT3) (by omega) hT3.size ?_
      intro A4 k4 W4 hO4 _ hB4
      rw [show n / 2 = b.length / 2 by rw [hbl]] at hO4 ⊢
      have hT4 := hT3.trans hB4
      have h4 := h2.below hT4 (Nat.le_refl _)
      (conv => whnf)
      refine Keep.mk hT4 ?_
      (conv => whnf)
      (repeat ((first | (refine VRead.atK (by omega) ?_) | (refine VQ.cons ?_) | (refine VQ.nil ?_) | (refine VE.nil ?_) | (refine VRead.fld ?_)); (conv => whnf)))
      refine VUnit.storeRw h4.fr.row (j := T0.length * 3 + 2) (by rw [add0]; rfl) (by omega) rfl ?_
      intro W5 row5 hg5
      (conv => whnf)
      refine Keep.mk trivial ?_
      (conv => whnf)
      ((repeat ((first | (refine VL.cons ?_) | (refine VL.nil ?_) | (refine VC.seqS rfl ?_) | (refine VC.region ?_) | (refine VC.ret ?_)); (conv => whnf))))
      obtain ⟨xs5, h5⟩ := h4.pend hT hsu row5 hg5 hO4 (fun j hj => hU j (Nat.le_trans hO1.size (Nat.le_trans hS2.size hj)))
      refine ⟨by rw [a5]; rfl, fin (A := some ⟨g, 0, none⟩) (c := c) (xs := xs5) a5 ?_, hO1.trans ((Out.new hS2).trans ((Out.new hT4).trans (Out.grown hg5 (h4.fr.foot g rfl))))⟩
      simp only
      rw [hT, tset_old (by rw [← hT]; exact hris)]
      exact h5
end
end Go.Proofs.Ytebeidnmplnlpaa
end

section
set_option maxRecDepth 10000
namespace Go.Proofs.Ytebeidnmplnlpaa
set_option linter.unusedVariables false
open Go.RowKit

theorem crashT_snoc (ps : List Int) (p : List UInt8 × Fl) : ∀ (i : Nat) (A : PT), crashT ps i (A ++ [p]) = crashT ps i A ++ [(p.1, crashF ps (i + A.length) p.2)]
  | i, [] => rfl
  | i, q :: A => by
    show _ :: crashT ps (i + 1) (A ++ [p]) = _ :: (crashT ps (i + 1) A ++ _)
    rw [crashT_snoc ps p (i + 1) A]
    simp only [List.length_cons]
    rw [show i + 1 + A.length = i + (A.length + 1) by omega]
section
variable {U : Foot} {r : Nat}
set_option maxHeartbeats 4000000 in
theorem rCrash_any (W : World) (S : DS) (n k : Nat) (Ap : Option Addr) (ps : List Int) (h : RefD W U r S) (hr : Reads W W.heap.size 1 Ap n (iv .i64 ps)) (hoff : Off U Ap n) (hn : n ≤ 1000000000000000) (hU : Up U W) :
    Calls Try.prog 32 #[.pointer (some ⟨r, 0, none⟩), .slice Ap n k] W fun e W' => e = .returned (.tuple #[]) ∧ RefD W' U r (S.crash ps) ∧ Out U W W' := by
  have hwf' := h.1.crash ps
  obtain ⟨h0, A, c, xs, h⟩ := h
  have hfew := h0.t.few
  have hroom := h0.k.room
  have hfit := h0.t.fit
  have hsure := h0.t.sure
  obtain ⟨K, T⟩ := S
  simp only at h h0 hfew hroom hfit hsure
  have hpl : ps.length = n := by have := hr.1; unfold iv at this; simp at this; omega
  have hbig : ∀ p ∈ T, p.2.b.length ≤ 16777216 := fun p hp => by have := len_used hp; omega
  refine calls_vc Try.func32 rfl (by kernel_rfl) ?_
  ((conv => whnf); (repeat ((fail); (conv => whnf))))
  ((repeat ((first | (refine VL.cons ?_) | (refine VL.nil ?_) | (refine VC.seqS rfl ?_) | (refine VC.region ?_) | (refine VC.block ?_) | (refine VC.seq ?_)); (conv => whnf))))
  refine VC.loop [4] [(4, 70)] (fun q vs w => ∃ A0 B0 : PT, vs = [.int .i64 (A0.length : Int)] ∧ q = B0.length ∧ T = A0 ++ B0 ∧ (∃ A c xs, RefAt w U r A c xs K (crashT ps 0 A0 ++ B0)) ∧ Out U W w) (by kernel_rfl)
    ⟨_, [], T, rfl, rfl, rfl, ⟨A, c, xs, h⟩, Out.refl _ W⟩ ?_
  clear h
  rintro q τ vs w ⟨A0, B0, rfl, rfl, hL, ⟨A, c, xs, hw⟩, hOw⟩
  have hLl : T.length = A0.length + B0.length := by rw [hL]; simp
  have hTw : (crashT ps 0 A0 ++ B0).length = A0.length + B0.length := by rw [List.length_append, crashT_length]
  have hb : Blk w r 98 #[.slice A (crashT ps 0 A0 ++ B0).length c, .int .i64 K.room, .int .i64 K.calls, .bool K.armed, .int .i64 K.kind, .int .i64 K.after, .bool K.off] := hw.blk
  cases B0 with
  | nil =>
    rw [List.append_nil] at hL hw
    subst hL
    rw [List.append_nil] at hb
    have hlA := crashT_length ps 0 T
    rw [hlA] at hb
    simp only [List.length_nil] at *
    ((conv => whnf); (repeat ((fail); (conv => whnf))))
    (repeat (first | ((first | (refine VL.cons ?_) | (refine VL.nil ?_) | (refine VC.seqS rfl ?_) | (refine VC.region ?_) | (refine VC.cond ?_) | (refine VC.exit ?_) | (refine VBool.dF (by omega) ?_) | (refine VRead.lenS ?_) | (refine VRead.fld ?_) | (refine VC.seq ?_)); (conv => whnf)) | (refine VRead.loadB hb rfl rfl ?_; (conv => whnf))))
    refine VUnit.storeB hb rfl rfl rfl ?_
    intro W2 hb2 hg2
    ((conv => whnf); (repeat ((first | (refine VL.cons ?_) | (refine VL.nil ?_) | (refine VC.region ?_)); (conv => whnf))))
    ((repeat ((first | (refine VL.cons ?_) | (refine VRead.fld ?_)); (conv => whnf))))
    refine VUnit.storeB hb2 rfl rfl rfl ?_
    intro W3 hb3 hg3
    ((conv => whnf); (repeat ((first | (refine VL.nil ?_)); (conv => whnf))))
    ((repeat ((fail); (conv => whnf))))
    have hg := only_trans hg2 hg3
    refine ⟨rfl, .of hwf' (A := A) (c := c) (xs := xs) (hw.own (K' := K.crash) ?_ hg), hOw.trans (Out.grown hg hw.hr)⟩
    rw [hlA]
    exact hb3
  | cons p B0 =>
    have hp : p ∈ T := by rw [hL]; simp
    have hsp := hsure p hp
    have hbp := hbig p hp
    have hrw := hr.out (Nat.le_refl _) hoff hOw
    simp only [List.length_cons] at hLl hTw
    have hka : min (max (keepAt ps A0.length) 0) ((p.2.b.length - p.2.sure : Nat) : Int) = ((keepN ps A0.length p.2 - p.2.sure : Nat) : Int) := by
      unfold keepN; omega
    obtain ⟨hk1, hk2⟩ := keepN_le (ps := ps) (i := A0.length) hsp
    have hcl : (crashT ps 0 A0).length = A0.length := crashT_length ps 0 A0
    obtain ⟨g, As, cs, Aq, cq, rfl, hgl, d0, d1, d2, hls, hlp, hcs, hcq⟩ := rCell hw.fr rfl
    rw [hcl] at d0 d1 d2
    rw [hTw] at hb
    ((conv => whnf); (repeat ((fail); (conv => whnf))))
    ((repeat ((first | (refine VL.cons ?_) | (refine VC.seqS rfl ?_) | (refine VC.region ?_) | (refine VRead.fld ?_) | (refine VC.seq ?_)); (conv => whnf))))
    refine VRead.loadB hb rfl rfl ?_
    (conv => whnf)
    (iterate 13 ((first | (refine VL.cons ?_) | (refine VL.nil ?_) | (refine VC.seqS rfl ?_) | (refine VC.region ?_) | (refine VC.cond ?_) | (refine VC.block ?_) | (refine VC.skip ?_) | (refine VBool.dT (by omega) ?_) | (refine VRead.lenS ?_) | (refine VC.seq ?_)); (conv => whnf)))
    refine VC.cut [5] [(5, 5), (15, 24)] (fun vs X => vs = [.int .i64 (keepAt ps A0.length)] ∧ X = w) (by kernel_rfl) ?_ ?_
    · by_cases h0 : n = 0
      · subst h0
        have e : keepAt ps A0.length = 0 := by unfold keepAt; rw [if_pos hpl]
        ((conv => whnf); (repeat ((first | (refine VL.cons ?_) | (refine VC.seqS rfl ?_) | (refine VC.region ?_)); (conv => whnf))))
        ((repeat ((first | (refine VL.cons ?_) | (refine VL.nil ?_) | (refine VC.cond ?_) | (refine VC.skip ?_) | (refine VBool.f ?_) | (refine VRead.lenS ?_)); (conv => whnf))))
        exact ⟨by rw [e]; rfl, rfl⟩
      · have hj : A0.length % n < n := Nat.mod_lt _ (by omega)
        obtain ⟨ap, up, rfl, hbl2, hu2, hc2⟩ := hrw.at_ hj
        have e : up = .int .i64 (keepAt ps A0.length) := by
          unfold iv at hu2
          obtain ⟨x, hx, rfl⟩ := map_at hu2
          unfold keepAt
          rw [if_neg (by omega), hpl, List.getD_eq_getElem?_getD, hx]
          rfl
        subst e
        ((conv => whnf); (repeat ((first | (refine VL.cons ?_) | (refine VC.seqS rfl ?_) | (refine VC.region ?_)); (conv => whnf))))
        (repeat (first | ((first | (refine VL.cons ?_) | (refine VL.nil ?_) | (refine VC.region ?_) | (refine VC.cond ?_) | (refine VBool.dT (by omega) ?_) | (refine VRead.lenS ?_) | (refine VRead.load1 (by assumption) ?_) | (refine VRead.at1 (by omega) ?_)); (conv => whnf)) | (refine VRead.remN (by omega) ?_; (conv => whnf))))
        exact ⟨rfl, rfl⟩
    rintro τ2 vs2 w2 ⟨rfl, rfl⟩
    have hS : Below w2.heap.size w2 (w2.drewN 1) := below_drewN (Below.refl _ _) 1
    have kB : ∀ X, Below w2.heap.size w2 X → Blk X r 98 #[.slice (some ⟨g, 0, none⟩) (A0.length + (B0.length + 1)) c, .int .i64 K.room, .int .i64 K.calls, .bool K.armed, .int .i64 K.kind, .int .i64 K.after, .bool K.off] := fun X hX => hb.below hX hb.lt
    have kc : ∀ {j : Nat} {v : Value}, w2.cell? (((⟨g, 0, none⟩ : Addr).add (A0.length * 3)).add j) = some v → ∀ X, Below w2.heap.size w2 X → X.cell? (((⟨g, 0, none⟩ : Addr).add (A0.length * 3)).add j) = some v := fun h X hX => by rw [hX.cell (by rw [add_blk, add_blk]; exact hgl)]; exact h
    ((conv => whnf); (repeat ((first | (refine VL.cons ?_) | (refine VC.seqS rfl ?_) | (refine VC.region ?_)); (conv => whnf))))
    ((repeat ((fail); (conv => whnf))))
    refine VRead.maxZ (z := max (keepAt ps A0.length) 0) (by split <;> omega) ?_
    (conv => whnf)
    (repeat (first | ((first | (refine VL.cons ?_) | (refine VRead.lenS ?_) | (refine VRead.fld ?_) | (refine VRead.load1 (by assumption) ?_)); (conv => whnf)) | (refine VRead.loadB hb rfl rfl ?_; (conv => whnf)) | (refine VRead.atK (by omega) ?_; (conv => whnf))))
    refine VRead.minZ (z := ((keepN ps A0.length p.2 - p.2.sure : Nat) : Int)) (by rw [← hka]; split <;> omega) ?_
    ((conv => whnf); (repeat ((first | (refine VL.cons ?_) | (refine VL.nil ?_)); (conv => whnf))))
    ((repeat ((first | (refine VC.draw ?_) | (refine VC.seq ?_)); (conv => whnf))))
    refine VDraw.lasts (fun X => Below w2.heap.size w2 X) [([0, 1, 2, 3, 4, 5, 6, 7, 8, 9, 10, 11, 12, 14, 15, 16, 17, 18, 19, 20, 21, 22, 23], 13), ([], 24)] [25, 26] 27 (by kernel_rfl) (by kernel_rfl) hS ?_
    (conv => whnf)
    (repeat ((first | (refine VRead.loadBS kB rfl rfl ?_) | (refine VRead.atK (by omega) ?_) | (refine VRead.load (kc d1) ?_) | (refine VRead.load (kc d2) ?_) | (refine VQ.cons ?_) | (refine VE.cons ?_) | (refine VRead.fld ?_)); (conv => whnf)))
    refine VRead.cutRH (keepN ps A0.length p.2 - p.2.sure) hlp.1 rfl (by omega) hcq ?_
    intro hrh
    (conv => whnf)
    ((repeat ((first | (refine VQ.nil ?_)); (conv => whnf))))
    refine VSem.appO (Own.nil (w2.drewN 1) w2.heap.size) (hls.below hS (Nat.le_refl _)).1 (by omega) (Nat.le_refl _) ?_
    intro A' k' W3 hO3 _ hB3
    rw [Nat.zero_add, List.nil_append] at hO3
    rw [Nat.zero_add]
    have hS3 := hS.trans hB3
    (conv => whnf)
    refine Keep.mk hS3 ?_
    (conv => whnf)
    (repeat ((first | (refine VQ.nil ?_) | (refine VE.cons ?_)); (conv => whnf)))
    refine VSem.appO hO3 (hrh.below hS3) (by omega) hS3.size ?_
    intro A4 k4 W4 hO4 _ hB4
    have e : p.2.sure + (keepN ps A0.length p.2 - p.2.sure) = keepN ps A0.length p.2 := by omega
    have e2 : p.2.b.take p.2.sure ++ (p.2.b.drop p.2.sure).take (keepN ps A0.length p.2 - p.2.sure) = p.2.b.take (keepN ps A0.length p.2) := by
      conv => rhs; rw [← e, List.take_add]
    rw [e, e2] at hO4
    rw [e]
    have hS4 := hS3.trans hB4
    have h4 := hw.below hS4 (Nat.le_refl _)
    have row4 := h4.fr.row
    rw [hTw] at row4
    (conv => whnf)
    refine Keep.mk hS4 ?_
    (conv => whnf)
    (repeat ((first | (refine VRead.atK (by omega) ?_) | (refine VQ.cons ?_) | (refine VQ.nil ?_) | (refine VE.nil ?_) | (refine VRead.fld ?_)); (conv => whnf)))
    refine VUnit.storeRw row4 (j := A0.length * 3 + 1) (by rw [add0]; rfl) (by omega) rfl ?_
    intro W5 row5 hg5
    have hb5 : Blk W5 r 98 #[.slice (some ⟨g, 0, none⟩) (A0.length + (B0.length + 1)) c, .int .i64 K.room, .int .i64 K.calls, .bool K.armed, .int .i64 K.kind, .int .i64 K.after, .bool K.off] := by
      have := RefAt.other h4.blk row4 rfl hg5
      rw [hTw] at this
      exact this
    (conv => whnf)
    refine Keep.mk trivial ?_
    (conv => whnf)
    (repeat (first | ((first | (refine VL.cons ?_) | (refine VC.region ?_) | (refine VRead.fld ?_)); (conv => whnf)) | (refine VRead.loadB hb5 rfl rfl ?_; (conv => whnf)) | (refine VRead.atK (by omega) ?_; (conv => whnf))))
    refine VUnit.storeRw row5 (j := A0.length * 3 + 2) (by rw [add0]; rfl) (by omega) rfl ?_
    intro W6 row6 hg6
    ((conv => whnf); (repeat ((first | (refine VL.cons ?_) | (refine VL.nil ?_) | (refine VC.region ?_)); (conv => whnf))))
    ((repeat ((first | (refine VL.cons ?_) | (refine VL.nil ?_) | (refine VWrap.i64 (by omega) (by omega) ?_)); (conv => whnf))))
    have hg : W4.grownBy W6 (some g) := only_trans hg5 hg6
    rw [← hTw] at row6
    obtain ⟨xs6, h6⟩ := h4.made rfl (by rw [hcl]; exact row6) hg hO4 (fun j hj => hU j (Nat.le_trans hOw.size hj))
    have e3 : (⟨p.2.b.take (keepN ps A0.length p.2), (p.2.b.take (keepN ps A0.length p.2)).length⟩ : Fl) = crashF ps A0.length p.2 := by
      unfold crashF
      rw [List.length_take, Nat.min_eq_left hk1]
    rw [e3] at h6
    refine ⟨_, by simp, A0 ++ [p], B0, ?_, rfl, by rw [hL]; simp, ⟨some ⟨g, 0, none⟩, c, xs6, ?_⟩, hOw.trans ((Out.new hS4).trans (Out.grown hg (h4.fr.foot g rfl)))⟩
    · simp only [List.length_append, List.length_cons, List.length_nil]; rfl
    · rw [crashT_snoc, Nat.zero_add, List.append_assoc]
      exact h6
end
end Go.Proofs.Ytebeidnmplnlpaa
end

section
set_option maxRecDepth 10000
namespace Go.Proofs.Ytebeidnmplnlpaa
set_option linter.unusedVariables false
open Go.RowKit

def Two (W : World) (B d r : Nat) (S R : DS) : Prop :=
  ∃ U V : Foot, Disk W U d S ∧ RefD W V r R ∧ (∀ j, U j → B ≤ j ∧ j < W.heap.size) ∧ (∀ j, V j → B ≤ j ∧ j < W.heap.size) ∧ ∀ j, U j → ¬ V j
/-- .. the second one off some blocks -/
def TwoE (W : World) (B d r : Nat) (S R : DS) (E : Foot) : Prop :=
  ∃ U V : Foot, Disk W U d S ∧ RefD W V r R ∧ (∀ j, U j → B ≤ j ∧ j < W.heap.size) ∧ (∀ j, V j → B ≤ j ∧ j < W.heap.size) ∧ (∀ j, U j → ¬ V j) ∧ ∀ j, V j → ¬ E j
theorem TwoE.two {W : World} {B d r : Nat} {S R : DS} {E : Foot} (h : TwoE W B d r S R E) : Two W B d r S R := by
  obtain ⟨U, V, h1, h2, h3, h4, h5, _⟩ := h
  exact ⟨U, V, h1, h2, h3, h4, h5⟩
section
variable {W W3 W4 : World} {B d r : Nat} {S R : DS}
theorem Two.below {C : Nat} (h : Two W B d r S R) (hb : Below C W W3) (hC : W.heap.size ≤ C) : Two W3 B d r S R := by
  obtain ⟨U, V, h1, h2, h3, h4, h5⟩ := h
  exact ⟨U, V, h1.below hb hC, h2.below hb hC, fun j hj => ⟨(h3 j hj).1, Nat.lt_of_lt_of_le (h3 j hj).2 hb.size⟩, fun j hj => ⟨(h4 j hj).1, Nat.lt_of_lt_of_le (h4 j hj).2 hb.size⟩, h5⟩
theorem Two.left (h : Two W3 B d r S R) (hb : Below W3.heap.size W3 W4) (hB : B ≤ W3.heap.size) : ∃ U : Foot, Disk W4 U d S ∧ Up U W4 ∧ (∀ j, U j → B ≤ j ∧ (j < W3.heap.size ∨ W4.heap.size ≤ j)) ∧
    ∀ W' S' W'', Disk W' U d S' → Out U W4 W' → W'.heap.size ≤ W''.heap.size → (∀ j, j < W'.heap.size → (j < W3.heap.size ∨ W4.heap.size ≤ j) → W''.heap[j]? = W'.heap[j]?) → TwoE W'' B d r S' R (fun j => W3.heap.size ≤ j ∧ j < W4.heap.size) := by
  obtain ⟨U, V, h1, h2, h3, h4, h5⟩ := h
  have hs := hb.size
  refine ⟨fun j => U j ∨ W4.heap.size ≤ j, (h1.more (fun j _ hj => .inl hj)).below hb (Nat.le_refl _), fun j hj => .inr hj, fun j hj => ?_, fun W' S' W'' k1 k2 k3 k4 => ?_⟩
  · rcases hj with hj | hj
    · have := h3 j hj; exact ⟨this.1, .inl this.2⟩
    · exact ⟨by omega, .inr hj⟩
  · have hs' := k2.size
    refine ⟨fun j => (U j ∨ W4.heap.size ≤ j) ∧ j < W'.heap.size, V, (k1.more (V := fun j => (U j ∨ W4.heap.size ≤ j) ∧ j < W'.heap.size) (fun j hj hu => ⟨hu, hj⟩)).stay k3 (fun j hj hu => k4 j hj ?_), h2.stay (by omega) (fun j hj hv => ?_), fun j hj => ?_, fun j hj => ?_, fun j hj hv => ?_, fun j hj he => by have := (h4 j hj).2; omega⟩
    · rcases hu.1 with hu | hu
      · exact .inl (h3 j hu).2
      · exact .inr hu
    · have hu : ¬ (U j ∨ W4.heap.size ≤ j) := fun h => by
        rcases h with h | h
        · exact h5 j h hv
        · omega
      rw [k4 j (by omega) (.inl hj), k2.block j (by omega) hu, hb.block j hj]
    · obtain ⟨hu, hl⟩ := hj
      rcases hu with hu | hu
      · exact ⟨(h3 j hu).1, by omega⟩
      · exact ⟨by omega, by omega⟩
    · have := h4 j hj; exact ⟨this.1, by omega⟩
    · rcases hj.1 with hu | hu
      · exact h5 j hu hv
      · have := (h4 j hv).2; omega
theorem Two.right (h : Two W3 B d r S R) (hB : B ≤ W3.heap.size) : ∃ V : Foot, RefD W3 V r R ∧ Up V W3 ∧ (∀ j, V j → B ≤ j) ∧ ∀ W' R', RefD W' V r R' → Out V W3 W' → Two W' B d r S R' := by
  obtain ⟨U, V, h1, h2, h3, h4, h5⟩ := h
  refine ⟨fun j => V j ∨ W3.heap.size ≤ j, h2.more (fun j _ hj => .inl hj), fun j hj => .inr hj, fun j hj => ?_, fun W' R' k1 k2 => ?_⟩
  · rcases hj with hj | hj
    · exact (h4 j hj).1
    · omega
  · have hs' := k2.size
    refine ⟨U, fun j => (V j ∨ W3.heap.size ≤ j) ∧ j < W'.heap.size, h1.stay hs' (fun j hj hu => k2.block j hj (fun h => ?_)), k1.more (fun j hj hu => ⟨hu, hj⟩), fun j hj => ⟨(h3 j hj).1, by have := (h3 j hj).2; omega⟩, fun j hj => ?_, fun j hu hj => ?_⟩
    · rcases h with h | h
      · exact h5 j hu h
      · omega
    · obtain ⟨hu, hl⟩ := hj
      rcases hu with hu | hu
      · exact ⟨(h4 j hu).1, hl⟩
      · exact ⟨by omega, hl⟩
    · rcases hj.1 with h | h
      · exact h5 j hu h
      · have := (h3 j hu).2; omega
theorem TwoE.right {E : Foot} (h : TwoE W3 B d r S R E) (hB : B ≤ W3.heap.size) (hE : ∀ j, E j → j < W3.heap.size) : ∃ V : Foot, RefD W3 V r R ∧ Up V W3 ∧ (∀ j, V j → B ≤ j) ∧ (∀ j, V j → ¬ E j) ∧ ∀ W' R', RefD W' V r R' → Out V W3 W' → Two W' B d r S R' := by
  obtain ⟨U, V, h1, h2, h3, h4, h5, h6⟩ := h
  refine ⟨fun j => V j ∨ W3.heap.size ≤ j, h2.more (fun j _ hj => .inl hj), fun j hj => .inr hj, fun j hj => ?_, fun j hj he => ?_, fun W' R' k1 k2 => ?_⟩
  · rcases hj with hj | hj
    · exact (h4 j hj).1
    · omega
  · rcases hj with hj | hj
    · exact h6 j hj he
    · have := hE j he; omega
  · have hs' := k2.size
    refine ⟨U, fun j => (V j ∨ W3.heap.size ≤ j) ∧ j < W'.heap.size, h1.stay hs' (fun j hj hu => k2.block j hj (fun h => ?_)), k1.more (fun j hj hu => ⟨hu, hj⟩), fun j hj => ⟨(h3 j hj).1, by have := (h3 j hj).2; omega⟩, fun j hj => ?_, fun j hu hj => ?_⟩
    · rcases h with h | h
      · exact h5 j hu h
      · omega
    · obtain ⟨hu, hl⟩ := hj
      rcases hu with hu | hu
      · exact ⟨(h4 j hu).1, hl⟩
      · exact ⟨by omega, hl⟩
    · rcases hj.1 with h | h
      · exact h5 j hu h
      · have := (h3 j hu).2; omega
end
def armK (b : Int) : Int := ([18, 19, 19, 1] : List Int).getD (b % 4).toNat 1
def DS.step (S : DS) (o : Op17) : Int × DS :=
  if o.kind % 8 = 0 then S.create (nm17 o.a) else if o.kind % 8 = 1 ∨ o.kind % 8 = 2 then S.append (nm17 o.a) o.data else if o.kind % 8 = 3 then S.sync (nm17 o.a)
  else if o.kind % 8 = 4 then S.rename (nm17 o.a) (nm17 o.b) else if o.kind % 8 = 5 then S.remove (nm17 o.a) else if o.kind % 8 = 6 then S.arm (armK o.b) o.n else (0, S.crash o.picks)
end Go.Proofs.Ytebeidnmplnlpaa
end

section
set_option maxRecDepth 10000
namespace Go.Proofs.Ytebeidnmplnlpaa
set_option linter.unusedVariables false
open Go.RowKit

structure Rsk (W : World) (U : Foot) (r : Nat) (S : DS) : Prop where
  ref : RefD W U r S
  lt : ∀ j, U j → j < W.heap.size
section
variable {W W' : World} {U V : Foot} {r : Nat} {S S' : DS}
theorem Rsk.wf (h : Rsk W U r S) : DWf S := h.ref.wf
theorem Rsk.below (h : Rsk W U r S) (hb : Below W.heap.size W W') : Rsk W' U r S := ⟨h.ref.below hb (Nat.le_refl _), fun j hj => Nat.lt_of_lt_of_le (h.lt j hj) hb.size⟩
theorem Rsk.apart {V' : Foot} (h : Rsk W U r S) (hs : Step W V W' V') (hn : ∀ j, U j → ¬ V j) : Rsk W' U r S ∧ ∀ j, U j → ¬ V' j :=
  ⟨⟨h.ref.stay hs.size (fun j hj hu => hs.out.block j hj (hn j hu)), fun j hj => Nat.lt_of_lt_of_le (h.lt j hj) hs.size⟩, fun j hj hv => by
    rcases hs.sub j hv with h' | h'
    · exact hn j hj h'
    · have := h.lt j hj; omega⟩
theorem Rsk.more (h : Rsk W U r S) : RefD W (grow U W) r S := h.ref.more (fun j _ hj => .inl hj)
theorem Rsk.op (h : RefD W' (grow U W) r S') (hO : Out (grow U W) W W') : ∃ U', Rsk W' U' r S' ∧ Step W U W' U' := by
  refine ⟨fun j => grow U W j ∧ j < W'.heap.size, ⟨h.more (fun j hj hu => ⟨hu, hj⟩), fun j hj => hj.2⟩, ⟨⟨hO.os, hO.tape, hO.output, hO.size, fun j hj hu => hO.block j hj (fun h' => ?_)⟩, fun j hj => hj.1⟩⟩
  rcases h' with h' | h'
  · exact hu h'
  · omega
end
theorem pNew (W : World) (room : Int) : Calls Try.prog 30 #[.int .i64 room] W fun e W' => ∃ r U, e = .returned (.pointer (some ⟨r, 0, none⟩)) ∧ Rsk W' U r (DS.new room) ∧ (∀ j, U j → W.heap.size ≤ j) ∧ Below W.heap.size W W' := by
  refine (rdNew_any W room).mono ?_
  rintro e W' ⟨r, rfl, h, hB⟩
  exact ⟨r, fun j => W.heap.size ≤ j ∧ j < W'.heap.size, rfl, ⟨h.more (fun j h1 h2 => ⟨h2, h1⟩), fun j hj => hj.2⟩, fun j hj => hj.1, hB⟩
section
variable (W : World) (U : Foot) (r : Nat) (S : DS)
theorem pCreate (s : List UInt8) (h : Rsk W U r S) (hc : S.k.calls < 1000000) (hs : s.length ≤ 1000) :
    Calls Try.prog 61 #[.pointer (some ⟨r, 0, none⟩), .string (txt s)] W fun e W' => e = .returned (.int .i64 (S.create s).1) ∧ ∃ U', Rsk W' U' r (S.create s).2 ∧ Step W U W' U' := by
  refine (rCreate_any W S s h.more hc hs (grow_up U W)).mono ?_
  rintro e W' ⟨rfl, h2, hO⟩
  exact ⟨rfl, Rsk.op h2 hO⟩
theorem pAppend (s : List UInt8) (n k : Nat) (A : Option Addr) (b : List UInt8) (h : Rsk W U r S) (hc : S.k.calls < 1000000) (hs : s.length ≤ 1000) (hr : Src W (grow U W) A n b) (hn : n ≤ 140737488351232) (hnk : n ≤ k) :
    Calls Try.prog 63 #[.pointer (some ⟨r, 0, none⟩), .string (txt s), .slice A n k] W fun e W' => e = .returned (.int .i64 (S.append s b).1) ∧ ∃ U', Rsk W' U' r (S.append s b).2 ∧ Step W U W' U' := by
  refine (rAppend_any W S s n k A b h.more hc hs hr hn hnk (grow_up U W)).mono ?_
  rintro e W' ⟨rfl, h2, hO⟩
  exact ⟨rfl, Rsk.op h2 hO⟩
theorem pSync (s : List UInt8) (h : Rsk W U r S) (hc : S.k.calls < 1000000) (hs : s.length ≤ 1000) :
    Calls Try.prog 64 #[.pointer (some ⟨r, 0, none⟩), .string (txt s)] W fun e W' => e = .returned (.int .i64 (S.sync s).1) ∧ ∃ U', Rsk W' U' r (S.sync s).2 ∧ Step W U W' U' := by
  refine (rSync_any W S s h.more hc hs (grow_up U W)).mono ?_
  rintro e W' ⟨rfl, h2, hO⟩
  exact ⟨rfl, Rsk.op h2 hO⟩
theorem pRemove (s : List UInt8) (h : Rsk W U r S) (hc : S.k.calls < 1000000) (hs : s.length ≤ 1000) :
    Calls Try.prog 67 #[.pointer (some ⟨r, 0, none⟩), .string (txt s)] W fun e W' => e = .returned (.int .i64 (S.remove s).1) ∧ ∃ U', Rsk W' U' r (S.remove s).2 ∧ Step W U W' U' := by
  refine (rRemove_any W S s h.more hc hs (grow_up U W)).mono ?_
  rintro e W' ⟨rfl, h2, hO⟩
  exact ⟨rfl, Rsk.op h2 hO⟩
theorem pRename (s t : List UInt8) (h : Rsk W U r S) (hc : S.k.calls < 1000000) (hs : s.length ≤ 1000) (ht : t.length ≤ 1000) :
    Calls Try.prog 65 #[.pointer (some ⟨r, 0, none⟩), .string (txt s), .string (txt t)] W fun e W' => e = .returned (.int .i64 (S.rename s t).1) ∧ ∃ U', Rsk W' U' r (S.rename s t).2 ∧ Step W U W' U' := by
  refine (rRename_any W S s t h.more hc hs ht (grow_up U W)).mono ?_
  rintro e W' ⟨rfl, h2, hO⟩
  exact ⟨rfl, Rsk.op h2 hO⟩
theorem pArm (kind after : Int) (h : Rsk W U r S) (ha : after ≤ 9223372036854775807) :
    Calls Try.prog 31 #[.pointer (some ⟨r, 0, none⟩), .int .i64 kind, .int .i64 after] W fun e W' => e = .returned (.int .i64 (S.arm kind after).1) ∧ ∃ U', Rsk W' U' r (S.arm kind after).2 ∧ Step W U W' U' := by
  refine (rArm_any W (grow U W) r S kind after h.more ha).mono ?_
  rintro e W' ⟨rfl, h2, hO⟩
  exact ⟨rfl, Rsk.op h2 hO⟩
theorem pCrash (n k : Nat) (A : Option Addr) (ps : List Int) (h : Rsk W U r S) (hr : Reads W W.heap.size 1 A n (iv .i64 ps)) (hoff : Off U A n) (hn : n ≤ 1000000000000000) :
    Calls Try.prog 32 #[.pointer (some ⟨r, 0, none⟩), .slice A n k] W fun e W' => e = .returned (.tuple #[]) ∧ ∃ U', Rsk W' U' r (S.crash ps) ∧ Step W U W' U' := by
  have hoff' : Off (grow U W) A n := fun h0 => by
    obtain ⟨ad, e, hu⟩ := hoff h0
    obtain ⟨ad', e', hl, _⟩ := hr.2 h0
    rw [e] at e'
    obtain rfl := Option.some.inj e'
    exact ⟨ad, e, fun h' => by
      rcases h' with h' | h'
      · exact hu h'
      · omega⟩
  refine (rCrash_any W S n k A ps h.more hr hoff' hn (grow_up U W)).mono ?_
  rintro e W' ⟨rfl, h2, hO⟩
  exact ⟨rfl, Rsk.op h2 hO⟩
theorem pList (h : Rsk W U r S) :
    Calls Try.prog 66 #[.pointer (some ⟨r, 0, none⟩)] W fun e W' => ∃ A k, e = .returned (.slice A S.t.length k) ∧ W'.ownsRow W.heap.size 9 1 (.slice A S.t.length k) S.t.length ((S.t.map (·.1)).map encStr) ∧ Below W.heap.size W W' := rList_any W h.ref
theorem pRead (s : List UInt8) (h : Rsk W U r S) :
    Calls Try.prog 70 #[.pointer (some ⟨r, 0, none⟩), .string (txt s)] W fun e W' => ∃ v, e = .returned v ∧ readR W' W.heap.size S.t s v ∧ Below W.heap.size W W' := rRead_any W s h.ref
end
end Go.Proofs.Ytebeidnmplnlpaa
end

section
set_option maxRecDepth 10000
namespace Go.Proofs.Ytebeidnmplnlpaa
set_option linter.unusedVariables false
open Go.RowKit

/-! ### plain -/
structure En where
  term : Int
  cmd : Bool
  data : List UInt8
deriving DecidableEq
def mayE (e : En) : Prop := 1 ≤ e.term ∧ e.term ≤ 1099511627776 ∧ e.data.length ≤ 1048476
instance (e : En) : Decidable (mayE e) := by unfold mayE; infer_instance
structure Kp where
  term : Int
  vote : Int
  base : Int
  bterm : Int
  es : List En
def Kp.zero : Kp := ⟨0, 0, 0, 0, []⟩
def inR (v most : Int) : Prop := 0 ≤ v ∧ v ≤ most
instance (v most : Int) : Decidable (inR v most) := by unfold inR; infer_instance
def mayK (k : Kp) : Prop := (∀ e ∈ k.es, mayE e) ∧ inR k.base 1099511627776 ∧ inR k.bterm 1099511627776 ∧ inR k.term 1099511627776 ∧ inR k.vote 7
instance (k : Kp) : Decidable (mayK k) := by unfold mayK; infer_instance
/-! ### entries in memory -/
abbrev NotU (U : Foot) : Foot := fun j => ¬ U j
def EnAt (W : World) (V : Foot) (A : Option Addr) (n : Nat) (es : List En) : Prop :=
  es.length = n ∧ (0 < n → ∃ x, A = some x ∧ x.block < W.heap.size ∧ V x.block ∧ ∀ i e, es[i]? = some e → ∃ A' m k, W.cell? (x.add (3 * i)) = some (.int .i64 e.term) ∧ W.cell? (x.add (3 * i + 1)) = some (.bool e.cmd) ∧ W.cell? (x.add (3 * i + 2)) = some (.slice A' m k) ∧ m ≤ k ∧ Lies W V A' m e.data)
def ERow (W : World) (V : Foot) (B : Nat) (v : Value) (es : List En) : Prop := ∃ xs : List Value, W.ownsRow B 67 3 v es.length xs ∧ (∀ g, v.ownBlock = some g → V g) ∧
  ∀ i e, es[i]? = some e → ∃ A m c, xs[3 * i]? = some (.int .i64 e.term) ∧ xs[3 * i + 1]? = some (.bool e.cmd) ∧ xs[3 * i + 2]? = some (.slice A m c) ∧ m ≤ c ∧ Lies W V A m e.data
theorem adb (x : Addr) (j : Nat) : (x.add j).block = x.block := by unfold Addr.add; split <;> rfl
section
variable {W W' : World} {V V' U U' : Foot} {B B' n c : Nat} {A : Option Addr} {v : Value} {es : List En}
theorem EnAt.nil (W : World) (V : Foot) (A : Option Addr) : EnAt W V A 0 [] := ⟨rfl, fun h => absurd h (Nat.lt_irrefl 0)⟩
theorem EnAt.stay (h : EnAt W V A n es) (hs : W.heap.size ≤ W'.heap.size) (hk : ∀ j, j < W.heap.size → V j → W'.heap[j]? = W.heap[j]?) : EnAt W' V A n es :=
  ⟨h.1, fun hn => by
    obtain ⟨x, hA, hx, hv, h3⟩ := h.2 hn
    have key : ∀ j u, W.cell? (x.add j) = some u → W'.cell? (x.add j) = some u := fun j u hu => (World.cell?_of_block (by rw [adb]; exact hk _ hx hv)).trans hu
    exact ⟨x, hA, Nat.lt_of_lt_of_le hx hs, hv, fun i e he => by
      obtain ⟨A', m, k, e1, e2, e3, e4, e5⟩ := h3 i e he
      exact ⟨A', m, k, key _ _ e1, key _ _ e2, key _ _ e3, e4, e5.stay hs hk⟩⟩⟩
theorem EnAt.below (h : EnAt W V A n es) (hb : Below W.heap.size W W') : EnAt W' V A n es := h.stay hb.size (fun j hj _ => hb.block j hj)
theorem EnAt.more (h : EnAt W V A n es) (hV : ∀ j, j < W.heap.size → V j → V' j) : EnAt W V' A n es :=
  ⟨h.1, fun hn => by
    obtain ⟨x, hA, hx, hv, h3⟩ := h.2 hn
    exact ⟨x, hA, hx, hV _ hx hv, fun i e he => by
      obtain ⟨A', m, k, e1, e2, e3, e4, e5⟩ := h3 i e he
      exact ⟨A', m, k, e1, e2, e3, e4, e5.more hV⟩⟩⟩
theorem EnAt.step (h : EnAt W (NotU U) A n es) (hs : Step W U W' U') : EnAt W' (NotU U') A n es := by
  refine (h.more (V' := fun j => ¬ U j ∧ j < W.heap.size) (fun j h1 h2 => ⟨h2, h1⟩)).stay hs.size (fun j h1 h2 => hs.out.block j h1 h2.1) |>.more (fun j h1 h2 hu => ?_)
  rcases hs.sub j hu with h' | h'
  · exact h2.1 h'
  · have := h2.2; omega
theorem EnAt.take (h : EnAt W V A n es) {m : Nat} (hm : m ≤ n) : EnAt W V A m (es.take m) :=
  ⟨by rw [List.length_take, h.1]; omega, fun h0 => by
    obtain ⟨x, hA, hx, hv, h3⟩ := h.2 (by omega)
    exact ⟨x, hA, hx, hv, fun i e he => h3 i e (by
      rw [List.getElem?_take] at he
      split at he
      · exact he
      · cases he)⟩⟩
theorem EnAt.drop (h : EnAt W V A n es) {m : Nat} (hm : m ≤ n) (hc : n ≤ c) : EnAt W V (cutK A c m 3) (n - m) (es.drop m) :=
  ⟨by rw [List.length_drop, h.1], fun h0 => by
    obtain ⟨x, rfl, hx, hv, h3⟩ := h.2 (by omega)
    have hcm : ¬ c = m := by omega
    refine ⟨x.add (m * 3), by unfold cutK; rw [if_neg hcm]; rfl, by rw [adb]; exact hx, by rw [adb]; exact hv, fun i e he => ?_⟩
    rw [List.getElem?_drop] at he
    obtain ⟨A', k, l, e1, e2, e3, e4, e5⟩ := h3 _ e he
    refine ⟨A', k, l, ?_, ?_, ?_, e4, e5⟩
    all_goals rw [Deep.add_add]
    · rw [show m * 3 + 3 * i = 3 * (m + i) from by omega]; exact e1
    · rw [show m * 3 + (3 * i + 1) = 3 * (m + i) + 1 from by omega]; exact e2
    · rw [show m * 3 + (3 * i + 2) = 3 * (m + i) + 2 from by omega]; exact e3⟩
theorem EnAt.at_ {i : Nat} {e : En} (h : EnAt W V A n es) (he : es[i]? = some e) :
    ∃ x A' m k, A = some x ∧ W.cell? ((x.add (i * 3)).add 0) = some (.int .i64 e.term) ∧ W.cell? ((x.add (i * 3)).add 1) = some (.bool e.cmd) ∧ W.cell? ((x.add (i * 3)).add 2) = some (.slice A' m k) ∧ m ≤ k ∧ e.data.length = m ∧ Lies W V A' m e.data := by
  have hi := (List.getElem?_eq_some_iff.1 he).1
  have h1 := h.1
  obtain ⟨x, hA, hx, hv, h3⟩ := h.2 (by omega)
  obtain ⟨A', m, k, e1, e2, e3, e4, e5⟩ := h3 i e he
  refine ⟨x, A', m, k, hA, ?_, ?_, ?_, e4, e5.len, e5⟩
  all_goals rw [Deep.add_add, Nat.mul_comm i 3]
  · exact e1
  · exact e2
  · exact e3
theorem EnAt.xs (h : EnAt W V A n es) : ∃ xs, Reads W W.heap.size 3 A n xs ∧ (∀ u ∈ xs, u.oneCell' = true) ∧ ∀ i e, es[i]? = some e → ∃ A' m k, xs[3 * i]? = some (.int .i64 e.term) ∧ xs[3 * i + 1]? = some (.bool e.cmd) ∧ xs[3 * i + 2]? = some (.slice A' m k) ∧ m ≤ k ∧ Lies W V A' m e.data := by
  by_cases hn : 0 < n
  case neg =>
    obtain rfl : n = 0 := by omega
    obtain rfl := List.eq_nil_of_length_eq_zero h.1
    exact ⟨[], Reads.none_, by simp, fun i e he => by simp at he⟩
  obtain ⟨x, rfl, hx, hv, h3⟩ := h.2 hn
  have hcl : ∀ j, j < n * 3 → ∃ u, W.cell? (x.add j) = some u ∧ u.oneCell' = true := fun j hj => by
    obtain ⟨e, he⟩ : ∃ e, es[j / 3]? = some e := ⟨_, List.getElem?_eq_getElem (by have := h.1; omega)⟩
    obtain ⟨A', m, k, e1, e2, e3, e4, e5⟩ := h3 _ e he
    have hj3 : j = 3 * (j / 3) ∨ j = 3 * (j / 3) + 1 ∨ j = 3 * (j / 3) + 2 := by omega
    rcases hj3 with h' | h' | h'
    · exact ⟨_, by rw [h']; exact e1, rfl⟩
    · exact ⟨_, by rw [h']; exact e2, rfl⟩
    · exact ⟨_, by rw [h']; exact e3, rfl⟩
  refine ⟨(List.range (n * 3)).map fun j => (W.cell? (x.add j)).getD default, ⟨by simp, fun _ => ⟨x, rfl, hx, fun j u hu => ?_⟩⟩, fun u hu => ?_, fun i e he => ?_⟩
  · obtain ⟨j', hj', rfl⟩ := map_at hu
    obtain ⟨hjl, hje⟩ := List.getElem?_eq_some_iff.1 hj'
    rw [List.getElem_range] at hje
    subst hje
    obtain ⟨u, hu, _⟩ := hcl _ (by simpa using hjl)
    rw [hu]; rfl
  · obtain ⟨j, hj, rfl⟩ := List.mem_map.1 hu
    obtain ⟨u, hu, h1⟩ := hcl j (by simpa using hj)
    rw [hu]; exact h1
  · have hi := (List.getElem?_eq_some_iff.1 he).1
    have h1 := h.1
    obtain ⟨A', m, k, e1, e2, e3, e4, e5⟩ := h3 _ e he
    refine ⟨A', m, k, ?_, ?_, ?_, e4, e5⟩
    all_goals rw [List.getElem?_map, List.getElem?_range (by omega)]
    · rw [Option.map_some, e1]; rfl
    · rw [Option.map_some, e2]; rfl
    · rw [Option.map_some, e3]; rfl
theorem ERow.nil (W : World) (V : Foot) (B : Nat) : ERow W V B (.slice none 0 0) [] := ⟨[], World.ownsRow_nil W _ _ _, fun g hg => by simp [Value.ownBlock] at hg, fun i e he => by simp at he⟩
theorem ERow.form (h : ERow W V B v es) : ∃ A c, v = .slice A es.length c := by
  obtain ⟨xs, h1, _⟩ := h
  rcases h1.2 with ⟨rfl, e0⟩ | ⟨g, cap, cur, e1, _⟩
  · exact ⟨none, 0, by rw [e0]⟩
  · exact ⟨_, _, e1⟩
theorem ERow.at_ (h : ERow W V B (.slice A n c) es) : EnAt W V A n es ∧ n ≤ c ∧ es.length = n := by
  obtain ⟨A', c', e⟩ := h.form
  injection e with e1 e2 e3
  subst e1 e2 e3
  obtain ⟨xs, h1, h2, h3⟩ := h
  have hr := Reads.row h1
  refine ⟨⟨rfl, fun hn => ?_⟩, ?_, rfl⟩
  · obtain ⟨x, rfl, hx, hc⟩ := hr.2 hn
    refine ⟨x, rfl, hx, h2 _ rfl, fun i e he => ?_⟩
    obtain ⟨A', m, k, e1, e2, e3, e4, e5⟩ := h3 i e he
    exact ⟨A', m, k, hc _ _ e1, hc _ _ e2, hc _ _ e3, e4, e5⟩
  · rcases h1.2 with ⟨e, e0⟩ | ⟨g, cap, cur, e1, _, _, h4, _⟩
    · omega
    · injection e1 with _ _ e3
      omega
theorem ERow.stay (h : ERow W V B v es) (hs : W.heap.size ≤ W'.heap.size) (hk : ∀ j, j < W.heap.size → V j → W'.heap[j]? = W.heap[j]?) : ERow W' V B v es := by
  obtain ⟨xs, h1, h2, h3⟩ := h
  refine ⟨xs, ownsRow_stay h1 (fun g hg => hk g (World.ownsRow.lt h1 g hg).2 (h2 g hg)), h2, fun i e he => ?_⟩
  obtain ⟨A', m, k, e1, e2, e3, e4, e5⟩ := h3 i e he
  exact ⟨A', m, k, e1, e2, e3, e4, e5.stay hs hk⟩
theorem ERow.below (h : ERow W V B v es) (hb : Below W.heap.size W W') : ERow W' V B v es := h.stay hb.size (fun j hj _ => hb.block j hj)
theorem ERow.more (h : ERow W V B v es) (hB : B' ≤ B) (hV : ∀ j, j < W.heap.size → V j → V' j) : ERow W V' B' v es := by
  obtain ⟨xs, h1, h2, h3⟩ := h
  refine ⟨xs, rows_more h1 hB, fun g hg => hV g (World.ownsRow.lt h1 g hg).2 (h2 g hg), fun i e he => ?_⟩
  obtain ⟨A', m, k, e1, e2, e3, e4, e5⟩ := h3 i e he
  exact ⟨A', m, k, e1, e2, e3, e4, e5.more hV⟩
theorem ERow.step (h : ERow W (NotU U) B v es) (hs : Step W U W' U') : ERow W' (NotU U') B v es := by
  refine ((h.more (Nat.le_refl _) (V' := fun j => ¬ U j ∧ j < W.heap.size) (fun j h1 h2 => ⟨h2, h1⟩)).stay hs.size (fun j h1 h2 => hs.out.block j h1 h2.1)).more (Nat.le_refl _) (fun j h1 h2 hu => ?_)
  rcases hs.sub j hu with h' | h'
  · exact h2.1 h'
  · have := h2.2; omega
/-- a row cut shorter -/
theorem ERow.take (h : ERow W V B (.slice A n c) es) {m : Nat} (hm : m ≤ n) : ERow W V B (.slice A m c) (es.take m) := by
  have hlen := h.at_.2.2
  obtain ⟨xs, h1, h2, h3⟩ := h
  have hl : (es.take m).length = m := by rw [List.length_take]; omega
  refine ⟨xs.take (m * 3), ?_, fun g hg => h2 g (by
    cases A with
    | none => simp [Value.ownBlock] at hg
    | some x => simpa [Value.ownBlock] using hg), fun i e he => ?_⟩
  · rw [hl]
    rcases h1.2 with ⟨e, e0⟩ | ⟨g, cap, cur, e1, hg, hc, h4, h5, h6, h7⟩
    · injection e with a1 a2 a3
      subst a1 a2 a3
      obtain rfl : m = 0 := by omega
      simpa using World.ownsRow_nil W B _ 3
    · injection e1 with a1 a2 a3
      subst a1 a3
      refine ⟨by rw [List.length_take, h1.1]; omega, .inr ⟨g, _, cur, rfl, hg, hc, by omega, h5, h6, ?_⟩⟩
      rw [← h7, List.take_take]
      congr 1
      omega
  · rw [List.getElem?_take] at he
    split at he
    · rename_i hi
      obtain ⟨A', p, k, e1, e2, e3, e4, e5⟩ := h3 i e he
      refine ⟨A', p, k, ?_, ?_, ?_, e4, e5⟩
      all_goals rw [List.getElem?_take, if_pos (by omega)]
      · exact e1
      · exact e2
      · exact e3
    · cases he
theorem ERow.blk {g T : Nat} {cs : Array Value} (h : ERow W V B v es) (hb : Blk W g T cs) (hg : W.grownBy W' (some g)) (hT : 5 ≠ T) (hT2 : 67 ≠ T) : ERow W' V B v es := by
  obtain ⟨xs, h1, h2, h3⟩ := h
  refine ⟨xs, rows_apart h1 hg (fun q e hq => ?_), h2, fun i e he => ?_⟩
  · obtain rfl : g = q := by injection e
    rcases h1.2 with ⟨rfl, _⟩ | ⟨g', cap, cur, rfl, _, hc, _⟩
    · simp [Value.ownBlock] at hq
    · have : g' = g := by simpa [Value.ownBlock] using hq
      subst this
      unfold Blk at hb
      rw [hc] at hb
      injection hb with hb
      injection hb with _ h2 _
      exact hT2 h2
  · obtain ⟨A', m, k, e1, e2, e3, e4, e5⟩ := h3 i e he
    exact ⟨A', m, k, e1, e2, e3, e4, e5.blk hb hg hT⟩
end
theorem en_info : (Try.prog.info? 67).map (fun i => (i.zero, i.size, i.bytes)) = some (some (.agg #[.int .i64 0, .bool false, .slice none 0 0]), 3, 40) := by kernel_rfl
/-- entries behind entries -/
theorem ERow.app {W : World} {V : Foot} {B n c m k ty : Nat} {A A' : Option Addr} {es fs : List En} {K : Value → World → Prop} (h : ERow W V B (.slice A n c) es) (h2 : EnAt W V A' m fs) (hk : n + m ≤ 100000000) (hB : B ≤ W.heap.size) (hV : ∀ j, W.heap.size ≤ j → V j)
    (hK : ∀ A2 c2 W', ERow W' V B (.slice A2 (n + m) c2) (es ++ fs) → W.grownBy W' (Value.slice A n c).ownBlock → K (.slice A2 (n + m) c2) W') :
    VSem Try.prog (Builtin.append_ #[61, 61] ty [.slice A n c, .slice A' m k].toArray) W K := by
  have hlen := h.at_.2.2
  have hm2 := h2.1
  obtain ⟨xs, hrow, hV1, hels⟩ := h
  obtain ⟨ys, hr, h1, hys⟩ := h2.xs
  obtain ⟨i0, hi0, hz0, hz1, hz2⟩ := info_parts en_info
  rw [hlen] at hrow
  refine VSem.appR (base := B) Try.underlying61 hi0 hz0 hz1 hz2 rfl (by decide) hrow hr h1 (by simp only [maxLen]; omega) (by omega) hB ?_
  intro A6 c6 W6 hrow6 hg6 hblk
  have hxl := hrow.1
  refine hK A6 c6 W6 ⟨_, by rw [List.length_append, hlen, hm2]; exact hrow6, fun g hg => ?_, fun i e' he' => ?_⟩ hg6
  · rcases hblk with h' | h'
    · rw [h'] at hg; exact hV1 g hg
    · rw [h'] at hg; injection hg with hg; subst hg; exact hV _ (Nat.le_refl _)
  · rcases Nat.lt_or_ge i n with h | h
    · rw [List.getElem?_append_left (by omega)] at he'
      obtain ⟨A', m', c', e1, e2, e3, e5, e4⟩ := hels i e' he'
      refine ⟨A', m', c', ?_, ?_, ?_, e5, e4.row hrow hg6 (by decide)⟩
      · rw [List.getElem?_append_left (by omega)]; exact e1
      · rw [List.getElem?_append_left (by omega)]; exact e2
      · rw [List.getElem?_append_left (by omega)]; exact e3
    · rw [List.getElem?_append_right (by omega)] at he'
      obtain ⟨A', m', c', e1, e2, e3, e5, e4⟩ := hys _ e' he'
      refine ⟨A', m', c', ?_, ?_, ?_, e5, e4.row hrow hg6 (by decide)⟩
      · rw [List.getElem?_append_right (by omega), show 3 * i - xs.length = 3 * (i - es.length) by omega]; exact e1
      · rw [List.getElem?_append_right (by omega), show 3 * i + 1 - xs.length = 3 * (i - es.length) + 1 by omega]; exact e2
      · rw [List.getElem?_append_right (by omega), show 3 * i + 2 - xs.length = 3 * (i - es.length) + 2 by omega]; exact e3
/-- one entry in a block -/
theorem EnAt.one {W : World} {V : Foot} {g m c : Nat} {A : Option Addr} {e : En} (hb : Blk W g 67 #[.int .i64 e.term, .bool e.cmd, .slice A m c]) (hV : V g) (hmc : m ≤ c) (hL : Lies W V A m e.data) : EnAt W V (some ⟨g, 0, none⟩) 1 [e] := by
  refine ⟨rfl, fun _ => ⟨_, rfl, hb.lt, hV, fun i e' he => ?_⟩⟩
  have hi : i = 0 := by have := (List.getElem?_eq_some_iff.1 he).1; simpa using this
  subst hi
  obtain rfl : e = e' := by simpa using he
  refine ⟨A, m, c, ?_, ?_, ?_, hmc, hL⟩
  all_goals rw [add_lit, hb.cell]; rfl
end Go.Proofs.Ytebeidnmplnlpaa
end

section
set_option maxRecDepth 10000
namespace Go.Proofs.Ytebeidnmplnlpaa
set_option linter.unusedVariables false
open Go.RowKit

/-! ### rows of bytes -/
def YRow (W : World) (V : Foot) (B : Nat) (v : Value) (ls : List (List UInt8)) : Prop := ∃ xs : List Value, W.ownsRow B 31 1 v ls.length xs ∧ (∀ g, v.ownBlock = some g → V g) ∧
  ∀ (i : Nat) (l : List UInt8), ls[i]? = some l → ∃ A m c, xs[i]? = some (Value.slice A m c) ∧ m ≤ c ∧ Lies W V A m l
section
variable {W W' : World} {V V' U U' : Foot} {B B' n c : Nat} {A : Option Addr} {v : Value} {ls : List (List UInt8)}
theorem YRow.stay (h : YRow W V B v ls) (hs : W.heap.size ≤ W'.heap.size) (hk : ∀ j, j < W.heap.size → V j → W'.heap[j]? = W.heap[j]?) : YRow W' V B v ls := by
  obtain ⟨xs, h1, h2, h3⟩ := h
  refine ⟨xs, ownsRow_stay h1 (fun g hg => hk g (World.ownsRow.lt h1 g hg).2 (h2 g hg)), h2, fun i e he => ?_⟩
  obtain ⟨A', m, k, e1, e4, e5⟩ := h3 i e he
  exact ⟨A', m, k, e1, e4, e5.stay hs hk⟩
theorem YRow.below (h : YRow W V B v ls) (hb : Below W.heap.size W W') : YRow W' V B v ls := h.stay hb.size (fun j hj _ => hb.block j hj)
theorem YRow.more (h : YRow W V B v ls) (hB : B' ≤ B) (hV : ∀ j, j < W.heap.size → V j → V' j) : YRow W V' B' v ls := by
  obtain ⟨xs, h1, h2, h3⟩ := h
  refine ⟨xs, rows_more h1 hB, fun g hg => hV g (World.ownsRow.lt h1 g hg).2 (h2 g hg), fun i e he => ?_⟩
  obtain ⟨A', m, k, e1, e4, e5⟩ := h3 i e he
  exact ⟨A', m, k, e1, e4, e5.more hV⟩
theorem YRow.step (h : YRow W (NotU U) B v ls) (hs : Step W U W' U') : YRow W' (NotU U') B v ls := by
  refine ((h.more (Nat.le_refl _) (V' := fun j => ¬ U j ∧ j < W.heap.size) (fun j h1 h2 => ⟨h2, h1⟩)).stay hs.size (fun j h1 h2 => hs.out.block j h1 h2.1)).more (Nat.le_refl _) (fun j h1 h2 hu => ?_)
  rcases hs.sub j hu with h' | h'
  · exact h2.1 h'
  · have := h2.2; omega
theorem YRow.at_ {i : Nat} {l : List UInt8} (h : YRow W V B (.slice A n c) ls) (he : ls[i]? = some l) : ∃ x A' m k, A = some x ∧ x.block < W.heap.size ∧ W.cell? (x.add i) = some (.slice A' m k) ∧ m ≤ k ∧ l.length = m ∧ Lies W V A' m l := by
  obtain ⟨xs, h1, h2, h3⟩ := h
  obtain ⟨A', m, k, e1, e4, e5⟩ := h3 i l he
  have hi := (List.getElem?_eq_some_iff.1 he).1
  have hn : n = ls.length := by
    rcases h1.2 with ⟨e, e0⟩ | ⟨g, cap, cur, e, _⟩
    · injection e with _ e _; omega
    · injection e
  obtain ⟨x, hx, hl, hc⟩ := (Reads.row (by rw [hn] at h1; exact h1 : W.ownsRow B 31 1 (.slice A ls.length c) ls.length xs)).2 (by omega)
  exact ⟨x, A', m, k, hx, hl, hc _ _ e1, e4, e5.len, e5⟩
end
theorem y_info : (Try.prog.info? 31).map (fun i => (i.zero, i.size, i.bytes)) = some (some (.slice none 0 0), 1, 24) := by kernel_rfl
theorem YRow.app {W : World} {V : Foot} {B n c k ty : Nat} {A A' A2 : Option Addr} {m2 c2 C : Nat} {ls : List (List UInt8)} {l : List UInt8} {K : Value → World → Prop} (h : YRow W V B (.slice A n c) ls) (hn : ls.length = n) (h2 : Reads W C 1 A' 1 [.slice A2 m2 c2]) (hm : m2 ≤ c2) (hL : Lies W V A2 m2 l) (hk : n ≤ 100000000) (hB : B ≤ W.heap.size) (hV : ∀ j, W.heap.size ≤ j → V j)
    (hK : ∀ A3 c3 W', YRow W' V B (.slice A3 (n + 1) c3) (ls ++ [l]) → W.grownBy W' (Value.slice A n c).ownBlock → K (.slice A3 (n + 1) c3) W') :
    VSem Try.prog (Builtin.append_ #[27, 27] ty [.slice A n c, .slice A' 1 k].toArray) W K := by
  obtain ⟨xs, h1, hV1, h3⟩ := h
  rw [hn] at h1
  obtain ⟨i0, hi0, hz0, hz1, hz2⟩ := info_parts y_info
  refine VSem.appR (t := 27) (e := 31) Try.underlying27 hi0 hz0 hz1 hz2 rfl (by decide) h1 h2 (by simp [Value.oneCell']) (by simp only [maxLen]; omega) (by omega) hB fun A3 c3 W' k1 k2 k3 => ?_
  have hxl : xs.length = ls.length := by have := h1.1; omega
  refine hK A3 c3 W' ⟨xs ++ [.slice A2 m2 c2], by rw [List.length_append, hn]; exact k1, fun g hg => ?_, fun i e he => ?_⟩ k2
  · rcases k3 with k3 | k3
    · exact hV1 g (by rw [← k3]; exact hg)
    · rw [k3] at hg
      injection hg with hg
      exact hV g (by omega)
  · by_cases hi : i < ls.length
    · rw [List.getElem?_append_left hi] at he
      obtain ⟨A', m, k, e1, e4, e5⟩ := h3 i e he
      exact ⟨A', m, k, by rw [List.getElem?_append_left (by omega)]; exact e1, e4, e5.row h1 k2 (by decide)⟩
    · have hi2 := (List.getElem?_eq_some_iff.1 he).1
      rw [List.length_append] at hi2
      simp only [List.length_cons, List.length_nil] at hi2
      obtain rfl : i = ls.length := by omega
      rw [List.getElem?_append_right (by omega), Nat.sub_self] at he
      obtain rfl : l = e := by simpa using he
      exact ⟨A2, m2, c2, by rw [List.getElem?_append_right (by omega), hxl, Nat.sub_self]; rfl, hm, hL.row h1 k2 (by decide)⟩
/-! ### frames -/
set_option maxHeartbeats 1000000 in
theorem snFrames_any (i t : Int) (A : Option Addr) (n c : Nat) (data : List UInt8) (w : World) (hi : -9223372036854775808 ≤ i ∧ i ≤ 9223372036854775807) (ht : -9223372036854775808 ≤ t ∧ t ≤ 9223372036854775807) (hr : Reads w w.heap.size 1 A n (bv data)) (hn : n ≤ 1048576) (hnc : n ≤ c) :
    Calls Try.prog 62 #[.int .i64 i, .int .i64 t, .slice A n c] w fun e w' => ∃ A' k c', e = .returned (.slice A' k c') ∧ k = 1 + (chunks data).length ∧ YRow w' (fun j => w.heap.size ≤ j) w.heap.size (.slice A' k c') ((hdB i t n :: chunks data).map Frame.put) ∧ Below w.heap.size w w' := by
  have hdl : data.length = n := by have := hr.1; rw [bv_length] at this; omega
  have l1 := Wire.int_len i
  have l2 := Wire.int_len t
  have l3 := Wire.int_len (n : Int)
  refine calls_vc Try.func62 rfl (by kernel_rfl) ?_
  ((conv => whnf); (repeat ((first | (refine VL.cons ?_) | (refine VL.nil ?_) | (refine VC.seqS rfl ?_) | (refine VC.region ?_)); (conv => whnf))))
  ((repeat ((fail); (conv => whnf))))
  refine VCall.of (refInt_any i w hi) ?_
  rintro e w1 ⟨A1, m1, c1, rfl, hO1, hB1⟩
  refine ⟨_, rfl, ?_⟩
  ((conv => whnf); (repeat ((first | (refine VL.cons ?_)); (conv => whnf))))
  ((repeat ((fail); (conv => whnf))))
  refine VCall.of (refInt_any t w1 ht) ?_
  rintro e w2 ⟨A2, m2, c2, rfl, hO2, hB2⟩
  refine ⟨_, rfl, ?_⟩
  have hl1 := Own.len hO1
  have hl2 := Own.len hO2
  have s1 := hB1.size
  ((conv => whnf); (repeat ((first | (refine VL.cons ?_)); (conv => whnf))))
  ((repeat ((fail); (conv => whnf))))
  refine VSem.appO (hO1.below hB2 (Nat.le_refl _)) (Own.reads hO2) (by omega) (by have := hB2.size; omega) ?_
  intro A3 c3 w3 hO3 _ hB3
  have hB03 := (hB1.trans (hB2.mono s1)).trans hB3
  ((conv => whnf); (repeat ((first | (refine VL.cons ?_)); (conv => whnf))))
  ((repeat ((first | (refine VL.cons ?_) | (refine VRead.lenS ?_)); (conv => whnf))))
  refine VCall.of (refInt_any (n : Int) w3 (by omega)) ?_
  rintro e w4 ⟨A4, m4, c4, rfl, hO4, hB4⟩
  refine ⟨_, rfl, ?_⟩
  have hl4 := Own.len hO4
  have s3 := hB03.size
  ((conv => whnf); (repeat ((first | (refine VL.cons ?_)); (conv => whnf))))
  ((repeat ((fail); (conv => whnf))))
  refine VSem.appO (hO3.below hB4 (Nat.le_refl _)) (Own.reads hO4) (by omega) (by have := hB4.size; omega) ?_
  intro A5 c5 w5 hO5 _ hB5
  have hB05 := (hB03.trans (hB4.mono s3)).trans hB5
  have s5 := hB05.size
  replace hO5 : Own w5 w.heap.size (.slice A5 (m1 + m2 + m4) c5) (m1 + m2 + m4) (hdB i t n) := hO5
  ((conv => whnf); (repeat ((first | (refine VL.cons ?_) | (refine VL.nil ?_) | (refine VC.seqS rfl ?_) | (refine VC.region ?_)); (conv => whnf))))
  ((repeat ((fail); (conv => whnf))))
  refine VCall.of (refPut_any A5 (m1 + m2 + m4) c5 (hdB i t n) w5 (by omega) (Own.reads hO5)) ?_
  rintro e w6 ⟨A6, m6, c6, rfl, hO6, hB6⟩
  refine ⟨_, rfl, ?_⟩
  have hB06 := hB05.trans (hB6.mono s5)
  have s6 := hB06.size
  ((conv => whnf); (repeat ((first | (refine VL.cons ?_)); (conv => whnf))))
  ((repeat ((fail); (conv => whnf))))
  refine VSem.buildR (ps := [(0, .slice A6 m6 c6)]) rfl rfl (by simp [Value.oneCell']) (by omega) ?_
  intro w7 hO7 hB7 hz7
  have hB07 := hB06.trans (hB7.mono s6)
  have hY7 : YRow w7 (fun j => w.heap.size ≤ j) w.heap.size (.slice (some ⟨w6.heap.size, 0, none⟩) 1 1) [Frame.put (hdB i t n)] := by
    refine ⟨_, rows_more hO7 s6, fun g hg => ?_, fun j l hj => ?_⟩
    · have : w6.heap.size = g := by simpa [Value.ownBlock] using hg
      show w.heap.size ≤ g
      omega
    · have hj0 : j = 0 := by have := (List.getElem?_eq_some_iff.1 hj).1; simpa using this
      subst hj0
      obtain rfl : Frame.put (hdB i t n) = l := by simpa using hj
      exact ⟨A6, m6, c6, rfl, hO6.cap, Lies.of_own ((hO6.below hB7 (Nat.le_refl _)).more (B' := w.heap.size) s5) (fun j hj => hj)⟩
  ((conv => whnf); (repeat ((first | (refine VL.cons ?_) | (refine VL.nil ?_)); (conv => whnf))))
  ((repeat ((first | (refine VL.cons ?_) | (refine VL.nil ?_) | (refine VC.seqS rfl ?_) | (refine VC.region ?_) | (refine VC.block ?_) | (refine VC.seq ?_)); (conv => whnf))))
  refine VC.loop [8, 9] [(8, 9), (22, 39)] (fun q vs W => ∃ (j k : Nat) (A' : Option Addr) (c' : Nat) (dn : List (List UInt8)), vs = [.slice A' k c', .int .i64 ((1000 * j : Nat) : Int)] ∧ q = n - 1000 * j ∧ j ≤ 1049 ∧ k = 1 + dn.length ∧ dn.length = j ∧ chunks data = dn ++ chunks (data.drop (1000 * j)) ∧
      YRow W (fun j => w.heap.size ≤ j) w.heap.size (.slice A' k c') ((hdB i t n :: dn).map Frame.put) ∧ Below w.heap.size w W) (by kernel_rfl)
    ⟨_, 0, 1, _, 1, [], rfl, rfl, by omega, rfl, rfl, by simp, hY7, hB07⟩ ?_
  rintro q τ vs W ⟨j, k, A', c', dn, rfl, rfl, hj, rfl, hdj, hch, hY, hB⟩
  by_cases hlt : 1000 * j < n
  case neg =>
    rw [List.drop_eq_nil_of_le (by omega), chunks_nil, List.append_nil] at hch
    subst hch
    ((conv => whnf); (repeat ((fail); (conv => whnf))))
    ((repeat ((first | (refine VL.cons ?_) | (refine VL.nil ?_) | (refine VC.seqS rfl ?_) | (refine VC.region ?_) | (refine VC.cond ?_) | (refine VC.exit ?_) | (refine VC.ret ?_) | (refine VBool.dF (by omega) ?_) | (refine VRead.lenS ?_) | (refine VC.seq ?_)); (conv => whnf))))
    exact ⟨A', _, c', rfl, rfl, hY, hB⟩
  have hne : data.drop (1000 * j) ≠ [] := fun e => by
    have := congrArg List.length e
    rw [List.length_drop, List.length_nil] at this
    omega
  rw [chunks_cons hne, List.drop_drop] at hch
  have hrW := hr.below hB
  have sW := hB.size
  obtain ⟨z, hz⟩ : ∃ z, z = min (1000 * j + 1000) n := ⟨_, rfl⟩
  have ecut : (data.take z).drop (1000 * j) = (data.drop (1000 * j)).take 1000 := by
    rw [List.drop_take]
    by_cases h : 1000 * j + 1000 ≤ n
    · rw [show z - 1000 * j = 1000 by omega]
    · rw [List.take_of_length_le (by rw [List.length_drop]; omega), List.take_of_length_le (by rw [List.length_drop]; omega)]
  ((conv => whnf); (repeat ((fail); (conv => whnf))))
  (repeat ((first | (refine VRead.minZ (z := (z : Int)) (by split <;> omega) ?_) | (refine VL.cons ?_) | (refine VL.nil ?_) | (refine VC.seqS rfl ?_) | (refine VC.region ?_) | (refine VC.cond ?_) | (refine VC.block ?_) | (refine VC.skip ?_) | (refine VBool.dT (by omega) ?_) | (refine VRead.lenS ?_) | (refine VWrap.i64 (by omega) (by omega) ?_) | (refine VC.seq ?_)); (conv => whnf)))
  refine VRead.cutR (1000 * j) z hrW (by omega) rfl (by omega) (by omega) hnc ?_
  intro Ax hrx
  rw [ecut] at hrx
  (conv => whnf)
  ((repeat ((first | (refine VL.cons ?_)); (conv => whnf))))
  refine VCall.of (refPut_any Ax (z - 1000 * j) (c - 1000 * j) _ W (by omega) (hrx.more sW)) ?_
  rintro e W1 ⟨A7, m7, c7, rfl, hO8, hB8⟩
  refine ⟨_, rfl, ?_⟩
  have s8 := hB8.size
  ((conv => whnf); (repeat ((first | (refine VL.cons ?_)); (conv => whnf))))
  ((repeat ((fail); (conv => whnf))))
  refine VSem.one (v := .slice A7 m7 c7) rfl ?_
  intro W2 hrW2 hB9 hz9
  have hB89 := hB8.trans (hB9.mono s8)
  ((conv => whnf); (repeat ((first | (refine VL.cons ?_)); (conv => whnf))))
  ((repeat ((fail); (conv => whnf))))
  refine YRow.app (hY.below hB89) (by simp; omega) hrW2 hO8.cap (Lies.of_own ((hO8.below hB9 (Nat.le_refl _)).more (B' := w.heap.size) sW) (fun j hj => hj)) (by omega) (by have := hB89.size; omega) (fun j hj => by have := hB89.size; show w.heap.size ≤ j; omega) ?_
  intro A9 c9 W3 hY3 hg3
  have hB3' := (hB.trans (hB89.mono sW)).grown hg3 (by have := hB89.size; omega) (fun g hg => by
    obtain ⟨xs, k1, _⟩ := hY
    exact (World.ownsRow.lt k1 g hg).1)
  ((conv => whnf); (repeat ((first | (refine VL.cons ?_) | (refine VL.nil ?_) | (refine VC.region ?_)); (conv => whnf))))
  ((repeat ((first | (refine VL.cons ?_) | (refine VL.nil ?_) | (refine VWrap.i64 (by omega) (by omega) ?_)); (conv => whnf))))
  refine ⟨_, by omega, j + 1, 1 + dn.length + 1, A9, c9, dn ++ [(data.drop (1000 * j)).take 1000], ?_, rfl, by omega, by rw [List.length_append]; simp; omega, by rw [List.length_append]; simp; omega, ?_, ?_, hB3'⟩
  · rw [show 1000 * (j + 1) = 1000 * j + 1000 by omega]
    rfl
  · rw [show 1000 * (j + 1) = 1000 * j + 1000 by omega, List.append_assoc]
    exact hch
  · rw [← List.cons_append, List.map_append]
    exact hY3
end Go.Proofs.Ytebeidnmplnlpaa
end

section
set_option maxRecDepth 10000
namespace Go.Proofs.Ytebeidnmplnlpaa
set_option linter.unusedVariables false
open Go.RowKit

theorem elder_nil (n : Nat) : Elder [] n := ⟨by simp [Rising], by simp, by simp, by simp⟩
theorem newest_sn {n : Nat} {t : Int} {data : List UInt8} (h : SvOk (n : Int) t data) : newest [(snName (n : Int), fullF (fileB n t data))] = some (n, t, data) := by
  unfold newest
  rw [List.foldl_cons, List.foldl_nil]
  exact newest_one h rfl _
/-- the first snapshot on a new disk -/
theorem save_new {room : Int} {n : Nat} {t : Int} {data : List UInt8} (h : SvOk (n : Int) t data) (h0 : 0 ≤ room) (hr : ((fileB n t data).length : Int) ≤ room) (hr2 : room ≤ 16777216) :
    ∃ c', 0 ≤ c' ∧ c' ≤ 1200 ∧ (DS.new room).save n t data = (0, ⟨k0 room c', [(snName (n : Int), fullF (fileB n t data))]⟩) := by
  obtain ⟨c', h1, h2, h3⟩ := save_k0 (r := room) (c := 0) (elder_nil n) h (by simpa [used] using hr)
  exact ⟨c', h1, by omega, by rw [new_k0 h0 hr2]; exact h3⟩
def abc : List UInt8 := [97, 98, 99]
theorem abc_ok : SvOk ((7 : Nat) : Int) 2 abc := ⟨by decide, by decide, by decide, by decide, by decide, by decide⟩
theorem abc_len : (fileB ((7 : Nat) : Int) 2 abc).length ≤ 1000 := by
  have := file_len (i := ((7 : Nat) : Int)) (t := 2) (data := abc) (k := 1) (by decide)
  have h3 : abc.length = 3 := rfl
  omega
set_option maxHeartbeats 1000000 in
theorem awake19_any (W : World) : Calls Try.prog 17 #[] W fun e W' => e = .returned (.bool true) ∧ Below W.heap.size W W' := by
  obtain ⟨c', hc0, hc1, hsv⟩ := save_new (room := 10000) abc_ok (by decide) (by have := abc_len; omega) (by decide)
  refine calls_vc Try.func17 rfl (by kernel_rfl) ?_
  ((conv => whnf); (repeat ((first | (refine VL.cons ?_) | (refine VL.nil ?_) | (refine VC.seqS rfl ?_) | (refine VC.region ?_)); (conv => whnf))))
  ((repeat ((fail); (conv => whnf))))
  refine VCall.of (oNew W 10000) ?_
  rintro e W1 ⟨d, U, rfl, hd1, hUB, hB1⟩
  refine ⟨_, rfl, ?_⟩
  ((conv => whnf); (repeat ((first | (refine VL.cons ?_) | (refine VL.nil ?_)); (conv => whnf))))
  ((repeat ((first | (refine VL.cons ?_) | (refine VC.seqS rfl ?_) | (refine VC.region ?_) | (refine VC.seq ?_)); (conv => whnf))))
  refine VSem.buildS rfl rfl (by simp [zipP, Value.oneCell']) (by omega) ?_
  ((conv => whnf); (repeat ((first | (refine VL.cons ?_)); (conv => whnf))))
  ((repeat ((fail); (conv => whnf))))
  refine VSem.of (w' := W1.alloc (.cells (bv abc).toArray 5 (3, 4))) (Lib.run_convert_bytes_const (P := Try.prog) W1 31 5 _ 3 3 Try.underlying31 Try.underlying5) ?_
  have hr3 : Reads (W1.alloc (.cells (bv abc).toArray 5 (3, 4))) (W1.alloc (.cells (bv abc).toArray 5 (3, 4))).heap.size 1 (some ⟨W1.heap.size, 0, none⟩) 3 (bv abc) := (reads_new W1 abc 5 (3, 4) _ rfl 3 rfl).more (by simp)
  have hB2 := (Below.refl W1.heap.size W1).alloc (Nat.le_refl _) (.cells (bv abc).toArray 5 (3, 4))
  generalize W1.alloc (.cells (bv abc).toArray 5 (3, 4)) = W2 at *
  have hd2 := hd1.below hB2
  have hoff : Off U (some ⟨W1.heap.size, 0, none⟩) 3 := fun _ => ⟨_, rfl, fun hu => by have := hd1.lt _ hu; simp at this⟩
  ((conv => whnf); (repeat ((first | (refine VL.cons ?_)); (conv => whnf))))
  ((repeat ((fail); (conv => whnf))))
  refine VCall.of (snapSave_any W2 U d (DS.new 10000) 7 2 3 3 _ abc hd2 hr3 hoff (by decide) (by decide) (by decide) (by decide) (by decide)) ?_
  rw [show (7 : Int) = ((7 : Nat) : Int) from rfl, hsv]
  rintro e W3 ⟨rfl, U3, hd3, st3⟩
  refine ⟨_, rfl, ?_⟩
  ((conv => whnf); (repeat ((first | (refine VL.cons ?_) | (refine VL.nil ?_) | (refine VC.cond ?_)); (conv => whnf))))
  ((repeat ((first | (refine VL.cons ?_) | (refine VC.seqS rfl ?_) | (refine VC.region ?_) | (refine VC.skip ?_) | (refine VBool.f ?_)); (conv => whnf))))
  refine VCall.of (snapNewest_any W3 U3 d _ hd3) ?_
  simp only
  rw [newest_sn abc_ok]
  rintro e W4 ⟨⟨i, t, v, rfl, hV⟩, hB4⟩
  refine ⟨_, rfl, ?_⟩
  obtain ⟨rfl, _, _, rfl, A, c, rfl, hO⟩ := hV
  ((conv => whnf); (repeat ((first | (refine VL.cons ?_) | (refine VL.nil ?_) | (refine VC.seqS rfl ?_) | (refine VC.region ?_)); (conv => whnf))))
  ((repeat ((first | (refine VL.cons ?_) | (refine VBool.t ?_)); (conv => whnf))))
  refine VSem.convT (Own.reads hO) ?_
  ((conv => whnf); (repeat ((first | (refine VL.cons ?_)); (conv => whnf))))
  ((repeat ((first | (refine VL.cons ?_) | (refine VBool.t ?_)); (conv => whnf))))
  refine VCall.of (snapName_any 7 W4 (by decide)) ?_
  rintro e W5 ⟨rfl, hB5⟩
  refine ⟨_, rfl, ?_⟩
  ((conv => whnf); (repeat ((first | (refine VL.cons ?_)); (conv => whnf))))
  ((repeat ((first | (refine VL.cons ?_) | (refine VL.nil ?_) | (refine VC.ret ?_) | (refine VBool.t ?_)); (conv => whnf))))
  have hB02 := hB1.trans (hB2.mono hB1.size)
  have hB03 := hB02.trans (st3.below hUB hB02.size)
  have hB04 := hB03.trans (hB4.mono hB03.size)
  refine ⟨?_, hB04.trans (hB5.mono hB04.size)⟩
  congr 2
end Go.Proofs.Ytebeidnmplnlpaa
end

section
set_option maxRecDepth 10000
namespace Go.Proofs.Ytebeidnmplnlpaa
set_option linter.unusedVariables false
open Go.RowKit

theorem ten_cut {d : Nat} (h : d < 10) : ByteArray.extract ⟨#[48, 49, 50, 51, 52, 53, 54, 55, 56, 57]⟩ d (d + 1) = txt [UInt8.ofNat (48 + d)] := by
  match d, h with
  | 0, _ => rfl
  | 1, _ => rfl
  | 2, _ => rfl
  | 3, _ => rfl
  | 4, _ => rfl
  | 5, _ => rfl
  | 6, _ => rfl
  | 7, _ => rfl
  | 8, _ => rfl
  | 9, _ => rfl
set_option maxHeartbeats 1000000 in
theorem refNumbered_any (pre : List UInt8) (n k : Nat) (w : World) (hp : pre.length ≤ 1000) (hn : n ≤ 9223372036854775807) (hk : k ≤ 100) :
    Calls Try.prog 48 #[.string (txt pre), .int .i64 (n : Int), .int .i64 (k : Int)] w fun e w' => e = .returned (.string (txt (nameN pre k n))) ∧ w' = w := by
  refine calls_vc Try.func48 rfl (by kernel_rfl) ?_
  ((conv => whnf); (repeat ((first | (refine VL.cons ?_) | (refine VL.nil ?_) | (refine VC.seqS rfl ?_) | (refine VC.region ?_)); (conv => whnf))))
  ((repeat ((first | (refine VL.cons ?_) | (refine VL.nil ?_) | (refine VC.seqS rfl ?_) | (refine VC.region ?_) | (refine VC.block ?_) | (refine VC.seq ?_)); (conv => whnf))))
  refine VC.loop [1, 7, 8] [(1, 1), (7, 23)] (fun q vs W => ∃ j : Nat, vs = [.int .i64 ((n / 10 ^ j : Nat) : Int), .string (txt (dgs j n)), .int .i64 (j : Int)] ∧ q = k - j ∧ j ≤ k ∧ W = w) (by kernel_rfl)
    ⟨_, 0, (by show [Value.int .i64 (n : Int), Value.string ⟨#[]⟩, Value.int .i64 0] = _; simp [dgs, txt]), rfl, by omega, rfl⟩ ?_
  rintro q τ vs W ⟨j, rfl, rfl, hj, rfl⟩
  have hlj := dgs_len j n
  by_cases hlt : j < k
  · have hm0 : (0 : Int) ≤ ((n / 10 ^ j : Nat) : Int) := Int.natCast_nonneg _
    have hm1 : n / 10 ^ j ≤ 9223372036854775807 := Nat.le_trans (Nat.div_le_self _ _) hn
    have e2 : dgs (j + 1) n = dig (n / 10 ^ j) :: dgs j n := by rw [show j + 1 = 1 + j from by omega, dgs_split 1 j n]; rfl
    have e3 : n / 10 ^ (j + 1) = (n / 10 ^ j) / 10 := by rw [Nat.div_div_eq_div_mul, Nat.pow_succ]
    generalize hm : n / 10 ^ j = m at *
    have hmod : m % 10 < 10 := Nat.mod_lt _ (by decide)
    have ec : ByteArray.extract ⟨#[48, 49, 50, 51, 52, 53, 54, 55, 56, 57]⟩ (((m : Int) % 10).toNat) (((m : Int) % 10 + 1).toNat) = txt [dig m] := by
      rw [show ((m : Int) % 10).toNat = m % 10 from by omega, show ((m : Int) % 10 + 1).toNat = m % 10 + 1 from by omega]
      exact ten_cut hmod
    ((conv => whnf); (repeat ((fail); (conv => whnf))))
    ((repeat ((first | (refine VL.cons ?_) | (refine VL.nil ?_) | (refine VC.seqS rfl ?_) | (refine VC.region ?_) | (refine VC.cond ?_) | (refine VC.block ?_) | (refine VC.skip ?_) | (refine VBool.dT (by omega) ?_) | (refine VWrap.i64 (by omega) (by omega) ?_) | (refine VRead.rem (by omega) (by decide) ?_) | (refine VC.seq ?_)); (conv => whnf))))
    refine VRead.textLH (by omega) (by omega) (by show (m : Int) % 10 + 1 ≤ (10 : Nat); omega) ?_
    rw [ec]
    ((conv => whnf); (repeat ((first | (refine VL.cons ?_)); (conv => whnf))))
    ((repeat ((fail); (conv => whnf))))
    refine VRead.catT (by simp; omega) ?_
    ((conv => whnf); (repeat ((first | (refine VL.cons ?_) | (refine VL.nil ?_) | (refine VC.region ?_)); (conv => whnf))))
    (repeat (first | ((first | (refine VL.cons ?_) | (refine VL.nil ?_) | (refine VC.region ?_) | (refine VWrap.i64 (by omega) (by omega) ?_)); (conv => whnf)) | (refine VRead.quo64 (by omega) (by omega) (by omega) ?_; (conv => whnf))))
    refine ⟨_, ?_, j + 1, ?_, rfl, by omega, rfl⟩
    · omega
    · rw [e3, e2, Int.natCast_ediv]
      rfl
  · obtain rfl : j = k := by omega
    ((conv => whnf); (repeat ((fail); (conv => whnf))))
    ((repeat ((first | (refine VL.cons ?_) | (refine VL.nil ?_) | (refine VC.seqS rfl ?_) | (refine VC.region ?_) | (refine VC.cond ?_) | (refine VC.exit ?_) | (refine VBool.dF (by omega) ?_) | (refine VC.seq ?_)); (conv => whnf))))
    refine VRead.catT (by omega) ?_
    ((conv => whnf); (repeat ((first | (refine VL.cons ?_) | (refine VL.nil ?_) | (refine VC.ret ?_)); (conv => whnf))))
    ((repeat ((fail); (conv => whnf))))
    exact ⟨rfl, rfl⟩
def num1 (o : Option Nat) : Option Nat := match o with | some n => if 1 ≤ n then some n else none | none => none
set_option maxHeartbeats 1000000 in
theorem refNumber_any (pre s : List UInt8) (k : Nat) (w : World) (hp : pre.length ≤ 1000) (hs : s.length ≤ 9223372036854775807) (hk : k ≤ 17) :
    Calls Try.prog 37 #[.string (txt pre), .string (txt s), .int .i64 (k : Int)] w fun e w' => e = .returned (numV (num1 (numN pre k s))) ∧ w' = w := by
  have z1 : ByteArray.size (txt pre) = pre.length := txt_size _
  have z2 : ByteArray.size (txt s) = s.length := txt_size _
  refine calls_vc Try.func37 rfl (by kernel_rfl) ?_
  by_cases hl : s.length = pre.length + k
  case neg =>
    rw [numN_no (fun h => hl h.1)]
    ((conv => whnf); (repeat ((first | (refine VL.cons ?_) | (refine VL.nil ?_) | (refine VC.seqS rfl ?_) | (refine VC.region ?_)); (conv => whnf))))
    ((repeat ((first | (refine VL.cons ?_) | (refine VL.nil ?_) | (refine VC.seqS rfl ?_) | (refine VC.region ?_) | (refine VC.cond ?_) | (refine VC.ret ?_) | (refine VBool.t ?_) | (refine VBool.nF (by omega) ?_) | (refine VRead.lenT ?_) | (refine VWrap.i64 (by omega) (by omega) ?_) | (refine VC.seq ?_)); (conv => whnf))))
    exact ⟨rfl, rfl⟩
  by_cases ht : s.take pre.length = pre
  case neg =>
    rw [numN_no (fun h => ht h.2)]
    have ht' : ¬ txt (s.take pre.length) = txt pre := fun e => ht (txt_inj.1 e)
    ((conv => whnf); (repeat ((first | (refine VL.cons ?_) | (refine VL.nil ?_) | (refine VC.seqS rfl ?_) | (refine VC.region ?_)); (conv => whnf))))
    ((repeat ((first | (refine VL.cons ?_) | (refine VC.seqS rfl ?_) | (refine VC.region ?_) | (refine VBool.f ?_) | (refine VBool.nT (by omega) ?_) | (refine VRead.lenT ?_) | (refine VWrap.i64 (by omega) (by omega) ?_) | (refine VC.seq ?_)); (conv => whnf))))
    refine VRead.txtH pre.length (by omega) (by omega) ?_
    ((conv => whnf); (repeat ((first | (refine VL.cons ?_)); (conv => whnf))))
    (repeat (first | ((first | (refine VL.cons ?_) | (refine VL.nil ?_) | (refine VC.seqS rfl ?_) | (refine VC.region ?_) | (refine VC.cond ?_) | (refine VC.ret ?_) | (refine VBool.f ?_) | (refine VBool.nF (by omega) ?_)); (conv => whnf)) | (refine VBool.nF ht' ?_; (conv => whnf)) | (refine VBool.yes (by simp [ht']) ?_; (conv => whnf))))
    exact ⟨rfl, rfl⟩
  have ht' : txt (s.take pre.length) = txt pre := by rw [ht]
  have hN : numN pre k s = numD (s.drop pre.length) := by unfold numN; rw [if_pos ⟨hl, ht⟩]
  rw [hN]
  have hdl : (s.drop pre.length).length = k := by rw [List.length_drop]; omega
  have hd : s.drop pre.length = s.drop pre.length := rfl
  generalize hd : s.drop pre.length = d at hdl hN ⊢
  ((conv => whnf); (repeat ((first | (refine VL.cons ?_) | (refine VL.nil ?_) | (refine VC.seqS rfl ?_) | (refine VC.region ?_)); (conv => whnf))))
  ((repeat ((first | (refine VL.cons ?_) | (refine VC.seqS rfl ?_) | (refine VC.region ?_) | (refine VBool.f ?_) | (refine VBool.nT (by omega) ?_) | (refine VRead.lenT ?_) | (refine VWrap.i64 (by omega) (by omega) ?_) | (refine VC.seq ?_)); (conv => whnf))))
  refine VRead.txtH pre.length (by omega) (by omega) ?_
  ((conv => whnf); (repeat ((first | (refine VL.cons ?_)); (conv => whnf))))
  (repeat (first | ((first | (refine VL.cons ?_) | (refine VL.nil ?_) | (refine VC.seqS rfl ?_) | (refine VC.region ?_) | (refine VC.cond ?_) | (refine VC.block ?_) | (refine VC.skip ?_) | (refine VBool.f ?_) | (refine VBool.nT (by omega) ?_) | (refine VRead.lenT ?_) | (refine VC.seq ?_)); (conv => whnf)) | (refine VBool.nT ht' ?_; (conv => whnf))))
  refine VC.loop [8, 9] [(6, 9), (27, 50)] (fun q vs W => ∃ j : Nat, vs = [.int .i64 ((numF 0 (d.take j) : Nat) : Int), .int .i64 ((pre.length + j : Nat) : Int)] ∧ q = k - j ∧ j ≤ k ∧ (d.take j).all isDig = true ∧ W = w) (by kernel_rfl)
    ⟨_, 0, (by show [Value.int .i64 0, Value.int .i64 ((txt pre).size : Int)] = _; rw [z1]; rfl), rfl, by omega, rfl, rfl⟩ ?_
  rintro q τ vs W ⟨j, rfl, rfl, hj, hall, rfl⟩
  have hlt := numF_bound hall (by omega)
  by_cases hjk : j < k
  · obtain ⟨x, hx⟩ : ∃ x, d[j]? = some x := ⟨_, List.getElem?_eq_getElem (by omega)⟩
    have hxs : (txt s).data.toList[pre.length + j]? = some x := by
      rw [← hd, List.getElem?_drop] at hx
      exact hx
    have hxl : x.toNat < 256 := x.toNat_lt
    have htk := take_snoc hx
    by_cases h1 : 48 ≤ x.toNat
    · by_cases h2 : x.toNat ≤ 57
      · have hall' : (d.take (j + 1)).all isDig = true := by
          rw [htk, List.all_append, hall]
          simp [isDig, h1, h2]
        have hnum : numF 0 (d.take (j + 1)) = 10 * numF 0 (d.take j) + (x.toNat - 48) := by rw [htk, numF_snoc]
        generalize hN2 : numF 0 (d.take j) = a at *
        ((conv => whnf); (repeat ((fail); (conv => whnf))))
        (repeat (first | ((first | (refine VL.cons ?_) | (refine VL.nil ?_) | (refine VC.seqS rfl ?_) | (refine VC.region ?_) | (refine VC.cond ?_) | (refine VC.block ?_) | (refine VC.skip ?_) | (refine VBool.f ?_) | (refine VBool.dT (by omega) ?_) | (refine VBool.dF (by omega) ?_) | (refine VRead.lenT ?_) | (refine VWrap.i64 (by omega) (by omega) ?_) | (refine VSem.convI ?_) | (refine VC.seq ?_)); (conv => whnf)) | (refine VRead.idxT hxs ?_; (conv => whnf)) | (refine VWrap.u8 (by omega) (by omega) ?_; (conv => whnf))))
        refine ⟨_, by omega, j + 1, ?_, rfl, by omega, hall', rfl⟩
        rw [hnum]
        have e1 : ((10 * a + (x.toNat - 48) : Nat) : Int) = 10 * (a : Int) + ((x.toNat : Int) - 48) := by omega
        rw [e1]
        rfl
      · have hno : numD d = none := by
          unfold numD
          rw [if_neg]
          intro ha
          have := List.all_eq_true.1 ha x (List.mem_of_getElem? hx)
          simp [isDig] at this
          omega
        rw [hno]
        ((conv => whnf); (repeat ((fail); (conv => whnf))))
        (repeat (first | ((first | (refine VL.cons ?_) | (refine VL.nil ?_) | (refine VC.seqS rfl ?_) | (refine VC.region ?_) | (refine VC.cond ?_) | (refine VC.block ?_) | (refine VC.ret ?_) | (refine VC.skip ?_) | (refine VBool.f ?_) | (refine VBool.dT (by omega) ?_) | (refine VBool.dF (by omega) ?_) | (refine VRead.lenT ?_) | (refine VC.seq ?_)); (conv => whnf)) | (refine VRead.idxT hxs ?_; (conv => whnf))))
        exact ⟨rfl, rfl⟩
    · have hno : numD d = none := by
        unfold numD
        rw [if_neg]
        intro ha
        have := List.all_eq_true.1 ha x (List.mem_of_getElem? hx)
        simp [isDig] at this
        omega
      rw [hno]
      ((conv => whnf); (repeat ((fail); (conv => whnf))))
      (repeat (first | ((first | (refine VL.cons ?_) | (refine VL.nil ?_) | (refine VC.seqS rfl ?_) | (refine VC.region ?_) | (refine VC.cond ?_) | (refine VC.block ?_) | (refine VC.ret ?_) | (refine VC.skip ?_) | (refine VBool.t ?_) | (refine VBool.dT (by omega) ?_) | (refine VRead.lenT ?_) | (refine VC.seq ?_)); (conv => whnf)) | (refine VRead.idxT hxs ?_; (conv => whnf))))
      exact ⟨rfl, rfl⟩
  · obtain rfl : j = k := by omega
    have htk : d.take j = d := List.take_of_length_le (by omega)
    rw [htk] at hall ⊢
    have hyes : numD d = some (numF 0 d) := by unfold numD; rw [if_pos hall]
    rw [hyes]
    generalize numF 0 d = a at *
    ((conv => whnf); (repeat ((fail); (conv => whnf))))
    ((repeat ((first | (refine VL.cons ?_) | (refine VL.nil ?_) | (refine VC.seqS rfl ?_) | (refine VC.region ?_) | (refine VC.cond ?_) | (refine VC.exit ?_) | (refine VC.ret ?_) | (refine VBool.dF (by omega) ?_) | (refine VRead.lenT ?_) | (refine VC.seq ?_)); (conv => whnf))))
    refine ⟨?_, rfl⟩
    by_cases ha : 1 ≤ a
    · show Ending.returned (.tuple #[.int .i64 (a : Int), .bool (decide ((1 : Int) ≤ (a : Int)))]) = _
      rw [decide_eq_true (by omega)]
      unfold num1
      simp only
      rw [if_pos ha]
      rfl
    · obtain rfl : a = 0 := by omega
      rfl
theorem refName_any (i : Int) (w : World) (hi : -9223372036854775808 ≤ i ∧ i ≤ 9223372036854775807) :
    Calls Try.prog 16 #[.int .i64 i] w fun e w' => e = .returned (.string (txt (snName i))) ∧ w' = w := by
  refine calls_vc Try.func16 rfl (by kernel_rfl) ?_
  by_cases h1 : i < 1
  · have e : snName i = [] := by unfold snName; rw [if_pos (.inl h1)]
    rw [e]
    ((conv => whnf); (repeat ((first | (refine VL.cons ?_) | (refine VL.nil ?_) | (refine VC.seqS rfl ?_) | (refine VC.region ?_)); (conv => whnf))))
    ((repeat ((first | (refine VL.cons ?_) | (refine VL.nil ?_) | (refine VC.seqS rfl ?_) | (refine VC.region ?_) | (refine VC.cond ?_) | (refine VC.ret ?_) | (refine VBool.t ?_) | (refine VBool.dT (by omega) ?_) | (refine VC.seq ?_)); (conv => whnf))))
    exact ⟨rfl, rfl⟩
  by_cases h2 : 1099511627776 < i
  · have e : snName i = [] := by unfold snName; rw [if_pos (.inr h2)]
    rw [e]
    ((conv => whnf); (repeat ((first | (refine VL.cons ?_) | (refine VL.nil ?_) | (refine VC.seqS rfl ?_) | (refine VC.region ?_)); (conv => whnf))))
    ((repeat ((first | (refine VL.cons ?_) | (refine VL.nil ?_) | (refine VC.seqS rfl ?_) | (refine VC.region ?_) | (refine VC.cond ?_) | (refine VC.ret ?_) | (refine VBool.f ?_) | (refine VBool.dT (by omega) ?_) | (refine VBool.dF (by omega) ?_) | (refine VC.seq ?_)); (conv => whnf))))
    exact ⟨rfl, rfl⟩
  obtain ⟨n, rfl⟩ : ∃ n : Nat, i = (n : Int) := ⟨i.toNat, by omega⟩
  rw [snName_of (by omega) (by omega)]
  ((conv => whnf); (repeat ((first | (refine VL.cons ?_) | (refine VL.nil ?_) | (refine VC.seqS rfl ?_) | (refine VC.region ?_)); (conv => whnf))))
  ((repeat ((first | (refine VL.cons ?_) | (refine VL.nil ?_) | (refine VC.seqS rfl ?_) | (refine VC.region ?_) | (refine VC.cond ?_) | (refine VC.skip ?_) | (refine VBool.f ?_) | (refine VBool.dF (by omega) ?_) | (refine VC.seq ?_)); (conv => whnf))))
  refine VCall.of (refNumbered_any snPre n 13 w (by decide) (by omega) (by decide)) ?_
  rintro e w1 ⟨rfl, rfl⟩
  refine ⟨_, rfl, ?_⟩
  ((conv => whnf); (repeat ((first | (refine VL.cons ?_) | (refine VL.nil ?_) | (refine VC.ret ?_)); (conv => whnf))))
  ((repeat ((fail); (conv => whnf))))
  exact ⟨rfl, rfl⟩
theorem refSnNumber_any (s : List UInt8) (w : World) (hs : s.length ≤ 9223372036854775807) :
    Calls Try.prog 15 #[.string (txt s)] w fun e w' => e = .returned (numV (snNum s)) ∧ w' = w := by
  refine calls_vc Try.func15 rfl (by kernel_rfl) ?_
  ((conv => whnf); (repeat ((first | (refine VL.cons ?_) | (refine VL.nil ?_) | (refine VC.seqS rfl ?_) | (refine VC.region ?_)); (conv => whnf))))
  ((repeat ((fail); (conv => whnf))))
  refine VCall.of (refNumber_any snPre s 13 w (by decide) hs (by decide)) ?_
  rintro e w1 ⟨rfl, eW⟩
  obtain rfl := eW.symm
  refine ⟨_, rfl, ?_⟩
  cases hN : numN snPre 13 s with
  | none =>
    have e0 : snNum s = none := by unfold snNum; rw [hN]
    ((conv => whnf); (repeat ((first | (refine VL.cons ?_) | (refine VL.nil ?_)); (conv => whnf))))
    ((repeat ((first | (refine VL.cons ?_) | (refine VL.nil ?_) | (refine VC.seqS rfl ?_) | (refine VC.region ?_) | (refine VC.cond ?_) | (refine VC.ret ?_) | (refine VBool.t ?_) | (refine VC.seq ?_)); (conv => whnf))))
    exact ⟨by rw [e0]; rfl, rfl⟩
  | some n =>
    by_cases h1 : 1 ≤ n
    · have en : num1 (some n) = some n := by unfold num1; simp only; rw [if_pos h1]
      rw [en]
      by_cases h2 : n ≤ 1099511627776
      · have e0 : snNum s = some n := by unfold snNum; rw [hN]; simp only; rw [if_pos ⟨h1, h2⟩]
        ((conv => whnf); (repeat ((first | (refine VL.cons ?_) | (refine VL.nil ?_)); (conv => whnf))))
        ((repeat ((first | (refine VL.cons ?_) | (refine VL.nil ?_) | (refine VC.seqS rfl ?_) | (refine VC.region ?_) | (refine VC.cond ?_) | (refine VC.ret ?_) | (refine VC.skip ?_) | (refine VBool.f ?_) | (refine VBool.dF (by omega) ?_) | (refine VC.seq ?_)); (conv => whnf))))
        exact ⟨by rw [e0]; rfl, rfl⟩
      · have e0 : snNum s = none := by unfold snNum; rw [hN]; simp only; rw [if_neg (fun h => h2 h.2)]
        ((conv => whnf); (repeat ((first | (refine VL.cons ?_) | (refine VL.nil ?_)); (conv => whnf))))
        ((repeat ((first | (refine VL.cons ?_) | (refine VL.nil ?_) | (refine VC.seqS rfl ?_) | (refine VC.region ?_) | (refine VC.cond ?_) | (refine VC.ret ?_) | (refine VBool.f ?_) | (refine VBool.dT (by omega) ?_) | (refine VC.seq ?_)); (conv => whnf))))
        exact ⟨by rw [e0]; rfl, rfl⟩
    · have en : num1 (some n) = none := by unfold num1; simp only; rw [if_neg h1]
      rw [en]
      have e0 : snNum s = none := by unfold snNum; rw [hN]; simp only; rw [if_neg (fun h => h1 h.1)]
      ((conv => whnf); (repeat ((first | (refine VL.cons ?_) | (refine VL.nil ?_)); (conv => whnf))))
      ((repeat ((first | (refine VL.cons ?_) | (refine VL.nil ?_) | (refine VC.seqS rfl ?_) | (refine VC.region ?_) | (refine VC.cond ?_) | (refine VC.ret ?_) | (refine VBool.t ?_) | (refine VC.seq ?_)); (conv => whnf))))
      exact ⟨by rw [e0]; rfl, rfl⟩
end Go.Proofs.Ytebeidnmplnlpaa
end

section
set_option maxRecDepth 10000
namespace Go.Proofs.Ytebeidnmplnlpaa
set_option linter.unusedVariables false
open Go.RowKit

theorem andT_assoc (A : Int × DS) (f g : DS → Int × DS) : andT (andT A f) g = andT A (fun s => andT (f s) g) := by
  by_cases h : A.1 = 0
  · rw [andT_ok h, andT_ok h]
  · rw [andT_no h, andT_no h, andT_no h]
theorem andT_id (A : Int × DS) : andT A (fun s => (0, s)) = A := by
  by_cases h : A.1 = 0
  · rw [andT_ok h]; exact Prod.ext h.symm rfl
  · rw [andT_no h]
theorem andT_here (A : Int × DS) (f : DS → DS → Int × DS) : andT A (fun s => f s A.2) = andT A (fun s => f s s) := by
  by_cases h : A.1 = 0
  · rw [andT_ok h, andT_ok h]
  · rw [andT_no h, andT_no h]
set_option maxHeartbeats 4000000 in
theorem refSave_any (W : World) (U : Foot) (r : Nat) (S : DS) (i t : Int) (n c : Nat) (A : Option Addr) (data : List UInt8) (h : Rsk W U r S) (hr : Reads W W.heap.size 1 A n (bv data)) (ho : Off U A n) (hnc : n ≤ c) (hn : n ≤ 140737488351232)
    (hi : -9223372036854775808 ≤ i ∧ i ≤ 9223372036854775807) (ht : -9223372036854775808 ≤ t ∧ t ≤ 9223372036854775807) (hc : S.k.calls + 2000 < 1000000) :
    Calls Try.prog 33 #[.pointer (some ⟨r, 0, none⟩), .int .i64 i, .int .i64 t, .slice A n c] W fun e W' => e = .returned (.int .i64 (S.save i t data).1) ∧ ∃ U', Rsk W' U' r (S.save i t data).2 ∧ Step W U W' U' := by
  have hlen : data.length = n := by have := hr.1; rw [bv_length] at this; omega
  refine calls_vc Try.func33 rfl (by kernel_rfl) ?_
  ((conv => whnf); (repeat ((first | (refine VL.cons ?_) | (refine VL.nil ?_) | (refine VC.seqS rfl ?_) | (refine VC.region ?_)); (conv => whnf))))
  ((repeat ((first | (refine VL.cons ?_) | (refine VC.seqS rfl ?_) | (refine VC.region ?_) | (refine VC.seq ?_)); (conv => whnf))))
  refine VCall.of (refName_any i W hi) ?_
  rintro e W' ⟨rfl, eW⟩
  obtain rfl := eW.symm
  refine ⟨_, rfl, ?_⟩
  have bad : svBad i t n → S.save i t data = (1, S) := fun hb => by unfold DS.save; rw [if_pos (by rw [hlen]; exact hb)]
  by_cases b1 : snName i = []
  · have b1' : txt (snName i) = txt [] := by rw [b1]
    rw [bad (.inl b1)]
    ((conv => whnf); (repeat ((first | (refine VL.cons ?_)); (conv => whnf))))
    (repeat (first | ((first | (refine VL.cons ?_) | (refine VL.nil ?_) | (refine VC.seqS rfl ?_) | (refine VC.region ?_) | (refine VC.cond ?_) | (refine VC.ret ?_) | (refine VBool.t ?_)); (conv => whnf)) | (refine VBool.dT b1' ?_; (conv => whnf))))
    exact ⟨rfl, U, h, Step.refl _ _⟩
  have b1' : ¬ txt (snName i) = txt [] := fun e => b1 (txt_inj.1 e)
  by_cases b2 : t < 1
  · rw [bad (.inr (.inl b2))]
    ((conv => whnf); (repeat ((first | (refine VL.cons ?_)); (conv => whnf))))
    (repeat (first | ((first | (refine VL.cons ?_) | (refine VL.nil ?_) | (refine VC.seqS rfl ?_) | (refine VC.region ?_) | (refine VC.cond ?_) | (refine VC.ret ?_) | (refine VBool.t ?_) | (refine VBool.f ?_) | (refine VBool.dT (by omega) ?_)); (conv => whnf)) | (refine VBool.dF b1' ?_; (conv => whnf))))
    exact ⟨rfl, U, h, Step.refl _ _⟩
  by_cases b3 : 1099511627776 < t
  · rw [bad (.inr (.inr (.inl b3)))]
    ((conv => whnf); (repeat ((first | (refine VL.cons ?_)); (conv => whnf))))
    (repeat (first | ((first | (refine VL.cons ?_) | (refine VL.nil ?_) | (refine VC.seqS rfl ?_) | (refine VC.region ?_) | (refine VC.cond ?_) | (refine VC.ret ?_) | (refine VBool.t ?_) | (refine VBool.f ?_) | (refine VBool.dT (by omega) ?_) | (refine VBool.dF (by omega) ?_)); (conv => whnf)) | (refine VBool.dF b1' ?_; (conv => whnf))))
    exact ⟨rfl, U, h, Step.refl _ _⟩
  by_cases b4 : n < 1
  · rw [bad (.inr (.inr (.inr (.inl b4))))]
    ((conv => whnf); (repeat ((first | (refine VL.cons ?_)); (conv => whnf))))
    (repeat (first | ((first | (refine VL.cons ?_) | (refine VL.nil ?_) | (refine VC.seqS rfl ?_) | (refine VC.region ?_) | (refine VC.cond ?_) | (refine VC.ret ?_) | (refine VBool.t ?_) | (refine VBool.f ?_) | (refine VBool.dT (by omega) ?_) | (refine VBool.dF (by omega) ?_) | (refine VRead.lenS ?_)); (conv => whnf)) | (refine VBool.dF b1' ?_; (conv => whnf))))
    exact ⟨rfl, U, h, Step.refl _ _⟩
  by_cases b5 : 1048576 < n
  · rw [bad (.inr (.inr (.inr (.inr b5))))]
    ((conv => whnf); (repeat ((first | (refine VL.cons ?_)); (conv => whnf))))
    (repeat (first | ((first | (refine VL.cons ?_) | (refine VL.nil ?_) | (refine VC.seqS rfl ?_) | (refine VC.region ?_) | (refine VC.cond ?_) | (refine VC.ret ?_) | (refine VBool.f ?_) | (refine VBool.dT (by omega) ?_) | (refine VBool.dF (by omega) ?_) | (refine VRead.lenS ?_)); (conv => whnf)) | (refine VBool.dF b1' ?_; (conv => whnf))))
    exact ⟨rfl, U, h, Step.refl _ _⟩
  obtain ⟨hnl, i1, i2⟩ := snName_ok b1
  have hok : SvOk i t data := ⟨i1, i2, by omega, by omega, by omega, by omega⟩
  have hbs := hok.bs
  rw [save_eq hok, hlen]
  rw [hlen] at hbs
  obtain ⟨fs, hfs⟩ : ∃ fs, hdB i t n :: chunks data = fs := ⟨_, rfl⟩
  have hfl : fs.length = 1 + (chunks data).length := by rw [← hfs, List.length_cons]; omega
  have hcc := chunks_count 1049 data (by omega)
  obtain ⟨RF, hRF⟩ : ∃ RF, andT (andT (andT (andT (S.create frN) fun S1 => S1.appends frN fs) fun S2 => S2.sync frN) fun S3 => S3.rename frN (snName i)) (fun S4 => S4.clear snPre (snName i) S4.keys) = RF := ⟨_, rfl⟩
  have eRF : (andT (S.create frN) fun S1 => andT (S1.appends frN (hdB i t n :: chunks data)) fun S2 => andT (S2.sync frN) fun S3 => andT (S3.rename frN (snName i)) fun S4 => S4.clear snPre (snName i) S4.keys) = RF := by
    rw [← hRF, hfs]
    simp only [andT_assoc]
  rw [eRF]
  clear bad eRF
  ((conv => whnf); (repeat ((first | (refine VL.cons ?_)); (conv => whnf))))
  (repeat (first | ((first | (refine VL.cons ?_) | (refine VL.nil ?_) | (refine VC.seqS rfl ?_) | (refine VC.region ?_) | (refine VC.cond ?_) | (refine VC.skip ?_) | (refine VBool.f ?_) | (refine VBool.dF (by omega) ?_) | (refine VRead.lenS ?_)); (conv => whnf)) | (refine VBool.dF b1' ?_; (conv => whnf))))
  refine VCall.of (pCreate W U r S frN h (by omega) (by decide)) ?_
  rintro e W1 ⟨rfl, U1, hr1, st1⟩
  refine ⟨_, rfl, ?_⟩
  have hcr : (S.create frN).2.k.calls = S.k.calls + 1 := DS.create_calls _ _
  obtain ⟨hrd1, _⟩ := st1.off hr (Nat.le_refl _) ho
  generalize S.create frN = R1 at *
  ((conv => whnf); (repeat ((first | (refine VL.cons ?_) | (refine VL.nil ?_) | (refine VC.seqS rfl ?_) | (refine VC.region ?_)); (conv => whnf))))
  ((repeat ((fail); (conv => whnf))))
  refine VCall.of (snFrames_any i t A n c data W1 hi ht (hrd1.more st1.size) (by omega) hnc) ?_
  rintro e W2 ⟨A2, k2, c2, rfl, hk2, hY2, hB2⟩
  refine ⟨_, rfl, ?_⟩
  rw [hfs] at hY2
  have hY : YRow W2 (NotU U1) W1.heap.size (.slice A2 k2 c2) (fs.map Frame.put) := hY2.more (Nat.le_refl _) (fun j _ hj hu => by have h1 : W1.heap.size ≤ j := hj; have := hr1.lt j hu; omega)
  have st2 := st1.trans (Step.new (U := U1) hB2)
  have hr2 := hr1.below hB2
  clear hY2 hr1 st1 hrd1
  have hkf : fs.length = k2 := by omega
  obtain ⟨R2, hR2⟩ : ∃ R2, andT R1 (fun S1 => S1.appends frN fs) = R2 := ⟨_, rfl⟩
  rw [hR2] at hRF
  ((conv => whnf); (repeat ((first | (refine VL.cons ?_) | (refine VL.nil ?_)); (conv => whnf))))
  ((repeat ((fail); (conv => whnf))))
  refine VC.cut [9] [(9, 9), (11, 11), (41, 56)] (fun vs X => vs = [.int .i64 R2.1] ∧ R2.2.k.calls ≤ S.k.calls + 1 + k2 ∧ ∃ U', Rsk X U' r R2.2 ∧ Step W U X U') (by kernel_rfl) ?_ ?_
  · ((conv => whnf); (repeat ((first | (refine VL.cons ?_) | (refine VL.nil ?_) | (refine VC.seqS rfl ?_) | (refine VC.region ?_) | (refine VC.block ?_)); (conv => whnf))))
    ((repeat ((fail); (conv => whnf))))
    refine VC.loop [9, 11] [(9, 9), (11, 11), (41, 56)] (fun q vs X => ∃ (j : Nat) (E : Int × DS) (U' : Foot), vs = [.int .i64 E.1, .int .i64 (j : Int)] ∧ q = k2 - j ∧ j ≤ k2 ∧ andT E (fun S1 => S1.appends frN (fs.drop j)) = R2 ∧ E.2.k.calls ≤ S.k.calls + 1 + j ∧
        Rsk X U' r E.2 ∧ YRow X (NotU U') W1.heap.size (.slice A2 k2 c2) (fs.map Frame.put) ∧ Step W U X U') (by kernel_rfl)
      ⟨_, 0, R1, U1, rfl, rfl, by omega, hR2, by omega, hr2, hY, st2⟩ ?_
    rintro q τ vs X ⟨j, E, U', rfl, rfl, hj, hE, hcl, hX, hYX, st⟩
    by_cases hlt : j < k2
    case neg =>
      rw [List.drop_eq_nil_of_le (by omega)] at hE
      have hE' : andT E (fun S1 => (0, S1)) = R2 := hE
      rw [andT_id] at hE'
      subst hE'
      ((conv => whnf); (repeat ((fail); (conv => whnf))))
      ((repeat ((first | (refine VL.cons ?_) | (refine VL.nil ?_) | (refine VC.seqS rfl ?_) | (refine VC.region ?_) | (refine VC.cond ?_) | (refine VC.exit ?_) | (refine VBool.f ?_) | (refine VBool.dF (by omega) ?_) | (refine VRead.lenS ?_) | (refine VC.seq ?_)); (conv => whnf))))
      exact ⟨rfl, by omega, U', hX, st⟩
    by_cases h0 : E.1 = 0
    case neg =>
      rw [andT_no h0] at hE
      subst hE
      ((conv => whnf); (repeat ((fail); (conv => whnf))))
      (repeat (first | ((first | (refine VL.cons ?_) | (refine VL.nil ?_) | (refine VC.seqS rfl ?_) | (refine VC.region ?_) | (refine VC.cond ?_) | (refine VC.exit ?_) | (refine VBool.t ?_) | (refine VBool.dT (by omega) ?_) | (refine VBool.dF (by omega) ?_) | (refine VRead.lenS ?_) | (refine VC.seq ?_)); (conv => whnf)) | (refine VBool.dF h0 ?_; (conv => whnf))))
      exact ⟨rfl, by omega, U', hX, st⟩
    obtain ⟨b, hb⟩ : ∃ b, fs[j]? = some b := ⟨_, List.getElem?_eq_getElem (by omega)⟩
    have hbl := (hfs ▸ hbs) b (List.mem_of_getElem? hb)
    have hpl := Frame.put_len b
    have hpi := (Wire.int_len (b.length : Int)).2
    obtain ⟨x, A', m, k, rfl, hxl, hcell, hmk, hml, hL⟩ := hYX.at_ (i := j) (l := Frame.put b) (by rw [List.getElem?_map, hb]; rfl)
    have hdr : fs.drop j = b :: fs.drop (j + 1) := by
      rw [List.drop_eq_getElem_cons (by omega)]
      congr 1
      exact (List.getElem?_eq_some_iff.1 hb).2
    have hE' : andT (E.2.append frN (Frame.put b)) (fun S1 => S1.appends frN (fs.drop (j + 1))) = R2 := by
      rw [← hE, andT_ok h0, hdr]
      rfl
    have hac : (E.2.append frN (Frame.put b)).2.k.calls = E.2.k.calls + 1 := DS.append_calls
    ((conv => whnf); (repeat ((fail); (conv => whnf))))
    (repeat (first | ((first | (refine VL.cons ?_) | (refine VL.nil ?_) | (refine VC.seqS rfl ?_) | (refine VC.region ?_) | (refine VC.cond ?_) | (refine VC.block ?_) | (refine VC.skip ?_) | (refine VBool.t ?_) | (refine VBool.dT (by omega) ?_) | (refine VRead.lenS ?_) | (refine VRead.load1 (by assumption) ?_) | (refine VRead.at1 (by omega) ?_) | (refine VC.seq ?_)); (conv => whnf)) | (refine VBool.dT h0 ?_; (conv => whnf))))
    refine VCall.of (pAppend X U' r E.2 frN m k A' (Frame.put b) hX (by omega) (by decide) (Src.of_lies hL) (by omega) hmk) ?_
    rintro e X1 ⟨rfl, U3, hX1, st3⟩
    refine ⟨_, rfl, ?_⟩
    ((conv => whnf); (repeat ((first | (refine VL.cons ?_) | (refine VL.nil ?_) | (refine VC.region ?_)); (conv => whnf))))
    ((repeat ((first | (refine VL.cons ?_) | (refine VL.nil ?_) | (refine VWrap.i64 (by omega) (by omega) ?_)); (conv => whnf))))
    exact ⟨_, by omega, j + 1, E.2.append frN (Frame.put b), U3, rfl, rfl, by omega, hE', by omega, hX1, hYX.step st3, st.trans st3⟩
  rintro τ vs X ⟨rfl, hcl2, U2, hX2, stX2⟩
  obtain ⟨R3, hR3⟩ : ∃ R3, andT R2 (fun S2 => S2.sync frN) = R3 := ⟨_, rfl⟩
  rw [hR3] at hRF
  refine VC.cut [9] [(9, 9), (57, 60)] (fun vs X => vs = [.int .i64 R3.1] ∧ R3.2.k.calls ≤ S.k.calls + 2 + k2 ∧ ∃ U', Rsk X U' r R3.2 ∧ Step W U X U') (by kernel_rfl) ?_ ?_
  · by_cases h0 : R2.1 = 0
    case neg =>
      rw [andT_no h0] at hR3
      subst hR3
      ((conv => whnf); (repeat ((first | (refine VL.cons ?_) | (refine VL.nil ?_) | (refine VC.seqS rfl ?_) | (refine VC.region ?_) | (refine VC.cond ?_)); (conv => whnf))))
      (repeat (first | ((first | (refine VC.skip ?_) | (refine VBool.dF (by omega) ?_)); (conv => whnf)) | (refine VBool.dF h0 ?_; (conv => whnf))))
      exact ⟨rfl, by omega, U2, hX2, stX2⟩
    rw [andT_ok h0] at hR3
    subst hR3
    have hac : (R2.2.sync frN).2.k.calls = R2.2.k.calls + 1 := DS.sync_calls
    ((conv => whnf); (repeat ((first | (refine VL.cons ?_) | (refine VL.nil ?_) | (refine VC.seqS rfl ?_) | (refine VC.region ?_) | (refine VC.cond ?_)); (conv => whnf))))
    (repeat (first | ((first | (refine VL.cons ?_) | (refine VC.region ?_) | (refine VBool.dT (by omega) ?_)); (conv => whnf)) | (refine VBool.dT h0 ?_; (conv => whnf))))
    refine VCall.of (pSync X U2 r R2.2 frN hX2 (by omega) (by decide)) ?_
    rintro e X1 ⟨rfl, U3, hX1, st3⟩
    refine ⟨_, rfl, ?_⟩
    ((conv => whnf); (repeat ((first | (refine VL.cons ?_) | (refine VL.nil ?_)); (conv => whnf))))
    ((repeat ((fail); (conv => whnf))))
    exact ⟨rfl, by omega, U3, hX1, stX2.trans st3⟩
  clear hX2 stX2 hY hr2 st2
  rintro τ vs X ⟨rfl, hcl3, U3, hX3, stX3⟩
  obtain ⟨R4, hR4⟩ : ∃ R4, andT R3 (fun S3 => S3.rename frN (snName i)) = R4 := ⟨_, rfl⟩
  rw [hR4] at hRF
  refine VC.cut [9] [(9, 9), (61, 66)] (fun vs X => vs = [.int .i64 R4.1] ∧ R4.2.k.calls ≤ S.k.calls + 3 + k2 ∧ ∃ U', Rsk X U' r R4.2 ∧ Step W U X U') (by kernel_rfl) ?_ ?_
  · by_cases h0 : R3.1 = 0
    case neg =>
      rw [andT_no h0] at hR4
      subst hR4
      ((conv => whnf); (repeat ((first | (refine VL.cons ?_) | (refine VL.nil ?_) | (refine VC.seqS rfl ?_) | (refine VC.region ?_) | (refine VC.cond ?_)); (conv => whnf))))
      (repeat (first | ((first | (refine VC.skip ?_) | (refine VBool.dF (by omega) ?_)); (conv => whnf)) | (refine VBool.dF h0 ?_; (conv => whnf))))
      exact ⟨rfl, by omega, U3, hX3, stX3⟩
    rw [andT_ok h0] at hR4
    subst hR4
    have hac : (R3.2.rename frN (snName i)).2.k.calls = R3.2.k.calls + 1 := DS.rename_calls
    ((conv => whnf); (repeat ((first | (refine VL.cons ?_) | (refine VL.nil ?_) | (refine VC.seqS rfl ?_) | (refine VC.region ?_) | (refine VC.cond ?_)); (conv => whnf))))
    (repeat (first | ((first | (refine VL.cons ?_) | (refine VC.region ?_) | (refine VBool.dT (by omega) ?_)); (conv => whnf)) | (refine VBool.dT h0 ?_; (conv => whnf))))
    refine VCall.of (refName_any i X hi) ?_
    rintro e X' ⟨rfl, eW⟩
    obtain rfl := eW.symm
    refine ⟨_, rfl, ?_⟩
    ((conv => whnf); (repeat ((first | (refine VL.cons ?_)); (conv => whnf))))
    ((repeat ((fail); (conv => whnf))))
    refine VCall.of (pRename X U3 r R3.2 frN (snName i) hX3 (by omega) (by decide) (by omega)) ?_
    rintro e X1 ⟨rfl, U4, hX1, st4⟩
    refine ⟨_, rfl, ?_⟩
    ((conv => whnf); (repeat ((first | (refine VL.cons ?_) | (refine VL.nil ?_)); (conv => whnf))))
    ((repeat ((fail); (conv => whnf))))
    exact ⟨rfl, by omega, U4, hX1, stX3.trans st4⟩
  clear hX3 stX3
  rintro τ vs X ⟨rfl, hcl4, U4, hX4, stX4⟩
  have hwf := hX4.wf.t
  ((conv => whnf); (repeat ((first | (refine VL.cons ?_) | (refine VC.seqS rfl ?_) | (refine VC.region ?_)); (conv => whnf))))
  ((repeat ((fail); (conv => whnf))))
  refine VCall.of (pList X U4 r R4.2 hX4) ?_
  rintro e Y ⟨Al, kl, rfl, hO, hBY⟩
  refine ⟨_, rfl, ?_⟩
  have hfO : Free U4 (.slice Al R4.2.t.length kl) := Free.new hO hX4.lt
  have hY4 := hX4.below hBY
  have stY := stX4.trans (Step.new (U := U4) hBY)
  have hRF' : andT R4 (fun S4 => S4.clear snPre (snName i) (R4.2.keys.drop 0)) = RF := by
    rw [← hRF]
    exact andT_here R4 (fun s q => s.clear snPre (snName i) q.keys)
  have hkl : R4.2.keys.length = R4.2.t.length := by unfold DS.keys; simp
  have hkn : ∀ (j : Nat) (x : List UInt8), R4.2.keys[j]? = some x → x.length ≤ 32 := fun j x hx => by
    unfold DS.keys at hx
    rw [List.getElem?_map] at hx
    obtain ⟨p, hp, rfl⟩ := Option.map_eq_some_iff.1 hx
    exact (hwf.names p (List.mem_of_getElem? hp)).2
  have hOk : Y.ownsRow X.heap.size 9 1 (.slice Al R4.2.t.length kl) R4.2.t.length (R4.2.keys.map encStr) := hO
  have hfew := hwf.few
  clear hX4 stX4 hRF hO
  generalize R4.2.keys = ks at *
  generalize R4.2.t.length = N at *
  ((conv => whnf); (repeat ((first | (refine VL.cons ?_) | (refine VL.nil ?_)); (conv => whnf))))
  ((repeat ((fail); (conv => whnf))))
  refine VC.cut [9] [(9, 9), (13, 13), (69, 107)] (fun vs X => vs = [.int .i64 RF.1] ∧ ∃ U', Rsk X U' r RF.2 ∧ Step W U X U') (by kernel_rfl) ?_ ?_
  · ((conv => whnf); (repeat ((first | (refine VL.cons ?_) | (refine VL.nil ?_) | (refine VC.seqS rfl ?_) | (refine VC.region ?_) | (refine VC.block ?_)); (conv => whnf))))
    ((repeat ((fail); (conv => whnf))))
    refine VC.loop [9, 13] [(9, 9), (13, 13), (69, 107)] (fun q vs Z => ∃ (j : Nat) (E : Int × DS) (U' : Foot), vs = [.int .i64 E.1, .int .i64 (j : Int)] ∧ q = N - j ∧ j ≤ N ∧ andT E (fun S4 => S4.clear snPre (snName i) (ks.drop j)) = RF ∧ E.2.k.calls ≤ S.k.calls + 3 + k2 + j ∧
        Rsk Z U' r E.2 ∧ Z.ownsRow X.heap.size 9 1 (.slice Al N kl) N (ks.map encStr) ∧ Free U' (.slice Al N kl) ∧ Step W U Z U') (by kernel_rfl)
      ⟨_, 0, R4, U4, rfl, rfl, by omega, hRF', by omega, hY4, hOk, hfO, stY⟩ ?_
    clear hRF' hY4 hOk hfO stY
    rintro q τ vs Z ⟨j, E, U', rfl, rfl, hj, hE, hcl, hZ, hOZ, hfZ, st⟩
    by_cases hlt : j < N
    case neg =>
      rw [List.drop_eq_nil_of_le (by omega)] at hE
      have hE' : andT E (fun S1 => (0, S1)) = RF := hE
      rw [andT_id] at hE'
      subst hE'
      ((conv => whnf); (repeat ((fail); (conv => whnf))))
      ((repeat ((first | (refine VL.cons ?_) | (refine VL.nil ?_) | (refine VC.seqS rfl ?_) | (refine VC.region ?_) | (refine VC.cond ?_) | (refine VC.exit ?_) | (refine VBool.f ?_) | (refine VBool.dF (by omega) ?_) | (refine VRead.lenS ?_) | (refine VC.seq ?_)); (conv => whnf))))
      exact ⟨rfl, U', hZ, st⟩
    by_cases h0 : E.1 = 0
    case neg =>
      rw [andT_no h0] at hE
      subst hE
      ((conv => whnf); (repeat ((fail); (conv => whnf))))
      (repeat (first | ((first | (refine VL.cons ?_) | (refine VL.nil ?_) | (refine VC.seqS rfl ?_) | (refine VC.region ?_) | (refine VC.cond ?_) | (refine VC.exit ?_) | (refine VBool.t ?_) | (refine VBool.dT (by omega) ?_) | (refine VBool.dF (by omega) ?_) | (refine VRead.lenS ?_) | (refine VC.seq ?_)); (conv => whnf)) | (refine VBool.dF h0 ?_; (conv => whnf))))
      exact ⟨rfl, U', hZ, st⟩
    obtain ⟨x, hx⟩ : ∃ x, ks[j]? = some x := ⟨_, List.getElem?_eq_getElem (by omega)⟩
    have hxl := hkn j x hx
    have hxz : ByteArray.size (txt x) = x.length := txt_size x
    have hdr : ks.drop j = x :: ks.drop (j + 1) := by
      rw [List.drop_eq_getElem_cons (by omega)]
      congr 1
      exact (List.getElem?_eq_some_iff.1 hx).2
    rw [andT_ok h0, hdr, clear_cons] at hE
    obtain ⟨ad, u, rfl, had, hu, hcell⟩ := (Reads.row hOZ).at_ hlt
    obtain ⟨x', hx', rfl⟩ := map_at hu
    rw [hx] at hx'
    obtain rfl := Option.some.inj hx'
    have hB1 : Below Z.heap.size Z (Z.drewN 1) := below_drewN (Below.refl _ _) 1
    have hc1 : ∀ V, Below Z.heap.size Z V → V.cell? (ad.add j) = some (.string (txt x)) := fun V hV => (World.cell?_of_block (by rw [adb]; exact hV.block _ had)).trans hcell
    have skip : ¬ (isPre snPre x = true ∧ x ≠ snName i) → andT E (fun S4 => S4.clear snPre (snName i) (ks.drop (j + 1))) = RF := fun hh => by
      rw [if_neg hh] at hE
      rw [andT_ok h0]
      exact hE
    by_cases hp : isPre snPre x = true
    case neg =>
      have hsk := skip (fun hh => hp hh.1)
      ((conv => whnf); (repeat ((fail); (conv => whnf))))
      (repeat (first | ((first | (refine VL.cons ?_) | (refine VL.nil ?_) | (refine VC.seqS rfl ?_) | (refine VC.region ?_) | (refine VC.draw ?_) | (refine VC.cond ?_) | (refine VC.block ?_) | (refine VC.skip ?_) | (refine VBool.t ?_) | (refine VBool.dT (by omega) ?_) | (refine VRead.lenS ?_) | (refine VC.seq ?_)); (conv => whnf)) | (refine VBool.dT h0 ?_; (conv => whnf))))
      refine VDraw.seg (fun V => Below Z.heap.size Z V) [([0, 1, 2, 3, 4, 5, 6, 7, 8, 9, 10, 11, 12, 13, 14, 15, 16, 17, 18, 19], 20)] [21, 22] (by kernel_rfl) (by kernel_rfl) hB1 ?_
      generalize Z.drewN 1 = Z1 at *
      by_cases h5 : 5 ≤ x.length
      · have ht5 : ¬ txt (x.take 5) = txt snPre := fun e => hp (by unfold isPre; exact decide_eq_true (txt_inj.1 e))
        (conv => whnf)
        (repeat ((first | (refine VRead.at1 hlt ?_) | (refine VRead.load (fun V hV => hc1 V hV) ?_) | (refine VQ.cons ?_) | (refine VG.cons ?_) | (refine VBool.t ?_) | (refine VBool.dT (by omega) ?_) | (refine VRead.lenT ?_)); (conv => whnf)))
        refine VRead.txtH 5 (by omega) h5 ?_
        (conv => whnf)
        (repeat (first | ((first | (refine VL.cons ?_) | (refine VL.nil ?_) | (refine VC.region ?_) | (refine VC.cond ?_) | (refine VC.skip ?_) | (refine VQ.cons ?_) | (refine VQ.nil ?_) | (refine VG.nil ?_) | (refine VBool.t ?_) | (refine VBool.f ?_) | (refine VWrap.i64 (by omega) (by omega) ?_)); (conv => whnf)) | (refine VBool.dF ht5 ?_; (conv => whnf))))
        exact ⟨_, by omega, j + 1, E, U', rfl, rfl, by omega, hsk, by omega, hZ.below hB1, rows_below hOZ hB1 (Nat.le_refl _), hfZ, st.trans (Step.new hB1)⟩
      · (conv => whnf)
        (repeat ((first | (refine VRead.at1 hlt ?_) | (refine VRead.load (fun V hV => hc1 V hV) ?_) | (refine VL.cons ?_) | (refine VL.nil ?_) | (refine VC.region ?_) | (refine VC.cond ?_) | (refine VC.skip ?_) | (refine VQ.cons ?_) | (refine VQ.nil ?_) | (refine VG.nil ?_) | (refine VG.cons ?_) | (refine VBool.f ?_) | (refine VBool.dF (by omega) ?_) | (refine VRead.lenT ?_) | (refine VWrap.i64 (by omega) (by omega) ?_)); (conv => whnf)))
        exact ⟨_, by omega, j + 1, E, U', rfl, rfl, by omega, hsk, by omega, hZ.below hB1, rows_below hOZ hB1 (Nat.le_refl _), hfZ, st.trans (Step.new hB1)⟩
    have h5 : 5 ≤ x.length := by
      have e : x.take snPre.length = snPre := of_decide_eq_true hp
      have := congrArg List.length e
      rw [List.length_take] at this
      have e2 : snPre.length = 5 := rfl
      omega
    have ht5 : txt (x.take 5) = txt snPre := by
      have e : x.take snPre.length = snPre := of_decide_eq_true hp
      exact congrArg txt e
    ((conv => whnf); (repeat ((fail); (conv => whnf))))
    (repeat (first | ((first | (refine VL.cons ?_) | (refine VL.nil ?_) | (refine VC.seqS rfl ?_) | (refine VC.region ?_) | (refine VC.draw ?_) | (refine VC.cond ?_) | (refine VC.block ?_) | (refine VC.skip ?_) | (refine VBool.t ?_) | (refine VBool.dT (by omega) ?_) | (refine VRead.lenS ?_) | (refine VC.seq ?_)); (conv => whnf)) | (refine VBool.dT h0 ?_; (conv => whnf))))
    refine VDraw.seg (fun V => Below Z.heap.size Z V) [([0, 1, 2, 3, 4, 5, 6, 7, 8, 9, 10, 11, 12, 13, 14, 15, 16, 17, 18, 19], 20)] [21, 22] (by kernel_rfl) (by kernel_rfl) hB1 ?_
    generalize Z.drewN 1 = Z1 at *
    (conv => whnf)
    (repeat ((first | (refine VRead.at1 hlt ?_) | (refine VRead.load (fun V hV => hc1 V hV) ?_) | (refine VQ.cons ?_) | (refine VG.cons ?_) | (refine VBool.t ?_) | (refine VBool.dT (by omega) ?_) | (refine VRead.lenT ?_)); (conv => whnf)))
    refine VRead.txtH 5 (by omega) h5 ?_
    (conv => whnf)
    (repeat ((first | (refine VBool.dT ht5 ?_) | (refine VRead.at1 hlt ?_) | (refine VRead.load (fun V hV => hc1 V hV) ?_) | (refine VQ.cons ?_) | (refine VQ.nil ?_) | (refine VBool.t ?_)); (conv => whnf)))
    refine VCall.of (refName_any i Z1 hi) ?_
    rintro e Z1' ⟨rfl, eW⟩
    obtain rfl := eW.symm
    refine ⟨_, rfl, ?_⟩
    (conv => whnf)
    refine Keep.mk hB1 ?_
    by_cases hx2 : x = snName i
    · have hx2' : txt x = txt (snName i) := by rw [hx2]
      have hsk := skip (fun hh => hh.2 hx2)
      (conv => whnf)
      (repeat (first | ((first | (refine VL.cons ?_) | (refine VL.nil ?_) | (refine VC.region ?_) | (refine VC.cond ?_) | (refine VC.skip ?_) | (refine VQ.cons ?_) | (refine VQ.nil ?_) | (refine VG.nil ?_) | (refine VBool.t ?_) | (refine VBool.nT (by omega) ?_) | (refine VWrap.i64 (by omega) (by omega) ?_)); (conv => whnf)) | (refine VBool.nF (not_not_intro hx2') ?_; (conv => whnf)) | (refine VBool.nT hx2' ?_; (conv => whnf))))
      exact ⟨_, by omega, j + 1, E, U', rfl, rfl, by omega, hsk, by omega, hZ.below hB1, rows_below hOZ hB1 (Nat.le_refl _), hfZ, st.trans (Step.new hB1)⟩
    · have hx2' : ¬ txt x = txt (snName i) := fun e => hx2 (txt_inj.1 e)
      rw [if_pos ⟨hp, hx2⟩] at hE
      have hac : (E.2.remove x).2.k.calls = E.2.k.calls + 1 := DS.remove_calls
      have hcZ := hc1 Z1 hB1
      (conv => whnf)
      (repeat (first | ((first | (refine VL.cons ?_) | (refine VC.region ?_) | (refine VC.cond ?_) | (refine VQ.cons ?_) | (refine VQ.nil ?_) | (refine VG.nil ?_) | (refine VBool.t ?_) | (refine VBool.nF (by omega) ?_) | (refine VRead.load1 (by assumption) ?_) | (refine VRead.at1 (by omega) ?_)); (conv => whnf)) | (refine VBool.nF hx2' ?_; (conv => whnf)) | (refine VRead.at1 hlt ?_; (conv => whnf))))
      refine VCall.of (pRemove Z1 U' r E.2 x (hZ.below hB1) (by omega) (by omega)) ?_
      rintro e Z2 ⟨rfl, U5, hZ2, st5⟩
      refine ⟨_, rfl, ?_⟩
      obtain ⟨hO5, hf5⟩ := st5.rows (rows_below hOZ hB1 (Nat.le_refl _)) hfZ
      ((conv => whnf); (repeat ((first | (refine VL.cons ?_) | (refine VL.nil ?_) | (refine VC.region ?_)); (conv => whnf))))
      ((repeat ((first | (refine VL.cons ?_) | (refine VL.nil ?_) | (refine VWrap.i64 (by omega) (by omega) ?_)); (conv => whnf))))
      exact ⟨_, by omega, j + 1, E.2.remove x, U5, rfl, rfl, by omega, hE, by omega, hZ2, hO5, hf5, (st.trans (Step.new hB1)).trans st5⟩
  rintro τ vs Z ⟨rfl, U', hZ, st⟩
  ((conv => whnf); (repeat ((first | (refine VL.cons ?_) | (refine VL.nil ?_) | (refine VC.seqS rfl ?_) | (refine VC.region ?_) | (refine VC.ret ?_)); (conv => whnf))))
  ((repeat ((fail); (conv => whnf))))
  exact ⟨rfl, U', hZ, st⟩
end Go.Proofs.Ytebeidnmplnlpaa
end

section
namespace Go.Proofs.Ytebeidnmplnlpaa
set_option linter.unusedVariables false
open Go.RowKit

namespace Frame
theorem get_end (l : List UInt8) : get l l.length = ([], 0, 3) := by
  unfold get
  rw [if_neg (by omega), if_pos rfl]
end Frame
end Go.Proofs.Ytebeidnmplnlpaa
end

section
namespace Go.Proofs.Ytebeidnmplnlpaa
set_option linter.unusedVariables false
open Go.RowKit

theorem f_info : (Try.prog.info? 153).map (fun i => (i.zero, i.size, i.bytes)) = some (some (.agg #[.int .i64 0, .slice none 0 0, .int .i64 0]), 3, 40) := by kernel_rfl
/-- the frames that have come, as the reference keeps them -/
def FmRow (l : List UInt8) (B : Nat) (v : Value) (k : Nat) (W : World) : Prop := ∃ xs : List Value, W.ownsRow B 153 3 v k xs ∧
  ∀ i, i < k → ∃ A m c, xs[3 * i]? = some (.int .i64 (Frame.place l i)) ∧ xs[3 * i + 1]? = some (.slice A m c) ∧ Own W B (.slice A m c) m (Frame.body l i)
theorem FmRow.below {l : List UInt8} {B C : Nat} {v : Value} {k : Nat} {W W' : World} (h : FmRow l B v k W) (hb : Below C W W') (hC : W.heap.size ≤ C) : FmRow l B v k W' := by
  obtain ⟨xs, h1, h2⟩ := h
  exact ⟨xs, rows_below h1 hb hC, fun i hi => by obtain ⟨A, m, c, e1, e2, e3⟩ := h2 i hi; exact ⟨A, m, c, e1, e2, e3.below hb hC⟩⟩
theorem Frame.one_ok {l : List UInt8} {k a : Nat} (hp : Frame.place l k = (a : Int)) (ha : a < l.length) : match Frame.first (l.drop a) with
    | none => ¬ Frame.okAt l k
    | some (b, _) => Frame.okAt l k ∧ Frame.body l k = b ∧ Frame.place l (k + 1) = (a : Int) + (Frame.put b).length := by
  have hG : Frame.get l (a : Int) = match Frame.first (l.drop a) with
      | none => ([], 0, 4)
      | some (body, r) => (body, (a : Int) + (Frame.put body).length, 0) := by
    unfold Frame.get
    rw [if_neg (by omega), if_neg (by omega), Int.toNat_natCast]
    all_goals (cases Frame.first (l.drop a) <;> rfl)
  have e : Frame.place l (k + 1) = (Frame.get l (Frame.place l k)).2.1 := rfl
  unfold Frame.okAt Frame.body
  rw [e, hp, hG]
  cases Frame.first (l.drop a) with
  | none => simp
  | some br => exact ⟨rfl, rfl, rfl⟩
theorem Frame.end_ok {l : List UInt8} {k : Nat} (hp : Frame.place l k = (l.length : Int)) : ¬ Frame.okAt l k := by
  unfold Frame.okAt; rw [hp, Frame.get_end]; decide
theorem Frame.place_six {l : List UInt8} : ∀ {k : Nat}, (∀ i, i < k → Frame.okAt l i) → (6 * k : Int) ≤ Frame.place l k
  | 0, _ => by unfold Frame.place; omega
  | k + 1, h => by
    have h1 := Frame.place_six (k := k) (fun i hi => h i (by omega))
    have h2 := Frame.place_ok (h k (by omega))
    omega
set_option maxRecDepth 10000 in
theorem refAll_any (A : Option Addr) (n c : Nat) (l : List UInt8) (w : World) (hn : n ≤ 16777216) (hnc : n ≤ c) (hr : Reads w w.heap.size 1 A n (bv l)) :
    Calls Try.prog 122 #[.slice A n c] w fun e w' => ∃ k A' c', (∀ i, i < k → Frame.okAt l i) ∧ ¬ Frame.okAt l k ∧ e = .returned (.tuple #[.slice A' k c', .int .i64 (Frame.place l k)]) ∧
      FmRow l w.heap.size (.slice A' k c') k w' ∧ Below w.heap.size w w' := by
  have hln : l.length = n := by have := hr.1; rw [bv_length] at this; omega
  refine calls_vc Try.func122 rfl (by kernel_rfl) ?_
  ((conv => whnf); (repeat ((first | (refine VL.cons ?_) | (refine VL.nil ?_) | (refine VC.seqS rfl ?_) | (refine VC.region ?_)); (conv => whnf))))
  ((repeat ((fail); (conv => whnf))))
  refine VC.cut [4, 5] [(4, 25)] (fun vs W => ∃ k A' c', vs = [.slice A' k c', .int .i64 (Frame.place l k)] ∧ (∀ i, i < k → Frame.okAt l i) ∧ ¬ Frame.okAt l k ∧ FmRow l w.heap.size (.slice A' k c') k W ∧ Below w.heap.size w W) (by kernel_rfl) ?_ ?_
  · refine VC.block ?_
    refine VC.loop [4, 5] [(4, 25)] (fun q vs W => ∃ k A' c', vs = [.slice A' k c', .int .i64 (Frame.place l k)] ∧ q = (n - Frame.place l k).toNat ∧ (∀ i, i < k → Frame.okAt l i) ∧ FmRow l w.heap.size (.slice A' k c') k W ∧ Below w.heap.size w W) (by kernel_rfl)
      ⟨_, 0, none, 0, rfl, rfl, fun i hi => absurd hi (Nat.not_lt_zero i), ⟨[], World.ownsRow_nil w _ _ _, fun i hi => absurd hi (Nat.not_lt_zero i)⟩, Below.refl _ _⟩ ?_
    rintro q τ vs W ⟨k, A1, c1, rfl, rfl, hk, hF, hB⟩
    have hp := Frame.place_le hk
    obtain ⟨a, ha⟩ : ∃ a : Nat, Frame.place l k = (a : Int) := ⟨(Frame.place l k).toNat, by omega⟩
    by_cases hend : a < n
    · have hone := Frame.one_ok ha (by omega)
      rw [ha]
      ((conv => whnf); (repeat ((fail); (conv => whnf))))
      ((repeat ((first | (refine VL.cons ?_) | (refine VL.nil ?_) | (refine VC.seqS rfl ?_) | (refine VC.region ?_) | (refine VC.cond ?_) | (refine VC.block ?_) | (refine VC.skip ?_) | (refine VBool.dT (by omega) ?_) | (refine VRead.lenS ?_) | (refine VC.seq ?_)); (conv => whnf))))
      refine VCall.of (refOne_any A n c l a W (by omega) hnc (by omega) ((hr.below hB).more hB.size)) ?_
      rintro e W1 ⟨A2, m2, c2, rfl, hO2, hB2⟩
      refine ⟨_, rfl, ?_⟩
      unfold oneV
      unfold oneB at hO2
      cases hfst : Frame.first (l.drop a) with
      | none =>
        rw [hfst] at hone
        ((conv => whnf); (repeat ((first | (refine VL.cons ?_)); (conv => whnf))))
        ((repeat ((fail); (conv => whnf))))
        refine VSem.allocZ (z := .agg #[.int .i64 0, .slice none 0 0, .int .i64 0]) (by kernel_rfl) ?_
        intro W2 g hb hg hl hB3
        have hB3' := (hB.trans (hB2.mono hB.size)).trans (hB3.mono (hB.trans (hB2.mono hB.size)).size)
        have hF3 := (hF.below hB2 (Nat.le_refl _)).below hB3 (Nat.le_refl _)
        have hg0 : W.heap.size ≤ g := by have := hB2.size; omega
        ((conv => whnf); (repeat ((first | (refine VL.cons ?_)); (conv => whnf))))
        ((repeat ((fail); (conv => whnf))))
        refine VUnit.storeAB hb rfl rfl rfl (by simp [Value.oneCell']) ?_
        intro W3 hb3 hg3
        have hB13 : Below W1.heap.size W1 W3 := only_new hB3 hg3 (by omega) (by omega)
        have hB03 := hB2.trans (hB13.mono hB2.size)
        ((conv => whnf); (repeat ((first | (refine VL.cons ?_) | (refine VL.nil ?_)); (conv => whnf))))
        ((repeat ((first | (refine VL.cons ?_) | (refine VL.nil ?_) | (refine VC.seqS rfl ?_) | (refine VC.region ?_) | (refine VC.cond ?_) | (refine VC.exit ?_) | (refine VBool.t ?_) | (refine VC.seq ?_)); (conv => whnf))))
        exact ⟨k, A1, c1, by rw [ha]; rfl, hk, hone, hF.below hB03 (Nat.le_refl _), hB.trans (hB03.mono hB.size)⟩
      | some br =>
        obtain ⟨body, r⟩ := br
        rw [hfst] at hone hO2
        obtain ⟨hok, hbd, hpl⟩ := hone
        ((conv => whnf); (repeat ((first | (refine VL.cons ?_)); (conv => whnf))))
        ((repeat ((fail); (conv => whnf))))
        refine VSem.allocZ (z := .agg #[.int .i64 0, .slice none 0 0, .int .i64 0]) (by kernel_rfl) ?_
        intro W2 g hb hg hl hB3
        ((conv => whnf); (repeat ((first | (refine VL.cons ?_)); (conv => whnf))))
        ((repeat ((fail); (conv => whnf))))
        refine VUnit.storeAB hb rfl rfl rfl (by simp [Value.oneCell']) ?_
        intro W3 hb3 hg3
        have hB13 : Below W1.heap.size W1 W3 := only_new hB3 hg3 (by omega) (by omega)
        have hB03 := hB2.trans (hB13.mono hB2.size)
        ((conv => whnf); (repeat ((first | (refine VL.cons ?_) | (refine VL.nil ?_)); (conv => whnf))))
        ((repeat ((first | (refine VL.cons ?_) | (refine VL.nil ?_) | (refine VC.seqS rfl ?_) | (refine VC.region ?_) | (refine VC.cond ?_) | (refine VC.skip ?_) | (refine VBool.f ?_) | (refine VC.seq ?_)); (conv => whnf))))
        refine VRead.loadAB1 hb3 rfl rfl ?_
        ((conv => whnf); (repeat ((first | (refine VL.cons ?_)); (conv => whnf))))
        ((repeat ((fail); (conv => whnf))))
        refine VSem.of (v := .slice (some ⟨W3.heap.size, 0, none⟩) 1 1) (w' := W3.alloc (.cells #[.int .i64 (a : Int), .slice A2 m2 c2, .int .i64 ((a : Int) + (Frame.put body).length)] 153)) (by kernel_rfl) ?_
        ((conv => whnf); (repeat ((first | (refine VL.cons ?_)); (conv => whnf))))
        ((repeat ((fail); (conv => whnf))))
        obtain ⟨xs, hrow0, hels0⟩ := hF
        have hB4 : Below W.heap.size W (W3.alloc (.cells #[.int .i64 (a : Int), .slice A2 m2 c2, .int .i64 ((a : Int) + (Frame.put body).length)] 153)) := hB03.alloc hB03.size _
        have hO4 := (hO2.below hB13 (Nat.le_refl _)).alloc (.cells #[.int .i64 (a : Int), .slice A2 m2 c2, .int .i64 ((a : Int) + (Frame.put body).length)] 153)
        have hb4 := hb3.alloc (.cells #[.int .i64 (a : Int), .slice A2 m2 c2, .int .i64 ((a : Int) + (Frame.put body).length)] 153)
        have hnew := Blk.new W3 153 #[.int .i64 (a : Int), .slice A2 m2 c2, .int .i64 ((a : Int) + (Frame.put body).length)]
        have hsz : (W3.alloc (.cells #[.int .i64 (a : Int), .slice A2 m2 c2, .int .i64 ((a : Int) + (Frame.put body).length)] 153)).heap.size = W3.heap.size + 1 := by simp
        generalize W3.alloc (.cells #[.int .i64 (a : Int), .slice A2 m2 c2, .int .i64 ((a : Int) + (Frame.put body).length)] 153) = W4 at *
        have hrow4 := rows_below hrow0 hB4 (Nat.le_refl _)
        have hwB : w.heap.size ≤ W.heap.size := hB.size
        have hReads : Reads W4 W4.heap.size 3 (some ⟨W3.heap.size, 0, none⟩) 1 [.int .i64 (a : Int), .slice A2 m2 c2, .int .i64 ((a : Int) + (Frame.put body).length)] := by
          refine ⟨rfl, fun _ => ⟨_, rfl, by show W3.heap.size < _; omega, fun j u hu => ?_⟩⟩
          rw [show (⟨W3.heap.size, 0, none⟩ : Addr).add j = ⟨W3.heap.size, j, none⟩ from by unfold Addr.add; split <;> simp_all, hnew.cell j]
          simpa using hu
        obtain ⟨i0, hi0, hz0, hz1, hz2⟩ := info_parts f_info
        have h6 := Frame.place_six hk
        refine VSem.appR (base := w.heap.size) Try.underlying148 hi0 hz0 hz1 hz2 rfl (by decide) hrow4 hReads (by simp [Value.oneCell']) (by simp only [maxLen]; omega) (by omega) (by have := hB4.size; omega) ?_
        intro A6 c6 W6 hrow6 hg6 _
        have hlt := World.ownsRow.lt hrow0
        have hb6 := hb4.grown hg6 (fun e => by have := (hlt g e.symm).2; have := hB2.size; omega)
        have hB6 : Below w.heap.size w W6 := (hB.trans (hB4.mono hB.size)).grown hg6 (by have := hB4.size; omega) (fun j hj => (hlt j hj).1)
        have hxl := hrow0.1
        have hF6 : FmRow l w.heap.size (.slice A6 (k + 1) c6) (k + 1) W6 := by
          refine ⟨_, hrow6, fun i hi => ?_⟩
          rcases Nat.lt_or_ge i k with h | h
          · obtain ⟨A', m', c', e1, e2, e3⟩ := hels0 i h
            refine ⟨A', m', c', ?_, ?_, (e3.below hB4 (Nat.le_refl _)).apartG hg6 (own_apart (e3.below hB4 (Nat.le_refl _)) hrow4 (by decide))⟩
            · rw [List.getElem?_append_left (by omega)]; exact e1
            · rw [List.getElem?_append_left (by omega)]; exact e2
          · obtain rfl : i = k := by omega
            refine ⟨A2, m2, c2, ?_, ?_, ?_⟩
            · rw [List.getElem?_append_right (by omega), show 3 * i - xs.length = 0 by omega, ha]; rfl
            · rw [List.getElem?_append_right (by omega), show 3 * i + 1 - xs.length = 1 by omega]; rfl
            · rw [hbd]
              exact (Own.apartG hO4 hg6 (own_apart hO4 hrow4 (by decide))).more hwB
        have hlp := Frame.put_len body
        ((conv => whnf); (repeat ((first | (refine VL.cons ?_) | (refine VL.nil ?_) | (refine VC.region ?_)); (conv => whnf))))
        ((repeat ((first | (refine VL.cons ?_) | (refine VRead.fld ?_)); (conv => whnf))))
        refine VRead.loadB hb6 rfl rfl ?_
        ((conv => whnf); (repeat ((first | (refine VL.cons ?_) | (refine VL.nil ?_)); (conv => whnf))))
        ((repeat ((fail); (conv => whnf))))
        refine ⟨_, ?_, k + 1, A6, c6, by rw [hpl]; rfl, by rw [hpl], fun i hi => ?_, hF6, hB6⟩
        · omega
        · rcases Nat.lt_or_ge i k with h | h
          · exact hk i h
          · obtain rfl : i = k := by omega
            exact hok
    · have hn2 : a = n := by omega
      rw [ha]
      ((conv => whnf); (repeat ((fail); (conv => whnf))))
      ((repeat ((first | (refine VL.cons ?_) | (refine VL.nil ?_) | (refine VC.seqS rfl ?_) | (refine VC.region ?_) | (refine VC.cond ?_) | (refine VC.exit ?_) | (refine VBool.dF (by omega) ?_) | (refine VRead.lenS ?_) | (refine VC.seq ?_)); (conv => whnf))))
      exact ⟨k, A1, c1, by rw [ha]; rfl, hk, Frame.end_ok (by rw [ha]; omega), hF, hB⟩
  · rintro τ vs W ⟨k, A1, c1, rfl, hk, hno, hF, hB⟩
    ((conv => whnf); (repeat ((first | (refine VL.cons ?_) | (refine VL.nil ?_) | (refine VC.seqS rfl ?_) | (refine VC.region ?_) | (refine VC.ret ?_)); (conv => whnf))))
    ((repeat ((fail); (conv => whnf))))
    exact ⟨k, A1, c1, hk, hno, rfl, hF, hB⟩
end Go.Proofs.Ytebeidnmplnlpaa
end
