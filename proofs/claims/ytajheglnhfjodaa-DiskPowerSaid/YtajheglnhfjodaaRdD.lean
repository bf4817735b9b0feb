/- The reference's disk: rows of files turn. No condition. -/
import Derived.Test.YtajheglnhfjodaaRdC
set_option maxRecDepth 10000
namespace Go.Proofs.Ytajheglnhfjodaa
set_option linter.unusedVariables false
open Go.RowKit

/-! ### rules -/
def cutK (A : Option Addr) (c z k : Nat) : Option Addr := if c = z then A else A.map (·.add (z * k))
theorem VRead.cutKL {P : Program} {S : World → Prop} {t e k : Nat} {A : Option Addr} {n c : Nat} {Z : Int} {kk : IntKind} {K : Value → Prop} [i : TSlice P t e k] (z : Nat) (hz : Z = (z : Int)) (h : z ≤ n) (hk : K (.slice (cutK A c z k) (n - z) (c - z))) :
    VRead P S (Instr.sliceAt t (.slice A n c) (some (.int kk Z)) none none) K := by
  subst hz
  exact .ofW (fun W => by
    rw [run_sliceAt_slice W t _ _ _ _ (elem_of i.u), run_slice_l W t A n c (elem_of i.u) kk _ (by omega) (by omega), show P.elem t = e from by unfold Program.elem; rw [i.u], run_size i.s]
    simp [sliced, cutK]) hk
theorem VRead.cutKH {P : Program} {S : World → Prop} {t e k : Nat} {A : Option Addr} {n c : Nat} {Z : Int} {kk : IntKind} {K : Value → Prop} [i : TSlice P t e k] (z : Nat) (hz : Z = (z : Int)) (h : z ≤ c) (hk : K (.slice A z c)) :
    VRead P S (Instr.sliceAt t (.slice A n c) none (some (.int kk Z)) none) K := by
  subst hz
  exact .ofW (fun W => by
    rw [run_sliceAt_slice W t _ _ _ _ (elem_of i.u), run_slice_h W t A n c (elem_of i.u) kk _ (by omega) (by omega), show P.elem t = e from by unfold Program.elem; rw [i.u], run_size i.s]
    have h0 : A.map (fun x : Addr => x.add 0) = A := by cases A <;> simp [Addr.add]
    simp [sliced, h0]) hk
theorem Reads.takeK {w : World} {B k n z : Nat} {A : Option Addr} {xs : List Value} (h : Reads w B k A n xs) (hz : z ≤ n) : Reads w B k A z (xs.take (z * k)) := by
  refine ⟨by rw [List.length_take, h.1]; exact Nat.min_eq_left (Nat.mul_le_mul_right _ hz), fun h0 => ?_⟩
  obtain ⟨ad, e, hb, hc⟩ := h.2 (by omega)
  refine ⟨ad, e, hb, fun j u hu => hc j u ?_⟩
  rw [List.getElem?_take] at hu
  split at hu
  · exact hu
  · cases hu
theorem bytes_lt : ∀ (x y : List UInt8), Op.bytesLess x y = decide (x < y)
  | [], [] => by simp [Op.bytesLess]
  | _ :: _, [] => by simp [Op.bytesLess]
  | [], _ :: _ => by simp [Op.bytesLess]
  | a :: x, b :: y => by
    rw [Op.bytesLess, bytes_lt x y]
    simp only [List.cons_lt_cons_iff]
    by_cases h1 : a < b <;> by_cases h2 : a = b <;> by_cases h3 : x < y <;> simp [h1, h2, h3]
theorem VRead.sLt {P : Program} {S : World → Prop} {t : TypeId} {x y : Operand} {a b : List UInt8} {K : Value → Prop} (hk : K (.bool (decide (a < b)))) :
    VRead P S (do eqGuard .lss t x y (encStr a) (encStr b); binOp .lss t (encStr a) (encStr b)) K := by
  refine VRead.ofW (fun W => ?_) hk
  rw [eqGuard_lss, show encStr a = .string (txt a) from rfl, show encStr b = .string (txt b) from rfl, binOp_string_lss, bytes_lt, Lib.toList_data, Lib.toList_data]
  rfl
/-- a cell of a row is stored -/
theorem VUnit.storeRw {P : Program} {w : World} {t : TypeId} {p : Addr} {g j B e k n c : Nat} {xs : List Value} {v : Value} {Q : World → Prop} [i : TCell P t] (hO : w.ownsRow B e k (.slice (some ⟨g, 0, none⟩) n c) n xs) (hp : p = ⟨g, j, none⟩) (hj : j < n * k) (hv : v.oneCell' = true)
    (h : ∀ w', w'.ownsRow B e k (.slice (some ⟨g, 0, none⟩) n c) n (xs.set j v) → w.grownBy w' (some g) → Q w') : VUnit P (Instr.storeAt t (.pointer (some p)) v) w Q := by
  subst hp
  have hl := hO.1
  have h1 := hO.cellAt j hj
  rw [List.getElem?_eq_getElem (by omega)] at h1
  obtain ⟨h2, h3⟩ := hO.stored j v
  exact VUnit.store h1 (hO.frozenAt j) hv (h _ h2 h3)
/-! ### the row turns -/
section
variable {W W' : World} {U : Foot} {r n c c' : Nat} {A A' : Option Addr} {xs xs' : List Value} {K K' : Dk} {T T' : PT}
theorem FEl.own {p : List UInt8 × Fl} {a b d : Value} {cs : Array Value} (h : FEl W U p a b d) (hb : Blk W r 89 cs) (hg : W.grownBy W' (some r)) : FEl W' U p a b d := h.stay (fun A m l hl => hl.blk hb hg (by decide))
theorem FRow.own (h : FRow W U A n c xs T) {cs : Array Value} (hb : Blk W r 89 cs) (hg : W.grownBy W' (some r)) : FRow W' U A n c xs T := by
  refine ⟨ownsRow_stay h.row (fun g hg' => ?_), h.foot, h.els.stay (fun A m l hl => hl.blk hb hg (by decide))⟩
  refine hg.block g (World.ownsRow.lt h.row g hg').2 (fun e => ?_)
  injection e with e
  subst e
  obtain ⟨_, cs, hc⟩ := row_cells h.row _ hg'
  have hb' := hb
  unfold Blk at hb'
  rw [hc] at hb'
  injection hb' with hb'
  injection hb' with _ h2 _
  exact absurd h2 (by decide)
/-- the disk's own cells turn, its row as well -/
theorem RefAt.turn (h : RefAt W U r A c xs K T) (hF : FRow W U A' T'.length c' xs' T') (hb : Blk W' r 89 (rC K' A' T'.length c')) (hg : W.grownBy W' (some r)) : RefAt W' U r A' c' xs' K' T' :=
  ⟨h.hr, hb, hF.own h.blk hg⟩
theorem F_info : (Try.prog.info? 99).map (fun i => (i.zero, i.size, i.bytes)) = some (some (.agg #[.string ByteArray.empty, .slice none 0 0, .slice none 0 0]), 3, 64) := by kernel_rfl
/-- files more -/
theorem VSem.appF {w : World} {ty : TypeId} {C m c B : Nat} {xs' : List Value} {T' : PT} {Q : Value → World → Prop} (h : FRow w U A n c xs T) (hn : T.length = n) (hU : Up U w) (hr : Reads w C 3 A' m xs') (he : FEls w U T' xs') (hm : T'.length = m) (hfew : n + m ≤ 100000)
    (hB : B ≤ w.heap.size) (hown : ∀ g, (Value.slice A n c).ownBlock = some g → B ≤ g) (hk : ∀ A2 c2 w', FRow w' U A2 (n + m) c2 (xs ++ xs') (T ++ T') → Below B w w' → (∀ g, (Value.slice A2 (n + m) c2).ownBlock = some g → B ≤ g) → Q (.slice A2 (n + m) c2) w') :
    VSem Try.prog (Builtin.append_ #[87, 87] ty [.slice A n c, .slice A' m c'].toArray) w Q := by
  obtain ⟨i0, hi0, hz0, hz1, hz2⟩ := info_parts F_info
  refine VSem.appR Try.underlying87 hi0 hz0 hz1 hz2 rfl (by decide) h.row hr he.one (by simp only [maxLen]; omega) (by omega) (Nat.zero_le _) fun A2 c2 w' k1 k2 k3 => ?_
  have hl : ∀ (A : Option Addr) (m : Nat) (l : List UInt8), Lies w U A m l → Lies w' U A m l := fun A m l hl => hl.row h.row k2 (by decide)
  refine hk A2 c2 w' ⟨k1, fun g hg => ?_, (h.els.stay hl).append (he.stay hl)⟩ ((Below.refl _ _).grown k2 hB hown) (fun g hg => ?_)
  · rcases k3 with e | e
    · rw [e] at hg; exact h.foot g hg
    · rw [e] at hg; injection hg with hg; subst hg; exact hU _ (Nat.le_refl _)
  · rcases k3 with e | e
    · rw [e] at hg; exact hown g hg
    · rw [e] at hg; injection hg with hg; subst hg; exact hB
theorem FRow.cap (h : FRow W U A n c xs T) : n ≤ c := by
  rcases h.row.2 with ⟨e, h0⟩ | ⟨g, cap, cur, e, _, _, h1, _⟩
  · omega
  · injection e with e1 e2 e3
    omega
theorem FRow.nil (W : World) (U : Foot) : FRow W U none 0 0 [] [] := ⟨World.ownsRow_nil _ _ _ _, fun g h => by simp [Value.ownBlock] at h, by simp [FEls]⟩
end
/-! ### the plain insertion -/
theorem tset_mid {A B : PT} {s : List UInt8} {f : Fl} (hA : ∀ p ∈ A, p.1 < s) (hB : ∀ p ∈ B, s < p.1) : tset (A ++ B) s f = A ++ (s, f) :: B := by
  induction A with
  | nil =>
    cases B with
    | nil => rfl
    | cons q B =>
      obtain ⟨j, y⟩ := q
      simp only [List.nil_append, tset]
      rw [if_pos (hB (j, y) (by simp))]
  | cons q A ih =>
    obtain ⟨j, y⟩ := q
    have h1 : j < s := hA (j, y) (by simp)
    simp only [List.cons_append, tset]
    rw [if_neg (fun h => TO.irr _ (TO.tr _ _ _ h1 h)), if_neg (fun h => by subst h; exact TO.irr _ h1), ih (fun p hp => hA p (by simp [hp]))]
theorem tset_del {T : PT} {s : List UInt8} {f : Fl} (hR : Rising T) : tset (tdel T s) s f = tset T s f := by
  cases hf : tfind T s with
  | none => rw [tdel_not (tfind_none hf)]
  | some y =>
    obtain ⟨A, B, rfl⟩ := tfind_some hf
    rw [tdel_eq hR.nd, tset_old hR]
    unfold Rising at hR
    rw [List.map_append, List.pairwise_append] at hR
    obtain ⟨h1, h2, h3⟩ := hR
    rw [List.map_cons, List.pairwise_cons] at h2
    exact tset_mid (fun p hp => h3 _ (List.mem_map_of_mem hp) _ (by simp)) (fun p hp => h2.1 _ (List.mem_map_of_mem hp))
theorem rising_last {A B : PT} {q : List UInt8 × Fl} {s : List UInt8} (hR : Rising (A ++ q :: B)) (hs : s ∉ (A ++ q :: B).map (·.1)) (hq : ¬ s < q.1) : ∀ p ∈ A ++ [q], p.1 < s := by
  have h1 : q.1 < s := by
    rcases TO.tri q.1 s with h | h | h
    · exact h
    · exact absurd (by rw [← h]; simp) hs
    · exact absurd h hq
  intro p hp
  rcases List.mem_append.1 hp with hp | hp
  · unfold Rising at hR
    rw [List.map_append, List.pairwise_append] at hR
    exact TO.tr _ _ _ (hR.2.2 _ (List.mem_map_of_mem hp) q.1 (by simp)) h1
  · simp at hp; subst hp; exact h1
end Go.Proofs.Ytajheglnhfjodaa
