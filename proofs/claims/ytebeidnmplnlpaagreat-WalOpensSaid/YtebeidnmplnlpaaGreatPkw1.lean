/- Texts joined: Num, Lies, SnapA, VM, VSort, Tab, Tabs, DiskA, Shelf, DiskB, DiskC, DiskD, DiskE, DiskF, DiskG, VD, DiskH, DiskI, DiskJ. No condition. -/
import Derived.Test.YtebeidnmplnlpaaGreatPkw0
import Derived.Deep.OwnRows
import Derived.Laws.OwnMore
import Derived.Maps.RangeWalk
import Derived.Maps.Views
import Derived.Shelf.Sort.Plain
import Derived.Shelf.Slices.In.SortNone
import Derived.Sort.OwnSortedInts
import Derived.Sort.OwnSorted
import Derived.Test.YtebeidnmplnlpaaGreatProg
import Derived.Lib.SlBytesConst
section
set_option maxRecDepth 10000
namespace Go.Proofs.YtebeidnmplnlpaaGreat
set_option linter.unusedVariables false
open Go.RowKit

theorem snoc_ind {α : Type} {P : List α → Prop} (h0 : P []) (h1 : ∀ l b, P l → P (l ++ [b])) (l : List α) : P l := by
  rw [← List.reverse_reverse l]
  induction l.reverse with
  | nil => exact h0
  | cons b m ih => rw [List.reverse_cons]; exact h1 _ _ ih
/-! ### digits -/
def dig (n : Nat) : UInt8 := UInt8.ofNat (48 + n % 10)
def dgs : Nat → Nat → List UInt8
  | 0, _ => []
  | k + 1, n => dgs k (n / 10) ++ [dig n]
theorem dgs_len : ∀ (k n : Nat), (dgs k n).length = k
  | 0, _ => rfl
  | k + 1, n => by simp [dgs, dgs_len k]
def isDig (b : UInt8) : Bool := decide (48 ≤ b.toNat) && decide (b.toNat ≤ 57)
theorem dig_nat (n : Nat) : (dig n).toNat = 48 + n % 10 := by unfold dig; rw [UInt8.toNat_ofNat']; omega
theorem dig_is (n : Nat) : isDig (dig n) = true := by unfold isDig; rw [dig_nat]; have : n % 10 < 10 := Nat.mod_lt _ (by decide); simp; omega
/-- the number that digits are -/
def numF (a : Nat) (l : List UInt8) : Nat := l.foldl (fun a b => 10 * a + (b.toNat - 48)) a
def numD (l : List UInt8) : Option Nat := if l.all isDig then some (numF 0 l) else none
theorem numF_snoc (a : Nat) (l : List UInt8) (b : UInt8) : numF a (l ++ [b]) = 10 * numF a l + (b.toNat - 48) := by unfold numF; rw [List.foldl_append]; rfl
theorem numF_le : ∀ (l : List UInt8), l.all isDig = true → numF 0 l < 10 ^ l.length := fun l => by
  refine snoc_ind (P := fun l => l.all isDig = true → numF 0 l < 10 ^ l.length) (by intro _; simp [numF]) ?_ l
  · intro l b ih h
    rw [List.all_append, Bool.and_eq_true] at h
    have h1 := ih h.1
    have h2 : isDig b = true := by simpa using h.2
    unfold isDig at h2
    simp at h2
    rw [numF_snoc, List.length_append, List.length_singleton, Nat.pow_succ]
    omega
theorem dgs_all : ∀ (k n : Nat), (dgs k n).all isDig = true
  | 0, _ => rfl
  | k + 1, n => by unfold dgs; rw [List.all_append, dgs_all k, Bool.true_and]; simp [dig_is]
theorem num_dgs : ∀ (k n : Nat), numF 0 (dgs k n) = n % 10 ^ k
  | 0, n => by simp [dgs, numF, Nat.mod_one]
  | k + 1, n => by
    unfold dgs
    rw [numF_snoc, num_dgs k, dig_nat, Nat.pow_succ, Nat.mul_comm (10 ^ k) 10, Nat.mod_mul]
    omega
theorem numD_dgs {k n : Nat} (h : n < 10 ^ k) : numD (dgs k n) = some n := by
  unfold numD
  rw [if_pos (dgs_all k n), num_dgs, Nat.mod_eq_of_lt h]
theorem dgs_num : ∀ (l : List UInt8), l.all isDig = true → dgs l.length (numF 0 l) = l := fun l => by
  refine snoc_ind (P := fun l => l.all isDig = true → dgs l.length (numF 0 l) = l) (by intro _; rfl) ?_ l
  · intro l b ih h
    rw [List.all_append, Bool.and_eq_true] at h
    have h1 := ih h.1
    have h2 : isDig b = true := by simpa using h.2
    unfold isDig at h2
    simp at h2
    rw [List.length_append, List.length_singleton]
    show dgs l.length (numF 0 (l ++ [b]) / 10) ++ [dig (numF 0 (l ++ [b]))] = l ++ [b]
    rw [numF_snoc]
    have e1 : (10 * numF 0 l + (b.toNat - 48)) / 10 = numF 0 l := by omega
    have e2 : dig (10 * numF 0 l + (b.toNat - 48)) = b := by
      apply UInt8.toNat_inj.1
      rw [dig_nat]; omega
    rw [e1, e2, h1]
theorem numD_some {l : List UInt8} {n : Nat} (h : numD l = some n) : l = dgs l.length n ∧ n < 10 ^ l.length := by
  unfold numD at h
  split at h
  · rename_i ha
    injection h with h
    subst h
    exact ⟨(dgs_num l ha).symm, numF_le l ha⟩
  · cases h
/-- the order of names is the numbers' -/
theorem append_lt {p a b : List UInt8} : (p ++ a < p ++ b) ↔ a < b := by
  induction p with
  | nil => rfl
  | cons x p ih => rw [List.cons_append, List.cons_append, List.cons_lt_cons_iff]; simp [ih]
theorem lt_append_same : ∀ {a b c d : List UInt8}, a.length = b.length → a < b → a ++ c < b ++ d
  | [], [], c, d, _, h => absurd h (List.lt_irrefl _)
  | x :: a, y :: b, c, d, hl, h => by
    rw [List.cons_append, List.cons_append]
    rw [List.cons_lt_cons_iff] at h ⊢
    rcases h with h | ⟨h1, h2⟩
    · exact .inl h
    · exact .inr ⟨h1, lt_append_same (by simpa using hl) h2⟩
theorem dgs_lt : ∀ {k n m : Nat}, n < m → m < 10 ^ k → dgs k n < dgs k m
  | 0, n, m, h, hm => by simp at hm; omega
  | k + 1, n, m, h, hm => by
    unfold dgs
    rw [Nat.pow_succ] at hm
    by_cases hd : n / 10 = m / 10
    · rw [hd]
      refine append_lt.2 ?_
      rw [List.cons_lt_cons_iff]
      left
      rw [UInt8.lt_iff_toNat_lt, dig_nat, dig_nat]
      omega
    · exact lt_append_same (by rw [dgs_len, dgs_len]) (dgs_lt (by omega) (by omega))
/-- a name that begins so and ends with a number -/
def nameN (pre : List UInt8) (k n : Nat) : List UInt8 := pre ++ dgs k n
/-- the number of a name -/
def numN (pre : List UInt8) (k : Nat) (s : List UInt8) : Option Nat := if s.length = pre.length + k ∧ s.take pre.length = pre then numD (s.drop pre.length) else none
theorem numN_name {pre : List UInt8} {k n : Nat} (h : n < 10 ^ k) : numN pre k (nameN pre k n) = some n := by
  unfold numN nameN
  rw [if_pos ⟨by simp [dgs_len], by simp⟩, List.drop_left, numD_dgs h]
theorem numN_some {pre s : List UInt8} {k n : Nat} (h : numN pre k s = some n) : s = nameN pre k n ∧ n < 10 ^ k := by
  unfold numN at h
  split at h
  · rename_i hc
    obtain ⟨h1, h2⟩ := numD_some h
    have hl : (s.drop pre.length).length = k := by rw [List.length_drop]; omega
    rw [hl] at h1 h2
    refine ⟨?_, h2⟩
    unfold nameN
    rw [← h1]
    conv => lhs; rw [← List.take_append_drop pre.length s, hc.2]
  · cases h
theorem nameN_lt {pre : List UInt8} {k n m : Nat} (h : n < m) (hm : m < 10 ^ k) : nameN pre k n < nameN pre k m := append_lt.2 (dgs_lt h hm)
theorem nameN_len (pre : List UInt8) (k n : Nat) : (nameN pre k n).length = pre.length + k := by simp [nameN, dgs_len]
/-! ### the walk's steps -/
/-- the row while it is filled from behind: the last digits stand -/
theorem dgs_split : ∀ (a b n : Nat), dgs (a + b) n = dgs a (n / 10 ^ b) ++ dgs b n
  | a, 0, n => by simp [dgs]
  | a, b + 1, n => by
    show dgs (a + b) (n / 10) ++ [dig n] = dgs a (n / 10 ^ (b + 1)) ++ (dgs b (n / 10) ++ [dig n])
    rw [dgs_split a b (n / 10), Nat.div_div_eq_div_mul, Nat.pow_succ, Nat.mul_comm 10, List.append_assoc]
end Go.Proofs.YtebeidnmplnlpaaGreat
end

section
set_option maxRecDepth 10000
namespace Go.Proofs.YtebeidnmplnlpaaGreat
set_option linter.unusedVariables false
open Go.RowKit

/-! ### footprints: blocks that may be something's own -/
abbrev Foot := Nat → Prop
/-- what is made from now on lies in the footprint -/
def Up (U : Foot) (W : World) : Prop := ∀ j, W.heap.size ≤ j → U j
/-- outside the footprint the world stays -/
structure Out (U : Foot) (W W' : World) : Prop where
  os : W'.os = W.os
  tape : W'.tape = W.tape
  output : W'.output = W.output
  size : W.heap.size ≤ W'.heap.size
  block : ∀ j, j < W.heap.size → ¬ U j → W'.heap[j]? = W.heap[j]?
section
variable {U V : Foot} {W W' W'' : World}
theorem Up.grow (h : Up U W) (hs : W.heap.size ≤ W'.heap.size) : Up U W' := fun j hj => h j (Nat.le_trans hs hj)
theorem Up.from {B : Nat} (h : B ≤ W.heap.size) : Up (fun j => B ≤ j) W := fun j hj => Nat.le_trans h hj
theorem Out.refl (U : Foot) (W : World) : Out U W W := ⟨rfl, rfl, rfl, Nat.le_refl _, fun _ _ _ => rfl⟩
theorem Out.trans (h : Out U W W') (k : Out U W' W'') : Out U W W'' :=
  ⟨k.os.trans h.os, k.tape.trans h.tape, k.output.trans h.output, Nat.le_trans h.size k.size, fun j hj hu => (k.block j (Nat.lt_of_lt_of_le hj h.size) hu).trans (h.block j hj hu)⟩
theorem Out.mono (h : Out U W W') (hV : ∀ j, U j → V j) : Out V W W' := ⟨h.os, h.tape, h.output, h.size, fun j hj hu => h.block j hj (fun e => hu (hV j e))⟩
theorem Out.of_below {B : Nat} (h : Below B W W') (hB : ∀ j, B ≤ j → j < W.heap.size → U j) : Out U W W' :=
  ⟨h.os, h.tape, h.output, h.size, fun j hj hu => h.block j (Nat.lt_of_not_le fun e => hu (hB j e hj))⟩
theorem Out.new (h : Below W.heap.size W W') : Out U W W' := .of_below h (fun j h1 h2 => absurd h1 (Nat.not_le_of_lt h2))
theorem Out.grown {g : Nat} (h : W.grownBy W' (some g)) (hg : U g) : Out U W W' := ⟨h.os, h.tape, h.output, h.size, fun j hj hu => h.block j hj (fun e => hu (by injection e with e; subst e; exact hg))⟩
theorem Out.row {row : Option Nat} (h : W.grownBy W' row) (hg : ∀ g, row = some g → U g) : Out U W W' := ⟨h.os, h.tape, h.output, h.size, fun j hj hu => h.block j hj (fun e => hu (hg j e.symm))⟩
theorem Out.below {B : Nat} (h : Out U W W') (hB : ∀ j, U j → B ≤ j) (hs : B ≤ W.heap.size) : Below B W W' :=
  ⟨h.os, h.tape, h.output, h.size, fun j hj => h.block j (Nat.lt_of_lt_of_le hj hs) (fun e => absurd (hB j e) (Nat.not_le_of_lt hj))⟩
theorem Out.from {B : Nat} (h : Out (fun j => B ≤ j) W W') (hs : B ≤ W.heap.size) : Below B W W' := h.below (fun _ e => e) hs
end
/-- bytes in a block of bytes -/
def Lies (W : World) (U : Foot) (A : Option Addr) (m : Nat) (l : List UInt8) : Prop := Reads W W.heap.size 1 A m (bv l) ∧ (0 < m → ∃ ad cs fr, A = some ad ∧ U ad.block ∧ W.heap[ad.block]? = some (Obj.cells cs 5 fr))
theorem Lies.len {W : World} {U : Foot} {m : Nat} {A : Option Addr} {l : List UInt8} (h : Lies W U A m l) : l.length = m := by have := h.1.1; rw [bv_length] at this; omega
theorem Lies.nil (W : World) (U : Foot) (A : Option Addr) : Lies W U A 0 [] := ⟨by simpa [bv] using (Reads.none_ (w := W) (B := W.heap.size) (size := 1) (A := A)), fun h0 => absurd h0 (Nat.lt_irrefl 0)⟩
/-- .. stays where the footprint stays -/
theorem Lies.stay {W W' : World} {U : Foot} {m : Nat} {A : Option Addr} {l : List UInt8} (h : Lies W U A m l) (hs : W.heap.size ≤ W'.heap.size) (hk : ∀ j, j < W.heap.size → U j → W'.heap[j]? = W.heap[j]?) : Lies W' U A m l := by
  refine ⟨⟨h.1.1, fun hm => ?_⟩, fun hm => ?_⟩
  · obtain ⟨ad, cs, fr, rfl, h1, h2⟩ := h.2 hm
    obtain ⟨ad', e, h3, h4⟩ := h.1.2 hm
    obtain rfl := Option.some.inj e
    refine ⟨_, rfl, Nat.lt_of_lt_of_le h3 hs, fun j u hu => ?_⟩
    rw [← h4 j u hu]
    exact World.cell?_of_block (by rw [add_block]; exact hk _ h3 h1)
  · obtain ⟨ad, cs, fr, e, h1, h2⟩ := h.2 hm
    exact ⟨ad, cs, fr, e, h1, by rw [hk _ (Array.getElem?_eq_some_iff.1 h2).1 h1]; exact h2⟩
theorem Lies.below {W W' : World} {U : Foot} {C m : Nat} {A : Option Addr} {l : List UInt8} (h : Lies W U A m l) (hb : Below C W W') (hC : W.heap.size ≤ C) : Lies W' U A m l :=
  h.stay hb.size (fun j hj _ => hb.block j (Nat.lt_of_lt_of_le hj hC))
theorem Lies.more {W : World} {U V : Foot} {m : Nat} {A : Option Addr} {l : List UInt8} (h : Lies W U A m l) (hV : ∀ j, j < W.heap.size → U j → V j) : Lies W V A m l :=
  ⟨h.1, fun hm => by obtain ⟨ad, cs, fr, e, h1, h2⟩ := h.2 hm; exact ⟨ad, cs, fr, e, hV _ (Array.getElem?_eq_some_iff.1 h2).1 h1, h2⟩⟩
theorem Lies.of_own {W : World} {U : Foot} {B m c : Nat} {A : Option Addr} {l : List UInt8} (h : Own W B (.slice A m c) m l) (hU : ∀ j, B ≤ j → U j) : Lies W U A m l := by
  refine ⟨h.reads, fun hm => ?_⟩
  rcases h.2 with ⟨_, h0⟩ | ⟨g, cap, cur, e, hg, hh, _⟩
  · omega
  · injection e with e1 e2 e3
    exact ⟨_, _, _, e1, hU _ hg, hh⟩
theorem Lies.take {W : World} {U : Foot} {m k : Nat} {A : Option Addr} {l : List UInt8} (h : Lies W U A m l) (hk : k ≤ m) : Lies W U A k (l.take k) :=
  ⟨h.1.take hk, fun h0 => h.2 (by omega)⟩
/-- .. untouched by what touches no block of bytes -/
theorem Lies.apart {W W' : World} {U : Foot} {m : Nat} {A : Option Addr} {l : List UInt8} {row : Option Nat} (h : Lies W U A m l) (hg : W.grownBy W' row) (hne : ∀ k, row = some k → ∀ cs fr, W.heap[k]? ≠ some (Obj.cells cs 5 fr)) : Lies W' U A m l := by
  have key : ∀ ad cs fr, W.heap[ad]? = some (Obj.cells cs 5 fr) → W'.heap[ad]? = W.heap[ad]? := fun ad cs fr h2 =>
    hg.block ad (Array.getElem?_eq_some_iff.1 h2).1 (fun e => hne ad e.symm cs fr h2)
  refine ⟨⟨h.1.1, fun hm => ?_⟩, fun hm => ?_⟩
  · obtain ⟨ad, cs, fr, rfl, h1, h2⟩ := h.2 hm
    obtain ⟨ad', e, h3, h4⟩ := h.1.2 hm
    obtain rfl := Option.some.inj e
    refine ⟨_, rfl, Nat.lt_of_lt_of_le h3 hg.size, fun j u hu => ?_⟩
    rw [← h4 j u hu]
    exact World.cell?_of_block (by rw [add_block]; exact key _ cs fr h2)
  · obtain ⟨ad, cs, fr, e, h1, h2⟩ := h.2 hm
    exact ⟨ad, cs, fr, e, h1, by rw [key _ cs fr h2]; exact h2⟩
theorem Lies.row {W W' : World} {U : Foot} {B' m e size n : Nat} {A : Option Addr} {l : List UInt8} {v : Value} {xs : List Value} (h : Lies W U A m l) (hr : W.ownsRow B' e size v n xs) (hg : W.grownBy W' v.ownBlock) (hne : 5 ≠ e) : Lies W' U A m l := by
  refine h.apart hg (fun k hk cs fr hc => ?_)
  rcases hr.2 with ⟨rfl, _⟩ | ⟨g', cap, cur, rfl, _, hh, _⟩
  · simp [Value.ownBlock] at hk
  · have : g' = k := by simpa [Value.ownBlock] using hk
    subst this
    rw [hc] at hh
    injection hh with hh
    injection hh with _ h2 _
    exact hne h2
theorem Lies.blk {W W' : World} {U : Foot} {m g T : Nat} {A : Option Addr} {l : List UInt8} {cs : Array Value} (h : Lies W U A m l) (hb : Blk W g T cs) (hg : W.grownBy W' (some g)) (hne : 5 ≠ T) : Lies W' U A m l := by
  refine h.apart hg (fun k hk cs' fr hc => ?_)
  obtain rfl := Option.some.inj hk
  unfold Blk at hb
  rw [hc] at hb
  injection hb with hb
  injection hb with _ h2 _
  exact hne h2

/-- bytes to be read, off the footprint or in a block of bytes -/
def Src (W : World) (U : Foot) (A : Option Addr) (n : Nat) (l : List UInt8) : Prop := Reads W W.heap.size 1 A n (bv l) ∧ (0 < n → ∃ ad, A = some ad ∧ (¬ U ad.block ∨ ∃ cs fr, W.heap[ad.block]? = some (Obj.cells cs 5 fr)))
theorem Src.of_lies {W : World} {U V : Foot} {A : Option Addr} {n : Nat} {l : List UInt8} (h : Lies W V A n l) : Src W U A n l :=
  ⟨h.1, fun h0 => by obtain ⟨ad, cs, fr, e, _, h2⟩ := h.2 h0; exact ⟨ad, e, .inr ⟨cs, fr, h2⟩⟩⟩
theorem Src.of_own {W : World} {U : Foot} {B n c : Nat} {A : Option Addr} {l : List UInt8} (h : Own W B (.slice A n c) n l) : Src W U A n l := .of_lies (Lies.of_own (U := fun _ => True) h (fun _ _ => trivial))
/-- bytes that lie below all of the footprint -/
theorem Src.of_old {W : World} {U : Foot} {B n : Nat} {A : Option Addr} {l : List UInt8} (h : Reads W B 1 A n (bv l)) (hB : B ≤ W.heap.size) (hU : ∀ j, U j → B ≤ j) : Src W U A n l :=
  ⟨h.more hB, fun h0 => by obtain ⟨ad, e, h1, _⟩ := h.2 h0; exact ⟨ad, e, .inl (fun hu => absurd (hU _ hu) (by omega))⟩⟩
theorem Src.len {W : World} {U : Foot} {A : Option Addr} {n : Nat} {l : List UInt8} (h : Src W U A n l) : l.length = n := by have := h.1.1; rw [bv_length] at this; omega
theorem Src.blk {W W' : World} {U : Foot} {A : Option Addr} {n d T : Nat} {l : List UInt8} {cs : Array Value} (h : Src W U A n l) (hb : Blk W d T cs) (hd : U d) (hg : W.grownBy W' (some d)) (hne : 5 ≠ T) : Src W' U A n l := by
  have key : ∀ ad, (¬ U ad ∨ ∃ cs fr, W.heap[ad]? = some (Obj.cells cs 5 fr)) → ad ≠ d := by
    rintro ad (h1 | ⟨cs', fr, h1⟩) rfl
    · exact h1 hd
    · unfold Blk at hb
      rw [h1] at hb
      injection hb with hb
      injection hb with _ h2 _
      exact hne h2
  refine ⟨⟨h.1.1, fun hm => ?_⟩, fun hm => ?_⟩
  · obtain ⟨ad, rfl, h1⟩ := h.2 hm
    obtain ⟨ad', e, h3, h4⟩ := h.1.2 hm
    obtain rfl := Option.some.inj e
    refine ⟨_, rfl, Nat.lt_of_lt_of_le h3 hg.size, fun j u hu => ?_⟩
    rw [← h4 j u hu]
    exact World.cell?_of_block (by rw [add_block]; exact hg.block _ h3 (fun e => key _ h1 (Option.some.inj e)))
  · obtain ⟨ad, e, h1⟩ := h.2 hm
    obtain ⟨ad', e', h3, _⟩ := h.1.2 hm
    rw [e] at e'
    obtain rfl := Option.some.inj e'
    refine ⟨ad, e, h1.imp (fun h => h) (fun ⟨cs, fr, h2⟩ => ⟨cs, fr, ?_⟩)⟩
    rw [hg.block _ h3 (fun e => key _ h1 (Option.some.inj e))]; exact h2

theorem u8_info3 : (Tryz.prog.info? 5).map (fun i => (i.zero, i.size, i.bytes)) = some (some (.int .u8 0), 1, 1) := by kernel_rfl
theorem VSem.makeZ {n B : Nat} {Z Z' : Int} {kl kc : IntKind} {w : World} {K : Value → World → Prop} (hn : n ≤ 140737488355328) (hB : B ≤ w.heap.size) (hZ : Z = (n : Int)) (hZ' : Z' = (n : Int))
    (h : ∀ w', Own w' B (.slice (some ⟨w.heap.size, 0, none⟩) n n) n (List.replicate n 0) → Below w.heap.size w w' → w'.heap.size = w.heap.size + 1 → K (.slice (some ⟨w.heap.size, 0, none⟩) n n) w') :
    VSem Tryz.prog (Instr.makeSlice 33 (.int kl Z) (.int kc Z')) w K := by
  subst hZ; subst hZ'
  have hr := run_make_row' (P := Tryz.prog) 33 5 (.int .u8 0) 1 Tryz.underlying33 u8_info3 rfl kl kc n (by omega) (by omega) w
  refine VSem.of hr (h _ ?_ ((Below.refl _ _).alloc (Nat.le_refl _) _) (by simp))
  refine ⟨by rw [bv_length]; simp, .inr ⟨_, n, _, rfl, hB, heap_alloc_new w _, Nat.le_refl _, by simp only [maxLen]; omega, by simp [size_madeCells], ?_⟩⟩
  rw [toList_madeCells_one]
  simp [bv]
theorem VSem.copyS {P : Program} {w : World} {dT sT ty e : TypeId} {g n c C B o dL dC m k : Nat} {D A : Option Addr} {l news : List UInt8} {K : Value → World → Prop} [i : TSlice P dT e 1]
    (hO : Own w B (.slice (some ⟨g, 0, none⟩) n c) n l) (hr : Reads w C 1 A m (bv news)) (hD : 0 < m → D = some ⟨g, o, none⟩) (hle : m ≤ dL) (hfit : o + m ≤ n)
    (h : ∀ w', Own w' B (.slice (some ⟨g, 0, none⟩) n c) n (l.take o ++ news ++ l.drop (o + m)) → Only g w w' → K (.int .i64 (m : Int)) w') :
    VSem P (Builtin.copy_ #[dT, sT] ty [.slice D dL dC, .slice A m k].toArray) w K := by
  have hl := hO.len
  have hm : news.length = m := by have := hr.1; rw [bv_length] at this; omega
  by_cases h0 : m = 0
  · subst h0
    obtain rfl : news = [] := List.eq_nil_of_length_eq_zero hm
    refine VSem.of (run_copy_none w dT sT ty e D A dL dC 0 k i.u i.s (by simp)) (h w ?_ ⟨rfl, rfl, rfl, rfl, fun _ _ => rfl⟩)
    simpa using hO
  obtain rfl := hD (by omega)
  obtain ⟨ad, rfl, _, hc0⟩ := hr.2 (by omega)
  obtain ⟨hx, hrow⟩ := hO
  rcases hrow with ⟨h0, _⟩ | ⟨g', cap, cur, hv, hB, hg, hnc, hmx, hs, hc⟩
  · cases h0
  injection hv with e1 e2 e3
  injection e1 with e1
  injection e1 with e1
  subst e1 e3
  rw [Nat.mul_one] at hs hc
  have hcl : cur.toList.length = c := by rw [Array.length_toList]; exact hs
  have hrun := run_copy_row (P := P) w dT sT ty e g o dL dC ad m k cur _ (bv news) i.u i.s hg (by rw [bv_length, hm]; exact (Nat.min_eq_left hle).symm) hc0 (by rw [bv_length]; omega) (bv_one _)
  rw [bv_length, hm] at hrun
  refine VSem.of hrun (h _ ?_ ?_)
  · refine ⟨by rw [bv_length]; simp only [List.length_append, List.length_take, List.length_drop]; omega, .inr ⟨g, c, _, rfl, hB, setRow_heap w g cur _ _ _ hg, hnc, hmx, ?_, ?_⟩⟩
    · simp only [List.size_toArray, List.length_append, List.length_take, List.length_drop, bv_length]
      omega
    · rw [Nat.mul_one]
      have h1 : cur.toList.take o = bv (l.take o) := by
        have := congrArg (List.take o) hc
        rw [List.take_take, Nat.min_eq_left (by omega)] at this
        rw [this]; unfold bv; rw [List.map_take]
      have h2 : (cur.toList.drop (o + m)).take (n - (o + m)) = bv (l.drop (o + m)) := by
        have := congrArg (List.drop (o + m)) hc
        rw [List.drop_take] at this
        rw [this]; unfold bv; rw [List.map_drop]
      have h3 : (bv (l.take o) ++ bv news).length = o + m := by rw [List.length_append, bv_length, bv_length, List.length_take]; omega
      show (cur.toList.take o ++ bv news ++ cur.toList.drop (o + m)).take n = _
      rw [h1, List.take_append, List.take_of_length_le (by omega), h3, h2]
      unfold bv
      simp only [List.map_append]
  · exact ⟨rfl, rfl, rfl, by simp [World.setRow], fun j hj => setRow_other w g j _ hj⟩
/-- a row that is written out -/
theorem VSem.buildR {P : Program} {w : World} {t e n : Nat} {ps : List (Nat × Value)} {K : Value → World → Prop} [i : TSlice P t e 1] [c : TCell P e] (hp : ps.map (·.1) = List.range' 0 ps.length) (hn : ps.length = n) (h1 : ∀ v ∈ ps.map (·.2), v.oneCell' = true) (hb : n ≤ 16777216)
    (h : ∀ w', w'.ownsRow w.heap.size e 1 (.slice (some ⟨w.heap.size, 0, none⟩) n n) n (ps.map (·.2)) → Below w.heap.size w w' → w'.heap.size = w.heap.size + 1 → K (.slice (some ⟨w.heap.size, 0, none⟩) n n) w') : VSem P (Instr.buildSlice t n ps.toArray) w K := by
  refine VSem.buildS (P := P) (t := t) (e := e) (n := n) (ps := ps) hp hn h1 hb ?_
  have hnew := Blk.new w e (ps.map (·.2)).toArray
  refine h _ ⟨by simp [hn], .inr ⟨_, n, _, rfl, Nat.le_refl _, hnew, Nat.le_refl _, by simp only [maxLen]; omega, by simp [hn], ?_⟩⟩ ((Below.refl w.heap.size w).alloc (Nat.le_refl _) _) (by simp)
  rw [List.take_of_length_le (by simp [hn])]
end Go.Proofs.YtebeidnmplnlpaaGreat
end

section
set_option maxRecDepth 10000
namespace Go.Proofs.YtebeidnmplnlpaaGreat
set_option linter.unusedVariables false
open Go.RowKit

theorem set_mid {a b : List UInt8} {x y : UInt8} {n : Nat} (h : a.length = n) : (a ++ x :: b).set n y = a ++ y :: b := by
  subst h; simp
set_option maxHeartbeats 1000000 in
theorem plainName_any (pre : List UInt8) (n k : Nat) (w : World) (hp : pre.length ≤ 1000) (hn : n ≤ 9223372036854775807) (hk : k ≤ 100) :
    Calls Tryz.prog 50 #[.string (txt pre), .int .i64 (n : Int), .int .i64 (k : Int)] w fun e w' => e = .returned (.string (txt (nameN pre k n))) ∧ Below w.heap.size w w' := by
  refine calls_vc Tryz.func50 rfl (by kernel_rfl) ?_
  ((conv => whnf); (repeat ((first | (refine VL.cons ?_) | (refine VL.nil ?_) | (refine VC.seqS rfl ?_) | (refine VC.region ?_)); (conv => whnf))))
  ((repeat ((fail); (conv => whnf))))
  refine VSem.makeZ (n := k) (B := w.heap.size) (by omega) (Nat.le_refl _) rfl rfl ?_
  intro w1 hO1 hB1 hs1
  ((conv => whnf); (repeat ((first | (refine VL.cons ?_) | (refine VL.nil ?_)); (conv => whnf))))
  ((repeat ((first | (refine VL.cons ?_) | (refine VL.nil ?_) | (refine VC.seqS rfl ?_) | (refine VC.region ?_) | (refine VC.block ?_) | (refine VWrap.i64 (by omega) (by omega) ?_) | (refine VC.seq ?_)); (conv => whnf))))
  refine VC.loop [1, 8] [(1, 1), (8, 8), (13, 25)] (fun q vs W => ∃ j : Nat, vs = [.int .i64 ((n / 10 ^ j : Nat) : Int), .int .i64 ((k : Int) - 1 - j)] ∧ q = k - j ∧ j ≤ k ∧ Own W w.heap.size (.slice (some ⟨w.heap.size, 0, none⟩) k k) k (List.replicate (k - j) 0 ++ dgs j n) ∧ Below w.heap.size w W) (by kernel_rfl)
    ⟨_, 0, (by show [Value.int .i64 (n : Int), Value.int .i64 ((k : Int) - 1)] = _; simp), rfl, by omega, by simpa [dgs] using hO1, hB1⟩ ?_
  rintro q τ vs W ⟨j, rfl, rfl, hj, hO, hB⟩
  by_cases hlt : j < k
  · have e1 : List.replicate (k - j) (0 : UInt8) = List.replicate (k - (j + 1)) 0 ++ [0] := by
      rw [show k - j = (k - (j + 1)) + 1 from by omega, List.replicate_succ']
    have hm0 : (0 : Int) ≤ ((n / 10 ^ j : Nat) : Int) := Int.natCast_nonneg _
    have hm1 : n / 10 ^ j ≤ 9223372036854775807 := Nat.le_trans (Nat.div_le_self _ _) hn
    generalize hm : n / 10 ^ j = m at *
    have e2 : (List.replicate (k - j) (0 : UInt8) ++ dgs j n).set (k - (j + 1)) (dig m) = List.replicate (k - (j + 1)) 0 ++ dgs (j + 1) n := by
      rw [e1, List.append_assoc, List.singleton_append, set_mid (by simp), show j + 1 = 1 + j from by omega, dgs_split 1 j n, hm]
      rfl
    have e3 : n / 10 ^ (j + 1) = m / 10 := by rw [← hm, Nat.div_div_eq_div_mul, Nat.pow_succ]
    ((conv => whnf); (repeat ((fail); (conv => whnf))))
    (repeat (first | ((first | (refine VL.cons ?_) | (refine VL.nil ?_) | (refine VC.seqS rfl ?_) | (refine VC.region ?_) | (refine VC.cond ?_) | (refine VC.block ?_) | (refine VC.skip ?_) | (refine VBool.dT (by omega) ?_) | (refine VWrap.i64 (by omega) (by omega) ?_) | (refine VSem.convI ?_) | (refine VRead.rem (by omega) (by decide) ?_) | (refine VC.seq ?_)); (conv => whnf)) | (refine VWrap.u8 (by omega) (by omega) ?_; (conv => whnf))))
    refine VRead.atI (by omega) (by omega) ?_
    ((conv => whnf); (repeat ((first | (refine VL.cons ?_)); (conv => whnf))))
    refine VUnit.setO hO (j := k - (j + 1)) (by congr 1; omega) (by omega) (dig m) (by rw [dig_nat]; omega) ?_
    intro W2 hO2 hg2
    rw [e2] at hO2
    ((conv => whnf); (repeat ((first | (refine VL.cons ?_) | (refine VL.nil ?_) | (refine VC.region ?_)); (conv => whnf))))
    (repeat (first | ((first | (refine VL.cons ?_) | (refine VL.nil ?_) | (refine VC.region ?_) | (refine VWrap.i64 (by omega) (by omega) ?_)); (conv => whnf)) | (refine VRead.quo64 (by omega) (by omega) (by omega) ?_; (conv => whnf))))
    refine ⟨_, ?_, j + 1, ?_, rfl, by omega, hO2, only_new hB hg2 (Nat.le_refl _) hB.size⟩
    · omega
    · have e4 : (k : Int) - 1 - ((j + 1 : Nat) : Int) = (k : Int) - 1 - j - 1 := by omega
      rw [e3, e4, Int.natCast_ediv]
      rfl
  · obtain rfl : j = k := by omega
    rw [Nat.sub_self, List.replicate_zero, List.nil_append] at hO
    ((conv => whnf); (repeat ((fail); (conv => whnf))))
    ((repeat ((first | (refine VL.cons ?_) | (refine VL.nil ?_) | (refine VC.seqS rfl ?_) | (refine VC.region ?_) | (refine VC.cond ?_) | (refine VC.exit ?_) | (refine VBool.dF (by omega) ?_) | (refine VC.seq ?_)); (conv => whnf))))
    refine VSem.convT hO.reads ?_
    ((conv => whnf); (repeat ((first | (refine VL.cons ?_)); (conv => whnf))))
    ((repeat ((fail); (conv => whnf))))
    refine VRead.catT (by rw [dgs_len]; omega) ?_
    ((conv => whnf); (repeat ((first | (refine VL.cons ?_) | (refine VL.nil ?_) | (refine VC.ret ?_)); (conv => whnf))))
    ((repeat ((fail); (conv => whnf))))
    exact ⟨rfl, hB⟩
/-- a name's number: the part that is digits, read -/
theorem numF_bound {l : List UInt8} {j : Nat} (h : (l.take j).all isDig = true) (hl : l.length ≤ 17) : numF 0 (l.take j) < 100000000000000000 := by
  have h1 := numF_le _ h
  have h2 : 10 ^ (l.take j).length ≤ 10 ^ 17 := Nat.pow_le_pow_right (by decide) (by rw [List.length_take]; omega)
  have h3 : (10 : Nat) ^ 17 = 100000000000000000 := by decide
  omega
def numV (o : Option Nat) : Value := match o with | some n => .tuple #[.int .i64 (n : Int), .bool true] | none => .tuple #[.int .i64 0, .bool false]
theorem numN_no {pre s : List UInt8} {k : Nat} (h : ¬ (s.length = pre.length + k ∧ s.take pre.length = pre)) : numN pre k s = none := by unfold numN; rw [if_neg h]
set_option maxHeartbeats 1000000 in
theorem plainNumber_any (pre s : List UInt8) (k : Nat) (w : World) (hp : pre.length ≤ 1000) (hs : s.length ≤ 9223372036854775807) (hk : k ≤ 17) :
    Calls Tryz.prog 59 #[.string (txt pre), .string (txt s), .int .i64 (k : Int)] w fun e w' => e = .returned (numV (numN pre k s)) ∧ Below w.heap.size w w' := by
  have z1 : ByteArray.size (txt pre) = pre.length := txt_size _
  have z2 : ByteArray.size (txt s) = s.length := txt_size _
  refine calls_vc Tryz.func59 rfl (by kernel_rfl) ?_
  by_cases hl : s.length = pre.length + k
  case neg =>
    rw [numN_no (fun h => hl h.1)]
    ((conv => whnf); (repeat ((first | (refine VL.cons ?_) | (refine VL.nil ?_) | (refine VC.seqS rfl ?_) | (refine VC.region ?_)); (conv => whnf))))
    ((repeat ((first | (refine VL.cons ?_) | (refine VL.nil ?_) | (refine VC.seqS rfl ?_) | (refine VC.region ?_) | (refine VC.cond ?_) | (refine VC.ret ?_) | (refine VBool.t ?_) | (refine VBool.nF (by omega) ?_) | (refine VRead.lenT ?_) | (refine VWrap.i64 (by omega) (by omega) ?_) | (refine VC.seq ?_)); (conv => whnf))))
    exact ⟨rfl, Below.refl _ _⟩
  by_cases ht : s.take pre.length = pre
  case neg =>
    rw [numN_no (fun h => ht h.2)]
    have ht' : ¬ txt (s.take pre.length) = txt pre := fun e => ht (txt_inj.1 e)
    ((conv => whnf); (repeat ((first | (refine VL.cons ?_) | (refine VL.nil ?_) | (refine VC.seqS rfl ?_) | (refine VC.region ?_)); (conv => whnf))))
    (repeat (first | ((first | (refine VL.cons ?_) | (refine VL.nil ?_) | (refine VC.seqS rfl ?_) | (refine VC.region ?_) | (refine VC.cond ?_) | (refine VC.ret ?_) | (refine VBool.f ?_) | (refine VBool.nT (by omega) ?_) | (refine VBool.nF (by omega) ?_) | (refine VRead.lenT ?_) | (refine VWrap.i64 (by omega) (by omega) ?_) | (refine VC.seq ?_)); (conv => whnf)) | (refine VRead.txtH pre.length (by omega) (by omega) ?_; (conv => whnf)) | (refine VBool.nF ht' ?_; (conv => whnf)) | (refine VBool.yes (by simp [ht']) ?_; (conv => whnf))))
    exact ⟨rfl, Below.refl _ _⟩
  have ht' : txt (s.take pre.length) = txt pre := by rw [ht]
  have hN : numN pre k s = numD (s.drop pre.length) := by unfold numN; rw [if_pos ⟨hl, ht⟩]
  rw [hN]
  have hdl : (s.drop pre.length).length = k := by rw [List.length_drop]; omega
  have hde : txt (s.drop pre.length) = txt (s.drop pre.length) := rfl
  generalize hd : s.drop pre.length = d at hdl hN ⊢
  ((conv => whnf); (repeat ((first | (refine VL.cons ?_) | (refine VL.nil ?_) | (refine VC.seqS rfl ?_) | (refine VC.region ?_)); (conv => whnf))))
  ((repeat ((first | (refine VL.cons ?_) | (refine VC.seqS rfl ?_) | (refine VC.region ?_) | (refine VBool.f ?_) | (refine VBool.nT (by omega) ?_) | (refine VRead.lenT ?_) | (refine VWrap.i64 (by omega) (by omega) ?_) | (refine VC.seq ?_)); (conv => whnf))))
  refine VRead.txtH pre.length (by omega) (by omega) ?_
  ((conv => whnf); (repeat ((first | (refine VL.cons ?_)); (conv => whnf))))
  (repeat (first | ((first | (refine VL.cons ?_) | (refine VL.nil ?_) | (refine VC.seqS rfl ?_) | (refine VC.region ?_) | (refine VC.cond ?_) | (refine VC.skip ?_) | (refine VBool.f ?_) | (refine VBool.nT (by omega) ?_) | (refine VRead.lenT ?_) | (refine VC.seq ?_)); (conv => whnf)) | (refine VBool.nT ht' ?_; (conv => whnf))))
  refine VRead.txtL pre.length (by omega) (by omega) ?_
  rw [hd]
  ((conv => whnf); (repeat ((first | (refine VL.cons ?_)); (conv => whnf))))
  ((repeat ((fail); (conv => whnf))))
  refine VSem.convB ?_
  intro A c w1 hr hc hB
  have hsz : (txt d).size = k := by rw [txt_size]; exact hdl
  rw [show (txt d).data.toList = d from rfl, hsz] at hr
  rw [hsz] at hc ⊢
  ((conv => whnf); (repeat ((first | (refine VL.cons ?_)); (conv => whnf))))
  ((repeat ((first | (refine VL.cons ?_) | (refine VL.nil ?_) | (refine VC.block ?_) | (refine VRead.lenS ?_)); (conv => whnf))))
  refine VC.loop [8, 32] [(6, 8), (10, 10), (32, 48)] (fun q vs W => ∃ j : Nat, vs = [.int .i64 ((numF 0 (d.take j) : Nat) : Int), .int .i64 (j : Int)] ∧ q = k - j ∧ j ≤ k ∧ (d.take j).all isDig = true ∧ W = w1) (by kernel_rfl)
    ⟨_, 0, rfl, rfl, by omega, rfl, rfl⟩ ?_
  rintro q τ vs W ⟨j, rfl, rfl, hj, hall, rfl⟩
  have hlt := numF_bound hall (by omega)
  by_cases hjk : j < k
  · obtain ⟨x, hx⟩ : ∃ x, d[j]? = some x := ⟨_, List.getElem?_eq_getElem (by omega)⟩
    obtain ⟨ad, u, rfl, _, hu, hcell⟩ := hr.at_ hjk
    unfold bv at hu
    obtain ⟨x', hx', rfl⟩ := map_at hu
    rw [hx] at hx'
    obtain rfl := Option.some.inj hx'
    have hxl : x.toNat < 256 := x.toNat_lt
    have htk := take_snoc hx
    by_cases h1 : 48 ≤ x.toNat
    · by_cases h2 : x.toNat ≤ 57
      · have hall' : (d.take (j + 1)).all isDig = true := by
          rw [htk, List.all_append, hall]
          simp [isDig, h1, h2]
        have hnum : numF 0 (d.take (j + 1)) = 10 * numF 0 (d.take j) + (x.toNat - 48) := by rw [htk, numF_snoc]
        generalize hN2 : numF 0 (d.take j) = a at *
        ((conv => whnf); (repeat ((first | (refine VL.cons ?_) | (refine VL.nil ?_) | (refine VC.seqS rfl ?_) | (refine VC.region ?_)); (conv => whnf))))
        (repeat (first | ((first | (refine VL.cons ?_) | (refine VL.nil ?_) | (refine VC.seqS rfl ?_) | (refine VC.region ?_) | (refine VC.cond ?_) | (refine VC.block ?_) | (refine VC.skip ?_) | (refine VBool.f ?_) | (refine VBool.dT (by omega) ?_) | (refine VBool.dF (by omega) ?_) | (refine VRead.load1 (by assumption) ?_) | (refine VWrap.i64 (by omega) (by omega) ?_) | (refine VRead.at1 (by omega) ?_) | (refine VSem.convI ?_) | (refine VC.seq ?_)); (conv => whnf)) | (refine VRead.at1 hjk ?_; (conv => whnf)) | (refine VWrap.u8 (by omega) (by omega) ?_; (conv => whnf))))
        refine ⟨_, by omega, j + 1, ?_, rfl, by omega, hall', rfl⟩
        rw [hnum]
        have e1 : ((10 * a + (x.toNat - 48) : Nat) : Int) = 10 * (a : Int) + ((x.toNat : Int) - 48) := by omega
        rw [e1]
        rfl
      · have hno : numD d = none := by
          unfold numD
          rw [if_neg]
          intro ha
          have := List.all_eq_true.1 ha x (List.mem_of_getElem? hx)
          simp [isDig] at this
          omega
        rw [hno]
        ((conv => whnf); (repeat ((first | (refine VL.cons ?_) | (refine VL.nil ?_) | (refine VC.seqS rfl ?_) | (refine VC.region ?_)); (conv => whnf))))
        (repeat (first | ((first | (refine VL.cons ?_) | (refine VL.nil ?_) | (refine VC.seqS rfl ?_) | (refine VC.region ?_) | (refine VC.cond ?_) | (refine VC.block ?_) | (refine VC.ret ?_) | (refine VC.skip ?_) | (refine VBool.f ?_) | (refine VBool.dT (by omega) ?_) | (refine VBool.dF (by omega) ?_) | (refine VRead.load1 (by assumption) ?_) | (refine VRead.at1 (by omega) ?_) | (refine VC.seq ?_)); (conv => whnf)) | (refine VRead.at1 hjk ?_; (conv => whnf))))
        exact ⟨rfl, hB⟩
    · have hno : numD d = none := by
        unfold numD
        rw [if_neg]
        intro ha
        have := List.all_eq_true.1 ha x (List.mem_of_getElem? hx)
        simp [isDig] at this
        omega
      rw [hno]
      ((conv => whnf); (repeat ((first | (refine VL.cons ?_) | (refine VL.nil ?_) | (refine VC.seqS rfl ?_) | (refine VC.region ?_)); (conv => whnf))))
      (repeat (first | ((first | (refine VL.cons ?_) | (refine VL.nil ?_) | (refine VC.seqS rfl ?_) | (refine VC.region ?_) | (refine VC.cond ?_) | (refine VC.block ?_) | (refine VC.ret ?_) | (refine VC.skip ?_) | (refine VBool.t ?_) | (refine VBool.dT (by omega) ?_) | (refine VRead.load1 (by assumption) ?_) | (refine VRead.at1 (by omega) ?_) | (refine VC.seq ?_)); (conv => whnf)) | (refine VRead.at1 hjk ?_; (conv => whnf))))
      exact ⟨rfl, hB⟩
  · obtain rfl : j = k := by omega
    have htk : d.take j = d := List.take_of_length_le (by omega)
    rw [htk] at hall ⊢
    have hyes : numD d = some (numF 0 d) := by unfold numD; rw [if_pos hall]
    rw [hyes]
    ((conv => whnf); (repeat ((first | (refine VL.cons ?_) | (refine VL.nil ?_) | (refine VC.seqS rfl ?_) | (refine VC.region ?_)); (conv => whnf))))
    ((repeat ((first | (refine VL.cons ?_) | (refine VL.nil ?_) | (refine VC.seqS rfl ?_) | (refine VC.region ?_) | (refine VC.cond ?_) | (refine VC.exit ?_) | (refine VC.ret ?_) | (refine VBool.dF (by omega) ?_) | (refine VC.seq ?_)); (conv => whnf))))
    exact ⟨rfl, hB⟩
/-! ### snapshots' names -/
def snPre : List UInt8 := [115, 110, 97, 112, 45]
def snName (i : Int) : List UInt8 := if i < 1 ∨ 1099511627776 < i then [] else nameN snPre 13 i.toNat
end Go.Proofs.YtebeidnmplnlpaaGreat
end

section
set_option maxRecDepth 10000
namespace Go.Proofs.YtebeidnmplnlpaaGreat
set_option linter.unusedVariables false
open Go.RowKit
open Go.Maps (Keyed)
open Go.ChangeMaps Go.WideElems

/-- an element as it is -/
def RV : Value → Option (DataW Value × List MemPlace) := fun v => some (.held v, [])
/-- block b is a map of at most n entries -/
def MapIs (P : Program) (k : TypeId) (W : World) (b n : Nat) (D : DataW Value) : Prop := W.ownsMap P k RV b n D
/-- what is at a key -/
def mval (D : DataW Value) (kl : Lit) (z : Value) : Value := match D.atKey kl (.held z) with | .held v => v | _ => z
theorem mval_of {D : DataW Value} {kl : Lit} {z v : Value} {ps : List MemPlace} (h : RV v = some (D.atKey kl (.held z), ps)) : mval D kl z = v := by
  unfold RV at h
  injection h with h
  injection h with h1 _
  unfold mval
  rw [← h1]
theorem mval_put_same {D : DataW Value} {kl : Lit} {z v : Value} (hD : Maps.IsMap D) (hk : WideAt.IsKeyLit kl) : mval (D.put kl (.held v)) kl z = v := by
  unfold mval; rw [Maps.atKey_put_same hD hk]
theorem mval_put_other {D : DataW Value} {kl kl' : Lit} {z v : Value} (h : kl' ≠ kl) : mval (D.put kl (.held v)) kl' z = mval D kl' z := by
  unfold mval; rw [Maps.atKey_put_other h]
section
variable {P : Program} {S : World → Prop} {w : World} {k e t ty : TypeId} {b n : Nat} {D : DataW Value}
theorem MapIs.below {w' : World} {B : Nat} (h : MapIs P k w b n D) (hb : Below B w w') (hB : b < B) : MapIs P k w' b n D := by
  obtain ⟨es, clock, h1, h2⟩ := h
  exact ⟨es, clock, by rw [hb.block b hB]; exact h1, h2⟩
theorem MapIs.kept {w' : World} {row : Option Nat} (h : MapIs P k w b n D) (hg : w.grownBy w' row) (hne : some b ≠ row) : MapIs P k w' b n D := World.ownsMap.kept h hg hne
theorem MapIs.lt (h : MapIs P k w b n D) : b < w.heap.size := World.ownsMap.lt h
theorem MapIs.drewN (h : MapIs P k w b n D) (N : Nat) : MapIs P k (w.drewN N) b n D := h
theorem VRead.mapAt {key z : Value} {kl : Lit} {K : Value → Prop} [i : TMap P t k e] (h : ∀ W, S W → MapIs P k W b n D) (Kd : Keyed P k) (hz : ∀ W : World, (zeroValue e).run P W = .ok z W) (hkey : keyOf P k key = some kl)
    (hk : K (mval D kl z)) : VRead P S (Instr.lookup t (.map (some b)) key false) K := by
  refine .of (fun W hW => ?_) hk
  obtain ⟨v, ps, hrun, hv⟩ := World.ownsMap.lookup (h W hW) Kd i.u (hz W) (zd := .held z) (zp := []) rfl hkey
  rw [hrun, mval_of hv]
theorem VSem.mapAt {key z : Value} {kl : Lit} {K : Value → World → Prop} [i : TMap P t k e] (h : MapIs P k w b n D) (Kd : Keyed P k) (hz : ∀ W : World, (zeroValue e).run P W = .ok z W) (hkey : keyOf P k key = some kl)
    (hk : K (mval D kl z) w) : VSem P (Instr.lookup t (.map (some b)) key false) w K := by
  obtain ⟨v, ps, hrun, hv⟩ := World.ownsMap.lookup h Kd i.u (hz w) (zd := .held z) (zp := []) rfl hkey
  exact .of hrun (by rw [mval_of hv] at hk; exact hk)
theorem VUnit.mapSet {key val : Value} {kl : Lit} {K : World → Prop} [i : TMap P t k e] (h : MapIs P k w b n D) (Kd : Keyed P k) (hn : n ≤ 1000000000) (hkey : keyOf P k key = some kl)
    (hk : ∀ w', MapIs P k w' b (n + 1) (D.put kl (.held val)) → w.grownBy w' (some b) → K w') : VUnit P (Instr.mapUpdate t (.map (some b)) key val) w K := by
  obtain ⟨w', hrun, h1, h2⟩ := World.ownsMap.update h Kd i.u (by simp only [maxLen]; omega) hkey (d := .held val) (ps := []) rfl
  exact .of hrun (hk w' h1 h2)
theorem VSem.mapDel {key : Value} {kl : Lit} {K : Value → World → Prop} [i : TMap P t k e] (h : MapIs P k w b n D) (Kd : Keyed P k) (hkey : keyOf P k key = some kl)
    (hk : ∀ w', MapIs P k w' b n (D.del kl) → w.grownBy w' (some b) → K (.tuple #[]) w') : VSem P (Builtin.delete_ #[t, k] ty [.map (some b), key].toArray) w K := by
  obtain ⟨w', hrun, h1, h2⟩ := World.ownsMap.drop (ty := ty) h Kd i.u hkey
  exact .of hrun (hk w' h1 h2.grown)
theorem VRead.mapLen {K : Value → Prop} [i : TMap P t k e] (h : ∀ W, S W → MapIs P k W b n D) (hk : K (.int .i64 (Maps.size D))) : VRead P S (Builtin.len_ #[t] ty [.map (some b)].toArray) K :=
  .of (fun W hW => World.ownsMap.len (h W hW) i.u ty) hk
theorem VSem.makeMap {K : Value → World → Prop} (hk : ∀ w', MapIs P k w' w.heap.size 0 (.map []) → Below w.heap.size w w' → w'.heap.size = w.heap.size + 1 → K (.map (some w.heap.size)) w') : VSem P (Instr.makeMap t none) w K :=
  .of (v := .map (some w.heap.size)) (w' := w.alloc (.map #[] 0)) rfl (hk _ (World.ownsMap_made w P k RV) ((Below.refl _ _).alloc (Nat.le_refl _) _) (by simp))
/-- a range over a map under way -/
def RangeIs (P : Program) (k : TypeId) (W : World) (b r n : Nat) (D : DataW Value) (left : Lit → Bool) (cnt : Nat) : Prop := W.ranges P k RV b r n D left cnt
theorem RangeIs.map {r cnt : Nat} {left : Lit → Bool} (h : RangeIs P k w b r n D left cnt) : MapIs P k w b n D := World.ranges.owns h
theorem RangeIs.kept {w' : World} {row : Option Nat} {r cnt : Nat} {left : Lit → Bool} (h : RangeIs P k w b r n D left cnt) (hg : w.grownBy w' row) (hb : some b ≠ row) (hr : some r ≠ row) : RangeIs P k w' b r n D left cnt := World.ranges.kept h hg hb hr
theorem VSem.rangeM {K : Value → World → Prop} [i : TMap P t k e] (h : MapIs P k w b n D) (Kd : Keyed P k)
    (hk : ∀ w', RangeIs P k w' b w.heap.size n D (Maps.has D) (Maps.size D) → w.grownBy w' none → w'.heap.size = w.heap.size + 1 → K (.pointer (some ⟨w.heap.size, 0, none⟩)) w') : VSem P (Instr.range t (.map (some b))) w K := by
  obtain ⟨w', hrun, h1, h2, h3⟩ := World.ownsMap.range h Kd i.u
  exact .of hrun (hk w' h1 h2 h3)
theorem VSem.nextM {r cnt : Nat} {left : Lit → Bool} {K : Value → World → Prop} (h : RangeIs P k w b r n D left cnt) (Kd : Keyed P k)
    (h0 : cnt = 0 → (∀ kl, left kl = false) → K (.tuple #[.bool false]) w)
    (h1 : ∀ key v kl w' cnt', keyOf P k key = some kl → left kl = true → (∀ z, mval D kl z = v) → Maps.has D kl = true → RangeIs P k w' b r n D (fun x => left x && !x.sameKey kl) cnt' → cnt' < cnt → w.grownBy w' (some r) → w'.heap.size = w.heap.size →
      (Instr.entry (.pointer (some ⟨r, 0, none⟩))).run P w' = .ok (.tuple #[key, v]) w' → K (.tuple #[.bool true, key, v]) w') :
    VSem P (Instr.next (.pointer (some ⟨r, 0, none⟩)) false ty) w K := by
  rcases World.ranges.next h Kd ty with ⟨e0, e1, hrun⟩ | ⟨key, v, kl, y, w', cnt', e1, e2, e3, e4, hrun, e5, e6, e7, e8, e9⟩
  · exact .of hrun (h0 e0 e1)
  · have hy : y = (.held v, []) := by unfold RV at e3; injection e3 with e3; exact e3.symm
    subst hy
    refine .of hrun (h1 key v kl w' cnt' e1 e2 (fun z => ?_) ?_ e5 e6 e7 e8 e9)
    · unfold mval; rw [e4]
    · exact Maps.has_true_of_atKey e4
end
end Go.Proofs.YtebeidnmplnlpaaGreat
end

section
set_option maxRecDepth 10000
namespace Go.Proofs.YtebeidnmplnlpaaGreat
set_option linter.unusedVariables false
open Go.RowKit Go.Shelf Go.Sort

theorem sortStrs_row {P : Program} {ρ : Ren} (Ly : Lays.n190 P ρ) {W : World} {B e n c : Nat} {A : Option Addr} {l : List (List UInt8)} (h : W.ownsRow B e 1 (.slice A n c) n (l.map encStr)) (hn : n ≤ 1000000) :
    Calls P (ρ.f 190) #[.slice A n c] W fun r W' => r = .returned (.tuple #[]) ∧ W'.ownsRow B e 1 (.slice A n c) n ((l.mergeSort fun x y => decide (x ≤ y)).map encStr) ∧ W.grownBy W' (Value.slice A n c).ownBlock := by
  have hl : l.length = n := by have := h.1; simpa using this
  rcases h.2 with ⟨hv, h0⟩ | ⟨g, cap, cur, hv, hbg, hb, h1, h2, h3, h4⟩
  · injection hv with e1 e2 e3
    subst e1 e3 h0
    obtain rfl : l = [] := List.eq_nil_of_length_eq_zero hl
    refine (Any.slices_Sort_string_none Ly none 0 W).mono ?_
    rintro r W' ⟨rfl, rfl⟩
    exact ⟨rfl, by simpa using h, ⟨rfl, rfl, rfl, Nat.le_refl _, fun _ _ _ => rfl⟩⟩
  · injection hv with e1 e2 e3
    subst e1 e3
    subst hl
    refine (Any.slices_Sort_string Ly g 0 c l W (holds_of_block hb (by simpa using h4)) (Array.getElem?_eq_some_iff.1 hb).1 (by omega)).mono ?_
    rintro r W' ⟨rfl, N, os, rfl⟩
    exact ⟨rfl, ownsRow_sorted (by simp) hbg hb h1 h2 h3, grownBy_sorted _⟩
/-! ### the keys of a map, collected in whatever order, and sorted -/
end Go.Proofs.YtebeidnmplnlpaaGreat
end

section
set_option maxRecDepth 10000
namespace Go.Proofs.YtebeidnmplnlpaaGreat
set_option linter.unusedVariables false
open Go.RowKit
open Go.Maps (Keyed)
open Go.ChangeMaps Go.WideElems

section
variable {κ α : Type} [DecidableEq κ]
/-- what stands at a key -/
def tfind : List (κ × α) → κ → Option α
  | [], _ => none
  | (j, x) :: r, i => if j = i then some x else tfind r i
theorem tfind_none {i : κ} : ∀ {L : List (κ × α)}, tfind L i = none → i ∉ L.map (·.1)
  | [], _ => by simp
  | (j, x) :: r, h => by
    unfold tfind at h
    by_cases e : j = i
    · rw [if_pos e] at h; cases h
    · rw [if_neg e] at h
      have := tfind_none h
      simp only [List.map_cons, List.mem_cons, not_or]
      exact ⟨fun h' => e h'.symm, this⟩
theorem tfind_not {i : κ} : ∀ {L : List (κ × α)}, i ∉ L.map (·.1) → tfind L i = none
  | [], _ => rfl
  | (j, x) :: r, h => by
    simp only [List.map_cons, List.mem_cons, not_or] at h
    unfold tfind
    rw [if_neg (fun e => h.1 e.symm)]
    exact tfind_not h.2
theorem tfind_some {i : κ} {x : α} : ∀ {L : List (κ × α)}, tfind L i = some x → ∃ A B, L = A ++ (i, x) :: B
  | [], h => by cases h
  | (j, y) :: r, h => by
    unfold tfind at h
    by_cases e : j = i
    · rw [if_pos e] at h; injection h with h; subst h; subst e; exact ⟨[], r, rfl⟩
    · rw [if_neg e] at h
      obtain ⟨A, B, e'⟩ := tfind_some h
      exact ⟨(j, y) :: A, B, by rw [e']; rfl⟩
theorem tfind_mem {i : κ} {x : α} {L : List (κ × α)} (h : tfind L i = some x) : (i, x) ∈ L := by
  obtain ⟨A, B, rfl⟩ := tfind_some h; simp
theorem tfind_of {i : κ} {x : α} : ∀ {L : List (κ × α)}, (L.map (·.1)).Nodup → (i, x) ∈ L → tfind L i = some x
  | [], _, h => by cases h
  | (j, y) :: r, hn, h => by
    simp only [List.map_cons, List.nodup_cons] at hn
    unfold tfind
    rcases List.mem_cons.1 h with e | h
    · injection e with e1 e2; subst e1; subst e2; rw [if_pos rfl]
    · have : j ≠ i := fun e => hn.1 (by rw [e]; exact List.mem_map_of_mem h)
      rw [if_neg this]
      exact tfind_of hn.2 h
end
section
variable {κ α : Type}
/-- D holds, at the keys of L, what L says, and nothing else -/
structure Rel (P : Program) (k : TypeId) (val : κ → Value) (lit : κ → Lit) (enc : α → Value) (D : DataW Value) (L : List (κ × α)) : Prop where
  tidy : Maps.Tidy D
  nd : (L.map (·.1)).Nodup
  key : ∀ p ∈ L, keyOf P k (val p.1) = some (lit p.1)
  src : ∀ kl, Maps.has D kl = true → ∃ p ∈ L, kl = lit p.1
  has : ∀ p ∈ L, Maps.has D (lit p.1) = true
  at_ : ∀ p ∈ L, ∀ z, mval D (lit p.1) z = enc p.2
  size : Maps.size D = L.length
variable {P : Program} {k : TypeId} {val : κ → Value} {lit : κ → Lit} {enc : α → Value} {D : DataW Value} {L : List (κ × α)} {i : κ} {x y : α}
theorem Rel.empty : Rel P k val lit enc (.map []) ([] : List (κ × α)) :=
  ⟨Maps.tidy_empty, by simp, (by intro p h; cases h), (by intro kl h; simp [Maps.has] at h), (by intro p h; cases h), (by intro p h; cases h), rfl⟩
theorem mval_not {D : DataW Value} {kl : Lit} {z : Value} (h : Maps.has D kl = false) : mval D kl z = z := by
  unfold mval; rw [Maps.atKey_of_not_has h]
theorem Rel.hasF (R : Rel P k val lit enc D L) (hi : ∀ a b, lit a = lit b → a = b) (h : i ∉ L.map (·.1)) : Maps.has D (lit i) = false := by
  cases e : Maps.has D (lit i) with
  | false => rfl
  | true =>
    obtain ⟨p, hp, e'⟩ := R.src _ e
    exact absurd (by rw [hi _ _ e']; exact List.mem_map_of_mem hp) h
theorem Rel.perm {L' : List (κ × α)} (R : Rel P k val lit enc D L) (h : L.Perm L') : Rel P k val lit enc D L' :=
  ⟨R.tidy, ((h.map _).nodup_iff).1 R.nd, fun p hp => R.key p (h.mem_iff.2 hp), fun kl hk => by obtain ⟨p, hp, e⟩ := R.src kl hk; exact ⟨p, h.mem_iff.1 hp, e⟩,
    fun p hp => R.has p (h.mem_iff.2 hp), fun p hp => R.at_ p (h.mem_iff.2 hp), by rw [R.size, h.length_eq]⟩
theorem Rel.put (R : Rel P k val lit enc D L) (Kd : Keyed P k) (hi : ∀ a b, lit a = lit b → a = b) (hk : keyOf P k (val i) = some (lit i)) (h : i ∉ L.map (·.1)) :
    Rel P k val lit enc (D.put (lit i) (.held (enc x))) (L ++ [(i, x)]) := by
  have hl := Kd.key hk
  have hne : ∀ p ∈ L, lit p.1 ≠ lit i := fun p hp e => h (by rw [← hi _ _ e]; exact List.mem_map_of_mem hp)
  refine ⟨R.tidy.put hl _, ?_, ?_, ?_, ?_, ?_, ?_⟩
  · rw [List.map_append, List.nodup_append]
    refine ⟨R.nd, by simp, ?_⟩
    intro a ha b hb e
    simp at hb
    subst hb; subst e
    exact h ha
  · intro p hp
    rcases List.mem_append.1 hp with hp | hp
    · exact R.key p hp
    · simp at hp; subst hp; exact hk
  · intro kl hkl
    by_cases e : kl = lit i
    · exact ⟨(i, x), by simp, e⟩
    · rw [Maps.has_put_other e] at hkl
      obtain ⟨p, hp, e'⟩ := R.src kl hkl
      exact ⟨p, List.mem_append_left _ hp, e'⟩
  · intro p hp
    rcases List.mem_append.1 hp with hp | hp
    · rw [Maps.has_put_other (hne p hp)]; exact R.has p hp
    · simp at hp; subst hp; exact Maps.has_put_same R.tidy.isMap hl _
  · intro p hp z
    rcases List.mem_append.1 hp with hp | hp
    · rw [mval_put_other (hne p hp)]; exact R.at_ p hp z
    · simp at hp; subst hp; exact mval_put_same R.tidy.isMap hl
  · rw [Maps.size_put R.tidy, R.hasF hi h, R.size]
    simp
theorem Rel.set {A B : List (κ × α)} (R : Rel P k val lit enc D (A ++ (i, y) :: B)) (Kd : Keyed P k) (hi : ∀ a b, lit a = lit b → a = b) :
    Rel P k val lit enc (D.put (lit i) (.held (enc x))) (A ++ (i, x) :: B) := by
  have hk : keyOf P k (val i) = some (lit i) := R.key (i, y) (by simp)
  have hl := Kd.key hk
  have hm : ∀ p, p ∈ A ∨ p ∈ B → p ∈ A ++ (i, y) :: B := by intro p hp; simp; rcases hp with h | h <;> simp [h]
  have hnd := R.nd
  simp only [List.map_append, List.map_cons] at hnd
  have h0 : i ∉ A.map (·.1) ∧ i ∉ B.map (·.1) := by
    rw [List.nodup_append] at hnd
    refine ⟨fun h => hnd.2.2 i h i (List.mem_cons_self ..) rfl, ?_⟩
    exact (List.nodup_cons.1 hnd.2.1).1
  have hne : ∀ p, p ∈ A ∨ p ∈ B → lit p.1 ≠ lit i := fun p hp e => by
    have e := hi _ _ e
    rcases hp with hp | hp
    · exact h0.1 (by rw [← e]; exact List.mem_map_of_mem hp)
    · exact h0.2 (by rw [← e]; exact List.mem_map_of_mem hp)
  have hspl : ∀ p ∈ A ++ (i, x) :: B, (p ∈ A ∨ p ∈ B) ∨ p = (i, x) := by
    intro p hp; simp at hp; rcases hp with h | h | h
    · exact .inl (.inl h)
    · exact .inr h
    · exact .inl (.inr h)
  refine ⟨R.tidy.put hl _, by simpa using R.nd, ?_, ?_, ?_, ?_, ?_⟩
  · intro p hp
    rcases hspl p hp with h | rfl
    · exact R.key p (hm p h)
    · exact hk
  · intro kl hkl
    by_cases e : kl = lit i
    · exact ⟨(i, x), by simp, e⟩
    · rw [Maps.has_put_other e] at hkl
      obtain ⟨p, hp, e'⟩ := R.src kl hkl
      simp at hp
      rcases hp with h | h | h
      · exact ⟨p, by simp [h], e'⟩
      · subst h; exact absurd e' e
      · exact ⟨p, by simp [h], e'⟩
  · intro p hp
    rcases hspl p hp with h | rfl
    · rw [Maps.has_put_other (hne p h)]; exact R.has p (hm p h)
    · exact Maps.has_put_same R.tidy.isMap hl _
  · intro p hp z
    rcases hspl p hp with h | rfl
    · rw [mval_put_other (hne p h)]; exact R.at_ p (hm p h) z
    · exact mval_put_same R.tidy.isMap hl
  · rw [Maps.size_put R.tidy, R.has (i, y) (by simp), R.size]
    simp
theorem Rel.del {A B : List (κ × α)} (R : Rel P k val lit enc D (A ++ (i, y) :: B)) (hi : ∀ a b, lit a = lit b → a = b) :
    Rel P k val lit enc (D.del (lit i)) (A ++ B) := by
  have hm : ∀ p, p ∈ A ∨ p ∈ B → p ∈ A ++ (i, y) :: B := by intro p hp; simp; rcases hp with h | h <;> simp [h]
  have hnd := R.nd
  simp only [List.map_append, List.map_cons] at hnd
  rw [List.nodup_append] at hnd
  have h0 : i ∉ A.map (·.1) ∧ i ∉ B.map (·.1) := ⟨fun h => hnd.2.2 i h i (List.mem_cons_self ..) rfl, (List.nodup_cons.1 hnd.2.1).1⟩
  have hne : ∀ p, p ∈ A ∨ p ∈ B → lit p.1 ≠ lit i := fun p hp e => by
    have e := hi _ _ e
    rcases hp with hp | hp
    · exact h0.1 (by rw [← e]; exact List.mem_map_of_mem hp)
    · exact h0.2 (by rw [← e]; exact List.mem_map_of_mem hp)
  refine ⟨R.tidy.del _, ?_, ?_, ?_, ?_, ?_, ?_⟩
  · rw [List.map_append, List.nodup_append]
    exact ⟨hnd.1, (List.nodup_cons.1 hnd.2.1).2, fun a ha b hb => hnd.2.2 a ha b (List.mem_cons_of_mem _ hb)⟩
  · intro p hp; exact R.key p (hm p (List.mem_append.1 hp))
  · intro kl hkl
    by_cases e : kl = lit i
    · subst e; rw [Maps.has_del_same] at hkl; cases hkl
    · rw [Maps.has_del_other e] at hkl
      obtain ⟨p, hp, e'⟩ := R.src kl hkl
      simp at hp
      rcases hp with h | h | h
      · exact ⟨p, by simp [h], e'⟩
      · subst h; exact absurd e' e
      · exact ⟨p, by simp [h], e'⟩
  · intro p hp
    rw [Maps.has_del_other (hne p (List.mem_append.1 hp))]; exact R.has p (hm p (List.mem_append.1 hp))
  · intro p hp z
    unfold mval
    rw [Maps.atKey_del_other (hne p (List.mem_append.1 hp))]; exact R.at_ p (hm p (List.mem_append.1 hp)) z
  · have h1 := Maps.size_del R.tidy (k := lit i)
    rw [R.has (i, y) (by simp), R.size] at h1
    simp at h1 ⊢
    omega
theorem nodup_le {κ : Type} : ∀ {l m : List κ}, l.Nodup → (∀ a ∈ l, a ∈ m) → l.length ≤ m.length
  | [], _, _, _ => by simp
  | a :: l, m, hn, h => by
    obtain ⟨h1, h2⟩ := List.nodup_cons.1 hn
    obtain ⟨A, B, rfl⟩ := List.append_of_mem (h a (List.mem_cons_self ..))
    have := nodup_le (m := A ++ B) h2 (fun x hx => by
      have := h x (List.mem_cons_of_mem _ hx)
      simp at this ⊢
      rcases this with h' | h' | h'
      · exact .inl h'
      · subst h'; exact absurd hx h1
      · exact .inr h')
    simp at this ⊢
    omega
/-! ### the keys that a range has yet to tell -/
structure Todo (lit : κ → Lit) (L : List (κ × α)) (left : Lit → Bool) (acc : List κ) : Prop where
  nd : acc.Nodup
  sub : ∀ a ∈ acc, a ∈ L.map (·.1)
  cov : ∀ p ∈ L, p.1 ∈ acc ∨ left (lit p.1) = true
  out : ∀ a ∈ acc, left (lit a) = false
theorem Todo.start {left : Lit → Bool} (h : ∀ p ∈ L, left (lit p.1) = true) : Todo lit L left [] := ⟨by simp, by simp, fun p hp => .inr (h p hp), by simp⟩
theorem Todo.next {left : Lit → Bool} {acc : List κ} {kl : Lit} (T : Todo lit L left acc) (hi : ∀ a b, lit a = lit b → a = b) (hk : WideAt.IsKeyLit kl) (e : kl = lit i) (hm : i ∈ L.map (·.1)) (hl : left kl = true) :
    Todo lit L (fun x => left x && !x.sameKey kl) (acc ++ [i]) := by
  subst e
  refine ⟨?_, ?_, ?_, ?_⟩
  · rw [List.nodup_append]
    refine ⟨T.nd, by simp, ?_⟩
    intro a ha b hb e
    simp at hb; subst hb; subst e
    have := T.out a ha
    rw [hl] at this; cases this
  · intro a ha
    rcases List.mem_append.1 ha with h | h
    · exact T.sub a h
    · simp at h; subst h; exact hm
  · intro p hp
    by_cases e : p.1 = i
    · exact .inl (by simp [e])
    · rcases T.cov p hp with h | h
      · exact .inl (List.mem_append_left _ h)
      · right
        rw [h, Maps.sameKey_ne (fun e' => e (hi _ _ e'))]; rfl
  · intro a ha
    rcases List.mem_append.1 ha with h | h
    · rw [T.out a h]; rfl
    · simp at h; subst h
      rw [WideAt.sameKey_self hk]; simp
theorem Todo.all {left : Lit → Bool} {acc : List κ} (T : Todo lit L left acc) (h : ∀ kl, left kl = false) : ∀ a, a ∈ acc ↔ a ∈ L.map (·.1) := fun a =>
  ⟨T.sub a, fun ha => by
    obtain ⟨p, hp, rfl⟩ := List.mem_map.1 ha
    rcases T.cov p hp with h' | h'
    · exact h'
    · rw [h] at h'; cases h'⟩
theorem Todo.len {left : Lit → Bool} {acc : List κ} (T : Todo lit L left acc) : acc.length ≤ L.length := by
  have := nodup_le T.nd T.sub
  simpa using this
end
section
variable {P : Program} {k : TypeId} {W W' : World} {b r n : Nat} {D : DataW Value} {left : Lit → Bool} {cnt : Nat}
theorem RangeIs.of_same (h : RangeIs P k W b r n D left cnt) (h1 : W'.heap[b]? = W.heap[b]?) (h2 : W'.heap[r]? = W.heap[r]?) : RangeIs P k W' b r n D left cnt := by
  obtain ⟨es, clock, since, seen, c0, e1, e2, e3, e4, e5, e6⟩ := h
  exact ⟨es, clock, since, seen, c0, by rw [h1]; exact e1, e2, e3, e4, by rw [h2]; exact e5, e6⟩
theorem RangeIs.not_cells (h : RangeIs P k W b r n D left cnt) : ∀ g cs t fr, W.heap[g]? = some (Obj.cells cs t fr) → g ≠ b ∧ g ≠ r := by
  obtain ⟨es, clock, since, seen, c0, e1, e2, e3, e4, e5, e6⟩ := h
  intro g cs t fr hg
  refine ⟨fun e => ?_, fun e => ?_⟩
  · subst e; rw [e1] at hg; cases hg
  · subst e; rw [e5] at hg; cases hg
theorem RangeIs.lt (h : RangeIs P k W b r n D left cnt) : b < W.heap.size ∧ r < W.heap.size := by
  obtain ⟨es, clock, since, seen, c0, e1, e2, e3, e4, e5, e6⟩ := h
  exact ⟨(Array.getElem?_eq_some_iff.1 e1).1, (Array.getElem?_eq_some_iff.1 e5).1⟩
theorem row_cells {B e s m : Nat} {v : Value} {xs : List Value} (h : W.ownsRow B e s v m xs) : ∀ g, v.ownBlock = some g → B ≤ g ∧ ∃ cs, W.heap[g]? = some (Obj.cells cs e (0, 0)) := by
  intro g hg
  rcases h.2 with ⟨rfl, _⟩ | ⟨g', cap, cur, rfl, hB, hc, _⟩
  · simp [Value.ownBlock] at hg
  · have : g' = g := by simpa [Value.ownBlock] using hg
    subst this
    exact ⟨hB, cur, hc⟩
/-- a row of its own turns: the range goes on -/
theorem RangeIs.row {B e s m : Nat} {v : Value} {xs : List Value} (h : RangeIs P k W b r n D left cnt) (ho : W.ownsRow B e s v m xs) (hg : W.grownBy W' v.ownBlock) : RangeIs P k W' b r n D left cnt := by
  refine h.kept hg (fun e => ?_) (fun e => ?_)
  · obtain ⟨_, cs, hc⟩ := row_cells ho _ e.symm
    exact (h.not_cells _ _ _ _ hc).1 rfl
  · obtain ⟨_, cs, hc⟩ := row_cells ho _ e.symm
    exact (h.not_cells _ _ _ _ hc).2 rfl
theorem RangeIs.below {C : Nat} (h : RangeIs P k W b r n D left cnt) (hb : Below C W W') (hC : W.heap.size ≤ C) : RangeIs P k W' b r n D left cnt :=
  h.of_same (hb.block _ (Nat.lt_of_lt_of_le h.lt.1 hC)) (hb.block _ (Nat.lt_of_lt_of_le h.lt.2 hC))
/-- the range goes on: a row of its own stays -/
theorem row_range {B e s m : Nat} {v : Value} {xs : List Value} (ho : W.ownsRow B e s v m xs) (h : RangeIs P k W b r n D left cnt) (hg : W.grownBy W' (some r)) : W'.ownsRow B e s v m xs :=
  rows_apart ho hg (fun g hg' e => by
    obtain rfl := Option.some.inj hg'
    obtain ⟨_, cs, hc⟩ := row_cells ho _ e
    exact (h.not_cells _ _ _ _ hc).2 rfl)
end
theorem VRead.eqNN {P : Program} {S : World → Prop} {t : TypeId} {x y : Operand} {K : Value → Prop} [i : TPtr P t] (hk : K (.bool true)) :
    VRead P S (do eqGuard .eql t x y (.pointer none) (.pointer none); binOp .eql t (.pointer none) (.pointer none)) K := by
  obtain ⟨e, he⟩ := i.u
  refine .ofW (fun W => ?_) hk
  rw [Sem.run_bind, show (eqGuard .eql t x y (.pointer none) (.pointer none)).run P W = .ok () W from rfl]
  have hp : P.underlying t = some (.pointer (P.pointee t)) := by rw [he]; unfold Program.pointee; rw [he]
  simp only [Result.andThen_ok]
  rw [run_eql_pointer_nil W t none hp]
  rfl
end Go.Proofs.YtebeidnmplnlpaaGreat
end

section
namespace Go.Proofs.YtebeidnmplnlpaaGreat
set_option linter.unusedVariables false

class TO (κ : Type) [LT κ] : Prop where
  irr : ∀ a : κ, ¬ a < a
  tr : ∀ a b c : κ, a < b → b < c → a < c
  tri : ∀ a b : κ, a < b ∨ a = b ∨ b < a
instance : TO Int := ⟨fun a => by omega, fun a b c => by omega, fun a b => by omega⟩
instance : TO (List UInt8) := ⟨fun a => List.lt_irrefl a, fun a b c h1 h2 => List.lt_trans h1 h2, fun a b => by
  rcases Decidable.em (a < b) with h | h
  · exact .inl h
  · rcases Decidable.em (b < a) with h' | h'
    · exact .inr (.inr h')
    · exact .inr (.inl (List.le_antisymm h' h))⟩
section
variable {κ α : Type} [LT κ] [DecidableLT κ] [DecidableEq κ] [TO κ]
def Rising (L : List (κ × α)) : Prop := (L.map (·.1)).Pairwise (· < ·)
omit [DecidableLT κ] [DecidableEq κ] in
theorem Rising.nd {L : List (κ × α)} (h : Rising L) : (L.map (·.1)).Nodup := h.imp (fun {a b} hab e => by subst e; exact TO.irr _ hab)
def tset : List (κ × α) → κ → α → List (κ × α)
  | [], i, x => [(i, x)]
  | (j, y) :: r, i, x => if i < j then (i, x) :: (j, y) :: r else if j = i then (i, x) :: r else (j, y) :: tset r i x
def tdel (L : List (κ × α)) (i : κ) : List (κ × α) := L.filter (fun p => decide (p.1 ≠ i))
omit [DecidableLT κ] [TO κ] [LT κ] in
theorem tdel_eq {A B : List (κ × α)} {i : κ} {y : α} (h : ((A ++ (i, y) :: B).map (·.1)).Nodup) : tdel (A ++ (i, y) :: B) i = A ++ B := by
  simp only [List.map_append, List.map_cons] at h
  rw [List.nodup_append] at h
  unfold tdel
  rw [List.filter_append, List.filter_cons]
  simp only [ne_eq, not_true_eq_false, decide_false, Bool.false_eq_true, ↓reduceIte]
  rw [List.filter_eq_self.2, List.filter_eq_self.2]
  · intro p hp; simp; intro e
    exact (List.nodup_cons.1 h.2.1).1 (by rw [← e]; exact List.mem_map_of_mem hp)
  · intro p hp; simp; intro e
    exact h.2.2 p.1 (List.mem_map_of_mem hp) i (List.mem_cons_self ..) e
omit [DecidableLT κ] [TO κ] [LT κ] in
theorem tdel_not {L : List (κ × α)} {i : κ} (h : i ∉ L.map (·.1)) : tdel L i = L := by
  unfold tdel
  rw [List.filter_eq_self.2]
  intro p hp; simp; intro e
  exact h (by rw [← e]; exact List.mem_map_of_mem hp)
theorem tset_old {i : κ} {x y : α} : ∀ {A B : List (κ × α)}, Rising (A ++ (i, y) :: B) → tset (A ++ (i, y) :: B) i x = A ++ (i, x) :: B
  | [], B, _ => by simp [tset, TO.irr]
  | (j, z) :: A, B, h => by
    have h' : j < i := by
      unfold Rising at h
      simp only [List.map_append, List.map_cons, List.cons_append] at h
      exact (List.pairwise_cons.1 h).1 i (by simp)
    have h1 : ¬ i < j := fun h1 => TO.irr _ (TO.tr _ _ _ h' h1)
    have h2 : j ≠ i := fun e => by subst e; exact TO.irr _ h'
    show tset ((j, z) :: (A ++ (i, y) :: B)) i x = _
    unfold tset
    rw [if_neg h1, if_neg h2, tset_old]
    · rfl
    · unfold Rising at *
      simp only [List.map_append, List.map_cons, List.cons_append] at h ⊢
      exact (List.pairwise_cons.1 h).2
omit [TO κ] in
theorem tset_new {i : κ} {x : α} : ∀ {L : List (κ × α)}, i ∉ L.map (·.1) → ∃ A B, L = A ++ B ∧ tset L i x = A ++ (i, x) :: B
  | [], _ => ⟨[], [], rfl, rfl⟩
  | (j, z) :: L, h => by
    simp only [List.map_cons, List.mem_cons, not_or] at h
    unfold tset
    by_cases h1 : i < j
    · rw [if_pos h1]; exact ⟨[], (j, z) :: L, rfl, rfl⟩
    · rw [if_neg h1, if_neg (fun e => h.1 e.symm)]
      obtain ⟨A, B, e1, e2⟩ := tset_new (x := x) h.2
      exact ⟨(j, z) :: A, B, by rw [e1]; rfl, by rw [e2]; rfl⟩
omit [TO κ] in
theorem tset_perm {i : κ} {x : α} {L : List (κ × α)} (h : i ∉ L.map (·.1)) : (L ++ [(i, x)]).Perm (tset L i x) := by
  obtain ⟨A, B, rfl, e⟩ := tset_new (x := x) h
  rw [e, List.append_assoc]
  exact List.Perm.append_left A List.perm_append_comm
omit [TO κ] in
theorem tset_keys {i a : κ} {x : α} : ∀ {L : List (κ × α)}, a ∈ (tset L i x).map (·.1) → a = i ∨ a ∈ L.map (·.1)
  | [], h => by simp [tset] at h; exact .inl h
  | (j, z) :: L, h => by
    unfold tset at h
    by_cases h1 : i < j
    · rw [if_pos h1] at h
      simp only [List.map_cons, List.mem_cons] at h ⊢
      exact h
    · rw [if_neg h1] at h
      by_cases h2 : j = i
      · rw [if_pos h2] at h
        simp only [List.map_cons, List.mem_cons] at h ⊢
        rcases h with h | h
        · exact .inl h
        · exact .inr (.inr h)
      · rw [if_neg h2] at h
        simp only [List.map_cons, List.mem_cons] at h ⊢
        rcases h with h | h
        · exact .inr (.inl h)
        · rcases tset_keys h with h | h
          · exact .inl h
          · exact .inr (.inr h)
theorem Rising.set {i : κ} {x : α} : ∀ {L : List (κ × α)}, Rising L → Rising (tset L i x)
  | [], _ => by simp [tset, Rising]
  | (j, z) :: L, h => by
    have h' : (∀ a ∈ L.map (·.1), j < a) ∧ Rising L := by
      unfold Rising at *
      simp only [List.map_cons] at h
      exact ⟨(List.pairwise_cons.1 h).1, (List.pairwise_cons.1 h).2⟩
    unfold tset
    by_cases h1 : i < j
    · rw [if_pos h1]
      unfold Rising at *
      simp only [List.map_cons] at h ⊢
      refine List.pairwise_cons.2 ⟨fun a ha => ?_, h⟩
      rcases List.mem_cons.1 ha with e | ha
      · rw [e]; exact h1
      · exact TO.tr _ _ _ h1 (h'.1 a ha)
    · rw [if_neg h1]
      by_cases h2 : j = i
      · rw [if_pos h2]
        subst h2
        unfold Rising at *
        simpa only [List.map_cons] using h
      · rw [if_neg h2]
        have ih := Rising.set (i := i) (x := x) h'.2
        unfold Rising at ih ⊢
        simp only [List.map_cons]
        refine List.pairwise_cons.2 ⟨fun a ha => ?_, ih⟩
        rcases tset_keys ha with e | ha
        · rw [e]
          rcases TO.tri i j with c | c | c
          · exact absurd c h1
          · exact absurd c.symm h2
          · exact c
        · exact h'.1 a ha
omit [DecidableLT κ] [TO κ] in
theorem Rising.del {i : κ} {L : List (κ × α)} (h : Rising L) : Rising (tdel L i) := by
  unfold Rising tdel at *
  exact h.sublist (List.filter_sublist.map _)
omit [DecidableLT κ] [DecidableEq κ] in
/-- two rising lists of the same members are one -/
theorem rising_one : ∀ {l m : List κ}, l.Pairwise (· < ·) → m.Pairwise (· < ·) → (∀ x, x ∈ l ↔ x ∈ m) → l = m
  | [], [], _, _, _ => rfl
  | [], y :: m, _, _, h => by have := (h y).2 (List.mem_cons_self ..); cases this
  | x :: l, [], _, _, h => by have := (h x).1 (List.mem_cons_self ..); cases this
  | x :: l, y :: m, h1, h2, h => by
    obtain ⟨a1, a2⟩ := List.pairwise_cons.1 h1
    obtain ⟨b1, b2⟩ := List.pairwise_cons.1 h2
    have e : x = y := by
      rcases List.mem_cons.1 ((h x).1 (List.mem_cons_self ..)) with e | c1
      · exact e
      · rcases List.mem_cons.1 ((h y).2 (List.mem_cons_self ..)) with e | c2
        · exact e.symm
        · exact absurd (TO.tr _ _ _ (b1 x c1) (a1 y c2)) (TO.irr _)
    subst e
    rw [rising_one a2 b2 (fun z => by
      constructor
      · intro hz
        rcases List.mem_cons.1 ((h z).1 (List.mem_cons_of_mem _ hz)) with e | c
        · rw [e] at hz; exact absurd (a1 x hz) (TO.irr _)
        · exact c
      · intro hz
        rcases List.mem_cons.1 ((h z).2 (List.mem_cons_of_mem _ hz)) with e | c
        · rw [e] at hz; exact absurd (b1 x hz) (TO.irr _)
        · exact c)]
end
/-- the keys of a sorted table, from any order -/
theorem sorted_keys {α : Type} {L : List (List UInt8 × α)} (hR : Rising L) {acc : List (List UInt8)} (hn : acc.Nodup) (h : ∀ a, a ∈ acc ↔ a ∈ L.map (·.1)) : (acc.mergeSort fun x y => decide (x ≤ y)) = L.map (·.1) := by
  refine rising_one ?_ hR (fun x => by rw [(List.mergeSort_perm acc _).mem_iff]; exact h x)
  have h1 : (acc.mergeSort fun x y => decide (x ≤ y)).Pairwise (fun a b => decide (a ≤ b) = true) := List.pairwise_mergeSort (fun a b c h1 h2 => by simp at *; exact List.le_trans h1 h2) (fun a b => by simp; exact List.le_total a b) acc
  have h2 : (acc.mergeSort fun x y => decide (x ≤ y)).Nodup := (List.mergeSort_perm acc _).nodup_iff.2 hn
  exact (h1.and h2).imp (fun {a b} h => by
    have h4 : a ≤ b := by simpa using h.1
    rcases TO.tri a b with c | c | c
    · exact c
    · exact absurd c h.2
    · exact absurd c h4)
/-! ### tables whose values are mapped -/
section
variable {κ α β : Type}
def tmap (f : α → β) (L : List (κ × α)) : List (κ × β) := L.map fun p => (p.1, f p.2)
theorem tmap_keys (f : α → β) (L : List (κ × α)) : (tmap f L).map (·.1) = L.map (·.1) := by unfold tmap; rw [List.map_map]; rfl
theorem tmap_length (f : α → β) (L : List (κ × α)) : (tmap f L).length = L.length := by unfold tmap; simp
theorem tmap_find [DecidableEq κ] (f : α → β) (i : κ) : ∀ L : List (κ × α), tfind (tmap f L) i = (tfind L i).map f
  | [] => rfl
  | (j, x) :: r => by
    show tfind ((j, f x) :: tmap f r) i = _
    unfold tfind
    by_cases e : j = i
    · rw [if_pos e, if_pos e]; rfl
    · rw [if_neg e, if_neg e]; exact tmap_find f i r
theorem tmap_set [LT κ] [DecidableLT κ] [DecidableEq κ] (f : α → β) (i : κ) (x : α) : ∀ L : List (κ × α), tmap f (tset L i x) = tset (tmap f L) i (f x)
  | [] => rfl
  | (j, y) :: r => by
    show _ = tset ((j, f y) :: tmap f r) i (f x)
    unfold tset
    by_cases h : i < j
    · rw [if_pos h, if_pos h]; rfl
    · rw [if_neg h, if_neg h]
      by_cases e : j = i
      · rw [if_pos e, if_pos e]; rfl
      · rw [if_neg e, if_neg e, ← tmap_set f i x r]; rfl
theorem tmap_del [DecidableEq κ] (f : α → β) (i : κ) : ∀ L : List (κ × α), tmap f (tdel L i) = tdel (tmap f L) i
  | [] => rfl
  | (j, y) :: r => by
    have ih := tmap_del f i r
    show tmap f (tdel ((j, y) :: r) i) = tdel ((j, f y) :: tmap f r) i
    unfold tdel at ih ⊢
    rw [List.filter_cons, List.filter_cons]
    by_cases e : j = i
    · simp only [e, ne_eq, not_true_eq_false, decide_false, Bool.false_eq_true, ↓reduceIte]; exact ih
    · simp only [ne_eq, e, not_false_eq_true, decide_true, ↓reduceIte]
      rw [← ih]; rfl
end
section
variable {κ α : Type} [LT κ] [DecidableLT κ] [DecidableEq κ] [TO κ]
omit [DecidableLT κ] [DecidableEq κ] [TO κ] in
theorem rising_tmap {β : Type} (f : α → β) (L : List (κ × α)) : Rising (tmap f L) ↔ Rising L := by unfold Rising; rw [tmap_keys]
theorem tset_perm2 {L : List (κ × α)} (h : Rising L) (i : κ) (x : α) : (tset L i x).Perm ((i, x) :: tdel L i) := by
  cases hf : tfind L i with
  | none =>
    rw [tdel_not (tfind_none hf)]
    exact (tset_perm (tfind_none hf)).symm.trans (List.perm_append_comm (l₁ := L) (l₂ := [(i, x)]))
  | some y =>
    obtain ⟨A, B, rfl⟩ := tfind_some hf
    rw [tset_old h, tdel_eq h.nd]
    exact List.perm_middle
theorem mem_tset {L : List (κ × α)} (h : Rising L) {i : κ} {x : α} {p : κ × α} (hp : p ∈ tset L i x) : p = (i, x) ∨ p ∈ tdel L i := by
  simpa using (tset_perm2 h i x).mem_iff.1 hp
omit [DecidableLT κ] [TO κ] [LT κ] in
theorem mem_tdel {L : List (κ × α)} {i : κ} {p : κ × α} (hp : p ∈ tdel L i) : p ∈ L ∧ p.1 ≠ i := by
  unfold tdel at hp
  have := List.mem_filter.1 hp
  exact ⟨this.1, by simpa using this.2⟩
omit [DecidableLT κ] [TO κ] [LT κ] in
theorem tdel_le {L : List (κ × α)} (i : κ) : (tdel L i).length ≤ L.length := List.length_filter_le _ _
theorem tset_length {L : List (κ × α)} (h : Rising L) (i : κ) (x : α) : (tset L i x).length = (tdel L i).length + 1 := by
  have := (tset_perm2 h i x).length_eq
  simpa using this
omit [DecidableLT κ] in
theorem tdel_length {L : List (κ × α)} (h : Rising L) {i : κ} {x : α} (hf : tfind L i = some x) : L.length = (tdel L i).length + 1 := by
  obtain ⟨A, B, rfl⟩ := tfind_some hf
  rw [tdel_eq h.nd]
  simp; omega
end
end Go.Proofs.YtebeidnmplnlpaaGreat
end

section
set_option maxRecDepth 10000
namespace Go.Proofs.YtebeidnmplnlpaaGreat
set_option linter.unusedVariables false
open Go.RowKit
open Go.Maps (Keyed)
open Go.ChangeMaps Go.WideElems

/-! ### the plain disk -/
structure Fl where
  b : List UInt8
  sure : Nat
structure Dk where
  room : Int
  calls : Int
  armed : Bool
  kind : Int
  after : Int
  off : Bool
abbrev PT := List (List UInt8 × Fl)
structure DS where
  k : Dk
  t : PT
abbrev DTb := List (List UInt8 × (Nat × Fl))
abbrev plain (L : DTb) : PT := tmap (fun p : Nat × Fl => p.2) L
/-- how a call begins -/
def Dk.call (K : Dk) : Int × Dk :=
  if K.off then (19, { K with calls := K.calls + 1 }) else if !K.armed then (0, { K with calls := K.calls + 1 })
  else if 0 < K.after then (0, { K with calls := K.calls + 1, after := K.after - 1 })
  else (K.kind, { K with calls := K.calls + 1, armed := false, off := decide (K.kind = 19) })
def used : PT → Nat
  | [] => 0
  | p :: r => p.2.b.length + used r
def nameOk (s : List UInt8) : Prop := 1 ≤ s.length ∧ s.length ≤ 32
instance (s : List UInt8) : Decidable (nameOk s) := by unfold nameOk; infer_instance
structure KWf (K : Dk) : Prop where
  room : 0 ≤ K.room ∧ K.room ≤ 16777216
  calls : 0 ≤ K.calls ∧ K.calls ≤ 1000000
  after : 0 ≤ K.after ∧ K.after ≤ 9223372036854775807
structure TWf (room : Int) (T : PT) : Prop where
  fit : (used T : Int) ≤ room
  few : T.length ≤ 64
  names : ∀ p ∈ T, nameOk p.1
  ris : Rising T
  sure : ∀ p ∈ T, p.2.sure ≤ p.2.b.length
structure DWf (S : DS) : Prop where
  k : KWf S.k
  t : TWf S.k.room S.t
theorem Dk.call_room (K : Dk) : K.call.2.room = K.room := by
  unfold Dk.call; split
  · rfl
  · split
    · rfl
    · split <;> rfl
theorem Dk.call_calls (K : Dk) : K.call.2.calls = K.calls + 1 := by
  unfold Dk.call; split
  · rfl
  · split
    · rfl
    · split <;> rfl
theorem KWf.call {K : Dk} (h : KWf K) (hc : K.calls < 1000000) : KWf K.call.2 := by
  have h1 := h.room; have h2 := h.calls; have h3 := h.after
  refine ⟨by rw [Dk.call_room]; exact h1, by rw [Dk.call_calls]; omega, ?_⟩
  unfold Dk.call; split
  · exact h3
  · split
    · exact h3
    · split
      · simp only; omega
      · exact h3
/-! ### in memory -/
def dC (K : Dk) (m : Nat) : Array Value := #[.int .i64 K.room, .map (some m), .int .i64 K.calls, .bool K.armed, .int .i64 K.kind, .int .i64 K.after, .bool K.off]
def pEnc (p : Nat × Fl) : Value := .pointer (some ⟨p.1, 0, none⟩)
def slit (s : List UInt8) : Lit := .string s
theorem slit_inj (a b : List UInt8) (h : slit a = slit b) : a = b := by unfold slit at h; injection h
def FlAt (W : World) (U : Foot) (g : Nat) (f : Fl) : Prop := U g ∧ ∃ A c, Blk W g 62 #[.slice A f.b.length c, .int .i64 f.sure] ∧ f.b.length ≤ c ∧ Lies W U A f.b.length f.b
def MapOk (W : World) (m c : Nat) (L : DTb) : Prop := ∃ n D, n ≤ c ∧ MapIs Tryz.prog 9 W m n D ∧ Rel Tryz.prog 9 encStr slit pEnc D L
structure DiskAt (W : World) (U : Foot) (d m c : Nat) (K : Dk) (L : DTb) : Prop where
  hd : U d
  hm : U m
  blk : Blk W d 44 (dC K m)
  map : MapOk W m c L
  fl : ∀ p ∈ L, FlAt W U p.2.1 p.2.2
  nd : (L.map (·.2.1)).Nodup
  ris : Rising L
/-- a disk -/
def Disk (W : World) (U : Foot) (d : Nat) (S : DS) : Prop := DWf S ∧ ∃ m c L, DiskAt W U d m c S.k L ∧ (c : Int) ≤ S.k.calls ∧ plain L = S.t
theorem str_keyed : Keyed Tryz.prog 9 := Maps.string_keyed Tryz.underlying9
theorem str_key {s : List UInt8} (h : s.length ≤ 9223372036854775807) : keyOf Tryz.prog 9 (encStr s) = some (slit s) := by
  rw [keyOf_string Tryz.underlying9]
  unfold mapKey
  rw [Tryz.underlying9]
  simp [encStr, slit, ByteArray.size, maxLen, h]
section
variable {W W' : World} {U V : Foot} {d m c g k : Nat} {K K' : Dk} {L : DTb} {f : Fl}
theorem FlAt.stay (h : FlAt W U g f) (hs : W.heap.size ≤ W'.heap.size) (hk : ∀ j, j < W.heap.size → U j → W'.heap[j]? = W.heap[j]?) : FlAt W' U g f := by
  obtain ⟨h1, A, c, h3, h4, h5⟩ := h
  exact ⟨h1, A, c, (hk g h3.lt h1).trans h3, h4, h5.stay hs hk⟩
theorem FlAt.more (h : FlAt W U g f) (hV : ∀ j, j < W.heap.size → U j → V j) : FlAt W V g f := by
  obtain ⟨h1, A, c, h3, h4, h5⟩ := h
  exact ⟨hV g h3.lt h1, A, c, h3, h4, h5.more hV⟩
theorem FlAt.lt (h : FlAt W U g f) : g < W.heap.size := by
  obtain ⟨_, A, c, h3, _⟩ := h; exact h3.lt
theorem MapOk.lt (h : MapOk W m c L) : m < W.heap.size := by obtain ⟨n, D, h1, h2, h3⟩ := h; exact h2.lt
theorem MapOk.stay (h : MapOk W m c L) (hk : W'.heap[m]? = W.heap[m]?) : MapOk W' m c L := by
  obtain ⟨n, D, h1, ⟨es, clock, h2, h4⟩, h3⟩ := h
  exact ⟨n, D, h1, ⟨es, clock, by rw [hk]; exact h2, h4⟩, h3⟩
theorem MapOk.kept {row : Option Nat} (h : MapOk W m c L) (hg : W.grownBy W' row) (hne : some m ≠ row) : MapOk W' m c L := by
  obtain ⟨n, D, h1, h2, h3⟩ := h
  exact ⟨n, D, h1, h2.kept hg hne, h3⟩
theorem MapOk.grow {c' : Nat} (h : MapOk W m c L) (hc : c ≤ c') : MapOk W m c' L := by
  obtain ⟨n, D, h1, h2⟩ := h
  exact ⟨n, D, Nat.le_trans h1 hc, h2⟩
theorem MapOk.not_blk {T : TypeId} {cs : Array Value} (h : MapOk W m c L) (hb : Blk W g T cs) : m ≠ g := by
  obtain ⟨n, D, h1, ⟨es, clock, h2, _⟩, h3⟩ := h
  intro e; subst e
  unfold Blk at hb
  rw [h2] at hb
  cases hb
theorem FlAt.blk {T : TypeId} {cs : Array Value} (h : FlAt W U g f) (hb : Blk W k T cs) (hg : W.grownBy W' (some k)) (hne : 5 ≠ T) (hk : g ≠ k) : FlAt W' U g f := by
  obtain ⟨h1, A, c, h3, h4, h5⟩ := h
  exact ⟨h1, A, c, h3.grown hg (fun e => hk (Option.some.inj e)), h4, h5.blk hb hg hne⟩
theorem FlAt.map (h : FlAt W U g f) (hm : MapOk W m c L) (hg : W.grownBy W' (some m)) : FlAt W' U g f := by
  obtain ⟨h1, A, k, h3, h4, h5⟩ := h
  refine ⟨h1, A, k, h3.grown hg (fun e => hm.not_blk h3 (Option.some.inj e).symm), h4, h5.apart hg (fun k hk cs fr hc => ?_)⟩
  obtain rfl := Option.some.inj hk
  obtain ⟨n, D, _, ⟨es, clock, e2, _⟩, _⟩ := hm
  rw [hc] at e2; cases e2
theorem DiskAt.stay (h : DiskAt W U d m c K L) (hs : W.heap.size ≤ W'.heap.size) (hk : ∀ j, j < W.heap.size → U j → W'.heap[j]? = W.heap[j]?) : DiskAt W' U d m c K L :=
  ⟨h.hd, h.hm, (hk d h.blk.lt h.hd).trans h.blk, h.map.stay (hk m h.map.lt h.hm), fun p hp => (h.fl p hp).stay hs hk, h.nd, h.ris⟩
theorem DiskAt.more (h : DiskAt W U d m c K L) (hV : ∀ j, j < W.heap.size → U j → V j) : DiskAt W V d m c K L :=
  ⟨hV d h.blk.lt h.hd, hV m h.map.lt h.hm, h.blk, h.map, fun p hp => (h.fl p hp).more hV, h.nd, h.ris⟩
theorem DiskAt.below {C : Nat} (h : DiskAt W U d m c K L) (hb : Below C W W') (hC : W.heap.size ≤ C) : DiskAt W' U d m c K L :=
  h.stay hb.size (fun j hj _ => hb.block j (Nat.lt_of_lt_of_le hj hC))
theorem DiskAt.grow {c' : Nat} (h : DiskAt W U d m c K L) (hc : c ≤ c') : DiskAt W U d m c' K L := ⟨h.hd, h.hm, h.blk, h.map.grow hc, h.fl, h.nd, h.ris⟩
/-- the disk's own cells turn -/
theorem DiskAt.own (h : DiskAt W U d m c K L) (hb : Blk W' d 44 (dC K' m)) (hg : W.grownBy W' (some d)) : DiskAt W' U d m c K' L :=
  ⟨h.hd, h.hm, hb, h.map.kept hg (fun e => h.map.not_blk h.blk (Option.some.inj e)), fun p hp => (h.fl p hp).blk h.blk hg (by decide) (by
    obtain ⟨_, A, k, h3, _⟩ := h.fl p hp
    exact h3.ne_ h.blk (by decide)), h.nd, h.ris⟩
variable {S : DS}
theorem Disk.stay (h : Disk W U d S) (hs : W.heap.size ≤ W'.heap.size) (hk : ∀ j, j < W.heap.size → U j → W'.heap[j]? = W.heap[j]?) : Disk W' U d S := by
  obtain ⟨h0, m, c, L, h1, h2, h3⟩ := h
  exact ⟨h0, m, c, L, h1.stay hs hk, h2, h3⟩
theorem Disk.more (h : Disk W U d S) (hV : ∀ j, j < W.heap.size → U j → V j) : Disk W V d S := by
  obtain ⟨h0, m, c, L, h1, h2, h3⟩ := h
  exact ⟨h0, m, c, L, h1.more hV, h2, h3⟩
theorem Disk.below {C : Nat} (h : Disk W U d S) (hb : Below C W W') (hC : W.heap.size ≤ C) : Disk W' U d S :=
  h.stay hb.size (fun j hj _ => hb.block j (Nat.lt_of_lt_of_le hj hC))
end

set_option maxHeartbeats 1000000 in
theorem dCall_at (W : World) (U : Foot) (d m c : Nat) (K : Dk) (L : DTb) (h : DiskAt W U d m c K L) (hw : KWf K) :
    Calls Tryz.prog 23 #[.pointer (some ⟨d, 0, none⟩)] W fun e W' => e = .returned (.int .i64 K.call.1) ∧ DiskAt W' U d m c K.call.2 L ∧ W.grownBy W' (some d) := by
  obtain ⟨room, calls, armed, kind, after, off⟩ := K
  have hc := hw.calls
  have ha := hw.after
  simp only at hc ha
  have hb : Blk W d 44 #[.int .i64 room, .map (some m), .int .i64 calls, .bool armed, .int .i64 kind, .int .i64 after, .bool off] := h.blk
  refine calls_vc Tryz.func23 rfl (by kernel_rfl) ?_
  ((conv => whnf); (repeat ((first | (refine VL.cons ?_) | (refine VL.nil ?_) | (refine VC.seqS rfl ?_) | (refine VC.region ?_)); (conv => whnf))))
  (repeat (first | ((first | (refine VL.cons ?_) | (refine VRead.fld ?_) | (refine VWrap.i64 (by omega) (by omega) ?_)); (conv => whnf)) | (refine VRead.loadB hb rfl rfl ?_; (conv => whnf))))
  refine VUnit.storeB hb rfl rfl rfl ?_
  intro W1 hb1 hg1
  replace hb1 : Blk W1 d 44 #[.int .i64 room, .map (some m), .int .i64 (calls + 1), .bool armed, .int .i64 kind, .int .i64 after, .bool off] := hb1
  have h1 : DiskAt W1 U d m c ⟨room, calls + 1, armed, kind, after, off⟩ L := h.own hb1 hg1
  ((conv => whnf); (repeat ((first | (refine VL.nil ?_)); (conv => whnf))))
  (repeat (first | ((first | (refine VL.cons ?_) | (refine VL.nil ?_) | (refine VC.seqS rfl ?_) | (refine VC.region ?_) | (refine VC.cond ?_) | (refine VRead.fld ?_) | (refine VC.seq ?_)); (conv => whnf)) | (refine VRead.loadB hb1 rfl rfl ?_; (conv => whnf))))
  cases off with
  | true =>
    ((repeat ((first | (refine VL.cons ?_) | (refine VL.nil ?_) | (refine VC.seqS rfl ?_) | (refine VC.region ?_) | (refine VC.ret ?_) | (refine VBool.t ?_)); (conv => whnf))))
    exact ⟨rfl, h1, hg1⟩
  | false =>
    ((repeat ((first | (refine VL.cons ?_) | (refine VC.seqS rfl ?_) | (refine VC.region ?_) | (refine VC.skip ?_) | (refine VBool.f ?_) | (refine VRead.fld ?_) | (refine VC.seq ?_)); (conv => whnf))))
    (repeat (first | ((first | (refine VL.cons ?_) | (refine VL.nil ?_) | (refine VC.cond ?_)); (conv => whnf)) | (refine VRead.loadB hb1 rfl rfl ?_; (conv => whnf))))
    cases armed with
    | false =>
      ((repeat ((first | (refine VL.cons ?_) | (refine VL.nil ?_) | (refine VC.seqS rfl ?_) | (refine VC.region ?_) | (refine VC.ret ?_) | (refine VBool.t ?_)); (conv => whnf))))
      exact ⟨rfl, h1, hg1⟩
    | true =>
      ((repeat ((first | (refine VL.cons ?_) | (refine VC.seqS rfl ?_) | (refine VC.region ?_) | (refine VC.skip ?_) | (refine VBool.f ?_) | (refine VRead.fld ?_) | (refine VC.seq ?_)); (conv => whnf))))
      (repeat (first | ((first | (refine VL.cons ?_) | (refine VL.nil ?_) | (refine VC.cond ?_)); (conv => whnf)) | (refine VRead.loadB hb1 rfl rfl ?_; (conv => whnf))))
      by_cases ha0 : 0 < after
      · ((repeat ((first | (refine VL.cons ?_) | (refine VC.seqS rfl ?_) | (refine VC.region ?_) | (refine VBool.dT (by omega) ?_) | (refine VRead.fld ?_)); (conv => whnf))))
        (repeat (first | ((first | (refine VL.cons ?_) | (refine VRead.fld ?_) | (refine VWrap.i64 (by omega) (by omega) ?_)); (conv => whnf)) | (refine VRead.loadB hb1 rfl rfl ?_; (conv => whnf))))
        refine VUnit.storeB hb1 rfl rfl rfl ?_
        intro W2 hb2 hg2
        replace hb2 : Blk W2 d 44 #[.int .i64 room, .map (some m), .int .i64 (calls + 1), .bool true, .int .i64 kind, .int .i64 (after - 1), .bool false] := hb2
        ((conv => whnf); (repeat ((first | (refine VL.cons ?_) | (refine VL.nil ?_) | (refine VC.seqS rfl ?_) | (refine VC.region ?_) | (refine VC.ret ?_)); (conv => whnf))))
        ((repeat ((fail); (conv => whnf))))
        have e : Dk.call ⟨room, calls, true, kind, after, false⟩ = (0, ⟨room, calls + 1, true, kind, after - 1, false⟩) := by simp [Dk.call, ha0]
        rw [e]
        refine ⟨rfl, ?_, only_trans hg1 hg2⟩
        · have : DiskAt W2 U d m c ⟨room, calls + 1, true, kind, after - 1, false⟩ L := h1.own hb2 hg2
          exact this
      · ((repeat ((first | (refine VL.cons ?_) | (refine VC.seqS rfl ?_) | (refine VC.region ?_) | (refine VC.skip ?_) | (refine VBool.dF (by omega) ?_) | (refine VRead.fld ?_)); (conv => whnf))))
        refine VUnit.storeB hb1 rfl rfl rfl ?_
        intro W2 hb2 hg2
        replace hb2 : Blk W2 d 44 #[.int .i64 room, .map (some m), .int .i64 (calls + 1), .bool false, .int .i64 kind, .int .i64 after, .bool false] := hb2
        have h2 : DiskAt W2 U d m c ⟨room, calls + 1, false, kind, after, false⟩ L := h1.own hb2 hg2
        ((conv => whnf); (repeat ((first | (refine VL.cons ?_) | (refine VL.nil ?_) | (refine VC.seqS rfl ?_) | (refine VC.region ?_)); (conv => whnf))))
        (repeat (first | ((first | (refine VL.cons ?_) | (refine VRead.fld ?_)); (conv => whnf)) | (refine VRead.loadB hb2 rfl rfl ?_; (conv => whnf))))
        refine VUnit.storeB hb2 rfl rfl rfl ?_
        intro W3 hb3 hg3
        replace hb3 : Blk W3 d 44 #[.int .i64 room, .map (some m), .int .i64 (calls + 1), .bool false, .int .i64 kind, .int .i64 after, .bool (decide (kind = 19))] := hb3
        have h3 : DiskAt W3 U d m c ⟨room, calls + 1, false, kind, after, decide (kind = 19)⟩ L := h2.own hb3 hg3
        ((conv => whnf); (repeat ((first | (refine VL.cons ?_) | (refine VL.nil ?_) | (refine VC.seqS rfl ?_) | (refine VC.region ?_)); (conv => whnf))))
        (repeat (first | ((first | (refine VL.cons ?_) | (refine VL.nil ?_) | (refine VC.ret ?_) | (refine VRead.fld ?_)); (conv => whnf)) | (refine VRead.loadB hb3 rfl rfl ?_; (conv => whnf))))
        have e : Dk.call ⟨room, calls, true, kind, after, false⟩ = (kind, ⟨room, calls + 1, false, kind, after, decide (kind = 19)⟩) := by simp [Dk.call, ha0]
        rw [e]
        exact ⟨rfl, h3, only_trans hg1 (only_trans hg2 hg3)⟩
end Go.Proofs.YtebeidnmplnlpaaGreat
end

section
namespace Go.Proofs.YtebeidnmplnlpaaGreat
open Go.Shelf
def Tryz.lays190_ren : Go.Shelf.Ren := ⟨fun | 125 => 85 | 128 => 114 | 129 => 115 | 190 => 58 | 258 => 84 | 302 => 105 | 303 => 106 | 304 => 107 | 305 => 108 | 306 => 109 | 307 => 110 | 308 => 111 | 309 => 112 | 310 => 113 | 329 => 122 | 330 => 123 | 333 => 121 | 334 => 124 | 335 => 125 | 336 => 126 | 344 => 129 | n => n, fun | 0 => 0 | 3 => 3 | 4 => 4 | 5 => 5 | 9 => 9 | 31 => 76 | 46 => 115 | 51 => 112 | 53 => 136 | 131 => 83 | 182 => 148 | 183 => 149 | 218 => 159 | 222 => 163 | 228 => 165 | 229 => 166 | n => n, fun n => n⟩
theorem Tryz.lays190 : Go.Proofs.Lays.n190 Tryz.prog Tryz.lays190_ren := {
  mixed := by kernel_rfl
  f125 := Tryz.func85.trans (congrArg some (by kernel_rfl))
  f128 := Tryz.func114.trans (congrArg some (by kernel_rfl))
  f129 := Tryz.func115.trans (congrArg some (by kernel_rfl))
  f190 := Tryz.func58.trans (congrArg some (by kernel_rfl))
  f258 := Tryz.func84.trans (congrArg some (by kernel_rfl))
  f302 := Tryz.func105.trans (congrArg some (by kernel_rfl))
  f303 := Tryz.func106.trans (congrArg some (by kernel_rfl))
  f304 := Tryz.func107.trans (congrArg some (by kernel_rfl))
  f305 := Tryz.func108.trans (congrArg some (by kernel_rfl))
  f306 := Tryz.func109.trans (congrArg some (by kernel_rfl))
  f307 := Tryz.func110.trans (congrArg some (by kernel_rfl))
  f308 := Tryz.func111.trans (congrArg some (by kernel_rfl))
  f309 := Tryz.func112.trans (congrArg some (by kernel_rfl))
  f310 := Tryz.func113.trans (congrArg some (by kernel_rfl))
  f329 := Tryz.func122.trans (congrArg some (by kernel_rfl))
  f330 := Tryz.func123.trans (congrArg some (by kernel_rfl))
  f333 := Tryz.func121.trans (congrArg some (by kernel_rfl))
  f334 := Tryz.func124.trans (congrArg some (by kernel_rfl))
  f335 := Tryz.func125.trans (congrArg some (by kernel_rfl))
  f336 := Tryz.func126.trans (congrArg some (by kernel_rfl))
  f344 := Tryz.func129.trans (congrArg some (by kernel_rfl))
  t0 := Tryz.underlying0
  a0 := Tryz.isAgg0
  z0 := Tryz.sizeOf0
  v0 := Tryz.zeroValue0
  t3 := Tryz.underlying3
  a3 := Tryz.isAgg3
  z3 := Tryz.sizeOf3
  v3 := Tryz.zeroValue3
  t4 := Tryz.underlying4
  a4 := Tryz.isAgg4
  z4 := Tryz.sizeOf4
  v4 := Tryz.zeroValue4
  t5 := Tryz.underlying5
  a5 := Tryz.isAgg5
  z5 := Tryz.sizeOf5
  v5 := Tryz.zeroValue5
  t9 := Tryz.underlying9
  a9 := Tryz.isAgg9
  z9 := Tryz.sizeOf9
  v9 := Tryz.zeroValue9
  t31 := Tryz.underlying76
  a31 := Tryz.isAgg76
  z31 := Tryz.sizeOf76
  v31 := Tryz.zeroValue76
  t46 := Tryz.underlying115
  a46 := Tryz.isAgg115
  z46 := Tryz.sizeOf115
  v46 := Tryz.zeroValue115
  t51 := Tryz.underlying112
  a51 := Tryz.isAgg112
  z51 := Tryz.sizeOf112
  v51 := Tryz.zeroValue112
  t53 := Tryz.underlying136
  a53 := Tryz.isAgg136
  z53 := Tryz.sizeOf136
  v53 := Tryz.zeroValue136
  t131 := Tryz.underlying83
  a131 := Tryz.isAgg83
  z131 := Tryz.sizeOf83
  v131 := Tryz.zeroValue83
  t182 := Tryz.underlying148
  a182 := Tryz.isAgg148
  z182 := Tryz.sizeOf148
  v182 := Tryz.zeroValue148
  t183 := Tryz.underlying149
  a183 := Tryz.isAgg149
  z183 := Tryz.sizeOf149
  v183 := Tryz.zeroValue149
  t218 := Tryz.underlying159
  a218 := Tryz.isAgg159
  z218 := Tryz.sizeOf159
  v218 := Tryz.zeroValue159
  t222 := Tryz.underlying163
  a222 := Tryz.isAgg163
  z222 := Tryz.sizeOf163
  v222 := Tryz.zeroValue163
  t228 := Tryz.underlying165
  a228 := Tryz.isAgg165
  z228 := Tryz.sizeOf165
  v228 := Tryz.zeroValue165
  t229 := Tryz.underlying166
  a229 := Tryz.isAgg166
  z229 := Tryz.sizeOf166
  v229 := Tryz.zeroValue166 }
end Go.Proofs.YtebeidnmplnlpaaGreat
end

section
set_option maxRecDepth 10000
namespace Go.Proofs.YtebeidnmplnlpaaGreat
set_option linter.unusedVariables false
open Go.RowKit
open Go.Maps (Keyed)
open Go.ChangeMaps Go.WideElems

theorem take_all_snoc {α : Type} {p : α → Prop} {l : List α} {k : Nat} {x : α} (h : ∀ s ∈ l.take k, p s) (hx : l[k]? = some x) (hp : p x) : ∀ s ∈ l.take (k + 1), p s := by
  rw [take_snoc hx]
  intro s hs
  rcases List.mem_append.1 hs with h' | h'
  · exact h s h'
  · simp at h'; subst h'; exact hp
theorem dNamed_any (W : World) (C n c : Nat) (A : Option Addr) (l : List (List UInt8)) (hr : Reads W C 1 A n (l.map encStr)) (hn : n ≤ 1000000) :
    Calls Tryz.prog 24 #[.slice A n c] W fun e W' => e = .returned (.bool (decide (∀ s ∈ l, nameOk s))) ∧ W' = W := by
  have hl : l.length = n := by have := hr.1; simpa using this
  refine calls_vc Tryz.func24 rfl (by kernel_rfl) ?_
  ((conv => whnf); (repeat ((first | (refine VL.cons ?_) | (refine VL.nil ?_) | (refine VC.seqS rfl ?_) | (refine VC.region ?_)); (conv => whnf))))
  ((repeat ((first | (refine VL.cons ?_) | (refine VL.nil ?_) | (refine VC.seqS rfl ?_) | (refine VC.region ?_) | (refine VC.block ?_) | (refine VRead.lenS ?_) | (refine VC.seq ?_)); (conv => whnf))))
  refine VC.loop [7] [(2, 2), (4, 4), (7, 19)] (fun q vs w => ∃ k : Nat, vs = [.int .i64 (k : Int)] ∧ q = n - k ∧ k ≤ n ∧ w = W ∧ ∀ s ∈ l.take k, nameOk s) (by kernel_rfl) ⟨_, 0, rfl, rfl, by omega, rfl, by simp⟩ ?_
  rintro q τ vs w ⟨k, rfl, rfl, hk, rfl, hall⟩
  by_cases hlt : k < n
  · obtain ⟨ad, u, rfl, hbl, hu, hc⟩ := hr.at_ hlt
    obtain ⟨s, hs, rfl⟩ := map_at hu
    have hsz : ByteArray.size ⟨s.toArray⟩ = s.length := txt_size s
    have hsm : s ∈ l := List.mem_of_getElem? hs
    by_cases h1 : 1 ≤ s.length
    · by_cases h2 : s.length ≤ 32
      · ((conv => whnf); (repeat ((first | (refine VL.cons ?_) | (refine VL.nil ?_) | (refine VC.seqS rfl ?_) | (refine VC.region ?_)); (conv => whnf))))
        ((repeat ((first | (refine VL.cons ?_) | (refine VL.nil ?_) | (refine VC.seqS rfl ?_) | (refine VC.region ?_) | (refine VC.cond ?_) | (refine VC.block ?_) | (refine VC.skip ?_) | (refine VBool.f ?_) | (refine VBool.dT (by omega) ?_) | (refine VBool.dF (by omega) ?_) | (refine VRead.lenT ?_) | (refine VRead.load1 (by assumption) ?_) | (refine VWrap.i64 (by omega) (by omega) ?_) | (refine VRead.at1 (by omega) ?_) | (refine VC.seq ?_)); (conv => whnf))))
        exact ⟨_, by omega, k + 1, rfl, rfl, by omega, rfl, take_all_snoc hall hs ⟨h1, h2⟩⟩
      · ((conv => whnf); (repeat ((first | (refine VL.cons ?_) | (refine VL.nil ?_) | (refine VC.seqS rfl ?_) | (refine VC.region ?_)); (conv => whnf))))
        ((repeat ((first | (refine VL.cons ?_) | (refine VL.nil ?_) | (refine VC.seqS rfl ?_) | (refine VC.region ?_) | (refine VC.cond ?_) | (refine VC.block ?_) | (refine VC.ret ?_) | (refine VC.skip ?_) | (refine VBool.f ?_) | (refine VBool.dT (by omega) ?_) | (refine VBool.dF (by omega) ?_) | (refine VRead.lenT ?_) | (refine VRead.load1 (by assumption) ?_) | (refine VRead.at1 (by omega) ?_) | (refine VC.seq ?_)); (conv => whnf))))
        refine ⟨?_, rfl⟩
        rw [decide_eq_false (p := ∀ s ∈ l, nameOk s) (fun h => h2 (h s hsm).2)]
        rfl
    · ((conv => whnf); (repeat ((first | (refine VL.cons ?_) | (refine VL.nil ?_) | (refine VC.seqS rfl ?_) | (refine VC.region ?_)); (conv => whnf))))
      ((repeat ((first | (refine VL.cons ?_) | (refine VL.nil ?_) | (refine VC.seqS rfl ?_) | (refine VC.region ?_) | (refine VC.cond ?_) | (refine VC.block ?_) | (refine VC.ret ?_) | (refine VC.skip ?_) | (refine VBool.t ?_) | (refine VBool.dT (by omega) ?_) | (refine VRead.lenT ?_) | (refine VRead.load1 (by assumption) ?_) | (refine VRead.at1 (by omega) ?_) | (refine VC.seq ?_)); (conv => whnf))))
      refine ⟨?_, rfl⟩
      rw [decide_eq_false (p := ∀ s ∈ l, nameOk s) (fun h => h1 (h s hsm).1)]
      rfl
  · obtain rfl : k = n := by omega
    rw [List.take_of_length_le (by omega)] at hall
    ((conv => whnf); (repeat ((first | (refine VL.cons ?_) | (refine VL.nil ?_) | (refine VC.seqS rfl ?_) | (refine VC.region ?_)); (conv => whnf))))
    ((repeat ((first | (refine VL.cons ?_) | (refine VL.nil ?_) | (refine VC.seqS rfl ?_) | (refine VC.region ?_) | (refine VC.cond ?_) | (refine VC.exit ?_) | (refine VC.ret ?_) | (refine VBool.dF (by omega) ?_) | (refine VC.seq ?_)); (conv => whnf))))
    refine ⟨?_, rfl⟩
    rw [decide_eq_true (p := ∀ s ∈ l, nameOk s) hall]
    rfl

def findR (L : DTb) (s : List UInt8) : Value := if nameOk s then (match tfind L s with | none => .tuple #[.pointer none, .int .i64 3] | some p => .tuple #[pEnc p, .int .i64 0]) else .tuple #[.pointer none, .int .i64 1]
theorem dLook {W : World} {m c : Nat} {L : DTb} {s : List UInt8} {K : Value → World → Prop} (h : MapOk W m c L) (hs : s.length ≤ 9223372036854775807)
    (hk : K (match tfind L s with | none => .pointer none | some p => pEnc p) W) : VSem Tryz.prog (Instr.lookup 42 (.map (some m)) (encStr s) false) W K := by
  obtain ⟨n, D, h1, h2, R⟩ := h
  refine VSem.mapAt h2 str_keyed (z := .pointer none) (fun W => Tryz.zeroValue60 W) (str_key hs) ?_
  cases hf : tfind L s with
  | none =>
    rw [hf] at hk
    rw [mval_not (R.hasF slit_inj (tfind_none hf))]
    exact hk
  | some p =>
    rw [hf] at hk
    rw [R.at_ (s, p) (tfind_mem hf)]
    exact hk
theorem dFind_at (W : World) (U : Foot) (d m c : Nat) (K : Dk) (L : DTb) (s : List UInt8) (h : DiskAt W U d m c K L) :
    Calls Tryz.prog 29 #[.pointer (some ⟨d, 0, none⟩), encStr s] W fun e W' => e = .returned (findR L s) ∧ Below W.heap.size W W' := by
  refine calls_vc Tryz.func29 rfl (by kernel_rfl) ?_
  ((conv => whnf); (repeat ((first | (refine VL.cons ?_) | (refine VL.nil ?_) | (refine VC.seqS rfl ?_) | (refine VC.region ?_)); (conv => whnf))))
  ((repeat ((first | (refine VL.cons ?_) | (refine VC.seqS rfl ?_) | (refine VC.region ?_) | (refine VC.seq ?_)); (conv => whnf))))
  refine VSem.one rfl ?_
  intro W1 hr1 hB1 hz1
  ((conv => whnf); (repeat ((first | (refine VL.cons ?_)); (conv => whnf))))
  ((repeat ((fail); (conv => whnf))))
  refine VCall.of (dNamed_any W1 _ 1 1 _ [s] hr1 (by omega)) ?_
  rintro e _ ⟨rfl, rfl⟩
  refine ⟨_, rfl, ?_⟩
  have h1 := h.below hB1 (Nat.le_refl _)
  have hb := h1.blk
  by_cases hs : nameOk s
  · rw [decide_eq_true (show ∀ x ∈ [s], nameOk x by simpa using hs)]
    ((conv => whnf); (repeat ((first | (refine VL.cons ?_) | (refine VL.nil ?_) | (refine VC.cond ?_)); (conv => whnf))))
    (repeat (first | ((first | (refine VL.cons ?_) | (refine VC.seqS rfl ?_) | (refine VC.region ?_) | (refine VC.skip ?_) | (refine VBool.f ?_) | (refine VRead.fld ?_)); (conv => whnf)) | (refine VRead.loadB hb rfl rfl ?_; (conv => whnf))))
    refine dLook h1.map (by have := hs.2; omega) ?_
    unfold findR
    rw [if_pos hs]
    cases hf : tfind L s with
    | none =>
      ((conv => whnf); (repeat ((first | (refine VL.cons ?_) | (refine VL.nil ?_)); (conv => whnf))))
      ((repeat ((first | (refine VL.cons ?_) | (refine VL.nil ?_) | (refine VC.seqS rfl ?_) | (refine VC.region ?_) | (refine VC.cond ?_) | (refine VC.ret ?_) | (refine VBool.t ?_) | (refine VRead.eqNN ?_) | (refine VC.seq ?_)); (conv => whnf))))
      exact ⟨rfl, hB1⟩
    | some p =>
      ((conv => whnf); (repeat ((first | (refine VL.cons ?_) | (refine VL.nil ?_)); (conv => whnf))))
      ((repeat ((first | (refine VL.cons ?_) | (refine VL.nil ?_) | (refine VC.seqS rfl ?_) | (refine VC.region ?_) | (refine VC.cond ?_) | (refine VC.ret ?_) | (refine VC.skip ?_) | (refine VBool.f ?_) | (refine VRead.eqPN ?_) | (refine VC.seq ?_)); (conv => whnf))))
      exact ⟨rfl, hB1⟩
  · rw [decide_eq_false (show ¬ ∀ x ∈ [s], nameOk x by simpa using hs)]
    unfold findR
    rw [if_neg hs]
    ((conv => whnf); (repeat ((first | (refine VL.cons ?_) | (refine VL.nil ?_) | (refine VC.cond ?_)); (conv => whnf))))
    ((repeat ((first | (refine VL.cons ?_) | (refine VL.nil ?_) | (refine VC.seqS rfl ?_) | (refine VC.region ?_) | (refine VC.ret ?_) | (refine VBool.t ?_)); (conv => whnf))))
    exact ⟨rfl, hB1⟩
end Go.Proofs.YtebeidnmplnlpaaGreat
end

section
set_option maxRecDepth 10000
namespace Go.Proofs.YtebeidnmplnlpaaGreat
set_option linter.unusedVariables false
open Go.RowKit
open Go.Maps (Keyed)
open Go.ChangeMaps Go.WideElems

theorem str_info : (Tryz.prog.info? 9).map (fun i => (i.zero, i.size, i.bytes)) = some (some (.string ByteArray.empty), 1, 16) := by kernel_rfl
theorem key_of {D : DataW Value} {L : DTb} {key : Value} {kl : Lit} (R : Rel Tryz.prog 9 encStr slit pEnc D L) (hk : keyOf Tryz.prog 9 key = some kl) (hh : Maps.has D kl = true) :
    ∃ p ∈ L, kl = slit p.1 ∧ key = encStr p.1 := by
  obtain ⟨p, hp, rfl⟩ := R.src kl hh
  exact ⟨p, hp, rfl, str_keyed.inj hk (R.key p hp)⟩
set_option maxHeartbeats 1000000 in
theorem dList_at (W : World) (U : Foot) (d m c : Nat) (K : Dk) (L : DTb) (h : DiskAt W U d m c K L) (hn : L.length ≤ 64) :
    Calls Tryz.prog 36 #[.pointer (some ⟨d, 0, none⟩)] W fun e W' => ∃ A k, e = .returned (.slice A L.length k) ∧ W'.ownsRow W.heap.size 9 1 (.slice A L.length k) L.length ((L.map (·.1)).map encStr) ∧ Below W.heap.size W W' := by
  have hb := h.blk
  obtain ⟨nD, D, h1, h2, R⟩ := h.map
  refine calls_vc Tryz.func36 rfl (by kernel_rfl) ?_
  ((conv => whnf); (repeat ((first | (refine VL.cons ?_) | (refine VL.nil ?_) | (refine VC.seqS rfl ?_) | (refine VC.region ?_)); (conv => whnf))))
  (repeat (first | ((first | (refine VL.cons ?_) | (refine VC.seqS rfl ?_) | (refine VC.region ?_) | (refine VRead.fld ?_) | (refine VC.seq ?_)); (conv => whnf)) | (refine VRead.loadB hb rfl rfl ?_; (conv => whnf))))
  refine VSem.rangeM h2 str_keyed ?_
  intro W1 hR1 hg1 hz1
  have hB1 : Below W.heap.size W W1 := (Below.refl _ _).grown hg1 (Nat.le_refl _) (by intro k hk; cases hk)
  ((conv => whnf); (repeat ((first | (refine VL.nil ?_) | (refine VC.block ?_)); (conv => whnf))))
  ((repeat ((fail); (conv => whnf))))
  refine VC.loop [3] [(3, 4), (10, 17)] (fun q vs w => ∃ acc left A k, vs = [.slice A acc.length k] ∧ RangeIs Tryz.prog 9 w m W.heap.size nD D left q ∧ w.ownsRow W.heap.size 9 1 (.slice A acc.length k) acc.length (acc.map encStr) ∧ Todo slit L left acc ∧ Below W.heap.size W w) (by kernel_rfl)
    ⟨_, [], _, _, _, rfl, hR1, World.ownsRow_nil W1 _ _ _, Todo.start (fun p hp => R.has p hp), hB1⟩ ?_
  rintro q τ vs w ⟨acc, left, A, k, rfl, hRw, hO, hT, hBw⟩
  have hal := hT.len
  ((conv => whnf); (repeat ((first | (refine VL.cons ?_) | (refine VC.seqS rfl ?_) | (refine VC.region ?_)); (conv => whnf))))
  refine VSem.nextM hRw str_keyed (fun h0 hall => ?_) (fun key v kl w' cnt' hkey hleft hmv hhas hRw' hcnt hg' hsz' hentry => ?_)
  · ((conv => whnf); (repeat ((first | (refine VL.cons ?_) | (refine VL.nil ?_)); (conv => whnf))))
    ((repeat ((first | (refine VL.cons ?_) | (refine VC.seqS rfl ?_) | (refine VC.region ?_) | (refine VC.cond ?_) | (refine VC.exit ?_) | (refine VBool.f ?_) | (refine VC.seq ?_)); (conv => whnf))))
    have hsrt := sortStrs_row Tryz.lays190 hO (by omega)
    refine VCall.of hsrt ?_
    rintro e w2 ⟨rfl, hO2, hg2⟩
    refine ⟨_, rfl, ?_⟩
    rw [sorted_keys h.ris hT.nd (hT.all hall)] at hO2
    have hlen : acc.length = L.length := by
      have := (List.mergeSort_perm acc fun x y => decide (x ≤ y)).length_eq
      rw [sorted_keys h.ris hT.nd (hT.all hall)] at this
      simpa using this.symm
    rw [hlen] at hO2 hg2
    ((conv => whnf); (repeat ((first | (refine VL.cons ?_) | (refine VL.nil ?_) | (refine VC.seqS rfl ?_) | (refine VC.region ?_) | (refine VC.ret ?_)); (conv => whnf))))
    ((repeat ((fail); (conv => whnf))))
    refine ⟨A, k, ?_, hO2, hBw.grown hg2 hBw.size (fun j hj => (row_cells hO j (by rw [hlen]; exact hj)).1)⟩
    rw [← hlen]
    rfl
  · obtain ⟨p, hp, rfl, rfl⟩ := key_of R hkey hhas
    have hT' := hT.next slit_inj (str_keyed.key hkey) rfl (List.mem_map_of_mem hp) hleft
    have hO' := row_range hO hRw hg'
    have hBw' := hBw.grown hg' hBw.size (by intro j hj; injection hj with hj; omega)
    ((conv => whnf); (repeat ((first | (refine VL.cons ?_) | (refine VL.nil ?_)); (conv => whnf))))
    ((repeat ((first | (refine VL.cons ?_) | (refine VC.seqS rfl ?_) | (refine VC.region ?_) | (refine VC.cond ?_) | (refine VC.block ?_) | (refine VC.skip ?_) | (refine VBool.t ?_) | (refine VC.seq ?_)); (conv => whnf))))
    refine VSem.of hentry ?_
    ((conv => whnf); (repeat ((first | (refine VL.cons ?_) | (refine VL.nil ?_) | (refine VC.region ?_)); (conv => whnf))))
    ((repeat ((fail); (conv => whnf))))
    refine VSem.one rfl ?_
    intro w2 hr2 hB2 hz2
    have hR2 := hRw'.below hB2 (Nat.le_refl _)
    have hO2 := rows_below hO' hB2 (Nat.le_refl _)
    have hBw2 := hBw'.trans (hB2.mono hBw'.size)
    ((conv => whnf); (repeat ((first | (refine VL.cons ?_)); (conv => whnf))))
    ((repeat ((fail); (conv => whnf))))
    refine VSem.push str_info rfl hO2 hr2 rfl (by omega) (by decide) hBw2.size ?_
    intro A' k' w3 hO3 hg3
    have hR3 := hR2.row hO2 hg3
    have hBw3 := hBw2.grown hg3 hBw2.size (fun j hj => (row_cells hO2 j hj).1)
    ((conv => whnf); (repeat ((first | (refine VL.cons ?_) | (refine VL.nil ?_)); (conv => whnf))))
    ((repeat ((fail); (conv => whnf))))
    refine ⟨cnt', hcnt, acc ++ [p.1], _, A', k', ?_, hR3, ?_, hT', hBw3⟩
    · simp only [List.length_append, List.length_cons, List.length_nil]; rfl
    · simpa only [List.length_append, List.length_cons, List.length_nil, List.map_append, List.map_cons, List.map_nil] using hO3

/-! ### the sum -/
def lenAt (L : PT) (s : List UInt8) : Nat := match tfind L s with | some f => f.b.length | none => 0
theorem used_eq : ∀ (L : PT), used L = (L.map (fun p => p.2.b.length)).sum
  | [] => rfl
  | p :: r => by unfold used; rw [used_eq r]; simp
theorem len_used {T : PT} {p : List UInt8 × Fl} (h : p ∈ T) : p.2.b.length ≤ used T := by
  induction T with
  | nil => cases h
  | cons q r ih =>
    unfold used
    rcases List.mem_cons.1 h with e | h
    · subst e; omega
    · have := ih h; omega
theorem lenAt_le (L : PT) (s : List UInt8) : lenAt L s ≤ used L := by
  unfold lenAt
  cases h : tfind L s with
  | none => exact Nat.zero_le _
  | some p => exact len_used (tfind_mem h)
theorem lenAt_mem {L : PT} (hR : Rising L) {p : List UInt8 × Fl} (h : p ∈ L) : lenAt L p.1 = p.2.b.length := by
  unfold lenAt
  rw [tfind_of hR.nd (i := p.1) (x := p.2) h]
theorem sum_le {f : List UInt8 → Nat} {M : Nat} (hf : ∀ s, f s ≤ M) : ∀ (l : List (List UInt8)), (l.map f).sum ≤ l.length * M
  | [] => by simp
  | s :: l => by
    have := sum_le hf l
    have := hf s
    simp only [List.map_cons, List.sum_cons, List.length_cons, Nat.add_mul, Nat.one_mul]
    omega
theorem sum_used {L : PT} (hR : Rising L) {acc : List (List UInt8)} (hn : acc.Nodup) (h : ∀ a, a ∈ acc ↔ a ∈ L.map (·.1)) : (acc.map (lenAt L)).sum = used L := by
  have hp : acc.Perm (L.map (·.1)) := by
    have := (List.mergeSort_perm acc fun x y => decide (x ≤ y)).symm
    rwa [sorted_keys hR hn h] at this
  rw [(hp.map (lenAt L)).sum_nat, used_eq, List.map_map]
  congr 1
  exact List.map_congr_left (fun p hp => lenAt_mem hR hp)
theorem used_perm {T T' : PT} (h : T.Perm T') : used T = used T' := by
  rw [used_eq, used_eq, (h.map _).sum_nat]
theorem used_tset {T : PT} (h : Rising T) (s : List UInt8) (f : Fl) : used (tset T s f) = f.b.length + used (tdel T s) := by
  rw [used_perm (tset_perm2 h s f)]; rfl
theorem used_tdel {T : PT} {s : List UInt8} {f : Fl} (h : Rising T) (hf : tfind T s = some f) : used T = f.b.length + used (tdel T s) := by
  obtain ⟨A, B, rfl⟩ := tfind_some hf
  rw [tdel_eq h.nd, used_perm (List.perm_middle (a := (s, f)) (l₁ := A) (l₂ := B))]
  rfl
theorem used_tdel_le (T : PT) (s : List UInt8) : used (tdel T s) ≤ used T := by
  induction T with
  | nil => exact Nat.le_refl _
  | cons q r ih =>
    unfold tdel at ih ⊢
    rw [List.filter_cons]
    split
    · unfold used; omega
    · conv => rhs; unfold used
      omega
set_option maxHeartbeats 1000000 in
theorem dUsed_at (W : World) (U : Foot) (d m c : Nat) (K : Dk) (L : DTb) (h : DiskAt W U d m c K L) (hroom : 0 ≤ K.room ∧ K.room ≤ 16777216) (hfit : (used (plain L) : Int) ≤ K.room) (hfew : L.length ≤ 64) :
    Calls Tryz.prog 52 #[.pointer (some ⟨d, 0, none⟩)] W fun e W' => e = .returned (.int .i64 (used (plain L) : Int)) ∧ Below W.heap.size W W' := by
  have hb := h.blk
  have hris : Rising (plain L) := (rising_tmap _ L).2 h.ris
  obtain ⟨nD, D, h1, h2, R⟩ := h.map
  refine calls_vc Tryz.func52 rfl (by kernel_rfl) ?_
  ((conv => whnf); (repeat ((first | (refine VL.cons ?_) | (refine VL.nil ?_) | (refine VC.seqS rfl ?_) | (refine VC.region ?_)); (conv => whnf))))
  (repeat (first | ((first | (refine VL.cons ?_) | (refine VC.seqS rfl ?_) | (refine VC.region ?_) | (refine VRead.fld ?_) | (refine VC.seq ?_)); (conv => whnf)) | (refine VRead.loadB hb rfl rfl ?_; (conv => whnf))))
  refine VSem.rangeM h2 str_keyed ?_
  intro W1 hR1 hg1 hz1
  have hB1 : Below W.heap.size W W1 := (Below.refl _ _).grown hg1 (Nat.le_refl _) (by intro k hk; cases hk)
  ((conv => whnf); (repeat ((first | (refine VL.nil ?_) | (refine VC.block ?_)); (conv => whnf))))
  ((repeat ((fail); (conv => whnf))))
  refine VC.loop [3] [(3, 3), (5, 5), (11, 21)] (fun q vs w => ∃ acc left, vs = [.int .i64 ((acc.map (lenAt (plain L))).sum : Nat)] ∧ RangeIs Tryz.prog 9 w m W.heap.size nD D left q ∧ Todo slit L left acc ∧ Below W.heap.size W w) (by kernel_rfl)
    ⟨_, [], _, rfl, hR1, Todo.start (fun p hp => R.has p hp), hB1⟩ ?_
  rintro q τ vs w ⟨acc, left, rfl, hRw, hT, hBw⟩
  have hal := hT.len
  ((conv => whnf); (repeat ((first | (refine VL.cons ?_) | (refine VC.seqS rfl ?_) | (refine VC.region ?_)); (conv => whnf))))
  refine VSem.nextM hRw str_keyed (fun h0 hall => ?_) (fun key v kl w' cnt' hkey hleft hmv hhas hRw' hcnt hg' hsz' hentry => ?_)
  · ((conv => whnf); (repeat ((first | (refine VL.cons ?_) | (refine VL.nil ?_)); (conv => whnf))))
    ((repeat ((first | (refine VL.cons ?_) | (refine VL.nil ?_) | (refine VC.seqS rfl ?_) | (refine VC.region ?_) | (refine VC.cond ?_) | (refine VC.exit ?_) | (refine VC.ret ?_) | (refine VBool.f ?_) | (refine VC.seq ?_)); (conv => whnf))))
    rw [sum_used hris hT.nd (by rw [tmap_keys]; exact hT.all hall)]
    exact ⟨rfl, hBw⟩
  · obtain ⟨p, hp, rfl, rfl⟩ := key_of R hkey hhas
    have hT' := hT.next slit_inj (str_keyed.key hkey) rfl (List.mem_map_of_mem hp) hleft
    have hBw' := hBw.grown hg' hBw.size (by intro j hj; injection hj with hj; omega)
    obtain rfl : v = pEnc p.2 := by rw [← hmv (.bool true), R.at_ p hp]
    obtain ⟨_, Af, kf, hbf, _, _⟩ := (h.below hBw' (Nat.le_refl _)).fl p hp
    have hpm : ((p.1, p.2.2) : List UInt8 × Fl) ∈ plain L := List.mem_map_of_mem (f := fun p : List UInt8 × (Nat × Fl) => (p.1, p.2.2)) hp
    have hsl : ((acc.map (lenAt (plain L))).sum : Nat) ≤ acc.length * used (plain L) := sum_le (lenAt_le (plain L)) acc
    have hsl2 : acc.length * used (plain L) ≤ 64 * 16777216 := Nat.mul_le_mul (by omega) (by omega)
    have hpl := len_used hpm
    simp only at hpl
    ((conv => whnf); (repeat ((first | (refine VL.cons ?_) | (refine VL.nil ?_)); (conv => whnf))))
    ((repeat ((first | (refine VL.cons ?_) | (refine VC.seqS rfl ?_) | (refine VC.region ?_) | (refine VC.cond ?_) | (refine VC.block ?_) | (refine VC.skip ?_) | (refine VBool.t ?_) | (refine VC.seq ?_)); (conv => whnf))))
    refine VSem.of hentry ?_
    ((conv => whnf); (repeat ((first | (refine VL.cons ?_) | (refine VL.nil ?_) | (refine VC.region ?_)); (conv => whnf))))
    (repeat (first | ((first | (refine VL.cons ?_) | (refine VL.nil ?_) | (refine VRead.lenS ?_) | (refine VRead.fld ?_) | (refine VWrap.i64 (by omega) (by omega) ?_)); (conv => whnf)) | (refine VRead.loadB hbf rfl rfl ?_; (conv => whnf))))
    refine ⟨cnt', hcnt, acc ++ [p.1], _, ?_, hRw', hT', hBw'⟩
    rw [List.map_append, List.sum_append, Int.natCast_add]
    simp only [List.map_cons, List.map_nil, List.sum_cons, List.sum_nil, Nat.add_zero]
    rw [lenAt_mem hris hpm]
    rfl
end Go.Proofs.YtebeidnmplnlpaaGreat
end

section
set_option maxRecDepth 10000
namespace Go.Proofs.YtebeidnmplnlpaaGreat
set_option linter.unusedVariables false
open Go.RowKit
open Go.Maps (Keyed)
open Go.ChangeMaps Go.WideElems

theorem Disk.wf {W : World} {U : Foot} {d : Nat} {S : DS} (h : Disk W U d S) : DWf S := h.1
theorem dList_any (W : World) (U : Foot) (d : Nat) (S : DS) (h : Disk W U d S) :
    Calls Tryz.prog 36 #[.pointer (some ⟨d, 0, none⟩)] W fun e W' => ∃ A k, e = .returned (.slice A S.t.length k) ∧ W'.ownsRow W.heap.size 9 1 (.slice A S.t.length k) S.t.length ((S.t.map (·.1)).map encStr) ∧ Below W.heap.size W W' := by
  obtain ⟨h0, m, c, L, h1, h2, h3⟩ := h
  have e1 : S.t.length = L.length := by rw [← h3]; exact tmap_length _ _
  have e2 : S.t.map (·.1) = L.map (·.1) := by rw [← h3]; exact tmap_keys _ _
  rw [e1, e2]
  exact dList_at W U d m c S.k L h1 (by rw [← e1]; exact h0.t.few)
def Dk.new (room : Int) : Dk := ⟨max 0 (min room 16777216), 0, false, 0, 0, false⟩
def DS.new (room : Int) : DS := ⟨Dk.new room, []⟩
theorem DWf.new (room : Int) : DWf (DS.new room) := ⟨⟨by simp only [DS.new, Dk.new]; omega, by simp [DS.new, Dk.new], by simp [DS.new, Dk.new]⟩, ⟨by simp only [DS.new, Dk.new, used]; omega, by simp [DS.new], by simp [DS.new], by simp [DS.new, Rising], by simp [DS.new]⟩⟩
theorem dNew_any (W : World) (room : Int) :
    Calls Tryz.prog 4 #[.int .i64 room] W fun e W' => ∃ d, e = .returned (.pointer (some ⟨d, 0, none⟩)) ∧ Disk W' (fun j => W.heap.size ≤ j) d (DS.new room) ∧ Below W.heap.size W W' := by
  refine calls_vc Tryz.func4 rfl (by kernel_rfl) ?_
  ((conv => whnf); (repeat ((first | (refine VL.cons ?_) | (refine VL.nil ?_) | (refine VC.seqS rfl ?_) | (refine VC.region ?_)); (conv => whnf))))
  ((repeat ((fail); (conv => whnf))))
  refine VRead.minZ (z := min room 16777216) (by split <;> omega) ?_
  ((conv => whnf); (repeat ((first | (refine VL.cons ?_)); (conv => whnf))))
  refine VRead.maxZ (z := max 0 (min room 16777216)) (by split <;> omega) ?_
  ((conv => whnf); (repeat ((first | (refine VL.cons ?_)); (conv => whnf))))
  ((repeat ((fail); (conv => whnf))))
  refine VSem.makeMap (k := 9) ?_
  intro W1 hM1 hB1 hz1
  ((conv => whnf); (repeat ((first | (refine VL.cons ?_)); (conv => whnf))))
  refine VRead.ofW (v := .agg #[.int .i64 (max 0 (min room 16777216)), .map (some W.heap.size), .int .i64 0, .bool false, .int .i64 0, .int .i64 0, .bool false]) (fun _ => by kernel_rfl) ?_
  ((conv => whnf); (repeat ((first | (refine VL.cons ?_)); (conv => whnf))))
  refine VSem.boxB ?_
  intro W2 g hb2 hg2 hl2 hB2
  replace hb2 : Blk W2 g 44 (dC (Dk.new room) W.heap.size) := hb2
  have hB02 := hB1.trans (hB2.mono hB1.size)
  ((conv => whnf); (repeat ((first | (refine VL.cons ?_) | (refine VL.nil ?_) | (refine VC.ret ?_)); (conv => whnf))))
  ((repeat ((fail); (conv => whnf))))
  exact ⟨g, rfl, ⟨DWf.new room, W.heap.size, 0, [], ⟨by omega, Nat.le_refl _, hb2, ⟨0, _, Nat.le_refl _, hM1.below hB2 (by omega), Rel.empty⟩, by simp, by simp, by simp [Rising]⟩, by simp [DS.new, Dk.new], rfl⟩, hB02⟩
theorem dCalls_any (W : World) (U : Foot) (d : Nat) (S : DS) (h : Disk W U d S) :
    Calls Tryz.prog 19 #[.pointer (some ⟨d, 0, none⟩)] W fun e W' => e = .returned (.int .i64 S.k.calls) ∧ W' = W := by
  obtain ⟨h0, m, c, L, h1, h2, h3⟩ := h
  have hb := h1.blk
  refine calls_vc Tryz.func19 rfl (by kernel_rfl) ?_
  ((conv => whnf); (repeat ((first | (refine VL.cons ?_) | (refine VL.nil ?_) | (refine VC.seqS rfl ?_) | (refine VC.region ?_)); (conv => whnf))))
  (repeat (first | ((first | (refine VL.cons ?_) | (refine VL.nil ?_) | (refine VC.ret ?_) | (refine VRead.fld ?_)); (conv => whnf)) | (refine VRead.loadB hb rfl rfl ?_; (conv => whnf))))
  exact ⟨rfl, rfl⟩
def Dk.arm (K : Dk) (kind after : Int) : Int × Dk := if (kind ≠ 18 ∧ kind ≠ 19) ∨ after < 0 then (1, K) else (0, { K with armed := true, kind := kind, after := after })
theorem KWf.arm {K : Dk} (h : KWf K) {kind after : Int} (ha : after ≤ 9223372036854775807) : KWf (K.arm kind after).2 := by
  unfold Dk.arm
  split
  · exact h
  · exact ⟨h.room, h.calls, by simp only; omega⟩
def DS.arm (S : DS) (kind after : Int) : Int × DS := ((S.k.arm kind after).1, ⟨(S.k.arm kind after).2, S.t⟩)
def readR (W : World) (B : Nat) (T : PT) (s : List UInt8) (v : Value) : Prop := match tfind T s with
  | none => v = .tuple #[.slice none 0 0, .int .i64 3]
  | some f => ∃ A k, v = .tuple #[.slice A f.b.length k, .int .i64 0] ∧ Own W B (.slice A f.b.length k) f.b.length f.b
theorem dRead_any (W : World) (U : Foot) (d : Nat) (S : DS) (s : List UInt8) (h : Disk W U d S) (hs : s.length ≤ 1000) :
    Calls Tryz.prog 39 #[.pointer (some ⟨d, 0, none⟩), encStr s] W fun e W' => ∃ v, e = .returned v ∧ readR W' W.heap.size S.t s v ∧ Below W.heap.size W W' := by
  obtain ⟨h0, m, c, L, h, h2, h3⟩ := h
  have hb := h.blk
  have hroom := h0.k.room
  have hfit := h0.t.fit
  unfold readR
  rw [← h3, tmap_find]
  refine calls_vc Tryz.func39 rfl (by kernel_rfl) ?_
  ((conv => whnf); (repeat ((first | (refine VL.cons ?_) | (refine VL.nil ?_) | (refine VC.seqS rfl ?_) | (refine VC.region ?_)); (conv => whnf))))
  (repeat (first | ((first | (refine VL.cons ?_) | (refine VRead.fld ?_)); (conv => whnf)) | (refine VRead.loadB hb rfl rfl ?_; (conv => whnf))))
  refine dLook h.map (by omega) ?_
  cases hf : tfind L s with
  | none =>
    ((conv => whnf); (repeat ((first | (refine VL.cons ?_) | (refine VL.nil ?_)); (conv => whnf))))
    ((repeat ((first | (refine VL.cons ?_) | (refine VL.nil ?_) | (refine VC.seqS rfl ?_) | (refine VC.region ?_) | (refine VC.cond ?_) | (refine VC.ret ?_) | (refine VBool.t ?_) | (refine VRead.eqNN ?_) | (refine VC.seq ?_)); (conv => whnf))))
    exact ⟨_, rfl, rfl, Below.refl _ _⟩
  | some p =>
    obtain ⟨_, A, k, hbf, hk, hl⟩ := h.fl _ (tfind_mem hf)
    have hlen := len_used (T := S.t) (p := (s, p.2)) (by rw [← h3]; exact List.mem_map_of_mem (f := fun p : List UInt8 × (Nat × Fl) => (p.1, p.2.2)) (tfind_mem hf))
    simp only at hbf hk hl hlen
    ((conv => whnf); (repeat ((first | (refine VL.cons ?_) | (refine VL.nil ?_)); (conv => whnf))))
    (repeat (first | ((first | (refine VL.cons ?_) | (refine VL.nil ?_) | (refine VC.seqS rfl ?_) | (refine VC.region ?_) | (refine VC.cond ?_) | (refine VC.skip ?_) | (refine VBool.f ?_) | (refine VRead.fld ?_) | (refine VRead.eqPN ?_) | (refine VC.seq ?_)); (conv => whnf)) | (refine VRead.loadB hbf rfl rfl ?_; (conv => whnf))))
    refine VSem.appO (Own.nil W W.heap.size) hl.1 (by omega) (Nat.le_refl _) ?_
    intro A' k' W1 hO1 _ hB1
    rw [Nat.zero_add, List.nil_append] at hO1
    rw [Nat.zero_add]
    ((conv => whnf); (repeat ((first | (refine VL.cons ?_) | (refine VL.nil ?_) | (refine VC.ret ?_)); (conv => whnf))))
    ((repeat ((fail); (conv => whnf))))
    exact ⟨_, rfl, ⟨A', k', rfl, hO1⟩, hB1⟩
end Go.Proofs.YtebeidnmplnlpaaGreat
end

section
set_option maxRecDepth 10000
namespace Go.Proofs.YtebeidnmplnlpaaGreat
set_option linter.unusedVariables false
open Go.RowKit
open Go.Maps (Keyed)
open Go.ChangeMaps Go.WideElems

theorem nd_inj {L : DTb} (h : (L.map (·.2.1)).Nodup) {p q : List UInt8 × (Nat × Fl)} (hp : p ∈ L) (hq : q ∈ L) (e : p.2.1 = q.2.1) : p = q := by
  obtain ⟨A, B, rfl⟩ := List.append_of_mem hp
  rcases List.mem_append.1 hq with hq | hq
  · rw [List.map_append, List.nodup_append] at h
    exact absurd e.symm (h.2.2 _ (List.mem_map_of_mem hq) _ (List.mem_cons_self ..))
  · rcases List.mem_cons.1 hq with hq | hq
    · exact hq.symm
    · rw [List.map_append, List.nodup_append] at h
      have h5 : p.2.1 ∉ B.map (·.2.1) := (List.nodup_cons.1 h.2.1).1
      rw [e] at h5
      exact absurd (List.mem_map_of_mem (f := fun x => x.2.1) hq) h5
theorem nd_tdel {L : DTb} (h : (L.map (·.2.1)).Nodup) (s : List UInt8) : ((tdel L s).map (·.2.1)).Nodup := by
  unfold tdel
  exact h.sublist (List.filter_sublist.map _)
theorem nd_tset {L : DTb} (hR : Rising L) (h : (L.map (·.2.1)).Nodup) {s : List UInt8} {g : Nat} {f : Fl} (hg : ∀ p ∈ tdel L s, p.2.1 ≠ g) : ((tset L s (g, f)).map (·.2.1)).Nodup := by
  rw [((tset_perm2 hR s (g, f)).map (·.2.1)).nodup_iff]
  simp only [List.map_cons, List.nodup_cons]
  refine ⟨fun hm => ?_, nd_tdel h s⟩
  obtain ⟨p, hp, e⟩ := List.mem_map.1 hm
  exact hg p hp e
section
variable {W W' : World} {U : Foot} {d m c g k : Nat} {K : Dk} {L : DTb} {s : List UInt8} {f f' : Fl} {A : Option Addr}
/-- the map's entry turns -/
theorem DiskAt.set (h : DiskAt W U d m c K L) (hM : MapOk W' m (c + 1) (tset L s (g, f))) (hg : W.grownBy W' (some m)) (hF : FlAt W' U g f) (hn : ∀ p ∈ tdel L s, p.2.1 ≠ g) :
    DiskAt W' U d m (c + 1) K (tset L s (g, f)) :=
  ⟨h.hd, h.hm, h.blk.grown hg (fun e => h.map.not_blk h.blk (Option.some.inj e).symm), hM, fun p hp => by
    rcases mem_tset h.ris hp with rfl | hp
    · exact hF
    · exact (h.fl p (mem_tdel hp).1).map h.map hg, nd_tset h.ris h.nd hn, h.ris.set⟩
theorem DiskAt.del (h : DiskAt W U d m c K L) (hM : MapOk W' m c (tdel L s)) (hg : W.grownBy W' (some m)) : DiskAt W' U d m c K (tdel L s) :=
  ⟨h.hd, h.hm, h.blk.grown hg (fun e => h.map.not_blk h.blk (Option.some.inj e).symm), hM, fun p hp => (h.fl p (mem_tdel hp).1).map h.map hg, nd_tdel h.nd s, h.ris.del⟩
/-- a file's cells turn -/
theorem DiskAt.file (h : DiskAt W U d m c K L) (hf : tfind L s = some (g, f)) (hb : Blk W' g 62 #[.slice A f'.b.length k, .int .i64 f'.sure])
    (hg : W.grownBy W' (some g)) (hk : f'.b.length ≤ k) (hl : Lies W' U A f'.b.length f'.b) : DiskAt W' U d m c K (tset L s (g, f')) := by
  have hmem := tfind_mem hf
  obtain ⟨hBg, A0, k0, hb0, _, _⟩ := h.fl _ hmem
  simp only at hb0 hBg
  have hne : ∀ p ∈ tdel L s, p.2.1 ≠ g := fun p hp e => (mem_tdel hp).2 (congrArg (·.1) (nd_inj h.nd (mem_tdel hp).1 hmem e))
  refine ⟨h.hd, h.hm, h.blk.grown hg (fun e => h.blk.ne_ hb0 (by decide) (Option.some.inj e)), ?_, fun p hp => ?_, nd_tset h.ris h.nd hne, h.ris.set⟩
  · obtain ⟨n, D, h1, h2, R⟩ := h.map.kept hg (fun e => h.map.not_blk hb0 (Option.some.inj e))
    refine ⟨n, D, h1, h2, ?_⟩
    obtain ⟨A1, B1, rfl⟩ := tfind_some hf
    rw [tset_old h.ris]
    refine ⟨R.tidy, by simpa using R.nd, fun p hp => ?_, fun kl hkl => ?_, fun p hp => ?_, fun p hp z => ?_, by rw [R.size]; simp⟩
    · simp at hp
      rcases hp with hp | rfl | hp
      · exact R.key p (by simp [hp])
      · exact R.key (s, (g, f)) (by simp)
      · exact R.key p (by simp [hp])
    · obtain ⟨p, hp, e⟩ := R.src kl hkl
      simp at hp
      rcases hp with hp | rfl | hp
      · exact ⟨p, by simp [hp], e⟩
      · exact ⟨(s, (g, f')), by simp, e⟩
      · exact ⟨p, by simp [hp], e⟩
    · simp at hp
      rcases hp with hp | rfl | hp
      · exact R.has p (by simp [hp])
      · exact R.has (s, (g, f)) (by simp)
      · exact R.has p (by simp [hp])
    · simp at hp
      rcases hp with hp | rfl | hp
      · exact R.at_ p (by simp [hp]) z
      · exact R.at_ (s, (g, f)) (by simp) z
      · exact R.at_ p (by simp [hp]) z
  · rcases mem_tset h.ris hp with rfl | hp
    · exact ⟨hBg, A, k, hb, hk, hl⟩
    · exact (h.fl p (mem_tdel hp).1).blk hb0 hg (by decide) (hne p hp)
theorem VUnit.dSet {p : Nat × Fl} {Q : World → Prop} (h : MapOk W m c L) (hR : Rising L) (hc : c ≤ 1000000000) (hs : s.length ≤ 1000)
    (hk : ∀ W', MapOk W' m (c + 1) (tset L s p) → W.grownBy W' (some m) → Q W') : VUnit Tryz.prog (Instr.mapUpdate 42 (.map (some m)) (encStr s) (pEnc p)) W Q := by
  obtain ⟨n, D, h1, h2, R⟩ := h
  have hkey := str_key (s := s) (by omega)
  refine VUnit.mapSet h2 str_keyed (by omega) hkey (fun W' h3 hg => hk W' ⟨n + 1, _, by omega, h3, ?_⟩ hg)
  cases hf : tfind L s with
  | none => exact (R.put str_keyed slit_inj hkey (tfind_none hf)).perm (tset_perm (tfind_none hf))
  | some y =>
    obtain ⟨A1, B1, rfl⟩ := tfind_some hf
    rw [tset_old hR]
    exact R.set str_keyed slit_inj
theorem VSem.dDel {ty : Nat} {p : Nat × Fl} {Q : Value → World → Prop} (h : MapOk W m c L) (hR : Rising L) (hf : tfind L s = some p) (hs : s.length ≤ 1000)
    (hk : ∀ W', MapOk W' m c (tdel L s) → W.grownBy W' (some m) → Q (.tuple #[]) W') : VSem Tryz.prog (Builtin.delete_ #[42, 9] ty [.map (some m), encStr s].toArray) W Q := by
  obtain ⟨n, D, h1, h2, R⟩ := h
  have hkey := str_key (s := s) (by omega)
  refine VSem.mapDel h2 str_keyed hkey (fun W' h3 hg => hk W' ⟨n, _, h1, h3, ?_⟩ hg)
  obtain ⟨A1, B1, rfl⟩ := tfind_some hf
  rw [tdel_eq hR.nd]
  exact R.del slit_inj
theorem lenM {S : World → Prop} {ty : Nat} {nD : Nat} {D : DataW Value} {Q : Value → Prop} (h : ∀ W, S W → MapIs Tryz.prog 9 W m nD D) (R : Rel Tryz.prog 9 encStr slit pEnc D L) (hk : Q (.int .i64 (L.length : Int))) :
    VRead Tryz.prog S (Builtin.len_ #[42] ty [.map (some m)].toArray) Q := by
  refine VRead.mapLen h ?_
  rw [R.size]; exact hk
end

def DS.create (S : DS) (s : List UInt8) : Int × DS :=
  if S.k.call.1 ≠ 0 then (S.k.call.1, ⟨S.k.call.2, S.t⟩) else if ¬nameOk s then (1, ⟨S.k.call.2, S.t⟩)
  else if tfind S.t s = none ∧ 64 ≤ S.t.length then (2, ⟨S.k.call.2, S.t⟩) else (0, ⟨S.k.call.2, tset S.t s ⟨[], 0⟩⟩)
theorem TWf.del {r : Int} {T : PT} (h : TWf r T) (s : List UInt8) : TWf r (tdel T s) :=
  ⟨by have := used_tdel_le T s; have := h.fit; omega, Nat.le_trans (tdel_le s) h.few, fun p hp => h.names p (mem_tdel hp).1, h.ris.del, fun p hp => h.sure p (mem_tdel hp).1⟩
theorem TWf.set {r : Int} {T : PT} {s : List UInt8} {f : Fl} (h : TWf r T) (hs : nameOk s) (hn : (tdel T s).length + 1 ≤ 64) (hu : (f.b.length + used (tdel T s) : Int) ≤ r) (hsu : f.sure ≤ f.b.length) : TWf r (tset T s f) :=
  ⟨by rw [used_tset h.ris]; omega, by rw [tset_length h.ris]; omega, fun p hp => by
    rcases mem_tset h.ris hp with rfl | hp
    · exact hs
    · exact h.names p (mem_tdel hp).1, h.ris.set, fun p hp => by
    rcases mem_tset h.ris hp with rfl | hp
    · exact hsu
    · exact h.sure p (mem_tdel hp).1⟩
theorem tdel_few {T : PT} {s : List UInt8} {r : Int} (h : TWf r T) (hf : ¬ (tfind T s = none ∧ 64 ≤ T.length)) : (tdel T s).length + 1 ≤ 64 := by
  cases e : tfind T s with
  | none => rw [tdel_not (tfind_none e)]; have : ¬ 64 ≤ T.length := fun h' => hf ⟨e, h'⟩; omega
  | some x => have := tdel_length h.ris e; have := h.few; omega
theorem DWf.call {S : DS} (h : DWf S) (hc : S.k.calls < 1000000) : DWf ⟨S.k.call.2, S.t⟩ := ⟨h.k.call hc, by have := h.t; simp only; rw [Dk.call_room]; exact this⟩
theorem DWf.create {S : DS} (h : DWf S) (hc : S.k.calls < 1000000) (s : List UInt8) : DWf (S.create s).2 := by
  have h1 := h.call hc
  unfold DS.create
  split
  · exact h1
  · split
    · exact h1
    · split
      · exact h1
      · rename_i h3 h4 h5
        exact ⟨h1.k, h1.t.set (Decidable.not_not.1 h4) (tdel_few h.t h5) (by have := used_tdel_le S.t s; have := h1.t.fit; simp only [List.length_nil] at this ⊢; omega) (Nat.le_refl _)⟩
theorem DS.create_calls (S : DS) (s : List UInt8) : (S.create s).2.k.calls = S.k.calls + 1 := by
  unfold DS.create
  split
  · exact Dk.call_calls _
  · split
    · exact Dk.call_calls _
    · split
      · exact Dk.call_calls _
      · exact Dk.call_calls _
set_option maxHeartbeats 1000000 in
theorem dCreate_any (W : World) (U : Foot) (d : Nat) (S : DS) (s : List UInt8) (h : Disk W U d S) (hc : S.k.calls < 1000000) (hs : s.length ≤ 1000) (hU : Up U W) :
    Calls Tryz.prog 9 #[.pointer (some ⟨d, 0, none⟩), encStr s] W fun e W' => e = .returned (.int .i64 (S.create s).1) ∧ Disk W' U d (S.create s).2 ∧ Out U W W' := by
  have hwf' := h.1.create hc s
  have hcc' := S.create_calls s
  obtain ⟨h0, m, c, L, h, hcc, hpl⟩ := h
  have hc0 := h0.k.calls
  have hlen : L.length = S.t.length := by rw [← hpl]; exact (tmap_length _ _).symm
  have hfe : tfind S.t s = (tfind L s).map (·.2) := by rw [← hpl]; exact tmap_find _ _ _
  obtain ⟨K, T⟩ := S
  simp only at h hcc hpl h0 hc hc0 hlen hfe
  -- what stands at the end
  have fin : ∀ {W' : World} {c' : Nat} {L' : DTb} {r : Int × DS}, DS.create ⟨K, T⟩ s = r → DiskAt W' U d m c' r.2.k L' → c' ≤ c + 1 → plain L' = r.2.t → Disk W' U d (DS.create ⟨K, T⟩ s).2 := by
    intro W' c' L' r e h1 h2 h3
    refine ⟨hwf', m, c', L', by rw [e]; exact h1, by rw [hcc']; simp only; omega, by rw [e]; exact h3⟩
  refine calls_vc Tryz.func9 rfl (by kernel_rfl) ?_
  ((conv => whnf); (repeat ((first | (refine VL.cons ?_) | (refine VL.nil ?_) | (refine VC.seqS rfl ?_) | (refine VC.region ?_)); (conv => whnf))))
  ((repeat ((first | (refine VL.cons ?_) | (refine VC.seqS rfl ?_) | (refine VC.region ?_) | (refine VC.seq ?_)); (conv => whnf))))
  refine VCall.of (dCall_at W U d m c K L h h0.k) ?_
  rintro e W1 ⟨rfl, h1, hg1⟩
  have hO1 := Out.grown hg1 h.hd
  refine ⟨_, rfl, ?_⟩
  obtain ⟨e1, K1, hK⟩ : ∃ e1 K1, K.call = (e1, K1) := ⟨_, _, rfl⟩
  rw [hK] at h1 ⊢
  simp only at h1 ⊢
  have c1 : e1 ≠ 0 → DS.create ⟨K, T⟩ s = (e1, ⟨K1, T⟩) := fun h => by unfold DS.create; rw [hK]; exact if_pos h
  have c2 : e1 = 0 → ¬ nameOk s → DS.create ⟨K, T⟩ s = (1, ⟨K1, T⟩) := fun h h' => by unfold DS.create; rw [hK, if_neg (not_not_intro h)]; exact if_pos h'
  have c3 : e1 = 0 → nameOk s → (tfind T s = none ∧ 64 ≤ T.length) → DS.create ⟨K, T⟩ s = (2, ⟨K1, T⟩) := fun h h' h'' => by unfold DS.create; rw [hK, if_neg (not_not_intro h), if_neg (not_not_intro h')]; exact if_pos h''
  have c4 : e1 = 0 → nameOk s → ¬ (tfind T s = none ∧ 64 ≤ T.length) → DS.create ⟨K, T⟩ s = (0, ⟨K1, tset T s ⟨[], 0⟩⟩) := fun h h' h'' => by unfold DS.create; rw [hK, if_neg (not_not_intro h), if_neg (not_not_intro h')]; exact if_neg h''
  by_cases he : e1 = 0
  case neg =>
    ((conv => whnf); (repeat ((first | (refine VL.cons ?_) | (refine VL.nil ?_) | (refine VC.seqS rfl ?_) | (refine VC.region ?_) | (refine VC.cond ?_)); (conv => whnf))))
    ((repeat ((first | (refine VL.cons ?_) | (refine VL.nil ?_) | (refine VC.seqS rfl ?_) | (refine VC.region ?_) | (refine VC.ret ?_) | (refine VBool.nF (by omega) ?_)); (conv => whnf))))
    exact ⟨by rw [c1 he]; rfl, fin (c1 he) h1 (by omega) hpl, hO1⟩
  subst he
  ((conv => whnf); (repeat ((first | (refine VL.cons ?_) | (refine VL.nil ?_) | (refine VC.seqS rfl ?_) | (refine VC.region ?_) | (refine VC.cond ?_)); (conv => whnf))))
  ((repeat ((first | (refine VL.cons ?_) | (refine VC.seqS rfl ?_) | (refine VC.region ?_) | (refine VC.skip ?_) | (refine VBool.f ?_) | (refine VC.seq ?_)); (conv => whnf))))
  refine VSem.one rfl ?_
  intro W2 hr2 hB2 hz2
  have h2 := h1.below hB2 (Nat.le_refl _)
  have hO2 := hO1.trans (Out.new hB2)
  ((conv => whnf); (repeat ((first | (refine VL.cons ?_)); (conv => whnf))))
  ((repeat ((fail); (conv => whnf))))
  refine VCall.of (dNamed_any W2 _ 1 1 _ [s] hr2 (by omega)) ?_
  rintro e W2' ⟨rfl, eW⟩
  obtain rfl := eW.symm
  refine ⟨_, rfl, ?_⟩
  by_cases hn : nameOk s
  case neg =>
    rw [decide_eq_false (show ¬ ∀ x ∈ [s], nameOk x by simpa using hn)]
    ((conv => whnf); (repeat ((first | (refine VL.cons ?_) | (refine VL.nil ?_) | (refine VC.cond ?_)); (conv => whnf))))
    ((repeat ((first | (refine VL.cons ?_) | (refine VL.nil ?_) | (refine VC.seqS rfl ?_) | (refine VC.region ?_) | (refine VC.ret ?_) | (refine VBool.t ?_)); (conv => whnf))))
    exact ⟨by rw [c2 rfl hn]; rfl, fin (c2 rfl hn) h2 (by omega) hpl, hO2⟩
  rw [decide_eq_true (show ∀ x ∈ [s], nameOk x by simpa using hn)]
  have hb := h2.blk
  ((conv => whnf); (repeat ((first | (refine VL.cons ?_) | (refine VL.nil ?_) | (refine VC.cond ?_)); (conv => whnf))))
  (repeat (first | ((first | (refine VL.cons ?_) | (refine VC.seqS rfl ?_) | (refine VC.region ?_) | (refine VC.skip ?_) | (refine VBool.f ?_) | (refine VRead.fld ?_) | (refine VC.seq ?_)); (conv => whnf)) | (refine VRead.loadB hb rfl rfl ?_; (conv => whnf))))
  refine dLook h2.map (by omega) ?_
  obtain ⟨nD, D, hnD, hM, R⟩ := h2.map
  have go : ∀ (hno : ¬ (tfind T s = none ∧ 64 ≤ T.length)) (W3 : World) (hB3 : Below W2.heap.size W2 W3) (g : Nat) (hz : g = W2.heap.size) (hb3 : Blk W3 g 62 #[.slice none 0 0, .int .i64 0]) (K0 : World → Prop)
      (hk : ∀ W4, Disk W4 U d (DS.create ⟨K, T⟩ s).2 → Out U W W4 → K0 W4), VUnit Tryz.prog (Instr.mapUpdate 42 (.map (some m)) (encStr s) (pEnc (g, ⟨[], 0⟩))) W3 K0 := by
    intro hno W3 hB3 g hz hb3 K0 hk
    have h3 := h2.below hB3 (Nat.le_refl _)
    have hF : FlAt W3 U g ⟨[], 0⟩ := ⟨hU g (by have := hO2.size; omega), none, 0, hb3, Nat.le_refl _, Lies.nil _ _ _⟩
    refine VUnit.dSet h3.map h3.ris (by omega) hs ?_
    intro W4 hM4 hg4
    refine hk W4 (fin (c4 rfl hn hno) (h3.set hM4 hg4 (hF.map h3.map hg4) (fun p hp e => ?_)) (Nat.le_refl _) (by show tmap _ (tset L s (g, ⟨[], 0⟩)) = _; rw [tmap_set]; show tset (plain L) s _ = _; rw [hpl])) ?_
    · have := ((h2.fl p (mem_tdel hp).1)).lt
      omega
    · exact (hO2.trans (Out.new hB3)).trans (Out.grown hg4 h.hm)
  cases hf : tfind L s with
  | some p =>
    have hno : ¬ (tfind T s = none ∧ 64 ≤ T.length) := by rw [hfe, hf]; intro h; cases h.1
    replace c4 := c4 rfl hn hno
    ((conv => whnf); (repeat ((first | (refine VL.cons ?_)); (conv => whnf))))
    (repeat (first | ((first | (refine VL.cons ?_) | (refine VL.nil ?_) | (refine VC.seqS rfl ?_) | (refine VC.region ?_) | (refine VC.cond ?_) | (refine VC.skip ?_) | (refine VBool.f ?_) | (refine VRead.fld ?_) | (refine VRead.eqPN ?_)); (conv => whnf)) | (refine VRead.loadB hb rfl rfl ?_; (conv => whnf))))
    refine VRead.ofW (v := .agg #[.slice none 0 0, .int .i64 0]) (fun _ => by kernel_rfl) ?_
    ((conv => whnf); (repeat ((first | (refine VL.cons ?_)); (conv => whnf))))
    refine VSem.boxB ?_
    intro W3 g hb3 hg3 hl3 hB3
    ((conv => whnf); (repeat ((first | (refine VL.cons ?_)); (conv => whnf))))
    ((repeat ((fail); (conv => whnf))))
    refine go hno W3 hB3 g hg3 hb3 _ ?_
    intro W4 h4 hO4
    ((conv => whnf); (repeat ((first | (refine VL.cons ?_) | (refine VL.nil ?_) | (refine VC.seqS rfl ?_) | (refine VC.region ?_) | (refine VC.ret ?_)); (conv => whnf))))
    ((repeat ((fail); (conv => whnf))))
    exact ⟨by rw [c4]; rfl, h4, hO4⟩
  | none =>
    by_cases hfull : 64 ≤ L.length
    · replace c3 := c3 rfl hn ⟨by rw [hfe, hf]; rfl, by omega⟩
      ((conv => whnf); (repeat ((first | (refine VL.cons ?_)); (conv => whnf))))
      (repeat (first | ((first | (refine VL.cons ?_) | (refine VL.nil ?_) | (refine VC.seqS rfl ?_) | (refine VC.region ?_) | (refine VC.cond ?_) | (refine VC.ret ?_) | (refine VBool.t ?_) | (refine VBool.dT (by omega) ?_) | (refine VRead.fld ?_) | (refine VRead.eqNN ?_)); (conv => whnf)) | (refine VRead.loadB hb rfl rfl ?_; (conv => whnf)) | (refine lenM (fun _ e => e ▸ hM) R ?_; (conv => whnf))))
      exact ⟨by rw [c3]; rfl, fin c3 h2 (by omega) hpl, hO2⟩
    · have hno : ¬ (tfind T s = none ∧ 64 ≤ T.length) := fun h => hfull (by omega)
      replace c4 := c4 rfl hn hno
      ((conv => whnf); (repeat ((first | (refine VL.cons ?_)); (conv => whnf))))
      (repeat (first | ((first | (refine VL.cons ?_) | (refine VL.nil ?_) | (refine VC.seqS rfl ?_) | (refine VC.region ?_) | (refine VC.cond ?_) | (refine VC.skip ?_) | (refine VBool.t ?_) | (refine VBool.dF (by omega) ?_) | (refine VRead.fld ?_) | (refine VRead.eqNN ?_)); (conv => whnf)) | (refine VRead.loadB hb rfl rfl ?_; (conv => whnf)) | (refine lenM (fun _ e => e ▸ hM) R ?_; (conv => whnf))))
      refine VRead.ofW (v := .agg #[.slice none 0 0, .int .i64 0]) (fun _ => by kernel_rfl) ?_
      ((conv => whnf); (repeat ((first | (refine VL.cons ?_)); (conv => whnf))))
      refine VSem.boxB ?_
      intro W3 g hb3 hg3 hl3 hB3
      ((conv => whnf); (repeat ((first | (refine VL.cons ?_)); (conv => whnf))))
      ((repeat ((fail); (conv => whnf))))
      refine go hno W3 hB3 g hg3 hb3 _ ?_
      intro W4 h4 hO4
      ((conv => whnf); (repeat ((first | (refine VL.cons ?_) | (refine VL.nil ?_) | (refine VC.seqS rfl ?_) | (refine VC.region ?_) | (refine VC.ret ?_)); (conv => whnf))))
      ((repeat ((fail); (conv => whnf))))
      exact ⟨by rw [c4]; rfl, h4, hO4⟩
end Go.Proofs.YtebeidnmplnlpaaGreat
end

section
set_option maxRecDepth 10000
namespace Go.Proofs.YtebeidnmplnlpaaGreat
set_option linter.unusedVariables false
open Go.RowKit
open Go.Maps (Keyed)
open Go.ChangeMaps Go.WideElems

/-- a cell of a block that is known whole, in each of some worlds -/
theorem VRead.loadBS {P : Program} {S : World → Prop} {t T g i : Nat} {p : Addr} {cs : Array Value} {v : Value} {K : Value → Prop} [c : TCell P t] (hb : ∀ W, S W → Blk W g T cs) (hp : p = ⟨g, i, none⟩) (hv : cs.toList[i]? = some v) (hk : K v) : VRead P S (Instr.loadAt t (.pointer (some p))) K := by
  subst hp
  exact .load (fun W hW => by rw [(hb W hW).cell i, ← hv]; simp) hk
theorem add0 (g n : Nat) : (⟨g, 0, none⟩ : Addr).add n = ⟨g, n, none⟩ := by unfold Addr.add; split <;> simp_all
set_option maxHeartbeats 1000000 in
theorem dPut_at (W : World) (U : Foot) (d m c : Nat) (K : Dk) (L : DTb) (s : List UInt8) (g : Nat) (f : Fl) (n k : Nat) (A : Option Addr) (b : List UInt8) (h : DiskAt W U d m c K L)
    (hroom : 0 ≤ K.room ∧ K.room ≤ 16777216) (hfit : (used (plain L) : Int) ≤ K.room) (hfew : L.length ≤ 64) (hf : tfind L s = some (g, f)) (hr : Reads W W.heap.size 1 A n (bv b)) (hn : n ≤ 140737488351232) (hU : Up U W) :
    Calls Tryz.prog 30 #[.pointer (some ⟨d, 0, none⟩), .pointer (some ⟨g, 0, none⟩), .slice A n k] W fun e W' =>
      e = .returned (.int .i64 (if K.room < (used (plain L) : Int) + n then 18 else 0)) ∧ DiskAt W' U d m c K (if K.room < (used (plain L) : Int) + n then L else tset L s (g, ⟨f.b ++ b, f.sure⟩)) ∧ Out U W W' := by
  have hb := h.blk
  have hl : b.length = n := by have := hr.1; rw [bv_length] at this; omega
  have hfu := len_used (T := plain L) (p := (s, f)) (List.mem_map_of_mem (f := fun p : List UInt8 × (Nat × Fl) => (p.1, p.2.2)) (tfind_mem hf))
  simp only at hfu
  obtain ⟨hUg, A0, k0, hbf, hk0, hL0⟩ := h.fl _ (tfind_mem hf)
  simp only at hUg hbf hk0 hL0
  refine calls_vc Tryz.func30 rfl (by kernel_rfl) ?_
  have hS : Below W.heap.size W (W.drewN 1) := below_drewN (Below.refl _ _) 1
  have kB : ∀ X, Below W.heap.size W X → Blk X d 44 (dC K m) := fun X hX => hb.below hX hb.lt
  ((conv => whnf); (repeat ((first | (refine VL.cons ?_) | (refine VL.nil ?_) | (refine VC.seqS rfl ?_) | (refine VC.region ?_)); (conv => whnf))))
  ((repeat ((first | (refine VC.draw ?_) | (refine VC.seq ?_)); (conv => whnf))))
  refine VDraw.seg (fun X => Below W.heap.size W X) [([0, 1, 2, 3, 4, 5, 6], 7)] [8, 9] (by kernel_rfl) (by kernel_rfl) hS ?_
  (conv => whnf)
  (repeat ((first | (refine VRead.loadBS kB rfl rfl ?_) | (refine VQ.cons ?_) | (refine VQ.nil ?_) | (refine VG.cons ?_) | (refine VRead.lenS ?_) | (refine VRead.fld ?_)); (conv => whnf)))
  refine VCall.of (dUsed_at _ U d m c K L (h.below hS (Nat.le_refl _)) hroom hfit hfew) ?_
  rintro e W1 ⟨rfl, hB1⟩
  refine ⟨_, rfl, ?_⟩
  have hS1 : Below W.heap.size W W1 := hS.trans hB1
  (conv => whnf)
  refine Keep.mk hS1 ?_
  (conv => whnf)
  have h1 := h.below hS1 (Nat.le_refl _)
  by_cases hbig : K.room < (used (plain L) : Int) + n
  · rw [if_pos hbig, if_pos hbig]
    (repeat ((first | (refine VL.cons ?_) | (refine VL.nil ?_) | (refine VC.seqS rfl ?_) | (refine VC.region ?_) | (refine VC.cond ?_) | (refine VC.ret ?_) | (refine VQ.cons ?_) | (refine VQ.nil ?_) | (refine VG.nil ?_) | (refine VBool.dT (by omega) ?_) | (refine VWrap.i64 (by omega) (by omega) ?_)); (conv => whnf)))
    exact ⟨rfl, h1, Out.new hS1⟩
  · rw [if_neg hbig, if_neg hbig]
    have hbf1 := hbf.below hS1 hbf.lt
    have hL1 := hL0.below hS1 (Nat.le_refl _)
    have hr1 := hr.below hS1
    (repeat ((first | (refine VL.cons ?_) | (refine VC.seqS rfl ?_) | (refine VC.region ?_) | (refine VC.cond ?_) | (refine VC.skip ?_) | (refine VQ.cons ?_) | (refine VQ.nil ?_) | (refine VG.nil ?_) | (refine VBool.dF (by omega) ?_) | (refine VRead.fld ?_) | (refine VWrap.i64 (by omega) (by omega) ?_)); (conv => whnf)))
    (repeat (first | ((first | (refine VL.cons ?_) | (refine VRead.lenS ?_) | (refine VWrap.i64 (by omega) (by omega) ?_)); (conv => whnf)) | (refine VRead.loadB hbf1 rfl rfl ?_; (conv => whnf))))
    refine VSem.makeZ (n := f.b.length + n) (B := W.heap.size) (by omega) hS1.size (by omega) (by omega) ?_
    intro W2 hO2 hB2 hz2
    have hS2 := hS1.trans (hB2.mono hS1.size)
    have hbf2 := hbf.below hS2 hbf.lt
    ((conv => whnf); (repeat ((first | (refine VL.cons ?_) | (refine VL.nil ?_) | (refine VC.seqS rfl ?_) | (refine VC.region ?_)); (conv => whnf))))
    (repeat (first | ((first | (refine VL.cons ?_) | (refine VRead.fld ?_)); (conv => whnf)) | (refine VRead.loadB hbf2 rfl rfl ?_; (conv => whnf))))
    refine VSem.copyS (o := 0) hO2 (hL0.below hS2 (Nat.le_refl _)).1 (fun _ => rfl) (by omega) (by omega) ?_
    intro W3 hO3 hon3
    have hS3 := hS2.trans (hon3.below hS1.size)
    have hbf3 := hbf.below hS3 hbf.lt
    ((conv => whnf); (repeat ((first | (refine VL.cons ?_) | (refine VL.nil ?_) | (refine VC.seqS rfl ?_) | (refine VC.region ?_)); (conv => whnf))))
    (repeat (first | ((first | (refine VL.cons ?_) | (refine VRead.lenS ?_) | (refine VRead.fld ?_)); (conv => whnf)) | (refine VRead.loadB hbf3 rfl rfl ?_; (conv => whnf)) | (refine VRead.cutL (by omega) (by omega) ?_; (conv => whnf))))
    refine VSem.copyS (o := f.b.length) hO3 (hr.below hS3) (fun hm => ?_) ?_ (by omega) ?_
    · unfold cutA
      rw [Int.toNat_natCast, if_neg (by omega)]
      show some ((⟨W1.heap.size, 0, none⟩ : Addr).add _) = _
      rw [add0]
    · simp
    intro W4 hO4 hon4
    have hS4 := hS3.trans (hon4.below hS1.size)
    have hbf4 := hbf.below hS4 hbf.lt
    have h4 := h.below hS4 (Nat.le_refl _)
    have hby : List.take f.b.length (List.take 0 (List.replicate (f.b.length + n) 0) ++ f.b ++ List.drop (0 + f.b.length) (List.replicate (f.b.length + n) (0 : UInt8))) ++ b ++ List.drop (f.b.length + n) (List.take 0 (List.replicate (f.b.length + n) 0) ++ f.b ++ List.drop (0 + f.b.length) (List.replicate (f.b.length + n) 0)) = f.b ++ b := by
      simp
    rw [hby] at hO4
    have hL4 : Lies W4 U _ _ _ := Lies.of_own hO4 (fun j hj => hU j hj)
    ((conv => whnf); (repeat ((first | (refine VL.cons ?_) | (refine VL.nil ?_) | (refine VC.seqS rfl ?_) | (refine VC.region ?_)); (conv => whnf))))
    ((repeat ((first | (refine VL.cons ?_) | (refine VRead.fld ?_)); (conv => whnf))))
    refine VUnit.storeB hbf4 rfl rfl rfl ?_
    intro W5 hb5 hg5
    have hL5 := hL4.blk hbf4 hg5 (by decide)
    have hlen : (f.b ++ b).length = f.b.length + n := by rw [List.length_append, hl]
    ((conv => whnf); (repeat ((first | (refine VL.cons ?_) | (refine VL.nil ?_) | (refine VC.seqS rfl ?_) | (refine VC.region ?_) | (refine VC.ret ?_)); (conv => whnf))))
    ((repeat ((fail); (conv => whnf))))
    refine ⟨rfl, h4.file (f' := ⟨f.b ++ b, f.sure⟩) (k := f.b.length + n) (A := some ⟨W1.heap.size, 0, none⟩) hf ?_ hg5 (by simp only; omega) (by simp only; rw [hlen]; exact hL5), (Out.new hS4).trans (Out.grown hg5 hUg)⟩
    simp only
    rw [hlen]
    exact hb5
end Go.Proofs.YtebeidnmplnlpaaGreat
end

section
set_option maxRecDepth 10000
namespace Go.Proofs.YtebeidnmplnlpaaGreat
set_option linter.unusedVariables false
open Go.RowKit
open Go.Maps (Keyed)
open Go.ChangeMaps Go.WideElems

theorem Disk.of {W : World} {U : Foot} {d m c : Nat} {L : DTb} {S : DS} (hwf : DWf S) (h : DiskAt W U d m c S.k L) (hc : (c : Int) ≤ S.k.calls) (hp : plain L = S.t) : Disk W U d S := ⟨hwf, m, c, L, h, hc, hp⟩
theorem retE {e r : Int × DS} (h : e = r) : Ending.returned (.int .i64 r.1) = Ending.returned (.int .i64 e.1) := by rw [h]
theorem findR_bad {L : DTb} {s : List UInt8} (h : ¬ nameOk s) : findR L s = .tuple #[.pointer none, .int .i64 1] := by unfold findR; rw [if_neg h]
theorem findR_none {L : DTb} {s : List UInt8} (h : nameOk s) (hf : tfind L s = none) : findR L s = .tuple #[.pointer none, .int .i64 3] := by unfold findR; rw [if_pos h, hf]
theorem findR_some {L : DTb} {s : List UInt8} {g : Nat} {f : Fl} (h : nameOk s) (hf : tfind L s = some (g, f)) : findR L s = .tuple #[.pointer (some ⟨g, 0, none⟩), .int .i64 0] := by unfold findR; rw [if_pos h, hf]; rfl
/-! ### what the operations answer -/
def DS.put (S : DS) (s : List UInt8) (f : Fl) (b : List UInt8) : Int × DS := if S.k.room < (used S.t : Int) + b.length then (18, S) else (0, ⟨S.k, tset S.t s ⟨f.b ++ b, f.sure⟩⟩)
def DS.append (S : DS) (s b : List UInt8) : Int × DS :=
  if S.k.call.1 ≠ 0 then (S.k.call.1, if S.k.off = false ∧ nameOk s then (match tfind S.t s with | some f => (DS.put ⟨S.k.call.2, S.t⟩ s f (b.take (b.length / 2))).2 | none => ⟨S.k.call.2, S.t⟩) else ⟨S.k.call.2, S.t⟩)
  else if ¬ nameOk s then (1, ⟨S.k.call.2, S.t⟩) else match tfind S.t s with | none => (3, ⟨S.k.call.2, S.t⟩) | some f => DS.put ⟨S.k.call.2, S.t⟩ s f b
def DS.sync (S : DS) (s : List UInt8) : Int × DS :=
  if S.k.call.1 ≠ 0 then (S.k.call.1, ⟨S.k.call.2, S.t⟩)
  else if ¬ nameOk s then (1, ⟨S.k.call.2, S.t⟩) else match tfind S.t s with | none => (3, ⟨S.k.call.2, S.t⟩) | some f => (0, ⟨S.k.call.2, tset S.t s ⟨f.b, f.b.length⟩⟩)
def DS.rename (S : DS) (s t : List UInt8) : Int × DS :=
  if S.k.call.1 ≠ 0 then (S.k.call.1, ⟨S.k.call.2, S.t⟩)
  else if ¬ (nameOk s ∧ nameOk t) then (1, ⟨S.k.call.2, S.t⟩) else match tfind S.t s with | none => (3, ⟨S.k.call.2, S.t⟩) | some f => (0, ⟨S.k.call.2, tset (tdel S.t s) t f⟩)
def DS.remove (S : DS) (s : List UInt8) : Int × DS :=
  if S.k.call.1 ≠ 0 then (S.k.call.1, ⟨S.k.call.2, S.t⟩)
  else if ¬ nameOk s then (1, ⟨S.k.call.2, S.t⟩) else match tfind S.t s with | none => (3, ⟨S.k.call.2, S.t⟩) | some f => (0, ⟨S.k.call.2, tdel S.t s⟩)
section
variable {S : DS} {s t b : List UInt8} {f : Fl}
theorem DWf.has (h : DWf S) (hf : tfind S.t s = some f) : nameOk s ∧ f.sure ≤ f.b.length ∧ used S.t = f.b.length + used (tdel S.t s) ∧ (tdel S.t s).length + 1 = S.t.length :=
  ⟨h.t.names _ (tfind_mem hf), h.t.sure _ (tfind_mem hf), used_tdel h.t.ris hf, (tdel_length h.t.ris hf).symm⟩
theorem DWf.put (h : DWf S) (hf : tfind S.t s = some f) : DWf (S.put s f b).2 := by
  obtain ⟨h1, h2, h3, h4⟩ := h.has hf
  have := h.t.fit
  have := h.t.few
  unfold DS.put
  split
  · exact h
  · exact ⟨h.k, h.t.set h1 (by omega) (by simp only [List.length_append]; omega) (by simp only [List.length_append]; omega)⟩
theorem DS.put_k : (S.put s f b).2.k = S.k := by unfold DS.put; split <;> rfl
theorem DWf.append (h : DWf S) (hc : S.k.calls < 1000000) : DWf (S.append s b).2 := by
  have h1 := h.call hc
  unfold DS.append
  split
  · simp only
    split
    · split
      · rename_i f hf; exact h1.put hf
      · exact h1
    · exact h1
  · split
    · exact h1
    · split
      · exact h1
      · rename_i f hf; exact h1.put hf
theorem DS.append_calls : (S.append s b).2.k.calls = S.k.calls + 1 := by
  have h0 := Dk.call_calls S.k
  unfold DS.append
  split
  · simp only
    split
    · split
      · rw [DS.put_k]; exact h0
      · exact h0
    · exact h0
  · split
    · exact h0
    · split
      · exact h0
      · rw [DS.put_k]; exact h0
theorem DWf.sync (h : DWf S) (hc : S.k.calls < 1000000) : DWf (S.sync s).2 := by
  have h1 := h.call hc
  unfold DS.sync
  split
  · exact h1
  · split
    · exact h1
    · split
      · exact h1
      · rename_i f hf
        obtain ⟨a1, a2, a3, a4⟩ := h.has hf
        have := h.t.few
        have := h1.t.fit
        simp only at this
        exact ⟨h1.k, h1.t.set a1 (by simp only; omega) (by simp only; omega) (Nat.le_refl _)⟩
theorem DS.sync_calls : (S.sync s).2.k.calls = S.k.calls + 1 := by
  have h0 := Dk.call_calls S.k
  unfold DS.sync
  split
  · exact h0
  · split
    · exact h0
    · split <;> exact h0
theorem DWf.rename (h : DWf S) (hc : S.k.calls < 1000000) : DWf (S.rename s t).2 := by
  have h1 := h.call hc
  unfold DS.rename
  split
  · exact h1
  · split
    · exact h1
    · split
      · exact h1
      · rename_i hn _ f hf
        obtain ⟨a1, a2, a3, a4⟩ := h.has hf
        have := h.t.few
        have := h1.t.fit
        have := used_tdel_le (tdel S.t s) t
        have := tdel_le (L := tdel S.t s) t
        simp only at *
        exact ⟨h1.k, (h1.t.del s).set (Decidable.not_not.1 hn).2 (by show (tdel (tdel S.t s) t).length + 1 ≤ 64; omega) (by show (f.b.length + used (tdel (tdel S.t s) t) : Int) ≤ S.k.call.2.room; omega) a2⟩
theorem DS.rename_calls : (S.rename s t).2.k.calls = S.k.calls + 1 := by
  have h0 := Dk.call_calls S.k
  unfold DS.rename
  split
  · exact h0
  · split
    · exact h0
    · split <;> exact h0
theorem DWf.remove (h : DWf S) (hc : S.k.calls < 1000000) : DWf (S.remove s).2 := by
  have h1 := h.call hc
  unfold DS.remove
  split
  · exact h1
  · split
    · exact h1
    · split
      · exact h1
      · exact ⟨h1.k, h1.t.del s⟩
theorem DS.remove_calls : (S.remove s).2.k.calls = S.k.calls + 1 := by
  have h0 := Dk.call_calls S.k
  unfold DS.remove
  split
  · exact h0
  · split
    · exact h0
    · split <;> exact h0
end
/-! ### what the code does -/
theorem VNext.del {P : Program} {ρ : Operand → Value} {c : Call} {ty : TypeId} {w : World} {K : Value → World → Prop} (hc : c.callee = .builtin .delete) (h : VSem P (Builtin.delete_ c.argTypes ty (argsOf ρ c).toArray) w K) : VNext P (do let d ← resolve ρ c ty; invoke d.target d.args) w K := by
  unfold resolve
  rw [hc]
  rw [args_arr] at h
  exact vnext_bind_ok rfl (vsem_next h)
set_option maxHeartbeats 1000000 in
theorem dAppend_any (W : World) (U : Foot) (d : Nat) (S : DS) (s : List UInt8) (n k : Nat) (A : Option Addr) (b : List UInt8) (h : Disk W U d S) (hc : S.k.calls < 1000000) (hs : s.length ≤ 1000) (hr : Src W U A n b) (hn : n ≤ 140737488351232) (hnk : n ≤ k) (hU : Up U W) :
    Calls Tryz.prog 11 #[.pointer (some ⟨d, 0, none⟩), encStr s, .slice A n k] W fun e W' => e = .returned (.int .i64 (S.append s b).1) ∧ Disk W' U d (S.append s b).2 ∧ Out U W W' := by
  have hwf' := h.1.append (s := s) (b := b) hc
  have hcc' := DS.append_calls (S := S) (s := s) (b := b)
  have hl := hr.len
  obtain ⟨h0, m, c, L, h, hcc, hpl⟩ := h
  have hwf1 := h0.call hc
  have hlen : L.length = S.t.length := by rw [← hpl]; exact (tmap_length _ _).symm
  have hfe : tfind S.t s = (tfind L s).map (·.2) := by rw [← hpl]; exact tmap_find _ _ _
  have hb := h.blk
  -- what stands at the end
  have fin : ∀ {W' : World} {L' : DTb} {r : Int × DS}, S.append s b = r → DiskAt W' U d m c r.2.k L' → plain L' = r.2.t → Disk W' U d (S.append s b).2 := by
    intro W' L' r e h1 h3
    exact Disk.of hwf' (by rw [e]; exact h1) (by rw [hcc']; omega) (by rw [e]; exact h3)
  refine calls_vc Tryz.func11 rfl (by kernel_rfl) ?_
  ((conv => whnf); (repeat ((first | (refine VL.cons ?_) | (refine VL.nil ?_) | (refine VC.seqS rfl ?_) | (refine VC.region ?_)); (conv => whnf))))
  (repeat (first | ((first | (refine VL.cons ?_) | (refine VL.nil ?_) | (refine VC.seqS rfl ?_) | (refine VC.region ?_) | (refine VRead.fld ?_)); (conv => whnf)) | (refine VRead.loadB hb rfl rfl ?_; (conv => whnf))))
  refine VCall.of (dCall_at W U d m c S.k L h h0.k) ?_
  rintro e W1 ⟨rfl, h1, hg1⟩
  refine ⟨_, rfl, ?_⟩
  have hr1 := hr.blk hb h.hd hg1 (by decide)
  ((conv => whnf); (repeat ((first | (refine VL.cons ?_) | (refine VL.nil ?_) | (refine VC.seqS rfl ?_) | (refine VC.region ?_)); (conv => whnf))))
  ((repeat ((fail); (conv => whnf))))
  refine VCall.of (dFind_at W1 U d m c _ L s h1) ?_
  rintro e W2 ⟨rfl, hB2⟩
  refine ⟨_, rfl, ?_⟩
  have h2 := h1.below hB2 (Nat.le_refl _)
  have hO2 : Out U W W2 := (Out.grown hg1 h.hd).trans (Out.new hB2)
  have hr2 := (hr1.1.below hB2).more hB2.size
  have hU2 := hU.grow hO2.size
  have hroom := h0.k.room
  have hfit := h0.t.fit
  have hfew := h0.t.few
  obtain ⟨e1, K1, hK⟩ : ∃ e1 K1, S.k.call = (e1, K1) := ⟨_, _, rfl⟩
  have hrm : K1.room = S.k.room := by have := Dk.call_room S.k; rw [hK] at this; exact this
  rw [hK] at h1 h2 ⊢
  simp only at h1 h2 ⊢
  have put : ∀ (g : Nat) (f : Fl) (z j : Nat) (x : List UInt8), tfind L s = some (g, f) → Reads W2 W2.heap.size 1 A z (bv x) → z ≤ 140737488351232 → Calls Tryz.prog 30 #[.pointer (some ⟨d, 0, none⟩), .pointer (some ⟨g, 0, none⟩), .slice A z j] W2 fun e W' =>
      e = .returned (.int .i64 (DS.put ⟨K1, S.t⟩ s f x).1) ∧ (∃ L', DiskAt W' U d m c (DS.put ⟨K1, S.t⟩ s f x).2.k L' ∧ plain L' = (DS.put ⟨K1, S.t⟩ s f x).2.t) ∧ Out U W W' := by
    intro g f z j x hf hx hz
    have hxl : x.length = z := by have := hx.1; rw [bv_length] at this; omega
    refine (dPut_at W2 U d m c K1 L s g f z j A x h2 (by omega) (by rw [hpl]; omega) (by omega) hf hx hz hU2).mono ?_
    rintro e W' ⟨rfl, h3, hO3⟩
    rw [hpl] at h3 ⊢
    unfold DS.put
    simp only
    rw [hxl]
    by_cases hbig : K1.room < (used S.t : Int) + z
    · rw [if_pos hbig, if_pos hbig]
      rw [if_pos hbig] at h3
      exact ⟨rfl, ⟨L, h3, hpl⟩, hO2.trans hO3⟩
    · rw [if_neg hbig, if_neg hbig]
      rw [if_neg hbig] at h3
      exact ⟨rfl, ⟨_, h3, by show tmap _ (tset L s _) = _; rw [tmap_set]; show tset (plain L) s _ = _; rw [hpl]⟩, hO2.trans hO3⟩
  by_cases he : e1 = 0
  · subst he
    by_cases hn : nameOk s
    · cases hf : tfind L s with
      | none =>
        rw [findR_none hn hf]
        have ea : S.append s b = (3, ⟨K1, S.t⟩) := by unfold DS.append; rw [hK, if_neg (by simp), if_neg (not_not_intro hn), hfe, hf]; rfl
        ((conv => whnf); (repeat ((first | (refine VL.cons ?_) | (refine VL.nil ?_)); (conv => whnf))))
        ((repeat ((first | (refine VL.cons ?_) | (refine VL.nil ?_) | (refine VC.seqS rfl ?_) | (refine VC.region ?_) | (refine VC.cond ?_) | (refine VC.ret ?_) | (refine VC.skip ?_) | (refine VBool.t ?_) | (refine VBool.f ?_) | (refine VC.seq ?_)); (conv => whnf))))
        exact ⟨retE ea, fin ea h2 hpl, hO2⟩
      | some p =>
        obtain ⟨g, f⟩ := p
        rw [findR_some hn hf]
        have ea : S.append s b = DS.put ⟨K1, S.t⟩ s f b := by unfold DS.append; rw [hK, if_neg (by simp), if_neg (not_not_intro hn), hfe, hf]; rfl
        ((conv => whnf); (repeat ((first | (refine VL.cons ?_) | (refine VL.nil ?_)); (conv => whnf))))
        ((repeat ((first | (refine VL.cons ?_) | (refine VL.nil ?_) | (refine VC.seqS rfl ?_) | (refine VC.region ?_) | (refine VC.cond ?_) | (refine VC.skip ?_) | (refine VBool.f ?_) | (refine VC.seq ?_)); (conv => whnf))))
        refine VCall.of (put g f n k b hf hr2 (by omega)) ?_
        rintro e W3 ⟨rfl, ⟨L', h3, h4⟩, hO3⟩
        refine ⟨_, rfl, ?_⟩
        ((conv => whnf); (repeat ((first | (refine VL.cons ?_) | (refine VL.nil ?_) | (refine VC.ret ?_)); (conv => whnf))))
        ((repeat ((fail); (conv => whnf))))
        exact ⟨retE ea, fin ea h3 h4, hO3⟩
    · rw [findR_bad hn]
      have ea : S.append s b = (1, ⟨K1, S.t⟩) := by unfold DS.append; rw [hK, if_neg (by simp), if_pos hn]
      ((conv => whnf); (repeat ((first | (refine VL.cons ?_) | (refine VL.nil ?_)); (conv => whnf))))
      ((repeat ((first | (refine VL.cons ?_) | (refine VL.nil ?_) | (refine VC.seqS rfl ?_) | (refine VC.region ?_) | (refine VC.cond ?_) | (refine VC.ret ?_) | (refine VC.skip ?_) | (refine VBool.t ?_) | (refine VBool.f ?_) | (refine VC.seq ?_)); (conv => whnf))))
      exact ⟨retE ea, fin ea h2 hpl, hO2⟩
  · have ea0 : ¬ (S.k.off = false ∧ nameOk s) → S.append s b = (e1, ⟨K1, S.t⟩) := fun h => by unfold DS.append; rw [hK, if_pos he]; simp only; rw [if_neg h]
    have ea1 : (S.k.off = false ∧ nameOk s) → S.append s b = (e1, match tfind S.t s with | some f => (DS.put ⟨K1, S.t⟩ s f (b.take (b.length / 2))).2 | none => ⟨K1, S.t⟩) := fun h => by unfold DS.append; rw [hK, if_pos he]; simp only; rw [if_pos h]
    cases hoff : S.k.off with
    | true =>
      replace ea0 := ea0 (by rw [hoff]; simp)
      by_cases hn : nameOk s
      · cases hf : tfind L s with
        | none =>
          rw [findR_none hn hf]
          ((conv => whnf); (repeat ((first | (refine VL.cons ?_) | (refine VL.nil ?_)); (conv => whnf))))
          ((repeat ((first | (refine VL.cons ?_) | (refine VL.nil ?_) | (refine VC.seqS rfl ?_) | (refine VC.region ?_) | (refine VC.cond ?_) | (refine VC.ret ?_) | (refine VC.skip ?_) | (refine VBool.f ?_) | (refine VBool.nF (by omega) ?_) | (refine VC.seq ?_)); (conv => whnf))))
          exact ⟨retE ea0, fin ea0 h2 hpl, hO2⟩
        | some p =>
          rw [findR_some hn hf]
          ((conv => whnf); (repeat ((first | (refine VL.cons ?_) | (refine VL.nil ?_)); (conv => whnf))))
          ((repeat ((first | (refine VL.cons ?_) | (refine VL.nil ?_) | (refine VC.seqS rfl ?_) | (refine VC.region ?_) | (refine VC.cond ?_) | (refine VC.ret ?_) | (refine VC.skip ?_) | (refine VBool.f ?_) | (refine VBool.nF (by omega) ?_) | (refine VC.seq ?_)); (conv => whnf))))
          exact ⟨retE ea0, fin ea0 h2 hpl, hO2⟩
      · rw [findR_bad hn]
        ((conv => whnf); (repeat ((first | (refine VL.cons ?_) | (refine VL.nil ?_)); (conv => whnf))))
        ((repeat ((first | (refine VL.cons ?_) | (refine VL.nil ?_) | (refine VC.seqS rfl ?_) | (refine VC.region ?_) | (refine VC.cond ?_) | (refine VC.ret ?_) | (refine VC.skip ?_) | (refine VBool.f ?_) | (refine VBool.nF (by omega) ?_) | (refine VC.seq ?_)); (conv => whnf))))
        exact ⟨retE ea0, fin ea0 h2 hpl, hO2⟩
    | false =>
      by_cases hn : nameOk s
      · replace ea1 := ea1 ⟨hoff, hn⟩
        cases hf : tfind L s with
        | none =>
          rw [hfe, hf] at ea1
          rw [findR_none hn hf]
          ((conv => whnf); (repeat ((first | (refine VL.cons ?_) | (refine VL.nil ?_)); (conv => whnf))))
          ((repeat ((first | (refine VL.cons ?_) | (refine VL.nil ?_) | (refine VC.seqS rfl ?_) | (refine VC.region ?_) | (refine VC.cond ?_) | (refine VC.ret ?_) | (refine VC.skip ?_) | (refine VBool.t ?_) | (refine VBool.f ?_) | (refine VBool.nF (by omega) ?_) | (refine VC.seq ?_)); (conv => whnf))))
          exact ⟨retE ea1, fin ea1 h2 hpl, hO2⟩
        | some p =>
          obtain ⟨g, f⟩ := p
          rw [hfe, hf] at ea1
          rw [findR_some hn hf]
          ((conv => whnf); (repeat ((first | (refine VL.cons ?_) | (refine VL.nil ?_)); (conv => whnf))))
          ((repeat ((first | (refine VL.cons ?_) | (refine VL.nil ?_) | (refine VC.seqS rfl ?_) | (refine VC.region ?_) | (refine VC.cond ?_) | (refine VBool.t ?_) | (refine VBool.nF (by omega) ?_) | (refine VRead.lenS ?_) | (refine VC.seq ?_)); (conv => whnf))))
          refine VRead.quo64 (by omega) (by omega) (by omega) ?_
          ((conv => whnf); (repeat ((first | (refine VL.cons ?_)); (conv => whnf))))
          refine VRead.cutRH (n / 2) hr2 (by omega) (by omega) hnk ?_
          intro hr3
          ((conv => whnf); (repeat ((first | (refine VL.cons ?_)); (conv => whnf))))
          ((repeat ((fail); (conv => whnf))))
          refine VCall.of (put g f (n / 2) k (b.take (n / 2)) hf hr3 (by omega)) ?_
          rintro e W3 ⟨rfl, ⟨L', h3, h4⟩, hO3⟩
          refine ⟨_, rfl, ?_⟩
          ((conv => whnf); (repeat ((first | (refine VL.cons ?_) | (refine VL.nil ?_) | (refine VC.seqS rfl ?_) | (refine VC.region ?_) | (refine VC.ret ?_)); (conv => whnf))))
          ((repeat ((fail); (conv => whnf))))
          rw [hl] at ea1
          exact ⟨retE ea1, fin ea1 h3 h4, hO3⟩
      · replace ea0 := ea0 (by simp [hn])
        rw [findR_bad hn]
        ((conv => whnf); (repeat ((first | (refine VL.cons ?_) | (refine VL.nil ?_)); (conv => whnf))))
        ((repeat ((first | (refine VL.cons ?_) | (refine VL.nil ?_) | (refine VC.seqS rfl ?_) | (refine VC.region ?_) | (refine VC.cond ?_) | (refine VC.ret ?_) | (refine VC.skip ?_) | (refine VBool.t ?_) | (refine VBool.f ?_) | (refine VBool.nF (by omega) ?_) | (refine VC.seq ?_)); (conv => whnf))))
        exact ⟨retE ea0, fin ea0 h2 hpl, hO2⟩
set_option maxHeartbeats 1000000 in
theorem dSync_any (W : World) (U : Foot) (d : Nat) (S : DS) (s : List UInt8) (h : Disk W U d S) (hc : S.k.calls < 1000000) (hs : s.length ≤ 1000) :
    Calls Tryz.prog 14 #[.pointer (some ⟨d, 0, none⟩), encStr s] W fun e W' => e = .returned (.int .i64 (S.sync s).1) ∧ Disk W' U d (S.sync s).2 ∧ Out U W W' := by
  have hwf' := h.1.sync (s := s) hc
  have hcc' := DS.sync_calls (S := S) (s := s)
  obtain ⟨h0, m, c, L, h, hcc, hpl⟩ := h
  have hfe : tfind S.t s = (tfind L s).map (·.2) := by rw [← hpl]; exact tmap_find _ _ _
  have fin : ∀ {W' : World} {L' : DTb} {r : Int × DS}, S.sync s = r → DiskAt W' U d m c r.2.k L' → plain L' = r.2.t → Disk W' U d (S.sync s).2 := by
    intro W' L' r e h1 h3
    exact Disk.of hwf' (by rw [e]; exact h1) (by rw [hcc']; omega) (by rw [e]; exact h3)
  refine calls_vc Tryz.func14 rfl (by kernel_rfl) ?_
  ((conv => whnf); (repeat ((first | (refine VL.cons ?_) | (refine VL.nil ?_) | (refine VC.seqS rfl ?_) | (refine VC.region ?_)); (conv => whnf))))
  ((repeat ((first | (refine VL.cons ?_) | (refine VC.seqS rfl ?_) | (refine VC.region ?_) | (refine VC.seq ?_)); (conv => whnf))))
  refine VCall.of (dCall_at W U d m c S.k L h h0.k) ?_
  rintro e W1 ⟨rfl, h1, hg1⟩
  refine ⟨_, rfl, ?_⟩
  obtain ⟨e1, K1, hK⟩ : ∃ e1 K1, S.k.call = (e1, K1) := ⟨_, _, rfl⟩
  rw [hK] at h1 ⊢
  simp only at h1 ⊢
  have hO1 : Out U W W1 := Out.grown hg1 h.hd
  by_cases he : e1 = 0
  case neg =>
    have ea : S.sync s = (e1, ⟨K1, S.t⟩) := by unfold DS.sync; rw [hK]; exact if_pos he
    ((conv => whnf); (repeat ((first | (refine VL.cons ?_) | (refine VL.nil ?_) | (refine VC.seqS rfl ?_) | (refine VC.region ?_) | (refine VC.cond ?_)); (conv => whnf))))
    ((repeat ((first | (refine VL.cons ?_) | (refine VL.nil ?_) | (refine VC.seqS rfl ?_) | (refine VC.region ?_) | (refine VC.ret ?_) | (refine VBool.nF (by omega) ?_)); (conv => whnf))))
    exact ⟨retE ea, fin ea h1 hpl, hO1⟩
  subst he
  ((conv => whnf); (repeat ((first | (refine VL.cons ?_) | (refine VL.nil ?_) | (refine VC.seqS rfl ?_) | (refine VC.region ?_) | (refine VC.cond ?_)); (conv => whnf))))
  ((repeat ((first | (refine VL.cons ?_) | (refine VC.seqS rfl ?_) | (refine VC.region ?_) | (refine VC.skip ?_) | (refine VBool.f ?_)); (conv => whnf))))
  refine VCall.of (dFind_at W1 U d m c _ L s h1) ?_
  rintro e W2 ⟨rfl, hB2⟩
  refine ⟨_, rfl, ?_⟩
  have h2 := h1.below hB2 (Nat.le_refl _)
  have hO2 := hO1.trans (Out.new hB2)
  by_cases hn : nameOk s
  case neg =>
    rw [findR_bad hn]
    have ea : S.sync s = (1, ⟨K1, S.t⟩) := by unfold DS.sync; rw [hK, if_neg (by simp), if_pos hn]
    ((conv => whnf); (repeat ((first | (refine VL.cons ?_) | (refine VL.nil ?_)); (conv => whnf))))
    ((repeat ((first | (refine VL.cons ?_) | (refine VL.nil ?_) | (refine VC.seqS rfl ?_) | (refine VC.region ?_) | (refine VC.cond ?_) | (refine VC.ret ?_) | (refine VC.skip ?_) | (refine VBool.f ?_) | (refine VC.seq ?_)); (conv => whnf))))
    exact ⟨retE ea, fin ea h2 hpl, hO2⟩
  cases hf : tfind L s with
  | none =>
    rw [findR_none hn hf]
    have ea : S.sync s = (3, ⟨K1, S.t⟩) := by unfold DS.sync; rw [hK, if_neg (by simp), if_neg (not_not_intro hn), hfe, hf]; rfl
    ((conv => whnf); (repeat ((first | (refine VL.cons ?_) | (refine VL.nil ?_)); (conv => whnf))))
    ((repeat ((first | (refine VL.cons ?_) | (refine VL.nil ?_) | (refine VC.seqS rfl ?_) | (refine VC.region ?_) | (refine VC.cond ?_) | (refine VC.ret ?_) | (refine VC.skip ?_) | (refine VBool.f ?_) | (refine VC.seq ?_)); (conv => whnf))))
    exact ⟨retE ea, fin ea h2 hpl, hO2⟩
  | some p =>
    obtain ⟨g, f⟩ := p
    rw [findR_some hn hf]
    have ea : S.sync s = (0, ⟨K1, tset S.t s ⟨f.b, f.b.length⟩⟩) := by unfold DS.sync; rw [hK, if_neg (by simp), if_neg (not_not_intro hn), hfe, hf]; rfl
    obtain ⟨hUg, A0, k0, hbf, hk0, hL0⟩ := h2.fl _ (tfind_mem hf)
    simp only at hUg hbf hk0 hL0
    ((conv => whnf); (repeat ((first | (refine VL.cons ?_) | (refine VL.nil ?_)); (conv => whnf))))
    (repeat (first | ((first | (refine VL.cons ?_) | (refine VL.nil ?_) | (refine VC.seqS rfl ?_) | (refine VC.region ?_) | (refine VC.cond ?_) | (refine VBool.t ?_) | (refine VRead.lenS ?_) | (refine VRead.fld ?_) | (refine VC.seq ?_)); (conv => whnf)) | (refine VRead.loadB hbf rfl rfl ?_; (conv => whnf))))
    refine VUnit.storeB hbf rfl rfl rfl ?_
    intro W3 hb3 hg3
    ((conv => whnf); (repeat ((first | (refine VL.cons ?_) | (refine VL.nil ?_) | (refine VC.seqS rfl ?_) | (refine VC.region ?_) | (refine VC.ret ?_)); (conv => whnf))))
    ((repeat ((fail); (conv => whnf))))
    exact ⟨retE ea, fin ea (h2.file (f' := ⟨f.b, f.b.length⟩) hf hb3 hg3 hk0 (hL0.blk hbf hg3 (by decide))) (by show tmap _ (tset L s _) = _; rw [tmap_set]; show tset (plain L) s _ = _; rw [hpl]), hO2.trans (Out.grown hg3 hUg)⟩
set_option maxHeartbeats 1000000 in
theorem dRemove_any (W : World) (U : Foot) (d : Nat) (S : DS) (s : List UInt8) (h : Disk W U d S) (hc : S.k.calls < 1000000) (hs : s.length ≤ 1000) :
    Calls Tryz.prog 69 #[.pointer (some ⟨d, 0, none⟩), encStr s] W fun e W' => e = .returned (.int .i64 (S.remove s).1) ∧ Disk W' U d (S.remove s).2 ∧ Out U W W' := by
  have hwf' := h.1.remove (s := s) hc
  have hcc' := DS.remove_calls (S := S) (s := s)
  obtain ⟨h0, m, c, L, h, hcc, hpl⟩ := h
  have hfe : tfind S.t s = (tfind L s).map (·.2) := by rw [← hpl]; exact tmap_find _ _ _
  have fin : ∀ {W' : World} {L' : DTb} {r : Int × DS}, S.remove s = r → DiskAt W' U d m c r.2.k L' → plain L' = r.2.t → Disk W' U d (S.remove s).2 := by
    intro W' L' r e h1 h3
    exact Disk.of hwf' (by rw [e]; exact h1) (by rw [hcc']; omega) (by rw [e]; exact h3)
  refine calls_vc Tryz.func69 rfl (by kernel_rfl) ?_
  ((conv => whnf); (repeat ((first | (refine VL.cons ?_) | (refine VL.nil ?_) | (refine VC.seqS rfl ?_) | (refine VC.region ?_)); (conv => whnf))))
  ((repeat ((first | (refine VL.cons ?_) | (refine VC.seqS rfl ?_) | (refine VC.region ?_) | (refine VC.seq ?_)); (conv => whnf))))
  refine VCall.of (dCall_at W U d m c S.k L h h0.k) ?_
  rintro e W1 ⟨rfl, h1, hg1⟩
  refine ⟨_, rfl, ?_⟩
  obtain ⟨e1, K1, hK⟩ : ∃ e1 K1, S.k.call = (e1, K1) := ⟨_, _, rfl⟩
  rw [hK] at h1 ⊢
  simp only at h1 ⊢
  have hO1 : Out U W W1 := Out.grown hg1 h.hd
  by_cases he : e1 = 0
  case neg =>
    have ea : S.remove s = (e1, ⟨K1, S.t⟩) := by unfold DS.remove; rw [hK]; exact if_pos he
    ((conv => whnf); (repeat ((first | (refine VL.cons ?_) | (refine VL.nil ?_) | (refine VC.seqS rfl ?_) | (refine VC.region ?_) | (refine VC.cond ?_)); (conv => whnf))))
    ((repeat ((first | (refine VL.cons ?_) | (refine VL.nil ?_) | (refine VC.seqS rfl ?_) | (refine VC.region ?_) | (refine VC.ret ?_) | (refine VBool.nF (by omega) ?_)); (conv => whnf))))
    exact ⟨retE ea, fin ea h1 hpl, hO1⟩
  subst he
  ((conv => whnf); (repeat ((first | (refine VL.cons ?_) | (refine VL.nil ?_) | (refine VC.seqS rfl ?_) | (refine VC.region ?_) | (refine VC.cond ?_)); (conv => whnf))))
  ((repeat ((first | (refine VL.cons ?_) | (refine VC.seqS rfl ?_) | (refine VC.region ?_) | (refine VC.skip ?_) | (refine VBool.f ?_)); (conv => whnf))))
  refine VCall.of (dFind_at W1 U d m c _ L s h1) ?_
  rintro e W2 ⟨rfl, hB2⟩
  refine ⟨_, rfl, ?_⟩
  have h2 := h1.below hB2 (Nat.le_refl _)
  have hO2 := hO1.trans (Out.new hB2)
  by_cases hn : nameOk s
  case neg =>
    rw [findR_bad hn]
    have ea : S.remove s = (1, ⟨K1, S.t⟩) := by unfold DS.remove; rw [hK, if_neg (by simp), if_pos hn]
    ((conv => whnf); (repeat ((first | (refine VL.cons ?_) | (refine VL.nil ?_)); (conv => whnf))))
    ((repeat ((first | (refine VL.cons ?_) | (refine VL.nil ?_) | (refine VC.seqS rfl ?_) | (refine VC.region ?_) | (refine VC.cond ?_) | (refine VC.ret ?_) | (refine VC.skip ?_) | (refine VBool.f ?_) | (refine VC.seq ?_)); (conv => whnf))))
    exact ⟨retE ea, fin ea h2 hpl, hO2⟩
  cases hf : tfind L s with
  | none =>
    rw [findR_none hn hf]
    have ea : S.remove s = (3, ⟨K1, S.t⟩) := by unfold DS.remove; rw [hK, if_neg (by simp), if_neg (not_not_intro hn), hfe, hf]; rfl
    ((conv => whnf); (repeat ((first | (refine VL.cons ?_) | (refine VL.nil ?_)); (conv => whnf))))
    ((repeat ((first | (refine VL.cons ?_) | (refine VL.nil ?_) | (refine VC.seqS rfl ?_) | (refine VC.region ?_) | (refine VC.cond ?_) | (refine VC.ret ?_) | (refine VC.skip ?_) | (refine VBool.f ?_) | (refine VC.seq ?_)); (conv => whnf))))
    exact ⟨retE ea, fin ea h2 hpl, hO2⟩
  | some p =>
    obtain ⟨g, f⟩ := p
    rw [findR_some hn hf]
    have ea : S.remove s = (0, ⟨K1, tdel S.t s⟩) := by unfold DS.remove; rw [hK, if_neg (by simp), if_neg (not_not_intro hn), hfe, hf]; rfl
    have hb2 := h2.blk
    ((conv => whnf); (repeat ((first | (refine VL.cons ?_) | (refine VL.nil ?_)); (conv => whnf))))
    (repeat (first | ((first | (refine VL.cons ?_) | (refine VL.nil ?_) | (refine VC.seqS rfl ?_) | (refine VC.region ?_) | (refine VC.cond ?_) | (refine VBool.t ?_) | (refine VRead.fld ?_) | (refine VC.seq ?_)); (conv => whnf)) | (refine VRead.loadB hb2 rfl rfl ?_; (conv => whnf))))
    refine VNext.del rfl (VSem.dDel h2.map h2.ris hf hs ?_)
    intro W3 hM3 hg3
    ((conv => whnf); (repeat ((first | (refine VL.cons ?_) | (refine VL.nil ?_) | (refine VC.seqS rfl ?_) | (refine VC.region ?_) | (refine VC.ret ?_)); (conv => whnf))))
    ((repeat ((fail); (conv => whnf))))
    exact ⟨retE ea, fin ea (h2.del hM3 hg3) (by show tmap _ (tdel L s) = _; rw [tmap_del]; show tdel (plain L) s = _; rw [hpl]), hO2.trans (Out.grown hg3 h2.hm)⟩
set_option maxHeartbeats 1000000 in
theorem dRename_any (W : World) (U : Foot) (d : Nat) (S : DS) (s t : List UInt8) (h : Disk W U d S) (hc : S.k.calls < 1000000) (hs : s.length ≤ 1000) (ht : t.length ≤ 1000) :
    Calls Tryz.prog 68 #[.pointer (some ⟨d, 0, none⟩), encStr s, encStr t] W fun e W' => e = .returned (.int .i64 (S.rename s t).1) ∧ Disk W' U d (S.rename s t).2 ∧ Out U W W' := by
  have hwf' := h.1.rename (s := s) (t := t) hc
  have hcc' := DS.rename_calls (S := S) (s := s) (t := t)
  obtain ⟨h0, m, c, L, h, hcc, hpl⟩ := h
  have hc0 := h0.k.calls
  have hfe : tfind S.t s = (tfind L s).map (·.2) := by rw [← hpl]; exact tmap_find _ _ _
  have fin : ∀ {W' : World} {c' : Nat} {L' : DTb} {r : Int × DS}, S.rename s t = r → DiskAt W' U d m c' r.2.k L' → c' ≤ c + 1 → plain L' = r.2.t → Disk W' U d (S.rename s t).2 := by
    intro W' c' L' r e h1 h2 h3
    exact Disk.of hwf' (by rw [e]; exact h1) (by rw [hcc']; omega) (by rw [e]; exact h3)
  refine calls_vc Tryz.func68 rfl (by kernel_rfl) ?_
  ((conv => whnf); (repeat ((first | (refine VL.cons ?_) | (refine VL.nil ?_) | (refine VC.seqS rfl ?_) | (refine VC.region ?_)); (conv => whnf))))
  ((repeat ((first | (refine VL.cons ?_) | (refine VC.seqS rfl ?_) | (refine VC.region ?_) | (refine VC.seq ?_)); (conv => whnf))))
  refine VCall.of (dCall_at W U d m c S.k L h h0.k) ?_
  rintro e W1 ⟨rfl, h1, hg1⟩
  refine ⟨_, rfl, ?_⟩
  obtain ⟨e1, K1, hK⟩ : ∃ e1 K1, S.k.call = (e1, K1) := ⟨_, _, rfl⟩
  rw [hK] at h1 ⊢
  simp only at h1 ⊢
  have hO1 : Out U W W1 := Out.grown hg1 h.hd
  by_cases he : e1 = 0
  case neg =>
    have ea : S.rename s t = (e1, ⟨K1, S.t⟩) := by unfold DS.rename; rw [hK]; exact if_pos he
    ((conv => whnf); (repeat ((first | (refine VL.cons ?_) | (refine VL.nil ?_) | (refine VC.seqS rfl ?_) | (refine VC.region ?_) | (refine VC.cond ?_)); (conv => whnf))))
    ((repeat ((first | (refine VL.cons ?_) | (refine VL.nil ?_) | (refine VC.seqS rfl ?_) | (refine VC.region ?_) | (refine VC.ret ?_) | (refine VBool.nF (by omega) ?_)); (conv => whnf))))
    exact ⟨retE ea, fin ea h1 (by omega) hpl, hO1⟩
  subst he
  ((conv => whnf); (repeat ((first | (refine VL.cons ?_) | (refine VL.nil ?_) | (refine VC.seqS rfl ?_) | (refine VC.region ?_) | (refine VC.cond ?_)); (conv => whnf))))
  ((repeat ((first | (refine VL.cons ?_) | (refine VC.seqS rfl ?_) | (refine VC.region ?_) | (refine VC.skip ?_) | (refine VBool.f ?_) | (refine VC.seq ?_)); (conv => whnf))))
  refine VSem.buildR (ps := [(0, encStr s), (1, encStr t)]) rfl rfl (by simp [encStr, Value.oneCell']) (by omega) ?_
  intro W2 hr2 hB2 hz2
  have h2 := h1.below hB2 (Nat.le_refl _)
  have hO2 := hO1.trans (Out.new hB2)
  ((conv => whnf); (repeat ((first | (refine VL.cons ?_)); (conv => whnf))))
  ((repeat ((fail); (conv => whnf))))
  refine VCall.of (dNamed_any W2 _ 2 2 _ [s, t] (Reads.of_own hr2) (by omega)) ?_
  rintro e W2' ⟨rfl, eW⟩
  obtain rfl := eW.symm
  refine ⟨_, rfl, ?_⟩
  by_cases hnn : nameOk s ∧ nameOk t
  case neg =>
    rw [decide_eq_false (show ¬ ∀ x ∈ [s, t], nameOk x by simpa using hnn)]
    have ea : S.rename s t = (1, ⟨K1, S.t⟩) := by unfold DS.rename; rw [hK, if_neg (by simp), if_pos hnn]
    ((conv => whnf); (repeat ((first | (refine VL.cons ?_) | (refine VL.nil ?_) | (refine VC.cond ?_)); (conv => whnf))))
    ((repeat ((first | (refine VL.cons ?_) | (refine VL.nil ?_) | (refine VC.seqS rfl ?_) | (refine VC.region ?_) | (refine VC.ret ?_) | (refine VBool.t ?_)); (conv => whnf))))
    exact ⟨retE ea, fin ea h2 (by omega) hpl, hO2⟩
  rw [decide_eq_true (show ∀ x ∈ [s, t], nameOk x by simpa using hnn)]
  ((conv => whnf); (repeat ((first | (refine VL.cons ?_) | (refine VL.nil ?_) | (refine VC.cond ?_)); (conv => whnf))))
  ((repeat ((first | (refine VL.cons ?_) | (refine VC.seqS rfl ?_) | (refine VC.region ?_) | (refine VC.skip ?_) | (refine VBool.f ?_)); (conv => whnf))))
  refine VCall.of (dFind_at W2 U d m c _ L s h2) ?_
  rintro e W3 ⟨rfl, hB3⟩
  refine ⟨_, rfl, ?_⟩
  have h3 := h2.below hB3 (Nat.le_refl _)
  have hO3 := hO2.trans (Out.new hB3)
  have hn := hnn.1
  cases hf : tfind L s with
  | none =>
    rw [findR_none hn hf]
    have ea : S.rename s t = (3, ⟨K1, S.t⟩) := by unfold DS.rename; rw [hK, if_neg (by simp), if_neg (not_not_intro hnn), hfe, hf]; rfl
    ((conv => whnf); (repeat ((first | (refine VL.cons ?_) | (refine VL.nil ?_)); (conv => whnf))))
    ((repeat ((first | (refine VL.cons ?_) | (refine VL.nil ?_) | (refine VC.seqS rfl ?_) | (refine VC.region ?_) | (refine VC.cond ?_) | (refine VC.ret ?_) | (refine VC.skip ?_) | (refine VBool.f ?_) | (refine VC.seq ?_)); (conv => whnf))))
    exact ⟨retE ea, fin ea h3 (by omega) hpl, hO3⟩
  | some p =>
    obtain ⟨g, f⟩ := p
    rw [findR_some hn hf]
    have ea : S.rename s t = (0, ⟨K1, tset (tdel S.t s) t f⟩) := by unfold DS.rename; rw [hK, if_neg (by simp), if_neg (not_not_intro hnn), hfe, hf]; rfl
    have hb3 := h3.blk
    have hmem := tfind_mem hf
    ((conv => whnf); (repeat ((first | (refine VL.cons ?_) | (refine VL.nil ?_)); (conv => whnf))))
    (repeat (first | ((first | (refine VL.cons ?_) | (refine VL.nil ?_) | (refine VC.seqS rfl ?_) | (refine VC.region ?_) | (refine VC.cond ?_) | (refine VBool.t ?_) | (refine VRead.fld ?_) | (refine VC.seq ?_)); (conv => whnf)) | (refine VRead.loadB hb3 rfl rfl ?_; (conv => whnf))))
    refine VNext.del rfl (VSem.dDel h3.map h3.ris hf hs ?_)
    intro W4 hM4 hg4
    have h4 := h3.del hM4 hg4
    have hb4 := h4.blk
    have hF4 := (h3.fl _ hmem).map h3.map hg4
    ((conv => whnf); (repeat ((first | (refine VL.cons ?_) | (refine VL.nil ?_) | (refine VC.region ?_)); (conv => whnf))))
    (repeat (first | ((first | (refine VL.cons ?_) | (refine VRead.fld ?_)); (conv => whnf)) | (refine VRead.loadB hb4 rfl rfl ?_; (conv => whnf))))
    refine VUnit.dSet (p := (g, f)) h4.map h4.ris (by omega) ht ?_
    intro W5 hM5 hg5
    have h5 := h4.set hM5 hg5 (hF4.map h4.map hg5) (fun p hp e => (mem_tdel (mem_tdel hp).1).2 (congrArg (·.1) (nd_inj h3.nd (mem_tdel (mem_tdel hp).1).1 hmem e)))
    ((conv => whnf); (repeat ((first | (refine VL.cons ?_) | (refine VL.nil ?_) | (refine VC.seqS rfl ?_) | (refine VC.region ?_) | (refine VC.ret ?_)); (conv => whnf))))
    ((repeat ((fail); (conv => whnf))))
    exact ⟨retE ea, fin ea h5 (Nat.le_refl _) (by show tmap _ (tset (tdel L s) t _) = _; rw [tmap_set, tmap_del]; show tset (tdel (plain L) s) t _ = _; rw [hpl]), (hO3.trans (Out.grown hg4 h3.hm)).trans (Out.grown hg5 h4.hm)⟩
end Go.Proofs.YtebeidnmplnlpaaGreat
end

section
namespace Go.Proofs.YtebeidnmplnlpaaGreat
set_option linter.unusedVariables false
open Go.RowKit

section
variable {P : Program} {ops : Array Oper} {Q : Exit → Act → World → Prop} {md : Region.Mode} {S : World → Prop} {c : Nat}
/-- what is listed has what it waits for listed -/
def Down (md : Region.Mode) (ops : Array Oper) (L : Array Bool) : Prop := ∀ j oj, ops[j]? = some oj → L.getD j false = true → ∀ e ∈ oj.after, Region.binds md e = true → L.getD e.on false = true
/-- every operation but the last is waited for by a later one -/
def feeds (md : Region.Mode) (ops : Array Oper) (c : Nat) : Bool := Nat.beq ops.size (c + 1) && (List.range c).all fun i => (List.range (c + 1)).any fun k => Nat.blt i k && match ops[k]? with
  | some o => o.after.any fun e => Region.binds md e && Nat.beq e.on i
  | none => false
theorem Down.set {L : Array Bool} {j : Nat} (h : Down md ops L) (hj : j ∈ Region.ready md ops L) : Down md ops (L.setIfInBounds j true) := by
  intro k ok hk hl e he hb
  obtain ⟨h0, o, ho, hall⟩ := mem_ready.1 hj
  by_cases hkj : k = j
  · subst hkj
    rw [ho] at hk
    obtain rfl := Option.some.inj hk
    exact getD_set_true (hall e he hb)
  · rw [getD_set_ne false (Ne.symm hkj)] at hl
    exact getD_set_true (h k ok hk hl e he hb)
theorem Down.start (n : Nat) : Down md ops (Array.replicate n false) := by
  intro j oj hj hl
  exfalso
  rcases Nat.lt_or_ge j n with h | h
  · simp [h] at hl
  · simp [Array.getElem?_eq_none (xs := Array.replicate n false) (by simpa using h)] at hl
theorem feeds_spec (hf : feeds md ops c = true) : ops.size = c + 1 ∧ ∀ i, i < c → ∃ k o e, i < k ∧ k ≤ c ∧ ops[k]? = some o ∧ e ∈ o.after ∧ Region.binds md e = true ∧ e.on = i := by
  unfold feeds at hf
  simp only [Bool.and_eq_true, List.all_eq_true, List.mem_range] at hf
  refine ⟨Nat.eq_of_beq_eq_true hf.1, fun i hi => ?_⟩
  have h1 := hf.2 i hi
  simp only [List.any_eq_true, List.mem_range, Bool.and_eq_true] at h1
  obtain ⟨k, hk, h2, h3⟩ := h1
  cases ho : ops[k]? with
  | none => rw [ho] at h3; cases h3
  | some o =>
    rw [ho] at h3
    obtain ⟨e, he, h4⟩ := Array.any_eq_true'.1 h3
    simp only [Bool.and_eq_true] at h4
    exact ⟨k, o, e, Nat.blt_eq ▸ h2, by omega, ho, he, h4.1, Nat.eq_of_beq_eq_true h4.2⟩
theorem ready_last {L : Array Bool} (hd : Down md ops L) (hf : feeds md ops c = true) (hc : c ∈ Region.ready md ops L) : ∀ (d i : Nat), c - i ≤ d → i < c → L.getD i false = true := by
  intro d
  induction d with
  | zero => intro i h1 h2; omega
  | succ d ih =>
    intro i h1 h2
    obtain ⟨k, o, e, hk, hkc, ho, he, hb, rfl⟩ := (feeds_spec hf).2 i h2
    by_cases hke : k = c
    · subst hke
      obtain ⟨_, o', ho', hall⟩ := mem_ready.1 hc
      rw [ho] at ho'
      obtain rfl := Option.some.inj ho'
      exact hall e he hb
    · exact hd k o ho (ih k (by omega) (by omega)) e he hb
/-- whatever order: S holds till the last operation -/
def wpAnyC (P : Program) (md : Region.Mode) (ops : Array Oper) (Q : Exit → Act → World → Prop) (S : World → Prop) (c : Nat) : Nat → Array Bool → Act → World → Prop
  | 0, listed, a, w => Region.ready md ops listed = [] ∧ Q .normal a w
  | fuel + 1, listed, a, w =>
    (Region.ready md ops listed = [] → Q .normal a w) ∧
    ∀ i ∈ Region.ready md ops listed, wpOp P ops Q i (fun a' w' => (i ≠ c → S w') ∧ wpAnyC P md ops Q S c fuel (listed.setIfInBounds i true) a' w') a w
theorem wpAny_ofC : ∀ (fuel : Nat) (listed : Array Bool) (a : Act) (w : World), wpAnyC P md ops Q S c fuel listed a w → wpAny P md ops Q fuel listed a w
  | 0, _, _, _, h => h
  | fuel + 1, _, _, _, h => ⟨h.1, fun i hi => wpOp_mono (fun a' w' h' => wpAny_ofC fuel _ a' w' h'.2) (h.2 i hi)⟩
theorem wpAnyC_first {i : Nat} {oi : Oper} {v : Value} (hi : ops[i]? = some oi) (hic : i < c) (hf : feeds md ops c = true) (hsel : ∀ (j : Nat) (o : Oper) cs b, ops[j]? = some o → o.op ≠ .select cs b)
    (hQ : ∀ x a w, Q (.panic x) (a.put oi.dst v) w → Q (.panic x) a w) :
    ∀ (fuel : Nat) (listed : Array Bool) (a : Act) (w : World), Down md ops listed →
      (∀ j oj, ops[j]? = some oj → j ≠ i → listed.getD j true = false → (∀ e ∈ oj.after, Region.binds md e = true → e.on ≠ i) → oi.apart ops oj = true) →
      i ∈ Region.ready md ops listed → YieldsIf P ops S oi v a → S w →
      wpAnyC P md ops Q S c fuel (listed.setIfInBounds i true) (a.put oi.dst v) w → wpAnyC P md ops Q S c (fuel + 1) listed a w := by
  intro fuel
  induction fuel with
  | zero =>
    intro listed a w _ _ hr hy hS H
    refine ⟨fun h => (by rw [h] at hr; cases hr), fun j hj => ?_⟩
    by_cases hji : j = i
    · subst hji; exact hy.wpOp hi hS ⟨fun _ => hS, H⟩
    · have := ready_mono hj hji
      rw [H.1] at this
      cases this
  | succ fuel ih =>
    intro listed a w hD hfree hr hy hS H
    refine ⟨fun h => (by rw [h] at hr; cases hr), fun j hj => ?_⟩
    by_cases hji : j = i
    · subst hji; exact hy.wpOp hi hS ⟨fun _ => hS, H⟩
    · have h0 := (mem_ready.1 hr).1
      have hun : listed.getD i false = true → False := fun h1 => by
        rcases Nat.lt_or_ge i listed.size with h' | h'
        · simp [h'] at h0 h1; rw [h0] at h1; cases h1
        · simp [Array.getElem?_eq_none h'] at h1
      have hjc : j ≠ c := fun e => by
        subst e
        exact hun (ready_last hD hf hj (j - i) i (Nat.le_refl _) hic)
      have h1 := H.2 j (ready_mono hj hji)
      obtain ⟨hjun, oj, hoj, hall⟩ := mem_ready.1 hj
      have hnot : ∀ e ∈ oj.after, Region.binds md e = true → e.on ≠ i := fun e he hb heq => hun (by rw [← heq]; exact hall e he hb)
      have h2 := wpOp_putIf hoj (hfree j oj hoj hji hjun hnot) (fun cs b => hsel i oi cs b hi) (fun cs b => hsel j oj cs b hoj) hQ hy h1
      have hfree' : ∀ k ok, ops[k]? = some ok → k ≠ i → (listed.setIfInBounds j true).getD k true = false →
          (∀ e ∈ ok.after, Region.binds md e = true → e.on ≠ i) → oi.apart ops ok = true := fun k ok hk hki hkun hno => by
        refine hfree k ok hk hki ?_ hno
        by_cases hjk : j = k
        · subst hjk; exact hjun
        · rw [getD_set_ne true hjk] at hkun; exact hkun
      refine wpOp_mono (fun a' w' h3 => ⟨h3.2.1, ih (listed.setIfInBounds j true) a' w' (hD.set hj) hfree' (ready_mono hr (Ne.symm hji)) h3.1 (h3.2.1 hjc) ?_⟩) h2
      rw [Array.setIfInBounds_comm _ _ hji]
      exact h3.2.2
end
theorem quiet_takeC {P : Program} {n : Nat} {ds : List Deferred} {ops : List Oper} {md : Region.Mode} {Q : Exit → Act → World → Prop} {S : World → Prop} {D : List Nat} {σ0 : Env} {c : Nat} (hf : feeds md ops.toArray c = true) (hdst : ∀ o ∈ ops, ∀ t, o.dst = some t → t < n ∧ t ∈ D) (hs : Region.noSelect ops.toArray = true)
    (hQ : ∀ x a a' w, Q (.panic x) a w → Q (.panic x) a' w) {w : World} (hS : S w) {K : Env → Prop} {L' : Array Bool} {fuel : Nat} (hR : ∀ a σ, Agr n ds a σ → Fr D σ σ0 → K σ → wpAnyC P md ops.toArray Q S c fuel L' a w) :
    ∀ (l : List Nat) (L : Array Bool) (a : Act) (σ : Env), Down md ops.toArray L → (l.all fun i => Nat.blt i c) = true → takeC md ops.toArray l L = some L' → Agr n ds a σ → Fr D σ σ0 → vquiet P S ops K (picks ops l) σ → wpAnyC P md ops.toArray Q S c (fuel + l.length) L a w
  | [], L, a, σ, hD, hl, hB, hA, hF, h => by
    simp only [takeC, Option.some.injEq] at hB
    subst hB
    exact hR a σ hA hF h
  | i :: r, L, a, σ, hD, hl, hB, hA, hF, h => by
    unfold takeC at hB
    simp only [List.all_cons, Bool.and_eq_true] at hl
    split at hB
    · rename_i hc
      simp only [Bool.and_eq_true] at hc
      obtain ⟨⟨h1, h2⟩, h3⟩ := hc
      cases ho : ops[i]? with
      | none => simp [ho] at h3
      | some o =>
        unfold picks at h
        rw [nthOp_eq, ho] at h
        simp only [vquiet] at h
        have hm : o ∈ ops := List.mem_of_getElem? ho
        rw [show fuel + (i :: r).length = (fuel + r.length) + 1 from by simp; omega]
        have ho' : ops.toArray[i]? = some o := by simpa using ho
        have hic : i < c := Nat.blt_eq ▸ hl.1
        have hr : i ∈ Region.ready md ops.toArray L := by simpa using h2
        rcases vguard_sound hA h with ⟨k1, k2⟩ | ⟨k1, k2⟩
        · obtain ⟨v, v1, v2⟩ := vread_sound k2
          refine wpAnyC_first ho' hic hf (Region.noSelect_spec hs) (fun x a w => hQ x _ _ w) _ L a w hD (Region.free_spec ho' h1) hr (.inl ⟨k1, fun W hW => ?_⟩) hS (quiet_takeC hf hdst hs hQ hS hR r _ _ _ (hD.set hr) hl.2 hB (hA.put (fun t ht => (hdst o hm t ht).1) v) (hF.put (fun t ht => (hdst o hm t ht).2) v) v2)
          rw [hA.eval]
          exact v1 W hW
        · exact wpAnyC_first ho' hic hf (Region.noSelect_spec hs) (fun x a w => hQ x _ _ w) _ L a w hD (Region.free_spec ho' h1) hr (.inr ⟨k1, rfl⟩) hS (quiet_takeC hf hdst hs hQ hS hR r _ _ _ (hD.set hr) hl.2 hB (hA.put (fun t ht => (hdst o hm t ht).1) undef) (hF.put (fun t ht => (hdst o hm t ht).2) undef) k2)
    · cases hB
/-- all but the last are read, in one world; then the last one -/
def lastB (n : Nat) (ops : List Oper) (l : List Nat) (c : Nat) : Bool :=
  Region.noSelect ops.toArray && feeds .any ops.toArray c && (l.all fun i => Nat.blt i c) && segC .any ops.toArray [(l, c)] [] (Array.replicate ops.length false) && Nat.beq (l.length + 1) ops.length && ops.all fun o => match o.dst with | some d => Nat.blt d n | none => true
theorem VDraw.last {P : Program} {n : Nat} {ops : List Oper} {Q : Post} {σ : Env} {w : World} (l : List Nat) (c : Nat) (hm : P.follows .mixedOrders = true) (hB : lastB n ops l c = true)
    (h : VQ P (Eq (w.drewN 1)) ops (fun σ' => vone P (fun _ => True) ops (fun σ2 w2 => Q .normal σ2 w2) (nthOp ops c) σ' (w.drewN 1)) (picks ops l) σ) : VDraw P n ops Q σ w := by
  replace h := h.out
  unfold lastB at hB
  simp only [Bool.and_eq_true] at hB
  obtain ⟨⟨⟨⟨⟨h1, h2⟩, h3⟩, h4⟩, h5⟩, h6⟩ := hB
  have hlen := Nat.eq_of_beq_eq_true h5
  have hdst : ∀ o ∈ ops, ∀ t, o.dst = some t → t < n ∧ t ∈ dsts ops := fun o ho t ht => ⟨by
    have := List.all_eq_true.1 h6 o ho
    rw [ht] at this
    exact Nat.blt_eq ▸ this, mem_dsts ho ht⟩
  simp only [VDraw_eq]
  intro ds a id hA
  refine wp_region_any hm (wpAny_ofC (S := Eq (w.drewN 1)) (c := c) _ _ _ _ ?_)
  rw [show ops.toArray.size = ops.length from by simp]
  unfold segC at h4
  cases hT : takeC .any ops.toArray l (Array.replicate ops.length false) with
  | none => rw [hT] at h4; cases h4
  | some L' =>
    rw [hT] at h4
    simp only [Bool.and_eq_true, beq_iff_eq] at h4
    obtain ⟨⟨k1, k2⟩, k3⟩ := h4
    have := quiet_takeC (md := .any) (Q := Lift n ds Q (dsts ops) σ) (S := Eq (w.drewN 1)) (w := w.drewN 1) (fuel := 1) (σ0 := σ) h2 hdst h1 (fun c a a' w h => h) rfl (fun a σ' hA hF ha => ?_) l _ a σ (Down.start _) h3 hT hA (Fr.refl _ _) h
    · rw [show 1 + l.length = ops.toArray.size from by simp; omega] at this
      rw [show ops.toArray.size = ops.length from by simp] at this
      exact this
    · refine ⟨fun h0 => absurd (k1 ▸ h0) (by simp), fun i hi => ?_⟩
      rw [k1] at hi
      simp only [List.mem_singleton] at hi
      subst hi
      rw [nthOp_eq] at ha
      cases ho : ops[i]? with
      | none => rw [ho] at ha; exact ha.elim
      | some o =>
        rw [ho] at ha
        simp only [vone] at ha
        have hmo : o ∈ ops := List.mem_of_getElem? ho
        have k4 : Region.ready .any ops.toArray (L'.setIfInBounds i true) = [] := by
          unfold segC takeC at k3
          simpa [List.isEmpty_iff] using k3
        unfold wpOp
        rw [show ops.toArray[i]? = some o from by simpa using ho]
        simp only
        rcases vguard_sound hA ha with ⟨j1, j2⟩ | ⟨j1, j2⟩
        · rw [if_pos j1]
          exact .inl (vop_sound hA j2 fun v w' hk => ⟨fun h => absurd rfl h, k4, ⟨_, hA.put (fun t ht => (hdst o hmo t ht).1) v, hF.put (fun t ht => (hdst o hmo t ht).2) v, hk.rest⟩⟩)
        · rw [if_neg (by rw [j1]; simp)]
          exact ⟨fun h => absurd rfl h, k4, ⟨_, hA.put (fun t ht => (hdst o hmo t ht).1) undef, hF.put (fun t ht => (hdst o hmo t ht).2) undef, j2⟩⟩
end Go.Proofs.YtebeidnmplnlpaaGreat
end

section
set_option maxRecDepth 10000
namespace Go.Proofs.YtebeidnmplnlpaaGreat
set_option linter.unusedVariables false
open Go.RowKit
open Go.Maps (Keyed)
open Go.ChangeMaps Go.WideElems

/-- what lies off the footprint -/
def Off (U : Foot) (A : Option Addr) (n : Nat) : Prop := 0 < n → ∃ ad, A = some ad ∧ ¬ U ad.block
theorem Reads.out {W W' : World} {U : Foot} {B s n : Nat} {A : Option Addr} {l : List Value} (h : Reads W B s A n l) (hB : B ≤ W.heap.size) (hp : Off U A n) (ho : Out U W W') : Reads W' B s A n l := by
  refine ⟨h.1, fun hm => ?_⟩
  obtain ⟨ad, rfl, h3, h4⟩ := h.2 hm
  obtain ⟨ad', e, hu⟩ := hp hm
  obtain rfl := Option.some.inj e
  refine ⟨_, rfl, h3, fun j u hj => ?_⟩
  rw [← h4 j u hj]
  exact World.cell?_of_block (by rw [add_block]; exact ho.block _ (Nat.lt_of_lt_of_le h3 hB) hu)
theorem Off.mono {U V : Foot} {A : Option Addr} {n : Nat} (h : Off U A n) (hV : ∀ j, V j → U j) : Off V A n := fun h0 => by
  obtain ⟨ad, e, h1⟩ := h h0
  exact ⟨ad, e, fun hv => h1 (hV _ hv)⟩
theorem Off.row {W : World} {U : Foot} {B e s n c : Nat} {A : Option Addr} {xs : List Value} (h : W.ownsRow B e s (.slice A n c) n xs) (hU : ∀ j, B ≤ j → ¬ U j) : Off U A n := fun h0 => by
  rcases h.2 with ⟨_, h1⟩ | ⟨g, cap, cur, e, hg, _⟩
  · omega
  · injection e with e1 e2 e3
    exact ⟨_, e1, hU _ hg⟩


def keepAt (ps : List Int) (i : Nat) : Int := if ps.length = 0 then 0 else ps.getD (i % ps.length) 0
def keepN (ps : List Int) (i : Nat) (f : Fl) : Nat := f.sure + (max 0 (min (keepAt ps i) ((f.b.length : Int) - f.sure))).toNat
def crashF (ps : List Int) (i : Nat) (f : Fl) : Fl := ⟨f.b.take (keepN ps i f), keepN ps i f⟩
def crashT (ps : List Int) : Nat → PT → PT
  | _, [] => []
  | i, p :: r => (p.1, crashF ps i p.2) :: crashT ps (i + 1) r
def Dk.crash (K : Dk) : Dk := { K with armed := false, off := false }
def DS.crash (S : DS) (ps : List Int) : DS := ⟨S.k.crash, crashT ps 0 S.t⟩
theorem crashT_keys (ps : List Int) : ∀ (i : Nat) (T : PT), (crashT ps i T).map (·.1) = T.map (·.1)
  | _, [] => rfl
  | i, p :: r => by
    show _ :: (crashT ps (i + 1) r).map (·.1) = _ :: r.map (·.1)
    rw [crashT_keys ps (i + 1) r]
theorem crashT_length (ps : List Int) (i : Nat) (T : PT) : (crashT ps i T).length = T.length := by
  have := congrArg List.length (crashT_keys ps i T)
  simpa using this
theorem keepN_le {ps : List Int} {i : Nat} {f : Fl} (h : f.sure ≤ f.b.length) : keepN ps i f ≤ f.b.length ∧ f.sure ≤ keepN ps i f := by
  unfold keepN; omega
theorem crashT_used (ps : List Int) : ∀ (i : Nat) (T : PT), used (crashT ps i T) ≤ used T
  | _, [] => Nat.le_refl _
  | i, p :: r => by
    have := crashT_used ps (i + 1) r
    show (crashF ps i p.2).b.length + used (crashT ps (i + 1) r) ≤ p.2.b.length + used r
    have : (crashF ps i p.2).b.length ≤ p.2.b.length := by unfold crashF; rw [List.length_take]; omega
    omega
theorem crashT_mem (ps : List Int) : ∀ {i : Nat} {T : PT} {p : List UInt8 × Fl}, p ∈ crashT ps i T → ∃ q ∈ T, ∃ j, p = (q.1, crashF ps j q.2)
  | i, q :: r, p, h => by
    rcases List.mem_cons.1 h with rfl | h
    · exact ⟨q, by simp, i, rfl⟩
    · obtain ⟨q', hq, j, e⟩ := crashT_mem ps h
      exact ⟨q', by simp [hq], j, e⟩
theorem DWf.crash {S : DS} (h : DWf S) (ps : List Int) : DWf (S.crash ps) := by
  refine ⟨⟨h.k.room, h.k.calls, h.k.after⟩, ?_, ?_, ?_, ?_, ?_⟩
  · have := crashT_used ps 0 S.t
    have := h.t.fit
    show (used (crashT ps 0 S.t) : Int) ≤ S.k.room
    omega
  · show (crashT ps 0 S.t).length ≤ 64
    rw [crashT_length]; exact h.t.few
  · intro p hp
    obtain ⟨q, hq, j, rfl⟩ := crashT_mem ps hp
    exact h.t.names q hq
  · show ((crashT ps 0 S.t).map (·.1)).Pairwise (· < ·)
    rw [crashT_keys]; exact h.t.ris
  · intro p hp
    obtain ⟨q, hq, j, rfl⟩ := crashT_mem ps hp
    have := keepN_le (ps := ps) (i := j) (h.t.sure q hq)
    unfold crashF
    simp only [List.length_take]
    omega
end Go.Proofs.YtebeidnmplnlpaaGreat
end

section
set_option maxRecDepth 10000
namespace Go.Proofs.YtebeidnmplnlpaaGreat
set_option linter.unusedVariables false
open Go.RowKit
open Go.Maps (Keyed)
open Go.ChangeMaps Go.WideElems

theorem place_any (v n : Int) (w : World) (hv : -9223372036854775808 ≤ v ∧ v ≤ 9223372036854775807) (h0 : 1 ≤ n) (hn : n ≤ 4611686018427387904) :
    Calls Tryz.prog 8 #[.int .i64 v, .int .i64 n] w fun e w' => e = .returned (.int .i64 (v % n)) ∧ w' = w := by
  have t1 : -n < v.tmod n := Int.lt_tmod_of_pos v (by omega)
  have t2 : v.tmod n < n := Int.tmod_lt_of_pos v (by omega)
  have t3 : v.tmod n < 0 → v % n = v.tmod n + n := fun h => by
    rw [Int.tmod_eq_emod] at h ⊢
    split at h <;> rename_i hc
    · have := Int.emod_nonneg v (show n ≠ 0 by omega); omega
    · rw [if_neg hc]; omega
  have t4 : 0 ≤ v.tmod n → v % n = v.tmod n := fun h => by
    have hn' := Int.emod_lt_of_pos v (show 0 < n by omega)
    rw [Int.tmod_eq_emod] at h ⊢
    split at h <;> rename_i hc
    · rw [if_pos hc]; omega
    · omega
  refine calls_vc Tryz.func8 rfl (by kernel_rfl) ?_
  ((conv => whnf); (repeat ((first | (refine VL.cons ?_) | (refine VL.nil ?_) | (refine VC.seqS rfl ?_) | (refine VC.region ?_)); (conv => whnf))))
  refine VRead.remT (by omega) ?_
  generalize v.tmod n = r at *
  by_cases hr : r < 0
  · have e := t3 hr
    clear t3 t4
    ((conv => whnf); (repeat ((first | (refine VL.cons ?_) | (refine VL.nil ?_)); (conv => whnf))))
    ((repeat ((first | (refine VL.cons ?_) | (refine VL.nil ?_) | (refine VC.seqS rfl ?_) | (refine VC.region ?_) | (refine VC.cond ?_) | (refine VC.ret ?_) | (refine VBool.dT (by omega) ?_) | (refine VWrap.i64 (by omega) (by omega) ?_) | (refine VC.seq ?_)); (conv => whnf))))
    exact ⟨by rw [e]; rfl, rfl⟩
  · have e := t4 (by omega)
    clear t3 t4
    ((conv => whnf); (repeat ((first | (refine VL.cons ?_) | (refine VL.nil ?_)); (conv => whnf))))
    ((repeat ((first | (refine VL.cons ?_) | (refine VL.nil ?_) | (refine VC.seqS rfl ?_) | (refine VC.region ?_) | (refine VC.cond ?_) | (refine VC.ret ?_) | (refine VC.skip ?_) | (refine VBool.dF (by omega) ?_) | (refine VC.seq ?_)); (conv => whnf))))
    exact ⟨by rw [e]; rfl, rfl⟩
theorem bytes_any (A : Option Addr) (n c B : Nat) (l : List UInt8) (W : World) (hn : n ≤ 140737488355328) (hrd : Reads W B 1 A n (bv l)) :
    Calls Tryz.prog 12 #[.slice A n c] W fun e W' => ∃ A' c', e = .returned (.slice A' n c') ∧ Own W' W.heap.size (.slice A' n c') n l ∧ Below W.heap.size W W' := by
  refine calls_vc Tryz.func12 rfl (by kernel_rfl) ?_
  ((conv => whnf); (repeat ((first | (refine VL.cons ?_) | (refine VL.nil ?_) | (refine VC.seqS rfl ?_) | (refine VC.region ?_)); (conv => whnf))))
  ((repeat ((fail); (conv => whnf))))
  refine VSem.appO (Own.nil W W.heap.size) hrd (by omega) (Nat.le_refl _) ?_
  intro A' k' W1 hO1 _ hB1
  rw [Nat.zero_add, List.nil_append] at hO1
  rw [Nat.zero_add]
  ((conv => whnf); (repeat ((first | (refine VL.cons ?_) | (refine VL.nil ?_) | (refine VC.ret ?_)); (conv => whnf))))
  ((repeat ((fail); (conv => whnf))))
  exact ⟨A', k', rfl, hO1, hB1⟩
/-! ### names by numbers -/
def nms : List (List UInt8) := [[97], [98], [119, 97, 108, 45, 48, 48, 48, 48, 48, 48, 48, 49], [119, 97, 108, 45, 116, 109, 112], [115, 110, 97, 112, 45, 116, 109, 112], [], [48, 49, 50, 51, 52, 53, 54, 55, 56, 57, 48, 49, 50, 51, 52, 53, 54, 55, 56, 57, 48, 49, 50, 51, 52, 53, 54, 55, 56, 57, 48, 49, 120], [99]]
def nm17 (n : Int) : List UInt8 := nms.getD (n % 8).toNat []
/-! ### the document's example -/
end Go.Proofs.YtebeidnmplnlpaaGreat
end

section
set_option maxRecDepth 10000
namespace Go.Proofs.YtebeidnmplnlpaaGreat
set_option linter.unusedVariables false
open Go.RowKit

def k0 (room calls : Int) : Dk := ⟨room, calls, false, 0, 0, false⟩
section
variable {r c : Int} {T : PT} {s t l : List UInt8} {f : Fl}
theorem k0_call : (k0 r c).call = (0, k0 r (c + 1)) := rfl
theorem k0_create (hs : nameOk s) (hf : ¬ (tfind T s = none ∧ 64 ≤ T.length)) : DS.create ⟨k0 r c, T⟩ s = (0, ⟨k0 r (c + 1), tset T s ⟨[], 0⟩⟩) := by
  unfold DS.create
  rw [k0_call, if_neg (by simp), if_neg (not_not_intro hs), if_neg hf]
theorem k0_append (hs : nameOk s) (hf : tfind T s = some f) (hr : (used T : Int) + l.length ≤ r) : DS.append ⟨k0 r c, T⟩ s l = (0, ⟨k0 r (c + 1), tset T s ⟨f.b ++ l, f.sure⟩⟩) := by
  unfold DS.append
  rw [k0_call, if_neg (by simp), if_neg (not_not_intro hs)]
  simp only
  rw [hf]
  unfold DS.put
  exact if_neg (Int.not_lt.2 hr)
theorem k0_sync (hs : nameOk s) (hf : tfind T s = some f) : DS.sync ⟨k0 r c, T⟩ s = (0, ⟨k0 r (c + 1), tset T s ⟨f.b, f.b.length⟩⟩) := by
  unfold DS.sync
  rw [k0_call, if_neg (by simp), if_neg (not_not_intro hs)]
  simp only
  rw [hf]
theorem k0_rename (hs : nameOk s) (ht : nameOk t) (hf : tfind T s = some f) : DS.rename ⟨k0 r c, T⟩ s t = (0, ⟨k0 r (c + 1), tset (tdel T s) t f⟩) := by
  unfold DS.rename
  rw [k0_call, if_neg (by simp), if_neg (not_not_intro ⟨hs, ht⟩)]
  simp only
  rw [hf]
end
theorem new_k0 {room : Int} (h : 0 ≤ room) (h2 : room ≤ 16777216) : DS.new room = ⟨k0 room 0, []⟩ := by
  unfold DS.new Dk.new k0
  rw [show max 0 (min room 16777216) = room by omega]
end Go.Proofs.YtebeidnmplnlpaaGreat
end
