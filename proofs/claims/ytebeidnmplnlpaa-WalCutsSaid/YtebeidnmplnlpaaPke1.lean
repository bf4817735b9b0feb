/- Texts joined: VRow, VG, VX, Num, Lies, SnapA, VM, VSort, Tab, Tabs, DiskA, Shelf, DiskB, DiskC. No condition. -/
import Derived.Test.YtebeidnmplnlpaaPke0
import Derived.Lib.ConvBytes
import Derived.Lib.UnsafeStr
import Derived.Lib.Strings
import Derived.Deep.OwnRows
import Derived.Laws.OwnMore
import Derived.Maps.RangeWalk
import Derived.Maps.Views
import Derived.Shelf.Sort.Plain
import Derived.Shelf.Slices.In.SortNone
import Derived.Sort.OwnSortedInts
import Derived.Sort.OwnSorted
import Derived.Test.YtebeidnmplnlpaaProg
section
set_option maxRecDepth 10000
namespace Go.Proofs.Ytebeidnmplnlpaa
set_option linter.unusedVariables false
open Go.RowKit

/-- append to a row of the call's own, of whatever elements -/
theorem VSem.appR {P : Program} {w : World} {t ty e : TypeId} {size bytes base : Nat} {i : TypeInfo} {z : Value} (ht : P.underlying t = some (.slice e)) (hi : P.info? e = some i) (hz : i.zero = some z) (hsize : i.size = size) (hby : i.bytes = bytes) (hzs : z.cells.size = size) (hsz : 0 < size)
    {v : Value} {n : Nat} {xs : List Value} (hown : w.ownsRow base e size v n xs) {B : Nat} {A : Option Addr} {m c : Nat} {news : List Value} (hr : Reads w B size A m news) (h1 : ∀ u ∈ news, u.oneCell' = true) (h63 : n + m ≤ maxLen) (hbytes : (n + m) * bytes ≤ 140737488355328) (hbase : base ≤ w.heap.size)
    {K : Value → World → Prop} (h : ∀ A' c' w', w'.ownsRow base e size (.slice A' (n + m) c') (n + m) (xs ++ news) → w.grownBy w' v.ownBlock → ((Value.slice A' (n + m) c').ownBlock = v.ownBlock ∨ (Value.slice A' (n + m) c').ownBlock = some w.heap.size) → K (.slice A' (n + m) c') w') :
    VSem P (Builtin.append_ #[t, t] ty [v, .slice A m c].toArray) w K := by
  obtain ⟨v', w', hrun, h2, h3, h4⟩ := run_append_any (P := P) w base t ty e i z size bytes ht hi hz hsize hby hzs hsz v n xs hown B A m c news hr h1 h63 hbytes hbase
  have hf : ∃ A' c', v' = .slice A' (n + m) c' := by
    rcases h2.2 with ⟨rfl, e0⟩ | ⟨g, cap, cur, e1, _⟩
    · exact ⟨none, 0, by rw [e0]⟩
    · exact ⟨_, _, e1⟩
  obtain ⟨A', c', rfl⟩ := hf
  exact .of hrun (h A' c' w' h2 h3 h4)
theorem rows_below {w w' : World} {B C e size n : Nat} {v : Value} {xs : List Value} (h : w.ownsRow B e size v n xs) (hb : Below C w w') (hC : w.heap.size ≤ C) : w'.ownsRow B e size v n xs := by
  refine ⟨h.1, ?_⟩
  rcases h.2 with h0 | ⟨g, cap, cur, hv, hbg, hg, r⟩
  · exact .inl h0
  · exact .inr ⟨g, cap, cur, hv, hbg, by rw [hb.block g (by have := (Array.getElem?_eq_some_iff.1 hg).1; omega)]; exact hg, r⟩
theorem rows_apart {w w' : World} {B e size n : Nat} {v : Value} {xs : List Value} {row : Option Nat} (h : w.ownsRow B e size v n xs) (hg : w.grownBy w' row) (hne : ∀ g, row = some g → v.ownBlock ≠ some g) : w'.ownsRow B e size v n xs := by
  refine ⟨h.1, ?_⟩
  rcases h.2 with h0 | ⟨k, cap, cur, hv, hbg, hk, r⟩
  · exact .inl h0
  · refine .inr ⟨k, cap, cur, hv, hbg, ?_, r⟩
    rw [hg.block k (Array.getElem?_eq_some_iff.1 hk).1 (fun e => hne k e.symm (by rw [hv]; rfl))]
    exact hk
/-- the bytes of a string -/
theorem VSem.convB {P : Program} {w : World} {s d e : TypeId} {k : Nat} {x : ByteArray} {K : Value → World → Prop} [a : TStr P s] [b : TSlice P d e k] [i : TInt P e .u8]
    (h : ∀ A c w', Reads w' w'.heap.size 1 A x.size (bv x.data.toList) → x.size ≤ c → Below w.heap.size w w' → K (.slice A x.size c) w') : VSem P (convert s d (.string x)) w K := by
  refine VSem.of (Lib.run_convert_string_bytes w s d e x a.u b.u i.u) (h _ _ _ ?_ (grownCap_ge _ _ _ _) ?_)
  · refine ⟨by rw [bv_length]; simp, fun _ => ⟨_, rfl, by rw [Lib.bytesWorld_size]; show w.heap.size < _; omega, fun j u hu => ?_⟩⟩
    have hj : j < x.size := by
      have := (List.getElem?_eq_some_iff.1 hu).1
      rw [bv_length] at this; simpa using this
    rw [show (⟨w.heap.size, 0, none⟩ : Addr).add j = ⟨w.heap.size, j, none⟩ from by unfold Addr.add; split <;> simp_all, Lib.bytesWorld_cell w e x j hj]
    rw [← hu]
    unfold bv
    rw [List.getElem?_map, List.getD_eq_getElem?_getD, List.getElem?_eq_getElem (by simpa using hj)]
    rfl
  · exact Lib.below_freeze (((Below.refl _ w).drew).alloc (Nat.le_refl _) _) (Nat.le_refl _) _
theorem rows_more {w : World} {B B' e size n : Nat} {v : Value} {xs : List Value} (h : w.ownsRow B e size v n xs) (hB : B' ≤ B) : w.ownsRow B' e size v n xs :=
  ⟨h.1, h.2.elim .inl fun ⟨g, cap, cur, hv, hg, r⟩ => .inr ⟨g, cap, cur, hv, Nat.le_trans hB hg, r⟩⟩
theorem Reads.row {w : World} {B e s n c : Nat} {A : Option Addr} {xs : List Value} (h : w.ownsRow B e s (.slice A n c) n xs) : Reads w w.heap.size s A n xs := Reads.of_own h
/-- a slice of one cell -/
theorem VSem.one {P : Program} {w : World} {t e : TypeId} {v : Value} {K : Value → World → Prop} [i : TSlice P t e 1] [c : TCell P e] (h1 : v.oneCell' = true)
    (h : ∀ w', Reads w' w'.heap.size 1 (some ⟨w.heap.size, 0, none⟩) 1 [v] → Below w.heap.size w w' → w'.heap.size = w.heap.size + 1 → K (.slice (some ⟨w.heap.size, 0, none⟩) 1 1) w') :
    VSem P (Instr.buildSlice t 1 [(0, v)].toArray) w K := by
  refine VSem.buildS (P := P) (t := t) (e := e) (n := 1) (ps := [(0, v)]) rfl rfl (by simpa using h1) (by omega) ?_
  have hnew := Blk.new w e #[v]
  have hsz : (w.alloc (.cells #[v] e)).heap.size = w.heap.size + 1 := by simp
  rw [show (List.map (fun x => x.2) [(0, v)]).toArray = #[v] from rfl]
  refine h _ ⟨rfl, fun _ => ⟨_, rfl, by show w.heap.size < _; rw [hsz]; omega, fun j u hu => ?_⟩⟩ ((Below.refl w.heap.size w).alloc (Nat.le_refl _) (.cells #[v] e)) hsz
  rw [show (⟨w.heap.size, 0, none⟩ : Addr).add j = ⟨w.heap.size, j, none⟩ from by unfold Addr.add; split <;> simp_all, hnew.cell j]
  simpa using hu
/-- one cell more -/
theorem VSem.push {P : Program} {w : World} {t ty e : TypeId} {z u : Value} {bytes base n B c : Nat} {v : Value} {xs : List Value} {A : Option Addr} {K : Value → World → Prop} [i : TSlice P t e 1]
    (hinf : (P.info? e).map (fun i => (i.zero, i.size, i.bytes)) = some (some z, 1, bytes)) (hz : z.cells.size = 1) (hown : w.ownsRow base e 1 v n xs) (hr : Reads w B 1 A 1 [u]) (h1 : u.oneCell' = true)
    (hn : n ≤ 16777216) (hby : bytes ≤ 1024) (hbase : base ≤ w.heap.size)
    (h : ∀ A' c' w', w'.ownsRow base e 1 (.slice A' (n + 1) c') (n + 1) (xs ++ [u]) → w.grownBy w' v.ownBlock → K (.slice A' (n + 1) c') w') : VSem P (Builtin.append_ #[t, t] ty [v, .slice A 1 c].toArray) w K := by
  obtain ⟨i0, hi0, hz0, hz1, hz2⟩ := info_parts hinf
  have hb2 : (n + 1) * bytes ≤ (n + 1) * 1024 := Nat.mul_le_mul_left _ hby
  exact VSem.appR i.u hi0 hz0 hz1 hz2 hz (by decide) hown hr (by simpa using h1) (by simp only [maxLen]; omega) (by omega) hbase fun A' c' w' k1 k2 _ => h A' c' w' k1 k2
end Go.Proofs.Ytebeidnmplnlpaa
end

section
namespace Go.Proofs.Ytebeidnmplnlpaa
set_option linter.unusedVariables false
open Go.RowKit

/-- the class of worlds, chosen anew -/
structure Anew (S : World → Prop) (w : World) (p : (World → Prop) → Prop) : Prop where
  out : ∃ S' : World → Prop, (∀ W, S' W → S W) ∧ S' w ∧ p S'
theorem Anew.same {S : World → Prop} {w : World} {p : (World → Prop) → Prop} (h2 : S w) (h3 : p S) : Anew S w p := ⟨⟨S, fun _ h => h, h2, h3⟩⟩
def vone2 (P : Program) (S : World → Prop) (ops : List Oper) (K : (World → Prop) → Env → World → Prop) (o : Option Oper) (σ : Env) (w : World) : Prop := match o with
  | none => False
  | some o => vguard ops σ o.guard (fun σ => vop P false (ev σ) o.op o.type w (fun v w2 => Anew S w2 (fun S' => K S' (putE σ o.dst v) w2))) (fun σ => K S (putE σ o.dst undef) w)
def vseg2 (P : Program) (ops : List Oper) (K : Env → World → Prop) : List (List Nat × Nat) → List Nat → (World → Prop) → Env → World → Prop
  | [], last, S, σ, w => vquiet P S ops (fun σ' => K σ' w) (picks ops last) σ
  | (l, c) :: r, last, S, σ, w => vquiet P S ops (fun σ' => vone2 P S ops (fun S' σ2 w2 => vseg2 P ops K r last S' σ2 w2) (nthOp ops c) σ' w) (picks ops l) σ
structure VH (P : Program) (S : World → Prop) (ops : List Oper) (K : Env → World → Prop) (segs : List (List Nat × Nat)) (last : List Nat) (σ : Env) (w : World) : Prop where
  out : vseg2 P ops K segs last S σ w
theorem VH_fun (P : Program) (S : World → Prop) (ops : List Oper) (K : Env → World → Prop) (segs : List (List Nat × Nat)) (last : List Nat) : VH P S ops K segs last = vseg2 P ops K segs last S := by funext σ w; exact propext ⟨fun h => h.out, fun h => ⟨h⟩⟩
theorem kHa {P : Program} {S : World → Prop} {ops : List Oper} {K : Env → World → Prop} {last : List Nat} {σ : Env} {w : World} (h : VQ P S ops (fun σ' => K σ' w) (picks ops last) σ) : VH P S ops K [] last σ w := ⟨h.out⟩
theorem kHb {P : Program} {S : World → Prop} {ops : List Oper} {K : Env → World → Prop} {l : List Nat} {c : Nat} {r : List (List Nat × Nat)} {last : List Nat} {σ : Env} {w : World}
    (h : VQ P S ops (fun σ' => vone2 P S ops (fun S' σ2 w2 => VH P S' ops K r last σ2 w2) (nthOp ops c) σ' w) (picks ops l) σ) : VH P S ops K ((l, c) :: r) last σ w := by
  refine ⟨?_⟩
  have h := h.out
  simp only [VH_fun] at h
  exact h
end Go.Proofs.Ytebeidnmplnlpaa
end

section
set_option maxRecDepth 10000
namespace Go.Proofs.Ytebeidnmplnlpaa
set_option linter.unusedVariables false
open Go.RowKit

theorem VRead.catT {P : Program} {S : World → Prop} {t : TypeId} {x y : Operand} {l m : List UInt8} {K : Value → Prop} (h : l.length + m.length ≤ 9223372036854775807) (hk : K (.string (txt (l ++ m)))) :
    VRead P S (do eqGuard .add t x y (.string (txt l)) (.string (txt m)); binOp .add t (.string (txt l)) (.string (txt m))) K :=
  .ofW (fun W => by rw [Sem.run_bind, eqGuard_str]; exact run_txt_add l m h W) hk
theorem add_lit (g j : Nat) : (⟨g, 0, none⟩ : Addr).add j = ⟨g, j, none⟩ := by unfold Addr.add; split <;> simp_all
theorem VUnit.setO {w : World} {B g n c j : Nat} {l : List UInt8} {p : Addr} {z : Int} {K : World → Prop} (hO : Own w B (.slice (some ⟨g, 0, none⟩) n c) n l) (hp : p = (⟨g, 0, none⟩ : Addr).add j) (hj : j < n) (y : UInt8) (hz : z = (y.toNat : Int)) (h : ∀ w', Own w' B (.slice (some ⟨g, 0, none⟩) n c) n (l.set j y) → w.grownBy w' (some g) → K w') :
    VUnit Try.prog (Instr.storeAt 5 (.pointer (some p)) (.int .u8 z)) w K := by
  subst hp; subst hz
  have hl := hO.len
  obtain ⟨x, hx⟩ : ∃ x, l[j]? = some x := ⟨_, List.getElem?_eq_getElem (by omega)⟩
  obtain ⟨h1, h2⟩ := hO.at_ hx
  rw [add_lit]
  exact VUnit.store h1 h2 rfl (h _ (hO.set j y) (only_setCell (only_refl w g) (.inl rfl) _))
theorem txt_dec {l m : List UInt8} : (decide (txt l = txt m)) = decide (l = m) := decide_eq_decide.2 txt_inj
/-- a cut of a text -/
theorem VRead.txtL {P : Program} {S : World → Prop} {t : Nat} {l : List UInt8} {z : Int} {kk : IntKind} {K : Value → Prop} [i : TStr P t] (n : Nat) (hz : z = (n : Int)) (h : n ≤ l.length) (hk : K (.string (txt (l.drop n)))) : VRead P S (Instr.sliceAt t (.string (txt l)) (some (.int kk z)) none none) K := by
  subst hz
  refine VRead.textL (by omega) (by rw [txt_size]; omega) ?_
  have e : ByteArray.extract (txt l) ((n : Int).toNat) (txt l).size = txt (l.drop n) := by
    apply ByteArray.ext
    rw [ByteArray.data_extract]
    simp [txt]
    show List.take (l.length - n) (List.drop n l) = List.drop n l
    rw [List.take_of_length_le (by simp)]
  rw [e]; exact hk
theorem VRead.txtH {P : Program} {S : World → Prop} {t : Nat} {l : List UInt8} {z : Int} {kk : IntKind} {K : Value → Prop} [i : TStr P t] (n : Nat) (hz : z = (n : Int)) (h : n ≤ l.length) (hk : K (.string (txt (l.take n)))) : VRead P S (Instr.sliceAt t (.string (txt l)) none (some (.int kk z)) none) K := by
  subst hz
  refine VRead.textH (by omega) (by rw [txt_size]; omega) ?_
  have e : ByteArray.extract (txt l) 0 ((n : Int).toNat) = txt (l.take n) := by
    apply ByteArray.ext
    rw [ByteArray.data_extract]
    simp [txt]
  rw [e]; exact hk
end Go.Proofs.Ytebeidnmplnlpaa
end

section
set_option maxRecDepth 10000
namespace Go.Proofs.Ytebeidnmplnlpaa
set_option linter.unusedVariables false
open Go.RowKit

theorem snoc_ind {α : Type} {P : List α → Prop} (h0 : P []) (h1 : ∀ l b, P l → P (l ++ [b])) (l : List α) : P l := by
  rw [← List.reverse_reverse l]
  induction l.reverse with
  | nil => exact h0
  | cons b m ih => rw [List.reverse_cons]; exact h1 _ _ ih
/-! ### digits -/
def dig (n : Nat) : UInt8 := UInt8.ofNat (48 + n % 10)
def dgs : Nat → Nat → List UInt8
  | 0, _ => []
  | k + 1, n => dgs k (n / 10) ++ [dig n]
theorem dgs_len : ∀ (k n : Nat), (dgs k n).length = k
  | 0, _ => rfl
  | k + 1, n => by simp [dgs, dgs_len k]
def isDig (b : UInt8) : Bool := decide (48 ≤ b.toNat) && decide (b.toNat ≤ 57)
theorem dig_nat (n : Nat) : (dig n).toNat = 48 + n % 10 := by unfold dig; rw [UInt8.toNat_ofNat']; omega
theorem dig_is (n : Nat) : isDig (dig n) = true := by unfold isDig; rw [dig_nat]; have : n % 10 < 10 := Nat.mod_lt _ (by decide); simp; omega
/-- the number that digits are -/
def numF (a : Nat) (l : List UInt8) : Nat := l.foldl (fun a b => 10 * a + (b.toNat - 48)) a
def numD (l : List UInt8) : Option Nat := if l.all isDig then some (numF 0 l) else none
theorem numF_snoc (a : Nat) (l : List UInt8) (b : UInt8) : numF a (l ++ [b]) = 10 * numF a l + (b.toNat - 48) := by unfold numF; rw [List.foldl_append]; rfl
theorem numF_le : ∀ (l : List UInt8), l.all isDig = true → numF 0 l < 10 ^ l.length := fun l => by
  refine snoc_ind (P := fun l => l.all isDig = true → numF 0 l < 10 ^ l.length) (by intro _; simp [numF]) ?_ l
  · intro l b ih h
    rw [List.all_append, Bool.and_eq_true] at h
    have h1 := ih h.1
    have h2 : isDig b = true := by simpa using h.2
    unfold isDig at h2
    simp at h2
    rw [numF_snoc, List.length_append, List.length_singleton, Nat.pow_succ]
    omega
theorem dgs_all : ∀ (k n : Nat), (dgs k n).all isDig = true
  | 0, _ => rfl
  | k + 1, n => by unfold dgs; rw [List.all_append, dgs_all k, Bool.true_and]; simp [dig_is]
theorem num_dgs : ∀ (k n : Nat), numF 0 (dgs k n) = n % 10 ^ k
  | 0, n => by simp [dgs, numF, Nat.mod_one]
  | k + 1, n => by
    unfold dgs
    rw [numF_snoc, num_dgs k, dig_nat, Nat.pow_succ, Nat.mul_comm (10 ^ k) 10, Nat.mod_mul]
    omega
theorem numD_dgs {k n : Nat} (h : n < 10 ^ k) : numD (dgs k n) = some n := by
  unfold numD
  rw [if_pos (dgs_all k n), num_dgs, Nat.mod_eq_of_lt h]
theorem dgs_num : ∀ (l : List UInt8), l.all isDig = true → dgs l.length (numF 0 l) = l := fun l => by
  refine snoc_ind (P := fun l => l.all isDig = true → dgs l.length (numF 0 l) = l) (by intro _; rfl) ?_ l
  · intro l b ih h
    rw [List.all_append, Bool.and_eq_true] at h
    have h1 := ih h.1
    have h2 : isDig b = true := by simpa using h.2
    unfold isDig at h2
    simp at h2
    rw [List.length_append, List.length_singleton]
    show dgs l.length (numF 0 (l ++ [b]) / 10) ++ [dig (numF 0 (l ++ [b]))] = l ++ [b]
    rw [numF_snoc]
    have e1 : (10 * numF 0 l + (b.toNat - 48)) / 10 = numF 0 l := by omega
    have e2 : dig (10 * numF 0 l + (b.toNat - 48)) = b := by
      apply UInt8.toNat_inj.1
      rw [dig_nat]; omega
    rw [e1, e2, h1]
theorem numD_some {l : List UInt8} {n : Nat} (h : numD l = some n) : l = dgs l.length n ∧ n < 10 ^ l.length := by
  unfold numD at h
  split at h
  · rename_i ha
    injection h with h
    subst h
    exact ⟨(dgs_num l ha).symm, numF_le l ha⟩
  · cases h
/-- a name that begins so and ends with a number -/
def nameN (pre : List UInt8) (k n : Nat) : List UInt8 := pre ++ dgs k n
/-- the number of a name -/
def numN (pre : List UInt8) (k : Nat) (s : List UInt8) : Option Nat := if s.length = pre.length + k ∧ s.take pre.length = pre then numD (s.drop pre.length) else none
theorem numN_name {pre : List UInt8} {k n : Nat} (h : n < 10 ^ k) : numN pre k (nameN pre k n) = some n := by
  unfold numN nameN
  rw [if_pos ⟨by simp [dgs_len], by simp⟩, List.drop_left, numD_dgs h]
theorem numN_some {pre s : List UInt8} {k n : Nat} (h : numN pre k s = some n) : s = nameN pre k n ∧ n < 10 ^ k := by
  unfold numN at h
  split at h
  · rename_i hc
    obtain ⟨h1, h2⟩ := numD_some h
    have hl : (s.drop pre.length).length = k := by rw [List.length_drop]; omega
    rw [hl] at h1 h2
    refine ⟨?_, h2⟩
    unfold nameN
    rw [← h1]
    conv => lhs; rw [← List.take_append_drop pre.length s, hc.2]
  · cases h
theorem nameN_len (pre : List UInt8) (k n : Nat) : (nameN pre k n).length = pre.length + k := by simp [nameN, dgs_len]
/-! ### the walk's steps -/
/-- the row while it is filled from behind: the last digits stand -/
theorem dgs_split : ∀ (a b n : Nat), dgs (a + b) n = dgs a (n / 10 ^ b) ++ dgs b n
  | a, 0, n => by simp [dgs]
  | a, b + 1, n => by
    show dgs (a + b) (n / 10) ++ [dig n] = dgs a (n / 10 ^ (b + 1)) ++ (dgs b (n / 10) ++ [dig n])
    rw [dgs_split a b (n / 10), Nat.div_div_eq_div_mul, Nat.pow_succ, Nat.mul_comm 10, List.append_assoc]
end Go.Proofs.Ytebeidnmplnlpaa
end

section
set_option maxRecDepth 10000
namespace Go.Proofs.Ytebeidnmplnlpaa
set_option linter.unusedVariables false
open Go.RowKit

/-! ### footprints: blocks that may be something's own -/
abbrev Foot := Nat → Prop
/-- what is made from now on lies in the footprint -/
def Up (U : Foot) (W : World) : Prop := ∀ j, W.heap.size ≤ j → U j
/-- outside the footprint the world stays -/
structure Out (U : Foot) (W W' : World) : Prop where
  os : W'.os = W.os
  tape : W'.tape = W.tape
  output : W'.output = W.output
  size : W.heap.size ≤ W'.heap.size
  block : ∀ j, j < W.heap.size → ¬ U j → W'.heap[j]? = W.heap[j]?
section
variable {U V : Foot} {W W' W'' : World}
theorem Up.grow (h : Up U W) (hs : W.heap.size ≤ W'.heap.size) : Up U W' := fun j hj => h j (Nat.le_trans hs hj)
theorem Up.from {B : Nat} (h : B ≤ W.heap.size) : Up (fun j => B ≤ j) W := fun j hj => Nat.le_trans h hj
theorem Out.refl (U : Foot) (W : World) : Out U W W := ⟨rfl, rfl, rfl, Nat.le_refl _, fun _ _ _ => rfl⟩
theorem Out.trans (h : Out U W W') (k : Out U W' W'') : Out U W W'' :=
  ⟨k.os.trans h.os, k.tape.trans h.tape, k.output.trans h.output, Nat.le_trans h.size k.size, fun j hj hu => (k.block j (Nat.lt_of_lt_of_le hj h.size) hu).trans (h.block j hj hu)⟩
theorem Out.mono (h : Out U W W') (hV : ∀ j, U j → V j) : Out V W W' := ⟨h.os, h.tape, h.output, h.size, fun j hj hu => h.block j hj (fun e => hu (hV j e))⟩
theorem Out.of_below {B : Nat} (h : Below B W W') (hB : ∀ j, B ≤ j → j < W.heap.size → U j) : Out U W W' :=
  ⟨h.os, h.tape, h.output, h.size, fun j hj hu => h.block j (Nat.lt_of_not_le fun e => hu (hB j e hj))⟩
theorem Out.new (h : Below W.heap.size W W') : Out U W W' := .of_below h (fun j h1 h2 => absurd h1 (Nat.not_le_of_lt h2))
theorem Out.grown {g : Nat} (h : W.grownBy W' (some g)) (hg : U g) : Out U W W' := ⟨h.os, h.tape, h.output, h.size, fun j hj hu => h.block j hj (fun e => hu (by injection e with e; subst e; exact hg))⟩
theorem Out.row {row : Option Nat} (h : W.grownBy W' row) (hg : ∀ g, row = some g → U g) : Out U W W' := ⟨h.os, h.tape, h.output, h.size, fun j hj hu => h.block j hj (fun e => hu (hg j e.symm))⟩
theorem Out.below {B : Nat} (h : Out U W W') (hB : ∀ j, U j → B ≤ j) (hs : B ≤ W.heap.size) : Below B W W' :=
  ⟨h.os, h.tape, h.output, h.size, fun j hj => h.block j (Nat.lt_of_lt_of_le hj hs) (fun e => absurd (hB j e) (Nat.not_le_of_lt hj))⟩
theorem Out.from {B : Nat} (h : Out (fun j => B ≤ j) W W') (hs : B ≤ W.heap.size) : Below B W W' := h.below (fun _ e => e) hs
end
/-- bytes in a block of bytes -/
def Lies (W : World) (U : Foot) (A : Option Addr) (m : Nat) (l : List UInt8) : Prop := Reads W W.heap.size 1 A m (bv l) ∧ (0 < m → ∃ ad cs fr, A = some ad ∧ U ad.block ∧ W.heap[ad.block]? = some (Obj.cells cs 5 fr))
theorem Lies.len {W : World} {U : Foot} {m : Nat} {A : Option Addr} {l : List UInt8} (h : Lies W U A m l) : l.length = m := by have := h.1.1; rw [bv_length] at this; omega
theorem Lies.nil (W : World) (U : Foot) (A : Option Addr) : Lies W U A 0 [] := ⟨by simpa [bv] using (Reads.none_ (w := W) (B := W.heap.size) (size := 1) (A := A)), fun h0 => absurd h0 (Nat.lt_irrefl 0)⟩
/-- .. stays where the footprint stays -/
theorem Lies.stay {W W' : World} {U : Foot} {m : Nat} {A : Option Addr} {l : List UInt8} (h : Lies W U A m l) (hs : W.heap.size ≤ W'.heap.size) (hk : ∀ j, j < W.heap.size → U j → W'.heap[j]? = W.heap[j]?) : Lies W' U A m l := by
  refine ⟨⟨h.1.1, fun hm => ?_⟩, fun hm => ?_⟩
  · obtain ⟨ad, cs, fr, rfl, h1, h2⟩ := h.2 hm
    obtain ⟨ad', e, h3, h4⟩ := h.1.2 hm
    obtain rfl := Option.some.inj e
    refine ⟨_, rfl, Nat.lt_of_lt_of_le h3 hs, fun j u hu => ?_⟩
    rw [← h4 j u hu]
    exact World.cell?_of_block (by rw [add_block]; exact hk _ h3 h1)
  · obtain ⟨ad, cs, fr, e, h1, h2⟩ := h.2 hm
    exact ⟨ad, cs, fr, e, h1, by rw [hk _ (Array.getElem?_eq_some_iff.1 h2).1 h1]; exact h2⟩
theorem Lies.below {W W' : World} {U : Foot} {C m : Nat} {A : Option Addr} {l : List UInt8} (h : Lies W U A m l) (hb : Below C W W') (hC : W.heap.size ≤ C) : Lies W' U A m l :=
  h.stay hb.size (fun j hj _ => hb.block j (Nat.lt_of_lt_of_le hj hC))
theorem Lies.more {W : World} {U V : Foot} {m : Nat} {A : Option Addr} {l : List UInt8} (h : Lies W U A m l) (hV : ∀ j, j < W.heap.size → U j → V j) : Lies W V A m l :=
  ⟨h.1, fun hm => by obtain ⟨ad, cs, fr, e, h1, h2⟩ := h.2 hm; exact ⟨ad, cs, fr, e, hV _ (Array.getElem?_eq_some_iff.1 h2).1 h1, h2⟩⟩
theorem Lies.of_own {W : World} {U : Foot} {B m c : Nat} {A : Option Addr} {l : List UInt8} (h : Own W B (.slice A m c) m l) (hU : ∀ j, B ≤ j → U j) : Lies W U A m l := by
  refine ⟨h.reads, fun hm => ?_⟩
  rcases h.2 with ⟨_, h0⟩ | ⟨g, cap, cur, e, hg, hh, _⟩
  · omega
  · injection e with e1 e2 e3
    exact ⟨_, _, _, e1, hU _ hg, hh⟩
theorem Lies.take {W : World} {U : Foot} {m k : Nat} {A : Option Addr} {l : List UInt8} (h : Lies W U A m l) (hk : k ≤ m) : Lies W U A k (l.take k) :=
  ⟨h.1.take hk, fun h0 => h.2 (by omega)⟩
/-- .. untouched by what touches no block of bytes -/
theorem Lies.apart {W W' : World} {U : Foot} {m : Nat} {A : Option Addr} {l : List UInt8} {row : Option Nat} (h : Lies W U A m l) (hg : W.grownBy W' row) (hne : ∀ k, row = some k → ∀ cs fr, W.heap[k]? ≠ some (Obj.cells cs 5 fr)) : Lies W' U A m l := by
  have key : ∀ ad cs fr, W.heap[ad]? = some (Obj.cells cs 5 fr) → W'.heap[ad]? = W.heap[ad]? := fun ad cs fr h2 =>
    hg.block ad (Array.getElem?_eq_some_iff.1 h2).1 (fun e => hne ad e.symm cs fr h2)
  refine ⟨⟨h.1.1, fun hm => ?_⟩, fun hm => ?_⟩
  · obtain ⟨ad, cs, fr, rfl, h1, h2⟩ := h.2 hm
    obtain ⟨ad', e, h3, h4⟩ := h.1.2 hm
    obtain rfl := Option.some.inj e
    refine ⟨_, rfl, Nat.lt_of_lt_of_le h3 hg.size, fun j u hu => ?_⟩
    rw [← h4 j u hu]
    exact World.cell?_of_block (by rw [add_block]; exact key _ cs fr h2)
  · obtain ⟨ad, cs, fr, e, h1, h2⟩ := h.2 hm
    exact ⟨ad, cs, fr, e, h1, by rw [key _ cs fr h2]; exact h2⟩
theorem Lies.row {W W' : World} {U : Foot} {B' m e size n : Nat} {A : Option Addr} {l : List UInt8} {v : Value} {xs : List Value} (h : Lies W U A m l) (hr : W.ownsRow B' e size v n xs) (hg : W.grownBy W' v.ownBlock) (hne : 5 ≠ e) : Lies W' U A m l := by
  refine h.apart hg (fun k hk cs fr hc => ?_)
  rcases hr.2 with ⟨rfl, _⟩ | ⟨g', cap, cur, rfl, _, hh, _⟩
  · simp [Value.ownBlock] at hk
  · have : g' = k := by simpa [Value.ownBlock] using hk
    subst this
    rw [hc] at hh
    injection hh with hh
    injection hh with _ h2 _
    exact hne h2
theorem Lies.blk {W W' : World} {U : Foot} {m g T : Nat} {A : Option Addr} {l : List UInt8} {cs : Array Value} (h : Lies W U A m l) (hb : Blk W g T cs) (hg : W.grownBy W' (some g)) (hne : 5 ≠ T) : Lies W' U A m l := by
  refine h.apart hg (fun k hk cs' fr hc => ?_)
  obtain rfl := Option.some.inj hk
  unfold Blk at hb
  rw [hc] at hb
  injection hb with hb
  injection hb with _ h2 _
  exact hne h2

/-- bytes to be read, off the footprint or in a block of bytes -/
def Src (W : World) (U : Foot) (A : Option Addr) (n : Nat) (l : List UInt8) : Prop := Reads W W.heap.size 1 A n (bv l) ∧ (0 < n → ∃ ad, A = some ad ∧ (¬ U ad.block ∨ ∃ cs fr, W.heap[ad.block]? = some (Obj.cells cs 5 fr)))
theorem Src.of_lies {W : World} {U V : Foot} {A : Option Addr} {n : Nat} {l : List UInt8} (h : Lies W V A n l) : Src W U A n l :=
  ⟨h.1, fun h0 => by obtain ⟨ad, cs, fr, e, _, h2⟩ := h.2 h0; exact ⟨ad, e, .inr ⟨cs, fr, h2⟩⟩⟩
theorem Src.of_own {W : World} {U : Foot} {B n c : Nat} {A : Option Addr} {l : List UInt8} (h : Own W B (.slice A n c) n l) : Src W U A n l := .of_lies (Lies.of_own (U := fun _ => True) h (fun _ _ => trivial))
theorem Src.len {W : World} {U : Foot} {A : Option Addr} {n : Nat} {l : List UInt8} (h : Src W U A n l) : l.length = n := by have := h.1.1; rw [bv_length] at this; omega
theorem Src.blk {W W' : World} {U : Foot} {A : Option Addr} {n d T : Nat} {l : List UInt8} {cs : Array Value} (h : Src W U A n l) (hb : Blk W d T cs) (hd : U d) (hg : W.grownBy W' (some d)) (hne : 5 ≠ T) : Src W' U A n l := by
  have key : ∀ ad, (¬ U ad ∨ ∃ cs fr, W.heap[ad]? = some (Obj.cells cs 5 fr)) → ad ≠ d := by
    rintro ad (h1 | ⟨cs', fr, h1⟩) rfl
    · exact h1 hd
    · unfold Blk at hb
      rw [h1] at hb
      injection hb with hb
      injection hb with _ h2 _
      exact hne h2
  refine ⟨⟨h.1.1, fun hm => ?_⟩, fun hm => ?_⟩
  · obtain ⟨ad, rfl, h1⟩ := h.2 hm
    obtain ⟨ad', e, h3, h4⟩ := h.1.2 hm
    obtain rfl := Option.some.inj e
    refine ⟨_, rfl, Nat.lt_of_lt_of_le h3 hg.size, fun j u hu => ?_⟩
    rw [← h4 j u hu]
    exact World.cell?_of_block (by rw [add_block]; exact hg.block _ h3 (fun e => key _ h1 (Option.some.inj e)))
  · obtain ⟨ad, e, h1⟩ := h.2 hm
    obtain ⟨ad', e', h3, _⟩ := h.1.2 hm
    rw [e] at e'
    obtain rfl := Option.some.inj e'
    refine ⟨ad, e, h1.imp (fun h => h) (fun ⟨cs, fr, h2⟩ => ⟨cs, fr, ?_⟩)⟩
    rw [hg.block _ h3 (fun e => key _ h1 (Option.some.inj e))]; exact h2

theorem u8_info3 : (Try.prog.info? 5).map (fun i => (i.zero, i.size, i.bytes)) = some (some (.int .u8 0), 1, 1) := by kernel_rfl
theorem VSem.makeZ {n B : Nat} {Z Z' : Int} {kl kc : IntKind} {w : World} {K : Value → World → Prop} (hn : n ≤ 140737488355328) (hB : B ≤ w.heap.size) (hZ : Z = (n : Int)) (hZ' : Z' = (n : Int))
    (h : ∀ w', Own w' B (.slice (some ⟨w.heap.size, 0, none⟩) n n) n (List.replicate n 0) → Below w.heap.size w w' → w'.heap.size = w.heap.size + 1 → K (.slice (some ⟨w.heap.size, 0, none⟩) n n) w') :
    VSem Try.prog (Instr.makeSlice 31 (.int kl Z) (.int kc Z')) w K := by
  subst hZ; subst hZ'
  have hr := run_make_row' (P := Try.prog) 31 5 (.int .u8 0) 1 Try.underlying31 u8_info3 rfl kl kc n (by omega) (by omega) w
  refine VSem.of hr (h _ ?_ ((Below.refl _ _).alloc (Nat.le_refl _) _) (by simp))
  refine ⟨by rw [bv_length]; simp, .inr ⟨_, n, _, rfl, hB, heap_alloc_new w _, Nat.le_refl _, by simp only [maxLen]; omega, by simp [size_madeCells], ?_⟩⟩
  rw [toList_madeCells_one]
  simp [bv]
theorem VSem.copyS {P : Program} {w : World} {dT sT ty e : TypeId} {g n c C B o dL dC m k : Nat} {D A : Option Addr} {l news : List UInt8} {K : Value → World → Prop} [i : TSlice P dT e 1]
    (hO : Own w B (.slice (some ⟨g, 0, none⟩) n c) n l) (hr : Reads w C 1 A m (bv news)) (hD : 0 < m → D = some ⟨g, o, none⟩) (hle : m ≤ dL) (hfit : o + m ≤ n)
    (h : ∀ w', Own w' B (.slice (some ⟨g, 0, none⟩) n c) n (l.take o ++ news ++ l.drop (o + m)) → Only g w w' → K (.int .i64 (m : Int)) w') :
    VSem P (Builtin.copy_ #[dT, sT] ty [.slice D dL dC, .slice A m k].toArray) w K := by
  have hl := hO.len
  have hm : news.length = m := by have := hr.1; rw [bv_length] at this; omega
  by_cases h0 : m = 0
  · subst h0
    obtain rfl : news = [] := List.eq_nil_of_length_eq_zero hm
    refine VSem.of (run_copy_none w dT sT ty e D A dL dC 0 k i.u i.s (by simp)) (h w ?_ ⟨rfl, rfl, rfl, rfl, fun _ _ => rfl⟩)
    simpa using hO
  obtain rfl := hD (by omega)
  obtain ⟨ad, rfl, _, hc0⟩ := hr.2 (by omega)
  obtain ⟨hx, hrow⟩ := hO
  rcases hrow with ⟨h0, _⟩ | ⟨g', cap, cur, hv, hB, hg, hnc, hmx, hs, hc⟩
  · cases h0
  injection hv with e1 e2 e3
  injection e1 with e1
  injection e1 with e1
  subst e1 e3
  rw [Nat.mul_one] at hs hc
  have hcl : cur.toList.length = c := by rw [Array.length_toList]; exact hs
  have hrun := run_copy_row (P := P) w dT sT ty e g o dL dC ad m k cur _ (bv news) i.u i.s hg (by rw [bv_length, hm]; exact (Nat.min_eq_left hle).symm) hc0 (by rw [bv_length]; omega) (bv_one _)
  rw [bv_length, hm] at hrun
  refine VSem.of hrun (h _ ?_ ?_)
  · refine ⟨by rw [bv_length]; simp only [List.length_append, List.length_take, List.length_drop]; omega, .inr ⟨g, c, _, rfl, hB, setRow_heap w g cur _ _ _ hg, hnc, hmx, ?_, ?_⟩⟩
    · simp only [List.size_toArray, List.length_append, List.length_take, List.length_drop, bv_length]
      omega
    · rw [Nat.mul_one]
      have h1 : cur.toList.take o = bv (l.take o) := by
        have := congrArg (List.take o) hc
        rw [List.take_take, Nat.min_eq_left (by omega)] at this
        rw [this]; unfold bv; rw [List.map_take]
      have h2 : (cur.toList.drop (o + m)).take (n - (o + m)) = bv (l.drop (o + m)) := by
        have := congrArg (List.drop (o + m)) hc
        rw [List.drop_take] at this
        rw [this]; unfold bv; rw [List.map_drop]
      have h3 : (bv (l.take o) ++ bv news).length = o + m := by rw [List.length_append, bv_length, bv_length, List.length_take]; omega
      show (cur.toList.take o ++ bv news ++ cur.toList.drop (o + m)).take n = _
      rw [h1, List.take_append, List.take_of_length_le (by omega), h3, h2]
      unfold bv
      simp only [List.map_append]
  · exact ⟨rfl, rfl, rfl, by simp [World.setRow], fun j hj => setRow_other w g j _ hj⟩
/-- a row that is written out -/
theorem VSem.buildR {P : Program} {w : World} {t e n : Nat} {ps : List (Nat × Value)} {K : Value → World → Prop} [i : TSlice P t e 1] [c : TCell P e] (hp : ps.map (·.1) = List.range' 0 ps.length) (hn : ps.length = n) (h1 : ∀ v ∈ ps.map (·.2), v.oneCell' = true) (hb : n ≤ 16777216)
    (h : ∀ w', w'.ownsRow w.heap.size e 1 (.slice (some ⟨w.heap.size, 0, none⟩) n n) n (ps.map (·.2)) → Below w.heap.size w w' → w'.heap.size = w.heap.size + 1 → K (.slice (some ⟨w.heap.size, 0, none⟩) n n) w') : VSem P (Instr.buildSlice t n ps.toArray) w K := by
  refine VSem.buildS (P := P) (t := t) (e := e) (n := n) (ps := ps) hp hn h1 hb ?_
  have hnew := Blk.new w e (ps.map (·.2)).toArray
  refine h _ ⟨by simp [hn], .inr ⟨_, n, _, rfl, Nat.le_refl _, hnew, Nat.le_refl _, by simp only [maxLen]; omega, by simp [hn], ?_⟩⟩ ((Below.refl w.heap.size w).alloc (Nat.le_refl _) _) (by simp)
  rw [List.take_of_length_le (by simp [hn])]
end Go.Proofs.Ytebeidnmplnlpaa
end

section
set_option maxRecDepth 10000
namespace Go.Proofs.Ytebeidnmplnlpaa
set_option linter.unusedVariables false
open Go.RowKit

theorem set_mid {a b : List UInt8} {x y : UInt8} {n : Nat} (h : a.length = n) : (a ++ x :: b).set n y = a ++ y :: b := by
  subst h; simp
set_option maxHeartbeats 1000000 in
theorem plainName_any (pre : List UInt8) (n k : Nat) (w : World) (hp : pre.length ≤ 1000) (hn : n ≤ 9223372036854775807) (hk : k ≤ 100) :
    Calls Try.prog 46 #[.string (txt pre), .int .i64 (n : Int), .int .i64 (k : Int)] w fun e w' => e = .returned (.string (txt (nameN pre k n))) ∧ Below w.heap.size w w' := by
  refine calls_vc Try.func46 rfl (by kernel_rfl) ?_
  ((conv => whnf); (repeat ((first|refine kLa ?_|refine kLb ?_|refine kCa rfl ?_|refine kCb ?_|refine kCc ?_|refine kCd ?_|refine kCe ?_|refine kCf ?_|refine kCg ?_|refine kCh ?_|refine kCi ?_|refine kCj ?_|refine kQa ?_|refine kQb ?_|refine kGa ?_|refine kGb ?_|refine kHa ?_|refine kHb ?_); (conv => whnf))))
  ((repeat ((first|refine kLa ?_|refine kLb ?_|refine kCa rfl ?_|refine kCb ?_|refine kCc ?_|refine kCd ?_|refine kCe ?_|refine kCf ?_|refine kCg ?_|refine kCh ?_|refine kCi ?_|refine kCj ?_|refine kQa ?_|refine kQb ?_|refine kGa ?_|refine kGb ?_|refine kHa ?_|refine kHb ?_|refine kPa ?_|refine kPb ?_|refine kPc ?_|refine kEa ?_|refine kEb ?_|refine kBa ?_|refine kBb ?_|refine kBc (by omega) ?_|refine kBd (by omega) ?_|refine kBe (by omega) ?_|refine kBf (by omega) ?_|refine kRa ?_|refine kRb ?_|refine VRead.fld ?_|refine VRead.load1 (by assumption) ?_|refine VRead.load (by assumption) ?_|refine kRf ?_|refine kRg ?_|refine kRh ?_|refine kRi ?_|refine kBe rfl ?_|refine kBc rfl ?_|refine kWa (by omega) (by omega) ?_|refine kWb (by omega) (by omega) ?_|refine kRj (by omega) ?_|refine kRk ?_|refine VSem.convI ?_|refine VRead.convI ?_|refine VRead.rem (by omega) (by decide) ?_|refine VRead.neg ?_|refine VC.seq ?_); (conv => whnf))))
  refine VSem.makeZ (n := k) (B := w.heap.size) (by omega) (Nat.le_refl _) rfl rfl ?_
  intro w1 hO1 hB1 hs1
  ((conv => whnf); (repeat ((first|refine kLa ?_|refine kLb ?_|refine kCa rfl ?_|refine kCb ?_|refine kCc ?_|refine kCd ?_|refine kCe ?_|refine kCf ?_|refine kCg ?_|refine kCh ?_|refine kCi ?_|refine kCj ?_|refine kQa ?_|refine kQb ?_|refine kGa ?_|refine kGb ?_|refine kHa ?_|refine kHb ?_); (conv => whnf))))
  ((repeat ((first|refine kLa ?_|refine kLb ?_|refine kCa rfl ?_|refine kCb ?_|refine kCc ?_|refine kCd ?_|refine kCe ?_|refine kCf ?_|refine kCg ?_|refine kCh ?_|refine kCi ?_|refine kCj ?_|refine kQa ?_|refine kQb ?_|refine kGa ?_|refine kGb ?_|refine kHa ?_|refine kHb ?_|refine kPa ?_|refine kPb ?_|refine kPc ?_|refine kEa ?_|refine kEb ?_|refine kBa ?_|refine kBb ?_|refine kBc (by omega) ?_|refine kBd (by omega) ?_|refine kBe (by omega) ?_|refine kBf (by omega) ?_|refine kRa ?_|refine kRb ?_|refine VRead.fld ?_|refine VRead.load1 (by assumption) ?_|refine VRead.load (by assumption) ?_|refine kRf ?_|refine kRg ?_|refine kRh ?_|refine kRi ?_|refine kBe rfl ?_|refine kBc rfl ?_|refine kWa (by omega) (by omega) ?_|refine kWb (by omega) (by omega) ?_|refine kRj (by omega) ?_|refine kRk ?_|refine VSem.convI ?_|refine VRead.convI ?_|refine VRead.rem (by omega) (by decide) ?_|refine VRead.neg ?_|refine VC.seq ?_); (conv => whnf))))
  refine VC.loop [1, 8] [(1, 1), (8, 8), (13, 25)] (fun q vs W => ∃ j : Nat, vs = [.int .i64 ((n / 10 ^ j : Nat) : Int), .int .i64 ((k : Int) - 1 - j)] ∧ q = k - j ∧ j ≤ k ∧ Own W w.heap.size (.slice (some ⟨w.heap.size, 0, none⟩) k k) k (List.replicate (k - j) 0 ++ dgs j n) ∧ Below w.heap.size w W) (by kernel_rfl)
    ⟨_, 0, (by show [Value.int .i64 (n : Int), Value.int .i64 ((k : Int) - 1)] = _; simp), rfl, by omega, by simpa [dgs] using hO1, hB1⟩ ?_
  rintro q τ vs W ⟨j, rfl, rfl, hj, hO, hB⟩
  by_cases hlt : j < k
  · have e1 : List.replicate (k - j) (0 : UInt8) = List.replicate (k - (j + 1)) 0 ++ [0] := by
      rw [show k - j = (k - (j + 1)) + 1 from by omega, List.replicate_succ']
    have hm0 : (0 : Int) ≤ ((n / 10 ^ j : Nat) : Int) := Int.natCast_nonneg _
    have hm1 : n / 10 ^ j ≤ 9223372036854775807 := Nat.le_trans (Nat.div_le_self _ _) hn
    generalize hm : n / 10 ^ j = m at *
    have e2 : (List.replicate (k - j) (0 : UInt8) ++ dgs j n).set (k - (j + 1)) (dig m) = List.replicate (k - (j + 1)) 0 ++ dgs (j + 1) n := by
      rw [e1, List.append_assoc, List.singleton_append, set_mid (by simp), show j + 1 = 1 + j from by omega, dgs_split 1 j n, hm]
      rfl
    have e3 : n / 10 ^ (j + 1) = m / 10 := by rw [← hm, Nat.div_div_eq_div_mul, Nat.pow_succ]
    ((conv => whnf); (repeat ((first|refine kLa ?_|refine kLb ?_|refine kCa rfl ?_|refine kCb ?_|refine kCc ?_|refine kCd ?_|refine kCe ?_|refine kCf ?_|refine kCg ?_|refine kCh ?_|refine kCi ?_|refine kCj ?_|refine kQa ?_|refine kQb ?_|refine kGa ?_|refine kGb ?_|refine kHa ?_|refine kHb ?_); (conv => whnf))))
    (repeat (first | ((first|refine kLa ?_|refine kLb ?_|refine kCa rfl ?_|refine kCb ?_|refine kCc ?_|refine kCd ?_|refine kCe ?_|refine kCf ?_|refine kCg ?_|refine kCh ?_|refine kCi ?_|refine kCj ?_|refine kQa ?_|refine kQb ?_|refine kGa ?_|refine kGb ?_|refine kHa ?_|refine kHb ?_|refine kPa ?_|refine kPb ?_|refine kPc ?_|refine kEa ?_|refine kEb ?_|refine kBa ?_|refine kBb ?_|refine kBc (by omega) ?_|refine kBd (by omega) ?_|refine kBe (by omega) ?_|refine kBf (by omega) ?_|refine kRa ?_|refine kRb ?_|refine VRead.fld ?_|refine VRead.load1 (by assumption) ?_|refine VRead.load (by assumption) ?_|refine kRf ?_|refine kRg ?_|refine kRh ?_|refine kRi ?_|refine kBe rfl ?_|refine kBc rfl ?_|refine kWa (by omega) (by omega) ?_|refine kWb (by omega) (by omega) ?_|refine kRj (by omega) ?_|refine kRk ?_|refine VSem.convI ?_|refine VRead.convI ?_|refine VRead.rem (by omega) (by decide) ?_|refine VRead.neg ?_|refine VC.seq ?_); (conv => whnf)) | (refine VWrap.u8 (by omega) (by omega) ?_; (conv => whnf))))
    refine VRead.atI (by omega) (by omega) ?_
    ((conv => whnf); (repeat ((first|refine kLa ?_|refine kLb ?_|refine kCa rfl ?_|refine kCb ?_|refine kCc ?_|refine kCd ?_|refine kCe ?_|refine kCf ?_|refine kCg ?_|refine kCh ?_|refine kCi ?_|refine kCj ?_|refine kQa ?_|refine kQb ?_|refine kGa ?_|refine kGb ?_|refine kHa ?_|refine kHb ?_); (conv => whnf))))
    refine VUnit.setO hO (j := k - (j + 1)) (by congr 1; omega) (by omega) (dig m) (by rw [dig_nat]; omega) ?_
    intro W2 hO2 hg2
    rw [e2] at hO2
    ((conv => whnf); (repeat ((first|refine kLa ?_|refine kLb ?_|refine kCa rfl ?_|refine kCb ?_|refine kCc ?_|refine kCd ?_|refine kCe ?_|refine kCf ?_|refine kCg ?_|refine kCh ?_|refine kCi ?_|refine kCj ?_|refine kQa ?_|refine kQb ?_|refine kGa ?_|refine kGb ?_|refine kHa ?_|refine kHb ?_); (conv => whnf))))
    (repeat (first | ((first|refine kLa ?_|refine kLb ?_|refine kCa rfl ?_|refine kCb ?_|refine kCc ?_|refine kCd ?_|refine kCe ?_|refine kCf ?_|refine kCg ?_|refine kCh ?_|refine kCi ?_|refine kCj ?_|refine kQa ?_|refine kQb ?_|refine kGa ?_|refine kGb ?_|refine kHa ?_|refine kHb ?_|refine kPa ?_|refine kPb ?_|refine kPc ?_|refine kEa ?_|refine kEb ?_|refine kBa ?_|refine kBb ?_|refine kBc (by omega) ?_|refine kBd (by omega) ?_|refine kBe (by omega) ?_|refine kBf (by omega) ?_|refine kRa ?_|refine kRb ?_|refine VRead.fld ?_|refine VRead.load1 (by assumption) ?_|refine VRead.load (by assumption) ?_|refine kRf ?_|refine kRg ?_|refine kRh ?_|refine kRi ?_|refine kBe rfl ?_|refine kBc rfl ?_|refine kWa (by omega) (by omega) ?_|refine kWb (by omega) (by omega) ?_|refine kRj (by omega) ?_|refine kRk ?_|refine VSem.convI ?_|refine VRead.convI ?_|refine VRead.rem (by omega) (by decide) ?_|refine VRead.neg ?_|refine VC.seq ?_); (conv => whnf)) | (refine VRead.quo64 (by omega) (by omega) (by omega) ?_; (conv => whnf))))
    refine ⟨_, ?_, j + 1, ?_, rfl, by omega, hO2, only_new hB hg2 (Nat.le_refl _) hB.size⟩
    · omega
    · have e4 : (k : Int) - 1 - ((j + 1 : Nat) : Int) = (k : Int) - 1 - j - 1 := by omega
      rw [e3, e4, Int.natCast_ediv]
      rfl
  · obtain rfl : j = k := by omega
    rw [Nat.sub_self, List.replicate_zero, List.nil_append] at hO
    ((conv => whnf); (repeat ((first|refine kLa ?_|refine kLb ?_|refine kCa rfl ?_|refine kCb ?_|refine kCc ?_|refine kCd ?_|refine kCe ?_|refine kCf ?_|refine kCg ?_|refine kCh ?_|refine kCi ?_|refine kCj ?_|refine kQa ?_|refine kQb ?_|refine kGa ?_|refine kGb ?_|refine kHa ?_|refine kHb ?_); (conv => whnf))))
    ((repeat ((first|refine kLa ?_|refine kLb ?_|refine kCa rfl ?_|refine kCb ?_|refine kCc ?_|refine kCd ?_|refine kCe ?_|refine kCf ?_|refine kCg ?_|refine kCh ?_|refine kCi ?_|refine kCj ?_|refine kQa ?_|refine kQb ?_|refine kGa ?_|refine kGb ?_|refine kHa ?_|refine kHb ?_|refine kPa ?_|refine kPb ?_|refine kPc ?_|refine kEa ?_|refine kEb ?_|refine kBa ?_|refine kBb ?_|refine kBc (by omega) ?_|refine kBd (by omega) ?_|refine kBe (by omega) ?_|refine kBf (by omega) ?_|refine kRa ?_|refine kRb ?_|refine VRead.fld ?_|refine VRead.load1 (by assumption) ?_|refine VRead.load (by assumption) ?_|refine kRf ?_|refine kRg ?_|refine kRh ?_|refine kRi ?_|refine kBe rfl ?_|refine kBc rfl ?_|refine kWa (by omega) (by omega) ?_|refine kWb (by omega) (by omega) ?_|refine kRj (by omega) ?_|refine kRk ?_|refine VSem.convI ?_|refine VRead.convI ?_|refine VRead.rem (by omega) (by decide) ?_|refine VRead.neg ?_|refine VC.seq ?_); (conv => whnf))))
    refine VSem.convT hO.reads ?_
    ((conv => whnf); (repeat ((first|refine kLa ?_|refine kLb ?_|refine kCa rfl ?_|refine kCb ?_|refine kCc ?_|refine kCd ?_|refine kCe ?_|refine kCf ?_|refine kCg ?_|refine kCh ?_|refine kCi ?_|refine kCj ?_|refine kQa ?_|refine kQb ?_|refine kGa ?_|refine kGb ?_|refine kHa ?_|refine kHb ?_); (conv => whnf))))
    ((repeat ((first|refine kLa ?_|refine kLb ?_|refine kCa rfl ?_|refine kCb ?_|refine kCc ?_|refine kCd ?_|refine kCe ?_|refine kCf ?_|refine kCg ?_|refine kCh ?_|refine kCi ?_|refine kCj ?_|refine kQa ?_|refine kQb ?_|refine kGa ?_|refine kGb ?_|refine kHa ?_|refine kHb ?_|refine kPa ?_|refine kPb ?_|refine kPc ?_|refine kEa ?_|refine kEb ?_|refine kBa ?_|refine kBb ?_|refine kBc (by omega) ?_|refine kBd (by omega) ?_|refine kBe (by omega) ?_|refine kBf (by omega) ?_|refine kRa ?_|refine kRb ?_|refine VRead.fld ?_|refine VRead.load1 (by assumption) ?_|refine VRead.load (by assumption) ?_|refine kRf ?_|refine kRg ?_|refine kRh ?_|refine kRi ?_|refine kBe rfl ?_|refine kBc rfl ?_|refine kWa (by omega) (by omega) ?_|refine kWb (by omega) (by omega) ?_|refine kRj (by omega) ?_|refine kRk ?_|refine VSem.convI ?_|refine VRead.convI ?_|refine VRead.rem (by omega) (by decide) ?_|refine VRead.neg ?_|refine VC.seq ?_); (conv => whnf))))
    refine VRead.catT (by rw [dgs_len]; omega) ?_
    ((conv => whnf); (repeat ((first|refine kLa ?_|refine kLb ?_|refine kCa rfl ?_|refine kCb ?_|refine kCc ?_|refine kCd ?_|refine kCe ?_|refine kCf ?_|refine kCg ?_|refine kCh ?_|refine kCi ?_|refine kCj ?_|refine kQa ?_|refine kQb ?_|refine kGa ?_|refine kGb ?_|refine kHa ?_|refine kHb ?_); (conv => whnf))))
    ((repeat ((first|refine kLa ?_|refine kLb ?_|refine kCa rfl ?_|refine kCb ?_|refine kCc ?_|refine kCd ?_|refine kCe ?_|refine kCf ?_|refine kCg ?_|refine kCh ?_|refine kCi ?_|refine kCj ?_|refine kQa ?_|refine kQb ?_|refine kGa ?_|refine kGb ?_|refine kHa ?_|refine kHb ?_|refine kPa ?_|refine kPb ?_|refine kPc ?_|refine kEa ?_|refine kEb ?_|refine kBa ?_|refine kBb ?_|refine kBc (by omega) ?_|refine kBd (by omega) ?_|refine kBe (by omega) ?_|refine kBf (by omega) ?_|refine kRa ?_|refine kRb ?_|refine VRead.fld ?_|refine VRead.load1 (by assumption) ?_|refine VRead.load (by assumption) ?_|refine kRf ?_|refine kRg ?_|refine kRh ?_|refine kRi ?_|refine kBe rfl ?_|refine kBc rfl ?_|refine kWa (by omega) (by omega) ?_|refine kWb (by omega) (by omega) ?_|refine kRj (by omega) ?_|refine kRk ?_|refine VSem.convI ?_|refine VRead.convI ?_|refine VRead.rem (by omega) (by decide) ?_|refine VRead.neg ?_|refine VC.seq ?_); (conv => whnf))))
    exact ⟨rfl, hB⟩
/-- a name's number: the part that is digits, read -/
theorem numF_bound {l : List UInt8} {j : Nat} (h : (l.take j).all isDig = true) (hl : l.length ≤ 17) : numF 0 (l.take j) < 100000000000000000 := by
  have h1 := numF_le _ h
  have h2 : 10 ^ (l.take j).length ≤ 10 ^ 17 := Nat.pow_le_pow_right (by decide) (by rw [List.length_take]; omega)
  have h3 : (10 : Nat) ^ 17 = 100000000000000000 := by decide
  omega
def numV (o : Option Nat) : Value := match o with | some n => .tuple #[.int .i64 (n : Int), .bool true] | none => .tuple #[.int .i64 0, .bool false]
theorem numN_no {pre s : List UInt8} {k : Nat} (h : ¬ (s.length = pre.length + k ∧ s.take pre.length = pre)) : numN pre k s = none := by unfold numN; rw [if_neg h]
set_option maxHeartbeats 1000000 in
theorem plainNumber_any (pre s : List UInt8) (k : Nat) (w : World) (hp : pre.length ≤ 1000) (hs : s.length ≤ 9223372036854775807) (hk : k ≤ 17) :
    Calls Try.prog 47 #[.string (txt pre), .string (txt s), .int .i64 (k : Int)] w fun e w' => e = .returned (numV (numN pre k s)) ∧ Below w.heap.size w w' := by
  have z1 : ByteArray.size (txt pre) = pre.length := txt_size _
  have z2 : ByteArray.size (txt s) = s.length := txt_size _
  refine calls_vc Try.func47 rfl (by kernel_rfl) ?_
  by_cases hl : s.length = pre.length + k
  case neg =>
    rw [numN_no (fun h => hl h.1)]
    ((conv => whnf); (repeat ((first|refine kLa ?_|refine kLb ?_|refine kCa rfl ?_|refine kCb ?_|refine kCc ?_|refine kCd ?_|refine kCe ?_|refine kCf ?_|refine kCg ?_|refine kCh ?_|refine kCi ?_|refine kCj ?_|refine kQa ?_|refine kQb ?_|refine kGa ?_|refine kGb ?_|refine kHa ?_|refine kHb ?_); (conv => whnf))))
    ((repeat ((first|refine kLa ?_|refine kLb ?_|refine kCa rfl ?_|refine kCb ?_|refine kCc ?_|refine kCd ?_|refine kCe ?_|refine kCf ?_|refine kCg ?_|refine kCh ?_|refine kCi ?_|refine kCj ?_|refine kQa ?_|refine kQb ?_|refine kGa ?_|refine kGb ?_|refine kHa ?_|refine kHb ?_|refine kPa ?_|refine kPb ?_|refine kPc ?_|refine kEa ?_|refine kEb ?_|refine kBa ?_|refine kBb ?_|refine kBc (by omega) ?_|refine kBd (by omega) ?_|refine kBe (by omega) ?_|refine kBf (by omega) ?_|refine kRa ?_|refine kRb ?_|refine VRead.fld ?_|refine VRead.load1 (by assumption) ?_|refine VRead.load (by assumption) ?_|refine kRf ?_|refine kRg ?_|refine kRh ?_|refine kRi ?_|refine kBe rfl ?_|refine kBc rfl ?_|refine kWa (by omega) (by omega) ?_|refine kWb (by omega) (by omega) ?_|refine kRj (by omega) ?_|refine kRk ?_|refine VSem.convI ?_|refine VRead.convI ?_|refine VRead.rem (by omega) (by decide) ?_|refine VRead.neg ?_|refine VC.seq ?_); (conv => whnf))))
    exact ⟨rfl, Below.refl _ _⟩
  by_cases ht : s.take pre.length = pre
  case neg =>
    rw [numN_no (fun h => ht h.2)]
    have ht' : ¬ txt (s.take pre.length) = txt pre := fun e => ht (txt_inj.1 e)
    ((conv => whnf); (repeat ((first|refine kLa ?_|refine kLb ?_|refine kCa rfl ?_|refine kCb ?_|refine kCc ?_|refine kCd ?_|refine kCe ?_|refine kCf ?_|refine kCg ?_|refine kCh ?_|refine kCi ?_|refine kCj ?_|refine kQa ?_|refine kQb ?_|refine kGa ?_|refine kGb ?_|refine kHa ?_|refine kHb ?_); (conv => whnf))))
    (repeat (first | ((first|refine kLa ?_|refine kLb ?_|refine kCa rfl ?_|refine kCb ?_|refine kCc ?_|refine kCd ?_|refine kCe ?_|refine kCf ?_|refine kCg ?_|refine kCh ?_|refine kCi ?_|refine kCj ?_|refine kQa ?_|refine kQb ?_|refine kGa ?_|refine kGb ?_|refine kHa ?_|refine kHb ?_|refine kPa ?_|refine kPb ?_|refine kPc ?_|refine kEa ?_|refine kEb ?_|refine kBa ?_|refine kBb ?_|refine kBc (by omega) ?_|refine kBd (by omega) ?_|refine kBe (by omega) ?_|refine kBf (by omega) ?_|refine kRa ?_|refine kRb ?_|refine VRead.fld ?_|refine VRead.load1 (by assumption) ?_|refine VRead.load (by assumption) ?_|refine kRf ?_|refine kRg ?_|refine kRh ?_|refine kRi ?_|refine kBe rfl ?_|refine kBc rfl ?_|refine kWa (by omega) (by omega) ?_|refine kWb (by omega) (by omega) ?_|refine kRj (by omega) ?_|refine kRk ?_|refine VSem.convI ?_|refine VRead.convI ?_|refine VRead.rem (by omega) (by decide) ?_|refine VRead.neg ?_|refine VC.seq ?_); (conv => whnf)) | (refine VRead.txtH pre.length (by omega) (by omega) ?_; (conv => whnf)) | (refine kBf ht' ?_; (conv => whnf)) | (refine VBool.yes (by simp [ht']) ?_; (conv => whnf))))
    exact ⟨rfl, Below.refl _ _⟩
  have ht' : txt (s.take pre.length) = txt pre := by rw [ht]
  have hN : numN pre k s = numD (s.drop pre.length) := by unfold numN; rw [if_pos ⟨hl, ht⟩]
  rw [hN]
  have hdl : (s.drop pre.length).length = k := by rw [List.length_drop]; omega
  have hde : txt (s.drop pre.length) = txt (s.drop pre.length) := rfl
  generalize hd : s.drop pre.length = d at hdl hN ⊢
  ((conv => whnf); (repeat ((first|refine kLa ?_|refine kLb ?_|refine kCa rfl ?_|refine kCb ?_|refine kCc ?_|refine kCd ?_|refine kCe ?_|refine kCf ?_|refine kCg ?_|refine kCh ?_|refine kCi ?_|refine kCj ?_|refine kQa ?_|refine kQb ?_|refine kGa ?_|refine kGb ?_|refine kHa ?_|refine kHb ?_); (conv => whnf))))
  ((repeat ((first|refine kLa ?_|refine kLb ?_|refine kCa rfl ?_|refine kCb ?_|refine kCc ?_|refine kCd ?_|refine kCe ?_|refine kCf ?_|refine kCg ?_|refine kCh ?_|refine kCi ?_|refine kCj ?_|refine kQa ?_|refine kQb ?_|refine kGa ?_|refine kGb ?_|refine kHa ?_|refine kHb ?_|refine kPa ?_|refine kPb ?_|refine kPc ?_|refine kEa ?_|refine kEb ?_|refine kBa ?_|refine kBb ?_|refine kBc (by omega) ?_|refine kBd (by omega) ?_|refine kBe (by omega) ?_|refine kBf (by omega) ?_|refine kRa ?_|refine kRb ?_|refine VRead.fld ?_|refine VRead.load1 (by assumption) ?_|refine VRead.load (by assumption) ?_|refine kRf ?_|refine kRg ?_|refine kRh ?_|refine kRi ?_|refine kBe rfl ?_|refine kBc rfl ?_|refine kWa (by omega) (by omega) ?_|refine kWb (by omega) (by omega) ?_|refine kRj (by omega) ?_|refine kRk ?_|refine VSem.convI ?_|refine VRead.convI ?_|refine VRead.rem (by omega) (by decide) ?_|refine VRead.neg ?_|refine VC.seq ?_); (conv => whnf))))
  refine VRead.txtH pre.length (by omega) (by omega) ?_
  ((conv => whnf); (repeat ((first|refine kLa ?_|refine kLb ?_|refine kCa rfl ?_|refine kCb ?_|refine kCc ?_|refine kCd ?_|refine kCe ?_|refine kCf ?_|refine kCg ?_|refine kCh ?_|refine kCi ?_|refine kCj ?_|refine kQa ?_|refine kQb ?_|refine kGa ?_|refine kGb ?_|refine kHa ?_|refine kHb ?_); (conv => whnf))))
  (repeat (first | ((first|refine kLa ?_|refine kLb ?_|refine kCa rfl ?_|refine kCb ?_|refine kCc ?_|refine kCd ?_|refine kCe ?_|refine kCf ?_|refine kCg ?_|refine kCh ?_|refine kCi ?_|refine kCj ?_|refine kQa ?_|refine kQb ?_|refine kGa ?_|refine kGb ?_|refine kHa ?_|refine kHb ?_|refine kPa ?_|refine kPb ?_|refine kPc ?_|refine kEa ?_|refine kEb ?_|refine kBa ?_|refine kBb ?_|refine kBc (by omega) ?_|refine kBd (by omega) ?_|refine kBe (by omega) ?_|refine kBf (by omega) ?_|refine kRa ?_|refine kRb ?_|refine VRead.fld ?_|refine VRead.load1 (by assumption) ?_|refine VRead.load (by assumption) ?_|refine kRf ?_|refine kRg ?_|refine kRh ?_|refine kRi ?_|refine kBe rfl ?_|refine kBc rfl ?_|refine kWa (by omega) (by omega) ?_|refine kWb (by omega) (by omega) ?_|refine kRj (by omega) ?_|refine kRk ?_|refine VSem.convI ?_|refine VRead.convI ?_|refine VRead.rem (by omega) (by decide) ?_|refine VRead.neg ?_|refine VC.seq ?_); (conv => whnf)) | (refine kBe ht' ?_; (conv => whnf))))
  refine VRead.txtL pre.length (by omega) (by omega) ?_
  rw [hd]
  ((conv => whnf); (repeat ((first|refine kLa ?_|refine kLb ?_|refine kCa rfl ?_|refine kCb ?_|refine kCc ?_|refine kCd ?_|refine kCe ?_|refine kCf ?_|refine kCg ?_|refine kCh ?_|refine kCi ?_|refine kCj ?_|refine kQa ?_|refine kQb ?_|refine kGa ?_|refine kGb ?_|refine kHa ?_|refine kHb ?_); (conv => whnf))))
  ((repeat ((first|refine kLa ?_|refine kLb ?_|refine kCa rfl ?_|refine kCb ?_|refine kCc ?_|refine kCd ?_|refine kCe ?_|refine kCf ?_|refine kCg ?_|refine kCh ?_|refine kCi ?_|refine kCj ?_|refine kQa ?_|refine kQb ?_|refine kGa ?_|refine kGb ?_|refine kHa ?_|refine kHb ?_|refine kPa ?_|refine kPb ?_|refine kPc ?_|refine kEa ?_|refine kEb ?_|refine kBa ?_|refine kBb ?_|refine kBc (by omega) ?_|refine kBd (by omega) ?_|refine kBe (by omega) ?_|refine kBf (by omega) ?_|refine kRa ?_|refine kRb ?_|refine VRead.fld ?_|refine VRead.load1 (by assumption) ?_|refine VRead.load (by assumption) ?_|refine kRf ?_|refine kRg ?_|refine kRh ?_|refine kRi ?_|refine kBe rfl ?_|refine kBc rfl ?_|refine kWa (by omega) (by omega) ?_|refine kWb (by omega) (by omega) ?_|refine kRj (by omega) ?_|refine kRk ?_|refine VSem.convI ?_|refine VRead.convI ?_|refine VRead.rem (by omega) (by decide) ?_|refine VRead.neg ?_|refine VC.seq ?_); (conv => whnf))))
  refine VSem.convB ?_
  intro A c w1 hr hc hB
  have hsz : (txt d).size = k := by rw [txt_size]; exact hdl
  rw [show (txt d).data.toList = d from rfl, hsz] at hr
  rw [hsz] at hc ⊢
  ((conv => whnf); (repeat ((first|refine kLa ?_|refine kLb ?_|refine kCa rfl ?_|refine kCb ?_|refine kCc ?_|refine kCd ?_|refine kCe ?_|refine kCf ?_|refine kCg ?_|refine kCh ?_|refine kCi ?_|refine kCj ?_|refine kQa ?_|refine kQb ?_|refine kGa ?_|refine kGb ?_|refine kHa ?_|refine kHb ?_); (conv => whnf))))
  ((repeat ((first|refine kLa ?_|refine kLb ?_|refine kCa rfl ?_|refine kCb ?_|refine kCc ?_|refine kCd ?_|refine kCe ?_|refine kCf ?_|refine kCg ?_|refine kCh ?_|refine kCi ?_|refine kCj ?_|refine kQa ?_|refine kQb ?_|refine kGa ?_|refine kGb ?_|refine kHa ?_|refine kHb ?_|refine kPa ?_|refine kPb ?_|refine kPc ?_|refine kEa ?_|refine kEb ?_|refine kBa ?_|refine kBb ?_|refine kBc (by omega) ?_|refine kBd (by omega) ?_|refine kBe (by omega) ?_|refine kBf (by omega) ?_|refine kRa ?_|refine kRb ?_|refine VRead.fld ?_|refine VRead.load1 (by assumption) ?_|refine VRead.load (by assumption) ?_|refine kRf ?_|refine kRg ?_|refine kRh ?_|refine kRi ?_|refine kBe rfl ?_|refine kBc rfl ?_|refine kWa (by omega) (by omega) ?_|refine kWb (by omega) (by omega) ?_|refine kRj (by omega) ?_|refine kRk ?_|refine VSem.convI ?_|refine VRead.convI ?_|refine VRead.rem (by omega) (by decide) ?_|refine VRead.neg ?_|refine VC.seq ?_); (conv => whnf))))
  refine VC.loop [8, 32] [(6, 8), (10, 10), (32, 48)] (fun q vs W => ∃ j : Nat, vs = [.int .i64 ((numF 0 (d.take j) : Nat) : Int), .int .i64 (j : Int)] ∧ q = k - j ∧ j ≤ k ∧ (d.take j).all isDig = true ∧ W = w1) (by kernel_rfl)
    ⟨_, 0, rfl, rfl, by omega, rfl, rfl⟩ ?_
  rintro q τ vs W ⟨j, rfl, rfl, hj, hall, rfl⟩
  have hlt := numF_bound hall (by omega)
  by_cases hjk : j < k
  · obtain ⟨x, hx⟩ : ∃ x, d[j]? = some x := ⟨_, List.getElem?_eq_getElem (by omega)⟩
    obtain ⟨ad, u, rfl, _, hu, hcell⟩ := hr.at_ hjk
    unfold bv at hu
    obtain ⟨x', hx', rfl⟩ := map_at hu
    rw [hx] at hx'
    obtain rfl := Option.some.inj hx'
    have hxl : x.toNat < 256 := x.toNat_lt
    have htk := take_snoc hx
    by_cases h1 : 48 ≤ x.toNat
    · by_cases h2 : x.toNat ≤ 57
      · have hall' : (d.take (j + 1)).all isDig = true := by
          rw [htk, List.all_append, hall]
          simp [isDig, h1, h2]
        have hnum : numF 0 (d.take (j + 1)) = 10 * numF 0 (d.take j) + (x.toNat - 48) := by rw [htk, numF_snoc]
        generalize hN2 : numF 0 (d.take j) = a at *
        ((conv => whnf); (repeat ((first|refine kLa ?_|refine kLb ?_|refine kCa rfl ?_|refine kCb ?_|refine kCc ?_|refine kCd ?_|refine kCe ?_|refine kCf ?_|refine kCg ?_|refine kCh ?_|refine kCi ?_|refine kCj ?_|refine kQa ?_|refine kQb ?_|refine kGa ?_|refine kGb ?_|refine kHa ?_|refine kHb ?_); (conv => whnf))))
        (repeat (first | ((first|refine kLa ?_|refine kLb ?_|refine kCa rfl ?_|refine kCb ?_|refine kCc ?_|refine kCd ?_|refine kCe ?_|refine kCf ?_|refine kCg ?_|refine kCh ?_|refine kCi ?_|refine kCj ?_|refine kQa ?_|refine kQb ?_|refine kGa ?_|refine kGb ?_|refine kHa ?_|refine kHb ?_|refine kPa ?_|refine kPb ?_|refine kPc ?_|refine kEa ?_|refine kEb ?_|refine kBa ?_|refine kBb ?_|refine kBc (by omega) ?_|refine kBd (by omega) ?_|refine kBe (by omega) ?_|refine kBf (by omega) ?_|refine kRa ?_|refine kRb ?_|refine VRead.fld ?_|refine VRead.load1 (by assumption) ?_|refine VRead.load (by assumption) ?_|refine kRf ?_|refine kRg ?_|refine kRh ?_|refine kRi ?_|refine kBe rfl ?_|refine kBc rfl ?_|refine kWa (by omega) (by omega) ?_|refine kWb (by omega) (by omega) ?_|refine kRj (by omega) ?_|refine kRk ?_|refine VSem.convI ?_|refine VRead.convI ?_|refine VRead.rem (by omega) (by decide) ?_|refine VRead.neg ?_|refine VC.seq ?_); (conv => whnf)) | (refine kRj hjk ?_; (conv => whnf)) | (refine VWrap.u8 (by omega) (by omega) ?_; (conv => whnf))))
        refine ⟨_, by omega, j + 1, ?_, rfl, by omega, hall', rfl⟩
        rw [hnum]
        have e1 : ((10 * a + (x.toNat - 48) : Nat) : Int) = 10 * (a : Int) + ((x.toNat : Int) - 48) := by omega
        rw [e1]
        rfl
      · have hno : numD d = none := by
          unfold numD
          rw [if_neg]
          intro ha
          have := List.all_eq_true.1 ha x (List.mem_of_getElem? hx)
          simp [isDig] at this
          omega
        rw [hno]
        ((conv => whnf); (repeat ((first|refine kLa ?_|refine kLb ?_|refine kCa rfl ?_|refine kCb ?_|refine kCc ?_|refine kCd ?_|refine kCe ?_|refine kCf ?_|refine kCg ?_|refine kCh ?_|refine kCi ?_|refine kCj ?_|refine kQa ?_|refine kQb ?_|refine kGa ?_|refine kGb ?_|refine kHa ?_|refine kHb ?_); (conv => whnf))))
        (repeat (first | ((first|refine kLa ?_|refine kLb ?_|refine kCa rfl ?_|refine kCb ?_|refine kCc ?_|refine kCd ?_|refine kCe ?_|refine kCf ?_|refine kCg ?_|refine kCh ?_|refine kCi ?_|refine kCj ?_|refine kQa ?_|refine kQb ?_|refine kGa ?_|refine kGb ?_|refine kHa ?_|refine kHb ?_|refine kPa ?_|refine kPb ?_|refine kPc ?_|refine kEa ?_|refine kEb ?_|refine kBa ?_|refine kBb ?_|refine kBc (by omega) ?_|refine kBd (by omega) ?_|refine kBe (by omega) ?_|refine kBf (by omega) ?_|refine kRa ?_|refine kRb ?_|refine VRead.fld ?_|refine VRead.load1 (by assumption) ?_|refine VRead.load (by assumption) ?_|refine kRf ?_|refine kRg ?_|refine kRh ?_|refine kRi ?_|refine kBe rfl ?_|refine kBc rfl ?_|refine kWa (by omega) (by omega) ?_|refine kWb (by omega) (by omega) ?_|refine kRj (by omega) ?_|refine kRk ?_|refine VSem.convI ?_|refine VRead.convI ?_|refine VRead.rem (by omega) (by decide) ?_|refine VRead.neg ?_|refine VC.seq ?_); (conv => whnf)) | (refine kRj hjk ?_; (conv => whnf))))
        exact ⟨rfl, hB⟩
    · have hno : numD d = none := by
        unfold numD
        rw [if_neg]
        intro ha
        have := List.all_eq_true.1 ha x (List.mem_of_getElem? hx)
        simp [isDig] at this
        omega
      rw [hno]
      ((conv => whnf); (repeat ((first|refine kLa ?_|refine kLb ?_|refine kCa rfl ?_|refine kCb ?_|refine kCc ?_|refine kCd ?_|refine kCe ?_|refine kCf ?_|refine kCg ?_|refine kCh ?_|refine kCi ?_|refine kCj ?_|refine kQa ?_|refine kQb ?_|refine kGa ?_|refine kGb ?_|refine kHa ?_|refine kHb ?_); (conv => whnf))))
      (repeat (first | ((first|refine kLa ?_|refine kLb ?_|refine kCa rfl ?_|refine kCb ?_|refine kCc ?_|refine kCd ?_|refine kCe ?_|refine kCf ?_|refine kCg ?_|refine kCh ?_|refine kCi ?_|refine kCj ?_|refine kQa ?_|refine kQb ?_|refine kGa ?_|refine kGb ?_|refine kHa ?_|refine kHb ?_|refine kPa ?_|refine kPb ?_|refine kPc ?_|refine kEa ?_|refine kEb ?_|refine kBa ?_|refine kBb ?_|refine kBc (by omega) ?_|refine kBd (by omega) ?_|refine kBe (by omega) ?_|refine kBf (by omega) ?_|refine kRa ?_|refine kRb ?_|refine VRead.fld ?_|refine VRead.load1 (by assumption) ?_|refine VRead.load (by assumption) ?_|refine kRf ?_|refine kRg ?_|refine kRh ?_|refine kRi ?_|refine kBe rfl ?_|refine kBc rfl ?_|refine kWa (by omega) (by omega) ?_|refine kWb (by omega) (by omega) ?_|refine kRj (by omega) ?_|refine kRk ?_|refine VSem.convI ?_|refine VRead.convI ?_|refine VRead.rem (by omega) (by decide) ?_|refine VRead.neg ?_|refine VC.seq ?_); (conv => whnf)) | (refine kRj hjk ?_; (conv => whnf))))
      exact ⟨rfl, hB⟩
  · obtain rfl : j = k := by omega
    have htk : d.take j = d := List.take_of_length_le (by omega)
    rw [htk] at hall ⊢
    have hyes : numD d = some (numF 0 d) := by unfold numD; rw [if_pos hall]
    rw [hyes]
    ((conv => whnf); (repeat ((first|refine kLa ?_|refine kLb ?_|refine kCa rfl ?_|refine kCb ?_|refine kCc ?_|refine kCd ?_|refine kCe ?_|refine kCf ?_|refine kCg ?_|refine kCh ?_|refine kCi ?_|refine kCj ?_|refine kQa ?_|refine kQb ?_|refine kGa ?_|refine kGb ?_|refine kHa ?_|refine kHb ?_); (conv => whnf))))
    ((repeat ((first|refine kLa ?_|refine kLb ?_|refine kCa rfl ?_|refine kCb ?_|refine kCc ?_|refine kCd ?_|refine kCe ?_|refine kCf ?_|refine kCg ?_|refine kCh ?_|refine kCi ?_|refine kCj ?_|refine kQa ?_|refine kQb ?_|refine kGa ?_|refine kGb ?_|refine kHa ?_|refine kHb ?_|refine kPa ?_|refine kPb ?_|refine kPc ?_|refine kEa ?_|refine kEb ?_|refine kBa ?_|refine kBb ?_|refine kBc (by omega) ?_|refine kBd (by omega) ?_|refine kBe (by omega) ?_|refine kBf (by omega) ?_|refine kRa ?_|refine kRb ?_|refine VRead.fld ?_|refine VRead.load1 (by assumption) ?_|refine VRead.load (by assumption) ?_|refine kRf ?_|refine kRg ?_|refine kRh ?_|refine kRi ?_|refine kBe rfl ?_|refine kBc rfl ?_|refine kWa (by omega) (by omega) ?_|refine kWb (by omega) (by omega) ?_|refine kRj (by omega) ?_|refine kRk ?_|refine VSem.convI ?_|refine VRead.convI ?_|refine VRead.rem (by omega) (by decide) ?_|refine VRead.neg ?_|refine VC.seq ?_); (conv => whnf))))
    exact ⟨rfl, hB⟩
/-! ### snapshots' names -/
def snPre : List UInt8 := [115, 110, 97, 112, 45]
def snName (i : Int) : List UInt8 := if i < 1 ∨ 1099511627776 < i then [] else nameN snPre 13 i.toNat
end Go.Proofs.Ytebeidnmplnlpaa
end

section
set_option maxRecDepth 10000
namespace Go.Proofs.Ytebeidnmplnlpaa
set_option linter.unusedVariables false
open Go.RowKit
open Go.Maps (Keyed)
open Go.ChangeMaps Go.WideElems

/-- an element as it is -/
def RV : Value → Option (DataW Value × List MemPlace) := fun v => some (.held v, [])
/-- block b is a map of at most n entries -/
def MapIs (P : Program) (k : TypeId) (W : World) (b n : Nat) (D : DataW Value) : Prop := W.ownsMap P k RV b n D
/-- what is at a key -/
def mval (D : DataW Value) (kl : Lit) (z : Value) : Value := match D.atKey kl (.held z) with | .held v => v | _ => z
theorem mval_of {D : DataW Value} {kl : Lit} {z v : Value} {ps : List MemPlace} (h : RV v = some (D.atKey kl (.held z), ps)) : mval D kl z = v := by
  unfold RV at h
  injection h with h
  injection h with h1 _
  unfold mval
  rw [← h1]
theorem mval_put_same {D : DataW Value} {kl : Lit} {z v : Value} (hD : Maps.IsMap D) (hk : WideAt.IsKeyLit kl) : mval (D.put kl (.held v)) kl z = v := by
  unfold mval; rw [Maps.atKey_put_same hD hk]
theorem mval_put_other {D : DataW Value} {kl kl' : Lit} {z v : Value} (h : kl' ≠ kl) : mval (D.put kl (.held v)) kl' z = mval D kl' z := by
  unfold mval; rw [Maps.atKey_put_other h]
section
variable {P : Program} {S : World → Prop} {w : World} {k e t ty : TypeId} {b n : Nat} {D : DataW Value}
theorem MapIs.below {w' : World} {B : Nat} (h : MapIs P k w b n D) (hb : Below B w w') (hB : b < B) : MapIs P k w' b n D := by
  obtain ⟨es, clock, h1, h2⟩ := h
  exact ⟨es, clock, by rw [hb.block b hB]; exact h1, h2⟩
theorem MapIs.kept {w' : World} {row : Option Nat} (h : MapIs P k w b n D) (hg : w.grownBy w' row) (hne : some b ≠ row) : MapIs P k w' b n D := World.ownsMap.kept h hg hne
theorem MapIs.lt (h : MapIs P k w b n D) : b < w.heap.size := World.ownsMap.lt h
theorem MapIs.drewN (h : MapIs P k w b n D) (N : Nat) : MapIs P k (w.drewN N) b n D := h
theorem VRead.mapAt {key z : Value} {kl : Lit} {K : Value → Prop} [i : TMap P t k e] (h : ∀ W, S W → MapIs P k W b n D) (Kd : Keyed P k) (hz : ∀ W : World, (zeroValue e).run P W = .ok z W) (hkey : keyOf P k key = some kl)
    (hk : K (mval D kl z)) : VRead P S (Instr.lookup t (.map (some b)) key false) K := by
  refine .of (fun W hW => ?_) hk
  obtain ⟨v, ps, hrun, hv⟩ := World.ownsMap.lookup (h W hW) Kd i.u (hz W) (zd := .held z) (zp := []) rfl hkey
  rw [hrun, mval_of hv]
theorem VSem.mapAt {key z : Value} {kl : Lit} {K : Value → World → Prop} [i : TMap P t k e] (h : MapIs P k w b n D) (Kd : Keyed P k) (hz : ∀ W : World, (zeroValue e).run P W = .ok z W) (hkey : keyOf P k key = some kl)
    (hk : K (mval D kl z) w) : VSem P (Instr.lookup t (.map (some b)) key false) w K := by
  obtain ⟨v, ps, hrun, hv⟩ := World.ownsMap.lookup h Kd i.u (hz w) (zd := .held z) (zp := []) rfl hkey
  exact .of hrun (by rw [mval_of hv] at hk; exact hk)
theorem VUnit.mapSet {key val : Value} {kl : Lit} {K : World → Prop} [i : TMap P t k e] (h : MapIs P k w b n D) (Kd : Keyed P k) (hn : n ≤ 1000000000) (hkey : keyOf P k key = some kl)
    (hk : ∀ w', MapIs P k w' b (n + 1) (D.put kl (.held val)) → w.grownBy w' (some b) → K w') : VUnit P (Instr.mapUpdate t (.map (some b)) key val) w K := by
  obtain ⟨w', hrun, h1, h2⟩ := World.ownsMap.update h Kd i.u (by simp only [maxLen]; omega) hkey (d := .held val) (ps := []) rfl
  exact .of hrun (hk w' h1 h2)
theorem VSem.mapDel {key : Value} {kl : Lit} {K : Value → World → Prop} [i : TMap P t k e] (h : MapIs P k w b n D) (Kd : Keyed P k) (hkey : keyOf P k key = some kl)
    (hk : ∀ w', MapIs P k w' b n (D.del kl) → w.grownBy w' (some b) → K (.tuple #[]) w') : VSem P (Builtin.delete_ #[t, k] ty [.map (some b), key].toArray) w K := by
  obtain ⟨w', hrun, h1, h2⟩ := World.ownsMap.drop (ty := ty) h Kd i.u hkey
  exact .of hrun (hk w' h1 h2.grown)
theorem VRead.mapLen {K : Value → Prop} [i : TMap P t k e] (h : ∀ W, S W → MapIs P k W b n D) (hk : K (.int .i64 (Maps.size D))) : VRead P S (Builtin.len_ #[t] ty [.map (some b)].toArray) K :=
  .of (fun W hW => World.ownsMap.len (h W hW) i.u ty) hk
theorem VSem.makeMap {K : Value → World → Prop} (hk : ∀ w', MapIs P k w' w.heap.size 0 (.map []) → Below w.heap.size w w' → w'.heap.size = w.heap.size + 1 → K (.map (some w.heap.size)) w') : VSem P (Instr.makeMap t none) w K :=
  .of (v := .map (some w.heap.size)) (w' := w.alloc (.map #[] 0)) rfl (hk _ (World.ownsMap_made w P k RV) ((Below.refl _ _).alloc (Nat.le_refl _) _) (by simp))
/-- a range over a map under way -/
def RangeIs (P : Program) (k : TypeId) (W : World) (b r n : Nat) (D : DataW Value) (left : Lit → Bool) (cnt : Nat) : Prop := W.ranges P k RV b r n D left cnt
theorem RangeIs.map {r cnt : Nat} {left : Lit → Bool} (h : RangeIs P k w b r n D left cnt) : MapIs P k w b n D := World.ranges.owns h
theorem RangeIs.kept {w' : World} {row : Option Nat} {r cnt : Nat} {left : Lit → Bool} (h : RangeIs P k w b r n D left cnt) (hg : w.grownBy w' row) (hb : some b ≠ row) (hr : some r ≠ row) : RangeIs P k w' b r n D left cnt := World.ranges.kept h hg hb hr
theorem VSem.rangeM {K : Value → World → Prop} [i : TMap P t k e] (h : MapIs P k w b n D) (Kd : Keyed P k)
    (hk : ∀ w', RangeIs P k w' b w.heap.size n D (Maps.has D) (Maps.size D) → w.grownBy w' none → w'.heap.size = w.heap.size + 1 → K (.pointer (some ⟨w.heap.size, 0, none⟩)) w') : VSem P (Instr.range t (.map (some b))) w K := by
  obtain ⟨w', hrun, h1, h2, h3⟩ := World.ownsMap.range h Kd i.u
  exact .of hrun (hk w' h1 h2 h3)
theorem VSem.nextM {r cnt : Nat} {left : Lit → Bool} {K : Value → World → Prop} (h : RangeIs P k w b r n D left cnt) (Kd : Keyed P k)
    (h0 : cnt = 0 → (∀ kl, left kl = false) → K (.tuple #[.bool false]) w)
    (h1 : ∀ key v kl w' cnt', keyOf P k key = some kl → left kl = true → (∀ z, mval D kl z = v) → Maps.has D kl = true → RangeIs P k w' b r n D (fun x => left x && !x.sameKey kl) cnt' → cnt' < cnt → w.grownBy w' (some r) → w'.heap.size = w.heap.size →
      (Instr.entry (.pointer (some ⟨r, 0, none⟩))).run P w' = .ok (.tuple #[key, v]) w' → K (.tuple #[.bool true, key, v]) w') :
    VSem P (Instr.next (.pointer (some ⟨r, 0, none⟩)) false ty) w K := by
  rcases World.ranges.next h Kd ty with ⟨e0, e1, hrun⟩ | ⟨key, v, kl, y, w', cnt', e1, e2, e3, e4, hrun, e5, e6, e7, e8, e9⟩
  · exact .of hrun (h0 e0 e1)
  · have hy : y = (.held v, []) := by unfold RV at e3; injection e3 with e3; exact e3.symm
    subst hy
    refine .of hrun (h1 key v kl w' cnt' e1 e2 (fun z => ?_) ?_ e5 e6 e7 e8 e9)
    · unfold mval; rw [e4]
    · exact Maps.has_true_of_atKey e4
end
end Go.Proofs.Ytebeidnmplnlpaa
end

section
set_option maxRecDepth 10000
namespace Go.Proofs.Ytebeidnmplnlpaa
set_option linter.unusedVariables false
open Go.RowKit Go.Shelf Go.Sort

theorem sortStrs_row {P : Program} {ρ : Ren} (Ly : Lays.n190 P ρ) {W : World} {B e n c : Nat} {A : Option Addr} {l : List (List UInt8)} (h : W.ownsRow B e 1 (.slice A n c) n (l.map encStr)) (hn : n ≤ 1000000) :
    Calls P (ρ.f 190) #[.slice A n c] W fun r W' => r = .returned (.tuple #[]) ∧ W'.ownsRow B e 1 (.slice A n c) n ((l.mergeSort fun x y => decide (x ≤ y)).map encStr) ∧ W.grownBy W' (Value.slice A n c).ownBlock := by
  have hl : l.length = n := by have := h.1; simpa using this
  rcases h.2 with ⟨hv, h0⟩ | ⟨g, cap, cur, hv, hbg, hb, h1, h2, h3, h4⟩
  · injection hv with e1 e2 e3
    subst e1 e3 h0
    obtain rfl : l = [] := List.eq_nil_of_length_eq_zero hl
    refine (Any.slices_Sort_string_none Ly none 0 W).mono ?_
    rintro r W' ⟨rfl, rfl⟩
    exact ⟨rfl, by simpa using h, ⟨rfl, rfl, rfl, Nat.le_refl _, fun _ _ _ => rfl⟩⟩
  · injection hv with e1 e2 e3
    subst e1 e3
    subst hl
    refine (Any.slices_Sort_string Ly g 0 c l W (holds_of_block hb (by simpa using h4)) (Array.getElem?_eq_some_iff.1 hb).1 (by omega)).mono ?_
    rintro r W' ⟨rfl, N, os, rfl⟩
    exact ⟨rfl, ownsRow_sorted (by simp) hbg hb h1 h2 h3, grownBy_sorted _⟩
/-! ### the keys of a map, collected in whatever order, and sorted -/
end Go.Proofs.Ytebeidnmplnlpaa
end

section
set_option maxRecDepth 10000
namespace Go.Proofs.Ytebeidnmplnlpaa
set_option linter.unusedVariables false
open Go.RowKit
open Go.Maps (Keyed)
open Go.ChangeMaps Go.WideElems

section
variable {κ α : Type} [DecidableEq κ]
/-- what stands at a key -/
def tfind : List (κ × α) → κ → Option α
  | [], _ => none
  | (j, x) :: r, i => if j = i then some x else tfind r i
theorem tfind_none {i : κ} : ∀ {L : List (κ × α)}, tfind L i = none → i ∉ L.map (·.1)
  | [], _ => by simp
  | (j, x) :: r, h => by
    unfold tfind at h
    by_cases e : j = i
    · rw [if_pos e] at h; cases h
    · rw [if_neg e] at h
      have := tfind_none h
      simp only [List.map_cons, List.mem_cons, not_or]
      exact ⟨fun h' => e h'.symm, this⟩
theorem tfind_some {i : κ} {x : α} : ∀ {L : List (κ × α)}, tfind L i = some x → ∃ A B, L = A ++ (i, x) :: B
  | [], h => by cases h
  | (j, y) :: r, h => by
    unfold tfind at h
    by_cases e : j = i
    · rw [if_pos e] at h; injection h with h; subst h; subst e; exact ⟨[], r, rfl⟩
    · rw [if_neg e] at h
      obtain ⟨A, B, e'⟩ := tfind_some h
      exact ⟨(j, y) :: A, B, by rw [e']; rfl⟩
theorem tfind_mem {i : κ} {x : α} {L : List (κ × α)} (h : tfind L i = some x) : (i, x) ∈ L := by
  obtain ⟨A, B, rfl⟩ := tfind_some h; simp
theorem tfind_of {i : κ} {x : α} : ∀ {L : List (κ × α)}, (L.map (·.1)).Nodup → (i, x) ∈ L → tfind L i = some x
  | [], _, h => by cases h
  | (j, y) :: r, hn, h => by
    simp only [List.map_cons, List.nodup_cons] at hn
    unfold tfind
    rcases List.mem_cons.1 h with e | h
    · injection e with e1 e2; subst e1; subst e2; rw [if_pos rfl]
    · have : j ≠ i := fun e => hn.1 (by rw [e]; exact List.mem_map_of_mem h)
      rw [if_neg this]
      exact tfind_of hn.2 h
end
section
variable {κ α : Type}
/-- D holds, at the keys of L, what L says, and nothing else -/
structure Rel (P : Program) (k : TypeId) (val : κ → Value) (lit : κ → Lit) (enc : α → Value) (D : DataW Value) (L : List (κ × α)) : Prop where
  tidy : Maps.Tidy D
  nd : (L.map (·.1)).Nodup
  key : ∀ p ∈ L, keyOf P k (val p.1) = some (lit p.1)
  src : ∀ kl, Maps.has D kl = true → ∃ p ∈ L, kl = lit p.1
  has : ∀ p ∈ L, Maps.has D (lit p.1) = true
  at_ : ∀ p ∈ L, ∀ z, mval D (lit p.1) z = enc p.2
  size : Maps.size D = L.length
variable {P : Program} {k : TypeId} {val : κ → Value} {lit : κ → Lit} {enc : α → Value} {D : DataW Value} {L : List (κ × α)} {i : κ} {x y : α}
theorem Rel.empty : Rel P k val lit enc (.map []) ([] : List (κ × α)) :=
  ⟨Maps.tidy_empty, by simp, (by intro p h; cases h), (by intro kl h; simp [Maps.has] at h), (by intro p h; cases h), (by intro p h; cases h), rfl⟩
theorem mval_not {D : DataW Value} {kl : Lit} {z : Value} (h : Maps.has D kl = false) : mval D kl z = z := by
  unfold mval; rw [Maps.atKey_of_not_has h]
theorem Rel.hasF (R : Rel P k val lit enc D L) (hi : ∀ a b, lit a = lit b → a = b) (h : i ∉ L.map (·.1)) : Maps.has D (lit i) = false := by
  cases e : Maps.has D (lit i) with
  | false => rfl
  | true =>
    obtain ⟨p, hp, e'⟩ := R.src _ e
    exact absurd (by rw [hi _ _ e']; exact List.mem_map_of_mem hp) h
theorem Rel.perm {L' : List (κ × α)} (R : Rel P k val lit enc D L) (h : L.Perm L') : Rel P k val lit enc D L' :=
  ⟨R.tidy, ((h.map _).nodup_iff).1 R.nd, fun p hp => R.key p (h.mem_iff.2 hp), fun kl hk => by obtain ⟨p, hp, e⟩ := R.src kl hk; exact ⟨p, h.mem_iff.1 hp, e⟩,
    fun p hp => R.has p (h.mem_iff.2 hp), fun p hp => R.at_ p (h.mem_iff.2 hp), by rw [R.size, h.length_eq]⟩
theorem Rel.put (R : Rel P k val lit enc D L) (Kd : Keyed P k) (hi : ∀ a b, lit a = lit b → a = b) (hk : keyOf P k (val i) = some (lit i)) (h : i ∉ L.map (·.1)) :
    Rel P k val lit enc (D.put (lit i) (.held (enc x))) (L ++ [(i, x)]) := by
  have hl := Kd.key hk
  have hne : ∀ p ∈ L, lit p.1 ≠ lit i := fun p hp e => h (by rw [← hi _ _ e]; exact List.mem_map_of_mem hp)
  refine ⟨R.tidy.put hl _, ?_, ?_, ?_, ?_, ?_, ?_⟩
  · rw [List.map_append, List.nodup_append]
    refine ⟨R.nd, by simp, ?_⟩
    intro a ha b hb e
    simp at hb
    subst hb; subst e
    exact h ha
  · intro p hp
    rcases List.mem_append.1 hp with hp | hp
    · exact R.key p hp
    · simp at hp; subst hp; exact hk
  · intro kl hkl
    by_cases e : kl = lit i
    · exact ⟨(i, x), by simp, e⟩
    · rw [Maps.has_put_other e] at hkl
      obtain ⟨p, hp, e'⟩ := R.src kl hkl
      exact ⟨p, List.mem_append_left _ hp, e'⟩
  · intro p hp
    rcases List.mem_append.1 hp with hp | hp
    · rw [Maps.has_put_other (hne p hp)]; exact R.has p hp
    · simp at hp; subst hp; exact Maps.has_put_same R.tidy.isMap hl _
  · intro p hp z
    rcases List.mem_append.1 hp with hp | hp
    · rw [mval_put_other (hne p hp)]; exact R.at_ p hp z
    · simp at hp; subst hp; exact mval_put_same R.tidy.isMap hl
  · rw [Maps.size_put R.tidy, R.hasF hi h, R.size]
    simp
theorem Rel.set {A B : List (κ × α)} (R : Rel P k val lit enc D (A ++ (i, y) :: B)) (Kd : Keyed P k) (hi : ∀ a b, lit a = lit b → a = b) :
    Rel P k val lit enc (D.put (lit i) (.held (enc x))) (A ++ (i, x) :: B) := by
  have hk : keyOf P k (val i) = some (lit i) := R.key (i, y) (by simp)
  have hl := Kd.key hk
  have hm : ∀ p, p ∈ A ∨ p ∈ B → p ∈ A ++ (i, y) :: B := by intro p hp; simp; rcases hp with h | h <;> simp [h]
  have hnd := R.nd
  simp only [List.map_append, List.map_cons] at hnd
  have h0 : i ∉ A.map (·.1) ∧ i ∉ B.map (·.1) := by
    rw [List.nodup_append] at hnd
    refine ⟨fun h => hnd.2.2 i h i (List.mem_cons_self ..) rfl, ?_⟩
    exact (List.nodup_cons.1 hnd.2.1).1
  have hne : ∀ p, p ∈ A ∨ p ∈ B → lit p.1 ≠ lit i := fun p hp e => by
    have e := hi _ _ e
    rcases hp with hp | hp
    · exact h0.1 (by rw [← e]; exact List.mem_map_of_mem hp)
    · exact h0.2 (by rw [← e]; exact List.mem_map_of_mem hp)
  have hspl : ∀ p ∈ A ++ (i, x) :: B, (p ∈ A ∨ p ∈ B) ∨ p = (i, x) := by
    intro p hp; simp at hp; rcases hp with h | h | h
    · exact .inl (.inl h)
    · exact .inr h
    · exact .inl (.inr h)
  refine ⟨R.tidy.put hl _, by simpa using R.nd, ?_, ?_, ?_, ?_, ?_⟩
  · intro p hp
    rcases hspl p hp with h | rfl
    · exact R.key p (hm p h)
    · exact hk
  · intro kl hkl
    by_cases e : kl = lit i
    · exact ⟨(i, x), by simp, e⟩
    · rw [Maps.has_put_other e] at hkl
      obtain ⟨p, hp, e'⟩ := R.src kl hkl
      simp at hp
      rcases hp with h | h | h
      · exact ⟨p, by simp [h], e'⟩
      · subst h; exact absurd e' e
      · exact ⟨p, by simp [h], e'⟩
  · intro p hp
    rcases hspl p hp with h | rfl
    · rw [Maps.has_put_other (hne p h)]; exact R.has p (hm p h)
    · exact Maps.has_put_same R.tidy.isMap hl _
  · intro p hp z
    rcases hspl p hp with h | rfl
    · rw [mval_put_other (hne p h)]; exact R.at_ p (hm p h) z
    · exact mval_put_same R.tidy.isMap hl
  · rw [Maps.size_put R.tidy, R.has (i, y) (by simp), R.size]
    simp
theorem Rel.del {A B : List (κ × α)} (R : Rel P k val lit enc D (A ++ (i, y) :: B)) (hi : ∀ a b, lit a = lit b → a = b) :
    Rel P k val lit enc (D.del (lit i)) (A ++ B) := by
  have hm : ∀ p, p ∈ A ∨ p ∈ B → p ∈ A ++ (i, y) :: B := by intro p hp; simp; rcases hp with h | h <;> simp [h]
  have hnd := R.nd
  simp only [List.map_append, List.map_cons] at hnd
  rw [List.nodup_append] at hnd
  have h0 : i ∉ A.map (·.1) ∧ i ∉ B.map (·.1) := ⟨fun h => hnd.2.2 i h i (List.mem_cons_self ..) rfl, (List.nodup_cons.1 hnd.2.1).1⟩
  have hne : ∀ p, p ∈ A ∨ p ∈ B → lit p.1 ≠ lit i := fun p hp e => by
    have e := hi _ _ e
    rcases hp with hp | hp
    · exact h0.1 (by rw [← e]; exact List.mem_map_of_mem hp)
    · exact h0.2 (by rw [← e]; exact List.mem_map_of_mem hp)
  refine ⟨R.tidy.del _, ?_, ?_, ?_, ?_, ?_, ?_⟩
  · rw [List.map_append, List.nodup_append]
    exact ⟨hnd.1, (List.nodup_cons.1 hnd.2.1).2, fun a ha b hb => hnd.2.2 a ha b (List.mem_cons_of_mem _ hb)⟩
  · intro p hp; exact R.key p (hm p (List.mem_append.1 hp))
  · intro kl hkl
    by_cases e : kl = lit i
    · subst e; rw [Maps.has_del_same] at hkl; cases hkl
    · rw [Maps.has_del_other e] at hkl
      obtain ⟨p, hp, e'⟩ := R.src kl hkl
      simp at hp
      rcases hp with h | h | h
      · exact ⟨p, by simp [h], e'⟩
      · subst h; exact absurd e' e
      · exact ⟨p, by simp [h], e'⟩
  · intro p hp
    rw [Maps.has_del_other (hne p (List.mem_append.1 hp))]; exact R.has p (hm p (List.mem_append.1 hp))
  · intro p hp z
    unfold mval
    rw [Maps.atKey_del_other (hne p (List.mem_append.1 hp))]; exact R.at_ p (hm p (List.mem_append.1 hp)) z
  · have h1 := Maps.size_del R.tidy (k := lit i)
    rw [R.has (i, y) (by simp), R.size] at h1
    simp at h1 ⊢
    omega
theorem nodup_le {κ : Type} : ∀ {l m : List κ}, l.Nodup → (∀ a ∈ l, a ∈ m) → l.length ≤ m.length
  | [], _, _, _ => by simp
  | a :: l, m, hn, h => by
    obtain ⟨h1, h2⟩ := List.nodup_cons.1 hn
    obtain ⟨A, B, rfl⟩ := List.append_of_mem (h a (List.mem_cons_self ..))
    have := nodup_le (m := A ++ B) h2 (fun x hx => by
      have := h x (List.mem_cons_of_mem _ hx)
      simp at this ⊢
      rcases this with h' | h' | h'
      · exact .inl h'
      · subst h'; exact absurd hx h1
      · exact .inr h')
    simp at this ⊢
    omega
/-! ### the keys that a range has yet to tell -/
structure Todo (lit : κ → Lit) (L : List (κ × α)) (left : Lit → Bool) (acc : List κ) : Prop where
  nd : acc.Nodup
  sub : ∀ a ∈ acc, a ∈ L.map (·.1)
  cov : ∀ p ∈ L, p.1 ∈ acc ∨ left (lit p.1) = true
  out : ∀ a ∈ acc, left (lit a) = false
theorem Todo.start {left : Lit → Bool} (h : ∀ p ∈ L, left (lit p.1) = true) : Todo lit L left [] := ⟨by simp, by simp, fun p hp => .inr (h p hp), by simp⟩
theorem Todo.next {left : Lit → Bool} {acc : List κ} {kl : Lit} (T : Todo lit L left acc) (hi : ∀ a b, lit a = lit b → a = b) (hk : WideAt.IsKeyLit kl) (e : kl = lit i) (hm : i ∈ L.map (·.1)) (hl : left kl = true) :
    Todo lit L (fun x => left x && !x.sameKey kl) (acc ++ [i]) := by
  subst e
  refine ⟨?_, ?_, ?_, ?_⟩
  · rw [List.nodup_append]
    refine ⟨T.nd, by simp, ?_⟩
    intro a ha b hb e
    simp at hb; subst hb; subst e
    have := T.out a ha
    rw [hl] at this; cases this
  · intro a ha
    rcases List.mem_append.1 ha with h | h
    · exact T.sub a h
    · simp at h; subst h; exact hm
  · intro p hp
    by_cases e : p.1 = i
    · exact .inl (by simp [e])
    · rcases T.cov p hp with h | h
      · exact .inl (List.mem_append_left _ h)
      · right
        rw [h, Maps.sameKey_ne (fun e' => e (hi _ _ e'))]; rfl
  · intro a ha
    rcases List.mem_append.1 ha with h | h
    · rw [T.out a h]; rfl
    · simp at h; subst h
      rw [WideAt.sameKey_self hk]; simp
theorem Todo.all {left : Lit → Bool} {acc : List κ} (T : Todo lit L left acc) (h : ∀ kl, left kl = false) : ∀ a, a ∈ acc ↔ a ∈ L.map (·.1) := fun a =>
  ⟨T.sub a, fun ha => by
    obtain ⟨p, hp, rfl⟩ := List.mem_map.1 ha
    rcases T.cov p hp with h' | h'
    · exact h'
    · rw [h] at h'; cases h'⟩
theorem Todo.len {left : Lit → Bool} {acc : List κ} (T : Todo lit L left acc) : acc.length ≤ L.length := by
  have := nodup_le T.nd T.sub
  simpa using this
end
section
variable {P : Program} {k : TypeId} {W W' : World} {b r n : Nat} {D : DataW Value} {left : Lit → Bool} {cnt : Nat}
theorem RangeIs.of_same (h : RangeIs P k W b r n D left cnt) (h1 : W'.heap[b]? = W.heap[b]?) (h2 : W'.heap[r]? = W.heap[r]?) : RangeIs P k W' b r n D left cnt := by
  obtain ⟨es, clock, since, seen, c0, e1, e2, e3, e4, e5, e6⟩ := h
  exact ⟨es, clock, since, seen, c0, by rw [h1]; exact e1, e2, e3, e4, by rw [h2]; exact e5, e6⟩
theorem RangeIs.not_cells (h : RangeIs P k W b r n D left cnt) : ∀ g cs t fr, W.heap[g]? = some (Obj.cells cs t fr) → g ≠ b ∧ g ≠ r := by
  obtain ⟨es, clock, since, seen, c0, e1, e2, e3, e4, e5, e6⟩ := h
  intro g cs t fr hg
  refine ⟨fun e => ?_, fun e => ?_⟩
  · subst e; rw [e1] at hg; cases hg
  · subst e; rw [e5] at hg; cases hg
theorem RangeIs.lt (h : RangeIs P k W b r n D left cnt) : b < W.heap.size ∧ r < W.heap.size := by
  obtain ⟨es, clock, since, seen, c0, e1, e2, e3, e4, e5, e6⟩ := h
  exact ⟨(Array.getElem?_eq_some_iff.1 e1).1, (Array.getElem?_eq_some_iff.1 e5).1⟩
theorem row_cells {B e s m : Nat} {v : Value} {xs : List Value} (h : W.ownsRow B e s v m xs) : ∀ g, v.ownBlock = some g → B ≤ g ∧ ∃ cs, W.heap[g]? = some (Obj.cells cs e (0, 0)) := by
  intro g hg
  rcases h.2 with ⟨rfl, _⟩ | ⟨g', cap, cur, rfl, hB, hc, _⟩
  · simp [Value.ownBlock] at hg
  · have : g' = g := by simpa [Value.ownBlock] using hg
    subst this
    exact ⟨hB, cur, hc⟩
/-- a row of its own turns: the range goes on -/
theorem RangeIs.row {B e s m : Nat} {v : Value} {xs : List Value} (h : RangeIs P k W b r n D left cnt) (ho : W.ownsRow B e s v m xs) (hg : W.grownBy W' v.ownBlock) : RangeIs P k W' b r n D left cnt := by
  refine h.kept hg (fun e => ?_) (fun e => ?_)
  · obtain ⟨_, cs, hc⟩ := row_cells ho _ e.symm
    exact (h.not_cells _ _ _ _ hc).1 rfl
  · obtain ⟨_, cs, hc⟩ := row_cells ho _ e.symm
    exact (h.not_cells _ _ _ _ hc).2 rfl
theorem RangeIs.below {C : Nat} (h : RangeIs P k W b r n D left cnt) (hb : Below C W W') (hC : W.heap.size ≤ C) : RangeIs P k W' b r n D left cnt :=
  h.of_same (hb.block _ (Nat.lt_of_lt_of_le h.lt.1 hC)) (hb.block _ (Nat.lt_of_lt_of_le h.lt.2 hC))
/-- the range goes on: a row of its own stays -/
theorem row_range {B e s m : Nat} {v : Value} {xs : List Value} (ho : W.ownsRow B e s v m xs) (h : RangeIs P k W b r n D left cnt) (hg : W.grownBy W' (some r)) : W'.ownsRow B e s v m xs :=
  rows_apart ho hg (fun g hg' e => by
    obtain rfl := Option.some.inj hg'
    obtain ⟨_, cs, hc⟩ := row_cells ho _ e
    exact (h.not_cells _ _ _ _ hc).2 rfl)
end
theorem kRk {P : Program} {S : World → Prop} {t : TypeId} {x y : Operand} {K : Value → Prop} [i : TPtr P t] (hk : K (.bool true)) :
    VRead P S (do eqGuard .eql t x y (.pointer none) (.pointer none); binOp .eql t (.pointer none) (.pointer none)) K := by
  obtain ⟨e, he⟩ := i.u
  refine .ofW (fun W => ?_) hk
  rw [Sem.run_bind, show (eqGuard .eql t x y (.pointer none) (.pointer none)).run P W = .ok () W from rfl]
  have hp : P.underlying t = some (.pointer (P.pointee t)) := by rw [he]; unfold Program.pointee; rw [he]
  simp only [Result.andThen_ok]
  rw [run_eql_pointer_nil W t none hp]
  rfl
end Go.Proofs.Ytebeidnmplnlpaa
end

section
namespace Go.Proofs.Ytebeidnmplnlpaa
set_option linter.unusedVariables false

class TO (κ : Type) [LT κ] : Prop where
  irr : ∀ a : κ, ¬ a < a
  tr : ∀ a b c : κ, a < b → b < c → a < c
  tri : ∀ a b : κ, a < b ∨ a = b ∨ b < a
instance : TO Int := ⟨fun a => by omega, fun a b c => by omega, fun a b => by omega⟩
instance : TO (List UInt8) := ⟨fun a => List.lt_irrefl a, fun a b c h1 h2 => List.lt_trans h1 h2, fun a b => by
  rcases Decidable.em (a < b) with h | h
  · exact .inl h
  · rcases Decidable.em (b < a) with h' | h'
    · exact .inr (.inr h')
    · exact .inr (.inl (List.le_antisymm h' h))⟩
section
variable {κ α : Type} [LT κ] [DecidableLT κ] [DecidableEq κ] [TO κ]
def Rising (L : List (κ × α)) : Prop := (L.map (·.1)).Pairwise (· < ·)
omit [DecidableLT κ] [DecidableEq κ] in
theorem Rising.nd {L : List (κ × α)} (h : Rising L) : (L.map (·.1)).Nodup := h.imp (fun {a b} hab e => by subst e; exact TO.irr _ hab)
def tset : List (κ × α) → κ → α → List (κ × α)
  | [], i, x => [(i, x)]
  | (j, y) :: r, i, x => if i < j then (i, x) :: (j, y) :: r else if j = i then (i, x) :: r else (j, y) :: tset r i x
def tdel (L : List (κ × α)) (i : κ) : List (κ × α) := L.filter (fun p => decide (p.1 ≠ i))
omit [DecidableLT κ] [TO κ] [LT κ] in
theorem tdel_eq {A B : List (κ × α)} {i : κ} {y : α} (h : ((A ++ (i, y) :: B).map (·.1)).Nodup) : tdel (A ++ (i, y) :: B) i = A ++ B := by
  simp only [List.map_append, List.map_cons] at h
  rw [List.nodup_append] at h
  unfold tdel
  rw [List.filter_append, List.filter_cons]
  simp only [ne_eq, not_true_eq_false, decide_false, Bool.false_eq_true, ↓reduceIte]
  rw [List.filter_eq_self.2, List.filter_eq_self.2]
  · intro p hp; simp; intro e
    exact (List.nodup_cons.1 h.2.1).1 (by rw [← e]; exact List.mem_map_of_mem hp)
  · intro p hp; simp; intro e
    exact h.2.2 p.1 (List.mem_map_of_mem hp) i (List.mem_cons_self ..) e
omit [DecidableLT κ] [TO κ] [LT κ] in
theorem tdel_not {L : List (κ × α)} {i : κ} (h : i ∉ L.map (·.1)) : tdel L i = L := by
  unfold tdel
  rw [List.filter_eq_self.2]
  intro p hp; simp; intro e
  exact h (by rw [← e]; exact List.mem_map_of_mem hp)
theorem tset_old {i : κ} {x y : α} : ∀ {A B : List (κ × α)}, Rising (A ++ (i, y) :: B) → tset (A ++ (i, y) :: B) i x = A ++ (i, x) :: B
  | [], B, _ => by simp [tset, TO.irr]
  | (j, z) :: A, B, h => by
    have h' : j < i := by
      unfold Rising at h
      simp only [List.map_append, List.map_cons, List.cons_append] at h
      exact (List.pairwise_cons.1 h).1 i (by simp)
    have h1 : ¬ i < j := fun h1 => TO.irr _ (TO.tr _ _ _ h' h1)
    have h2 : j ≠ i := fun e => by subst e; exact TO.irr _ h'
    show tset ((j, z) :: (A ++ (i, y) :: B)) i x = _
    unfold tset
    rw [if_neg h1, if_neg h2, tset_old]
    · rfl
    · unfold Rising at *
      simp only [List.map_append, List.map_cons, List.cons_append] at h ⊢
      exact (List.pairwise_cons.1 h).2
omit [TO κ] in
theorem tset_new {i : κ} {x : α} : ∀ {L : List (κ × α)}, i ∉ L.map (·.1) → ∃ A B, L = A ++ B ∧ tset L i x = A ++ (i, x) :: B
  | [], _ => ⟨[], [], rfl, rfl⟩
  | (j, z) :: L, h => by
    simp only [List.map_cons, List.mem_cons, not_or] at h
    unfold tset
    by_cases h1 : i < j
    · rw [if_pos h1]; exact ⟨[], (j, z) :: L, rfl, rfl⟩
    · rw [if_neg h1, if_neg (fun e => h.1 e.symm)]
      obtain ⟨A, B, e1, e2⟩ := tset_new (x := x) h.2
      exact ⟨(j, z) :: A, B, by rw [e1]; rfl, by rw [e2]; rfl⟩
omit [TO κ] in
theorem tset_perm {i : κ} {x : α} {L : List (κ × α)} (h : i ∉ L.map (·.1)) : (L ++ [(i, x)]).Perm (tset L i x) := by
  obtain ⟨A, B, rfl, e⟩ := tset_new (x := x) h
  rw [e, List.append_assoc]
  exact List.Perm.append_left A List.perm_append_comm
omit [TO κ] in
theorem tset_keys {i a : κ} {x : α} : ∀ {L : List (κ × α)}, a ∈ (tset L i x).map (·.1) → a = i ∨ a ∈ L.map (·.1)
  | [], h => by simp [tset] at h; exact .inl h
  | (j, z) :: L, h => by
    unfold tset at h
    by_cases h1 : i < j
    · rw [if_pos h1] at h
      simp only [List.map_cons, List.mem_cons] at h ⊢
      exact h
    · rw [if_neg h1] at h
      by_cases h2 : j = i
      · rw [if_pos h2] at h
        simp only [List.map_cons, List.mem_cons] at h ⊢
        rcases h with h | h
        · exact .inl h
        · exact .inr (.inr h)
      · rw [if_neg h2] at h
        simp only [List.map_cons, List.mem_cons] at h ⊢
        rcases h with h | h
        · exact .inr (.inl h)
        · rcases tset_keys h with h | h
          · exact .inl h
          · exact .inr (.inr h)
theorem Rising.set {i : κ} {x : α} : ∀ {L : List (κ × α)}, Rising L → Rising (tset L i x)
  | [], _ => by simp [tset, Rising]
  | (j, z) :: L, h => by
    have h' : (∀ a ∈ L.map (·.1), j < a) ∧ Rising L := by
      unfold Rising at *
      simp only [List.map_cons] at h
      exact ⟨(List.pairwise_cons.1 h).1, (List.pairwise_cons.1 h).2⟩
    unfold tset
    by_cases h1 : i < j
    · rw [if_pos h1]
      unfold Rising at *
      simp only [List.map_cons] at h ⊢
      refine List.pairwise_cons.2 ⟨fun a ha => ?_, h⟩
      rcases List.mem_cons.1 ha with e | ha
      · rw [e]; exact h1
      · exact TO.tr _ _ _ h1 (h'.1 a ha)
    · rw [if_neg h1]
      by_cases h2 : j = i
      · rw [if_pos h2]
        subst h2
        unfold Rising at *
        simpa only [List.map_cons] using h
      · rw [if_neg h2]
        have ih := Rising.set (i := i) (x := x) h'.2
        unfold Rising at ih ⊢
        simp only [List.map_cons]
        refine List.pairwise_cons.2 ⟨fun a ha => ?_, ih⟩
        rcases tset_keys ha with e | ha
        · rw [e]
          rcases TO.tri i j with c | c | c
          · exact absurd c h1
          · exact absurd c.symm h2
          · exact c
        · exact h'.1 a ha
omit [DecidableLT κ] [TO κ] in
theorem Rising.del {i : κ} {L : List (κ × α)} (h : Rising L) : Rising (tdel L i) := by
  unfold Rising tdel at *
  exact h.sublist (List.filter_sublist.map _)
omit [DecidableLT κ] [DecidableEq κ] in
/-- two rising lists of the same members are one -/
theorem rising_one : ∀ {l m : List κ}, l.Pairwise (· < ·) → m.Pairwise (· < ·) → (∀ x, x ∈ l ↔ x ∈ m) → l = m
  | [], [], _, _, _ => rfl
  | [], y :: m, _, _, h => by have := (h y).2 (List.mem_cons_self ..); cases this
  | x :: l, [], _, _, h => by have := (h x).1 (List.mem_cons_self ..); cases this
  | x :: l, y :: m, h1, h2, h => by
    obtain ⟨a1, a2⟩ := List.pairwise_cons.1 h1
    obtain ⟨b1, b2⟩ := List.pairwise_cons.1 h2
    have e : x = y := by
      rcases List.mem_cons.1 ((h x).1 (List.mem_cons_self ..)) with e | c1
      · exact e
      · rcases List.mem_cons.1 ((h y).2 (List.mem_cons_self ..)) with e | c2
        · exact e.symm
        · exact absurd (TO.tr _ _ _ (b1 x c1) (a1 y c2)) (TO.irr _)
    subst e
    rw [rising_one a2 b2 (fun z => by
      constructor
      · intro hz
        rcases List.mem_cons.1 ((h z).1 (List.mem_cons_of_mem _ hz)) with e | c
        · rw [e] at hz; exact absurd (a1 x hz) (TO.irr _)
        · exact c
      · intro hz
        rcases List.mem_cons.1 ((h z).2 (List.mem_cons_of_mem _ hz)) with e | c
        · rw [e] at hz; exact absurd (b1 x hz) (TO.irr _)
        · exact c)]
end
/-- the keys of a sorted table, from any order -/
theorem sorted_keys {α : Type} {L : List (List UInt8 × α)} (hR : Rising L) {acc : List (List UInt8)} (hn : acc.Nodup) (h : ∀ a, a ∈ acc ↔ a ∈ L.map (·.1)) : (acc.mergeSort fun x y => decide (x ≤ y)) = L.map (·.1) := by
  refine rising_one ?_ hR (fun x => by rw [(List.mergeSort_perm acc _).mem_iff]; exact h x)
  have h1 : (acc.mergeSort fun x y => decide (x ≤ y)).Pairwise (fun a b => decide (a ≤ b) = true) := List.pairwise_mergeSort (fun a b c h1 h2 => by simp at *; exact List.le_trans h1 h2) (fun a b => by simp; exact List.le_total a b) acc
  have h2 : (acc.mergeSort fun x y => decide (x ≤ y)).Nodup := (List.mergeSort_perm acc _).nodup_iff.2 hn
  exact (h1.and h2).imp (fun {a b} h => by
    have h4 : a ≤ b := by simpa using h.1
    rcases TO.tri a b with c | c | c
    · exact c
    · exact absurd c h.2
    · exact absurd c h4)
/-! ### tables whose values are mapped -/
section
variable {κ α β : Type}
def tmap (f : α → β) (L : List (κ × α)) : List (κ × β) := L.map fun p => (p.1, f p.2)
theorem tmap_keys (f : α → β) (L : List (κ × α)) : (tmap f L).map (·.1) = L.map (·.1) := by unfold tmap; rw [List.map_map]; rfl
theorem tmap_length (f : α → β) (L : List (κ × α)) : (tmap f L).length = L.length := by unfold tmap; simp
theorem tmap_find [DecidableEq κ] (f : α → β) (i : κ) : ∀ L : List (κ × α), tfind (tmap f L) i = (tfind L i).map f
  | [] => rfl
  | (j, x) :: r => by
    show tfind ((j, f x) :: tmap f r) i = _
    unfold tfind
    by_cases e : j = i
    · rw [if_pos e, if_pos e]; rfl
    · rw [if_neg e, if_neg e]; exact tmap_find f i r
theorem tmap_set [LT κ] [DecidableLT κ] [DecidableEq κ] (f : α → β) (i : κ) (x : α) : ∀ L : List (κ × α), tmap f (tset L i x) = tset (tmap f L) i (f x)
  | [] => rfl
  | (j, y) :: r => by
    show _ = tset ((j, f y) :: tmap f r) i (f x)
    unfold tset
    by_cases h : i < j
    · rw [if_pos h, if_pos h]; rfl
    · rw [if_neg h, if_neg h]
      by_cases e : j = i
      · rw [if_pos e, if_pos e]; rfl
      · rw [if_neg e, if_neg e, ← tmap_set f i x r]; rfl
theorem tmap_del [DecidableEq κ] (f : α → β) (i : κ) : ∀ L : List (κ × α), tmap f (tdel L i) = tdel (tmap f L) i
  | [] => rfl
  | (j, y) :: r => by
    have ih := tmap_del f i r
    show tmap f (tdel ((j, y) :: r) i) = tdel ((j, f y) :: tmap f r) i
    unfold tdel at ih ⊢
    rw [List.filter_cons, List.filter_cons]
    by_cases e : j = i
    · simp only [e, ne_eq, not_true_eq_false, decide_false, Bool.false_eq_true, ↓reduceIte]; exact ih
    · simp only [ne_eq, e, not_false_eq_true, decide_true, ↓reduceIte]
      rw [← ih]; rfl
end
section
variable {κ α : Type} [LT κ] [DecidableLT κ] [DecidableEq κ] [TO κ]
omit [DecidableLT κ] [DecidableEq κ] [TO κ] in
theorem rising_tmap {β : Type} (f : α → β) (L : List (κ × α)) : Rising (tmap f L) ↔ Rising L := by unfold Rising; rw [tmap_keys]
theorem tset_perm2 {L : List (κ × α)} (h : Rising L) (i : κ) (x : α) : (tset L i x).Perm ((i, x) :: tdel L i) := by
  cases hf : tfind L i with
  | none =>
    rw [tdel_not (tfind_none hf)]
    exact (tset_perm (tfind_none hf)).symm.trans (List.perm_append_comm (l₁ := L) (l₂ := [(i, x)]))
  | some y =>
    obtain ⟨A, B, rfl⟩ := tfind_some hf
    rw [tset_old h, tdel_eq h.nd]
    exact List.perm_middle
theorem mem_tset {L : List (κ × α)} (h : Rising L) {i : κ} {x : α} {p : κ × α} (hp : p ∈ tset L i x) : p = (i, x) ∨ p ∈ tdel L i := by
  simpa using (tset_perm2 h i x).mem_iff.1 hp
omit [DecidableLT κ] [TO κ] [LT κ] in
theorem mem_tdel {L : List (κ × α)} {i : κ} {p : κ × α} (hp : p ∈ tdel L i) : p ∈ L ∧ p.1 ≠ i := by
  unfold tdel at hp
  have := List.mem_filter.1 hp
  exact ⟨this.1, by simpa using this.2⟩
omit [DecidableLT κ] [TO κ] [LT κ] in
theorem tdel_le {L : List (κ × α)} (i : κ) : (tdel L i).length ≤ L.length := List.length_filter_le _ _
theorem tset_length {L : List (κ × α)} (h : Rising L) (i : κ) (x : α) : (tset L i x).length = (tdel L i).length + 1 := by
  have := (tset_perm2 h i x).length_eq
  simpa using this
omit [DecidableLT κ] in
theorem tdel_length {L : List (κ × α)} (h : Rising L) {i : κ} {x : α} (hf : tfind L i = some x) : L.length = (tdel L i).length + 1 := by
  obtain ⟨A, B, rfl⟩ := tfind_some hf
  rw [tdel_eq h.nd]
  simp; omega
end
end Go.Proofs.Ytebeidnmplnlpaa
end

section
set_option maxRecDepth 10000
namespace Go.Proofs.Ytebeidnmplnlpaa
set_option linter.unusedVariables false
open Go.RowKit
open Go.Maps (Keyed)
open Go.ChangeMaps Go.WideElems

/-! ### the plain disk -/
structure Fl where
  b : List UInt8
  sure : Nat
structure Dk where
  room : Int
  calls : Int
  armed : Bool
  kind : Int
  after : Int
  off : Bool
abbrev PT := List (List UInt8 × Fl)
structure DS where
  k : Dk
  t : PT
abbrev DTb := List (List UInt8 × (Nat × Fl))
abbrev plain (L : DTb) : PT := tmap (fun p : Nat × Fl => p.2) L
/-- how a call begins -/
def Dk.call (K : Dk) : Int × Dk :=
  if K.off then (19, { K with calls := K.calls + 1 }) else if !K.armed then (0, { K with calls := K.calls + 1 })
  else if 0 < K.after then (0, { K with calls := K.calls + 1, after := K.after - 1 })
  else (K.kind, { K with calls := K.calls + 1, armed := false, off := decide (K.kind = 19) })
def used : PT → Nat
  | [] => 0
  | p :: r => p.2.b.length + used r
def nameOk (s : List UInt8) : Prop := 1 ≤ s.length ∧ s.length ≤ 32
instance (s : List UInt8) : Decidable (nameOk s) := by unfold nameOk; infer_instance
structure KWf (K : Dk) : Prop where
  room : 0 ≤ K.room ∧ K.room ≤ 16777216
  calls : 0 ≤ K.calls ∧ K.calls ≤ 1000000
  after : 0 ≤ K.after ∧ K.after ≤ 9223372036854775807
structure TWf (room : Int) (T : PT) : Prop where
  fit : (used T : Int) ≤ room
  few : T.length ≤ 64
  names : ∀ p ∈ T, nameOk p.1
  ris : Rising T
  sure : ∀ p ∈ T, p.2.sure ≤ p.2.b.length
structure DWf (S : DS) : Prop where
  k : KWf S.k
  t : TWf S.k.room S.t
theorem Dk.call_room (K : Dk) : K.call.2.room = K.room := by
  unfold Dk.call; split
  · rfl
  · split
    · rfl
    · split <;> rfl
theorem Dk.call_calls (K : Dk) : K.call.2.calls = K.calls + 1 := by
  unfold Dk.call; split
  · rfl
  · split
    · rfl
    · split <;> rfl
theorem KWf.call {K : Dk} (h : KWf K) (hc : K.calls < 1000000) : KWf K.call.2 := by
  have h1 := h.room; have h2 := h.calls; have h3 := h.after
  refine ⟨by rw [Dk.call_room]; exact h1, by rw [Dk.call_calls]; omega, ?_⟩
  unfold Dk.call; split
  · exact h3
  · split
    · exact h3
    · split
      · simp only; omega
      · exact h3
/-! ### in memory -/
def dC (K : Dk) (m : Nat) : Array Value := #[.int .i64 K.room, .map (some m), .int .i64 K.calls, .bool K.armed, .int .i64 K.kind, .int .i64 K.after, .bool K.off]
def pEnc (p : Nat × Fl) : Value := .pointer (some ⟨p.1, 0, none⟩)
def slit (s : List UInt8) : Lit := .string s
theorem slit_inj (a b : List UInt8) (h : slit a = slit b) : a = b := by unfold slit at h; injection h
def FlAt (W : World) (U : Foot) (g : Nat) (f : Fl) : Prop := U g ∧ ∃ A c, Blk W g 90 #[.slice A f.b.length c, .int .i64 f.sure] ∧ f.b.length ≤ c ∧ Lies W U A f.b.length f.b
def MapOk (W : World) (m c : Nat) (L : DTb) : Prop := ∃ n D, n ≤ c ∧ MapIs Try.prog 9 W m n D ∧ Rel Try.prog 9 encStr slit pEnc D L
structure DiskAt (W : World) (U : Foot) (d m c : Nat) (K : Dk) (L : DTb) : Prop where
  hd : U d
  hm : U m
  blk : Blk W d 80 (dC K m)
  map : MapOk W m c L
  fl : ∀ p ∈ L, FlAt W U p.2.1 p.2.2
  nd : (L.map (·.2.1)).Nodup
  ris : Rising L
/-- a disk -/
def Disk (W : World) (U : Foot) (d : Nat) (S : DS) : Prop := DWf S ∧ ∃ m c L, DiskAt W U d m c S.k L ∧ (c : Int) ≤ S.k.calls ∧ plain L = S.t
theorem str_keyed : Keyed Try.prog 9 := Maps.string_keyed Try.underlying9
theorem str_key {s : List UInt8} (h : s.length ≤ 9223372036854775807) : keyOf Try.prog 9 (encStr s) = some (slit s) := by
  rw [keyOf_string Try.underlying9]
  unfold mapKey
  rw [Try.underlying9]
  simp [encStr, slit, ByteArray.size, maxLen, h]
section
variable {W W' : World} {U V : Foot} {d m c g k : Nat} {K K' : Dk} {L : DTb} {f : Fl}
theorem FlAt.stay (h : FlAt W U g f) (hs : W.heap.size ≤ W'.heap.size) (hk : ∀ j, j < W.heap.size → U j → W'.heap[j]? = W.heap[j]?) : FlAt W' U g f := by
  obtain ⟨h1, A, c, h3, h4, h5⟩ := h
  exact ⟨h1, A, c, (hk g h3.lt h1).trans h3, h4, h5.stay hs hk⟩
theorem FlAt.more (h : FlAt W U g f) (hV : ∀ j, j < W.heap.size → U j → V j) : FlAt W V g f := by
  obtain ⟨h1, A, c, h3, h4, h5⟩ := h
  exact ⟨hV g h3.lt h1, A, c, h3, h4, h5.more hV⟩
theorem FlAt.lt (h : FlAt W U g f) : g < W.heap.size := by
  obtain ⟨_, A, c, h3, _⟩ := h; exact h3.lt
theorem MapOk.lt (h : MapOk W m c L) : m < W.heap.size := by obtain ⟨n, D, h1, h2, h3⟩ := h; exact h2.lt
theorem MapOk.stay (h : MapOk W m c L) (hk : W'.heap[m]? = W.heap[m]?) : MapOk W' m c L := by
  obtain ⟨n, D, h1, ⟨es, clock, h2, h4⟩, h3⟩ := h
  exact ⟨n, D, h1, ⟨es, clock, by rw [hk]; exact h2, h4⟩, h3⟩
theorem MapOk.kept {row : Option Nat} (h : MapOk W m c L) (hg : W.grownBy W' row) (hne : some m ≠ row) : MapOk W' m c L := by
  obtain ⟨n, D, h1, h2, h3⟩ := h
  exact ⟨n, D, h1, h2.kept hg hne, h3⟩
theorem MapOk.grow {c' : Nat} (h : MapOk W m c L) (hc : c ≤ c') : MapOk W m c' L := by
  obtain ⟨n, D, h1, h2⟩ := h
  exact ⟨n, D, Nat.le_trans h1 hc, h2⟩
theorem MapOk.not_blk {T : TypeId} {cs : Array Value} (h : MapOk W m c L) (hb : Blk W g T cs) : m ≠ g := by
  obtain ⟨n, D, h1, ⟨es, clock, h2, _⟩, h3⟩ := h
  intro e; subst e
  unfold Blk at hb
  rw [h2] at hb
  cases hb
theorem FlAt.blk {T : TypeId} {cs : Array Value} (h : FlAt W U g f) (hb : Blk W k T cs) (hg : W.grownBy W' (some k)) (hne : 5 ≠ T) (hk : g ≠ k) : FlAt W' U g f := by
  obtain ⟨h1, A, c, h3, h4, h5⟩ := h
  exact ⟨h1, A, c, h3.grown hg (fun e => hk (Option.some.inj e)), h4, h5.blk hb hg hne⟩
theorem FlAt.map (h : FlAt W U g f) (hm : MapOk W m c L) (hg : W.grownBy W' (some m)) : FlAt W' U g f := by
  obtain ⟨h1, A, k, h3, h4, h5⟩ := h
  refine ⟨h1, A, k, h3.grown hg (fun e => hm.not_blk h3 (Option.some.inj e).symm), h4, h5.apart hg (fun k hk cs fr hc => ?_)⟩
  obtain rfl := Option.some.inj hk
  obtain ⟨n, D, _, ⟨es, clock, e2, _⟩, _⟩ := hm
  rw [hc] at e2; cases e2
theorem DiskAt.stay (h : DiskAt W U d m c K L) (hs : W.heap.size ≤ W'.heap.size) (hk : ∀ j, j < W.heap.size → U j → W'.heap[j]? = W.heap[j]?) : DiskAt W' U d m c K L :=
  ⟨h.hd, h.hm, (hk d h.blk.lt h.hd).trans h.blk, h.map.stay (hk m h.map.lt h.hm), fun p hp => (h.fl p hp).stay hs hk, h.nd, h.ris⟩
theorem DiskAt.more (h : DiskAt W U d m c K L) (hV : ∀ j, j < W.heap.size → U j → V j) : DiskAt W V d m c K L :=
  ⟨hV d h.blk.lt h.hd, hV m h.map.lt h.hm, h.blk, h.map, fun p hp => (h.fl p hp).more hV, h.nd, h.ris⟩
theorem DiskAt.below {C : Nat} (h : DiskAt W U d m c K L) (hb : Below C W W') (hC : W.heap.size ≤ C) : DiskAt W' U d m c K L :=
  h.stay hb.size (fun j hj _ => hb.block j (Nat.lt_of_lt_of_le hj hC))
theorem DiskAt.grow {c' : Nat} (h : DiskAt W U d m c K L) (hc : c ≤ c') : DiskAt W U d m c' K L := ⟨h.hd, h.hm, h.blk, h.map.grow hc, h.fl, h.nd, h.ris⟩
/-- the disk's own cells turn -/
theorem DiskAt.own (h : DiskAt W U d m c K L) (hb : Blk W' d 80 (dC K' m)) (hg : W.grownBy W' (some d)) : DiskAt W' U d m c K' L :=
  ⟨h.hd, h.hm, hb, h.map.kept hg (fun e => h.map.not_blk h.blk (Option.some.inj e)), fun p hp => (h.fl p hp).blk h.blk hg (by decide) (by
    obtain ⟨_, A, k, h3, _⟩ := h.fl p hp
    exact h3.ne_ h.blk (by decide)), h.nd, h.ris⟩
variable {S : DS}
theorem Disk.stay (h : Disk W U d S) (hs : W.heap.size ≤ W'.heap.size) (hk : ∀ j, j < W.heap.size → U j → W'.heap[j]? = W.heap[j]?) : Disk W' U d S := by
  obtain ⟨h0, m, c, L, h1, h2, h3⟩ := h
  exact ⟨h0, m, c, L, h1.stay hs hk, h2, h3⟩
theorem Disk.more (h : Disk W U d S) (hV : ∀ j, j < W.heap.size → U j → V j) : Disk W V d S := by
  obtain ⟨h0, m, c, L, h1, h2, h3⟩ := h
  exact ⟨h0, m, c, L, h1.more hV, h2, h3⟩
theorem Disk.below {C : Nat} (h : Disk W U d S) (hb : Below C W W') (hC : W.heap.size ≤ C) : Disk W' U d S :=
  h.stay hb.size (fun j hj _ => hb.block j (Nat.lt_of_lt_of_le hj hC))
end

set_option maxHeartbeats 1000000 in
theorem dCall_at (W : World) (U : Foot) (d m c : Nat) (K : Dk) (L : DTb) (h : DiskAt W U d m c K L) (hw : KWf K) :
    Calls Try.prog 57 #[.pointer (some ⟨d, 0, none⟩)] W fun e W' => e = .returned (.int .i64 K.call.1) ∧ DiskAt W' U d m c K.call.2 L ∧ W.grownBy W' (some d) := by
  obtain ⟨room, calls, armed, kind, after, off⟩ := K
  have hc := hw.calls
  have ha := hw.after
  simp only at hc ha
  have hb : Blk W d 80 #[.int .i64 room, .map (some m), .int .i64 calls, .bool armed, .int .i64 kind, .int .i64 after, .bool off] := h.blk
  refine calls_vc Try.func57 rfl (by kernel_rfl) ?_
  ((conv => whnf); (repeat ((first|refine kLa ?_|refine kLb ?_|refine kCa rfl ?_|refine kCb ?_|refine kCc ?_|refine kCd ?_|refine kCe ?_|refine kCf ?_|refine kCg ?_|refine kCh ?_|refine kCi ?_|refine kCj ?_|refine kQa ?_|refine kQb ?_|refine kGa ?_|refine kGb ?_|refine kHa ?_|refine kHb ?_); (conv => whnf))))
  (repeat (first | ((first|refine kLa ?_|refine kLb ?_|refine kCa rfl ?_|refine kCb ?_|refine kCc ?_|refine kCd ?_|refine kCe ?_|refine kCf ?_|refine kCg ?_|refine kCh ?_|refine kCi ?_|refine kCj ?_|refine kQa ?_|refine kQb ?_|refine kGa ?_|refine kGb ?_|refine kHa ?_|refine kHb ?_|refine kPa ?_|refine kPb ?_|refine kPc ?_|refine kEa ?_|refine kEb ?_|refine kBa ?_|refine kBb ?_|refine kBc (by omega) ?_|refine kBd (by omega) ?_|refine kBe (by omega) ?_|refine kBf (by omega) ?_|refine kRa ?_|refine kRb ?_|refine VRead.fld ?_|refine VRead.load1 (by assumption) ?_|refine VRead.load (by assumption) ?_|refine kRf ?_|refine kRg ?_|refine kRh ?_|refine kRi ?_|refine kBe rfl ?_|refine kBc rfl ?_|refine kWa (by omega) (by omega) ?_|refine kWb (by omega) (by omega) ?_|refine kRj (by omega) ?_|refine kRk ?_|refine VSem.convI ?_|refine VRead.convI ?_|refine VRead.rem (by omega) (by decide) ?_|refine VRead.neg ?_|refine VC.seq ?_); (conv => whnf)) | (refine VRead.loadB hb rfl rfl ?_; (conv => whnf))))
  refine VUnit.storeB hb rfl rfl rfl ?_
  intro W1 hb1 hg1
  replace hb1 : Blk W1 d 80 #[.int .i64 room, .map (some m), .int .i64 (calls + 1), .bool armed, .int .i64 kind, .int .i64 after, .bool off] := hb1
  have h1 : DiskAt W1 U d m c ⟨room, calls + 1, armed, kind, after, off⟩ L := h.own hb1 hg1
  ((conv => whnf); (repeat ((first|refine kLa ?_|refine kLb ?_|refine kCa rfl ?_|refine kCb ?_|refine kCc ?_|refine kCd ?_|refine kCe ?_|refine kCf ?_|refine kCg ?_|refine kCh ?_|refine kCi ?_|refine kCj ?_|refine kQa ?_|refine kQb ?_|refine kGa ?_|refine kGb ?_|refine kHa ?_|refine kHb ?_); (conv => whnf))))
  (repeat (first | ((first|refine kLa ?_|refine kLb ?_|refine kCa rfl ?_|refine kCb ?_|refine kCc ?_|refine kCd ?_|refine kCe ?_|refine kCf ?_|refine kCg ?_|refine kCh ?_|refine kCi ?_|refine kCj ?_|refine kQa ?_|refine kQb ?_|refine kGa ?_|refine kGb ?_|refine kHa ?_|refine kHb ?_|refine kPa ?_|refine kPb ?_|refine kPc ?_|refine kEa ?_|refine kEb ?_|refine kBa ?_|refine kBb ?_|refine kBc (by omega) ?_|refine kBd (by omega) ?_|refine kBe (by omega) ?_|refine kBf (by omega) ?_|refine kRa ?_|refine kRb ?_|refine VRead.fld ?_|refine VRead.load1 (by assumption) ?_|refine VRead.load (by assumption) ?_|refine kRf ?_|refine kRg ?_|refine kRh ?_|refine kRi ?_|refine kBe rfl ?_|refine kBc rfl ?_|refine kWa (by omega) (by omega) ?_|refine kWb (by omega) (by omega) ?_|refine kRj (by omega) ?_|refine kRk ?_|refine VSem.convI ?_|refine VRead.convI ?_|refine VRead.rem (by omega) (by decide) ?_|refine VRead.neg ?_|refine VC.seq ?_); (conv => whnf)) | (refine VRead.loadB hb1 rfl rfl ?_; (conv => whnf))))
  cases off with
  | true =>
    ((repeat ((first|refine kLa ?_|refine kLb ?_|refine kCa rfl ?_|refine kCb ?_|refine kCc ?_|refine kCd ?_|refine kCe ?_|refine kCf ?_|refine kCg ?_|refine kCh ?_|refine kCi ?_|refine kCj ?_|refine kQa ?_|refine kQb ?_|refine kGa ?_|refine kGb ?_|refine kHa ?_|refine kHb ?_|refine kPa ?_|refine kPb ?_|refine kPc ?_|refine kEa ?_|refine kEb ?_|refine kBa ?_|refine kBb ?_|refine kBc (by omega) ?_|refine kBd (by omega) ?_|refine kBe (by omega) ?_|refine kBf (by omega) ?_|refine kRa ?_|refine kRb ?_|refine VRead.fld ?_|refine VRead.load1 (by assumption) ?_|refine VRead.load (by assumption) ?_|refine kRf ?_|refine kRg ?_|refine kRh ?_|refine kRi ?_|refine kBe rfl ?_|refine kBc rfl ?_|refine kWa (by omega) (by omega) ?_|refine kWb (by omega) (by omega) ?_|refine kRj (by omega) ?_|refine kRk ?_|refine VSem.convI ?_|refine VRead.convI ?_|refine VRead.rem (by omega) (by decide) ?_|refine VRead.neg ?_|refine VC.seq ?_); (conv => whnf))))
    exact ⟨rfl, h1, hg1⟩
  | false =>
    ((repeat ((first|refine kLa ?_|refine kLb ?_|refine kCa rfl ?_|refine kCb ?_|refine kCc ?_|refine kCd ?_|refine kCe ?_|refine kCf ?_|refine kCg ?_|refine kCh ?_|refine kCi ?_|refine kCj ?_|refine kQa ?_|refine kQb ?_|refine kGa ?_|refine kGb ?_|refine kHa ?_|refine kHb ?_|refine kPa ?_|refine kPb ?_|refine kPc ?_|refine kEa ?_|refine kEb ?_|refine kBa ?_|refine kBb ?_|refine kBc (by omega) ?_|refine kBd (by omega) ?_|refine kBe (by omega) ?_|refine kBf (by omega) ?_|refine kRa ?_|refine kRb ?_|refine VRead.fld ?_|refine VRead.load1 (by assumption) ?_|refine VRead.load (by assumption) ?_|refine kRf ?_|refine kRg ?_|refine kRh ?_|refine kRi ?_|refine kBe rfl ?_|refine kBc rfl ?_|refine kWa (by omega) (by omega) ?_|refine kWb (by omega) (by omega) ?_|refine kRj (by omega) ?_|refine kRk ?_|refine VSem.convI ?_|refine VRead.convI ?_|refine VRead.rem (by omega) (by decide) ?_|refine VRead.neg ?_|refine VC.seq ?_); (conv => whnf))))
    (repeat (first | ((first|refine kLa ?_|refine kLb ?_|refine kCa rfl ?_|refine kCb ?_|refine kCc ?_|refine kCd ?_|refine kCe ?_|refine kCf ?_|refine kCg ?_|refine kCh ?_|refine kCi ?_|refine kCj ?_|refine kQa ?_|refine kQb ?_|refine kGa ?_|refine kGb ?_|refine kHa ?_|refine kHb ?_|refine kPa ?_|refine kPb ?_|refine kPc ?_|refine kEa ?_|refine kEb ?_|refine kBa ?_|refine kBb ?_|refine kBc (by omega) ?_|refine kBd (by omega) ?_|refine kBe (by omega) ?_|refine kBf (by omega) ?_|refine kRa ?_|refine kRb ?_|refine VRead.fld ?_|refine VRead.load1 (by assumption) ?_|refine VRead.load (by assumption) ?_|refine kRf ?_|refine kRg ?_|refine kRh ?_|refine kRi ?_|refine kBe rfl ?_|refine kBc rfl ?_|refine kWa (by omega) (by omega) ?_|refine kWb (by omega) (by omega) ?_|refine kRj (by omega) ?_|refine kRk ?_|refine VSem.convI ?_|refine VRead.convI ?_|refine VRead.rem (by omega) (by decide) ?_|refine VRead.neg ?_|refine VC.seq ?_); (conv => whnf)) | (refine VRead.loadB hb1 rfl rfl ?_; (conv => whnf))))
    cases armed with
    | false =>
      ((repeat ((first|refine kLa ?_|refine kLb ?_|refine kCa rfl ?_|refine kCb ?_|refine kCc ?_|refine kCd ?_|refine kCe ?_|refine kCf ?_|refine kCg ?_|refine kCh ?_|refine kCi ?_|refine kCj ?_|refine kQa ?_|refine kQb ?_|refine kGa ?_|refine kGb ?_|refine kHa ?_|refine kHb ?_|refine kPa ?_|refine kPb ?_|refine kPc ?_|refine kEa ?_|refine kEb ?_|refine kBa ?_|refine kBb ?_|refine kBc (by omega) ?_|refine kBd (by omega) ?_|refine kBe (by omega) ?_|refine kBf (by omega) ?_|refine kRa ?_|refine kRb ?_|refine VRead.fld ?_|refine VRead.load1 (by assumption) ?_|refine VRead.load (by assumption) ?_|refine kRf ?_|refine kRg ?_|refine kRh ?_|refine kRi ?_|refine kBe rfl ?_|refine kBc rfl ?_|refine kWa (by omega) (by omega) ?_|refine kWb (by omega) (by omega) ?_|refine kRj (by omega) ?_|refine kRk ?_|refine VSem.convI ?_|refine VRead.convI ?_|refine VRead.rem (by omega) (by decide) ?_|refine VRead.neg ?_|refine VC.seq ?_); (conv => whnf))))
      exact ⟨rfl, h1, hg1⟩
    | true =>
      ((repeat ((first|refine kLa ?_|refine kLb ?_|refine kCa rfl ?_|refine kCb ?_|refine kCc ?_|refine kCd ?_|refine kCe ?_|refine kCf ?_|refine kCg ?_|refine kCh ?_|refine kCi ?_|refine kCj ?_|refine kQa ?_|refine kQb ?_|refine kGa ?_|refine kGb ?_|refine kHa ?_|refine kHb ?_|refine kPa ?_|refine kPb ?_|refine kPc ?_|refine kEa ?_|refine kEb ?_|refine kBa ?_|refine kBb ?_|refine kBc (by omega) ?_|refine kBd (by omega) ?_|refine kBe (by omega) ?_|refine kBf (by omega) ?_|refine kRa ?_|refine kRb ?_|refine VRead.fld ?_|refine VRead.load1 (by assumption) ?_|refine VRead.load (by assumption) ?_|refine kRf ?_|refine kRg ?_|refine kRh ?_|refine kRi ?_|refine kBe rfl ?_|refine kBc rfl ?_|refine kWa (by omega) (by omega) ?_|refine kWb (by omega) (by omega) ?_|refine kRj (by omega) ?_|refine kRk ?_|refine VSem.convI ?_|refine VRead.convI ?_|refine VRead.rem (by omega) (by decide) ?_|refine VRead.neg ?_|refine VC.seq ?_); (conv => whnf))))
      (repeat (first | ((first|refine kLa ?_|refine kLb ?_|refine kCa rfl ?_|refine kCb ?_|refine kCc ?_|refine kCd ?_|refine kCe ?_|refine kCf ?_|refine kCg ?_|refine kCh ?_|refine kCi ?_|refine kCj ?_|refine kQa ?_|refine kQb ?_|refine kGa ?_|refine kGb ?_|refine kHa ?_|refine kHb ?_|refine kPa ?_|refine kPb ?_|refine kPc ?_|refine kEa ?_|refine kEb ?_|refine kBa ?_|refine kBb ?_|refine kBc (by omega) ?_|refine kBd (by omega) ?_|refine kBe (by omega) ?_|refine kBf (by omega) ?_|refine kRa ?_|refine kRb ?_|refine VRead.fld ?_|refine VRead.load1 (by assumption) ?_|refine VRead.load (by assumption) ?_|refine kRf ?_|refine kRg ?_|refine kRh ?_|refine kRi ?_|refine kBe rfl ?_|refine kBc rfl ?_|refine kWa (by omega) (by omega) ?_|refine kWb (by omega) (by omega) ?_|refine kRj (by omega) ?_|refine kRk ?_|refine VSem.convI ?_|refine VRead.convI ?_|refine VRead.rem (by omega) (by decide) ?_|refine VRead.neg ?_|refine VC.seq ?_); (conv => whnf)) | (refine VRead.loadB hb1 rfl rfl ?_; (conv => whnf))))
      by_cases ha0 : 0 < after
      · ((repeat ((first|refine kLa ?_|refine kLb ?_|refine kCa rfl ?_|refine kCb ?_|refine kCc ?_|refine kCd ?_|refine kCe ?_|refine kCf ?_|refine kCg ?_|refine kCh ?_|refine kCi ?_|refine kCj ?_|refine kQa ?_|refine kQb ?_|refine kGa ?_|refine kGb ?_|refine kHa ?_|refine kHb ?_|refine kPa ?_|refine kPb ?_|refine kPc ?_|refine kEa ?_|refine kEb ?_|refine kBa ?_|refine kBb ?_|refine kBc (by omega) ?_|refine kBd (by omega) ?_|refine kBe (by omega) ?_|refine kBf (by omega) ?_|refine kRa ?_|refine kRb ?_|refine VRead.fld ?_|refine VRead.load1 (by assumption) ?_|refine VRead.load (by assumption) ?_|refine kRf ?_|refine kRg ?_|refine kRh ?_|refine kRi ?_|refine kBe rfl ?_|refine kBc rfl ?_|refine kWa (by omega) (by omega) ?_|refine kWb (by omega) (by omega) ?_|refine kRj (by omega) ?_|refine kRk ?_|refine VSem.convI ?_|refine VRead.convI ?_|refine VRead.rem (by omega) (by decide) ?_|refine VRead.neg ?_|refine VC.seq ?_); (conv => whnf))))
        (repeat (first | ((first|refine kLa ?_|refine kLb ?_|refine kCa rfl ?_|refine kCb ?_|refine kCc ?_|refine kCd ?_|refine kCe ?_|refine kCf ?_|refine kCg ?_|refine kCh ?_|refine kCi ?_|refine kCj ?_|refine kQa ?_|refine kQb ?_|refine kGa ?_|refine kGb ?_|refine kHa ?_|refine kHb ?_|refine kPa ?_|refine kPb ?_|refine kPc ?_|refine kEa ?_|refine kEb ?_|refine kBa ?_|refine kBb ?_|refine kBc (by omega) ?_|refine kBd (by omega) ?_|refine kBe (by omega) ?_|refine kBf (by omega) ?_|refine kRa ?_|refine kRb ?_|refine VRead.fld ?_|refine VRead.load1 (by assumption) ?_|refine VRead.load (by assumption) ?_|refine kRf ?_|refine kRg ?_|refine kRh ?_|refine kRi ?_|refine kBe rfl ?_|refine kBc rfl ?_|refine kWa (by omega) (by omega) ?_|refine kWb (by omega) (by omega) ?_|refine kRj (by omega) ?_|refine kRk ?_|refine VSem.convI ?_|refine VRead.convI ?_|refine VRead.rem (by omega) (by decide) ?_|refine VRead.neg ?_|refine VC.seq ?_); (conv => whnf)) | (refine VRead.loadB hb1 rfl rfl ?_; (conv => whnf))))
        refine VUnit.storeB hb1 rfl rfl rfl ?_
        intro W2 hb2 hg2
        replace hb2 : Blk W2 d 80 #[.int .i64 room, .map (some m), .int .i64 (calls + 1), .bool true, .int .i64 kind, .int .i64 (after - 1), .bool false] := hb2
        ((conv => whnf); (repeat ((first|refine kLa ?_|refine kLb ?_|refine kCa rfl ?_|refine kCb ?_|refine kCc ?_|refine kCd ?_|refine kCe ?_|refine kCf ?_|refine kCg ?_|refine kCh ?_|refine kCi ?_|refine kCj ?_|refine kQa ?_|refine kQb ?_|refine kGa ?_|refine kGb ?_|refine kHa ?_|refine kHb ?_); (conv => whnf))))
        ((repeat ((first|refine kLa ?_|refine kLb ?_|refine kCa rfl ?_|refine kCb ?_|refine kCc ?_|refine kCd ?_|refine kCe ?_|refine kCf ?_|refine kCg ?_|refine kCh ?_|refine kCi ?_|refine kCj ?_|refine kQa ?_|refine kQb ?_|refine kGa ?_|refine kGb ?_|refine kHa ?_|refine kHb ?_|refine kPa ?_|refine kPb ?_|refine kPc ?_|refine kEa ?_|refine kEb ?_|refine kBa ?_|refine kBb ?_|refine kBc (by omega) ?_|refine kBd (by omega) ?_|refine kBe (by omega) ?_|refine kBf (by omega) ?_|refine kRa ?_|refine kRb ?_|refine VRead.fld ?_|refine VRead.load1 (by assumption) ?_|refine VRead.load (by assumption) ?_|refine kRf ?_|refine kRg ?_|refine kRh ?_|refine kRi ?_|refine kBe rfl ?_|refine kBc rfl ?_|refine kWa (by omega) (by omega) ?_|refine kWb (by omega) (by omega) ?_|refine kRj (by omega) ?_|refine kRk ?_|refine VSem.convI ?_|refine VRead.convI ?_|refine VRead.rem (by omega) (by decide) ?_|refine VRead.neg ?_|refine VC.seq ?_); (conv => whnf))))
        have e : Dk.call ⟨room, calls, true, kind, after, false⟩ = (0, ⟨room, calls + 1, true, kind, after - 1, false⟩) := by simp [Dk.call, ha0]
        rw [e]
        refine ⟨rfl, ?_, only_trans hg1 hg2⟩
        · have : DiskAt W2 U d m c ⟨room, calls + 1, true, kind, after - 1, false⟩ L := h1.own hb2 hg2
          exact this
      · ((repeat ((first|refine kLa ?_|refine kLb ?_|refine kCa rfl ?_|refine kCb ?_|refine kCc ?_|refine kCd ?_|refine kCe ?_|refine kCf ?_|refine kCg ?_|refine kCh ?_|refine kCi ?_|refine kCj ?_|refine kQa ?_|refine kQb ?_|refine kGa ?_|refine kGb ?_|refine kHa ?_|refine kHb ?_|refine kPa ?_|refine kPb ?_|refine kPc ?_|refine kEa ?_|refine kEb ?_|refine kBa ?_|refine kBb ?_|refine kBc (by omega) ?_|refine kBd (by omega) ?_|refine kBe (by omega) ?_|refine kBf (by omega) ?_|refine kRa ?_|refine kRb ?_|refine VRead.fld ?_|refine VRead.load1 (by assumption) ?_|refine VRead.load (by assumption) ?_|refine kRf ?_|refine kRg ?_|refine kRh ?_|refine kRi ?_|refine kBe rfl ?_|refine kBc rfl ?_|refine kWa (by omega) (by omega) ?_|refine kWb (by omega) (by omega) ?_|refine kRj (by omega) ?_|refine kRk ?_|refine VSem.convI ?_|refine VRead.convI ?_|refine VRead.rem (by omega) (by decide) ?_|refine VRead.neg ?_|refine VC.seq ?_); (conv => whnf))))
        refine VUnit.storeB hb1 rfl rfl rfl ?_
        intro W2 hb2 hg2
        replace hb2 : Blk W2 d 80 #[.int .i64 room, .map (some m), .int .i64 (calls + 1), .bool false, .int .i64 kind, .int .i64 after, .bool false] := hb2
        have h2 : DiskAt W2 U d m c ⟨room, calls + 1, false, kind, after, false⟩ L := h1.own hb2 hg2
        ((conv => whnf); (repeat ((first|refine kLa ?_|refine kLb ?_|refine kCa rfl ?_|refine kCb ?_|refine kCc ?_|refine kCd ?_|refine kCe ?_|refine kCf ?_|refine kCg ?_|refine kCh ?_|refine kCi ?_|refine kCj ?_|refine kQa ?_|refine kQb ?_|refine kGa ?_|refine kGb ?_|refine kHa ?_|refine kHb ?_); (conv => whnf))))
        (repeat (first | ((first|refine kLa ?_|refine kLb ?_|refine kCa rfl ?_|refine kCb ?_|refine kCc ?_|refine kCd ?_|refine kCe ?_|refine kCf ?_|refine kCg ?_|refine kCh ?_|refine kCi ?_|refine kCj ?_|refine kQa ?_|refine kQb ?_|refine kGa ?_|refine kGb ?_|refine kHa ?_|refine kHb ?_|refine kPa ?_|refine kPb ?_|refine kPc ?_|refine kEa ?_|refine kEb ?_|refine kBa ?_|refine kBb ?_|refine kBc (by omega) ?_|refine kBd (by omega) ?_|refine kBe (by omega) ?_|refine kBf (by omega) ?_|refine kRa ?_|refine kRb ?_|refine VRead.fld ?_|refine VRead.load1 (by assumption) ?_|refine VRead.load (by assumption) ?_|refine kRf ?_|refine kRg ?_|refine kRh ?_|refine kRi ?_|refine kBe rfl ?_|refine kBc rfl ?_|refine kWa (by omega) (by omega) ?_|refine kWb (by omega) (by omega) ?_|refine kRj (by omega) ?_|refine kRk ?_|refine VSem.convI ?_|refine VRead.convI ?_|refine VRead.rem (by omega) (by decide) ?_|refine VRead.neg ?_|refine VC.seq ?_); (conv => whnf)) | (refine VRead.loadB hb2 rfl rfl ?_; (conv => whnf))))
        refine VUnit.storeB hb2 rfl rfl rfl ?_
        intro W3 hb3 hg3
        replace hb3 : Blk W3 d 80 #[.int .i64 room, .map (some m), .int .i64 (calls + 1), .bool false, .int .i64 kind, .int .i64 after, .bool (decide (kind = 19))] := hb3
        have h3 : DiskAt W3 U d m c ⟨room, calls + 1, false, kind, after, decide (kind = 19)⟩ L := h2.own hb3 hg3
        ((conv => whnf); (repeat ((first|refine kLa ?_|refine kLb ?_|refine kCa rfl ?_|refine kCb ?_|refine kCc ?_|refine kCd ?_|refine kCe ?_|refine kCf ?_|refine kCg ?_|refine kCh ?_|refine kCi ?_|refine kCj ?_|refine kQa ?_|refine kQb ?_|refine kGa ?_|refine kGb ?_|refine kHa ?_|refine kHb ?_); (conv => whnf))))
        (repeat (first | ((first|refine kLa ?_|refine kLb ?_|refine kCa rfl ?_|refine kCb ?_|refine kCc ?_|refine kCd ?_|refine kCe ?_|refine kCf ?_|refine kCg ?_|refine kCh ?_|refine kCi ?_|refine kCj ?_|refine kQa ?_|refine kQb ?_|refine kGa ?_|refine kGb ?_|refine kHa ?_|refine kHb ?_|refine kPa ?_|refine kPb ?_|refine kPc ?_|refine kEa ?_|refine kEb ?_|refine kBa ?_|refine kBb ?_|refine kBc (by omega) ?_|refine kBd (by omega) ?_|refine kBe (by omega) ?_|refine kBf (by omega) ?_|refine kRa ?_|refine kRb ?_|refine VRead.fld ?_|refine VRead.load1 (by assumption) ?_|refine VRead.load (by assumption) ?_|refine kRf ?_|refine kRg ?_|refine kRh ?_|refine kRi ?_|refine kBe rfl ?_|refine kBc rfl ?_|refine kWa (by omega) (by omega) ?_|refine kWb (by omega) (by omega) ?_|refine kRj (by omega) ?_|refine kRk ?_|refine VSem.convI ?_|refine VRead.convI ?_|refine VRead.rem (by omega) (by decide) ?_|refine VRead.neg ?_|refine VC.seq ?_); (conv => whnf)) | (refine VRead.loadB hb3 rfl rfl ?_; (conv => whnf))))
        have e : Dk.call ⟨room, calls, true, kind, after, false⟩ = (kind, ⟨room, calls + 1, false, kind, after, decide (kind = 19)⟩) := by simp [Dk.call, ha0]
        rw [e]
        exact ⟨rfl, h3, only_trans hg1 (only_trans hg2 hg3)⟩
end Go.Proofs.Ytebeidnmplnlpaa
end

section
namespace Go.Proofs.Ytebeidnmplnlpaa
open Go.Shelf
def Try.lays190_ren : Go.Shelf.Ren := ⟨fun | 125 => 93 | 128 => 118 | 129 => 119 | 190 => 56 | 258 => 92 | 302 => 109 | 303 => 110 | 304 => 111 | 305 => 112 | 306 => 113 | 307 => 114 | 308 => 115 | 309 => 116 | 310 => 117 | 329 => 129 | 330 => 130 | 333 => 128 | 334 => 131 | 335 => 132 | 336 => 133 | 344 => 136 | n => n, fun | 0 => 0 | 3 => 3 | 4 => 4 | 5 => 5 | 9 => 9 | 31 => 38 | 46 => 114 | 51 => 115 | 53 => 113 | 131 => 23 | 182 => 140 | 183 => 141 | 218 => 157 | 222 => 161 | 228 => 166 | 229 => 167 | n => n, fun n => n⟩
theorem Try.lays190 : Go.Proofs.Lays.n190 Try.prog Try.lays190_ren := {
  mixed := by kernel_rfl
  f125 := Try.func93.trans (congrArg some (by kernel_rfl))
  f128 := Try.func118.trans (congrArg some (by kernel_rfl))
  f129 := Try.func119.trans (congrArg some (by kernel_rfl))
  f190 := Try.func56.trans (congrArg some (by kernel_rfl))
  f258 := Try.func92.trans (congrArg some (by kernel_rfl))
  f302 := Try.func109.trans (congrArg some (by kernel_rfl))
  f303 := Try.func110.trans (congrArg some (by kernel_rfl))
  f304 := Try.func111.trans (congrArg some (by kernel_rfl))
  f305 := Try.func112.trans (congrArg some (by kernel_rfl))
  f306 := Try.func113.trans (congrArg some (by kernel_rfl))
  f307 := Try.func114.trans (congrArg some (by kernel_rfl))
  f308 := Try.func115.trans (congrArg some (by kernel_rfl))
  f309 := Try.func116.trans (congrArg some (by kernel_rfl))
  f310 := Try.func117.trans (congrArg some (by kernel_rfl))
  f329 := Try.func129.trans (congrArg some (by kernel_rfl))
  f330 := Try.func130.trans (congrArg some (by kernel_rfl))
  f333 := Try.func128.trans (congrArg some (by kernel_rfl))
  f334 := Try.func131.trans (congrArg some (by kernel_rfl))
  f335 := Try.func132.trans (congrArg some (by kernel_rfl))
  f336 := Try.func133.trans (congrArg some (by kernel_rfl))
  f344 := Try.func136.trans (congrArg some (by kernel_rfl))
  t0 := Try.underlying0
  a0 := Try.isAgg0
  z0 := Try.sizeOf0
  v0 := Try.zeroValue0
  t3 := Try.underlying3
  a3 := Try.isAgg3
  z3 := Try.sizeOf3
  v3 := Try.zeroValue3
  t4 := Try.underlying4
  a4 := Try.isAgg4
  z4 := Try.sizeOf4
  v4 := Try.zeroValue4
  t5 := Try.underlying5
  a5 := Try.isAgg5
  z5 := Try.sizeOf5
  v5 := Try.zeroValue5
  t9 := Try.underlying9
  a9 := Try.isAgg9
  z9 := Try.sizeOf9
  v9 := Try.zeroValue9
  t31 := Try.underlying38
  a31 := Try.isAgg38
  z31 := Try.sizeOf38
  v31 := Try.zeroValue38
  t46 := Try.underlying114
  a46 := Try.isAgg114
  z46 := Try.sizeOf114
  v46 := Try.zeroValue114
  t51 := Try.underlying115
  a51 := Try.isAgg115
  z51 := Try.sizeOf115
  v51 := Try.zeroValue115
  t53 := Try.underlying113
  a53 := Try.isAgg113
  z53 := Try.sizeOf113
  v53 := Try.zeroValue113
  t131 := Try.underlying23
  a131 := Try.isAgg23
  z131 := Try.sizeOf23
  v131 := Try.zeroValue23
  t182 := Try.underlying140
  a182 := Try.isAgg140
  z182 := Try.sizeOf140
  v182 := Try.zeroValue140
  t183 := Try.underlying141
  a183 := Try.isAgg141
  z183 := Try.sizeOf141
  v183 := Try.zeroValue141
  t218 := Try.underlying157
  a218 := Try.isAgg157
  z218 := Try.sizeOf157
  v218 := Try.zeroValue157
  t222 := Try.underlying161
  a222 := Try.isAgg161
  z222 := Try.sizeOf161
  v222 := Try.zeroValue161
  t228 := Try.underlying166
  a228 := Try.isAgg166
  z228 := Try.sizeOf166
  v228 := Try.zeroValue166
  t229 := Try.underlying167
  a229 := Try.isAgg167
  z229 := Try.sizeOf167
  v229 := Try.zeroValue167 }
end Go.Proofs.Ytebeidnmplnlpaa
end

section
set_option maxRecDepth 10000
namespace Go.Proofs.Ytebeidnmplnlpaa
set_option linter.unusedVariables false
open Go.RowKit
open Go.Maps (Keyed)
open Go.ChangeMaps Go.WideElems

theorem take_all_snoc {α : Type} {p : α → Prop} {l : List α} {k : Nat} {x : α} (h : ∀ s ∈ l.take k, p s) (hx : l[k]? = some x) (hp : p x) : ∀ s ∈ l.take (k + 1), p s := by
  rw [take_snoc hx]
  intro s hs
  rcases List.mem_append.1 hs with h' | h'
  · exact h s h'
  · simp at h'; subst h'; exact hp
theorem dNamed_any (W : World) (C n c : Nat) (A : Option Addr) (l : List (List UInt8)) (hr : Reads W C 1 A n (l.map encStr)) (hn : n ≤ 1000000) :
    Calls Try.prog 58 #[.slice A n c] W fun e W' => e = .returned (.bool (decide (∀ s ∈ l, nameOk s))) ∧ W' = W := by
  have hl : l.length = n := by have := hr.1; simpa using this
  refine calls_vc Try.func58 rfl (by kernel_rfl) ?_
  ((conv => whnf); (repeat ((first|refine kLa ?_|refine kLb ?_|refine kCa rfl ?_|refine kCb ?_|refine kCc ?_|refine kCd ?_|refine kCe ?_|refine kCf ?_|refine kCg ?_|refine kCh ?_|refine kCi ?_|refine kCj ?_|refine kQa ?_|refine kQb ?_|refine kGa ?_|refine kGb ?_|refine kHa ?_|refine kHb ?_); (conv => whnf))))
  ((repeat ((first|refine kLa ?_|refine kLb ?_|refine kCa rfl ?_|refine kCb ?_|refine kCc ?_|refine kCd ?_|refine kCe ?_|refine kCf ?_|refine kCg ?_|refine kCh ?_|refine kCi ?_|refine kCj ?_|refine kQa ?_|refine kQb ?_|refine kGa ?_|refine kGb ?_|refine kHa ?_|refine kHb ?_|refine kPa ?_|refine kPb ?_|refine kPc ?_|refine kEa ?_|refine kEb ?_|refine kBa ?_|refine kBb ?_|refine kBc (by omega) ?_|refine kBd (by omega) ?_|refine kBe (by omega) ?_|refine kBf (by omega) ?_|refine kRa ?_|refine kRb ?_|refine VRead.fld ?_|refine VRead.load1 (by assumption) ?_|refine VRead.load (by assumption) ?_|refine kRf ?_|refine kRg ?_|refine kRh ?_|refine kRi ?_|refine kBe rfl ?_|refine kBc rfl ?_|refine kWa (by omega) (by omega) ?_|refine kWb (by omega) (by omega) ?_|refine kRj (by omega) ?_|refine kRk ?_|refine VSem.convI ?_|refine VRead.convI ?_|refine VRead.rem (by omega) (by decide) ?_|refine VRead.neg ?_|refine VC.seq ?_); (conv => whnf))))
  refine VC.loop [7] [(2, 2), (4, 4), (7, 19)] (fun q vs w => ∃ k : Nat, vs = [.int .i64 (k : Int)] ∧ q = n - k ∧ k ≤ n ∧ w = W ∧ ∀ s ∈ l.take k, nameOk s) (by kernel_rfl) ⟨_, 0, rfl, rfl, by omega, rfl, by simp⟩ ?_
  rintro q τ vs w ⟨k, rfl, rfl, hk, rfl, hall⟩
  by_cases hlt : k < n
  · obtain ⟨ad, u, rfl, hbl, hu, hc⟩ := hr.at_ hlt
    obtain ⟨s, hs, rfl⟩ := map_at hu
    have hsz : ByteArray.size ⟨s.toArray⟩ = s.length := txt_size s
    have hsm : s ∈ l := List.mem_of_getElem? hs
    by_cases h1 : 1 ≤ s.length
    · by_cases h2 : s.length ≤ 32
      · ((conv => whnf); (repeat ((first|refine kLa ?_|refine kLb ?_|refine kCa rfl ?_|refine kCb ?_|refine kCc ?_|refine kCd ?_|refine kCe ?_|refine kCf ?_|refine kCg ?_|refine kCh ?_|refine kCi ?_|refine kCj ?_|refine kQa ?_|refine kQb ?_|refine kGa ?_|refine kGb ?_|refine kHa ?_|refine kHb ?_); (conv => whnf))))
        ((repeat ((first|refine kLa ?_|refine kLb ?_|refine kCa rfl ?_|refine kCb ?_|refine kCc ?_|refine kCd ?_|refine kCe ?_|refine kCf ?_|refine kCg ?_|refine kCh ?_|refine kCi ?_|refine kCj ?_|refine kQa ?_|refine kQb ?_|refine kGa ?_|refine kGb ?_|refine kHa ?_|refine kHb ?_|refine kPa ?_|refine kPb ?_|refine kPc ?_|refine kEa ?_|refine kEb ?_|refine kBa ?_|refine kBb ?_|refine kBc (by omega) ?_|refine kBd (by omega) ?_|refine kBe (by omega) ?_|refine kBf (by omega) ?_|refine kRa ?_|refine kRb ?_|refine VRead.fld ?_|refine VRead.load1 (by assumption) ?_|refine VRead.load (by assumption) ?_|refine kRf ?_|refine kRg ?_|refine kRh ?_|refine kRi ?_|refine kBe rfl ?_|refine kBc rfl ?_|refine kWa (by omega) (by omega) ?_|refine kWb (by omega) (by omega) ?_|refine kRj (by omega) ?_|refine kRk ?_|refine VSem.convI ?_|refine VRead.convI ?_|refine VRead.rem (by omega) (by decide) ?_|refine VRead.neg ?_|refine VC.seq ?_); (conv => whnf))))
        exact ⟨_, by omega, k + 1, rfl, rfl, by omega, rfl, take_all_snoc hall hs ⟨h1, h2⟩⟩
      · ((conv => whnf); (repeat ((first|refine kLa ?_|refine kLb ?_|refine kCa rfl ?_|refine kCb ?_|refine kCc ?_|refine kCd ?_|refine kCe ?_|refine kCf ?_|refine kCg ?_|refine kCh ?_|refine kCi ?_|refine kCj ?_|refine kQa ?_|refine kQb ?_|refine kGa ?_|refine kGb ?_|refine kHa ?_|refine kHb ?_); (conv => whnf))))
        ((repeat ((first|refine kLa ?_|refine kLb ?_|refine kCa rfl ?_|refine kCb ?_|refine kCc ?_|refine kCd ?_|refine kCe ?_|refine kCf ?_|refine kCg ?_|refine kCh ?_|refine kCi ?_|refine kCj ?_|refine kQa ?_|refine kQb ?_|refine kGa ?_|refine kGb ?_|refine kHa ?_|refine kHb ?_|refine kPa ?_|refine kPb ?_|refine kPc ?_|refine kEa ?_|refine kEb ?_|refine kBa ?_|refine kBb ?_|refine kBc (by omega) ?_|refine kBd (by omega) ?_|refine kBe (by omega) ?_|refine kBf (by omega) ?_|refine kRa ?_|refine kRb ?_|refine VRead.fld ?_|refine VRead.load1 (by assumption) ?_|refine VRead.load (by assumption) ?_|refine kRf ?_|refine kRg ?_|refine kRh ?_|refine kRi ?_|refine kBe rfl ?_|refine kBc rfl ?_|refine kWa (by omega) (by omega) ?_|refine kWb (by omega) (by omega) ?_|refine kRj (by omega) ?_|refine kRk ?_|refine VSem.convI ?_|refine VRead.convI ?_|refine VRead.rem (by omega) (by decide) ?_|refine VRead.neg ?_|refine VC.seq ?_); (conv => whnf))))
        refine ⟨?_, rfl⟩
        rw [decide_eq_false (p := ∀ s ∈ l, nameOk s) (fun h => h2 (h s hsm).2)]
        rfl
    · ((conv => whnf); (repeat ((first|refine kLa ?_|refine kLb ?_|refine kCa rfl ?_|refine kCb ?_|refine kCc ?_|refine kCd ?_|refine kCe ?_|refine kCf ?_|refine kCg ?_|refine kCh ?_|refine kCi ?_|refine kCj ?_|refine kQa ?_|refine kQb ?_|refine kGa ?_|refine kGb ?_|refine kHa ?_|refine kHb ?_); (conv => whnf))))
      ((repeat ((first|refine kLa ?_|refine kLb ?_|refine kCa rfl ?_|refine kCb ?_|refine kCc ?_|refine kCd ?_|refine kCe ?_|refine kCf ?_|refine kCg ?_|refine kCh ?_|refine kCi ?_|refine kCj ?_|refine kQa ?_|refine kQb ?_|refine kGa ?_|refine kGb ?_|refine kHa ?_|refine kHb ?_|refine kPa ?_|refine kPb ?_|refine kPc ?_|refine kEa ?_|refine kEb ?_|refine kBa ?_|refine kBb ?_|refine kBc (by omega) ?_|refine kBd (by omega) ?_|refine kBe (by omega) ?_|refine kBf (by omega) ?_|refine kRa ?_|refine kRb ?_|refine VRead.fld ?_|refine VRead.load1 (by assumption) ?_|refine VRead.load (by assumption) ?_|refine kRf ?_|refine kRg ?_|refine kRh ?_|refine kRi ?_|refine kBe rfl ?_|refine kBc rfl ?_|refine kWa (by omega) (by omega) ?_|refine kWb (by omega) (by omega) ?_|refine kRj (by omega) ?_|refine kRk ?_|refine VSem.convI ?_|refine VRead.convI ?_|refine VRead.rem (by omega) (by decide) ?_|refine VRead.neg ?_|refine VC.seq ?_); (conv => whnf))))
      refine ⟨?_, rfl⟩
      rw [decide_eq_false (p := ∀ s ∈ l, nameOk s) (fun h => h1 (h s hsm).1)]
      rfl
  · obtain rfl : k = n := by omega
    rw [List.take_of_length_le (by omega)] at hall
    ((conv => whnf); (repeat ((first|refine kLa ?_|refine kLb ?_|refine kCa rfl ?_|refine kCb ?_|refine kCc ?_|refine kCd ?_|refine kCe ?_|refine kCf ?_|refine kCg ?_|refine kCh ?_|refine kCi ?_|refine kCj ?_|refine kQa ?_|refine kQb ?_|refine kGa ?_|refine kGb ?_|refine kHa ?_|refine kHb ?_); (conv => whnf))))
    ((repeat ((first|refine kLa ?_|refine kLb ?_|refine kCa rfl ?_|refine kCb ?_|refine kCc ?_|refine kCd ?_|refine kCe ?_|refine kCf ?_|refine kCg ?_|refine kCh ?_|refine kCi ?_|refine kCj ?_|refine kQa ?_|refine kQb ?_|refine kGa ?_|refine kGb ?_|refine kHa ?_|refine kHb ?_|refine kPa ?_|refine kPb ?_|refine kPc ?_|refine kEa ?_|refine kEb ?_|refine kBa ?_|refine kBb ?_|refine kBc (by omega) ?_|refine kBd (by omega) ?_|refine kBe (by omega) ?_|refine kBf (by omega) ?_|refine kRa ?_|refine kRb ?_|refine VRead.fld ?_|refine VRead.load1 (by assumption) ?_|refine VRead.load (by assumption) ?_|refine kRf ?_|refine kRg ?_|refine kRh ?_|refine kRi ?_|refine kBe rfl ?_|refine kBc rfl ?_|refine kWa (by omega) (by omega) ?_|refine kWb (by omega) (by omega) ?_|refine kRj (by omega) ?_|refine kRk ?_|refine VSem.convI ?_|refine VRead.convI ?_|refine VRead.rem (by omega) (by decide) ?_|refine VRead.neg ?_|refine VC.seq ?_); (conv => whnf))))
    refine ⟨?_, rfl⟩
    rw [decide_eq_true (p := ∀ s ∈ l, nameOk s) hall]
    rfl

def findR (L : DTb) (s : List UInt8) : Value := if nameOk s then (match tfind L s with | none => .tuple #[.pointer none, .int .i64 3] | some p => .tuple #[pEnc p, .int .i64 0]) else .tuple #[.pointer none, .int .i64 1]
theorem dLook {W : World} {m c : Nat} {L : DTb} {s : List UInt8} {K : Value → World → Prop} (h : MapOk W m c L) (hs : s.length ≤ 9223372036854775807)
    (hk : K (match tfind L s with | none => .pointer none | some p => pEnc p) W) : VSem Try.prog (Instr.lookup 78 (.map (some m)) (encStr s) false) W K := by
  obtain ⟨n, D, h1, h2, R⟩ := h
  refine VSem.mapAt h2 str_keyed (z := .pointer none) (fun W => Try.zeroValue88 W) (str_key hs) ?_
  cases hf : tfind L s with
  | none =>
    rw [hf] at hk
    rw [mval_not (R.hasF slit_inj (tfind_none hf))]
    exact hk
  | some p =>
    rw [hf] at hk
    rw [R.at_ (s, p) (tfind_mem hf)]
    exact hk
theorem dFind_at (W : World) (U : Foot) (d m c : Nat) (K : Dk) (L : DTb) (s : List UInt8) (h : DiskAt W U d m c K L) :
    Calls Try.prog 59 #[.pointer (some ⟨d, 0, none⟩), encStr s] W fun e W' => e = .returned (findR L s) ∧ Below W.heap.size W W' := by
  refine calls_vc Try.func59 rfl (by kernel_rfl) ?_
  ((conv => whnf); (repeat ((first|refine kLa ?_|refine kLb ?_|refine kCa rfl ?_|refine kCb ?_|refine kCc ?_|refine kCd ?_|refine kCe ?_|refine kCf ?_|refine kCg ?_|refine kCh ?_|refine kCi ?_|refine kCj ?_|refine kQa ?_|refine kQb ?_|refine kGa ?_|refine kGb ?_|refine kHa ?_|refine kHb ?_); (conv => whnf))))
  ((repeat ((first|refine kLa ?_|refine kLb ?_|refine kCa rfl ?_|refine kCb ?_|refine kCc ?_|refine kCd ?_|refine kCe ?_|refine kCf ?_|refine kCg ?_|refine kCh ?_|refine kCi ?_|refine kCj ?_|refine kQa ?_|refine kQb ?_|refine kGa ?_|refine kGb ?_|refine kHa ?_|refine kHb ?_|refine kPa ?_|refine kPb ?_|refine kPc ?_|refine kEa ?_|refine kEb ?_|refine kBa ?_|refine kBb ?_|refine kBc (by omega) ?_|refine kBd (by omega) ?_|refine kBe (by omega) ?_|refine kBf (by omega) ?_|refine kRa ?_|refine kRb ?_|refine VRead.fld ?_|refine VRead.load1 (by assumption) ?_|refine VRead.load (by assumption) ?_|refine kRf ?_|refine kRg ?_|refine kRh ?_|refine kRi ?_|refine kBe rfl ?_|refine kBc rfl ?_|refine kWa (by omega) (by omega) ?_|refine kWb (by omega) (by omega) ?_|refine kRj (by omega) ?_|refine kRk ?_|refine VSem.convI ?_|refine VRead.convI ?_|refine VRead.rem (by omega) (by decide) ?_|refine VRead.neg ?_|refine VC.seq ?_); (conv => whnf))))
  refine VSem.one rfl ?_
  intro W1 hr1 hB1 hz1
  ((conv => whnf); (repeat ((first|refine kLa ?_|refine kLb ?_|refine kCa rfl ?_|refine kCb ?_|refine kCc ?_|refine kCd ?_|refine kCe ?_|refine kCf ?_|refine kCg ?_|refine kCh ?_|refine kCi ?_|refine kCj ?_|refine kQa ?_|refine kQb ?_|refine kGa ?_|refine kGb ?_|refine kHa ?_|refine kHb ?_); (conv => whnf))))
  ((repeat ((first|refine kLa ?_|refine kLb ?_|refine kCa rfl ?_|refine kCb ?_|refine kCc ?_|refine kCd ?_|refine kCe ?_|refine kCf ?_|refine kCg ?_|refine kCh ?_|refine kCi ?_|refine kCj ?_|refine kQa ?_|refine kQb ?_|refine kGa ?_|refine kGb ?_|refine kHa ?_|refine kHb ?_|refine kPa ?_|refine kPb ?_|refine kPc ?_|refine kEa ?_|refine kEb ?_|refine kBa ?_|refine kBb ?_|refine kBc (by omega) ?_|refine kBd (by omega) ?_|refine kBe (by omega) ?_|refine kBf (by omega) ?_|refine kRa ?_|refine kRb ?_|refine VRead.fld ?_|refine VRead.load1 (by assumption) ?_|refine VRead.load (by assumption) ?_|refine kRf ?_|refine kRg ?_|refine kRh ?_|refine kRi ?_|refine kBe rfl ?_|refine kBc rfl ?_|refine kWa (by omega) (by omega) ?_|refine kWb (by omega) (by omega) ?_|refine kRj (by omega) ?_|refine kRk ?_|refine VSem.convI ?_|refine VRead.convI ?_|refine VRead.rem (by omega) (by decide) ?_|refine VRead.neg ?_|refine VC.seq ?_); (conv => whnf))))
  refine VCall.of (dNamed_any W1 _ 1 1 _ [s] hr1 (by omega)) ?_
  rintro e _ ⟨rfl, rfl⟩
  refine ⟨_, rfl, ?_⟩
  have h1 := h.below hB1 (Nat.le_refl _)
  have hb := h1.blk
  by_cases hs : nameOk s
  · rw [decide_eq_true (show ∀ x ∈ [s], nameOk x by simpa using hs)]
    ((conv => whnf); (repeat ((first|refine kLa ?_|refine kLb ?_|refine kCa rfl ?_|refine kCb ?_|refine kCc ?_|refine kCd ?_|refine kCe ?_|refine kCf ?_|refine kCg ?_|refine kCh ?_|refine kCi ?_|refine kCj ?_|refine kQa ?_|refine kQb ?_|refine kGa ?_|refine kGb ?_|refine kHa ?_|refine kHb ?_); (conv => whnf))))
    (repeat (first | ((first|refine kLa ?_|refine kLb ?_|refine kCa rfl ?_|refine kCb ?_|refine kCc ?_|refine kCd ?_|refine kCe ?_|refine kCf ?_|refine kCg ?_|refine kCh ?_|refine kCi ?_|refine kCj ?_|refine kQa ?_|refine kQb ?_|refine kGa ?_|refine kGb ?_|refine kHa ?_|refine kHb ?_|refine kPa ?_|refine kPb ?_|refine kPc ?_|refine kEa ?_|refine kEb ?_|refine kBa ?_|refine kBb ?_|refine kBc (by omega) ?_|refine kBd (by omega) ?_|refine kBe (by omega) ?_|refine kBf (by omega) ?_|refine kRa ?_|refine kRb ?_|refine VRead.fld ?_|refine VRead.load1 (by assumption) ?_|refine VRead.load (by assumption) ?_|refine kRf ?_|refine kRg ?_|refine kRh ?_|refine kRi ?_|refine kBe rfl ?_|refine kBc rfl ?_|refine kWa (by omega) (by omega) ?_|refine kWb (by omega) (by omega) ?_|refine kRj (by omega) ?_|refine kRk ?_|refine VSem.convI ?_|refine VRead.convI ?_|refine VRead.rem (by omega) (by decide) ?_|refine VRead.neg ?_|refine VC.seq ?_); (conv => whnf)) | (refine VRead.loadB hb rfl rfl ?_; (conv => whnf))))
    refine dLook h1.map (by have := hs.2; omega) ?_
    unfold findR
    rw [if_pos hs]
    cases hf : tfind L s with
    | none =>
      ((conv => whnf); (repeat ((first|refine kLa ?_|refine kLb ?_|refine kCa rfl ?_|refine kCb ?_|refine kCc ?_|refine kCd ?_|refine kCe ?_|refine kCf ?_|refine kCg ?_|refine kCh ?_|refine kCi ?_|refine kCj ?_|refine kQa ?_|refine kQb ?_|refine kGa ?_|refine kGb ?_|refine kHa ?_|refine kHb ?_); (conv => whnf))))
      ((repeat ((first|refine kLa ?_|refine kLb ?_|refine kCa rfl ?_|refine kCb ?_|refine kCc ?_|refine kCd ?_|refine kCe ?_|refine kCf ?_|refine kCg ?_|refine kCh ?_|refine kCi ?_|refine kCj ?_|refine kQa ?_|refine kQb ?_|refine kGa ?_|refine kGb ?_|refine kHa ?_|refine kHb ?_|refine kPa ?_|refine kPb ?_|refine kPc ?_|refine kEa ?_|refine kEb ?_|refine kBa ?_|refine kBb ?_|refine kBc (by omega) ?_|refine kBd (by omega) ?_|refine kBe (by omega) ?_|refine kBf (by omega) ?_|refine kRa ?_|refine kRb ?_|refine VRead.fld ?_|refine VRead.load1 (by assumption) ?_|refine VRead.load (by assumption) ?_|refine kRf ?_|refine kRg ?_|refine kRh ?_|refine kRi ?_|refine kBe rfl ?_|refine kBc rfl ?_|refine kWa (by omega) (by omega) ?_|refine kWb (by omega) (by omega) ?_|refine kRj (by omega) ?_|refine kRk ?_|refine VSem.convI ?_|refine VRead.convI ?_|refine VRead.rem (by omega) (by decide) ?_|refine VRead.neg ?_|refine VC.seq ?_); (conv => whnf))))
      exact ⟨rfl, hB1⟩
    | some p =>
      ((conv => whnf); (repeat ((first|refine kLa ?_|refine kLb ?_|refine kCa rfl ?_|refine kCb ?_|refine kCc ?_|refine kCd ?_|refine kCe ?_|refine kCf ?_|refine kCg ?_|refine kCh ?_|refine kCi ?_|refine kCj ?_|refine kQa ?_|refine kQb ?_|refine kGa ?_|refine kGb ?_|refine kHa ?_|refine kHb ?_); (conv => whnf))))
      ((repeat ((first|refine kLa ?_|refine kLb ?_|refine kCa rfl ?_|refine kCb ?_|refine kCc ?_|refine kCd ?_|refine kCe ?_|refine kCf ?_|refine kCg ?_|refine kCh ?_|refine kCi ?_|refine kCj ?_|refine kQa ?_|refine kQb ?_|refine kGa ?_|refine kGb ?_|refine kHa ?_|refine kHb ?_|refine kPa ?_|refine kPb ?_|refine kPc ?_|refine kEa ?_|refine kEb ?_|refine kBa ?_|refine kBb ?_|refine kBc (by omega) ?_|refine kBd (by omega) ?_|refine kBe (by omega) ?_|refine kBf (by omega) ?_|refine kRa ?_|refine kRb ?_|refine VRead.fld ?_|refine VRead.load1 (by assumption) ?_|refine VRead.load (by assumption) ?_|refine kRf ?_|refine kRg ?_|refine kRh ?_|refine kRi ?_|refine kBe rfl ?_|refine kBc rfl ?_|refine kWa (by omega) (by omega) ?_|refine kWb (by omega) (by omega) ?_|refine kRj (by omega) ?_|refine kRk ?_|refine VSem.convI ?_|refine VRead.convI ?_|refine VRead.rem (by omega) (by decide) ?_|refine VRead.neg ?_|refine VC.seq ?_); (conv => whnf))))
      exact ⟨rfl, hB1⟩
  · rw [decide_eq_false (show ¬ ∀ x ∈ [s], nameOk x by simpa using hs)]
    unfold findR
    rw [if_neg hs]
    ((conv => whnf); (repeat ((first|refine kLa ?_|refine kLb ?_|refine kCa rfl ?_|refine kCb ?_|refine kCc ?_|refine kCd ?_|refine kCe ?_|refine kCf ?_|refine kCg ?_|refine kCh ?_|refine kCi ?_|refine kCj ?_|refine kQa ?_|refine kQb ?_|refine kGa ?_|refine kGb ?_|refine kHa ?_|refine kHb ?_); (conv => whnf))))
    ((repeat ((first|refine kLa ?_|refine kLb ?_|refine kCa rfl ?_|refine kCb ?_|refine kCc ?_|refine kCd ?_|refine kCe ?_|refine kCf ?_|refine kCg ?_|refine kCh ?_|refine kCi ?_|refine kCj ?_|refine kQa ?_|refine kQb ?_|refine kGa ?_|refine kGb ?_|refine kHa ?_|refine kHb ?_|refine kPa ?_|refine kPb ?_|refine kPc ?_|refine kEa ?_|refine kEb ?_|refine kBa ?_|refine kBb ?_|refine kBc (by omega) ?_|refine kBd (by omega) ?_|refine kBe (by omega) ?_|refine kBf (by omega) ?_|refine kRa ?_|refine kRb ?_|refine VRead.fld ?_|refine VRead.load1 (by assumption) ?_|refine VRead.load (by assumption) ?_|refine kRf ?_|refine kRg ?_|refine kRh ?_|refine kRi ?_|refine kBe rfl ?_|refine kBc rfl ?_|refine kWa (by omega) (by omega) ?_|refine kWb (by omega) (by omega) ?_|refine kRj (by omega) ?_|refine kRk ?_|refine VSem.convI ?_|refine VRead.convI ?_|refine VRead.rem (by omega) (by decide) ?_|refine VRead.neg ?_|refine VC.seq ?_); (conv => whnf))))
    exact ⟨rfl, hB1⟩
end Go.Proofs.Ytebeidnmplnlpaa
end

section
set_option maxRecDepth 10000
namespace Go.Proofs.Ytebeidnmplnlpaa
set_option linter.unusedVariables false
open Go.RowKit
open Go.Maps (Keyed)
open Go.ChangeMaps Go.WideElems

theorem str_info : (Try.prog.info? 9).map (fun i => (i.zero, i.size, i.bytes)) = some (some (.string ByteArray.empty), 1, 16) := by kernel_rfl
theorem key_of {D : DataW Value} {L : DTb} {key : Value} {kl : Lit} (R : Rel Try.prog 9 encStr slit pEnc D L) (hk : keyOf Try.prog 9 key = some kl) (hh : Maps.has D kl = true) :
    ∃ p ∈ L, kl = slit p.1 ∧ key = encStr p.1 := by
  obtain ⟨p, hp, rfl⟩ := R.src kl hh
  exact ⟨p, hp, rfl, str_keyed.inj hk (R.key p hp)⟩
set_option maxHeartbeats 1000000 in
theorem dList_at (W : World) (U : Foot) (d m c : Nat) (K : Dk) (L : DTb) (h : DiskAt W U d m c K L) (hn : L.length ≤ 64) :
    Calls Try.prog 23 #[.pointer (some ⟨d, 0, none⟩)] W fun e W' => ∃ A k, e = .returned (.slice A L.length k) ∧ W'.ownsRow W.heap.size 9 1 (.slice A L.length k) L.length ((L.map (·.1)).map encStr) ∧ Below W.heap.size W W' := by
  have hb := h.blk
  obtain ⟨nD, D, h1, h2, R⟩ := h.map
  refine calls_vc Try.func23 rfl (by kernel_rfl) ?_
  ((conv => whnf); (repeat ((first|refine kLa ?_|refine kLb ?_|refine kCa rfl ?_|refine kCb ?_|refine kCc ?_|refine kCd ?_|refine kCe ?_|refine kCf ?_|refine kCg ?_|refine kCh ?_|refine kCi ?_|refine kCj ?_|refine kQa ?_|refine kQb ?_|refine kGa ?_|refine kGb ?_|refine kHa ?_|refine kHb ?_); (conv => whnf))))
  (repeat (first | ((first|refine kLa ?_|refine kLb ?_|refine kCa rfl ?_|refine kCb ?_|refine kCc ?_|refine kCd ?_|refine kCe ?_|refine kCf ?_|refine kCg ?_|refine kCh ?_|refine kCi ?_|refine kCj ?_|refine kQa ?_|refine kQb ?_|refine kGa ?_|refine kGb ?_|refine kHa ?_|refine kHb ?_|refine kPa ?_|refine kPb ?_|refine kPc ?_|refine kEa ?_|refine kEb ?_|refine kBa ?_|refine kBb ?_|refine kBc (by omega) ?_|refine kBd (by omega) ?_|refine kBe (by omega) ?_|refine kBf (by omega) ?_|refine kRa ?_|refine kRb ?_|refine VRead.fld ?_|refine VRead.load1 (by assumption) ?_|refine VRead.load (by assumption) ?_|refine kRf ?_|refine kRg ?_|refine kRh ?_|refine kRi ?_|refine kBe rfl ?_|refine kBc rfl ?_|refine kWa (by omega) (by omega) ?_|refine kWb (by omega) (by omega) ?_|refine kRj (by omega) ?_|refine kRk ?_|refine VSem.convI ?_|refine VRead.convI ?_|refine VRead.rem (by omega) (by decide) ?_|refine VRead.neg ?_|refine VC.seq ?_); (conv => whnf)) | (refine VRead.loadB hb rfl rfl ?_; (conv => whnf))))
  refine VSem.rangeM h2 str_keyed ?_
  intro W1 hR1 hg1 hz1
  have hB1 : Below W.heap.size W W1 := (Below.refl _ _).grown hg1 (Nat.le_refl _) (by intro k hk; cases hk)
  ((conv => whnf); (repeat ((first|refine kLa ?_|refine kLb ?_|refine kCa rfl ?_|refine kCb ?_|refine kCc ?_|refine kCd ?_|refine kCe ?_|refine kCf ?_|refine kCg ?_|refine kCh ?_|refine kCi ?_|refine kCj ?_|refine kQa ?_|refine kQb ?_|refine kGa ?_|refine kGb ?_|refine kHa ?_|refine kHb ?_); (conv => whnf))))
  ((repeat ((first|refine kLa ?_|refine kLb ?_|refine kCa rfl ?_|refine kCb ?_|refine kCc ?_|refine kCd ?_|refine kCe ?_|refine kCf ?_|refine kCg ?_|refine kCh ?_|refine kCi ?_|refine kCj ?_|refine kQa ?_|refine kQb ?_|refine kGa ?_|refine kGb ?_|refine kHa ?_|refine kHb ?_|refine kPa ?_|refine kPb ?_|refine kPc ?_|refine kEa ?_|refine kEb ?_|refine kBa ?_|refine kBb ?_|refine kBc (by omega) ?_|refine kBd (by omega) ?_|refine kBe (by omega) ?_|refine kBf (by omega) ?_|refine kRa ?_|refine kRb ?_|refine VRead.fld ?_|refine VRead.load1 (by assumption) ?_|refine VRead.load (by assumption) ?_|refine kRf ?_|refine kRg ?_|refine kRh ?_|refine kRi ?_|refine kBe rfl ?_|refine kBc rfl ?_|refine kWa (by omega) (by omega) ?_|refine kWb (by omega) (by omega) ?_|refine kRj (by omega) ?_|refine kRk ?_|refine VSem.convI ?_|refine VRead.convI ?_|refine VRead.rem (by omega) (by decide) ?_|refine VRead.neg ?_|refine VC.seq ?_); (conv => whnf))))
  refine VC.loop [3] [(3, 4), (10, 17)] (fun q vs w => ∃ acc left A k, vs = [.slice A acc.length k] ∧ RangeIs Try.prog 9 w m W.heap.size nD D left q ∧ w.ownsRow W.heap.size 9 1 (.slice A acc.length k) acc.length (acc.map encStr) ∧ Todo slit L left acc ∧ Below W.heap.size W w) (by kernel_rfl)
    ⟨_, [], _, _, _, rfl, hR1, World.ownsRow_nil W1 _ _ _, Todo.start (fun p hp => R.has p hp), hB1⟩ ?_
  rintro q τ vs w ⟨acc, left, A, k, rfl, hRw, hO, hT, hBw⟩
  have hal := hT.len
  ((conv => whnf); (repeat ((first|refine kLa ?_|refine kLb ?_|refine kCa rfl ?_|refine kCb ?_|refine kCc ?_|refine kCd ?_|refine kCe ?_|refine kCf ?_|refine kCg ?_|refine kCh ?_|refine kCi ?_|refine kCj ?_|refine kQa ?_|refine kQb ?_|refine kGa ?_|refine kGb ?_|refine kHa ?_|refine kHb ?_); (conv => whnf))))
  refine VSem.nextM hRw str_keyed (fun h0 hall => ?_) (fun key v kl w' cnt' hkey hleft hmv hhas hRw' hcnt hg' hsz' hentry => ?_)
  · ((conv => whnf); (repeat ((first|refine kLa ?_|refine kLb ?_|refine kCa rfl ?_|refine kCb ?_|refine kCc ?_|refine kCd ?_|refine kCe ?_|refine kCf ?_|refine kCg ?_|refine kCh ?_|refine kCi ?_|refine kCj ?_|refine kQa ?_|refine kQb ?_|refine kGa ?_|refine kGb ?_|refine kHa ?_|refine kHb ?_); (conv => whnf))))
    ((repeat ((first|refine kLa ?_|refine kLb ?_|refine kCa rfl ?_|refine kCb ?_|refine kCc ?_|refine kCd ?_|refine kCe ?_|refine kCf ?_|refine kCg ?_|refine kCh ?_|refine kCi ?_|refine kCj ?_|refine kQa ?_|refine kQb ?_|refine kGa ?_|refine kGb ?_|refine kHa ?_|refine kHb ?_|refine kPa ?_|refine kPb ?_|refine kPc ?_|refine kEa ?_|refine kEb ?_|refine kBa ?_|refine kBb ?_|refine kBc (by omega) ?_|refine kBd (by omega) ?_|refine kBe (by omega) ?_|refine kBf (by omega) ?_|refine kRa ?_|refine kRb ?_|refine VRead.fld ?_|refine VRead.load1 (by assumption) ?_|refine VRead.load (by assumption) ?_|refine kRf ?_|refine kRg ?_|refine kRh ?_|refine kRi ?_|refine kBe rfl ?_|refine kBc rfl ?_|refine kWa (by omega) (by omega) ?_|refine kWb (by omega) (by omega) ?_|refine kRj (by omega) ?_|refine kRk ?_|refine VSem.convI ?_|refine VRead.convI ?_|refine VRead.rem (by omega) (by decide) ?_|refine VRead.neg ?_|refine VC.seq ?_); (conv => whnf))))
    have hsrt := sortStrs_row Try.lays190 hO (by omega)
    refine VCall.of hsrt ?_
    rintro e w2 ⟨rfl, hO2, hg2⟩
    refine ⟨_, rfl, ?_⟩
    rw [sorted_keys h.ris hT.nd (hT.all hall)] at hO2
    have hlen : acc.length = L.length := by
      have := (List.mergeSort_perm acc fun x y => decide (x ≤ y)).length_eq
      rw [sorted_keys h.ris hT.nd (hT.all hall)] at this
      simpa using this.symm
    rw [hlen] at hO2 hg2
    ((conv => whnf); (repeat ((first|refine kLa ?_|refine kLb ?_|refine kCa rfl ?_|refine kCb ?_|refine kCc ?_|refine kCd ?_|refine kCe ?_|refine kCf ?_|refine kCg ?_|refine kCh ?_|refine kCi ?_|refine kCj ?_|refine kQa ?_|refine kQb ?_|refine kGa ?_|refine kGb ?_|refine kHa ?_|refine kHb ?_); (conv => whnf))))
    ((repeat ((first|refine kLa ?_|refine kLb ?_|refine kCa rfl ?_|refine kCb ?_|refine kCc ?_|refine kCd ?_|refine kCe ?_|refine kCf ?_|refine kCg ?_|refine kCh ?_|refine kCi ?_|refine kCj ?_|refine kQa ?_|refine kQb ?_|refine kGa ?_|refine kGb ?_|refine kHa ?_|refine kHb ?_|refine kPa ?_|refine kPb ?_|refine kPc ?_|refine kEa ?_|refine kEb ?_|refine kBa ?_|refine kBb ?_|refine kBc (by omega) ?_|refine kBd (by omega) ?_|refine kBe (by omega) ?_|refine kBf (by omega) ?_|refine kRa ?_|refine kRb ?_|refine VRead.fld ?_|refine VRead.load1 (by assumption) ?_|refine VRead.load (by assumption) ?_|refine kRf ?_|refine kRg ?_|refine kRh ?_|refine kRi ?_|refine kBe rfl ?_|refine kBc rfl ?_|refine kWa (by omega) (by omega) ?_|refine kWb (by omega) (by omega) ?_|refine kRj (by omega) ?_|refine kRk ?_|refine VSem.convI ?_|refine VRead.convI ?_|refine VRead.rem (by omega) (by decide) ?_|refine VRead.neg ?_|refine VC.seq ?_); (conv => whnf))))
    refine ⟨A, k, ?_, hO2, hBw.grown hg2 hBw.size (fun j hj => (row_cells hO j (by rw [hlen]; exact hj)).1)⟩
    rw [← hlen]
    rfl
  · obtain ⟨p, hp, rfl, rfl⟩ := key_of R hkey hhas
    have hT' := hT.next slit_inj (str_keyed.key hkey) rfl (List.mem_map_of_mem hp) hleft
    have hO' := row_range hO hRw hg'
    have hBw' := hBw.grown hg' hBw.size (by intro j hj; injection hj with hj; omega)
    ((conv => whnf); (repeat ((first|refine kLa ?_|refine kLb ?_|refine kCa rfl ?_|refine kCb ?_|refine kCc ?_|refine kCd ?_|refine kCe ?_|refine kCf ?_|refine kCg ?_|refine kCh ?_|refine kCi ?_|refine kCj ?_|refine kQa ?_|refine kQb ?_|refine kGa ?_|refine kGb ?_|refine kHa ?_|refine kHb ?_); (conv => whnf))))
    ((repeat ((first|refine kLa ?_|refine kLb ?_|refine kCa rfl ?_|refine kCb ?_|refine kCc ?_|refine kCd ?_|refine kCe ?_|refine kCf ?_|refine kCg ?_|refine kCh ?_|refine kCi ?_|refine kCj ?_|refine kQa ?_|refine kQb ?_|refine kGa ?_|refine kGb ?_|refine kHa ?_|refine kHb ?_|refine kPa ?_|refine kPb ?_|refine kPc ?_|refine kEa ?_|refine kEb ?_|refine kBa ?_|refine kBb ?_|refine kBc (by omega) ?_|refine kBd (by omega) ?_|refine kBe (by omega) ?_|refine kBf (by omega) ?_|refine kRa ?_|refine kRb ?_|refine VRead.fld ?_|refine VRead.load1 (by assumption) ?_|refine VRead.load (by assumption) ?_|refine kRf ?_|refine kRg ?_|refine kRh ?_|refine kRi ?_|refine kBe rfl ?_|refine kBc rfl ?_|refine kWa (by omega) (by omega) ?_|refine kWb (by omega) (by omega) ?_|refine kRj (by omega) ?_|refine kRk ?_|refine VSem.convI ?_|refine VRead.convI ?_|refine VRead.rem (by omega) (by decide) ?_|refine VRead.neg ?_|refine VC.seq ?_); (conv => whnf))))
    refine VSem.of hentry ?_
    ((conv => whnf); (repeat ((first|refine kLa ?_|refine kLb ?_|refine kCa rfl ?_|refine kCb ?_|refine kCc ?_|refine kCd ?_|refine kCe ?_|refine kCf ?_|refine kCg ?_|refine kCh ?_|refine kCi ?_|refine kCj ?_|refine kQa ?_|refine kQb ?_|refine kGa ?_|refine kGb ?_|refine kHa ?_|refine kHb ?_); (conv => whnf))))
    ((repeat ((first|refine kLa ?_|refine kLb ?_|refine kCa rfl ?_|refine kCb ?_|refine kCc ?_|refine kCd ?_|refine kCe ?_|refine kCf ?_|refine kCg ?_|refine kCh ?_|refine kCi ?_|refine kCj ?_|refine kQa ?_|refine kQb ?_|refine kGa ?_|refine kGb ?_|refine kHa ?_|refine kHb ?_|refine kPa ?_|refine kPb ?_|refine kPc ?_|refine kEa ?_|refine kEb ?_|refine kBa ?_|refine kBb ?_|refine kBc (by omega) ?_|refine kBd (by omega) ?_|refine kBe (by omega) ?_|refine kBf (by omega) ?_|refine kRa ?_|refine kRb ?_|refine VRead.fld ?_|refine VRead.load1 (by assumption) ?_|refine VRead.load (by assumption) ?_|refine kRf ?_|refine kRg ?_|refine kRh ?_|refine kRi ?_|refine kBe rfl ?_|refine kBc rfl ?_|refine kWa (by omega) (by omega) ?_|refine kWb (by omega) (by omega) ?_|refine kRj (by omega) ?_|refine kRk ?_|refine VSem.convI ?_|refine VRead.convI ?_|refine VRead.rem (by omega) (by decide) ?_|refine VRead.neg ?_|refine VC.seq ?_); (conv => whnf))))
    refine VSem.one rfl ?_
    intro w2 hr2 hB2 hz2
    have hR2 := hRw'.below hB2 (Nat.le_refl _)
    have hO2 := rows_below hO' hB2 (Nat.le_refl _)
    have hBw2 := hBw'.trans (hB2.mono hBw'.size)
    ((conv => whnf); (repeat ((first|refine kLa ?_|refine kLb ?_|refine kCa rfl ?_|refine kCb ?_|refine kCc ?_|refine kCd ?_|refine kCe ?_|refine kCf ?_|refine kCg ?_|refine kCh ?_|refine kCi ?_|refine kCj ?_|refine kQa ?_|refine kQb ?_|refine kGa ?_|refine kGb ?_|refine kHa ?_|refine kHb ?_); (conv => whnf))))
    ((repeat ((first|refine kLa ?_|refine kLb ?_|refine kCa rfl ?_|refine kCb ?_|refine kCc ?_|refine kCd ?_|refine kCe ?_|refine kCf ?_|refine kCg ?_|refine kCh ?_|refine kCi ?_|refine kCj ?_|refine kQa ?_|refine kQb ?_|refine kGa ?_|refine kGb ?_|refine kHa ?_|refine kHb ?_|refine kPa ?_|refine kPb ?_|refine kPc ?_|refine kEa ?_|refine kEb ?_|refine kBa ?_|refine kBb ?_|refine kBc (by omega) ?_|refine kBd (by omega) ?_|refine kBe (by omega) ?_|refine kBf (by omega) ?_|refine kRa ?_|refine kRb ?_|refine VRead.fld ?_|refine VRead.load1 (by assumption) ?_|refine VRead.load (by assumption) ?_|refine kRf ?_|refine kRg ?_|refine kRh ?_|refine kRi ?_|refine kBe rfl ?_|refine kBc rfl ?_|refine kWa (by omega) (by omega) ?_|refine kWb (by omega) (by omega) ?_|refine kRj (by omega) ?_|refine kRk ?_|refine VSem.convI ?_|refine VRead.convI ?_|refine VRead.rem (by omega) (by decide) ?_|refine VRead.neg ?_|refine VC.seq ?_); (conv => whnf))))
    refine VSem.push str_info rfl hO2 hr2 rfl (by omega) (by decide) hBw2.size ?_
    intro A' k' w3 hO3 hg3
    have hR3 := hR2.row hO2 hg3
    have hBw3 := hBw2.grown hg3 hBw2.size (fun j hj => (row_cells hO2 j hj).1)
    ((conv => whnf); (repeat ((first|refine kLa ?_|refine kLb ?_|refine kCa rfl ?_|refine kCb ?_|refine kCc ?_|refine kCd ?_|refine kCe ?_|refine kCf ?_|refine kCg ?_|refine kCh ?_|refine kCi ?_|refine kCj ?_|refine kQa ?_|refine kQb ?_|refine kGa ?_|refine kGb ?_|refine kHa ?_|refine kHb ?_); (conv => whnf))))
    ((repeat ((first|refine kLa ?_|refine kLb ?_|refine kCa rfl ?_|refine kCb ?_|refine kCc ?_|refine kCd ?_|refine kCe ?_|refine kCf ?_|refine kCg ?_|refine kCh ?_|refine kCi ?_|refine kCj ?_|refine kQa ?_|refine kQb ?_|refine kGa ?_|refine kGb ?_|refine kHa ?_|refine kHb ?_|refine kPa ?_|refine kPb ?_|refine kPc ?_|refine kEa ?_|refine kEb ?_|refine kBa ?_|refine kBb ?_|refine kBc (by omega) ?_|refine kBd (by omega) ?_|refine kBe (by omega) ?_|refine kBf (by omega) ?_|refine kRa ?_|refine kRb ?_|refine VRead.fld ?_|refine VRead.load1 (by assumption) ?_|refine VRead.load (by assumption) ?_|refine kRf ?_|refine kRg ?_|refine kRh ?_|refine kRi ?_|refine kBe rfl ?_|refine kBc rfl ?_|refine kWa (by omega) (by omega) ?_|refine kWb (by omega) (by omega) ?_|refine kRj (by omega) ?_|refine kRk ?_|refine VSem.convI ?_|refine VRead.convI ?_|refine VRead.rem (by omega) (by decide) ?_|refine VRead.neg ?_|refine VC.seq ?_); (conv => whnf))))
    refine ⟨cnt', hcnt, acc ++ [p.1], _, A', k', ?_, hR3, ?_, hT', hBw3⟩
    · simp only [List.length_append, List.length_cons, List.length_nil]; rfl
    · simpa only [List.length_append, List.length_cons, List.length_nil, List.map_append, List.map_cons, List.map_nil] using hO3

/-! ### the sum -/
def lenAt (L : PT) (s : List UInt8) : Nat := match tfind L s with | some f => f.b.length | none => 0
theorem used_eq : ∀ (L : PT), used L = (L.map (fun p => p.2.b.length)).sum
  | [] => rfl
  | p :: r => by unfold used; rw [used_eq r]; simp
theorem len_used {T : PT} {p : List UInt8 × Fl} (h : p ∈ T) : p.2.b.length ≤ used T := by
  induction T with
  | nil => cases h
  | cons q r ih =>
    unfold used
    rcases List.mem_cons.1 h with e | h
    · subst e; omega
    · have := ih h; omega
theorem lenAt_le (L : PT) (s : List UInt8) : lenAt L s ≤ used L := by
  unfold lenAt
  cases h : tfind L s with
  | none => exact Nat.zero_le _
  | some p => exact len_used (tfind_mem h)
theorem lenAt_mem {L : PT} (hR : Rising L) {p : List UInt8 × Fl} (h : p ∈ L) : lenAt L p.1 = p.2.b.length := by
  unfold lenAt
  rw [tfind_of hR.nd (i := p.1) (x := p.2) h]
theorem sum_le {f : List UInt8 → Nat} {M : Nat} (hf : ∀ s, f s ≤ M) : ∀ (l : List (List UInt8)), (l.map f).sum ≤ l.length * M
  | [] => by simp
  | s :: l => by
    have := sum_le hf l
    have := hf s
    simp only [List.map_cons, List.sum_cons, List.length_cons, Nat.add_mul, Nat.one_mul]
    omega
theorem sum_used {L : PT} (hR : Rising L) {acc : List (List UInt8)} (hn : acc.Nodup) (h : ∀ a, a ∈ acc ↔ a ∈ L.map (·.1)) : (acc.map (lenAt L)).sum = used L := by
  have hp : acc.Perm (L.map (·.1)) := by
    have := (List.mergeSort_perm acc fun x y => decide (x ≤ y)).symm
    rwa [sorted_keys hR hn h] at this
  rw [(hp.map (lenAt L)).sum_nat, used_eq, List.map_map]
  congr 1
  exact List.map_congr_left (fun p hp => lenAt_mem hR hp)
theorem used_perm {T T' : PT} (h : T.Perm T') : used T = used T' := by
  rw [used_eq, used_eq, (h.map _).sum_nat]
theorem used_tset {T : PT} (h : Rising T) (s : List UInt8) (f : Fl) : used (tset T s f) = f.b.length + used (tdel T s) := by
  rw [used_perm (tset_perm2 h s f)]; rfl
theorem used_tdel {T : PT} {s : List UInt8} {f : Fl} (h : Rising T) (hf : tfind T s = some f) : used T = f.b.length + used (tdel T s) := by
  obtain ⟨A, B, rfl⟩ := tfind_some hf
  rw [tdel_eq h.nd, used_perm (List.perm_middle (a := (s, f)) (l₁ := A) (l₂ := B))]
  rfl
theorem used_tdel_le (T : PT) (s : List UInt8) : used (tdel T s) ≤ used T := by
  induction T with
  | nil => exact Nat.le_refl _
  | cons q r ih =>
    unfold tdel at ih ⊢
    rw [List.filter_cons]
    split
    · unfold used; omega
    · conv => rhs; unfold used
      omega
set_option maxHeartbeats 1000000 in
theorem dUsed_at (W : World) (U : Foot) (d m c : Nat) (K : Dk) (L : DTb) (h : DiskAt W U d m c K L) (hroom : 0 ≤ K.room ∧ K.room ≤ 16777216) (hfit : (used (plain L) : Int) ≤ K.room) (hfew : L.length ≤ 64) :
    Calls Try.prog 94 #[.pointer (some ⟨d, 0, none⟩)] W fun e W' => e = .returned (.int .i64 (used (plain L) : Int)) ∧ Below W.heap.size W W' := by
  have hb := h.blk
  have hris : Rising (plain L) := (rising_tmap _ L).2 h.ris
  obtain ⟨nD, D, h1, h2, R⟩ := h.map
  refine calls_vc Try.func94 rfl (by kernel_rfl) ?_
  ((conv => whnf); (repeat ((first|refine kLa ?_|refine kLb ?_|refine kCa rfl ?_|refine kCb ?_|refine kCc ?_|refine kCd ?_|refine kCe ?_|refine kCf ?_|refine kCg ?_|refine kCh ?_|refine kCi ?_|refine kCj ?_|refine kQa ?_|refine kQb ?_|refine kGa ?_|refine kGb ?_|refine kHa ?_|refine kHb ?_); (conv => whnf))))
  (repeat (first | ((first|refine kLa ?_|refine kLb ?_|refine kCa rfl ?_|refine kCb ?_|refine kCc ?_|refine kCd ?_|refine kCe ?_|refine kCf ?_|refine kCg ?_|refine kCh ?_|refine kCi ?_|refine kCj ?_|refine kQa ?_|refine kQb ?_|refine kGa ?_|refine kGb ?_|refine kHa ?_|refine kHb ?_|refine kPa ?_|refine kPb ?_|refine kPc ?_|refine kEa ?_|refine kEb ?_|refine kBa ?_|refine kBb ?_|refine kBc (by omega) ?_|refine kBd (by omega) ?_|refine kBe (by omega) ?_|refine kBf (by omega) ?_|refine kRa ?_|refine kRb ?_|refine VRead.fld ?_|refine VRead.load1 (by assumption) ?_|refine VRead.load (by assumption) ?_|refine kRf ?_|refine kRg ?_|refine kRh ?_|refine kRi ?_|refine kBe rfl ?_|refine kBc rfl ?_|refine kWa (by omega) (by omega) ?_|refine kWb (by omega) (by omega) ?_|refine kRj (by omega) ?_|refine kRk ?_|refine VSem.convI ?_|refine VRead.convI ?_|refine VRead.rem (by omega) (by decide) ?_|refine VRead.neg ?_|refine VC.seq ?_); (conv => whnf)) | (refine VRead.loadB hb rfl rfl ?_; (conv => whnf))))
  refine VSem.rangeM h2 str_keyed ?_
  intro W1 hR1 hg1 hz1
  have hB1 : Below W.heap.size W W1 := (Below.refl _ _).grown hg1 (Nat.le_refl _) (by intro k hk; cases hk)
  ((conv => whnf); (repeat ((first|refine kLa ?_|refine kLb ?_|refine kCa rfl ?_|refine kCb ?_|refine kCc ?_|refine kCd ?_|refine kCe ?_|refine kCf ?_|refine kCg ?_|refine kCh ?_|refine kCi ?_|refine kCj ?_|refine kQa ?_|refine kQb ?_|refine kGa ?_|refine kGb ?_|refine kHa ?_|refine kHb ?_); (conv => whnf))))
  ((repeat ((first|refine kLa ?_|refine kLb ?_|refine kCa rfl ?_|refine kCb ?_|refine kCc ?_|refine kCd ?_|refine kCe ?_|refine kCf ?_|refine kCg ?_|refine kCh ?_|refine kCi ?_|refine kCj ?_|refine kQa ?_|refine kQb ?_|refine kGa ?_|refine kGb ?_|refine kHa ?_|refine kHb ?_|refine kPa ?_|refine kPb ?_|refine kPc ?_|refine kEa ?_|refine kEb ?_|refine kBa ?_|refine kBb ?_|refine kBc (by omega) ?_|refine kBd (by omega) ?_|refine kBe (by omega) ?_|refine kBf (by omega) ?_|refine kRa ?_|refine kRb ?_|refine VRead.fld ?_|refine VRead.load1 (by assumption) ?_|refine VRead.load (by assumption) ?_|refine kRf ?_|refine kRg ?_|refine kRh ?_|refine kRi ?_|refine kBe rfl ?_|refine kBc rfl ?_|refine kWa (by omega) (by omega) ?_|refine kWb (by omega) (by omega) ?_|refine kRj (by omega) ?_|refine kRk ?_|refine VSem.convI ?_|refine VRead.convI ?_|refine VRead.rem (by omega) (by decide) ?_|refine VRead.neg ?_|refine VC.seq ?_); (conv => whnf))))
  refine VC.loop [3] [(3, 3), (5, 5), (11, 21)] (fun q vs w => ∃ acc left, vs = [.int .i64 ((acc.map (lenAt (plain L))).sum : Nat)] ∧ RangeIs Try.prog 9 w m W.heap.size nD D left q ∧ Todo slit L left acc ∧ Below W.heap.size W w) (by kernel_rfl)
    ⟨_, [], _, rfl, hR1, Todo.start (fun p hp => R.has p hp), hB1⟩ ?_
  rintro q τ vs w ⟨acc, left, rfl, hRw, hT, hBw⟩
  have hal := hT.len
  ((conv => whnf); (repeat ((first|refine kLa ?_|refine kLb ?_|refine kCa rfl ?_|refine kCb ?_|refine kCc ?_|refine kCd ?_|refine kCe ?_|refine kCf ?_|refine kCg ?_|refine kCh ?_|refine kCi ?_|refine kCj ?_|refine kQa ?_|refine kQb ?_|refine kGa ?_|refine kGb ?_|refine kHa ?_|refine kHb ?_); (conv => whnf))))
  refine VSem.nextM hRw str_keyed (fun h0 hall => ?_) (fun key v kl w' cnt' hkey hleft hmv hhas hRw' hcnt hg' hsz' hentry => ?_)
  · ((conv => whnf); (repeat ((first|refine kLa ?_|refine kLb ?_|refine kCa rfl ?_|refine kCb ?_|refine kCc ?_|refine kCd ?_|refine kCe ?_|refine kCf ?_|refine kCg ?_|refine kCh ?_|refine kCi ?_|refine kCj ?_|refine kQa ?_|refine kQb ?_|refine kGa ?_|refine kGb ?_|refine kHa ?_|refine kHb ?_); (conv => whnf))))
    ((repeat ((first|refine kLa ?_|refine kLb ?_|refine kCa rfl ?_|refine kCb ?_|refine kCc ?_|refine kCd ?_|refine kCe ?_|refine kCf ?_|refine kCg ?_|refine kCh ?_|refine kCi ?_|refine kCj ?_|refine kQa ?_|refine kQb ?_|refine kGa ?_|refine kGb ?_|refine kHa ?_|refine kHb ?_|refine kPa ?_|refine kPb ?_|refine kPc ?_|refine kEa ?_|refine kEb ?_|refine kBa ?_|refine kBb ?_|refine kBc (by omega) ?_|refine kBd (by omega) ?_|refine kBe (by omega) ?_|refine kBf (by omega) ?_|refine kRa ?_|refine kRb ?_|refine VRead.fld ?_|refine VRead.load1 (by assumption) ?_|refine VRead.load (by assumption) ?_|refine kRf ?_|refine kRg ?_|refine kRh ?_|refine kRi ?_|refine kBe rfl ?_|refine kBc rfl ?_|refine kWa (by omega) (by omega) ?_|refine kWb (by omega) (by omega) ?_|refine kRj (by omega) ?_|refine kRk ?_|refine VSem.convI ?_|refine VRead.convI ?_|refine VRead.rem (by omega) (by decide) ?_|refine VRead.neg ?_|refine VC.seq ?_); (conv => whnf))))
    rw [sum_used hris hT.nd (by rw [tmap_keys]; exact hT.all hall)]
    exact ⟨rfl, hBw⟩
  · obtain ⟨p, hp, rfl, rfl⟩ := key_of R hkey hhas
    have hT' := hT.next slit_inj (str_keyed.key hkey) rfl (List.mem_map_of_mem hp) hleft
    have hBw' := hBw.grown hg' hBw.size (by intro j hj; injection hj with hj; omega)
    obtain rfl : v = pEnc p.2 := by rw [← hmv (.bool true), R.at_ p hp]
    obtain ⟨_, Af, kf, hbf, _, _⟩ := (h.below hBw' (Nat.le_refl _)).fl p hp
    have hpm : ((p.1, p.2.2) : List UInt8 × Fl) ∈ plain L := List.mem_map_of_mem (f := fun p : List UInt8 × (Nat × Fl) => (p.1, p.2.2)) hp
    have hsl : ((acc.map (lenAt (plain L))).sum : Nat) ≤ acc.length * used (plain L) := sum_le (lenAt_le (plain L)) acc
    have hsl2 : acc.length * used (plain L) ≤ 64 * 16777216 := Nat.mul_le_mul (by omega) (by omega)
    have hpl := len_used hpm
    simp only at hpl
    ((conv => whnf); (repeat ((first|refine kLa ?_|refine kLb ?_|refine kCa rfl ?_|refine kCb ?_|refine kCc ?_|refine kCd ?_|refine kCe ?_|refine kCf ?_|refine kCg ?_|refine kCh ?_|refine kCi ?_|refine kCj ?_|refine kQa ?_|refine kQb ?_|refine kGa ?_|refine kGb ?_|refine kHa ?_|refine kHb ?_); (conv => whnf))))
    ((repeat ((first|refine kLa ?_|refine kLb ?_|refine kCa rfl ?_|refine kCb ?_|refine kCc ?_|refine kCd ?_|refine kCe ?_|refine kCf ?_|refine kCg ?_|refine kCh ?_|refine kCi ?_|refine kCj ?_|refine kQa ?_|refine kQb ?_|refine kGa ?_|refine kGb ?_|refine kHa ?_|refine kHb ?_|refine kPa ?_|refine kPb ?_|refine kPc ?_|refine kEa ?_|refine kEb ?_|refine kBa ?_|refine kBb ?_|refine kBc (by omega) ?_|refine kBd (by omega) ?_|refine kBe (by omega) ?_|refine kBf (by omega) ?_|refine kRa ?_|refine kRb ?_|refine VRead.fld ?_|refine VRead.load1 (by assumption) ?_|refine VRead.load (by assumption) ?_|refine kRf ?_|refine kRg ?_|refine kRh ?_|refine kRi ?_|refine kBe rfl ?_|refine kBc rfl ?_|refine kWa (by omega) (by omega) ?_|refine kWb (by omega) (by omega) ?_|refine kRj (by omega) ?_|refine kRk ?_|refine VSem.convI ?_|refine VRead.convI ?_|refine VRead.rem (by omega) (by decide) ?_|refine VRead.neg ?_|refine VC.seq ?_); (conv => whnf))))
    refine VSem.of hentry ?_
    ((conv => whnf); (repeat ((first|refine kLa ?_|refine kLb ?_|refine kCa rfl ?_|refine kCb ?_|refine kCc ?_|refine kCd ?_|refine kCe ?_|refine kCf ?_|refine kCg ?_|refine kCh ?_|refine kCi ?_|refine kCj ?_|refine kQa ?_|refine kQb ?_|refine kGa ?_|refine kGb ?_|refine kHa ?_|refine kHb ?_); (conv => whnf))))
    (repeat (first | ((first|refine kLa ?_|refine kLb ?_|refine kCa rfl ?_|refine kCb ?_|refine kCc ?_|refine kCd ?_|refine kCe ?_|refine kCf ?_|refine kCg ?_|refine kCh ?_|refine kCi ?_|refine kCj ?_|refine kQa ?_|refine kQb ?_|refine kGa ?_|refine kGb ?_|refine kHa ?_|refine kHb ?_|refine kPa ?_|refine kPb ?_|refine kPc ?_|refine kEa ?_|refine kEb ?_|refine kBa ?_|refine kBb ?_|refine kBc (by omega) ?_|refine kBd (by omega) ?_|refine kBe (by omega) ?_|refine kBf (by omega) ?_|refine kRa ?_|refine kRb ?_|refine VRead.fld ?_|refine VRead.load1 (by assumption) ?_|refine VRead.load (by assumption) ?_|refine kRf ?_|refine kRg ?_|refine kRh ?_|refine kRi ?_|refine kBe rfl ?_|refine kBc rfl ?_|refine kWa (by omega) (by omega) ?_|refine kWb (by omega) (by omega) ?_|refine kRj (by omega) ?_|refine kRk ?_|refine VSem.convI ?_|refine VRead.convI ?_|refine VRead.rem (by omega) (by decide) ?_|refine VRead.neg ?_|refine VC.seq ?_); (conv => whnf)) | (refine VRead.loadB hbf rfl rfl ?_; (conv => whnf))))
    refine ⟨cnt', hcnt, acc ++ [p.1], _, ?_, hRw', hT', hBw'⟩
    rw [List.map_append, List.sum_append, Int.natCast_add]
    simp only [List.map_cons, List.map_nil, List.sum_cons, List.sum_nil, Nat.add_zero]
    rw [lenAt_mem hris hpm]
    rfl
end Go.Proofs.Ytebeidnmplnlpaa
end
