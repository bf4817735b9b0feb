/- Bytes, numbers, strings as cells; how arguments are opened; string(b) and []byte(s). No condition. -/
import Derived.Test.YtajheglnhfjodaaDoorRows
import Derived.Test.YtajheglnhfjodaaDoorWords
import Derived.WalkKit
import Derived.ProofKit
import Derived.SizedLaws
import Derived.Laws.DeepNot64
import Derived.SliceStrings
import Derived.Laws.BytesArg
import Derived.Lib.Hide
namespace Go.Proofs.YtajheglnhfjodaaDoor
set_option linter.unusedVariables false
open Go.RowKit Go.ChangeShapes Go.WideShapes Go.ChangeAt
open Go.ChangeMaps (open_string shut_string)

/-- bytes as cells -/
def bv (l : List UInt8) : List Value := l.map fun x => .int .u8 (x.toNat : Int)
/-- numbers as cells -/
def iv (k : IntKind) (l : List Int) : List Value := l.map (Value.int k)
/-- strings as cells -/
def sv (l : List ByteArray) : List Value := l.map Value.string
/-- truths as cells -/
def tv (l : List Bool) : List Value := l.map Value.bool
/-- a text of bytes -/
def txt (l : List UInt8) : ByteArray := ⟨l.toArray⟩

theorem map_at {α : Type} {f : α → Value} {l : List α} {k : Nat} {u : Value} (h : (l.map f)[k]? = some u) : ∃ x, l[k]? = some x ∧ u = f x := by
  simp only [List.getElem?_map, Option.map_eq_some_iff] at h
  obtain ⟨x, h1, rfl⟩ := h
  exact ⟨x, h1, rfl⟩
theorem bv_length (l : List UInt8) : (bv l).length = l.length := by simp [bv]
theorem bv_append (l m : List UInt8) : bv (l ++ m) = bv l ++ bv m := by simp [bv]
theorem bv_take (l : List UInt8) (n : Nat) : bv (l.take n) = (bv l).take n := by simp [bv, List.map_take]
theorem bv_drop (l : List UInt8) (n : Nat) : bv (l.drop n) = (bv l).drop n := by simp [bv, List.map_drop]
theorem bv_at {l : List UInt8} {k : Nat} {u : Value} (h : (bv l)[k]? = some u) : ∃ x, l[k]? = some x ∧ u = .int .u8 (x.toNat : Int) := map_at h
theorem bv_one (l : List UInt8) : ∀ u ∈ bv l, u.oneCell' = true := by
  intro u hu
  obtain ⟨x, _, rfl⟩ := List.mem_map.1 hu
  rfl
theorem u8x (x y : UInt8) : bits BinOp.xor IntKind.u8 (x.toNat : Int) (y.toNat : Int) = ((x.toNat ^^^ y.toNat : Nat) : Int) := by
  have hx := x.toNat_lt
  have hy := y.toNat_lt
  rw [u8_xor_nat _ _ (by omega) (by omega)]
theorem u64_not {s : Nat} (h : s < 18446744073709551616) : s ^^^ 18446744073709551615 = 18446744073709551615 - s := by
  have e := BitVec.toNat_not (x := BitVec.ofNat 64 s)
  have e2 := congrArg BitVec.toNat (BitVec.xor_allOnes (x := BitVec.ofNat 64 s))
  rw [e, BitVec.toNat_xor] at e2
  simp only [BitVec.toNat_ofNat, BitVec.toNat_allOnes] at e2
  rw [Nat.mod_eq_of_lt (by omega)] at e2
  simpa using e2
theorem u8_and127 (x : UInt8) : bits BinOp.and IntKind.u8 (x.toNat : Int) 127 = ((x.toNat % 128 : Nat) : Int) := by
  have hx := x.toNat_lt
  rw [show (127 : Int) = ((127 : Nat) : Int) from rfl, u8_and_nat _ _ (by omega) (by omega), nat_mask7]
theorem u64_or_add {q z i : Nat} (hq : q < 2 ^ i) (hz : z < 18446744073709551616) (hd : 2 ^ i ∣ z) (hs : q + z < 18446744073709551616) : bits BinOp.or IntKind.u64 (q : Int) (z : Int) = ((q + z : Nat) : Int) := by
  rw [u64_or_nat _ _ (by omega) hz]
  congr 1
  obtain ⟨m, rfl⟩ := hd
  rw [Nat.add_comm, Nat.or_comm]
  exact (Nat.two_pow_add_eq_or_of_lt hq m).symm
theorem i64_xor_zero (a : Nat) (ha : a < 9223372036854775808) : bits BinOp.xor IntKind.i64 (a : Int) 0 = (a : Int) := by
  show IntKind.i64.wrap ((BitVec.ofInt 64 (a : Int) ^^^ BitVec.ofInt 64 0).toNat : Int) = _
  rw [show BitVec.ofInt 64 0 = 0#64 from rfl, BitVec.xor_zero, ofInt_u64 a (by omega)]
  simp [IntKind.wrap, IntKind.bits, IntKind.signed]
  omega
theorem i64_xor_neg (a : Nat) (ha : a < 9223372036854775808) : bits BinOp.xor IntKind.i64 (a : Int) (-1) = -(a : Int) - 1 := by
  have h := i64_not a ha
  have e : bits BinOp.xor IntKind.i64 (a : Int) (-1) = bits BinOp.xor IntKind.i64 (-1) (a : Int) := by simp [bits, BitVec.xor_comm]
  rw [e, h]
  omega
theorem u8_or128 (q : Nat) : bits BinOp.or IntKind.u8 ((q : Int) % 256) 128 = ((q % 128 + 128 : Nat) : Int) := by
  rw [show ((q : Int) % 256) = ((q % 256 : Nat) : Int) from by omega, show (128 : Int) = ((128 : Nat) : Int) from rfl, u8_or_nat _ _ (by omega) (by omega)]
  have h : ∀ r : Fin 256, (r.val ||| 128) = r.val % 128 + 128 := by decide +kernel
  have h1 := h ⟨q % 256, by omega⟩
  simp only at h1
  rw [h1]
  omega
theorem u8_turned (x : UInt8) (t : Nat) (ht : t < 8) (y : UInt8) (hy : y.toNat = x.toNat ^^^ 2 ^ t) : bits BinOp.xor IntKind.u8 (x.toNat : Int) (2 ^ t % 256) = (y.toNat : Int) := by
  have h : 2 ^ t < 256 := Nat.lt_of_lt_of_le (Nat.pow_lt_pow_right (by omega) ht) (by decide)
  have hx := x.toNat_lt
  have e : ((2 : Int) ^ t % 256) = ((2 ^ t % 256 : Nat) : Int) := by simp
  rw [e, Nat.mod_eq_of_lt h, u8_xor_nat _ _ (by omega) h, hy]
theorem u32_bit (r j : Nat) (hr : r < 4294967296) : (bits BinOp.and IntKind.u32 ((r : Int) / 2 ^ j) 1 == 1) = decide (r / 2 ^ j % 2 = 1) := by
  have h : r / 2 ^ j < 4294967296 := Nat.lt_of_le_of_lt (Nat.div_le_self _ _) hr
  rw [show ((r : Int) / 2 ^ j) = ((r / 2 ^ j : Nat) : Int) from by simp, show (1 : Int) = ((1 : Nat) : Int) from rfl, u32_and_nat _ _ h (by omega), nat_mask1]
  generalize r / 2 ^ j = q
  rw [Bool.eq_iff_iff, beq_iff_eq, decide_eq_true_iff]
  omega
theorem u8x3 (x y z : UInt8) : bits BinOp.xor IntKind.u8 ((x.toNat ^^^ y.toNat : Nat) : Int) (z.toNat : Int) = ((x.toNat ^^^ y.toNat ^^^ z.toNat : Nat) : Int) := by
  have h := u8x (x ^^^ y) z
  rwa [UInt8.toNat_xor] at h
theorem take_snoc {α : Type} {l : List α} {k : Nat} {x : α} (h : l[k]? = some x) : l.take (k + 1) = l.take k ++ [x] := by
  rw [List.take_add_one, h]; rfl
theorem txt_size (l : List UInt8) : (txt l).size = l.length := by simp [txt, ByteArray.size]
theorem txt_list (l : List UInt8) : (txt l).data.toList = l := rfl
theorem txt_of (s : ByteArray) : txt s.data.toList = s := rfl
@[go_sem] theorem txt_toList (l : List UInt8) : (txt l).toList = l := ByteArray.toList_mk l
theorem txt_inj {l m : List UInt8} : txt l = txt m ↔ l = m := ⟨fun h => by have := congrArg (fun s => s.data.toList) h; exact this, fun h => by rw [h]⟩

/-- a slice of bytes that came in: its bytes, below the reach -/
def InBytes (w : World) (A : Option Addr) (n c : Nat) (l : List UInt8) : Prop :=
  Reads w w.heap.size 1 A n (bv l) ∧ n ≤ c ∧ c ≤ 140737488351232
theorem InBytes.len {w : World} {A : Option Addr} {n c : Nat} {l : List UInt8} (h : InBytes w A n c l) : l.length = n := by
  have := h.1.1; rw [bv_length] at this; omega

/-- a new block, marked or not, read from its head -/
theorem reads_new (w : World) (l : List UInt8) (e : TypeId) (m : Nat × Nat) (C : Array Value) (hC : C = (bv l).toArray) (n : Nat) (hn : l.length = n) :
    Reads (w.alloc (.cells C e m)) (w.heap.size + 1) 1 (some ⟨w.heap.size, 0, none⟩) n (bv l) := by
  subst hC
  refine ⟨by rw [bv_length]; omega, fun _ => ⟨_, rfl, by simp, fun j u hu => ?_⟩⟩
  rw [show (⟨w.heap.size, 0, none⟩ : Addr).add j = ⟨w.heap.size, j, none⟩ from by unfold Addr.add; split <;> simp_all]
  rw [cell_of_row (w.alloc (.cells (bv l).toArray e m)) w.heap.size j (bv l).toArray e m (heap_alloc_new w _)]
  simpa using hu

/-! ### string(b) -/
theorem strOfNums_bytes (l : List UInt8) : strOfNums (l.map fun x => (x.toNat : Int)) = txt l := by
  unfold strOfNums txt
  rw [List.map_map]
  congr 1
  conv => rhs; rw [← List.map_id l]
  congr 1
  apply List.map_congr_left
  intro x _
  simp
theorem run_string_of {P : Program} (w : World) {src e dst : TypeId} (hs : P.underlying src = some (.slice e)) (he : P.underlying e = some (.int .u8)) (hd : P.underlying dst = some .string)
    {B : Nat} {A : Option Addr} {n : Nat} (c : Nat) {l : List UInt8} (h : Reads w B 1 A n (bv l)) : (convert src dst (.slice A n c)).run P w = .ok (.string (txt l)) w := by
  rcases A with _ | ad
  · have hn : n = 0 := by
      rcases Nat.eq_zero_or_pos n with h0 | h0
      · exact h0
      · obtain ⟨ad, h', _⟩ := h.2 h0; cases h'
    have hl : l = [] := List.eq_nil_of_length_eq_zero (by have := h.1; rw [bv_length] at this; omega)
    subst hl
    exact run_convert_bytes_nil w src e hs he n c dst hd
  · have hl : (loadCells ad n).run P w = .ok ((l.map fun x => (x.toNat : Int)).map (Value.int .u8)).toArray w := by
      have hlen : (bv l).length = n := by have := h.1; omega
      have := run_loadCells_list (P := P) w ad (bv l) (fun j v hj => by
        have hj' : j < (bv l).length := (List.getElem?_eq_some_iff.1 hj).1
        obtain ⟨ad', e', _, hc⟩ := h.2 (by omega)
        injection e' with e'
        subst e'
        exact hc j v hj)
      rw [hlen] at this
      rw [this]
      simp [bv]
    rw [run_convert_bytes_string w src dst e _ n c hs he hd, run_bytesToString w _ n c _ hl, foldl_push_bytes, ← strOfNums_bytes]
    simp [strOfNums, ByteArray.empty, ByteArray.emptyWithCapacity]
    rfl

theorem ret_i64 {a b : Int} (h : a = b) : Ending.returned (.int .i64 a) = .returned (.int .i64 b) := by rw [h]

/-! ### bulk -/
theorem bulk_one {H : Type} (d : DataW H) : 1 ≤ Rows.uptoBulk d := by
  cases d with
  | lit l => cases l <;> simp [Rows.uptoBulk]
  | _ => simp [Rows.uptoBulk]
theorem bulk_mem {H : Type} {d : DataW H} : ∀ {l : List (DataW H)}, d ∈ l → Rows.uptoBulk d ≤ Rows.uptoBulkAll l
  | x :: r, h => by
    simp only [Rows.uptoBulkAll]
    rcases List.mem_cons.1 h with e | e
    · subst e; omega
    · have := bulk_mem e; omega
theorem bulk_length {H : Type} : ∀ (l : List (DataW H)), l.length ≤ Rows.uptoBulkAll l
  | [] => by simp [Rows.uptoBulkAll]
  | x :: r => by have := bulk_one x; have := bulk_length r; simp only [Rows.uptoBulkAll, List.length_cons]; omega
theorem bulk_slice {H : Type} (a b : List (DataW H)) : a.length + b.length + 1 ≤ Rows.uptoBulk (.slice a b) := by
  have := bulk_length a; have := bulk_length b; simp only [Rows.uptoBulk]; omega
theorem bulk_max {H : Type} {l : List (DataW H)} (hk : Rows.uptoSmall H l = true) : Rows.uptoBulkAll l ≤ 1048576 := of_decide_eq_true hk

/-! ### arguments -/
section
variable {H : Type} {enc : TypeId × Value → H} {P : Program}
theorem int_bounds {n : Int} (h : (Lit.int .i64 n).wf = true) : -9223372036854775808 ≤ n ∧ n ≤ 9223372036854775807 := by
  simpa [Lit.wf, IntKind.min, IntKind.max, IntKind.signed, IntKind.bits] using h
theorem i32_bounds {n : Int} (h : (Lit.int .i32 n).wf = true) : -2147483648 ≤ n ∧ n ≤ 2147483647 := by
  simpa [Lit.wf, IntKind.min, IntKind.max, IntKind.signed, IntKind.bits] using h
theorem u32_nat {n : Int} (h : (Lit.int .u32 n).wf = true) : ∃ m : Nat, n = (m : Int) ∧ m < 4294967296 := by
  have h' : 0 ≤ n ∧ n ≤ 4294967295 := by simpa [Lit.wf, IntKind.min, IntKind.max, IntKind.signed, IntKind.bits] using h
  exact ⟨n.toNat, by omega, by omega⟩
theorem u8_nat {n : Int} (h : (Lit.int .u8 n).wf = true) : ∃ m : UInt8, n = (m.toNat : Int) := by
  have h' : 0 ≤ n ∧ n ≤ 255 := by simpa [Lit.wf, IntKind.min, IntKind.max, IntKind.signed, IntKind.bits] using h
  refine ⟨UInt8.ofNat n.toNat, ?_⟩
  rw [UInt8.toNat_ofNat']
  omega
theorem u8_list {zs : List Int} (h : ∀ n ∈ zs, (Lit.int .u8 n).wf = true) : ∃ l : List UInt8, zs = l.map fun x => (x.toNat : Int) := by
  induction zs with
  | nil => exact ⟨[], rfl⟩
  | cons z zs ih =>
    obtain ⟨l, rfl⟩ := ih fun n hn => h n (List.mem_cons_of_mem _ hn)
    obtain ⟨x, rfl⟩ := u8_nat (h z (by simp))
    exact ⟨x :: l, rfl⟩

theorem add_block (a : Addr) (i : Nat) : (a.add i).block = a.block := block_of_add a i

/-- a slice of bytes, opened -/
theorem in_bytes {t e : TypeId} (ht : P.underlying t = some (.slice e)) (he : P.underlying e = some (.int .u8)) (hc : P.cellsOf e = 1) (hby : P.bytesOf e = 1)
    {W : World} {A : Option Addr} {n c : Nat} {d : DataW H} {p : List MemPlace} (h : DataW.Trod enc P W 0 (fun _ => true) true t (.slice A n c) d p)
    {ts : List TypeId} {ds : List (DataW H)} (hsz : (DataW.weightsEach P ts ds).all (· ≤ reachBytes) = true) {j : Nat} (hj : ts[j]? = some t) (hd : ds[j]? = some d) :
    ∃ l, InBytes W A n c l ∧ n + 1 ≤ Rows.uptoBulk d := by
  have hlt : ∀ x ∈ p, x.block < W.heap.size := by obtain ⟨m, hm⟩ := h; exact DataW.trod_lt m _ _ _ hm
  obtain ⟨fuel, hf⟩ := h
  rcases open_ints ht he hc hf with ⟨hcs, hx⟩ | ⟨x, l, c', zs, hcs, _, hl, hm, hz, hx, hcell, hwz⟩
  · simp [Value.cells] at hcs
    obtain ⟨rfl, rfl, rfl⟩ := hcs
    simp only [Prod.mk.injEq] at hx
    obtain ⟨rfl, rfl⟩ := hx
    exact ⟨[], ⟨Reads.none_, Nat.le_refl _, by omega⟩, by simp [Rows.uptoBulk]⟩
  · simp [Value.cells] at hcs
    obtain ⟨rfl, rfl, rfl⟩ := hcs
    simp only [if_true] at hz
    obtain ⟨zl, rfl⟩ := u8_list hwz
    simp only [List.length_map] at hz hcell
    simp only [Prod.mk.injEq] at hx
    obtain ⟨rfl, rfl⟩ := hx
    have hreach := sized_slice hsz hj hd ht
    simp [lits, hby, reachBytes] at hreach
    refine ⟨zl.take n, ⟨⟨by simp [bv_length]; omega, fun hn => ⟨x, rfl, ?_, ?_⟩⟩, hl, by omega⟩, ?_⟩
    · have := hlt (.cell x.block x.off) (by
        unfold MemPlace.row
        rw [List.mem_map]
        exact ⟨0, by simp; omega, by simp⟩)
      exact this
    · intro j u hu
      rw [bv_take] at hu
      have hj' : j < n := by
        have := (List.getElem?_eq_some_iff.1 hu).1
        simp at this; omega
      rw [List.getElem?_take_of_lt hj'] at hu
      obtain ⟨y, hy, rfl⟩ := bv_at hu
      rw [hcell j (by omega)]
      simp [List.getD, hy]
    · have e1 := bulk_slice (H := H) (lits .u8 ((zl.map fun x => (x.toNat : Int)).take n)) (lits .u8 ((zl.map fun x => (x.toNat : Int)).drop n))
      simp [lits] at e1
      simp [lits]
      omega
end
end Go.Proofs.YtajheglnhfjodaaDoor
