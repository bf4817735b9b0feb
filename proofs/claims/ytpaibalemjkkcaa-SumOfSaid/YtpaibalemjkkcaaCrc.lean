/- The checksum as a plain function on numbers. No condition. -/
import Derived.KernelRfl
namespace Go.Proofs.Ytpaibalemjkkcaa.Crc

/-- one bit's step -/
def bit (r : Nat) : Nat := if r % 2 = 1 then (r / 2) ^^^ 3988292384 else r / 2
/-- n bits' steps -/
def bits : Nat → Nat → Nat
  | 0, r => r
  | n + 1, r => bits n (bit r)
/-- one byte's step -/
def byte (r x : Nat) : Nat := bits 8 (r ^^^ x)
/-- the register behind bytes -/
def reg (r : Nat) (l : List UInt8) : Nat := l.foldl (fun r x => byte r x.toNat) r
def more (s : Nat) (l : List UInt8) : Nat := (reg (4294967295 - s) l) ^^^ 4294967295

theorem xor_lt {a b : Nat} (ha : a < 4294967296) (hb : b < 4294967296) : a ^^^ b < 4294967296 := Nat.xor_lt_two_pow (n := 32) ha hb
theorem bit_lt {r : Nat} (h : r < 4294967296) : bit r < 4294967296 := by
  unfold bit; split
  · exact xor_lt (by omega) (by omega)
  · omega
theorem bits_lt : ∀ (n : Nat) {r : Nat}, r < 4294967296 → bits n r < 4294967296
  | 0, _, h => h
  | n + 1, _, h => bits_lt n (bit_lt h)
theorem bits_succ : ∀ (n r : Nat), bits (n + 1) r = bit (bits n r)
  | 0, _ => rfl
  | n + 1, r => bits_succ n (bit r)
theorem byte_lt {r : Nat} (h : r < 4294967296) (x : UInt8) : byte r x.toNat < 4294967296 :=
  bits_lt 8 (xor_lt h (by have := x.toNat_lt; omega))
theorem reg_lt : ∀ (l : List UInt8) {r : Nat}, r < 4294967296 → reg r l < 4294967296
  | [], _, h => h
  | x :: l, _, h => reg_lt l (byte_lt h x)
theorem reg_snoc (r : Nat) (l : List UInt8) (x : UInt8) : reg r (l ++ [x]) = byte (reg r l) x.toNat := by simp [reg]
theorem reg_append (r : Nat) (l m : List UInt8) : reg r (l ++ m) = reg (reg r l) m := by simp [reg]
theorem more_lt {s : Nat} (h : s < 4294967296) (l : List UInt8) : more s l < 4294967296 := xor_lt (reg_lt l (by omega)) (by omega)
theorem not_eq {s : Nat} (h : s < 4294967296) : 4294967295 - s = s ^^^ 4294967295 := by
  have e := BitVec.toNat_not (x := BitVec.ofNat 32 s)
  have e2 := congrArg BitVec.toNat (BitVec.xor_allOnes (x := BitVec.ofNat 32 s))
  rw [e, BitVec.toNat_xor] at e2
  simp only [BitVec.toNat_ofNat, BitVec.toNat_allOnes] at e2
  rw [Nat.mod_eq_of_lt (by omega)] at e2
  simpa using e2.symm
theorem not_not {s : Nat} (h : s < 4294967296) : 4294967295 - (s ^^^ 4294967295) = s := by rw [← not_eq h]; omega
theorem more_append {s : Nat} (h : s < 4294967296) (l m : List UInt8) : more (more s l) m = more s (l ++ m) := by
  unfold more
  rw [reg_append, not_not (reg_lt l (by omega))]
theorem more_nil {s : Nat} (h : s < 4294967296) : more s [] = s := by
  unfold more; simp only [reg, List.foldl_nil]; rw [← not_eq (by omega)]; omega
theorem two_test (q y : Nat) : ((q : Int) % 2 != ((y : Int)).tmod 2 % 4294967296) = decide (q % 2 ≠ y % 2) := by
  rw [Int.tmod_eq_emod_of_nonneg (by omega), Bool.eq_iff_iff]
  simp
  omega
/-- the other text's step: the byte is not laid into the register ahead -/
def two (q y : Nat) : Nat := if q % 2 ≠ y % 2 then (q / 2) ^^^ 3988292384 else q / 2
theorem two_pos {q y : Nat} (h : ((q : Int) % 2 != ((y : Int)).tmod 2 % 4294967296) = true) : two q y = (q / 2) ^^^ 3988292384 := by
  rw [two_test] at h; unfold two; exact if_pos (of_decide_eq_true h)
theorem two_neg {q y : Nat} (h : ((q : Int) % 2 != ((y : Int)).tmod 2 % 4294967296) = false) : two q y = q / 2 := by
  rw [two_test] at h; unfold two; exact if_neg (of_decide_eq_false h)
theorem two_pos' {q x k : Nat} (h : ((q : Int) % 2 != ((x : Int) / 2 ^ k).tmod 2 % 4294967296) = true) : two q (x / 2 ^ k) = (q / 2) ^^^ 3988292384 :=
  two_pos (by rw [← h]; simp)
theorem two_neg' {q x k : Nat} (h : ((q : Int) % 2 != ((x : Int) / 2 ^ k).tmod 2 % 4294967296) = false) : two q (x / 2 ^ k) = q / 2 :=
  two_neg (by rw [← h]; simp)
theorem two_lt {q y : Nat} (h : q < 4294967296) : two q y < 4294967296 := by
  unfold two; split
  · exact xor_lt (by omega) (by omega)
  · omega
theorem two_bit (q y : Nat) : two q y ^^^ (y / 2) = bit (q ^^^ y) := by
  have e : (q ^^^ y) % 2 = 1 ↔ ¬(q % 2 = 1 ↔ y % 2 = 1) := Nat.xor_mod_two_eq_one
  unfold two bit
  rw [Nat.xor_div_two]
  by_cases h : q % 2 ≠ y % 2
  · rw [if_pos h, if_pos (e.2 (by omega)), Nat.xor_assoc, Nat.xor_comm 3988292384, ← Nat.xor_assoc]
  · rw [if_neg h, if_neg (fun k => (e.1 k) (by omega))]
theorem two_bits {q x k r : Nat} (h : q ^^^ (x / 2 ^ k) = bits k r) : two q (x / 2 ^ k) ^^^ (x / 2 ^ (k + 1)) = bits (k + 1) r := by
  rw [bits_succ, ← h, ← two_bit, Nat.pow_succ, Nat.div_div_eq_div_mul]
end Go.Proofs.Ytpaibalemjkkcaa.Crc
