/- The checksum as a plain function on numbers. No condition. -/
import Derived.KernelRfl
namespace Go.Proofs.YtajheglnhfjodaaDoor.Crc

/-- one bit's step -/
def bit (r : Nat) : Nat := if r % 2 = 1 then (r / 2) ^^^ 3988292384 else r / 2
/-- n bits' steps -/
def bits : Nat → Nat → Nat
  | 0, r => r
  | n + 1, r => bits n (bit r)
/-- one byte's step -/
def byte (r x : Nat) : Nat := bits 8 (r ^^^ x)
/-- the register behind bytes -/
def reg (r : Nat) (l : List UInt8) : Nat := l.foldl (fun r x => byte r x.toNat) r
def more (s : Nat) (l : List UInt8) : Nat := (reg (4294967295 - s) l) ^^^ 4294967295

theorem xor_lt {a b : Nat} (ha : a < 4294967296) (hb : b < 4294967296) : a ^^^ b < 4294967296 := Nat.xor_lt_two_pow (n := 32) ha hb
theorem bit_lt {r : Nat} (h : r < 4294967296) : bit r < 4294967296 := by
  unfold bit; split
  · exact xor_lt (by omega) (by omega)
  · omega
theorem bits_lt : ∀ (n : Nat) {r : Nat}, r < 4294967296 → bits n r < 4294967296
  | 0, _, h => h
  | n + 1, _, h => bits_lt n (bit_lt h)
theorem bits_succ : ∀ (n r : Nat), bits (n + 1) r = bit (bits n r)
  | 0, _ => rfl
  | n + 1, r => bits_succ n (bit r)
theorem byte_lt {r : Nat} (h : r < 4294967296) (x : UInt8) : byte r x.toNat < 4294967296 :=
  bits_lt 8 (xor_lt h (by have := x.toNat_lt; omega))
theorem reg_lt : ∀ (l : List UInt8) {r : Nat}, r < 4294967296 → reg r l < 4294967296
  | [], _, h => h
  | x :: l, _, h => reg_lt l (byte_lt h x)
theorem reg_snoc (r : Nat) (l : List UInt8) (x : UInt8) : reg r (l ++ [x]) = byte (reg r l) x.toNat := by simp [reg]
theorem reg_append (r : Nat) (l m : List UInt8) : reg r (l ++ m) = reg (reg r l) m := by simp [reg]
theorem more_lt {s : Nat} (h : s < 4294967296) (l : List UInt8) : more s l < 4294967296 := xor_lt (reg_lt l (by omega)) (by omega)
theorem not_eq {s : Nat} (h : s < 4294967296) : 4294967295 - s = s ^^^ 4294967295 := by
  have e := BitVec.toNat_not (x := BitVec.ofNat 32 s)
  have e2 := congrArg BitVec.toNat (BitVec.xor_allOnes (x := BitVec.ofNat 32 s))
  rw [e, BitVec.toNat_xor] at e2
  simp only [BitVec.toNat_ofNat, BitVec.toNat_allOnes] at e2
  rw [Nat.mod_eq_of_lt (by omega)] at e2
  simpa using e2.symm
theorem not_not {s : Nat} (h : s < 4294967296) : 4294967295 - (s ^^^ 4294967295) = s := by rw [← not_eq h]; omega
theorem more_append {s : Nat} (h : s < 4294967296) (l m : List UInt8) : more (more s l) m = more s (l ++ m) := by
  unfold more
  rw [reg_append, not_not (reg_lt l (by omega))]
theorem more_nil {s : Nat} (h : s < 4294967296) : more s [] = s := by
  unfold more; simp only [reg, List.foldl_nil]; rw [← not_eq (by omega)]; omega
theorem two_test (q y : Nat) : ((q : Int) % 2 != ((y : Int)).tmod 2 % 4294967296) = decide (q % 2 ≠ y % 2) := by
  rw [Int.tmod_eq_emod_of_nonneg (by omega), Bool.eq_iff_iff]
  simp
  omega
/-- the other text's step: the byte is not laid into the register ahead -/
def two (q y : Nat) : Nat := if q % 2 ≠ y % 2 then (q / 2) ^^^ 3988292384 else q / 2
theorem two_pos {q y : Nat} (h : ((q : Int) % 2 != ((y : Int)).tmod 2 % 4294967296) = true) : two q y = (q / 2) ^^^ 3988292384 := by
  rw [two_test] at h; unfold two; exact if_pos (of_decide_eq_true h)
theorem two_neg {q y : Nat} (h : ((q : Int) % 2 != ((y : Int)).tmod 2 % 4294967296) = false) : two q y = q / 2 := by
  rw [two_test] at h; unfold two; exact if_neg (of_decide_eq_false h)
theorem two_pos' {q x k : Nat} (h : ((q : Int) % 2 != ((x : Int) / 2 ^ k).tmod 2 % 4294967296) = true) : two q (x / 2 ^ k) = (q / 2) ^^^ 3988292384 :=
  two_pos (by rw [← h]; simp)
theorem two_neg' {q x k : Nat} (h : ((q : Int) % 2 != ((x : Int) / 2 ^ k).tmod 2 % 4294967296) = false) : two q (x / 2 ^ k) = q / 2 :=
  two_neg (by rw [← h]; simp)
theorem two_lt {q y : Nat} (h : q < 4294967296) : two q y < 4294967296 := by
  unfold two; split
  · exact xor_lt (by omega) (by omega)
  · omega
theorem two_bit (q y : Nat) : two q y ^^^ (y / 2) = bit (q ^^^ y) := by
  have e : (q ^^^ y) % 2 = 1 ↔ ¬(q % 2 = 1 ↔ y % 2 = 1) := Nat.xor_mod_two_eq_one
  unfold two bit
  rw [Nat.xor_div_two]
  by_cases h : q % 2 ≠ y % 2
  · rw [if_pos h, if_pos (e.2 (by omega)), Nat.xor_assoc, Nat.xor_comm 3988292384, ← Nat.xor_assoc]
  · rw [if_neg h, if_neg (fun k => (e.1 k) (by omega))]
theorem two_bits {q x k r : Nat} (h : q ^^^ (x / 2 ^ k) = bits k r) : two q (x / 2 ^ k) ^^^ (x / 2 ^ (k + 1)) = bits (k + 1) r := by
  rw [bits_succ, ← h, ← two_bit, Nat.pow_succ, Nat.div_div_eq_div_mul]

/-! ### the sum is linear -/
theorem xor_cancel {a b c : Nat} (h : a ^^^ c = b ^^^ c) : a = b := by
  have := congrArg (· ^^^ c) h
  simpa [Nat.xor_assoc] using this
theorem xor_zero {a b : Nat} (h : a ^^^ b = 0) : a = b := xor_cancel (c := b) (by rw [h, Nat.xor_self])
theorem bit_xor (a b : Nat) : bit (a ^^^ b) = bit a ^^^ bit b := by
  have e : (a ^^^ b) % 2 = 1 ↔ ¬(a % 2 = 1 ↔ b % 2 = 1) := Nat.xor_mod_two_eq_one
  unfold bit
  rw [Nat.xor_div_two]
  by_cases ha : a % 2 = 1 <;> by_cases hb : b % 2 = 1
  · rw [if_neg (fun k => e.1 k (by simp [ha, hb])), if_pos ha, if_pos hb, Nat.xor_assoc, Nat.xor_comm 3988292384, Nat.xor_assoc, Nat.xor_self, Nat.xor_zero]
  · rw [if_pos (e.2 (by simp [ha, hb])), if_pos ha, if_neg hb, Nat.xor_assoc, Nat.xor_comm (b / 2), ← Nat.xor_assoc]
  · rw [if_pos (e.2 (by simp [ha, hb])), if_neg ha, if_pos hb, Nat.xor_assoc]
  · rw [if_neg (fun k => e.1 k (by simp [ha, hb])), if_neg ha, if_neg hb]
theorem bits_xor : ∀ (n a b : Nat), bits n (a ^^^ b) = bits n a ^^^ bits n b
  | 0, _, _ => rfl
  | n + 1, a, b => by simp only [bits]; rw [bit_xor, bits_xor n]
theorem byte_xor (r d : Nat) (x y : UInt8) : byte (r ^^^ d) (x ^^^ y).toNat = byte r x.toNat ^^^ byte d y.toNat := by
  unfold byte
  rw [UInt8.toNat_xor, ← bits_xor]
  congr 1
  rw [Nat.xor_assoc, Nat.xor_assoc, ← Nat.xor_assoc d, Nat.xor_comm d, Nat.xor_assoc]
theorem reg_xor : ∀ (l m : List UInt8) (r d : Nat), l.length = m.length → reg (r ^^^ d) (List.zipWith (· ^^^ ·) l m) = reg r l ^^^ reg d m
  | [], [], _, _, _ => rfl
  | x :: l, y :: m, r, d, h => by
    simp only [List.zipWith_cons_cons, reg, List.foldl_cons]
    rw [byte_xor]
    exact reg_xor l m _ _ (by simpa using h)
  | [], _ :: _, _, _, h => by simp at h
  | _ :: _, [], _, _, h => by simp at h
theorem xor3 (a b c f : Nat) : (a ^^^ f) ^^^ (b ^^^ f) ^^^ (c ^^^ f) = (a ^^^ b ^^^ c) ^^^ f := by
  apply Nat.eq_of_testBit_eq
  intro i
  simp only [Nat.testBit_xor]
  cases a.testBit i <;> cases b.testBit i <;> cases c.testBit i <;> cases f.testBit i <;> rfl
theorem more_three (a b c : List UInt8) (h : a.length = b.length) (h' : b.length = c.length) :
    more 0 a ^^^ more 0 b ^^^ more 0 c = more 0 (List.zipWith (· ^^^ ·) (List.zipWith (· ^^^ ·) a b) c) := by
  unfold more
  simp only [Nat.sub_zero]
  rw [xor3]
  have e1 := reg_xor a b 4294967295 4294967295 h
  have e2 := reg_xor (List.zipWith (· ^^^ ·) a b) c (4294967295 ^^^ 4294967295) 4294967295 (by simp [h, h'])
  rw [e1] at e2
  rw [← e2]
  simp

/-! ### up to 32 bits in a row -/
theorem bit_zero {r : Nat} (h : r < 4294967296) (h0 : bit r = 0) : r = 0 := by
  unfold bit at h0
  split at h0
  · have e : r / 2 = 3988292384 := xor_zero h0
    omega
  · omega
theorem bits_zero : ∀ (n : Nat) {r : Nat}, r < 4294967296 → bits n r = 0 → r = 0
  | 0, _, _, h0 => h0
  | n + 1, _, h, h0 => bit_zero h (bits_zero n (bit_lt h) h0)
/-- bits one behind the other, out of a number -/
def ser : Nat → Nat → Nat → Nat
  | 0, d, _ => d
  | m + 1, d, e => ser m (two d e) (e / 2)
theorem ser_add : ∀ (m n d e : Nat), ser (m + n) d e = ser n (ser m d e) (e / 2 ^ m)
  | 0, n, d, e => by simp [ser]
  | m + 1, n, d, e => by
    rw [show m + 1 + n = (m + n) + 1 from by omega]
    simp only [ser]
    rw [ser_add m n, Nat.div_div_eq_div_mul, Nat.pow_succ, Nat.mul_comm 2]
theorem ser_bits : ∀ (m d e : Nat), ser m d e ^^^ (e / 2 ^ m) = bits m (d ^^^ e)
  | 0, d, e => by simp [ser, bits]
  | m + 1, d, e => by
    have h := ser_bits m (two d e) (e / 2)
    simp only [ser, bits]
    rw [← two_bit, ← h, Nat.div_div_eq_div_mul, Nat.pow_succ, Nat.mul_comm 2]
theorem ser_low : ∀ (m d e f : Nat), ser m d (e + 2 ^ m * f) = ser m d e
  | 0, _, _, _ => rfl
  | m + 1, d, e, f => by
    simp only [ser]
    have h1 : (e + 2 ^ (m + 1) * f) / 2 = e / 2 + 2 ^ m * f := by rw [Nat.pow_succ, Nat.mul_comm (2 ^ m), Nat.mul_assoc]; omega
    have h2 : two d (e + 2 ^ (m + 1) * f) = two d e := by
      unfold two
      rw [show (e + 2 ^ (m + 1) * f) % 2 = e % 2 from by rw [Nat.pow_succ, Nat.mul_comm (2 ^ m), Nat.mul_assoc]; omega]
    rw [h1, h2, ser_low m]
/-- bytes as one number, the first one lowest -/
def num : List UInt8 → Nat
  | [] => 0
  | x :: l => x.toNat + 256 * num l
theorem num_lt : ∀ (l : List UInt8), num l < 2 ^ (8 * l.length)
  | [] => by simp [num]
  | x :: l => by
    have h := num_lt l
    have hx := x.toNat_lt
    simp only [num, List.length_cons]
    rw [show 8 * (l.length + 1) = 8 * l.length + 8 from by omega, Nat.pow_add]
    omega
theorem num_inj : ∀ (l m : List UInt8), l.length = m.length → num l = num m → l = m
  | [], [], _, _ => rfl
  | x :: l, y :: m, h, e => by
    have hx := x.toNat_lt
    have hy := y.toNat_lt
    simp only [num] at e
    have e1 : x = y := UInt8.toNat_inj.1 (by omega)
    rw [e1, num_inj l m (by simpa using h) (by omega)]
  | [], _ :: _, h, _ => by simp at h
  | _ :: _, [], h, _ => by simp at h
theorem reg_ser : ∀ (l : List UInt8) (d : Nat), reg d l = ser (8 * l.length) d (num l)
  | [], _ => rfl
  | x :: l, d => by
    have hx := x.toNat_lt
    simp only [reg, List.foldl_cons, num, List.length_cons]
    rw [show 8 * (l.length + 1) = 8 + 8 * l.length from by omega, ser_add, show (256 : Nat) = 2 ^ 8 from rfl, ser_low]
    have h := ser_bits 8 d x.toNat
    rw [show x.toNat / 2 ^ 8 = 0 from by omega, Nat.xor_zero] at h
    rw [h, show (x.toNat + 2 ^ 8 * num l) / 2 ^ 8 = num l from by omega]
    exact reg_ser l (byte d x.toNat)
theorem two_xor (a b y z : Nat) : two (a ^^^ b) (y ^^^ z) = two a y ^^^ two b z := by
  have e := two_bit (a ^^^ b) (y ^^^ z)
  have e1 := two_bit a y
  have e2 := two_bit b z
  rw [show (a ^^^ b) ^^^ (y ^^^ z) = (a ^^^ y) ^^^ (b ^^^ z) from by simp only [Nat.xor_assoc]; congr 1; rw [← Nat.xor_assoc, Nat.xor_comm b, Nat.xor_assoc], bit_xor, ← e1, ← e2, Nat.xor_div_two] at e
  have k : (two a y ^^^ y / 2) ^^^ (two b z ^^^ z / 2) = (two a y ^^^ two b z) ^^^ (y / 2 ^^^ z / 2) := by
    simp only [Nat.xor_assoc]; congr 1; rw [← Nat.xor_assoc, Nat.xor_comm (y / 2), Nat.xor_assoc]
  rw [k] at e
  exact xor_cancel e
theorem ser_xor : ∀ (m a b y z : Nat), ser m (a ^^^ b) (y ^^^ z) = ser m a y ^^^ ser m b z
  | 0, _, _, _, _ => rfl
  | m + 1, a, b, y, z => by
    simp only [ser]
    rw [two_xor, Nat.xor_div_two, ser_xor m]
theorem ser_zeros : ∀ (k m row : Nat), ser (k + m) 0 (row * 2 ^ k) = ser m 0 row
  | 0, m, row => by simp
  | k + 1, m, row => by
    rw [show k + 1 + m = (k + m) + 1 from by omega]
    simp only [ser]
    have h1 : row * 2 ^ (k + 1) / 2 = row * 2 ^ k := by rw [Nat.pow_succ, ← Nat.mul_assoc]; omega
    have h2 : two 0 (row * 2 ^ (k + 1)) = 0 := by
      unfold two
      rw [if_neg (by rw [Nat.pow_succ, ← Nat.mul_assoc]; omega)]
    rw [h1, h2, ser_zeros k m]
/-- bits that are turned within 32 in a row are told -/
theorem burst (l l' : List UInt8) (hl : l'.length = l.length) (k row : Nat) (hrow : row < 4294967296) (hn : num l' = num l ^^^ (row * 2 ^ k)) (hk : k ≤ 8 * l.length) (h : more 0 l' = more 0 l) : l' = l := by
  unfold more at h
  have h1 : reg (4294967295 - 0) l' = reg (4294967295 - 0) l := xor_cancel h
  rw [reg_ser, reg_ser, hl, hn, ← Nat.xor_zero (4294967295 - 0), ser_xor, Nat.xor_zero] at h1
  have h2 : ser (8 * l.length) 0 (row * 2 ^ k) = 0 := by
    have := congrArg (ser (8 * l.length) (4294967295 - 0) (num l) ^^^ ·) h1
    simpa [← Nat.xor_assoc] using this
  have hlt : row * 2 ^ k < 2 ^ (8 * l.length) := by
    have e : row * 2 ^ k = num l ^^^ num l' := by rw [hn, ← Nat.xor_assoc, Nat.xor_self, Nat.zero_xor]
    rw [e]
    exact Nat.xor_lt_two_pow (num_lt l) (by have := num_lt l'; rwa [hl] at this)
  rw [show 8 * l.length = k + (8 * l.length - k) from by omega, ser_zeros] at h2
  have h3 := ser_bits (8 * l.length - k) 0 row
  have h4 : row / 2 ^ (8 * l.length - k) = 0 := by
    apply Nat.div_eq_of_lt
    rw [show 8 * l.length = (8 * l.length - k) + k from by omega, Nat.pow_add] at hlt
    exact Nat.lt_of_mul_lt_mul_right hlt
  rw [h4, h2, Nat.zero_xor, Nat.zero_xor] at h3
  have h0 := bits_zero _ hrow h3.symm
  subst h0
  exact num_inj _ _ hl (by rw [hn]; simp)
theorem num_bit : ∀ (l : List UInt8) (i : Nat), (num l).testBit i = ((l[i / 8]?).map fun x => x.toNat.testBit (i % 8)).getD false
  | [], i => by simp [num]
  | x :: l, i => by
    have hx := x.toNat_lt
    have e := Nat.testBit_two_pow_mul_add (num l) (i := 8) (b := x.toNat) (by omega) i
    simp only [num]
    rw [show x.toNat + 256 * num l = 2 ^ 8 * num l + x.toNat from by omega, e]
    by_cases hi : i < 8
    · rw [if_pos hi, show i / 8 = 0 from by omega, show i % 8 = i from by omega]
      simp
    · rw [if_neg hi, num_bit l (i - 8), show i / 8 = (i - 8) / 8 + 1 from by omega, show i % 8 = (i - 8) % 8 from by omega]
      simp
/-- one bit turned -/
theorem num_turn (l : List UInt8) (j : Nat) (x : UInt8) (t : Nat) (h : l[j]? = some x) (ht : t < 8) (y : UInt8) (hy : y.toNat = x.toNat ^^^ 2 ^ t) : num (l.set j y) = num l ^^^ 2 ^ (8 * j + t) := by
  have hj : j < l.length := (List.getElem?_eq_some_iff.1 h).1
  apply Nat.eq_of_testBit_eq
  intro i
  rw [Nat.testBit_xor, num_bit, num_bit, Nat.testBit_two_pow, List.getElem?_set]
  by_cases hi : j = i / 8
  · rw [if_pos hi, ← hi, if_pos hj, h]
    simp only [Option.map_some, Option.getD_some]
    rw [hy, Nat.testBit_xor, Nat.testBit_two_pow]
    congr 1
    rw [decide_eq_decide]
    omega
  · rw [if_neg hi, decide_eq_false (by omega)]
    simp
/-- the row's bits, one more -/
theorem row_step (row i : Nat) : row % 2 ^ (i + 1) = if row / 2 ^ i % 2 = 1 then row % 2 ^ i ^^^ 2 ^ i else row % 2 ^ i := by
  apply Nat.eq_of_testBit_eq
  intro j
  have e : decide (row / 2 ^ i % 2 = 1) = row.testBit i := by rw [Nat.testBit_eq_decide_div_mod_eq]
  by_cases h : row / 2 ^ i % 2 = 1
  · rw [if_pos h, Nat.testBit_xor, Nat.testBit_mod_two_pow, Nat.testBit_mod_two_pow, Nat.testBit_two_pow]
    have h' : row.testBit i = true := by rw [← e]; simpa using h
    by_cases hj : i = j
    · subst hj; simp [h']
    · rw [decide_eq_false hj, show decide (j < i + 1) = decide (j < i) from by rw [decide_eq_decide]; omega]; simp
  · rw [if_neg h, Nat.testBit_mod_two_pow, Nat.testBit_mod_two_pow]
    have h' : row.testBit i = false := by rw [← e]; simpa using h
    by_cases hj : i = j
    · subst hj; simp [h']
    · rw [show decide (j < i + 1) = decide (j < i) from by rw [decide_eq_decide]; omega]
theorem u8_turn (x : UInt8) (t : Nat) (ht : t < 8) : ∃ y : UInt8, y.toNat = x.toNat ^^^ 2 ^ t := by
  have h : 2 ^ t < 256 := Nat.lt_of_lt_of_le (Nat.pow_lt_pow_right (by omega) ht) (by decide)
  refine ⟨x ^^^ UInt8.ofNat (2 ^ t), ?_⟩
  rw [UInt8.toNat_xor, UInt8.toNat_ofNat', Nat.mod_eq_of_lt h]
theorem xor_mul (a b k : Nat) : (a ^^^ b) * 2 ^ k = a * 2 ^ k ^^^ b * 2 ^ k := by
  rw [← Nat.shiftLeft_eq, ← Nat.shiftLeft_eq, ← Nat.shiftLeft_eq, Nat.shiftLeft_xor_distrib]
end Go.Proofs.YtajheglnhfjodaaDoor.Crc
