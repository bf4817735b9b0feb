/- The walks of the package wire: the Reader's Int. No condition. -/
import Derived.Test.YtajheglnhfjodaaDoorWire
import Derived.Test.YtajheglnhfjodaaDoorReg
import Derived.BigQuiet
import Derived.Deep.LoopGhost
namespace Go.Proofs.YtajheglnhfjodaaDoor
set_option linter.unusedVariables false
open Go.RowKit

/-- a Reader in block g: its bytes, its place, whether something was wrong -/
def Rdr (T : TypeId) (w : World) (g : Nat) (l : List UInt8) (p : Nat) (bad : Bool) : Prop :=
  ∃ A n c, Blk w g T #[.slice A n c, .int .i64 (p : Int), .bool bad] ∧ Reads w g 1 A n (bv l) ∧ n ≤ c ∧ n ≤ 4611686018427387904 ∧ p ≤ n
/-- .. told by what is left -/
def RS (T : TypeId) (w : World) (g : Nat) (s : Option (List UInt8)) : Prop :=
  ∃ l p bad, Rdr T w g l p bad ∧ s = if bad then none else some (l.drop p)
theorem Rdr.lt {T : TypeId} {w : World} {g : Nat} {l : List UInt8} {p : Nat} {bad : Bool} (h : Rdr T w g l p bad) : g < w.heap.size := by
  obtain ⟨_, _, _, h, _⟩ := h; exact h.lt
theorem RS.lt {T : TypeId} {w : World} {g : Nat} {s : Option (List UInt8)} (h : RS T w g s) : g < w.heap.size := by
  obtain ⟨_, _, _, h, _⟩ := h; exact h.lt
theorem RS.mk {T : TypeId} {w : World} {g : Nat} {l : List UInt8} {p : Nat} {A : Option Addr} {n c : Nat} {bad : Bool} (hb : Blk w g T #[.slice A n c, .int .i64 (p : Int), .bool bad]) (hr : Reads w g 1 A n (bv l)) (hnc : n ≤ c)
    (hc : n ≤ 4611686018427387904) (hp : p ≤ n) {s : Option (List UInt8)} (hs : s = if bad then none else some (l.drop p)) : RS T w g s := ⟨l, p, bad, ⟨A, n, c, hb, hr, hnc, hc, hp⟩, hs⟩
theorem RS.below {T : TypeId} {w w' : World} {g B : Nat} {s : Option (List UInt8)} (h : RS T w g s) (hb : Below B w w') (hg : g < B) : RS T w' g s := by
  obtain ⟨l, p, bad, ⟨A, n, c, h1, h2, h3⟩, h4⟩ := h
  exact ⟨l, p, bad, ⟨A, n, c, h1.below hb hg, h2.below (hb.mono (by omega)), h3⟩, h4⟩
theorem RS.other {T : TypeId} {w w' : World} {g k : Nat} {s : Option (List UInt8)} (h : RS T w g s) (hb : w.grownBy w' (some k)) (hg : g < k) : RS T w' g s := by
  have hlt := h.lt
  obtain ⟨l, p, bad, ⟨A, n, c, h1, h2, h3⟩, h4⟩ := h
  exact ⟨l, p, bad, ⟨A, n, c, h1.grown hb (fun e => by injection e with e; omega), h2.only hb (by omega) (by omega), h3⟩, h4⟩
theorem RS.drewN {T : TypeId} {w : World} {g : Nat} {s : Option (List UInt8)} (h : RS T w g s) (n : Nat) : RS T (w.drewN n) g s := by
  obtain ⟨l, p, bad, ⟨A, n', c, h1, h2, h3⟩, h4⟩ := h
  exact ⟨l, p, bad, ⟨A, n', c, h1.drewN n, h2.drewN n, h3⟩, h4⟩

theorem uz_go {s : Nat} (h : s < 18446744073709551616) :
    bits BinOp.xor IntKind.i64 (wrap64 ((s : Int) / 2)) (wrap64 (-wrap64 (bits BinOp.and IntKind.u64 (s : Int) 1))) = Wire.uz s := by
  rw [show (1 : Int) = ((1 : Nat) : Int) from rfl, u64_and_nat _ _ h (by omega), nat_mask1]
  have e1 : wrap64 ((s : Int) / 2) = ((s / 2 : Nat) : Int) := by rw [IntWalk.wrap64_in _ ⟨by omega, by omega⟩]; omega
  rw [e1]
  unfold Wire.uz
  by_cases h2 : s % 2 = 1
  · rw [if_pos h2, h2, show wrap64 (-wrap64 ((1 : Nat) : Int)) = -1 from by rw [IntWalk.wrap64_in ((1 : Nat) : Int) ⟨by decide, by decide⟩, IntWalk.wrap64_in _ ⟨by decide, by decide⟩]; rfl, i64_xor_neg _ (by omega)]
  · rw [if_neg h2, show s % 2 = 0 from by omega, show wrap64 (-wrap64 ((0 : Nat) : Int)) = 0 from by rw [IntWalk.wrap64_in ((0 : Nat) : Int) ⟨by decide, by decide⟩, IntWalk.wrap64_in _ ⟨by decide, by decide⟩]; rfl, i64_xor_zero _ (by omega)]

/-- what the loop's round reckons -/
structure IntStep (x : UInt8) (k q y z s : Nat) : Prop where
  e1 : bits BinOp.and IntKind.u8 (x.toNat : Int) 127 = (y : Int)
  e2 : IntKind.u64.wrap (IntKind.u64.wrap (y : Int) * 2 ^ (7 * k)) = (z : Int)
  e3 : bits BinOp.or IntKind.u64 (q : Int) (z : Int) = (s : Int)
theorem intStep (x : UInt8) (k q : Nat) (hk : k ≤ 9) (hq : q < 128 ^ k) (h9 : k = 9 → x.toNat ≤ 1) : ∃ y z s, IntStep x k q y z s ∧ s = q + 128 ^ k * (x.toNat % 128) ∧ s < 18446744073709551616 := by
  have hx := x.toNat_lt
  have hp : 2 ^ (7 * k) = 128 ^ k := by rw [Nat.pow_mul]
  have hz : x.toNat % 128 * 128 ^ k < 18446744073709551616 ∧ q + x.toNat % 128 * 128 ^ k < 18446744073709551616 := by
    rcases Nat.lt_or_ge k 9 with h | h
    · have h8 : 128 ^ k ≤ 128 ^ 8 := Nat.pow_le_pow_right (by omega) (by omega)
      have h7 : x.toNat % 128 * 128 ^ k ≤ 127 * 128 ^ 8 := Nat.mul_le_mul (by omega) h8
      omega
    · obtain rfl : k = 9 := by omega
      have := h9 rfl
      have h7 : x.toNat % 128 * 128 ^ 9 ≤ 1 * 128 ^ 9 := Nat.mul_le_mul (by omega) (Nat.le_refl _)
      omega
  refine ⟨x.toNat % 128, x.toNat % 128 * 128 ^ k, q + 128 ^ k * (x.toNat % 128), ⟨u8_and127 x, ?_, ?_⟩, rfl, by rw [Nat.mul_comm (128 ^ k)]; exact hz.2⟩
  · have e : ((x.toNat % 128 : Nat) : Int) * 2 ^ (7 * k) = ((x.toNat % 128 * 128 ^ k : Nat) : Int) := by rw [← hp]; simp
    rw [IntWalk.u64_in ((x.toNat % 128 : Nat) : Int) (by omega), e, IntWalk.u64_in _ (by omega)]
  · rw [Nat.mul_comm (128 ^ k)]
    exact u64_or_add (i := 7 * k) (by rw [hp]; exact hq) hz.1 (by rw [hp]; exact Nat.dvd_mul_left _ _) hz.2
end Go.Proofs.YtajheglnhfjodaaDoor
