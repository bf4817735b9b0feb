/- The walks of the package sum. No condition. -/
import Derived.Test.YtbfboglcdgeheaaCrc
import Derived.Test.YtbfboglcdgeheaaMem
import Derived.WalkKit
import Derived.WalkSpells
import Derived.WalkLawsBesides
import Derived.Lib.Hide
namespace Go.Proofs.Ytbfboglcdgeheaa
set_option linter.unusedVariables false
open Go.RowKit

set_option maxHeartbeats 400000 in
theorem more_any (s : Nat) (hs : s < 4294967296) (A : Option Addr) (n c B : Nat) (l : List UInt8) (w : World) (hl : n ≤ maxLen) (hrd : Reads w B 1 A n (bv l)) :
    Calls Try.prog 48 #[.int .u32 (s : Int), .slice A n c] w fun e w' => e = .returned (.int .u32 (Crc.more s l : Nat)) ∧ w = w' := by
  unfold maxLen at hl
  go_enter Try.func48, Try.ntmps48
  go_wp2
  go_loop [5, 7, 8, 13, 21] (fun r _ _ i _ => ∃ k q : Nat, k ≤ n ∧ q < 4294967296 ∧ Hid (Crc.reg (4294967295 - s) (l.take k) = q) ∧ r = .int .u32 (q : Int) ∧ i = .int .i64 (k : Int)) (fun _ _ _ i _ => n - (intOf i).toNat)
  case atStart =>
    refine ⟨0, 4294967295 - s, by omega, by omega, rfl, ?_, rfl⟩
    rw [show IntKind.u32.max = ((4294967295 : Nat) : Int) from rfl, u32_xor_nat _ _ (by omega) hs, Nat.xor_comm, ← Crc.not_eq hs]
  case round =>
    obtain ⟨k, q, hk, hq, HQ, rfl, rfl⟩ := hrel
    by_cases hlt : k < n
    · obtain ⟨ad, u, rfl, hb, hx, hc⟩ := hrd.at_ hlt
      obtain ⟨x, hx', rfl⟩ := bv_at hx
      have hx1 := x.toNat_lt
      have hq' : q ^^^ x.toNat < 4294967296 := Crc.xor_lt hq (by omega)
      have e1 : bits BinOp.xor IntKind.u32 (q : Int) (x.toNat : Int) = ((q ^^^ x.toNat : Nat) : Int) := u32_xor_nat _ _ hq (by omega)
      go_wp2
      clear e1
      go_loop [5, 8, 21] (fun r _ i => ∃ k' q' : Nat, k' ≤ 8 ∧ q' < 4294967296 ∧ Hid (Crc.bits k' (q ^^^ x.toNat) = q') ∧ r = .int .u32 (q' : Int) ∧ i = .int .i64 (k' : Int)) (fun _ _ i => 8 - (intOf i).toNat)
      case atStart => exact ⟨0, _, by omega, hq', rfl, rfl, rfl⟩
      case round =>
        obtain ⟨k', q', hk', hq2, HQ', rfl, rfl⟩ := hrel
        have e2 : bits BinOp.and IntKind.u32 (q' : Int) 1 = ((q' % 2 : Nat) : Int) := by
          rw [show (1 : Int) = ((1 : Nat) : Int) from rfl, u32_and_nat _ _ hq2 (by omega), nat_mask1]
        by_cases hlt' : k' < 8
        · have e3 : bits BinOp.xor IntKind.u32 ((q' : Int) / 2) 3988292384 = ((q' / 2 ^^^ 3988292384 : Nat) : Int) := by
            rw [show (3988292384 : Int) = ((3988292384 : Nat) : Int) from rfl, show (q' : Int) / 2 = ((q' / 2 : Nat) : Int) from by omega]
            exact u32_xor_nat _ _ (by omega) (by omega)
          go_wp2
          · have ht : q' % 2 = 1 := by
              have : ((q' : Int) % 2 == 1) = true := by assumption
              simp at this; omega
            go_round
            case rel =>
              exact ⟨k' + 1, Crc.bit q', by omega, Crc.bit_lt hq2, by show Crc.bits _ _ = _; rw [Crc.bits_succ, show Crc.bits k' (q ^^^ x.toNat) = q' from HQ'], by simp only [Crc.bit, if_pos ht], by go_num⟩
            case measure => simp [intOf]; omega
          · have ht : ¬ q' % 2 = 1 := by
              have : ((q' : Int) % 2 == 1) = false := by assumption
              simp at this; omega
            go_round
            case rel =>
              exact ⟨k' + 1, Crc.bit q', by omega, Crc.bit_lt hq2, by show Crc.bits _ _ = _; rw [Crc.bits_succ, show Crc.bits k' (q ^^^ x.toNat) = q' from HQ'], by simp only [Crc.bit, if_neg ht]; go_num, by go_num⟩
            case measure => simp [intOf]; omega
        · have h8 : k' = 8 := by omega
          clear e2
          subst h8
          go_wp2
          go_round
          case rel =>
            exact ⟨k + 1, q', by omega, hq2, by show Crc.reg _ _ = _; rw [take_snoc hx', Crc.reg_snoc, show Crc.reg _ _ = q from HQ]; exact HQ', rfl, by go_num⟩
          case measure => simp [intOf]; omega
    · have hkn : l.take k = l := List.take_of_length_le (by have := hrd.1; rw [bv_length] at this; omega)
      rw [hkn] at HQ
      clear hkn
      have e1 : bits BinOp.xor IntKind.u32 IntKind.u32.max (q : Int) = ((q ^^^ 4294967295 : Nat) : Int) := by
        rw [show IntKind.u32.max = ((4294967295 : Nat) : Int) from rfl, u32_xor_nat _ _ (by omega) hq, Nat.xor_comm]
      go_wp2
      go_ret
      refine ⟨?_, rfl⟩
      unfold Crc.more
      rw [show Crc.reg _ _ = q from HQ]
      rfl

set_option maxHeartbeats 400000 in
theorem refMore_any (s : Nat) (hs : s < 4294967296) (A : Option Addr) (n c B : Nat) (l : List UInt8) (w : World) (hl : n ≤ maxLen) (hrd : Reads w B 1 A n (bv l)) :
    Calls Try.prog 52 #[.int .u32 (s : Int), .slice A n c] w fun e w' => e = .returned (.int .u32 (Crc.more s l : Nat)) ∧ w = w' := by
  unfold maxLen at hl
  go_enter Try.func52, Try.ntmps52
  go_wp2
  go_loop [5, 6, 7, 8] (fun r i _ _ => ∃ k q : Nat, k ≤ n ∧ q < 4294967296 ∧ Hid (Crc.reg (4294967295 - s) (l.take k) = q) ∧ r = .int .u32 (q : Int) ∧ i = .int .i64 (k : Int)) (fun _ i _ _ => n - (intOf i).toNat)
  case atStart =>
    refine ⟨0, 4294967295 - s, by omega, by omega, rfl, ?_, rfl⟩
    rw [show (4294967295 : Int) = ((4294967295 : Nat) : Int) from rfl, u32_xor_nat _ _ hs (by omega), ← Crc.not_eq hs]
  case round =>
    obtain ⟨k, q, hk, hq, HQ, rfl, rfl⟩ := hrel
    by_cases hlt : k < n
    · obtain ⟨ad, u, rfl, hb, hx, hc⟩ := hrd.at_ hlt
      obtain ⟨x, hx', rfl⟩ := bv_at hx
      have hx1 := x.toNat_lt
      go_wp2
      go_loop [5, 7, 8] (fun r i _ => ∃ k' q' : Nat, k' ≤ 8 ∧ q' < 4294967296 ∧ Hid (q' ^^^ (x.toNat / 2 ^ k') = Crc.bits k' (q ^^^ x.toNat)) ∧ r = .int .u32 (q' : Int) ∧ i = .int .i64 (k' : Int)) (fun _ i _ => 8 - (intOf i).toNat)
      case atStart => exact ⟨0, q, by omega, hq, by show _ = _; simp [Crc.bits], rfl, rfl⟩
      case round =>
        obtain ⟨k', q', hk', hq2, HQ', rfl, rfl⟩ := hrel
        by_cases hlt' : k' < 8
        · have e3 : bits BinOp.xor IntKind.u32 ((q' : Int) / 2) 3988292384 = ((q' / 2 ^^^ 3988292384 : Nat) : Int) := by
            rw [show (3988292384 : Int) = ((3988292384 : Nat) : Int) from rfl, show (q' : Int) / 2 = ((q' / 2 : Nat) : Int) from by omega]
            exact u32_xor_nat _ _ (by omega) (by omega)
          go_wp2
          · have ht := Crc.two_pos' (q := q') (x := x.toNat) (k := k') ‹_›
            go_round
            case rel => exact ⟨k' + 1, Crc.two q' (x.toNat / 2 ^ k'), by omega, Crc.two_lt hq2, Crc.two_bits HQ', by rw [ht], by go_num⟩
            case measure => simp [intOf]; omega
          · have ht := Crc.two_neg' (q := q') (x := x.toNat) (k := k') ‹_›
            go_round
            case rel => exact ⟨k' + 1, Crc.two q' (x.toNat / 2 ^ k'), by omega, Crc.two_lt hq2, Crc.two_bits HQ', by rw [ht]; go_num, by go_num⟩
            case measure => simp [intOf]; omega
        · have h8 : k' = 8 := by omega
          subst h8
          go_wp2
          go_round
          case rel =>
            refine ⟨k + 1, q', by omega, hq2, ?_, rfl, by go_num⟩
            show Crc.reg _ _ = _
            rw [take_snoc hx', Crc.reg_snoc, show Crc.reg _ _ = q from HQ]
            have e := HQ'.out
            rw [Nat.div_eq_of_lt (by omega), Nat.xor_zero] at e
            exact e.symm
          case measure => simp [intOf]; omega
    · have hkn : l.take k = l := List.take_of_length_le (by have := hrd.1; rw [bv_length] at this; omega)
      rw [hkn] at HQ
      clear hkn
      have e1 : bits BinOp.xor IntKind.u32 (q : Int) 4294967295 = ((q ^^^ 4294967295 : Nat) : Int) := by
        rw [show (4294967295 : Int) = ((4294967295 : Nat) : Int) from rfl, u32_xor_nat _ _ hq (by omega)]
      go_wp2
      go_ret
      refine ⟨?_, rfl⟩
      unfold Crc.more
      rw [show Crc.reg _ _ = q from HQ]
      rfl
end Go.Proofs.Ytbfboglcdgeheaa
