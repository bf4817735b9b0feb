/- The walk of SumTurns. No condition. -/
import Derived.Test.YtpaibalemjkkcaaSumFns
import Derived.Test.YtpaibalemjkkcaaReg
import Derived.Deep.DeepCutAuto
namespace Go.Proofs.Ytpaibalemjkkcaa
set_option linter.unusedVariables false
open Go.RowKit

set_option maxHeartbeats 800000 in
theorem sumTurns_walk (A : Option Addr) (n c : Nat) (l : List UInt8) (at_ : Int) (row : Nat) (w : World) (hb : InBytes w A n c l) (ha : -9223372036854775808 ≤ at_ ∧ at_ ≤ 9223372036854775807) (hrow : row < 4294967296) :
    Calls Try.prog 5 #[.slice A n c, .int .i64 at_, .int .u32 (row : Int)] w fun e w' => e = .returned (.bool true) ∧ Below w.heap.size w w' := by
  have hll := hb.len
  obtain ⟨hrd, hnc, hc⟩ := hb
  by_cases h0 : n = 0
  · subst h0
    go_enter Try.func5, Try.ntmps5
    go_wp2_with fail
    refine (awake2_any _).mono ?_
    rintro e w2 ⟨rfl, hb2⟩
    go_wp2
    go_ret
    exact ⟨rfl, hb2⟩
  have h0' : ((n : Int) == 0) = false := by rw [beq_eq_false_iff_ne]; omega
  by_cases hbig : 1048576 < n
  · go_enter Try.func5, Try.ntmps5
    go_wp2_with fail
    refine (awake2_any _).mono ?_
    rintro e w2 ⟨rfl, hb2⟩
    go_wp2
    go_ret
    exact ⟨rfl, hb2⟩
  have hsm : n ≤ 1048576 := by omega
  have hpm : 0 ≤ at_ % (8 * (n : Int)) := Int.emod_nonneg _ (by omega)
  have hpl : at_ % (8 * (n : Int)) < 8 * (n : Int) := Int.emod_lt_of_pos _ (by omega)
  go_enter Try.func5, Try.ntmps5
  go_wp2_with fail
  refine (bytes_any _ _ _ _ l _ (by omega) hrd).mono ?_
  rintro e w1 ⟨A', c', rfl, hO, hb⟩
  go_wp2_with fail
  refine (place_any at_ _ _ ha (by omega) (by omega)).mono ?_
  rintro e w' ⟨rfl, rfl⟩
  obtain ⟨k, hk⟩ := Int.eq_ofNat_of_zero_le hpm
  rw [hk] at hpl ⊢
  clear hk hpm ha
  have HLL := Lib.hid hll
  clear hll hbig
  obtain ⟨g, rfl, hg⟩ : ∃ g, A' = some ⟨g, 0, none⟩ ∧ w.heap.size ≤ g := by
    rcases hO.2 with ⟨h, h'⟩ | ⟨g, cap, cur, h, hg, _⟩
    · omega
    · injection h with h; exact ⟨g, h, hg⟩
  go_wp2
  go_loopw [9] (fun i wr => ∃ (j : Nat) (L : List UInt8), j ≤ 32 ∧ (k + j ≤ 8 * n ∨ j = 0) ∧ i = .int .i64 (j : Int) ∧ Own wr w.heap.size (.slice (some ⟨g, 0, none⟩) n c') n L ∧
      Hid (Crc.num L = Crc.num l ^^^ (row % 2 ^ j * 2 ^ k)) ∧ Below w.heap.size w wr) (fun i _ => 32 - (intOf i).toNat)
  case atStart => exact ⟨0, l, by omega, .inr rfl, rfl, hO, by show _ = _; simp [Nat.mod_one], hb⟩
  case round =>
    obtain ⟨j, L, hj, hjk, rfl, hOr, HL, hbr⟩ := hrel
    clear hO hb
    by_cases hlt : j < 32 ∧ k + j < 8 * n
    · obtain ⟨hlt, hlk⟩ := hlt
      have hLk : (k + j) / 8 < L.length := by have := hOr.len; omega
      obtain ⟨hcg, hfg⟩ := hOr.at_ (List.getElem?_eq_getElem hLk)
      generalize hxe : L[(k + j) / 8] = x at hcg
      have HXE := Lib.hid hxe
      clear hxe
      obtain ⟨y, hy⟩ := Crc.u8_turn x ((k + j) % 8) (by omega)
      have HY := Lib.hid hy
      have HV := Lib.hid (u8_turned x ((k + j) % 8) (by omega) y hy)
      have HT := Lib.hid (u32_bit row j hrow)
      have hstep := Lib.hid (Crc.row_step row j)
      clear hy
      go_wp2
      · have ht : (bits BinOp.and IntKind.u32 ((row : Int) / 2 ^ j) 1 == 1) = true := ‹_›
        rw [HT.out] at ht
        have ht' := of_decide_eq_true ht
        rw [HV.out]
        go_roundw
        case rel =>
          refine ⟨j + 1, _, by omega, by omega, by go_num, hOr.set _ y, ?_, hbr.setCell hg _⟩
          show _ = _
          rw [Crc.num_turn L _ x _ (by rw [List.getElem?_eq_getElem hLk, HXE.out]) (by omega) y HY.out, HL.out, hstep.out, if_pos ht', Crc.xor_mul, ← Nat.pow_add, Nat.xor_assoc]
          congr 3
          omega
        case measure => simp [intOf]; omega
      · have ht : (bits BinOp.and IntKind.u32 ((row : Int) / 2 ^ j) 1 == 1) = false := ‹_›
        rw [HT.out] at ht
        have ht' := of_decide_eq_false ht
        go_roundw
        case rel =>
          refine ⟨j + 1, _, by omega, by omega, by go_num, hOr, ?_, hbr⟩
          show _ = _
          rw [HL.out, hstep.out, if_neg ht']
        case measure => simp [intOf]; omega
    · have hLl := Lib.hid hOr.len
      have hrowj : row % 2 ^ j < 4294967296 := Nat.lt_of_le_of_lt (Nat.mod_le _ _) hrow
      have hbu := Crc.burst l L (by rw [hLl.out, HLL.out]) k (row % 2 ^ j) hrowj HL.out (by rw [HLL.out]; omega)
      have hd : L = l ∨ (((Crc.more 0 L : Nat) : Int) == ((Crc.more 0 l : Nat) : Int)) = false ∧ (L == l) = false := by
        by_cases h : L = l
        · exact .inl h
        · exact .inr ⟨by rw [beq_eq_false_iff_ne]; intro h'; exact h (hbu (by omega)), by rw [beq_eq_false_iff_ne]; intro h'; exact h h'⟩
      have hw2 : j < 32 → ¬ (k + j < 8 * n) := fun a b => hlt ⟨a, b⟩
      have HD := Lib.hid hd
      clear hbu hlt hrowj hd
      have fin : ∀ (W : World), Below wr.heap.size wr W → True := fun _ _ => trivial
      clear fin
      have q0 := hrd.below hbr
      have q1 := hOr.reads
      by_cases hj32 : j < 32
      · have hge := hw2 hj32
        clear hw2
        go_wp2_with fail
        refine region_tail 12 (by kernel_rfl) (by kernel_rfl) (fun W hW => ?_)
        have p0 := q0.below (hW.mono hbr.size)
        have p1 := q1.below hW
        have k0 := run_string_of (P := Try.prog) W Try.underlying23 Try.underlying5 Try.underlying9 c p0
        have k1 := run_string_of (P := Try.prog) W Try.underlying23 Try.underlying5 Try.underlying9 c' p1
        simp only [List.take_succ_cons, List.take_zero, List.drop_succ_cons, List.drop_zero]
        iterate 1 still_step
        still_call (still (of_any _ _ _ _ _ W (by unfold maxLen; omega) p1))
        iterate 1 still_step
        still_call (still (of_any _ _ _ _ _ W (by unfold maxLen; omega) p0))
        rcases HD.out with hEq | ⟨f1, f2⟩
        · subst hEq
          iterate 8 still_step
          refine wpStill_nil ?_
          go_wp2_with fail
          refine (awake2_any _).mono ?_
          rintro e w2 ⟨rfl, hb2⟩
          go_wp2
          go_ret
          exact ⟨rfl, hbr.trans ((hW.mono hbr.size).trans (hb2.mono (Nat.le_trans hbr.size hW.size)))⟩
        · iterate 8 still_step
          refine wpStill_nil ?_
          go_wp2_with fail
          refine (awake2_any _).mono ?_
          rintro e w2 ⟨rfl, hb2⟩
          go_wp2
          go_ret
          exact ⟨rfl, hbr.trans ((hW.mono hbr.size).trans (hb2.mono (Nat.le_trans hbr.size hW.size)))⟩
      · clear hw2
        go_wp2_with fail
        refine region_tail 12 (by kernel_rfl) (by kernel_rfl) (fun W hW => ?_)
        have p0 := q0.below (hW.mono hbr.size)
        have p1 := q1.below hW
        have k0 := run_string_of (P := Try.prog) W Try.underlying23 Try.underlying5 Try.underlying9 c p0
        have k1 := run_string_of (P := Try.prog) W Try.underlying23 Try.underlying5 Try.underlying9 c' p1
        simp only [List.take_succ_cons, List.take_zero, List.drop_succ_cons, List.drop_zero]
        iterate 1 still_step
        still_call (still (of_any _ _ _ _ _ W (by unfold maxLen; omega) p1))
        iterate 1 still_step
        still_call (still (of_any _ _ _ _ _ W (by unfold maxLen; omega) p0))
        rcases HD.out with hEq | ⟨f1, f2⟩
        · subst hEq
          iterate 8 still_step
          refine wpStill_nil ?_
          go_wp2_with fail
          refine (awake2_any _).mono ?_
          rintro e w2 ⟨rfl, hb2⟩
          go_wp2
          go_ret
          exact ⟨rfl, hbr.trans ((hW.mono hbr.size).trans (hb2.mono (Nat.le_trans hbr.size hW.size)))⟩
        · iterate 8 still_step
          refine wpStill_nil ?_
          go_wp2_with fail
          refine (awake2_any _).mono ?_
          rintro e w2 ⟨rfl, hb2⟩
          go_wp2
          go_ret
          exact ⟨rfl, hbr.trans ((hW.mono hbr.size).trans (hb2.mono (Nat.le_trans hbr.size hW.size)))⟩
end Go.Proofs.Ytpaibalemjkkcaa
