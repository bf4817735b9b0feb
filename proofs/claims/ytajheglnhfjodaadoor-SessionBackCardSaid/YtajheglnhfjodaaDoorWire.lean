/- The walks of the package wire: what puts. No condition. -/
import Derived.Test.YtajheglnhfjodaaDoorSumFns
import Derived.Test.YtajheglnhfjodaaDoorVar
import Derived.Deep.DeepCutAuto
namespace Go.Proofs.YtajheglnhfjodaaDoor
set_option linter.unusedVariables false
open Go.RowKit

theorem slice_lhm (w : World) (A : Option Addr) (n c : Nat) (hk : n ≤ c) :
    (Instr.slice 42 (.slice A n c) none (some (.int .i64 (n : Int))) (some (.int .i64 (n : Int)))).run Tryd.prog w = .ok (.slice A n n) w := by
  rw [run_slice_hm w 42 A n c (by kernel_rfl) .i64 .i64 n n (by omega) (by omega) (by omega)]
  rw [show (sizeOf (Tryd.prog.elem 42)).run Tryd.prog w = .ok 1 w from by kernel_rfl]
  have h := cutA_zero A n
  unfold cutA at h
  simp [Result.andThen, sliced, h]

theorem zz_go {v : Int} (hv : -9223372036854775808 ≤ v ∧ v ≤ 9223372036854775807) :
    bits BinOp.xor IntKind.u64 (IntKind.u64.wrap (IntKind.u64.wrap v * 2)) (IntKind.u64.wrap (v / 9223372036854775808)) = (Wire.zz v : Int) := by
  simp only [IntKind.wrap_u64]
  unfold Wire.zz
  split
  · rename_i h
    rw [show v % 18446744073709551616 * 2 % 18446744073709551616 = (((2 * v).toNat : Nat) : Int) from by omega, show v / 9223372036854775808 % 18446744073709551616 = ((0 : Nat) : Int) from by omega,
      bits_xor_u64_nat _ _ (by omega) (by omega), Nat.xor_zero]
  · rename_i h
    rw [show v % 18446744073709551616 * 2 % 18446744073709551616 = (((2 * v + 18446744073709551616).toNat : Nat) : Int) from by omega,
      show v / 9223372036854775808 % 18446744073709551616 = ((18446744073709551615 : Nat) : Int) from by omega, bits_xor_u64_nat _ _ (by omega) (by omega), u64_not (by omega)]
    omega
set_option maxHeartbeats 400000 in
theorem putInt_any (A : Option Addr) (n c : Nat) (l : List UInt8) (v : Int) (w : World) (hn : n + 10 ≤ 140737488355328) (hnc : n ≤ c) (hv : -9223372036854775808 ≤ v ∧ v ≤ 9223372036854775807)
    (hrd : Reads w w.heap.size 1 A n (bv l)) :
    Calls Tryd.prog 28 #[.slice A n c, .int .i64 v] w fun e w' => ∃ A' m c', e = .returned (.slice A' m c') ∧ Own w' w.heap.size (.slice A' m c') m (l ++ Wire.int v) ∧ Below w.heap.size w w' := by
  have hA : A = none → n = 0 := hrd.none_zero
  have hs1 := fun w => slice_lhm w A n c hnc
  have hz : Hid (Wire.zz v < 2 * 128 ^ 9) := by have := Wire.zz_lt hv; show _ < _; omega
  go_enter Tryd.func28, Tryd.ntmps28
  go_upto_region 2 with fail
  go_cut [5] (fun s5 wx => wx = w ∧ s5 = .int .u64 (Wire.zz v : Int))
  case first =>
    go_wp2
    go_meet
    exact ⟨rfl, by rw [zz_go hv]⟩
  case rest =>
  obtain ⟨rfl, rfl⟩ := hcut
  clear hv
  go_wp2
  go_loopw [0, 5] (fun b u wr => ∃ (m : Nat) (pre : List UInt8) (q f : Nat), u = .int .u64 (q : Int) ∧ AppB wr wc.heap.size b m (l ++ pre) ∧ f ≤ 9 ∧ m + f ≤ n + 9 ∧ Hid (q < 2 * 128 ^ f) ∧
      Hid (pre ++ Wire.var f q = Wire.int v) ∧ Below wc.heap.size wc wr) (fun _ u _ => (intOf u).toNat)
  case atStart =>
    refine ⟨n, [], Wire.zz v, 9, ?_, .inr ⟨A, rfl, by simpa using hrd, hA⟩, by omega, by omega, hz, rfl, Below.refl _ _⟩
    rfl
  case round =>
    obtain ⟨m, pre, q, f, rfl, hap, hf, hm, hq, HV, hbr⟩ := hrel
    obtain ⟨A1, c1, rfl, hc1, hn1⟩ := hap.form
    by_cases hlt : 128 ≤ q
    · have e1 := u8_or128 q
      obtain ⟨x, hx⟩ : ∃ x : UInt8, x.toNat = q % 128 + 128 := ⟨UInt8.ofNat (q % 128 + 128), by rw [UInt8.toNat_ofNat']; omega⟩
      rw [← hx] at e1
      have HX := Lib.hid hx
      clear hx
      have ht : decide ((128 : Int) ≤ (q : Int)) = true := by simp; omega
      have HLT := Lib.hid hlt
      clear hlt
      have hsz := hbr.size
      have hm1 : m + 1 ≤ 140737488355328 := by omega
      go_wp2_with (at_builtin; refine app_grow _ rfl (.tmp 21) (.tmp 25) rfl wc.heap.size _ m (l ++ pre) rfl (hap.alloc hsz _) _ ⟨wr.heap.size, 0, none⟩ 1 1 [x] rfl (reads_new wr [x] _ _ _ rfl 1 rfl) (Nat.le_refl _) hm1 (Nat.le_trans hsz (by simp)) ?_; intro A2 c2 w2 hO2 hb2)
      go_roundw
      case rel =>
        have hq' := hq.out
        have hl' := HLT.out
        obtain ⟨f', rfl⟩ : ∃ f', f = f' + 1 := by
          cases f with
          | zero => omega
          | succ f' => exact ⟨f', rfl⟩
        refine ⟨m + 1, pre ++ [x], q / 128, f', by go_num, .inl (by rw [← List.append_assoc]; exact hO2), by omega, by omega, ?_, ?_, (hbr.alloc hsz _).trans hb2⟩
        · show _ < _
          rw [Nat.pow_succ] at hq'
          omega
        · show _ = _
          rw [← HV.out, List.append_assoc]
          congr 1
          have hxe : x = UInt8.ofNat (q % 128 + 128) := UInt8.toNat_inj.1 (by rw [HX.out, UInt8.toNat_ofNat']; omega)
          conv => rhs; unfold Wire.var
          rw [if_neg (by omega), hxe]
          rfl
      case measure =>
        have hl' := HLT.out
        simp [intOf]; omega
    · have ht : decide ((128 : Int) ≤ (q : Int)) = false := by simp; omega
      have HLT := Lib.hid hlt
      clear hlt
      obtain ⟨x, hx⟩ : ∃ x : UInt8, x.toNat = q := ⟨UInt8.ofNat q, by have := HLT.out; rw [UInt8.toNat_ofNat']; omega⟩
      have e1 : (q : Int) % 256 = (x.toNat : Int) := by have := x.toNat_lt; omega
      have HX := Lib.hid hx
      clear hx
      have hsz := hbr.size
      have hm1 : m + 1 ≤ 140737488355328 := by omega
      go_wp2_with (at_builtin; refine app_grow _ rfl (.tmp 29) (.tmp 32) rfl wc.heap.size _ m (l ++ pre) rfl (hap.alloc hsz _) _ ⟨wr.heap.size, 0, none⟩ 1 1 [x] rfl (reads_new wr [x] _ _ _ rfl 1 rfl) (Nat.le_refl _) hm1 (Nat.le_trans hsz (by simp)) ?_; intro A2 c2 w2 hO2 hb2)
      go_ret
      refine ⟨A2, m + 1, c2, rfl, ?_, (hbr.alloc hsz _).trans hb2⟩
      rw [← HV.out, ← List.append_assoc]
      have hxe : Wire.var f q = [x] := by
        have hl' := HLT.out
        have hxe : x = UInt8.ofNat q := UInt8.toNat_inj.1 (by rw [HX.out, UInt8.toNat_ofNat']; omega)
        cases f with
        | zero => simp [Wire.var, hxe]
        | succ f => unfold Wire.var; rw [if_pos (by omega), hxe]
      rw [hxe]
      exact hO2

set_option maxHeartbeats 400000 in
theorem putText_any (A : Option Addr) (n c : Nat) (l : List UInt8) (s : ByteArray) (w : World) (hn : n + 10 + s.size ≤ 140737488355328) (hnc : n ≤ c) (hrd : Reads w w.heap.size 1 A n (bv l)) :
    Calls Tryd.prog 29 #[.slice A n c, .string s] w fun e w' => ∃ A' m c', e = .returned (.slice A' m c') ∧ Own w' w.heap.size (.slice A' m c') m (l ++ Wire.text s.data.toList) ∧ Below w.heap.size w w' := by
  have hls : Hid (s.data.toList.length = s.size) := by show _ = _; rw [Array.length_toList]; rfl
  have hln := Lib.hid (Wire.int_len (s.size : Int))
  have hlr : Hid (l.length = n) := by have := hrd.1; rw [bv_length] at this; show _ = _; omega
  go_enter Tryd.func29, Tryd.ntmps29
  go_wp2_with fail
  refine (putInt_any _ _ _ l s.size _ (by omega) hnc (by omega) hrd).mono ?_
  rintro e w1 ⟨A1, m1, c1, rfl, hO1, hb1⟩
  have hm1 : m1 + s.size ≤ 140737488355328 := by
    have h1 := hO1.len
    have h2 := hln.out
    have h3 := hlr.out
    rw [List.length_append] at h1
    omega
  go_wp2_with (at_builtin; refine app_text _ rfl (.tmp 8) (.tmp 9) rfl w.heap.size _ m1 _ rfl hO1 s rfl hm1 hb1.size ?_; intro A2 c2 w2 hO2 hb2)
  go_ret
  refine ⟨A2, _, c2, rfl, ?_, hb1.trans hb2⟩
  unfold Wire.text
  rw [hls.out, ← List.append_assoc]
  exact hO2

set_option maxHeartbeats 400000 in
theorem refInt_any (v : Int) (w : World) (hv : -9223372036854775808 ≤ v ∧ v ≤ 9223372036854775807) :
    Calls Tryd.prog 58 #[.int .i64 v] w fun e w' => ∃ A' m c', e = .returned (.slice A' m c') ∧ Own w' w.heap.size (.slice A' m c') m (Wire.int v) ∧ Below w.heap.size w w' := by
  have hz : Hid (Wire.zz v < 2 * 128 ^ 9) := by have := Wire.zz_lt hv; show _ < _; omega
  have h1 : 0 ≤ v → Wire.zz v = (2 * v).toNat := fun h => by unfold Wire.zz; rw [if_pos h]
  have h2 : v < 0 → Wire.zz v = (-2 * v - 1).toNat := fun h => by unfold Wire.zz; rw [if_neg (by omega)]
  have H1 := Lib.hid h1
  have H2 := Lib.hid h2
  clear h1 h2
  go_enter Tryd.func58, Tryd.ntmps58
  go_upto_if 9 with fail
  go_cut [3] (fun s3 wx => wx = w ∧ s3 = .int .u64 (Wire.zz v : Int))
  case first =>
    by_cases hneg : v < 0
    · have e1 : IntKind.u64.wrap (IntKind.u64.wrap (-(v + 1)) * 2 + 1) = (Wire.zz v : Int) := by
        rw [H2.out hneg]; simp only [IntKind.wrap_u64]; omega
      go_wp2
      go_meet
      refine ⟨rfl, congrArg _ ?_⟩
      rw [H2.out hneg]
      omega
    · have hpos : 0 ≤ v := by omega
      go_wp2
      go_meet
      refine ⟨rfl, congrArg _ ?_⟩
      rw [H1.out hpos]
      simp only [IntKind.wrap_u64]
      omega
  case rest =>
  obtain ⟨rfl, rfl⟩ := hcut
  clear hv
  go_wp2
  go_loopw [3, 4] (fun u b wr => ∃ (m : Nat) (pre : List UInt8) (q f : Nat), u = .int .u64 (q : Int) ∧ Own wr wc.heap.size b m pre ∧ f ≤ 9 ∧ m + f ≤ 9 ∧ Hid (q < 2 * 128 ^ f) ∧
      Hid (pre ++ Wire.var f q = Wire.int v) ∧ Below wc.heap.size wc wr) (fun u _ _ => (intOf u).toNat)
  case atStart => exact ⟨0, [], Wire.zz v, 9, rfl, Own.nil _ _, by omega, by omega, hz, rfl, Below.refl _ _⟩
  case round =>
    obtain ⟨m, pre, q, f, rfl, hO, hf, hm, hq, HV, hbr⟩ := hrel
    obtain ⟨A1, c1, rfl⟩ := hO.form
    have hsz := hbr.size
    have hm1 : m + 1 ≤ 140737488355328 := by omega
    by_cases hlt : 128 ≤ q
    · have ht : decide ((128 : Int) ≤ (q : Int)) = true := by simp; omega
      have HLT := Lib.hid hlt
      clear hlt
      obtain ⟨x, hx⟩ : ∃ x : UInt8, x.toNat = q % 128 + 128 := ⟨UInt8.ofNat (q % 128 + 128), by rw [UInt8.toNat_ofNat']; omega⟩
      have e1 : (q : Int) % 128 + 128 = (x.toNat : Int) := by omega
      have e2 : IntKind.u64.wrap ((q : Int) / 128) = (q : Int) / 128 := by
        have hq' := hq.out
        have h9 : 128 ^ f ≤ 128 ^ 9 := Nat.pow_le_pow_right (by omega) hf
        have hq2 : q < 18446744073709551616 := Nat.lt_of_lt_of_le hq' (by omega)
        rw [IntKind.wrap_u64]
        omega
      have HX := Lib.hid hx
      clear hx
      go_wp2_with (at_builtin; refine app_grow _ rfl (.tmp 18) (.tmp 23) rfl wc.heap.size _ m pre rfl (.inl (hO.alloc _)) _ ⟨wr.heap.size, 0, none⟩ 1 1 [x] rfl (reads_new wr [x] _ _ _ rfl 1 rfl) (Nat.le_refl _) hm1 (Nat.le_trans hsz (by simp)) ?_; intro A2 c2 w2 hO2 hb2)
      go_roundw
      case rel =>
        have hq' := hq.out
        have hl' := HLT.out
        obtain ⟨f', rfl⟩ : ∃ f', f = f' + 1 := by
          cases f with
          | zero => omega
          | succ f' => exact ⟨f', rfl⟩
        refine ⟨m + 1, pre ++ [x], q / 128, f', by go_num, hO2, by omega, by omega, ?_, ?_, (hbr.alloc hsz _).trans hb2⟩
        · show _ < _
          rw [Nat.pow_succ] at hq'
          omega
        · show _ = _
          rw [← HV.out, List.append_assoc]
          congr 1
          have hxe : x = UInt8.ofNat (q % 128 + 128) := UInt8.toNat_inj.1 (by rw [HX.out, UInt8.toNat_ofNat']; omega)
          conv => rhs; unfold Wire.var
          rw [if_neg (by omega), hxe]
          rfl
      case measure =>
        have hl' := HLT.out
        simp [intOf]; omega
    · have ht : decide ((128 : Int) ≤ (q : Int)) = false := by simp; omega
      have HLT := Lib.hid hlt
      clear hlt
      obtain ⟨x, hx⟩ : ∃ x : UInt8, x.toNat = q := ⟨UInt8.ofNat q, by have := HLT.out; rw [UInt8.toNat_ofNat']; omega⟩
      have e1 : (q : Int) % 256 = (x.toNat : Int) := by have := x.toNat_lt; omega
      have HX := Lib.hid hx
      clear hx
      go_wp2_with (at_builtin; refine app_grow _ rfl (.tmp 27) (.tmp 30) rfl wc.heap.size _ m pre rfl (.inl (hO.alloc _)) _ ⟨wr.heap.size, 0, none⟩ 1 1 [x] rfl (reads_new wr [x] _ _ _ rfl 1 rfl) (Nat.le_refl _) hm1 (Nat.le_trans hsz (by simp)) ?_; intro A2 c2 w2 hO2 hb2)
      go_ret
      refine ⟨A2, m + 1, c2, rfl, ?_, (hbr.alloc hsz _).trans hb2⟩
      have hxe : Wire.var f q = [x] := by
        have hl' := HLT.out
        have hxe : x = UInt8.ofNat q := UInt8.toNat_inj.1 (by rw [HX.out, UInt8.toNat_ofNat']; omega)
        cases f with
        | zero => simp [Wire.var, hxe]
        | succ f => unfold Wire.var; rw [if_pos (by omega), hxe]
      rw [← HV.out, hxe]
      exact hO2

set_option maxHeartbeats 400000 in
theorem refText_any (s : ByteArray) (w : World) (hn : 10 + s.size ≤ 140737488355328) :
    Calls Tryd.prog 59 #[.string s] w fun e w' => ∃ A' m c', e = .returned (.slice A' m c') ∧ Own w' w.heap.size (.slice A' m c') m (Wire.text s.data.toList) ∧ Below w.heap.size w w' := by
  have hls : Hid (s.data.toList.length = s.size) := by show _ = _; rw [Array.length_toList]; rfl
  have hln := Lib.hid (Wire.int_len (s.size : Int))
  go_enter Tryd.func59, Tryd.ntmps59
  go_wp2_with fail
  refine (refInt_any s.size _ (by omega)).mono ?_
  rintro e w1 ⟨A1, m1, c1, rfl, hO1, hb1⟩
  have hm1 : m1 + s.size ≤ 140737488355328 := by
    have h1 := hO1.len
    have h2 := hln.out
    omega
  go_wp2_with (at_builtin; refine app_text _ rfl (.tmp 5) (.tmp 6) rfl w.heap.size _ m1 _ rfl hO1 s rfl hm1 hb1.size ?_; intro A2 c2 w2 hO2 hb2)
  go_ret
  refine ⟨A2, _, c2, rfl, ?_, hb1.trans hb2⟩
  unfold Wire.text
  rw [hls.out]
  exact hO2
end Go.Proofs.YtajheglnhfjodaaDoor
