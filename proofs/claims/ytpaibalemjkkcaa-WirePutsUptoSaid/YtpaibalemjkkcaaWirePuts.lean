/- The law WirePuts. Condition: what comes in is of bulk at most 1048576. -/
import Derived.Test.YtpaibalemjkkcaaWireLaws
import Derived.Test.YtpaibalemjkkcaaMore
namespace Go.Proofs.Ytpaibalemjkkcaa
set_option linter.unusedVariables false
open Go.RowKit

set_option maxRecDepth 100000 in
set_option maxHeartbeats 1600000 in
theorem wirePuts_walk (A : Option Addr) (n c : Nat) (l : List UInt8) (v : Int) (t : Bool) (s : ByteArray) (w : World) (hb : InBytes w A n c l) (hv : -9223372036854775808 ≤ v ∧ v ≤ 9223372036854775807)
    (_hs : s.size ≤ 140737488351232) (hB : n + s.size ≤ 1048576) :
    Calls Try.prog 9 #[.slice A n c, .int .i64 v, .bool t, .string s] w fun e w' => e = .returned (.bool true) ∧ Below w.heap.size w w' := by
  have hll := Lib.hid hb.len
  obtain ⟨hrd, hnc, hc⟩ := hb
  clear hnc hc _hs
  go_enter Try.func9, Try.ntmps9
  go_upto_region 2 with (first
    | (at_builtin; refine app_copy _ rfl (.tmp 13) rfl _ A n c l rfl hrd (by omega) ?_; intro A' c' w1 hO hb1)
    | (at_builtin; refine app_grow _ rfl (.tmp 14) (.tmp 15) rfl w.heap.size _ n l rfl (.inl (hO.alloc _)) _ ⟨w1.heap.size, 0, none⟩ 1 1 [99] rfl (reads_new w1 [99] _ _ _ rfl 1 rfl) (Nat.le_refl _) (by omega) (Nat.le_trans hb1.size (by simp)) ?_; intro A2 c2 w2 hO2 hb2; have hc2 := hO2.cap))
  have hB2 : Below w.heap.size w w2 := (hb1.alloc hb1.size _).trans hb2
  obtain ⟨g2, rfl, hg2, hg2l⟩ := hO2.some_ (by omega)
  clear hb1 hb2 hO
  have hrc : Reads w2 w2.heap.size 1 (some ⟨g2, 0, none⟩) n (bv l) := by
    have := hO2.reads.take (k := n) (by omega)
    rw [List.take_append_of_le_length (by have := hll.out; omega), List.take_of_length_le (by have := hll.out; omega)] at this
    exact this
  go_wp2_with fail
  refine (putInt_any _ n c2 l v _ (by omega) (by omega) hv hrc).mono ?_
  rintro e w3 ⟨Ax, mx, cx, rfl, hOx, hb3⟩
  have hB3 := hB2.trans (hb3.mono hB2.size)
  go_wp2_with fail
  refine (putBool_any _ n c2 l t _ (by omega) (by omega) ((hrc.below hb3).more hb3.size)).mono ?_
  rintro e w4 ⟨Ay, cy, rfl, hOy, hb4⟩
  have hB4 := hB3.trans (hb4.mono hB3.size)
  go_wp2_with fail
  refine (putText_any _ n c2 l s _ (by omega) (by omega) (((hrc.below hb3).more hb3.size |>.below hb4).more hb4.size)).mono ?_
  rintro e w5 ⟨Az, mz, cz, rfl, hOz, hb5⟩
  have hB5 := hB4.trans (hb5.mono hB4.size)
  have rx := (hOx.below hb4 (Nat.le_refl _)).below hb5 (Nat.le_refl _) |>.reads
  have ry := (hOy.below hb5 (Nat.le_refl _)).reads
  have rz := hOz.reads
  have ra := (hrd.below hB5).more hB5.size
  have rc := (((hO2.reads.below hb3).more hb3.size |>.below hb4).more hb4.size |>.below hb5).more hb5.size
  have HV := Lib.hid hv
  clear hOx hOy hOz hb3 hb4 hb5 hB3 hB4 hB2 hO2 hrc hrd hv
  have conv : ∀ {A : Option Addr} {m : Nat} (c : Nat) {l : List UInt8}, Reads w5 w5.heap.size 1 A m (bv l) → ∀ W, Below w5.heap.size w5 W → (convert 23 9 (.slice A m c)).run Try.prog W = .ok (.string (txt l)) W :=
    fun c _ hr W hW => run_string_of (P := Try.prog) W Try.underlying23 Try.underlying5 Try.underlying9 c (hr.below hW)
  have kx := conv cx rx
  have ky := conv cy ry
  have kz := conv cz rz
  have ka := conv c ra
  have hs9 : ∀ W, (Instr.slice 23 (.slice (some ⟨g2, 0, none⟩) n c2) none (some (.int .i64 ((n : Int) + 1))) none).run Try.prog W = .ok (.slice (some ⟨g2, 0, none⟩) (n + 1) c2) W := fun W => slice_hi W _ n c2 (n + 1) hc2
  have hce : ∀ W, Below w5.heap.size w5 W → W.cell? ⟨g2, n, none⟩ = some (.int .u8 99) := fun W hW => by
    obtain ⟨ad, u, he, _, hu, hcu⟩ := (rc.below hW).at_ (k := n) (by omega)
    injection he with he
    subst he
    rw [show bv (l ++ [99]) = bv l ++ [.int .u8 99] from by simp [bv], List.getElem?_append_right (by rw [bv_length]; have := hll.out; omega), bv_length, hll.out] at hu
    simp at hu
    subst hu
    simpa [Addr.add_lit] using hcu
  have ex := run_txt_add (P := Try.prog) l (Wire.int v) (by have := Wire.int_len v; have := hll.out; omega)
  have ey := run_txt_add (P := Try.prog) l (Wire.bool t) (by have := hll.out; simp [Wire.bool]; omega)
  have ez := run_txt_add (P := Try.prog) l (Wire.text s.data.toList) (by
    have := hll.out
    have hs : s.data.toList.length = s.size := by rw [Array.length_toList]; rfl
    have := Wire.int_len (s.data.toList.length : Int)
    unfold Wire.text
    rw [List.length_append, hs]
    rw [hs] at this
    omega)
  have hw1 : IntKind.i64.wrap ((n : Int) + 1) = (n : Int) + 1 := IntWalk.i64_in _ (by omega)
  have hn0 : (0 : Int) ≤ (n : Int) := by omega
  have hn1 : (n : Int) < ((n + 1 : Nat) : Int) := by omega
  have hn2 : (n : Int) < (n : Int) + 1 := by omega
  clear conv rx ry rz ra rc
  have hS5 : Below w5.heap.size w5 w5 := Below.refl _ _
  go_wp2_with fail
  go_region_held (fun W => Below w5.heap.size w5 W)
    (first | exact Below.drew (Below.refl _ _) | assumption | exact Below.trans (Below.drew (Below.refl _ _)) hb6 | exact Below.trans ‹Below w5.heap.size w5 w6› (Below.mono hb7 (Below.size ‹Below w5.heap.size w5 w6›)) | exact Below.trans ‹Below w5.heap.size w5 w7› (Below.mono hb8 (Below.size ‹Below w5.heap.size w5 w7›)) | exact Below.trans ‹Below w5.heap.size w5 w8› (Below.mono hb9 (Below.size ‹Below w5.heap.size w5 w8›)))
    (first
      | (go_at_call 33; refine (refInt_any v _ HV.out).mono ?_; rintro e w6 ⟨A6, m6, c6, rfl, hO6, hb6⟩; have k6 := run_string_of (P := Try.prog) w6 Try.underlying23 Try.underlying5 Try.underlying9 c6 hO6.reads)
      | (go_at_call 34; refine (refBool_any t _).mono ?_; rintro e w7 ⟨A7, c7, rfl, hO7, hb7⟩; have k7 := run_string_of (P := Try.prog) w7 Try.underlying23 Try.underlying5 Try.underlying9 c7 hO7.reads)
      | (go_at_call 35; refine (refText_any s _ (by omega)).mono ?_; rintro e w8 ⟨A8, m8, c8, rfl, hO8, hb8⟩; have k8 := run_string_of (P := Try.prog) w8 Try.underlying23 Try.underlying5 Try.underlying9 c8 hO8.reads)
      | (go_at_call 30; refine (awake3_any _).mono ?_; rintro e w9 ⟨rfl, hb9⟩))
  go_wp2
  go_ret
  exact ⟨rfl, hB5.trans (Below.mono ‹Below w5.heap.size w5 w9› hB5.size)⟩
end Go.Proofs.Ytpaibalemjkkcaa
