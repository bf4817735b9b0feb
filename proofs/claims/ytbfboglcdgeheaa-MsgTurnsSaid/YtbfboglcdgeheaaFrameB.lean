/- A turned byte in a frame: the plain law. No condition. -/
import Derived.Test.YtbfboglcdgeheaaFrameL
namespace Go.Proofs.Ytbfboglcdgeheaa.Frame
set_option linter.unusedVariables false

theorem num_byte {l : List UInt8} {j : Nat} {x : UInt8} (y : UInt8) (h : l[j]? = some x) : Crc.num (l.set j (x ^^^ y)) = Crc.num l ^^^ (y.toNat * 2 ^ (8 * j)) := by
  apply Nat.eq_of_testBit_eq
  intro i
  have hj : j < l.length := (List.getElem?_eq_some_iff.1 h).1
  rw [Crc.num_bit, Nat.testBit_xor, Crc.num_bit, Nat.testBit_mul_two_pow]
  have hy := y.toNat_lt
  by_cases e : i / 8 = j
  · have e1 : 8 * j ≤ i := by omega
    have e2 : i - 8 * j = i % 8 := by omega
    rw [e, List.getElem?_set_self hj, h]
    simp [e1, e2]
  · rw [List.getElem?_set_ne (Ne.symm e)]
    by_cases e1 : 8 * j ≤ i
    · have : y.toNat.testBit (i - 8 * j) = false := Nat.testBit_lt_two_pow (Nat.lt_of_lt_of_le hy (by
        have : 8 ≤ i - 8 * j := by omega
        exact Nat.le_trans (by decide) (Nat.pow_le_pow_right (by decide) this : 2 ^ 8 ≤ 2 ^ (i - 8 * j))))
      simp [this]
    · simp [e1]
theorem get_first {l : List UInt8} (h : (get l 0).2.2 = 0) : ∃ body r, l = put body ++ r ∧ get l 0 = (body, ((put body).length : Int), 0) ∧ 1 ≤ body.length ∧ body.length ≤ 1048576 := by
  unfold get at h ⊢
  split at h
  · exact absurd h (by decide)
  · rename_i h1
    rw [if_neg h1]
    split at h
    · exact absurd h (by decide)
    · rename_i h2
      rw [if_neg h2]
      split at h
      · exact absurd h (by decide)
      · rename_i body r e
        rw [show (0 : Int).toNat = 0 from rfl, List.drop_zero] at e
        obtain ⟨e2, h3, h4⟩ := first_some e
        exact ⟨body, r, e2, by simp, h3, h4⟩
theorem put_head (body : List UInt8) : (put body).drop ((Wire.int body.length).length + 4) = body := by
  unfold put
  rw [List.append_assoc, ← List.drop_drop, List.drop_left' rfl, List.drop_left' (le4_len _)]
theorem put_sum (body : List UInt8) : ((put body).drop (Wire.int body.length).length).take 4 = le4 (sum body) := by
  unfold put
  rw [List.append_assoc, List.drop_left' rfl, List.take_left' (le4_len _)]
theorem sum_more (body : List UInt8) : sum body = Crc.more 0 (Wire.int body.length ++ body) := Crc.more_append (by omega) _ _
/-- where a byte of a frame is turned, all of it is no frame any more -/
theorem turned {body : List UInt8} {k : Nat} {x y : UInt8} (hk : (put body)[k]? = some x) (hy : y ≠ 0) :
    ¬ ((get ((put body).set k (x ^^^ y)) 0).2.2 = 0 ∧ (get ((put body).set k (x ^^^ y)) 0).2.1 = ((put body).length : Int)) := by
  rintro ⟨h1, h2⟩
  obtain ⟨body', r, e, hg, h3, h4⟩ := get_first h1
  rw [hg] at h2
  have hkl : k < (put body).length := (List.getElem?_eq_some_iff.1 hk).1
  have hl' : (put body').length = (put body).length := Int.ofNat_inj.1 h2
  have hr : r = [] := by
    have := congrArg List.length e
    rw [List.length_set, List.length_append] at this
    exact List.eq_nil_of_length_eq_zero (by omega)
  rw [hr, List.append_nil] at e
  have hn : body'.length = body.length := by
    rw [put_len, put_len] at hl'
    rcases Nat.lt_trichotomy body'.length body.length with h | h | h
    · have := Wire.int_mono (a := (body'.length : Int)) (b := (body.length : Int)) (.inl ⟨by omega, by omega⟩); omega
    · exact h
    · have := Wire.int_mono (a := (body.length : Int)) (b := (body'.length : Int)) (.inl ⟨by omega, by omega⟩); omega
  suffices hb : body' = body by
    rw [hb] at e
    have := congrArg (fun l => l[k]?) e
    simp only [List.getElem?_set_self hkl, hk, Option.some.injEq] at this
    apply hy
    have h5 := congrArg (fun z => x ^^^ z) this
    simpa [← UInt8.xor_assoc] using h5
  have hd := put_head body'
  rw [← e, hn, List.drop_set] at hd
  split at hd
  · rw [← hd, put_head]
  · rename_i hge
    rw [put_head] at hd
    have hs := put_sum body'
    rw [← e, hn, List.drop_set, if_neg (by omega), List.take_set, List.set_eq_of_length_le (by rw [List.length_take]; omega), put_sum] at hs
    have hs2 : sum body' = sum body := by
      have := congrArg Crc.num hs
      rw [num_le4 (sum_lt _), num_le4 (sum_lt _)] at this
      exact this.symm
    rw [sum_more, sum_more, hn] at hs2
    have hj : body[k - ((Wire.int body.length).length + 4)]? = some x := by
      have h6 : ((put body).drop ((Wire.int body.length).length + 4))[k - ((Wire.int body.length).length + 4)]? = some x := by
        rw [List.getElem?_drop, show (Wire.int ↑body.length).length + 4 + (k - ((Wire.int ↑body.length).length + 4)) = k by omega]
        exact hk
      rwa [put_head] at h6
    generalize k - ((Wire.int body.length).length + 4) = j at hd hj
    have hLj : (Wire.int body.length ++ body)[(Wire.int body.length).length + j]? = some x := by
      rw [List.getElem?_append_right (by omega), show (Wire.int ↑body.length).length + j - (Wire.int ↑body.length).length = j by omega]
      exact hj
    have hset : Wire.int body.length ++ body' = (Wire.int body.length ++ body).set ((Wire.int body.length).length + j) (x ^^^ y) := by
      rw [List.set_append_right _ _ (by omega), show (Wire.int ↑body.length).length + j - (Wire.int ↑body.length).length = j by omega, hd]
    have hlt := (List.getElem?_eq_some_iff.1 hLj).1
    have hb := Crc.burst (Wire.int body.length ++ body) (Wire.int body.length ++ body') (by rw [hset, List.length_set]) (8 * ((Wire.int body.length).length + j)) y.toNat (Nat.lt_trans y.toNat_lt (by decide))
      (by rw [hset]; exact num_byte y hLj) (by omega) hs2
    exact List.append_cancel_left hb
end Go.Proofs.Ytbfboglcdgeheaa.Frame
