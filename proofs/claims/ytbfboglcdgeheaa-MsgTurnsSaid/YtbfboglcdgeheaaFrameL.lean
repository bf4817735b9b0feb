/- Frames: the plain law. No condition. -/
import Derived.Test.YtbfboglcdgeheaaVarB
import Derived.Test.YtbfboglcdgeheaaCrc
namespace Go.Proofs.Ytbfboglcdgeheaa.Frame
set_option linter.unusedVariables false

def le4 (s : Nat) : List UInt8 := [UInt8.ofNat s, UInt8.ofNat (s / 2 ^ 8), UInt8.ofNat (s / 2 ^ 16), UInt8.ofNat (s / 2 ^ 24)]
def sum (body : List UInt8) : Nat := Crc.more (Crc.more 0 (Wire.int body.length)) body
def put (body : List UInt8) : List UInt8 := Wire.int body.length ++ le4 (sum body) ++ body
theorem sum_lt (body : List UInt8) : sum body < 4294967296 := Crc.more_lt (Crc.more_lt (by omega) _) _
theorem le4_len (s : Nat) : (le4 s).length = 4 := rfl
theorem put_len (body : List UInt8) : (put body).length = (Wire.int body.length).length + 4 + body.length := by simp [put, le4_len]; omega
theorem num_le4 {s : Nat} (h : s < 4294967296) : Crc.num (le4 s) = s := by
  simp only [le4, Crc.num, UInt8.toNat_ofNat']
  omega
theorem le4_num {l : List UInt8} (h : l.length = 4) : le4 (Crc.num l) = l := by
  have h2 : Crc.num l < 4294967296 := by have := Crc.num_lt l; rw [h] at this; exact this
  exact Crc.num_inj _ _ (by rw [le4_len, h]) (num_le4 h2)

/-- the frame at the head of bytes: its body, what is behind it -/
def first (l : List UInt8) : Option (List UInt8 × List UInt8) :=
  match Wire.intS (some l) with
  | (n, some r) => if 1 ≤ n ∧ n ≤ 1048576 ∧ 4 + n.toNat ≤ r.length ∧ r.take 4 = le4 (sum ((r.drop 4).take n.toNat)) then some ((r.drop 4).take n.toNat, r.drop (4 + n.toNat)) else none
  | _ => none
theorem int_small {n : Nat} (h : n ≤ 1048576) (r : List UInt8) : Wire.intS (some (Wire.int (n : Int) ++ r)) = ((n : Int), some r) := Wire.intS_int (by omega) r
theorem first_put {body : List UInt8} (r : List UInt8) (h1 : 1 ≤ body.length) (h2 : body.length ≤ 1048576) : first (put body ++ r) = some (body, r) := by
  unfold first put
  rw [List.append_assoc, List.append_assoc, int_small h2]
  have e1 : (le4 (sum body) ++ (body ++ r)).take 4 = le4 (sum body) := List.take_left' (le4_len _)
  have e2 : (le4 (sum body) ++ (body ++ r)).drop 4 = body ++ r := List.drop_left' (le4_len _)
  have e3 : (body ++ r).take body.length = body := List.take_left' rfl
  have e4 : (le4 (sum body) ++ (body ++ r)).drop (4 + body.length) = r := by rw [← List.drop_drop, e2, List.drop_left' rfl]
  simp only [Int.toNat_natCast, e1, e2, e3, e4]
  rw [if_pos ⟨by omega, by omega, by simp [le4_len], trivial⟩]
theorem first_some {l body r : List UInt8} (h : first l = some (body, r)) : l = put body ++ r ∧ 1 ≤ body.length ∧ body.length ≤ 1048576 := by
  unfold first at h
  split at h
  · rename_i n r0 hI
    split at h
    · rename_i hc
      obtain ⟨c1, c2, c3, c4⟩ := hc
      simp only [Option.some.injEq, Prod.mk.injEq] at h
      obtain ⟨hb, hr⟩ := h
      obtain ⟨e, _, _⟩ := Wire.intS_back hI
      have hl : body.length = n.toNat := by rw [← hb]; simp; omega
      have hn : ((body.length : Nat) : Int) = n := by omega
      refine ⟨?_, by omega, by omega⟩
      rw [e]
      unfold put
      rw [hn, List.append_assoc, List.append_assoc]
      congr 1
      rw [← hb] at hl ⊢
      rw [← c4, ← hr, ← List.drop_drop, List.take_append_drop, List.take_append_drop]
    · cases h
  · cases h
theorem first_nil : first [] = none := rfl

/-- the frame at a place: a body, the place behind it, an answer -/
def get (l : List UInt8) (at_ : Int) : List UInt8 × Int × Int :=
  if at_ < 0 ∨ (l.length : Int) < at_ then ([], 0, 1) else if at_ = l.length then ([], 0, 3) else
  match first (l.drop at_.toNat) with
  | none => ([], 0, 4)
  | some (body, r) => (body, at_ + (put body).length, 0)
/-- what the first ten bytes say of a number is what all say -/
theorem intS_ten (l : List UInt8) : (Wire.intS (some (l.take 10))).1 = (Wire.intS (some l)).1 ∧ ((Wire.intS (some (l.take 10))).2.isSome = (Wire.intS (some l)).2.isSome) := by
  cases hI : Wire.intS (some l) with
  | mk v o =>
    cases o with
    | some r =>
      obtain ⟨e, h1, h2⟩ := Wire.intS_back hI
      have hl := (Wire.int_len v).2
      have e2 : l.take 10 = Wire.int v ++ r.take (10 - (Wire.int v).length) := by rw [e, List.take_append, List.take_of_length_le hl]
      rw [e2, Wire.intS_int ⟨h1, h2⟩]
      exact ⟨rfl, rfl⟩
    | none =>
      have hv := Wire.intS_bad hI
      cases hJ : Wire.intS (some (l.take 10)) with
      | mk v' o' =>
        cases o' with
        | none => exact ⟨by rw [hv, Wire.intS_bad hJ], rfl⟩
        | some r =>
          exfalso
          obtain ⟨e, h1, h2⟩ := Wire.intS_back hJ
          have e2 : l = Wire.int v' ++ (r ++ l.drop 10) := by rw [← List.append_assoc, ← e, List.take_append_drop]
          rw [e2, Wire.intS_int ⟨h1, h2⟩] at hI
          cases hI
end Go.Proofs.Ytbfboglcdgeheaa.Frame
