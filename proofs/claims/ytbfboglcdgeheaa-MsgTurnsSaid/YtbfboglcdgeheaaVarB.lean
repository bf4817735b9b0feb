/- Whole numbers as bytes: more plain laws. No condition. -/
import Derived.Test.YtbfboglcdgeheaaVar
namespace Go.Proofs.Ytbfboglcdgeheaa.Wire
set_option linter.unusedVariables false
theorem var_mono : ∀ (f u u' : Nat), u ≤ u' → (var f u).length ≤ (var f u').length
  | 0, _, _, _ => by simp [var]
  | f + 1, u, u', h => by
    unfold var
    by_cases h1 : u < 128
    · rw [if_pos h1]
      have := var_pos (f + 1) u'
      unfold var at this
      simpa using this
    · rw [if_neg h1, if_neg (by omega)]
      have := var_mono f (u / 128) (u' / 128) (by omega)
      simpa using this
theorem zz_mono {a b : Int} (h : (0 ≤ a ∧ a ≤ b) ∨ (a < 0 ∧ b ≤ a)) : zz a ≤ zz b := by unfold zz; split <;> split <;> omega
theorem int_mono {a b : Int} (h : (0 ≤ a ∧ a ≤ b) ∨ (a < 0 ∧ b ≤ a)) : (int a).length ≤ (int b).length := var_mono _ _ _ (zz_mono h)
theorem int_one (a : Int) : (int a).length = 1 ↔ -64 ≤ a ∧ a < 64 := by
  have hz : zz a < 128 ↔ -64 ≤ a ∧ a < 64 := by unfold zz; split <;> omega
  rw [← hz]
  unfold int var
  split
  · rename_i h
    exact ⟨fun _ => h, fun _ => rfl⟩
  · rename_i h
    have := var_pos 8 (zz a / 128)
    simp
    constructor
    · intro h'; rw [h'] at this; simp at this
    · intro h'; omega
theorem intS_back {l r : List UInt8} {v : Int} (h : intS (some l) = (v, some r)) : l = int v ++ r ∧ -9223372036854775808 ≤ v ∧ v ≤ 9223372036854775807 := by
  unfold intS at h
  simp only at h
  split at h
  · simp at h
  · rename_i v' r' hg
    simp only [Prod.mk.injEq, Option.some.injEq] at h
    obtain ⟨rfl, rfl⟩ := h
    exact getInt_back hg
theorem intS_bad {s : Option (List UInt8)} {v : Int} (h : intS s = (v, none)) : v = 0 := by
  unfold intS at h
  split at h
  · simp at h; exact h.symm
  · split at h <;> simp at h
    exact h.symm
theorem countS_back {most v : Int} {s : Option (List UInt8)} {r : List UInt8} (h : countS most s = (v, some r)) : intS s = (v, some r) ∧ 0 ≤ v ∧ v ≤ most ∧ v ≤ (r.length : Int) := by
  unfold countS at h
  split at h
  · simp at h
  · rename_i v' r' hi
    split at h
    · simp at h
    · rename_i hc
      simp only [Prod.mk.injEq, Option.some.injEq] at h
      obtain ⟨rfl, rfl⟩ := h
      exact ⟨hi, by omega, by omega, by omega⟩
theorem textS_back {most : Int} {l t r : List UInt8} (h : textS most (some l) = (t, some r)) : l = text t ++ r ∧ (t.length : Int) ≤ most := by
  unfold textS at h
  split at h
  · simp at h
  · rename_i v r' hc
    obtain ⟨hi, h0, hm, hr⟩ := countS_back hc
    simp only [Prod.mk.injEq, Option.some.injEq] at h
    obtain ⟨rfl, rfl⟩ := h
    obtain ⟨e, _⟩ := intS_back hi
    have hl : ((r'.take v.toNat).length : Int) = v := by rw [List.length_take]; omega
    refine ⟨?_, by omega⟩
    unfold text
    rw [hl, List.append_assoc, List.take_append_drop]
    exact e
theorem textS_bad {most : Int} {s : Option (List UInt8)} {t : List UInt8} (h : textS most s = (t, none)) : t = [] := by
  unfold textS at h
  split at h <;> simp at h
  exact h
theorem intS_int {v : Int} (h : -9223372036854775808 ≤ v ∧ v ≤ 9223372036854775807) (r : List UInt8) : intS (some (int v ++ r)) = (v, some r) := by
  simp [intS, getInt_int h]
theorem countS_int {most v : Int} (h : -9223372036854775808 ≤ v ∧ v ≤ 9223372036854775807) (r : List UInt8) : countS most (some (int v ++ r)) = if v < 0 ∨ most < v ∨ (r.length : Int) < v then (0, none) else (v, some r) := by
  simp [countS, intS_int h]
theorem textS_text {most : Int} (t r : List UInt8) (ht : t.length ≤ 9223372036854775807) (hm : (t.length : Int) ≤ most) : textS most (some (text t ++ r)) = (t, some r) := by
  have hc : countS most (some (text t ++ r)) = ((t.length : Int), some (t ++ r)) := by
    unfold text
    rw [List.append_assoc, countS_int ⟨by omega, by omega⟩, if_neg (by simp; omega)]
  unfold textS
  rw [hc]
  simp
theorem textS_more {most : Int} (t r : List UInt8) (ht : t.length ≤ 9223372036854775807) (hm : ¬ (t.length : Int) ≤ most) : textS most (some (text t ++ r)) = ([], none) := by
  have hc : countS most (some (text t ++ r)) = (0, none) := by
    unfold text
    rw [List.append_assoc, countS_int ⟨by omega, by omega⟩, if_pos (by omega)]
  unfold textS
  rw [hc]
/-- without its last byte nothing is read -/
theorem dec_short : ∀ (f : Nat) (first : Bool) (u : Nat) (x : List UInt8), (var f u).dropLast = x → dec f first x = none
  | 0, _, u, x, h => by subst h; simp [var, dec]
  | f + 1, first, u, x, h => by
    subst h
    unfold var
    split
    · simp [dec]
    · rename_i hu
      have hne : var f (u / 128) ≠ [] := by have := var_pos f (u / 128); intro h; rw [h] at this; simp at this
      rw [List.dropLast_cons_of_ne_nil hne]
      simp only [dec]
      split
      · rfl
      · split
        · rename_i h2
          have : (UInt8.ofNat (u % 128 + 128)).toNat = u % 128 + 128 := ofNat_toNat (by omega)
          omega
        · rw [dec_short f false (u / 128) _ rfl]; rfl
theorem intS_short (v : Int) : intS (some (int v).dropLast) = (0, none) := intS_none (dec_short 9 true (zz v) _ rfl)
end Go.Proofs.Ytbfboglcdgeheaa.Wire
