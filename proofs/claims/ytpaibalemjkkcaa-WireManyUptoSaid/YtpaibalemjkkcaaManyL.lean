/- Numbers, texts and truths, one behind the other: the bytes. No condition. -/
import Derived.Test.YtpaibalemjkkcaaVarB
import Derived.Test.YtpaibalemjkkcaaIn
namespace Go.Proofs.Ytpaibalemjkkcaa.Wire
set_option linter.unusedVariables false

def oi : Option Int → List UInt8 | some v => int v | none => []
def os : Option ByteArray → List UInt8 | some v => text v.data.toList | none => []
def ob : Option Bool → List UInt8 | some v => bool v | none => []
def oz : Option ByteArray → Nat | some v => v.size | none => 0
section
variable (l : List Int) (s : List ByteArray) (t : List Bool)
def made : Nat → List UInt8
  | 0 => []
  | j + 1 => made j ++ oi l[j]? ++ os s[j]? ++ ob t[j]?
/-- d pieces from j on, and r behind them -/
def after : Nat → Nat → List UInt8
  | 0, _ => []
  | d + 1, j => oi l[j]? ++ (os s[j]? ++ (ob t[j]? ++ after d (j + 1)))
theorem made_after : ∀ (d j : Nat), made l s t j ++ after l s t d j = made l s t (j + d)
  | 0, j => by simp [after]
  | d + 1, j => by
    rw [show j + (d + 1) = (j + 1) + d by omega, ← made_after d (j + 1)]
    simp [after, made, List.append_assoc]
theorem made_all (d : Nat) : made l s t d = after l s t d 0 := by
  have := made_after l s t d 0
  simpa [made] using this.symm
end
theorem strs_take : ∀ (s : List ByteArray) (j : Nat), strsSize (s.take (j + 1)) = strsSize (s.take j) + oz s[j]?
  | [], j => by simp [strsSize, oz]
  | x :: r, 0 => by simp [strsSize, oz]
  | x :: r, j + 1 => by simp only [List.take_succ_cons, strsSize, List.getElem?_cons_succ]; rw [strs_take r j]; omega
theorem strs_le : ∀ (s : List ByteArray) (j : Nat), strsSize (s.take j) ≤ strsSize s
  | [], j => by simp [strsSize]
  | x :: r, 0 => by simp [strsSize]
  | x :: r, j + 1 => by simp only [List.take_succ_cons, strsSize]; have := strs_le r j; omega
theorem oi_len (o : Option Int) : (oi o).length ≤ 10 := by cases o with | none => simp [oi] | some v => exact (int_len v).2
theorem os_len (o : Option ByteArray) : (os o).length ≤ 10 + oz o := by
  cases o with
  | none => simp [os]
  | some v =>
    unfold os oz text
    simp only [List.length_append]
    have := int_len (v.data.toList.length : Int)
    have e : v.data.toList.length = v.size := by rw [Array.length_toList]; rfl
    omega
theorem ob_len (o : Option Bool) : (ob o).length ≤ 1 := by cases o with | none => simp [ob] | some v => simp [ob, bool]
theorem size_get {s : List ByteArray} {j : Nat} {x : ByteArray} (h : s[j]? = some x) : strsSize (s.take j) + x.size ≤ strsSize s := by
  have e := strs_take s j
  rw [h] at e
  have := strs_le s (j + 1)
  simp [oz] at e
  omega
theorem after_nil (l : List Int) (s : List ByteArray) (t : List Bool) : ∀ (d j : Nat), l.length ≤ j → s.length ≤ j → t.length ≤ j → after l s t d j = []
  | 0, j, _, _, _ => rfl
  | d + 1, j, h1, h2, h3 => by
    unfold after
    rw [List.getElem?_eq_none h1, List.getElem?_eq_none h2, List.getElem?_eq_none h3, after_nil l s t d (j + 1) (by omega) (by omega) (by omega)]
    rfl
theorem after_succ (l : List Int) (s : List ByteArray) (t : List Bool) (d j : Nat) : after l s t (d + 1) j = oi l[j]? ++ (os s[j]? ++ (ob t[j]? ++ after l s t d (j + 1))) := rfl
theorem many_step (l : List Int) (s : List ByteArray) (t : List Bool) (hv : ∀ x ∈ l, -9223372036854775808 ≤ x ∧ x ≤ 9223372036854775807) (hz : ∀ x ∈ s, x.size ≤ 9223372036854775807) (d j : Nat) :
    ∃ P1 P2, (∀ x, l[j]? = some x → intS (some (after l s t (d + 1) j)) = (x, some P1)) ∧ (l[j]? = none → after l s t (d + 1) j = P1) ∧
      (∀ x : ByteArray, s[j]? = some x → textS (x.size : Int) (some P1) = (x.data.toList, some P2)) ∧ (s[j]? = none → P1 = P2) ∧
      (∀ x, t[j]? = some x → boolS (some P2) = (x, some (after l s t d (j + 1)))) ∧ (t[j]? = none → P2 = after l s t d (j + 1)) := by
  refine ⟨os s[j]? ++ (ob t[j]? ++ after l s t d (j + 1)), ob t[j]? ++ after l s t d (j + 1), fun x hx => ?_, fun h => ?_, fun x hx => ?_, fun h => ?_, fun x hx => ?_, fun h => ?_⟩
  · rw [after_succ, hx]
    exact intS_int (hv x (List.mem_of_getElem? hx)) _
  · rw [after_succ, h]
    rfl
  · rw [hx]
    have e : x.data.toList.length = x.size := by rw [Array.length_toList]; rfl
    have := hz x (List.mem_of_getElem? hx)
    have := textS_text (most := (x.size : Int)) x.data.toList (ob t[j]? ++ after l s t d (j + 1)) (by omega) (by omega)
    exact this
  · rw [h]; rfl
  · rw [hx]
    cases x <;> rfl
  · rw [h]; rfl
end Go.Proofs.Ytpaibalemjkkcaa.Wire
