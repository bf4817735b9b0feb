/- Whole numbers as bytes: the plain functions. No condition. -/
import Derived.KernelRfl
namespace Go.Proofs.YtajheglnhfjodaaDoor.Wire
set_option linter.unusedVariables false

/-- a number in groups of seven bits -/
def var : Nat → Nat → List UInt8
  | 0, u => [UInt8.ofNat u]
  | f + 1, u => if u < 128 then [UInt8.ofNat u] else UInt8.ofNat (u % 128 + 128) :: var f (u / 128)
/-- the sign below -/
def zz (v : Int) : Nat := if 0 ≤ v then (2 * v).toNat else (-2 * v - 1).toNat
def int (v : Int) : List UInt8 := var 9 (zz v)
def bool (t : Bool) : List UInt8 := [if t then 1 else 0]
def text (s : List UInt8) : List UInt8 := int s.length ++ s

theorem zz_lt {v : Int} (h : -9223372036854775808 ≤ v ∧ v ≤ 9223372036854775807) : zz v < 18446744073709551616 := by unfold zz; split <;> omega
theorem var_pos : ∀ (f u : Nat), 1 ≤ (var f u).length
  | 0, _ => by simp [var]
  | f + 1, u => by unfold var; split <;> simp
theorem var_le : ∀ (f u : Nat), (var f u).length ≤ f + 1
  | 0, _ => by simp [var]
  | f + 1, u => by
    unfold var
    split
    · simp
    · have := var_le f (u / 128); simp; omega
/-- what groups of seven bits say: the number, and what is left -/
def dec : Nat → Bool → List UInt8 → Option (Nat × List UInt8)
  | _, _, [] => none
  | 0, first, x :: r => if 1 < x.toNat ∨ (first = false ∧ x.toNat = 0) then none else some (x.toNat, r)
  | f + 1, first, x :: r => if first = false ∧ x.toNat = 0 then none else if x.toNat < 128 then some (x.toNat, r) else (dec f false r).map fun p => (x.toNat - 128 + 128 * p.1, p.2)
def uz (u : Nat) : Int := if u % 2 = 1 then -((u / 2 : Nat) : Int) - 1 else ((u / 2 : Nat) : Int)
/-- the number at the head of bytes, and what is left -/
def getInt (l : List UInt8) : Option (Int × List UInt8) := (dec 9 true l).map fun p => (uz p.1, p.2)

theorem uz_zz (v : Int) : uz (zz v) = v := by unfold uz zz; split <;> split <;> omega
theorem zz_uz (u : Nat) : zz (uz u) = u := by unfold uz zz; split <;> split <;> omega
theorem ofNat_toNat {u : Nat} (h : u < 256) : (UInt8.ofNat u).toNat = u := by rw [UInt8.toNat_ofNat']; omega
theorem dec_var : ∀ (f : Nat) (first : Bool) (u : Nat) (r : List UInt8), u < 2 * 128 ^ f → (first = true ∨ u ≠ 0) → dec f first (var f u ++ r) = some (u, r)
  | 0, first, u, r, h, h0 => by
    simp only [var, List.cons_append, List.nil_append, dec]
    rw [ofNat_toNat (by omega), if_neg]
    rintro (h1 | ⟨h1, h2⟩)
    · omega
    · rcases h0 with h0 | h0
      · rw [h0] at h1; cases h1
      · exact h0 h2
  | f + 1, first, u, r, h, h0 => by
    have hne : ¬ (first = false ∧ u = 0) := by
      rintro ⟨h1, h2⟩
      rcases h0 with h0 | h0
      · rw [h0] at h1; cases h1
      · exact h0 h2
    unfold var
    by_cases hu : u < 128
    · rw [if_pos hu]
      simp only [List.cons_append, List.nil_append, dec]
      rw [ofNat_toNat (by omega), if_neg hne, if_pos hu]
    · rw [if_neg hu]
      simp only [List.cons_append, dec]
      rw [ofNat_toNat (by omega), if_neg (by omega), if_neg (by omega), dec_var f false (u / 128) r (by rw [Nat.pow_succ] at h; omega) (.inr (by omega))]
      simp
      omega
theorem var_dec : ∀ (f : Nat) (first : Bool) (l : List UInt8) (u : Nat) (r : List UInt8), dec f first l = some (u, r) → l = var f u ++ r ∧ u < 2 * 128 ^ f ∧ (first = true ∨ u ≠ 0)
  | f, first, [], u, r, h => by cases f <;> simp [dec] at h
  | 0, first, x :: l, u, r, h => by
    simp only [dec] at h
    split at h
    · cases h
    · rename_i hc
      simp only [Option.some.injEq, Prod.mk.injEq] at h
      obtain ⟨rfl, rfl⟩ := h
      have hc' : ¬ 1 < x.toNat := fun k => hc (.inl k)
      refine ⟨by simp [var], by omega, ?_⟩
      cases first
      · exact .inr fun k => hc (.inr ⟨rfl, k⟩)
      · exact .inl rfl
  | f + 1, first, x :: l, u, r, h => by
    have hx := x.toNat_lt
    simp only [dec] at h
    split at h
    · cases h
    · rename_i hc
      split at h
      · rename_i h1
        simp only [Option.some.injEq, Prod.mk.injEq] at h
        obtain ⟨rfl, rfl⟩ := h
        refine ⟨by simp [var, h1], by have : 0 < 128 ^ f := Nat.pow_pos (by omega); rw [Nat.pow_succ]; omega, ?_⟩
        cases first
        · exact .inr fun k => hc ⟨rfl, k⟩
        · exact .inl rfl
      · rename_i h1
        obtain ⟨⟨u', r'⟩, hd, he⟩ := Option.map_eq_some_iff.1 h
        simp only [Prod.mk.injEq] at he
        obtain ⟨rfl, rfl⟩ := he
        obtain ⟨e1, e2, e3⟩ := var_dec f false l u' r' hd
        have e4 : u' ≠ 0 := by rcases e3 with e3 | e3; cases e3; exact e3
        refine ⟨?_, by rw [Nat.pow_succ]; omega, .inr (by omega)⟩
        unfold var
        rw [if_neg (by omega), show (x.toNat - 128 + 128 * u') % 128 + 128 = x.toNat from by omega, show (x.toNat - 128 + 128 * u') / 128 = u' from by omega]
        simp [e1]
theorem getInt_int {v : Int} (h : -9223372036854775808 ≤ v ∧ v ≤ 9223372036854775807) (r : List UInt8) : getInt (int v ++ r) = some (v, r) := by
  unfold getInt int
  rw [dec_var 9 true (zz v) r (by have := zz_lt h; omega) (.inl rfl)]
  simp [uz_zz]
theorem uz_range {u : Nat} (h : u < 18446744073709551616) : -9223372036854775808 ≤ uz u ∧ uz u ≤ 9223372036854775807 := by unfold uz; split <;> omega
theorem getInt_back {l r : List UInt8} {v : Int} (h : getInt l = some (v, r)) : l = int v ++ r ∧ -9223372036854775808 ≤ v ∧ v ≤ 9223372036854775807 := by
  unfold getInt at h
  obtain ⟨⟨u, r'⟩, hd, he⟩ := Option.map_eq_some_iff.1 h
  simp only [Prod.mk.injEq] at he
  obtain ⟨rfl, rfl⟩ := he
  obtain ⟨e1, e2, _⟩ := var_dec 9 true l u r' hd
  refine ⟨?_, uz_range (by omega)⟩
  unfold int
  rw [zz_uz]
  exact e1
/-- a Reader's state: what is left, or nothing: it isn't Ok -/
def intS : Option (List UInt8) → Int × Option (List UInt8)
  | none => (0, none)
  | some l => match getInt l with
    | none => (0, none)
    | some (v, r) => (v, some r)
def leftS : Option (List UInt8) → Nat
  | none => 0
  | some l => l.length
def endS : Option (List UInt8) → Bool
  | none => false
  | some l => decide (l.length = 0)
def boolS : Option (List UInt8) → Bool × Option (List UInt8)
  | none => (false, none)
  | some [] => (false, none)
  | some (x :: r) => if 1 < x.toNat then (false, none) else (decide (x.toNat = 1), some r)
def countS (most : Int) (s : Option (List UInt8)) : Int × Option (List UInt8) :=
  match intS s with
  | (_, none) => (0, none)
  | (v, some r) => if v < 0 ∨ most < v ∨ (r.length : Int) < v then (0, none) else (v, some r)
def textS (most : Int) (s : Option (List UInt8)) : List UInt8 × Option (List UInt8) :=
  match countS most s with
  | (_, none) => ([], none)
  | (v, some r) => (r.take v.toNat, some (r.drop v.toNat))
def okS : Option (List UInt8) → Bool
  | none => false
  | some _ => true
theorem countS_range {most v : Int} {s : Option (List UInt8)} {r : List UInt8} (h : countS most s = (v, some r)) : 0 ≤ v ∧ v ≤ (r.length : Int) := by
  unfold countS at h
  split at h
  · cases h
  · split at h
    · cases h
    · rename_i hc
      simp only [Prod.mk.injEq, Option.some.injEq] at h
      obtain ⟨rfl, rfl⟩ := h
      omega
theorem intS_none {l : List UInt8} (h : dec 9 true l = none) : intS (some l) = (0, none) := by simp [intS, getInt, h]
theorem intS_some {l r : List UInt8} {u : Nat} (h : dec 9 true l = some (u, r)) : intS (some l) = (uz u, some r) := by simp [intS, getInt, h]
theorem dec_stop {f : Nat} {first : Bool} {x : UInt8} {r : List UInt8} (h : (f = 0 ∧ 1 < x.toNat) ∨ (first = false ∧ x.toNat = 0)) : dec f first (x :: r) = none := by
  cases f with
  | zero =>
    simp only [dec]
    rw [if_pos]
    rcases h with ⟨_, h⟩ | h
    · exact .inl h
    · exact .inr h
  | succ f =>
    simp only [dec]
    rw [if_pos]
    rcases h with ⟨h, _⟩ | h
    · cases h
    · exact h
theorem dec_end {f : Nat} {first : Bool} {x : UInt8} {r : List UInt8} (h1 : f = 0 → x.toNat ≤ 1) (h2 : first = false → x.toNat ≠ 0) (h3 : x.toNat < 128) : dec f first (x :: r) = some (x.toNat, r) := by
  cases f with
  | zero =>
    simp only [dec]
    rw [if_neg]
    rintro (h | ⟨ha, hb⟩)
    · have := h1 rfl; omega
    · exact h2 ha hb
  | succ f =>
    simp only [dec]
    rw [if_neg (fun h => h2 h.1 h.2), if_pos h3]
theorem dec_more {f : Nat} {first : Bool} {x : UInt8} {r : List UInt8} (h3 : 128 ≤ x.toNat) : dec (f + 1) first (x :: r) = (dec f false r).map fun p => (x.toNat - 128 + 128 * p.1, p.2) := by
  simp only [dec]
  rw [if_neg (by omega), if_neg (by omega)]
theorem int_len (v : Int) : 1 ≤ (int v).length ∧ (int v).length ≤ 10 := ⟨var_pos _ _, var_le _ _⟩
end Go.Proofs.YtajheglnhfjodaaDoor.Wire
