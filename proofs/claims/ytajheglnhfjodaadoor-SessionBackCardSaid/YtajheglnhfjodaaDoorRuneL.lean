/- Texts as runes: the plain law. No condition. -/
import Derived.Lib.MapLaws
import Derived.Lib.ValidLaws
import Derived.Lib.RuneCount
namespace Go.Proofs.YtajheglnhfjodaaDoor.Rn
set_option linter.unusedVariables false
open Go.Lib (decodeL encodeRune encodeRuneZ decodeN decodeL_N encode_decode decodeL_le decodeL_width decodeL_rune)

abbrev Pc := Nat × List UInt8
def psN : Nat → List UInt8 → List Pc
  | 0, _ => []
  | n + 1, l => if l = [] then [] else ((decodeL l).1, l.take (decodeL l).2) :: psN n (l.drop (decodeL l).2)
def ps (l : List UInt8) : List Pc := psN l.length l
def flat (p : List Pc) : List UInt8 := p.flatMap (·.2)
def bad (p : Pc) : Bool := p.1 == 65533 && p.2.length == 1

theorem psN_fuel : ∀ (n m : Nat) (l : List UInt8), l.length ≤ n → l.length ≤ m → psN n l = psN m l
  | 0, m, l, h, _ => by
    have : l = [] := List.eq_nil_of_length_eq_zero (by omega)
    subst this
    cases m <;> simp [psN]
  | n + 1, 0, l, _, h => by
    have : l = [] := List.eq_nil_of_length_eq_zero (by omega)
    subst this
    simp [psN]
  | n + 1, m + 1, l, h, k => by
    have hw := decodeL_width l
    unfold psN
    split
    · rfl
    · rw [psN_fuel n m _ (by rw [List.length_drop]; omega) (by rw [List.length_drop]; omega)]
theorem ps_nil : ps [] = [] := rfl
theorem ps_step {l : List UInt8} (h : l ≠ []) : ps l = ((decodeL l).1, l.take (decodeL l).2) :: ps (l.drop (decodeL l).2) := by
  have hl : 0 < l.length := List.length_pos_iff.2 h
  have hw := decodeL_width l
  have e : l.length = (l.length - 1) + 1 := by omega
  unfold ps
  rw [e, psN, if_neg h]
  congr 1
  exact psN_fuel _ _ _ (by rw [List.length_drop]; omega) (Nat.le_refl _)
/-- by the pieces -/
theorem ps_ind {M : List UInt8 → Prop} (h0 : M []) (h1 : ∀ l, l ≠ [] → M (l.drop (decodeL l).2) → M l) : ∀ l, M l := by
  intro l
  induction hn : l.length using Nat.strongRecOn generalizing l with
  | _ n ih =>
    by_cases h : l = []
    · subst h; exact h0
    · have hl : 0 < l.length := List.length_pos_iff.2 h
      have hw := decodeL_width l
      exact h1 l h (ih _ (by rw [List.length_drop]; omega) _ rfl)
theorem flat_ps : ∀ l, flat (ps l) = l := by
  apply ps_ind
  · rfl
  · intro l h ih
    rw [ps_step h]
    show l.take _ ++ flat (ps _) = l
    rw [ih, List.take_append_drop]
theorem flat_append (a b : List Pc) : flat (a ++ b) = flat a ++ flat b := by simp [flat]
theorem flat_cons (p : Pc) (b : List Pc) : flat (p :: b) = p.2 ++ flat b := rfl
/-- what a piece is -/
theorem ps_piece : ∀ (l : List UInt8) (p : Pc), p ∈ ps l → 1 ≤ p.2.length ∧ p.1 ≤ 1114111 ∧ (bad p = true ∨ p.2 = encodeRune (p.1 : Int)) := by
  apply ps_ind (M := fun l => ∀ p : Pc, p ∈ ps l → 1 ≤ p.2.length ∧ p.1 ≤ 1114111 ∧ (bad p = true ∨ p.2 = encodeRune (p.1 : Int)))
  · intro p h; cases h
  · intro l h ih p hp
    rw [ps_step h, List.mem_cons] at hp
    rcases hp with rfl | hp
    · have hle := decodeL_le l h
      have hw := decodeL_width l
      refine ⟨by simp only [List.length_take]; omega, decodeL_rune l, ?_⟩
      by_cases hb : (decodeL l).1 = 65533 ∧ (decodeL l).2 = 1
      · left
        simp only [bad, List.length_take, Bool.and_eq_true, beq_iff_eq]
        exact ⟨hb.1, by omega⟩
      · right
        exact (encode_decode l h hb).symm
    · exact ih p hp
/-- where the k-th piece begins -/
def off (l : List UInt8) (k : Nat) : Nat := (flat ((ps l).take k)).length
theorem off_zero (l : List UInt8) : off l 0 = 0 := by simp [off, flat]
theorem off_succ {l : List UInt8} {k : Nat} {p : Pc} (h : (ps l)[k]? = some p) : off l (k + 1) = off l k + p.2.length := by
  unfold off
  rw [List.take_add_one, h, flat_append, List.length_append]
  simp [flat]
theorem off_end {l : List UInt8} {k : Nat} (h : (ps l).length ≤ k) : off l k = l.length := by
  unfold off
  rw [List.take_of_length_le h, flat_ps]
theorem off_le (l : List UInt8) (k : Nat) : off l k ≤ l.length := by
  have h := congrArg List.length (flat_ps l)
  rw [← List.take_append_drop k (ps l), flat_append, List.length_append] at h
  unfold off; omega
theorem take_off (l : List UInt8) (k : Nat) : l.take (off l k) = flat ((ps l).take k) := by
  have h := flat_ps l
  rw [← List.take_append_drop k (ps l), flat_append] at h
  have e := congrArg (List.take (flat ((ps l).take k)).length) h
  rw [List.take_left' rfl] at e
  exact e.symm
theorem drop_off (l : List UInt8) (k : Nat) : l.drop (off l k) = flat ((ps l).drop k) := by
  have h := flat_ps l
  rw [← List.take_append_drop k (ps l), flat_append] at h
  have e := congrArg (List.drop (flat ((ps l).take k)).length) h
  rw [List.drop_left' rfl] at e
  exact e.symm
theorem ps_drop (l : List UInt8) : ∀ k, ps (l.drop (off l k)) = (ps l).drop k
  | 0 => by rw [off_zero]; rfl
  | k + 1 => by
    have ih := ps_drop l k
    by_cases hk : k < (ps l).length
    · have h1 : (ps l)[k]? = some (ps l)[k] := List.getElem?_eq_getElem hk
      have hne : l.drop (off l k) ≠ [] := by
        intro e
        rw [e, ps_nil] at ih
        have := congrArg List.length ih
        rw [List.length_drop] at this
        simp at this; omega
      have h2 := ps_step hne
      rw [ih, List.drop_eq_getElem_cons hk] at h2
      injection h2 with h3 h4
      rw [off_succ h1, ← List.drop_drop, h3]
      simp only [List.length_take]
      have hle := decodeL_le _ hne
      rw [Nat.min_eq_left hle]
      exact h4.symm
    · rw [off_end (by omega), List.drop_length, List.drop_eq_nil_of_le (by omega)]; rfl
theorem off_lt {l : List UInt8} {k : Nat} (h : k < (ps l).length) : off l k < l.length := by
  have h1 : (ps l)[k]? = some (ps l)[k] := List.getElem?_eq_getElem h
  have h2 := (ps_piece l _ (List.getElem_mem h)).1
  have h3 := off_succ h1
  have h4 := off_le l (k + 1)
  omega
theorem ps_get {l : List UInt8} {k : Nat} (h : k < (ps l).length) : (ps l)[k]? = some ((decodeL (l.drop (off l k))).1, (l.drop (off l k)).take (decodeL (l.drop (off l k))).2) := by
  have hlt := off_lt h
  have hne : l.drop (off l k) ≠ [] := fun e => by have := congrArg List.length e; simp at this; omega
  have e := ps_drop l k
  rw [ps_step hne, List.drop_eq_getElem_cons h] at e
  injection e with e1 e2
  rw [List.getElem?_eq_getElem h, e1]
theorem off_next {l : List UInt8} {k : Nat} (h : k < (ps l).length) : off l (k + 1) = off l k + (decodeL (l.drop (off l k))).2 := by
  have hlt := off_lt h
  have hne : l.drop (off l k) ≠ [] := fun e => by have := congrArg List.length e; simp at this; omega
  rw [off_succ (ps_get h), List.length_take, Nat.min_eq_left (decodeL_le _ hne)]
theorem off_len {l : List UInt8} {k : Nat} (h : k ≤ (ps l).length) : k ≤ off l k := by
  induction k with
  | zero => omega
  | succ k ih =>
    have h1 : (ps l)[k]? = some (ps l)[k] := List.getElem?_eq_getElem (by omega)
    have h2 := (ps_piece l _ (List.getElem_mem (by omega : k < (ps l).length))).1
    rw [off_succ h1]
    have := ih (by omega)
    omega
theorem ps_len (l : List UInt8) : (ps l).length ≤ l.length := by
  have := off_len (l := l) (Nat.le_refl _)
  rwa [off_end (Nat.le_refl _)] at this
theorem off_mono {l : List UInt8} {j k : Nat} (h : j < k) (hk : k ≤ (ps l).length) : off l j < off l k := by
  induction k with
  | zero => omega
  | succ k ih =>
    have h1 : (ps l)[k]? = some (ps l)[k] := List.getElem?_eq_getElem (by omega)
    have h2 := (ps_piece l _ (List.getElem_mem (by omega : k < (ps l).length))).1
    rw [off_succ h1]
    by_cases e : j = k
    · subst e; omega
    · have := ih (by omega) (by omega); omega
theorem off_inj {l : List UInt8} {j k : Nat} (hj : j ≤ (ps l).length) (hk : k ≤ (ps l).length) (e : off l j = off l k) : j = k := by
  rcases Nat.lt_trichotomy j k with h | h | h
  · have := off_mono h hk; omega
  · exact h
  · have := off_mono h hj; omega

/-! ### what is valid -/
theorem valid_ps : ∀ l, Go.Lib.validD l = (ps l).all (fun p => !bad p) := by
  apply ps_ind (M := fun l => Go.Lib.validD l = (ps l).all (fun p => !bad p))
  · rfl
  · intro l h ih
    rw [Go.Lib.validD_step l h, ps_step h, List.all_cons]
    have hle := decodeL_le l h
    have hw := decodeL_width l
    by_cases hb : (decodeL l).1 = 65533 ∧ (decodeL l).2 = 1
    · rw [if_pos hb]
      have : bad ((decodeL l).1, l.take (decodeL l).2) = true := by
        simp only [bad, List.length_take, Bool.and_eq_true, beq_iff_eq]
        exact ⟨hb.1, by omega⟩
      rw [this]; rfl
    · rw [if_neg hb, ih]
      have : bad ((decodeL l).1, l.take (decodeL l).2) = false := by
        simp only [bad, List.length_take, Bool.and_eq_false_iff, beq_eq_false_iff_ne]
        by_cases h1 : (decodeL l).1 = 65533
        · right; intro h2; exact hb ⟨h1, by omega⟩
        · left; exact h1
      rw [this]; rfl
theorem count_ps (s : ByteArray) : Go.Lib.runeCount s = (ps s.data.toList).length := by
  have key : ∀ (f k : Nat), k ≤ (ps s.data.toList).length → (ps s.data.toList).length ≤ k + f → Go.Lib.runeCountFrom s f (off s.data.toList k) = (ps s.data.toList).length - k := by
    intro f
    induction f with
    | zero => intro k h1 h2; simp [Go.Lib.runeCountFrom]; omega
    | succ f ih =>
      intro k h1 h2
      unfold Go.Lib.runeCountFrom
      have hs : s.data.toList.length = s.size := by rw [Array.length_toList]; rfl
      by_cases hk : k < (ps s.data.toList).length
      · rw [if_pos (by have := off_lt hk; omega), ← Go.Lib.decodeL_drop, ← off_next hk, ih (k + 1) (by omega) (by omega)]
        omega
      · rw [if_neg (by rw [off_end (by omega)]; omega)]
        omega
  have := key s.size 0 (by omega) (by have := ps_len s.data.toList; have e : s.data.toList.length = s.size := (by rw [Array.length_toList]; rfl); omega)
  rw [off_zero] at this
  exact this

/-! ### a rune's bytes -/
def okR (r : Nat) : Prop := r < 55296 ∨ (57344 ≤ r ∧ r ≤ 1114111)
theorem dec_enc {r : Nat} (h : okR r) (t : List UInt8) : decodeL (encodeRune (r : Int) ++ t) = (r, (encodeRune (r : Int)).length) := by
  unfold okR at h
  rw [decodeL_N]
  unfold encodeRune
  by_cases h1 : r < 128
  · rw [Go.Lib.encodeRuneZ_one (by omega) (by omega)]
    simp [decodeN]
    rw [if_pos (by omega)]
    exact Prod.ext (by dsimp only; omega) rfl
  by_cases h2 : r < 2048
  · rw [Go.Lib.encodeRuneZ_two (by omega) (by omega)]
    simp [decodeN]
    rw [if_neg (by omega), if_pos (by omega), if_pos (by omega)]
    exact Prod.ext (by dsimp only; omega) rfl
  by_cases h3 : r < 65536
  · rw [Go.Lib.encodeRuneZ_three (by omega)]
    simp [decodeN]
    rw [if_neg (by omega), if_neg (by omega), if_pos (by omega), if_pos (by omega)]
    exact Prod.ext (by dsimp only; omega) rfl
  · rw [Go.Lib.encodeRuneZ_four (by omega) (by omega)]
    simp [decodeN]
    rw [if_neg (by omega), if_neg (by omega), if_neg (by omega), if_pos (by omega), if_pos (by omega)]
    exact Prod.ext (by dsimp only; omega) rfl
theorem enc_len (r : Int) : 1 ≤ (encodeRune r).length ∧ (encodeRune r).length ≤ 4 := by
  have := Go.Lib.encodeRuneZ_length r
  unfold encodeRune
  rw [List.length_map]
  exact this
theorem enc_err : (encodeRune ((65533 : Nat) : Int)).length = 3 := by decide
theorem enc_ne (r : Int) (t : List UInt8) : encodeRune r ++ t ≠ [] := fun e => by
  have h := congrArg List.length e
  rw [List.length_append, List.length_nil] at h
  have := (enc_len r).1
  omega
theorem ps_enc {r : Nat} (h : okR r) (t : List UInt8) : ps (encodeRune (r : Int) ++ t) = (r, encodeRune (r : Int)) :: ps t := by
  rw [ps_step (enc_ne _ _), dec_enc h t]
  simp only
  rw [List.take_left' rfl, List.drop_left' rfl]
theorem dec_ok (l : List UInt8) : okR (decodeL l).1 := by
  rw [decodeL_N]
  have k0 := (l.getD 0 0).toNat_lt
  have k1 := (l.getD 1 0).toNat_lt
  have k2 := (l.getD 2 0).toNat_lt
  have k3 := (l.getD 3 0).toNat_lt
  unfold okR
  rcases Go.Lib.decodeN_shape l.length (l.getD 0 0).toNat (l.getD 1 0).toNat (l.getD 2 0).toNat (l.getD 3 0).toNat with ⟨c, e⟩ | ⟨c1, c2, c3, cv, e⟩ | ⟨c1, c2, c3, c4, cv, cs, e⟩ | ⟨c1, c2, c3, c4, c5, cv, cw, e⟩ | e
  all_goals (rw [e]; dsimp only; omega)
/-- a piece that is a rune -/
def Gd (p : Pc) : Prop := okR p.1 ∧ p.2 = encodeRune (p.1 : Int)
theorem bad_enc {r : Nat} : bad (r, encodeRune (r : Int)) = false := by
  simp only [bad, Bool.and_eq_false_iff, beq_eq_false_iff_ne]
  by_cases h : r = 65533
  · right; rw [h, enc_err]; decide
  · left; exact h
theorem ps_ok : ∀ (l : List UInt8) (p : Pc), p ∈ ps l → okR p.1 := by
  apply ps_ind (M := fun l => ∀ p : Pc, p ∈ ps l → okR p.1)
  · intro p h; cases h
  · intro l h ih p hp
    rw [ps_step h, List.mem_cons] at hp
    rcases hp with rfl | hp
    · exact dec_ok l
    · exact ih p hp
theorem ps_gd {l : List UInt8} {p : Pc} (h : p ∈ ps l) (hb : bad p = false) : Gd p := ⟨ps_ok l p h, ((ps_piece l p h).2.2).resolve_left (by rw [hb]; decide)⟩
theorem bad_gd {p : Pc} (h : Gd p) : bad p = false := by
  obtain ⟨r, b⟩ := p
  obtain ⟨_, h2⟩ := h
  simp only at h2
  rw [h2]; exact bad_enc
theorem ps_flat : ∀ (L : List Pc) (t : List UInt8), (∀ p ∈ L, Gd p) → ps (flat L ++ t) = L ++ ps t
  | [], t, _ => rfl
  | p :: L, t, h => by
    obtain ⟨r, b⟩ := p
    obtain ⟨h1, h2⟩ := h (r, b) (by simp)
    simp only at h1 h2
    rw [flat_cons, List.append_assoc, h2, ps_enc h1, ps_flat L t fun p hp => h p (by simp [hp])]
    rfl
def Valid (l : List UInt8) : Prop := ∀ p ∈ ps l, bad p = false
theorem valid_iff (l : List UInt8) : Go.Lib.validD l = true ↔ Valid l := by
  rw [valid_ps, List.all_eq_true]
  exact ⟨fun h p hp => by have := h p hp; simpa using this, fun h p hp => by have := h p hp; simpa using this⟩
theorem ps_append {a : List UInt8} (h : Valid a) (b : List UInt8) : ps (a ++ b) = ps a ++ ps b := by
  conv => lhs; rw [← flat_ps a]
  exact ps_flat _ _ fun p hp => ps_gd hp (h p hp)
theorem dec_take {l : List UInt8} {m : Nat} (h : l ≠ []) (hm : (decodeL l).2 ≤ m) : decodeL (l.take m) = decodeL l := by
  have hw := decodeL_width l
  have hne : l.take m ≠ [] := by
    intro e
    have h1 := congrArg List.length e
    have h2 := List.length_pos_iff.2 h
    rw [List.length_take, List.length_nil] at h1
    omega
  by_cases hb : (decodeL l).1 = 65533 ∧ (decodeL l).2 = 1
  · by_cases hb2 : (decodeL (l.take m)).1 = 65533 ∧ (decodeL (l.take m)).2 = 1
    · exact Prod.ext (hb2.1.trans hb.1.symm) (hb2.2.trans hb.2.symm)
    · have e := encode_decode _ hne hb2
      have hl : l = encodeRune ((decodeL (l.take m)).1 : Int) ++ ((l.take m).drop (decodeL (l.take m)).2 ++ l.drop m) := by
        rw [e, ← List.append_assoc, List.take_append_drop, List.take_append_drop]
      have h1 := dec_enc (dec_ok (l.take m)) ((l.take m).drop (decodeL (l.take m)).2 ++ l.drop m)
      rw [← hl] at h1
      have h2 := congrArg Prod.fst h1
      have h3 := congrArg Prod.snd h1
      simp only at h2 h3
      rw [hb.1] at h2
      rw [← h2, enc_err, hb.2] at h3
      exact absurd h3 (by decide)
  · have e := encode_decode l h hb
    have h2 : l = encodeRune ((decodeL l).1 : Int) ++ l.drop (decodeL l).2 := by rw [e, List.take_append_drop]
    have h3 : l.take m = encodeRune ((decodeL l).1 : Int) ++ (l.drop (decodeL l).2).take (m - (decodeL l).2) := by
      rw [e]
      conv => lhs; rw [← List.take_append_drop (decodeL l).2 l]
      rw [List.take_append, List.take_take, List.length_take, Nat.min_eq_right hm, Nat.min_eq_left (decodeL_le l h)]
    rw [h3, dec_enc (dec_ok l)]
    conv => rhs; rw [h2, dec_enc (dec_ok l)]
theorem ps_take : ∀ (l : List UInt8) (k : Nat), ps (l.take (off l k)) = (ps l).take k := by
  apply ps_ind (M := fun l => ∀ k, ps (l.take (off l k)) = (ps l).take k)
  · intro k; simp [ps_nil]
  · intro l h ih k
    cases k with
    | zero => rw [off_zero]; rfl
    | succ k =>
      have hw := decodeL_width l
      have hle := decodeL_le l h
      have ho : off l (k + 1) = (decodeL l).2 + off (l.drop (decodeL l).2) k := by
        unfold off
        rw [ps_step h, List.take_succ_cons, flat_cons, List.length_append, List.length_take, Nat.min_eq_left hle]
      have hne : l.take (off l (k + 1)) ≠ [] := by
        intro e
        have h1 := congrArg List.length e
        have h2 := List.length_pos_iff.2 h
        rw [List.length_take, List.length_nil] at h1
        omega
      have hd := dec_take (m := off l (k + 1)) h (by omega)
      rw [ps_step hne, hd, ps_step h, List.take_succ_cons, List.take_take, Nat.min_eq_left (by omega), List.drop_take, ← ih k]
      congr 3
      omega

/-! ### classes, capitals -/
def cls (r : Int) : Int :=
  if 48 ≤ r ∧ r ≤ 57 then 2
  else if r = 9 ∨ r = 10 ∨ r = 13 ∨ r = 32 ∨ r = 160 ∨ r = 12288 then 3
  else if (97 ≤ r ∧ r ≤ 122) ∨ (65 ≤ r ∧ r ≤ 90) ∨ r = 95 ∨ r = 170 ∨ r = 181 ∨ r = 186 then 1
  else if 192 ≤ r ∧ r ≤ 591 ∧ r ≠ 215 ∧ r ≠ 247 then 1
  else if (913 ≤ r ∧ r ≤ 937 ∧ r ≠ 930) ∨ (945 ≤ r ∧ r ≤ 969) ∨ (1040 ≤ r ∧ r ≤ 1103) ∨ (19968 ≤ r ∧ r ≤ 40959) then 1
  else 0
def upr (r : Int) : Int :=
  if r = 962 then 931
  else if (97 ≤ r ∧ r ≤ 122) ∨ (224 ≤ r ∧ r ≤ 254 ∧ r ≠ 247) ∨ (945 ≤ r ∧ r ≤ 969) ∨ (1072 ≤ r ∧ r ≤ 1103) then r - 32
  else r
theorem upr_upr (r : Int) : upr (upr r) = upr r := by unfold upr; repeat' split
                                                      all_goals omega
theorem cls_upr (r : Int) : cls (upr r) = cls r := by
  unfold upr
  split
  · rename_i h; subst h; rfl
  split
  · unfold cls; repeat' split
    all_goals omega
  · rfl
theorem upr_le (r : Int) : upr r ≤ r ∧ r - 32 ≤ upr r := by unfold upr; repeat' split
                                                            all_goals omega
theorem upr_ok {r : Nat} (h : okR r) : ∃ q : Nat, upr (r : Int) = (q : Int) ∧ okR q := by
  unfold okR at *
  refine ⟨(upr r).toNat, ?_, ?_⟩ <;> unfold upr <;> repeat' split
  all_goals omega
/-- a piece's capital -/
def fp (p : Pc) : Pc := if bad p then p else ((upr (p.1 : Int)).toNat, encodeRune (upr (p.1 : Int)))
def fold (l : List UInt8) : List UInt8 := flat ((ps l).map fp)
def back (l : List UInt8) : List UInt8 := flat (ps l).reverse
theorem fp_bad {p : Pc} (h : bad p = true) : fp p = p := by unfold fp; rw [if_pos h]
theorem fp_gd {p : Pc} (h : Gd p) : Gd (fp p) := by
  unfold fp
  rw [bad_gd h]
  obtain ⟨q, hq, ho⟩ := upr_ok h.1
  simp only [Bool.false_eq_true, if_false, hq]
  exact ⟨ho, rfl⟩
theorem fp_fst (p : Pc) (h : bad p = true ∨ Gd p) : ((fp p).1 : Int) = upr (p.1 : Int) ∧ bad (fp p) = bad p := by
  rcases h with h | h
  · rw [fp_bad h]
    have h1 : p.1 = 65533 := by simp only [bad, Bool.and_eq_true, beq_iff_eq] at h; exact h.1
    rw [h1]; exact ⟨rfl, rfl⟩
  · have h2 := bad_gd (fp_gd h)
    rw [h2, bad_gd h]
    refine ⟨?_, rfl⟩
    unfold fp
    rw [bad_gd h]
    obtain ⟨q, hq, ho⟩ := upr_ok h.1
    simp [hq]
theorem fp_fp (p : Pc) (h : bad p = true ∨ Gd p) : fp (fp p) = fp p := by
  rcases h with h | h
  · rw [fp_bad h, fp_bad h]
  · have h2 := fp_gd h
    obtain ⟨h1, _⟩ := fp_fst p (.inr h)
    obtain ⟨h3, _⟩ := fp_fst (fp p) (.inr h2)
    have h4 := (fp_gd h2).2
    rw [h1, upr_upr, ← h1] at h3
    have e : (fp (fp p)).1 = (fp p).1 := by omega
    have := h2.2
    exact Prod.ext e (by rw [h4, e, ← this])
theorem ps_or {l : List UInt8} {p : Pc} (h : p ∈ ps l) : bad p = true ∨ Gd p := by
  cases hb : bad p
  · exact .inr (ps_gd h hb)
  · exact .inl rfl

/-! ### what goes on a sequence -/
def cont (b : UInt8) : Bool := b.toNat / 64 == 2
def tw : Nat → List UInt8 → List UInt8
  | 0, _ => []
  | _, [] => []
  | n + 1, c :: l => if cont c then c :: tw n l else []
theorem dec_tw (b : UInt8) (x : List UInt8) : decodeL (b :: x) = decodeL (b :: tw 3 x) := by
  rw [decodeL_N, decodeL_N]
  cases x with
  | nil => rfl
  | cons x1 x =>
    by_cases h1 : cont x1 = true
    · cases x with
      | nil => simp [tw, h1]
      | cons x2 x =>
        by_cases h2 : cont x2 = true
        · cases x with
          | nil => simp [tw, h1, h2]
          | cons x3 x =>
            by_cases h3 : cont x3 = true
            · simp [tw, h1, h2, h3, decodeN]
            · have h3' : ¬ x3.toNat / 64 = 2 := by simpa [cont] using h3
              simp [tw, h1, h2, h3, h3', decodeN]
        · have h2' : ¬ x2.toNat / 64 = 2 := by simpa [cont] using h2
          simp [tw, h1, h2, h2', decodeN]
    · have h1' : ¬ x1.toNat / 64 = 2 := by simpa [cont] using h1
      simp [tw, h1, h1', decodeN]
theorem dec_cont {b : UInt8} (h : cont b = true) (x : List UInt8) : decodeL (b :: x) = (65533, 1) := by
  have h' : b.toNat / 64 = 2 := by simpa [cont] using h
  rw [decodeL_N]
  simp only [List.getD_cons_zero]
  unfold decodeN
  rw [if_neg (by omega), if_neg (by omega), if_neg (by omega), if_neg (by omega)]
theorem enc_head (r : Nat) (h : okR r) : ∃ c t, encodeRune (r : Int) = c :: t ∧ cont c = false := by
  cases he : encodeRune (r : Int) with
  | nil => have := (enc_len r).1; rw [he] at this; simp at this
  | cons c t =>
    refine ⟨c, t, rfl, ?_⟩
    cases hc : cont c
    · rfl
    · have h1 := dec_enc h []
      rw [he, List.cons_append, dec_cont hc] at h1
      have h2 := congrArg Prod.fst h1
      have h3 := congrArg Prod.snd h1
      simp only at h2 h3
      rw [← h2] at he
      have := congrArg List.length he
      rw [enc_err] at this
      omega
theorem fold_nil : fold [] = [] := rfl
theorem fold_step {l : List UInt8} (h : l ≠ []) : fold l = (fp ((decodeL l).1, l.take (decodeL l).2)).2 ++ fold (l.drop (decodeL l).2) := by
  unfold fold
  rw [ps_step h]
  rfl
theorem tw_fold : ∀ (l : List UInt8) (n : Nat), tw n (fold l) = tw n l := by
  apply ps_ind (M := fun l => ∀ n, tw n (fold l) = tw n l)
  · intro n; rfl
  · intro l h ih n
    cases n with
    | zero => rw [tw, tw]
    | succ n =>
      have hmem : ((decodeL l).1, l.take (decodeL l).2) ∈ ps l := by rw [ps_step h]; simp
      rw [fold_step h]
      cases l with
      | nil => exact absurd rfl h
      | cons c x =>
        rcases ps_or hmem with hb | hg
        · rw [fp_bad hb]
          have hw : (decodeL (c :: x)).2 = 1 := by
            simp only [bad, Bool.and_eq_true, beq_iff_eq, List.length_take] at hb
            have := decodeL_le _ h
            omega
          rw [hw] at ih ⊢
          simp only [List.take_succ_cons, List.take_zero, List.drop_succ_cons, List.drop_zero, List.cons_append, List.nil_append] at ih ⊢
          rw [tw, tw, ih n]
        · have hg2 := fp_gd hg
          obtain ⟨c1, t1, e1, k1⟩ := enc_head _ hg2.1
          rw [hg2.2, e1, List.cons_append, tw, k1]
          obtain ⟨c2, t2, e2, k2⟩ := enc_head _ hg.1
          have h3 := hg.2
          simp only at h3 e2
          rw [e2] at h3
          have hw := decodeL_width (c :: x)
          have : c = c2 := by
            have := congrArg List.head? h3
            rw [List.head?_take, if_neg (by omega)] at this
            simpa using this
          rw [tw, this, k2]
          simp
theorem ps_fold : ∀ l, ps (fold l) = (ps l).map fp := by
  apply ps_ind (M := fun l => ps (fold l) = (ps l).map fp)
  · rfl
  · intro l h ih
    have hmem : ((decodeL l).1, l.take (decodeL l).2) ∈ ps l := by rw [ps_step h]; simp
    rw [fold_step h]
    rcases ps_or hmem with hb | hg
    · rw [fp_bad hb, ps_step h, List.map_cons, fp_bad hb]
      cases l with
      | nil => exact absurd rfl h
      | cons c x =>
        have hr : (decodeL (c :: x)).1 = 65533 := by simp only [bad, Bool.and_eq_true, beq_iff_eq] at hb; exact hb.1
        have hw : (decodeL (c :: x)).2 = 1 := by
          simp only [bad, Bool.and_eq_true, beq_iff_eq, List.length_take] at hb
          have := decodeL_le _ h
          omega
        rw [hw] at ih ⊢
        simp only [List.take_succ_cons, List.take_zero, List.drop_succ_cons, List.drop_zero, List.cons_append, List.nil_append] at ih ⊢
        have hd : decodeL (c :: fold x) = decodeL (c :: x) := by rw [dec_tw, tw_fold, ← dec_tw]
        rw [ps_step (by simp), hd, hw]
        simp only [List.take_succ_cons, List.take_zero, List.drop_succ_cons, List.drop_zero]
        rw [ih]
    · have hg2 := fp_gd hg
      rw [ps_step h, List.map_cons, ← ih]
      generalize fp ((decodeL l).1, l.take (decodeL l).2) = q at *
      obtain ⟨r, b⟩ := q
      obtain ⟨ho, hb⟩ := hg2
      simp only at ho hb
      rw [hb, ps_enc ho]
theorem fold_fold (l : List UInt8) : fold (fold l) = fold l := by
  have h : fold (fold l) = flat ((ps (fold l)).map fp) := rfl
  rw [h, ps_fold, List.map_map]
  show _ = flat ((ps l).map fp)
  congr 1
  exact List.map_congr_left fun p hp => fp_fp p (ps_or hp)
theorem fold_valid (l : List UInt8) : Go.Lib.validD (fold l) = Go.Lib.validD l := by
  rw [valid_ps, valid_ps, ps_fold, List.all_map]
  apply Bool.eq_iff_iff.2
  rw [List.all_eq_true, List.all_eq_true]
  constructor
  · intro h p hp
    have := h p hp
    simpa [(fp_fst p (ps_or hp)).2] using this
  · intro h p hp
    have := h p hp
    simpa [(fp_fst p (ps_or hp)).2] using this
theorem fold_append {a : List UInt8} (h : Valid a) (b : List UInt8) : fold (a ++ b) = fold a ++ fold b := by
  unfold fold
  rw [ps_append h, List.map_append, flat_append]
theorem flat_len_reverse (p : List Pc) : (flat p.reverse).length = (flat p).length := by
  induction p with
  | nil => rfl
  | cons x p ih => rw [List.reverse_cons, flat_append, List.length_append, ih, flat_cons, List.length_append]; simp [flat]; omega
theorem back_len (l : List UInt8) : (back l).length = l.length := by
  unfold back
  rw [flat_len_reverse, flat_ps]
theorem ps_back {l : List UInt8} (h : Valid l) : ps (back l) = (ps l).reverse := by
  have := ps_flat (ps l).reverse [] fun p hp => ps_gd (List.mem_reverse.1 hp) (h p (List.mem_reverse.1 hp))
  rw [List.append_nil, ps_nil, List.append_nil] at this
  exact this
theorem back_valid {l : List UInt8} (h : Valid l) : Valid (back l) := by
  intro p hp
  rw [ps_back h] at hp
  exact h p (List.mem_reverse.1 hp)
theorem back_back {l : List UInt8} (h : Valid l) : back (back l) = l := by
  show flat (ps (back l)).reverse = l
  rw [ps_back h, List.reverse_reverse, flat_ps]
theorem back_append {a : List UInt8} (h : Valid a) (b : List UInt8) : back (a ++ b) = back b ++ back a := by
  unfold back
  rw [ps_append h, List.reverse_append, flat_append]
/-- the piece that begins at a byte -/
def atP (l : List UInt8) (i : Int) : Int × Int × Bool := match (List.range (ps l).length).find? (fun k => (off l k : Int) == i) with
  | some k => (((decodeL (l.drop (off l k))).1 : Int), ((decodeL (l.drop (off l k))).2 : Int), true)
  | none => (0, 0, false)
theorem atP_yes {l : List UInt8} {k : Nat} (hk : k < (ps l).length) {i : Int} (hi : (off l k : Int) = i) : atP l i = (((decodeL (l.drop (off l k))).1 : Int), ((decodeL (l.drop (off l k))).2 : Int), true) := by
  unfold atP
  cases h : (List.range (ps l).length).find? (fun k => (off l k : Int) == i) with
  | none =>
    rw [List.find?_eq_none] at h
    exact absurd (by simpa using hi) (h k (List.mem_range.2 hk))
  | some j =>
    have h1 := List.find?_some h
    have h2 := List.mem_range.1 (List.mem_of_find?_eq_some h)
    have h3 : (off l j : Int) = i := by simpa using h1
    have : j = k := off_inj (l := l) (by omega) (by omega) (by omega)
    subst this
    rfl
theorem atP_no {l : List UInt8} {i : Int} (h : ∀ k, k < (ps l).length → (off l k : Int) ≠ i) : atP l i = (0, 0, false) := by
  unfold atP
  cases hf : (List.range (ps l).length).find? (fun k => (off l k : Int) == i) with
  | none => rfl
  | some j =>
    have h1 := List.find?_some hf
    have h2 := List.mem_range.1 (List.mem_of_find?_eq_some hf)
    exact absurd (by simpa using h1) (h j h2)
/-- the first pieces -/
def cut (l : List UInt8) (n : Int) : List UInt8 := if n < 1 then [] else l.take (off l n.toNat)
theorem cut_append {a : List UInt8} (h : Valid a) (b : List UInt8) : cut (a ++ b) ((ps a).length : Int) = a := by
  unfold cut
  split
  · have : ps a = [] := List.eq_nil_of_length_eq_zero (by omega)
    have h2 := flat_ps a
    rw [this] at h2
    exact h2
  · rw [Int.toNat_natCast, take_off, ps_append h, List.take_left' rfl, flat_ps]
end Go.Proofs.YtajheglnhfjodaaDoor.Rn
