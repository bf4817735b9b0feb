/- Messages: the plain law. No condition. -/
import Derived.Test.YtbfboglcdgeheaaFrameB
namespace Go.Proofs.Ytbfboglcdgeheaa.Msg
set_option linter.unusedVariables false

structure En where
  term : Int
  cmd : Bool
  data : List UInt8
structure Mg where
  kind : Int
  fr : Int
  too : Int
  term : Int
  a : Int
  b : Int
  c : Int
  ok : Bool
  es : List En
  data : List UInt8
def tot : List En → Nat
  | [] => 0
  | e :: r => e.data.length + tot r
structure Ok (m : Mg) : Prop where
  kind : 1 ≤ m.kind ∧ m.kind ≤ 7
  fr : 1 ≤ m.fr ∧ m.fr ≤ 999
  too : 1 ≤ m.too ∧ m.too ≤ 999
  term : 0 ≤ m.term ∧ m.term ≤ 1099511627776
  a : 0 ≤ m.a ∧ m.a ≤ 1099511627776
  b : 0 ≤ m.b ∧ m.b ≤ 1099511627776
  c : 0 ≤ m.c ∧ m.c ≤ 1099511627776
  es8 : m.es.length ≤ 8
  ents : ∀ e ∈ m.es, 1 ≤ e.term ∧ e.term ≤ 1099511627776
  size : tot m.es + m.data.length ≤ 1047576
  one : m.es = [] ∨ m.kind = 3
  two : m.data = [] ∨ 5 ≤ m.kind
def ent (e : En) : List UInt8 := Wire.int e.term ++ (Wire.bool e.cmd ++ Wire.text e.data)
def ents : List En → List UInt8
  | [] => []
  | e :: r => ent e ++ ents r
def body (m : Mg) : List UInt8 := Wire.int m.kind ++ (Wire.int m.fr ++ (Wire.int m.too ++ (Wire.int m.term ++ (Wire.int m.a ++ (Wire.int m.b ++ (Wire.int m.c ++ (Wire.bool m.ok ++ (Wire.int (m.es.length : Int) ++ (ents m.es ++ Wire.text m.data)))))))))
def put (m : Mg) : List UInt8 := Frame.put (body m)
def rdE (most : Int) : Nat → Option (List UInt8) → List En × Option (List UInt8)
  | 0, s => ([], s)
  | n + 1, s => (⟨(Wire.intS s).1, (Wire.boolS (Wire.intS s).2).1, (Wire.textS most (Wire.boolS (Wire.intS s).2).2).1⟩ :: (rdE most n (Wire.textS most (Wire.boolS (Wire.intS s).2).2).2).1, (rdE most n (Wire.textS most (Wire.boolS (Wire.intS s).2).2).2).2)

/-! ### one thing at a time -/
theorem intS_from {s : Option (List UInt8)} {v : Int} {r : List UInt8} (h : Wire.intS s = (v, some r)) : s = some (Wire.int v ++ r) := by
  cases s with
  | none => simp [Wire.intS] at h
  | some l => rw [(Wire.intS_back h).1]
theorem boolS_bool (t : Bool) (r : List UInt8) : Wire.boolS (some (Wire.bool t ++ r)) = (t, some r) := by
  cases t <;> simp [Wire.boolS, Wire.bool]
theorem boolS_from {s : Option (List UInt8)} {t : Bool} {r : List UInt8} (h : Wire.boolS s = (t, some r)) : s = some (Wire.bool t ++ r) := by
  match s, h with
  | none, h => simp [Wire.boolS] at h
  | some [], h => simp [Wire.boolS] at h
  | some (x :: q), h =>
    rw [show Wire.boolS (some (x :: q)) = if 1 < x.toNat then (false, none) else (decide (x.toNat = 1), some q) from rfl] at h
    split at h
    · simp at h
    · rename_i hx
      simp only [Prod.mk.injEq, Option.some.injEq] at h
      obtain ⟨rfl, rfl⟩ := h
      have : x = if decide (x.toNat = 1) then 1 else 0 := by
        by_cases h1 : x.toNat = 1
        · rw [if_pos (by simpa using h1)]; exact UInt8.toNat_inj.1 h1
        · rw [if_neg (by simpa using h1)]; exact UInt8.toNat_inj.1 (by show x.toNat = 0; omega)
      unfold Wire.bool
      rw [← this]
      rfl
theorem textS_from {most : Int} {s : Option (List UInt8)} {t r : List UInt8} (h : Wire.textS most s = (t, some r)) : s = some (Wire.text t ++ r) ∧ (t.length : Int) ≤ most := by
  cases s with
  | none => simp [Wire.textS, Wire.countS, Wire.intS] at h
  | some l =>
    obtain ⟨e, h2⟩ := Wire.textS_back h
    exact ⟨by rw [e], h2⟩
theorem rdE_put {most : Int} : ∀ (es : List En) (r : List UInt8), (∀ e ∈ es, 1 ≤ e.term ∧ e.term ≤ 1099511627776) → (∀ e ∈ es, (e.data.length : Int) ≤ most ∧ e.data.length ≤ 9223372036854775807) → rdE most es.length (some (ents es ++ r)) = (es, some r)
  | [], r, _, _ => rfl
  | e :: es, r, h1, h2 => by
    have ha := h1 e (List.mem_cons_self ..)
    have hb := h2 e (List.mem_cons_self ..)
    have e1 : Wire.intS (some (ents (e :: es) ++ r)) = (e.term, some (Wire.bool e.cmd ++ (Wire.text e.data ++ (ents es ++ r)))) := by
      rw [show ents (e :: es) ++ r = Wire.int e.term ++ (Wire.bool e.cmd ++ (Wire.text e.data ++ (ents es ++ r))) from by simp [ents, ent]]
      exact Wire.intS_int (by omega) _
    have e2 := boolS_bool e.cmd (Wire.text e.data ++ (ents es ++ r))
    have e3 := Wire.textS_text (most := most) e.data (ents es ++ r) hb.2 hb.1
    have e4 := rdE_put es r (fun x hx => h1 x (List.mem_cons_of_mem _ hx)) (fun x hx => h2 x (List.mem_cons_of_mem _ hx))
    simp only [List.length_cons, rdE, e1, e2, e3, e4]
theorem rdE_from {most : Int} : ∀ (n : Nat) (s : Option (List UInt8)) (es : List En) (r : List UInt8), rdE most n s = (es, some r) → s = some (ents es ++ r) ∧ es.length = n
  | 0, s, es, r, h => by
    simp only [rdE, Prod.mk.injEq] at h
    obtain ⟨rfl, rfl⟩ := h
    exact ⟨rfl, rfl⟩
  | n + 1, s, es, r, h => by
    obtain ⟨t, s1, h1⟩ : ∃ t s1, Wire.intS s = (t, s1) := ⟨_, _, rfl⟩
    obtain ⟨c, s2, h2⟩ : ∃ t u, Wire.boolS s1 = (t, u) := ⟨_, _, rfl⟩
    obtain ⟨d, s3, h3⟩ : ∃ t u, Wire.textS most s2 = (t, u) := ⟨_, _, rfl⟩
    obtain ⟨es', s4, h4⟩ : ∃ t u, rdE most n s3 = (t, u) := ⟨_, _, rfl⟩
    simp only [rdE, h1, h2, h3, h4, Prod.mk.injEq] at h
    obtain ⟨rfl, rfl⟩ := h
    obtain ⟨rfl, hl⟩ := rdE_from n s3 es' r h4
    obtain ⟨rfl, _⟩ := textS_from h3
    rw [boolS_from h2] at h1
    refine ⟨?_, by rw [List.length_cons, hl]⟩
    rw [intS_from h1]
    simp [ents, ent]
theorem rdE_none (most : Int) : ∀ (n : Nat), (rdE most n none).2 = none
  | 0 => rfl
  | n + 1 => by
    have e : rdE most (n + 1) none = (⟨0, false, []⟩ :: (rdE most n none).1, (rdE most n none).2) := rfl
    rw [e]
    exact rdE_none most n
theorem ents_len : ∀ (es : List En), es.length ≤ (ents es).length ∧ (ents es).length ≤ tot es + 21 * es.length
  | [] => by simp [ents, tot]
  | e :: es => by
    have h := ents_len es
    have h1 := Wire.int_len e.term
    have h2 := Wire.int_len (e.data.length : Int)
    simp only [ents, ent, tot, List.length_append, List.length_cons, Wire.bool, Wire.text, List.length_nil]
    omega
theorem body_len {m : Mg} (h : Ok m) : 1 ≤ (body m).length ∧ (body m).length ≤ 1048576 := by
  have h1 := Wire.int_len m.kind
  have h2 := Wire.int_len m.fr
  have h3 := Wire.int_len m.too
  have h4 := Wire.int_len m.term
  have h5 := Wire.int_len m.a
  have h6 := Wire.int_len m.b
  have h7 := Wire.int_len m.c
  have h8 := Wire.int_len (m.es.length : Int)
  have h9 := Wire.int_len (m.data.length : Int)
  have h10 := ents_len m.es
  have h11 := h.size
  have h12 := h.es8
  simp only [body, List.length_append, Wire.bool, Wire.text, List.length_cons, List.length_nil]
  omega
theorem mem_tot : ∀ {es : List En} {e : En}, e ∈ es → e.data.length ≤ tot es
  | e' :: es, e, h => by
    simp only [tot]
    rcases List.mem_cons.1 h with rfl | h
    · omega
    · have := mem_tot h; omega

/-! ### a message's body, there and back -/
/-- all the reads, one behind the other -/
def rd (most : Int) (s : Option (List UInt8)) : Mg × Option (List UInt8) :=
  let k1 := Wire.intS s
  let k2 := Wire.intS k1.2
  let k3 := Wire.intS k2.2
  let k4 := Wire.intS k3.2
  let k5 := Wire.intS k4.2
  let k6 := Wire.intS k5.2
  let k7 := Wire.intS k6.2
  let k8 := Wire.boolS k7.2
  let k9 := Wire.countS 8 k8.2
  let k10 := rdE most k9.1.toNat k9.2
  let k11 := Wire.textS most k10.2
  (⟨k1.1, k2.1, k3.1, k4.1, k5.1, k6.1, k7.1, k8.1, k10.1, k11.1⟩, k11.2)
theorem rd_put {most : Int} {m : Mg} (h : Ok m) (hm : 1047576 ≤ most) : rd most (some (body m)) = (m, some []) := by
  have hs := h.size
  have e1 := Wire.intS_int (v := m.kind) (by have := h.kind; omega) (Wire.int m.fr ++ (Wire.int m.too ++ (Wire.int m.term ++ (Wire.int m.a ++ (Wire.int m.b ++ (Wire.int m.c ++ (Wire.bool m.ok ++ (Wire.int (m.es.length : Int) ++ (ents m.es ++ Wire.text m.data)))))))))
  have e2 := Wire.intS_int (v := m.fr) (by have := h.fr; omega) (Wire.int m.too ++ (Wire.int m.term ++ (Wire.int m.a ++ (Wire.int m.b ++ (Wire.int m.c ++ (Wire.bool m.ok ++ (Wire.int (m.es.length : Int) ++ (ents m.es ++ Wire.text m.data))))))))
  have e3 := Wire.intS_int (v := m.too) (by have := h.too; omega) (Wire.int m.term ++ (Wire.int m.a ++ (Wire.int m.b ++ (Wire.int m.c ++ (Wire.bool m.ok ++ (Wire.int (m.es.length : Int) ++ (ents m.es ++ Wire.text m.data)))))))
  have e4 := Wire.intS_int (v := m.term) (by have := h.term; omega) (Wire.int m.a ++ (Wire.int m.b ++ (Wire.int m.c ++ (Wire.bool m.ok ++ (Wire.int (m.es.length : Int) ++ (ents m.es ++ Wire.text m.data))))))
  have e5 := Wire.intS_int (v := m.a) (by have := h.a; omega) (Wire.int m.b ++ (Wire.int m.c ++ (Wire.bool m.ok ++ (Wire.int (m.es.length : Int) ++ (ents m.es ++ Wire.text m.data)))))
  have e6 := Wire.intS_int (v := m.b) (by have := h.b; omega) (Wire.int m.c ++ (Wire.bool m.ok ++ (Wire.int (m.es.length : Int) ++ (ents m.es ++ Wire.text m.data))))
  have e7 := Wire.intS_int (v := m.c) (by have := h.c; omega) (Wire.bool m.ok ++ (Wire.int (m.es.length : Int) ++ (ents m.es ++ Wire.text m.data)))
  have e8 := boolS_bool m.ok (Wire.int (m.es.length : Int) ++ (ents m.es ++ Wire.text m.data))
  have hel := (ents_len m.es).1
  have h8 := h.es8
  have e9 : Wire.countS 8 (some (Wire.int (m.es.length : Int) ++ (ents m.es ++ Wire.text m.data))) = ((m.es.length : Int), some (ents m.es ++ Wire.text m.data)) := by
    rw [Wire.countS_int (by omega), if_neg (by rw [List.length_append]; omega)]
  have e10 := rdE_put (most := most) m.es (Wire.text m.data) h.ents (fun e he => by have := mem_tot he; omega)
  have e11 := Wire.textS_text (most := most) m.data [] (by omega) (by omega)
  rw [List.append_nil] at e11
  simp only [rd, body, e1, e2, e3, e4, e5, e6, e7, e8, e9, Int.toNat_natCast, e10, e11]
theorem rd_from {most : Int} {s : Option (List UInt8)} {m : Mg} {r : List UInt8} (h : rd most s = (m, some r)) : s = some (body m ++ r) := by
  obtain ⟨v1, s1, h1⟩ : ∃ v t, Wire.intS s = (v, t) := ⟨_, _, rfl⟩
  obtain ⟨v2, s2, h2⟩ : ∃ v t, Wire.intS s1 = (v, t) := ⟨_, _, rfl⟩
  obtain ⟨v3, s3, h3⟩ : ∃ v t, Wire.intS s2 = (v, t) := ⟨_, _, rfl⟩
  obtain ⟨v4, s4, h4⟩ : ∃ v t, Wire.intS s3 = (v, t) := ⟨_, _, rfl⟩
  obtain ⟨v5, s5, h5⟩ : ∃ v t, Wire.intS s4 = (v, t) := ⟨_, _, rfl⟩
  obtain ⟨v6, s6, h6⟩ : ∃ v t, Wire.intS s5 = (v, t) := ⟨_, _, rfl⟩
  obtain ⟨v7, s7, h7⟩ : ∃ v t, Wire.intS s6 = (v, t) := ⟨_, _, rfl⟩
  obtain ⟨v8, s8, h8⟩ : ∃ v t, Wire.boolS s7 = (v, t) := ⟨_, _, rfl⟩
  obtain ⟨v9, s9, h9⟩ : ∃ v t, Wire.countS 8 s8 = (v, t) := ⟨_, _, rfl⟩
  obtain ⟨v10, s10, h10⟩ : ∃ v t, rdE most v9.toNat s9 = (v, t) := ⟨_, _, rfl⟩
  obtain ⟨v11, s11, h11⟩ : ∃ v t, Wire.textS most s10 = (v, t) := ⟨_, _, rfl⟩
  simp only [rd, h1, h2, h3, h4, h5, h6, h7, h8, h9, h10, h11, Prod.mk.injEq] at h
  obtain ⟨rfl, rfl⟩ := h
  obtain ⟨rfl, _⟩ := textS_from h11
  obtain ⟨rfl, hl⟩ := rdE_from _ _ _ _ h10
  obtain ⟨hi, hc0, hc8, hcr⟩ := Wire.countS_back h9
  have hv : v9 = (v10.length : Int) := by omega
  rw [intS_from hi] at h8
  rw [boolS_from h8] at h7
  rw [intS_from h7] at h6
  rw [intS_from h6] at h5
  rw [intS_from h5] at h4
  rw [intS_from h4] at h3
  rw [intS_from h3] at h2
  rw [intS_from h2] at h1
  rw [intS_from h1]
  simp only [body, hv, List.append_assoc]
/-- what is said of bytes: the reads end where they do, and say what may be -/
theorem rd_iff {most : Int} {x : List UInt8} (hm : 1047576 ≤ most) : (Wire.endS (rd most (some x)).2 = true ∧ Ok (rd most (some x)).1) ↔ ∃ m, Ok m ∧ x = body m := by
  constructor
  · rintro ⟨h1, h2⟩
    obtain ⟨m, s, h⟩ : ∃ m s, rd most (some x) = (m, s) := ⟨_, _, rfl⟩
    rw [h] at h1 h2
    cases s with
    | none => cases h1
    | some r =>
      have hr : r = [] := by simpa [Wire.endS] using h1
      subst hr
      have := rd_from h
      rw [List.append_nil] at this
      exact ⟨m, h2, Option.some.inj this⟩
  · rintro ⟨m, h, rfl⟩
    rw [rd_put h hm]
    exact ⟨rfl, h⟩

/-! ### whole messages -/
theorem get_put {m : Mg} (h : Ok m) : Frame.get (put m) 0 = (body m, ((put m).length : Int), 0) := by
  obtain ⟨h1, h2⟩ := body_len h
  have h3 := Frame.first_put [] h1 h2
  rw [List.append_nil] at h3
  have h4 := Frame.put_len (body m)
  unfold Frame.get
  rw [if_neg (by omega), if_neg (by unfold put; omega), show (0 : Int).toNat = 0 from rfl, List.drop_zero]
  unfold put
  rw [h3]
  simp
theorem get_whole {l : List UInt8} (h1 : (Frame.get l 0).2.2 = 0) (h2 : (Frame.get l 0).2.1 = (l.length : Int)) : l = Frame.put (Frame.get l 0).1 := by
  obtain ⟨body, r, e, hg, h3, h4⟩ := Frame.get_first h1
  rw [hg] at h2 ⊢
  have hr : r = [] := by
    have := congrArg List.length e
    rw [List.length_append] at this
    have h5 : ((Frame.put body).length : Int) = (l.length : Int) := h2
    exact List.eq_nil_of_length_eq_zero (by omega)
  rw [hr, List.append_nil] at e
  exact e
theorem put_prefix {m m' : Mg} (h : Ok m) (h' : Ok m') {r : List UInt8} (e : put m = put m' ++ r) : m = m' ∧ r = [] := by
  have h1 := Frame.first_put [] (body_len h).1 (body_len h).2
  have h2 := Frame.first_put r (body_len h').1 (body_len h').2
  rw [List.append_nil] at h1
  have e' : Frame.put (body m) = Frame.put (body m') ++ r := e
  rw [e', h2] at h1
  simp only [Option.some.injEq, Prod.mk.injEq] at h1
  obtain ⟨hb, hr⟩ := h1
  have h3 := rd_put (most := 1047576) h (Int.le_refl _)
  have h4 := rd_put (most := 1047576) h' (Int.le_refl _)
  rw [hb, h3] at h4
  simp only [Prod.mk.injEq] at h4
  exact ⟨h4.1, hr⟩
theorem put_inj {m m' : Mg} (h : Ok m) (h' : Ok m') (e : put m = put m') : m = m' := (put_prefix h h' (r := []) (by rw [e, List.append_nil])).1
theorem put_cut {m m' : Mg} (h : Ok m) (h' : Ok m') {k : Nat} (hk : k < (put m).length) : (put m).take k ≠ put m' := fun e => by
  have h1 : put m = put m' ++ (put m).drop k := by rw [← e, List.take_append_drop]
  have h2 := congrArg List.length (put_prefix h h' h1).2
  rw [List.length_drop] at h2
  simp at h2
  omega
theorem put_more {m m' : Mg} (h : Ok m) (h' : Ok m') (x : UInt8) : put m ++ [x] ≠ put m' := fun e => by
  have := (put_prefix h' h e.symm).2
  cases this
theorem put_turned {m m' : Mg} (h : Ok m) (h' : Ok m') {k : Nat} {x y : UInt8} (hk : (put m)[k]? = some x) (hy : y ≠ 0) : (put m).set k (x ^^^ y) ≠ put m' := fun e => by
  have h1 := Frame.turned (body := body m) hk hy
  have h2 := get_put h'
  rw [← e] at h2
  apply h1
  show (Frame.get ((put m).set k (x ^^^ y)) 0).2.2 = 0 ∧ (Frame.get ((put m).set k (x ^^^ y)) 0).2.1 = ((put m).length : Int)
  rw [h2, List.length_set]
  exact ⟨rfl, rfl⟩
theorem put_len {m : Mg} (h : Ok m) : 1 ≤ (put m).length ∧ (put m).length ≤ 1048600 := by
  have h1 := body_len h
  have h2 := Frame.put_len (body m)
  have h3 := Wire.int_len ((body m).length : Int)
  unfold put
  omega
end Go.Proofs.Ytbfboglcdgeheaa.Msg
