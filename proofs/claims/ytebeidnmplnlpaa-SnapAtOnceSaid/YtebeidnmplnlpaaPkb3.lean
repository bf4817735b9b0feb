/- Texts joined: VD, DiskH, DiskI, DiskJ, VE, RdA, DskO, Var, VarB, Crc, FrameL, Sum, SumFns, Wire, Reg, Reader, ReadInt, ReadFns, ReadRef, ReadMore. No condition. -/
import Derived.Test.YtebeidnmplnlpaaPkb0
import Derived.Test.YtebeidnmplnlpaaPkb2
import Derived.Lib.SlBytesConst
import Derived.KernelRfl
import Derived.WalkKit
import Derived.WalkSpells
import Derived.WalkLawsBesides
import Derived.Lib.Hide
import Derived.Deep.DeepCutAuto
import Derived.StillTailTactics
import Derived.BigQuiet
import Derived.Deep.LoopGhost
section
namespace Go.Proofs.Ytebeidnmplnlpaa
set_option linter.unusedVariables false
open Go.RowKit

section
variable {P : Program} {ops : Array Oper} {Q : Exit → Act → World → Prop} {md : Region.Mode} {S : World → Prop} {c : Nat}
/-- what is listed has what it waits for listed -/
def Down (md : Region.Mode) (ops : Array Oper) (L : Array Bool) : Prop := ∀ j oj, ops[j]? = some oj → L.getD j false = true → ∀ e ∈ oj.after, Region.binds md e = true → L.getD e.on false = true
/-- every operation but the last is waited for by a later one -/
def feeds (md : Region.Mode) (ops : Array Oper) (c : Nat) : Bool := Nat.beq ops.size (c + 1) && (List.range c).all fun i => (List.range (c + 1)).any fun k => Nat.blt i k && match ops[k]? with
  | some o => o.after.any fun e => Region.binds md e && Nat.beq e.on i
  | none => false
theorem Down.set {L : Array Bool} {j : Nat} (h : Down md ops L) (hj : j ∈ Region.ready md ops L) : Down md ops (L.setIfInBounds j true) := by
  intro k ok hk hl e he hb
  obtain ⟨h0, o, ho, hall⟩ := mem_ready.1 hj
  by_cases hkj : k = j
  · subst hkj
    rw [ho] at hk
    obtain rfl := Option.some.inj hk
    exact getD_set_true (hall e he hb)
  · rw [getD_set_ne false (Ne.symm hkj)] at hl
    exact getD_set_true (h k ok hk hl e he hb)
theorem Down.start (n : Nat) : Down md ops (Array.replicate n false) := by
  intro j oj hj hl
  exfalso
  rcases Nat.lt_or_ge j n with h | h
  · simp [h] at hl
  · simp [Array.getElem?_eq_none (xs := Array.replicate n false) (by simpa using h)] at hl
theorem feeds_spec (hf : feeds md ops c = true) : ops.size = c + 1 ∧ ∀ i, i < c → ∃ k o e, i < k ∧ k ≤ c ∧ ops[k]? = some o ∧ e ∈ o.after ∧ Region.binds md e = true ∧ e.on = i := by
  unfold feeds at hf
  simp only [Bool.and_eq_true, List.all_eq_true, List.mem_range] at hf
  refine ⟨Nat.eq_of_beq_eq_true hf.1, fun i hi => ?_⟩
  have h1 := hf.2 i hi
  simp only [List.any_eq_true, List.mem_range, Bool.and_eq_true] at h1
  obtain ⟨k, hk, h2, h3⟩ := h1
  cases ho : ops[k]? with
  | none => rw [ho] at h3; cases h3
  | some o =>
    rw [ho] at h3
    obtain ⟨e, he, h4⟩ := Array.any_eq_true'.1 h3
    simp only [Bool.and_eq_true] at h4
    exact ⟨k, o, e, Nat.blt_eq ▸ h2, by omega, ho, he, h4.1, Nat.eq_of_beq_eq_true h4.2⟩
theorem ready_last {L : Array Bool} (hd : Down md ops L) (hf : feeds md ops c = true) (hc : c ∈ Region.ready md ops L) : ∀ (d i : Nat), c - i ≤ d → i < c → L.getD i false = true := by
  intro d
  induction d with
  | zero => intro i h1 h2; omega
  | succ d ih =>
    intro i h1 h2
    obtain ⟨k, o, e, hk, hkc, ho, he, hb, rfl⟩ := (feeds_spec hf).2 i h2
    by_cases hke : k = c
    · subst hke
      obtain ⟨_, o', ho', hall⟩ := mem_ready.1 hc
      rw [ho] at ho'
      obtain rfl := Option.some.inj ho'
      exact hall e he hb
    · exact hd k o ho (ih k (by omega) (by omega)) e he hb
/-- whatever order: S holds till the last operation -/
def wpAnyC (P : Program) (md : Region.Mode) (ops : Array Oper) (Q : Exit → Act → World → Prop) (S : World → Prop) (c : Nat) : Nat → Array Bool → Act → World → Prop
  | 0, listed, a, w => Region.ready md ops listed = [] ∧ Q .normal a w
  | fuel + 1, listed, a, w =>
    (Region.ready md ops listed = [] → Q .normal a w) ∧
    ∀ i ∈ Region.ready md ops listed, wpOp P ops Q i (fun a' w' => (i ≠ c → S w') ∧ wpAnyC P md ops Q S c fuel (listed.setIfInBounds i true) a' w') a w
theorem wpAny_ofC : ∀ (fuel : Nat) (listed : Array Bool) (a : Act) (w : World), wpAnyC P md ops Q S c fuel listed a w → wpAny P md ops Q fuel listed a w
  | 0, _, _, _, h => h
  | fuel + 1, _, _, _, h => ⟨h.1, fun i hi => wpOp_mono (fun a' w' h' => wpAny_ofC fuel _ a' w' h'.2) (h.2 i hi)⟩
theorem wpAnyC_first {i : Nat} {oi : Oper} {v : Value} (hi : ops[i]? = some oi) (hic : i < c) (hf : feeds md ops c = true) (hsel : ∀ (j : Nat) (o : Oper) cs b, ops[j]? = some o → o.op ≠ .select cs b)
    (hQ : ∀ x a w, Q (.panic x) (a.put oi.dst v) w → Q (.panic x) a w) :
    ∀ (fuel : Nat) (listed : Array Bool) (a : Act) (w : World), Down md ops listed →
      (∀ j oj, ops[j]? = some oj → j ≠ i → listed.getD j true = false → (∀ e ∈ oj.after, Region.binds md e = true → e.on ≠ i) → oi.apart ops oj = true) →
      i ∈ Region.ready md ops listed → YieldsIf P ops S oi v a → S w →
      wpAnyC P md ops Q S c fuel (listed.setIfInBounds i true) (a.put oi.dst v) w → wpAnyC P md ops Q S c (fuel + 1) listed a w := by
  intro fuel
  induction fuel with
  | zero =>
    intro listed a w _ _ hr hy hS H
    refine ⟨fun h => (by rw [h] at hr; cases hr), fun j hj => ?_⟩
    by_cases hji : j = i
    · subst hji; exact hy.wpOp hi hS ⟨fun _ => hS, H⟩
    · have := ready_mono hj hji
      rw [H.1] at this
      cases this
  | succ fuel ih =>
    intro listed a w hD hfree hr hy hS H
    refine ⟨fun h => (by rw [h] at hr; cases hr), fun j hj => ?_⟩
    by_cases hji : j = i
    · subst hji; exact hy.wpOp hi hS ⟨fun _ => hS, H⟩
    · have h0 := (mem_ready.1 hr).1
      have hun : listed.getD i false = true → False := fun h1 => by
        rcases Nat.lt_or_ge i listed.size with h' | h'
        · simp [h'] at h0 h1; rw [h0] at h1; cases h1
        · simp [Array.getElem?_eq_none h'] at h1
      have hjc : j ≠ c := fun e => by
        subst e
        exact hun (ready_last hD hf hj (j - i) i (Nat.le_refl _) hic)
      have h1 := H.2 j (ready_mono hj hji)
      obtain ⟨hjun, oj, hoj, hall⟩ := mem_ready.1 hj
      have hnot : ∀ e ∈ oj.after, Region.binds md e = true → e.on ≠ i := fun e he hb heq => hun (by rw [← heq]; exact hall e he hb)
      have h2 := wpOp_putIf hoj (hfree j oj hoj hji hjun hnot) (fun cs b => hsel i oi cs b hi) (fun cs b => hsel j oj cs b hoj) hQ hy h1
      have hfree' : ∀ k ok, ops[k]? = some ok → k ≠ i → (listed.setIfInBounds j true).getD k true = false →
          (∀ e ∈ ok.after, Region.binds md e = true → e.on ≠ i) → oi.apart ops ok = true := fun k ok hk hki hkun hno => by
        refine hfree k ok hk hki ?_ hno
        by_cases hjk : j = k
        · subst hjk; exact hjun
        · rw [getD_set_ne true hjk] at hkun; exact hkun
      refine wpOp_mono (fun a' w' h3 => ⟨h3.2.1, ih (listed.setIfInBounds j true) a' w' (hD.set hj) hfree' (ready_mono hr (Ne.symm hji)) h3.1 (h3.2.1 hjc) ?_⟩) h2
      rw [Array.setIfInBounds_comm _ _ hji]
      exact h3.2.2
end
theorem quiet_takeC {P : Program} {n : Nat} {ds : List Deferred} {ops : List Oper} {md : Region.Mode} {Q : Exit → Act → World → Prop} {S : World → Prop} {D : List Nat} {σ0 : Env} {c : Nat} (hf : feeds md ops.toArray c = true) (hdst : ∀ o ∈ ops, ∀ t, o.dst = some t → t < n ∧ t ∈ D) (hs : Region.noSelect ops.toArray = true)
    (hQ : ∀ x a a' w, Q (.panic x) a w → Q (.panic x) a' w) {w : World} (hS : S w) {K : Env → Prop} {L' : Array Bool} {fuel : Nat} (hR : ∀ a σ, Agr n ds a σ → Fr D σ σ0 → K σ → wpAnyC P md ops.toArray Q S c fuel L' a w) :
    ∀ (l : List Nat) (L : Array Bool) (a : Act) (σ : Env), Down md ops.toArray L → (l.all fun i => Nat.blt i c) = true → takeC md ops.toArray l L = some L' → Agr n ds a σ → Fr D σ σ0 → vquiet P S ops K (picks ops l) σ → wpAnyC P md ops.toArray Q S c (fuel + l.length) L a w
  | [], L, a, σ, hD, hl, hB, hA, hF, h => by
    simp only [takeC, Option.some.injEq] at hB
    subst hB
    exact hR a σ hA hF h
  | i :: r, L, a, σ, hD, hl, hB, hA, hF, h => by
    unfold takeC at hB
    simp only [List.all_cons, Bool.and_eq_true] at hl
    split at hB
    · rename_i hc
      simp only [Bool.and_eq_true] at hc
      obtain ⟨⟨h1, h2⟩, h3⟩ := hc
      cases ho : ops[i]? with
      | none => simp [ho] at h3
      | some o =>
        unfold picks at h
        rw [nthOp_eq, ho] at h
        simp only [vquiet] at h
        have hm : o ∈ ops := List.mem_of_getElem? ho
        rw [show fuel + (i :: r).length = (fuel + r.length) + 1 from by simp; omega]
        have ho' : ops.toArray[i]? = some o := by simpa using ho
        have hic : i < c := Nat.blt_eq ▸ hl.1
        have hr : i ∈ Region.ready md ops.toArray L := by simpa using h2
        rcases vguard_sound hA h with ⟨k1, k2⟩ | ⟨k1, k2⟩
        · obtain ⟨v, v1, v2⟩ := vread_sound k2
          refine wpAnyC_first ho' hic hf (Region.noSelect_spec hs) (fun x a w => hQ x _ _ w) _ L a w hD (Region.free_spec ho' h1) hr (.inl ⟨k1, fun W hW => ?_⟩) hS (quiet_takeC hf hdst hs hQ hS hR r _ _ _ (hD.set hr) hl.2 hB (hA.put (fun t ht => (hdst o hm t ht).1) v) (hF.put (fun t ht => (hdst o hm t ht).2) v) v2)
          rw [hA.eval]
          exact v1 W hW
        · exact wpAnyC_first ho' hic hf (Region.noSelect_spec hs) (fun x a w => hQ x _ _ w) _ L a w hD (Region.free_spec ho' h1) hr (.inr ⟨k1, rfl⟩) hS (quiet_takeC hf hdst hs hQ hS hR r _ _ _ (hD.set hr) hl.2 hB (hA.put (fun t ht => (hdst o hm t ht).1) undef) (hF.put (fun t ht => (hdst o hm t ht).2) undef) k2)
    · cases hB
/-- all but the last are read, in one world; then the last one -/
def lastB (n : Nat) (ops : List Oper) (l : List Nat) (c : Nat) : Bool :=
  Region.noSelect ops.toArray && feeds .any ops.toArray c && (l.all fun i => Nat.blt i c) && segC .any ops.toArray [(l, c)] [] (Array.replicate ops.length false) && Nat.beq (l.length + 1) ops.length && ops.all fun o => match o.dst with | some d => Nat.blt d n | none => true
theorem VDraw.last {P : Program} {n : Nat} {ops : List Oper} {Q : Post} {σ : Env} {w : World} (l : List Nat) (c : Nat) (hm : P.follows .mixedOrders = true) (hB : lastB n ops l c = true)
    (h : VQ P (Eq (w.drewN 1)) ops (fun σ' => vone P (fun _ => True) ops (fun σ2 w2 => Q .normal σ2 w2) (nthOp ops c) σ' (w.drewN 1)) (picks ops l) σ) : VDraw P n ops Q σ w := by
  replace h := h.out
  unfold lastB at hB
  simp only [Bool.and_eq_true] at hB
  obtain ⟨⟨⟨⟨⟨h1, h2⟩, h3⟩, h4⟩, h5⟩, h6⟩ := hB
  have hlen := Nat.eq_of_beq_eq_true h5
  have hdst : ∀ o ∈ ops, ∀ t, o.dst = some t → t < n ∧ t ∈ dsts ops := fun o ho t ht => ⟨by
    have := List.all_eq_true.1 h6 o ho
    rw [ht] at this
    exact Nat.blt_eq ▸ this, mem_dsts ho ht⟩
  simp only [VDraw_eq]
  intro ds a id hA
  refine wp_region_any hm (wpAny_ofC (S := Eq (w.drewN 1)) (c := c) _ _ _ _ ?_)
  rw [show ops.toArray.size = ops.length from by simp]
  unfold segC at h4
  cases hT : takeC .any ops.toArray l (Array.replicate ops.length false) with
  | none => rw [hT] at h4; cases h4
  | some L' =>
    rw [hT] at h4
    simp only [Bool.and_eq_true, beq_iff_eq] at h4
    obtain ⟨⟨k1, k2⟩, k3⟩ := h4
    have := quiet_takeC (md := .any) (Q := Lift n ds Q (dsts ops) σ) (S := Eq (w.drewN 1)) (w := w.drewN 1) (fuel := 1) (σ0 := σ) h2 hdst h1 (fun c a a' w h => h) rfl (fun a σ' hA hF ha => ?_) l _ a σ (Down.start _) h3 hT hA (Fr.refl _ _) h
    · rw [show 1 + l.length = ops.toArray.size from by simp; omega] at this
      rw [show ops.toArray.size = ops.length from by simp] at this
      exact this
    · refine ⟨fun h0 => absurd (k1 ▸ h0) (by simp), fun i hi => ?_⟩
      rw [k1] at hi
      simp only [List.mem_singleton] at hi
      subst hi
      rw [nthOp_eq] at ha
      cases ho : ops[i]? with
      | none => rw [ho] at ha; exact ha.elim
      | some o =>
        rw [ho] at ha
        simp only [vone] at ha
        have hmo : o ∈ ops := List.mem_of_getElem? ho
        have k4 : Region.ready .any ops.toArray (L'.setIfInBounds i true) = [] := by
          unfold segC takeC at k3
          simpa [List.isEmpty_iff] using k3
        unfold wpOp
        rw [show ops.toArray[i]? = some o from by simpa using ho]
        simp only
        rcases vguard_sound hA ha with ⟨j1, j2⟩ | ⟨j1, j2⟩
        · rw [if_pos j1]
          exact .inl (vop_sound hA j2 fun v w' hk => ⟨fun h => absurd rfl h, k4, ⟨_, hA.put (fun t ht => (hdst o hmo t ht).1) v, hF.put (fun t ht => (hdst o hmo t ht).2) v, hk.rest⟩⟩)
        · rw [if_neg (by rw [j1]; simp)]
          exact ⟨fun h => absurd rfl h, k4, ⟨_, hA.put (fun t ht => (hdst o hmo t ht).1) undef, hF.put (fun t ht => (hdst o hmo t ht).2) undef, j2⟩⟩
end Go.Proofs.Ytebeidnmplnlpaa
end

section
set_option maxRecDepth 10000
namespace Go.Proofs.Ytebeidnmplnlpaa
set_option linter.unusedVariables false
open Go.RowKit
open Go.Maps (Keyed)
open Go.ChangeMaps Go.WideElems

/-- what lies off the footprint -/
def Off (U : Foot) (A : Option Addr) (n : Nat) : Prop := 0 < n → ∃ ad, A = some ad ∧ ¬ U ad.block
theorem Reads.out {W W' : World} {U : Foot} {B s n : Nat} {A : Option Addr} {l : List Value} (h : Reads W B s A n l) (hB : B ≤ W.heap.size) (hp : Off U A n) (ho : Out U W W') : Reads W' B s A n l := by
  refine ⟨h.1, fun hm => ?_⟩
  obtain ⟨ad, rfl, h3, h4⟩ := h.2 hm
  obtain ⟨ad', e, hu⟩ := hp hm
  obtain rfl := Option.some.inj e
  refine ⟨_, rfl, h3, fun j u hj => ?_⟩
  rw [← h4 j u hj]
  exact World.cell?_of_block (by rw [add_block]; exact ho.block _ (Nat.lt_of_lt_of_le h3 hB) hu)
theorem Off.mono {U V : Foot} {A : Option Addr} {n : Nat} (h : Off U A n) (hV : ∀ j, V j → U j) : Off V A n := fun h0 => by
  obtain ⟨ad, e, h1⟩ := h h0
  exact ⟨ad, e, fun hv => h1 (hV _ hv)⟩
theorem Off.row {W : World} {U : Foot} {B e s n c : Nat} {A : Option Addr} {xs : List Value} (h : W.ownsRow B e s (.slice A n c) n xs) (hU : ∀ j, B ≤ j → ¬ U j) : Off U A n := fun h0 => by
  rcases h.2 with ⟨_, h1⟩ | ⟨g, cap, cur, e, hg, _⟩
  · omega
  · injection e with e1 e2 e3
    exact ⟨_, e1, hU _ hg⟩


def keepAt (ps : List Int) (i : Nat) : Int := if ps.length = 0 then 0 else ps.getD (i % ps.length) 0
def keepN (ps : List Int) (i : Nat) (f : Fl) : Nat := f.sure + (max 0 (min (keepAt ps i) ((f.b.length : Int) - f.sure))).toNat
def crashF (ps : List Int) (i : Nat) (f : Fl) : Fl := ⟨f.b.take (keepN ps i f), keepN ps i f⟩
def crashL (ps : List Int) : Nat → DTb → DTb
  | _, [] => []
  | i, p :: r => (p.1, (p.2.1, crashF ps i p.2.2)) :: crashL ps (i + 1) r
def crashT (ps : List Int) : Nat → PT → PT
  | _, [] => []
  | i, p :: r => (p.1, crashF ps i p.2) :: crashT ps (i + 1) r
def Dk.crash (K : Dk) : Dk := { K with armed := false, off := false }
def DS.crash (S : DS) (ps : List Int) : DS := ⟨S.k.crash, crashT ps 0 S.t⟩
theorem crashL_plain (ps : List Int) : ∀ (i : Nat) (L : DTb), plain (crashL ps i L) = crashT ps i (plain L)
  | _, [] => rfl
  | i, p :: r => by
    unfold crashL
    show _ :: plain (crashL ps (i + 1) r) = _ :: crashT ps (i + 1) (plain r)
    rw [crashL_plain ps (i + 1) r]
theorem crashL_snoc (ps : List Int) (p : List UInt8 × (Nat × Fl)) : ∀ (i : Nat) (A : DTb), crashL ps i (A ++ [p]) = crashL ps i A ++ [(p.1, (p.2.1, crashF ps (i + A.length) p.2.2))]
  | i, [] => rfl
  | i, q :: A => by
    show _ :: crashL ps (i + 1) (A ++ [p]) = _ :: (crashL ps (i + 1) A ++ _)
    rw [crashL_snoc ps p (i + 1) A]
    simp only [List.length_cons]
    rw [show i + 1 + A.length = i + (A.length + 1) by omega]
theorem crashT_keys (ps : List Int) : ∀ (i : Nat) (T : PT), (crashT ps i T).map (·.1) = T.map (·.1)
  | _, [] => rfl
  | i, p :: r => by
    show _ :: (crashT ps (i + 1) r).map (·.1) = _ :: r.map (·.1)
    rw [crashT_keys ps (i + 1) r]
theorem crashT_length (ps : List Int) (i : Nat) (T : PT) : (crashT ps i T).length = T.length := by
  have := congrArg List.length (crashT_keys ps i T)
  simpa using this
theorem keepN_le {ps : List Int} {i : Nat} {f : Fl} (h : f.sure ≤ f.b.length) : keepN ps i f ≤ f.b.length ∧ f.sure ≤ keepN ps i f := by
  unfold keepN; omega
theorem crashT_used (ps : List Int) : ∀ (i : Nat) (T : PT), used (crashT ps i T) ≤ used T
  | _, [] => Nat.le_refl _
  | i, p :: r => by
    have := crashT_used ps (i + 1) r
    show (crashF ps i p.2).b.length + used (crashT ps (i + 1) r) ≤ p.2.b.length + used r
    have : (crashF ps i p.2).b.length ≤ p.2.b.length := by unfold crashF; rw [List.length_take]; omega
    omega
theorem crashT_mem (ps : List Int) : ∀ {i : Nat} {T : PT} {p : List UInt8 × Fl}, p ∈ crashT ps i T → ∃ q ∈ T, ∃ j, p = (q.1, crashF ps j q.2)
  | i, q :: r, p, h => by
    rcases List.mem_cons.1 h with rfl | h
    · exact ⟨q, by simp, i, rfl⟩
    · obtain ⟨q', hq, j, e⟩ := crashT_mem ps h
      exact ⟨q', by simp [hq], j, e⟩
theorem DWf.crash {S : DS} (h : DWf S) (ps : List Int) : DWf (S.crash ps) := by
  refine ⟨⟨h.k.room, h.k.calls, h.k.after⟩, ?_, ?_, ?_, ?_, ?_⟩
  · have := crashT_used ps 0 S.t
    have := h.t.fit
    show (used (crashT ps 0 S.t) : Int) ≤ S.k.room
    omega
  · show (crashT ps 0 S.t).length ≤ 64
    rw [crashT_length]; exact h.t.few
  · intro p hp
    obtain ⟨q, hq, j, rfl⟩ := crashT_mem ps hp
    exact h.t.names q hq
  · show ((crashT ps 0 S.t).map (·.1)).Pairwise (· < ·)
    rw [crashT_keys]; exact h.t.ris
  · intro p hp
    obtain ⟨q, hq, j, rfl⟩ := crashT_mem ps hp
    have := keepN_le (ps := ps) (i := j) (h.t.sure q hq)
    unfold crashF
    simp only [List.length_take]
    omega
theorem VRead.remN {S : World → Prop} {t : TypeId} {x y : Operand} {k : IntKind} {m n : Nat} {K : Value → Prop} (h1 : 0 < n) (hk : K (.int k ((m % n : Nat) : Int))) :
    VRead Try.prog S (do eqGuard .rem t x y (.int k (m : Int)) (.int k (n : Int)); binOp .rem t (.int k (m : Int)) (.int k (n : Int))) K :=
  VRead.rem (by omega) (by omega) (by rw [← Int.natCast_emod]; exact hk)
theorem VRead.cutHMn {S : World → Prop} {t e : Nat} {A : Option Addr} {n c q : Nat} {z m : Int} {kk kj : IntKind} {K : Value → Prop} [i : TSlice Try.prog t e 1] (e1 : z = q) (e2 : m = q) (h : q ≤ c) (hk : K (.slice A q q)) :
    VRead Try.prog S (Instr.sliceAt t (.slice A n c) none (some (.int kk z)) (some (.int kj m))) K := by
  subst e1 e2
  exact VRead.cutHM (by omega) (by omega) (by omega) (by simpa using hk)
theorem tfind_crash {L A B : DTb} {p : List UInt8 × (Nat × Fl)} {ps : List Int} (hR : Rising (crashL ps 0 A ++ p :: B)) : tfind (crashL ps 0 A ++ p :: B) p.1 = some (p.2.1, p.2.2) :=
  tfind_of (x := (p.2.1, p.2.2)) hR.nd (List.mem_append_right _ (List.mem_cons_self ..))
set_option maxHeartbeats 1000000 in
theorem dCrash_at (W : World) (U : Foot) (d m c : Nat) (K : Dk) (L : DTb) (n k : Nat) (A : Option Addr) (ps : List Int) (h : DiskAt W U d m c K L) (hfew : L.length ≤ 64) (hsure : ∀ p ∈ L, p.2.2.sure ≤ p.2.2.b.length) (hbig : ∀ p ∈ L, p.2.2.b.length ≤ 16777216) (hnm : ∀ p ∈ L, p.1.length ≤ 32)
    (hr : Reads W W.heap.size 1 A n (iv .i64 ps)) (hoff : Off U A n) (hn : n ≤ 1000000000000000) :
    Calls Try.prog 28 #[.pointer (some ⟨d, 0, none⟩), .slice A n k] W fun e W' => e = .returned (.tuple #[]) ∧ DiskAt W' U d m c K.crash (crashL ps 0 L) ∧ Out U W W' := by
  have hpl : ps.length = n := by have := hr.1; unfold iv at this; simp at this; omega
  refine calls_vc Try.func28 rfl (by kernel_rfl) ?_
  ((conv => whnf); (repeat ((first | (refine VL.cons ?_) | (refine VL.nil ?_) | (refine VC.seqS rfl ?_) | (refine VC.region ?_) | (refine VC.draw ?_) | (refine VC.cond ?_) | (refine VC.block ?_) | (refine VC.exit ?_) | (refine VC.ret ?_) | (refine VC.skip ?_) | (refine VC.label ?_) | (refine VC.scope ?_) | (refine VQ.cons ?_) | (refine VQ.nil ?_) | (refine VG.nil ?_) | (refine VG.cons ?_) | (refine VH.nil ?_) | (refine VH.cons ?_)); (conv => whnf))))
  ((repeat ((first | (refine VL.cons ?_) | (refine VL.nil ?_) | (refine VC.seqS rfl ?_) | (refine VC.region ?_) | (refine VC.draw ?_) | (refine VC.cond ?_) | (refine VC.block ?_) | (refine VC.exit ?_) | (refine VC.ret ?_) | (refine VC.skip ?_) | (refine VC.label ?_) | (refine VC.scope ?_) | (refine VQ.cons ?_) | (refine VQ.nil ?_) | (refine VG.nil ?_) | (refine VG.cons ?_) | (refine VH.nil ?_) | (refine VH.cons ?_) | (refine VP.done ?_) | (refine VP.one ?_) | (refine VP.two ?_) | (refine VE.cons ?_) | (refine VE.nil ?_) | (refine VBool.t ?_) | (refine VBool.f ?_) | (refine VBool.dT (by omega) ?_) | (refine VBool.dF (by omega) ?_) | (refine VBool.nT (by omega) ?_) | (refine VBool.nF (by omega) ?_) | (refine VRead.lenS ?_) | (refine VRead.lenT ?_) | (refine VRead.fld ?_) | (refine VRead.load1 (by assumption) ?_) | (refine VRead.load (by assumption) ?_) | (refine VRead.neB ?_) | (refine VRead.eqPN ?_) | (refine VRead.nePN ?_) | (refine VRead.eqB ?_) | (refine VBool.nT rfl ?_) | (refine VBool.dT rfl ?_) | (refine VWrap.i64 (by omega) (by omega) ?_) | (refine VWrap.u64 (by omega) (by omega) ?_) | (refine VRead.at1 (by omega) ?_) | (refine VRead.eqNN ?_) | (refine VSem.convI ?_) | (refine VRead.convI ?_) | (refine VRead.rem (by omega) (by decide) ?_) | (refine VRead.neg ?_) | (refine VC.seq ?_)); (conv => whnf))))
  refine VCall.of (dList_at W U d m c K L h hfew) ?_
  rintro e W1 ⟨An, kn, rfl, hO1, hB1⟩
  refine ⟨_, rfl, ?_⟩
  -- the footprint of what was there
  have hV : ∃ V : Foot, (∀ j, V j → U j ∧ j < W.heap.size) ∧ (∀ j, j < W.heap.size → U j → V j) := ⟨fun j => U j ∧ j < W.heap.size, fun j h => h, fun j h1 h2 => ⟨h2, h1⟩⟩
  obtain ⟨V, hV1, hV2⟩ := hV
  have h1 : DiskAt W1 V d m c K L := (h.more hV2).below hB1 (Nat.le_refl _)
  have hoffV : Off V A n := hoff.mono (fun j hj => (hV1 j hj).1)
  have hoffN : Off V An L.length := Off.row hO1 (fun j hj hv => absurd (hV1 j hv).2 (Nat.not_lt_of_le hj))
  have hrN := Reads.row hO1
  have hr1 := hr.below hB1
  ((conv => whnf); (repeat ((first | (refine VL.cons ?_) | (refine VL.nil ?_) | (refine VC.seqS rfl ?_) | (refine VC.region ?_) | (refine VC.draw ?_) | (refine VC.cond ?_) | (refine VC.block ?_) | (refine VC.exit ?_) | (refine VC.ret ?_) | (refine VC.skip ?_) | (refine VC.label ?_) | (refine VC.scope ?_) | (refine VQ.cons ?_) | (refine VQ.nil ?_) | (refine VG.nil ?_) | (refine VG.cons ?_) | (refine VH.nil ?_) | (refine VH.cons ?_)); (conv => whnf))))
  ((repeat ((first | (refine VL.cons ?_) | (refine VL.nil ?_) | (refine VC.seqS rfl ?_) | (refine VC.region ?_) | (refine VC.draw ?_) | (refine VC.cond ?_) | (refine VC.block ?_) | (refine VC.exit ?_) | (refine VC.ret ?_) | (refine VC.skip ?_) | (refine VC.label ?_) | (refine VC.scope ?_) | (refine VQ.cons ?_) | (refine VQ.nil ?_) | (refine VG.nil ?_) | (refine VG.cons ?_) | (refine VH.nil ?_) | (refine VH.cons ?_) | (refine VP.done ?_) | (refine VP.one ?_) | (refine VP.two ?_) | (refine VE.cons ?_) | (refine VE.nil ?_) | (refine VBool.t ?_) | (refine VBool.f ?_) | (refine VBool.dT (by omega) ?_) | (refine VBool.dF (by omega) ?_) | (refine VBool.nT (by omega) ?_) | (refine VBool.nF (by omega) ?_) | (refine VRead.lenS ?_) | (refine VRead.lenT ?_) | (refine VRead.fld ?_) | (refine VRead.load1 (by assumption) ?_) | (refine VRead.load (by assumption) ?_) | (refine VRead.neB ?_) | (refine VRead.eqPN ?_) | (refine VRead.nePN ?_) | (refine VRead.eqB ?_) | (refine VBool.nT rfl ?_) | (refine VBool.dT rfl ?_) | (refine VWrap.i64 (by omega) (by omega) ?_) | (refine VWrap.u64 (by omega) (by omega) ?_) | (refine VRead.at1 (by omega) ?_) | (refine VRead.eqNN ?_) | (refine VSem.convI ?_) | (refine VRead.convI ?_) | (refine VRead.rem (by omega) (by decide) ?_) | (refine VRead.neg ?_) | (refine VC.seq ?_)); (conv => whnf))))
  refine VC.loop [11] [(4, 7), (11, 73)] (fun q vs w => ∃ A0 B0 : DTb, vs = [.int .i64 (A0.length : Int)] ∧ q = B0.length ∧ L = A0 ++ B0 ∧ DiskAt w V d m c K (crashL ps 0 A0 ++ B0) ∧ Out V W1 w) (by kernel_rfl)
    ⟨_, [], L, rfl, rfl, rfl, h1, Out.refl V W1⟩ ?_
  rintro q τ vs w ⟨A0, B0, rfl, rfl, hL, hw, hOw⟩
  have hLl : L.length = A0.length + B0.length := by rw [hL]; simp
  cases B0 with
  | nil =>
    rw [List.append_nil] at hL hw
    subst hL
    have hbw := hw.blk
    have hbw' : Blk w d 80 #[.int .i64 K.room, .map (some m), .int .i64 K.calls, .bool K.armed, .int .i64 K.kind, .int .i64 K.after, .bool K.off] := hbw
    ((conv => whnf); (repeat ((first | (refine VL.cons ?_) | (refine VL.nil ?_) | (refine VC.seqS rfl ?_) | (refine VC.region ?_) | (refine VC.draw ?_) | (refine VC.cond ?_) | (refine VC.block ?_) | (refine VC.exit ?_) | (refine VC.ret ?_) | (refine VC.skip ?_) | (refine VC.label ?_) | (refine VC.scope ?_) | (refine VQ.cons ?_) | (refine VQ.nil ?_) | (refine VG.nil ?_) | (refine VG.cons ?_) | (refine VH.nil ?_) | (refine VH.cons ?_)); (conv => whnf))))
    ((repeat ((first | (refine VL.cons ?_) | (refine VL.nil ?_) | (refine VC.seqS rfl ?_) | (refine VC.region ?_) | (refine VC.draw ?_) | (refine VC.cond ?_) | (refine VC.block ?_) | (refine VC.exit ?_) | (refine VC.ret ?_) | (refine VC.skip ?_) | (refine VC.label ?_) | (refine VC.scope ?_) | (refine VQ.cons ?_) | (refine VQ.nil ?_) | (refine VG.nil ?_) | (refine VG.cons ?_) | (refine VH.nil ?_) | (refine VH.cons ?_) | (refine VP.done ?_) | (refine VP.one ?_) | (refine VP.two ?_) | (refine VE.cons ?_) | (refine VE.nil ?_) | (refine VBool.t ?_) | (refine VBool.f ?_) | (refine VBool.dT (by omega) ?_) | (refine VBool.dF (by omega) ?_) | (refine VBool.nT (by omega) ?_) | (refine VBool.nF (by omega) ?_) | (refine VRead.lenS ?_) | (refine VRead.lenT ?_) | (refine VRead.fld ?_) | (refine VRead.load1 (by assumption) ?_) | (refine VRead.load (by assumption) ?_) | (refine VRead.neB ?_) | (refine VRead.eqPN ?_) | (refine VRead.nePN ?_) | (refine VRead.eqB ?_) | (refine VBool.nT rfl ?_) | (refine VBool.dT rfl ?_) | (refine VWrap.i64 (by omega) (by omega) ?_) | (refine VWrap.u64 (by omega) (by omega) ?_) | (refine VRead.at1 (by omega) ?_) | (refine VRead.eqNN ?_) | (refine VSem.convI ?_) | (refine VRead.convI ?_) | (refine VRead.rem (by omega) (by decide) ?_) | (refine VRead.neg ?_) | (refine VC.seq ?_)); (conv => whnf))))
    refine VUnit.storeB hbw' rfl rfl rfl ?_
    intro W2 hb2 hg2
    ((conv => whnf); (repeat ((first | (refine VL.cons ?_) | (refine VL.nil ?_) | (refine VC.seqS rfl ?_) | (refine VC.region ?_) | (refine VC.draw ?_) | (refine VC.cond ?_) | (refine VC.block ?_) | (refine VC.exit ?_) | (refine VC.ret ?_) | (refine VC.skip ?_) | (refine VC.label ?_) | (refine VC.scope ?_) | (refine VQ.cons ?_) | (refine VQ.nil ?_) | (refine VG.nil ?_) | (refine VG.cons ?_) | (refine VH.nil ?_) | (refine VH.cons ?_)); (conv => whnf))))
    ((repeat ((first | (refine VL.cons ?_) | (refine VL.nil ?_) | (refine VC.seqS rfl ?_) | (refine VC.region ?_) | (refine VC.draw ?_) | (refine VC.cond ?_) | (refine VC.block ?_) | (refine VC.exit ?_) | (refine VC.ret ?_) | (refine VC.skip ?_) | (refine VC.label ?_) | (refine VC.scope ?_) | (refine VQ.cons ?_) | (refine VQ.nil ?_) | (refine VG.nil ?_) | (refine VG.cons ?_) | (refine VH.nil ?_) | (refine VH.cons ?_) | (refine VP.done ?_) | (refine VP.one ?_) | (refine VP.two ?_) | (refine VE.cons ?_) | (refine VE.nil ?_) | (refine VBool.t ?_) | (refine VBool.f ?_) | (refine VBool.dT (by omega) ?_) | (refine VBool.dF (by omega) ?_) | (refine VBool.nT (by omega) ?_) | (refine VBool.nF (by omega) ?_) | (refine VRead.lenS ?_) | (refine VRead.lenT ?_) | (refine VRead.fld ?_) | (refine VRead.load1 (by assumption) ?_) | (refine VRead.load (by assumption) ?_) | (refine VRead.neB ?_) | (refine VRead.eqPN ?_) | (refine VRead.nePN ?_) | (refine VRead.eqB ?_) | (refine VBool.nT rfl ?_) | (refine VBool.dT rfl ?_) | (refine VWrap.i64 (by omega) (by omega) ?_) | (refine VWrap.u64 (by omega) (by omega) ?_) | (refine VRead.at1 (by omega) ?_) | (refine VRead.eqNN ?_) | (refine VSem.convI ?_) | (refine VRead.convI ?_) | (refine VRead.rem (by omega) (by decide) ?_) | (refine VRead.neg ?_) | (refine VC.seq ?_)); (conv => whnf))))
    refine VUnit.storeB hb2 rfl rfl rfl ?_
    intro W3 hb3 hg3
    ((conv => whnf); (repeat ((first | (refine VL.cons ?_) | (refine VL.nil ?_) | (refine VC.seqS rfl ?_) | (refine VC.region ?_) | (refine VC.draw ?_) | (refine VC.cond ?_) | (refine VC.block ?_) | (refine VC.exit ?_) | (refine VC.ret ?_) | (refine VC.skip ?_) | (refine VC.label ?_) | (refine VC.scope ?_) | (refine VQ.cons ?_) | (refine VQ.nil ?_) | (refine VG.nil ?_) | (refine VG.cons ?_) | (refine VH.nil ?_) | (refine VH.cons ?_)); (conv => whnf))))
    ((repeat ((first | (refine VL.cons ?_) | (refine VL.nil ?_) | (refine VC.seqS rfl ?_) | (refine VC.region ?_) | (refine VC.draw ?_) | (refine VC.cond ?_) | (refine VC.block ?_) | (refine VC.exit ?_) | (refine VC.ret ?_) | (refine VC.skip ?_) | (refine VC.label ?_) | (refine VC.scope ?_) | (refine VQ.cons ?_) | (refine VQ.nil ?_) | (refine VG.nil ?_) | (refine VG.cons ?_) | (refine VH.nil ?_) | (refine VH.cons ?_) | (refine VP.done ?_) | (refine VP.one ?_) | (refine VP.two ?_) | (refine VE.cons ?_) | (refine VE.nil ?_) | (refine VBool.t ?_) | (refine VBool.f ?_) | (refine VBool.dT (by omega) ?_) | (refine VBool.dF (by omega) ?_) | (refine VBool.nT (by omega) ?_) | (refine VBool.nF (by omega) ?_) | (refine VRead.lenS ?_) | (refine VRead.lenT ?_) | (refine VRead.fld ?_) | (refine VRead.load1 (by assumption) ?_) | (refine VRead.load (by assumption) ?_) | (refine VRead.neB ?_) | (refine VRead.eqPN ?_) | (refine VRead.nePN ?_) | (refine VRead.eqB ?_) | (refine VBool.nT rfl ?_) | (refine VBool.dT rfl ?_) | (refine VWrap.i64 (by omega) (by omega) ?_) | (refine VWrap.u64 (by omega) (by omega) ?_) | (refine VRead.at1 (by omega) ?_) | (refine VRead.eqNN ?_) | (refine VSem.convI ?_) | (refine VRead.convI ?_) | (refine VRead.rem (by omega) (by decide) ?_) | (refine VRead.neg ?_) | (refine VC.seq ?_)); (conv => whnf))))
    have hg := only_trans hg2 hg3
    have h3 : DiskAt W3 V d m c K.crash (crashL ps 0 L) := hw.own hb3 hg
    refine ⟨rfl, h3.more (fun j _ hj => (hV1 j hj).1), ?_⟩
    exact (Out.new hB1).trans ((hOw.trans (Out.grown hg hw.hd)).mono (fun j hj => (hV1 j hj).1))
  | cons p B0 =>
    have hp : p ∈ L := by rw [hL]; simp
    have hsp := hsure p hp
    have hbp := hbig p hp
    have hnp := hnm p hp
    have hrw := hr1.out (Nat.le_trans (Nat.le_refl _) hB1.size) hoffV hOw
    have hrNw := hrN.out (Nat.le_refl _) hoffN hOw
    have hf := tfind_crash (L := L) (ps := ps) (A := A0) (B := B0) (p := p) hw.ris
    obtain ⟨hVg, Af, kf, hbf, hkf, hlf⟩ := hw.fl p (by simp)
    obtain ⟨ad, u, rfl, hbl, hu, hc⟩ := hrNw.at_ (show A0.length < L.length by simp at hLl; omega)
    obtain rfl : encStr p.1 = u := by
      rw [hL] at hu
      simpa using hu
    simp only [List.length_cons] at hLl
    have hbw := hw.blk
    have hbw' : Blk w d 80 #[.int .i64 K.room, .map (some m), .int .i64 K.calls, .bool K.armed, .int .i64 K.kind, .int .i64 K.after, .bool K.off] := hbw
    ((conv => whnf); (repeat ((first | (refine VL.cons ?_) | (refine VL.nil ?_) | (refine VC.seqS rfl ?_) | (refine VC.region ?_) | (refine VC.draw ?_) | (refine VC.cond ?_) | (refine VC.block ?_) | (refine VC.exit ?_) | (refine VC.ret ?_) | (refine VC.skip ?_) | (refine VC.label ?_) | (refine VC.scope ?_) | (refine VQ.cons ?_) | (refine VQ.nil ?_) | (refine VG.nil ?_) | (refine VG.cons ?_) | (refine VH.nil ?_) | (refine VH.cons ?_)); (conv => whnf))))
    (repeat (first | ((first | (refine VL.cons ?_) | (refine VL.nil ?_) | (refine VC.seqS rfl ?_) | (refine VC.region ?_) | (refine VC.draw ?_) | (refine VC.cond ?_) | (refine VC.block ?_) | (refine VC.exit ?_) | (refine VC.ret ?_) | (refine VC.skip ?_) | (refine VC.label ?_) | (refine VC.scope ?_) | (refine VQ.cons ?_) | (refine VQ.nil ?_) | (refine VG.nil ?_) | (refine VG.cons ?_) | (refine VH.nil ?_) | (refine VH.cons ?_) | (refine VP.done ?_) | (refine VP.one ?_) | (refine VP.two ?_) | (refine VE.cons ?_) | (refine VE.nil ?_) | (refine VBool.t ?_) | (refine VBool.f ?_) | (refine VBool.dT (by omega) ?_) | (refine VBool.dF (by omega) ?_) | (refine VBool.nT (by omega) ?_) | (refine VBool.nF (by omega) ?_) | (refine VRead.lenS ?_) | (refine VRead.lenT ?_) | (refine VRead.fld ?_) | (refine VRead.load1 (by assumption) ?_) | (refine VRead.load (by assumption) ?_) | (refine VRead.neB ?_) | (refine VRead.eqPN ?_) | (refine VRead.nePN ?_) | (refine VRead.eqB ?_) | (refine VBool.nT rfl ?_) | (refine VBool.dT rfl ?_) | (refine VWrap.i64 (by omega) (by omega) ?_) | (refine VWrap.u64 (by omega) (by omega) ?_) | (refine VRead.at1 (by omega) ?_) | (refine VRead.eqNN ?_) | (refine VSem.convI ?_) | (refine VRead.convI ?_) | (refine VRead.rem (by omega) (by decide) ?_) | (refine VRead.neg ?_) | (refine VC.seq ?_)); (conv => whnf)) | (refine VRead.loadB hbw' rfl rfl ?_; (conv => whnf))))
    refine dLook hw.map (by omega) ?_
    rw [hf]
    ((repeat ((first | (refine VL.cons ?_) | (refine VL.nil ?_) | (refine VC.seqS rfl ?_) | (refine VC.region ?_) | (refine VC.draw ?_) | (refine VC.cond ?_) | (refine VC.block ?_) | (refine VC.exit ?_) | (refine VC.ret ?_) | (refine VC.skip ?_) | (refine VC.label ?_) | (refine VC.scope ?_) | (refine VQ.cons ?_) | (refine VQ.nil ?_) | (refine VG.nil ?_) | (refine VG.cons ?_) | (refine VH.nil ?_) | (refine VH.cons ?_) | (refine VP.done ?_) | (refine VP.one ?_) | (refine VP.two ?_) | (refine VE.cons ?_) | (refine VE.nil ?_) | (refine VBool.t ?_) | (refine VBool.f ?_) | (refine VBool.dT (by omega) ?_) | (refine VBool.dF (by omega) ?_) | (refine VBool.nT (by omega) ?_) | (refine VBool.nF (by omega) ?_) | (refine VRead.lenS ?_) | (refine VRead.lenT ?_) | (refine VRead.fld ?_) | (refine VRead.load1 (by assumption) ?_) | (refine VRead.load (by assumption) ?_) | (refine VRead.neB ?_) | (refine VRead.eqPN ?_) | (refine VRead.nePN ?_) | (refine VRead.eqB ?_) | (refine VBool.nT rfl ?_) | (refine VBool.dT rfl ?_) | (refine VWrap.i64 (by omega) (by omega) ?_) | (refine VWrap.u64 (by omega) (by omega) ?_) | (refine VRead.at1 (by omega) ?_) | (refine VRead.eqNN ?_) | (refine VSem.convI ?_) | (refine VRead.convI ?_) | (refine VRead.rem (by omega) (by decide) ?_) | (refine VRead.neg ?_)); (conv => whnf))))
    refine VC.cut [7] [(7, 7), (22, 31)] (fun vs X => vs = [.int .i64 (keepAt ps A0.length)] ∧ X = w) (by kernel_rfl) ?_ ?_
    · by_cases h0 : n = 0
      · subst h0
        have e : keepAt ps A0.length = 0 := by unfold keepAt; rw [if_pos hpl]
        ((conv => whnf); (repeat ((first | (refine VL.cons ?_) | (refine VL.nil ?_) | (refine VC.seqS rfl ?_) | (refine VC.region ?_) | (refine VC.draw ?_) | (refine VC.cond ?_) | (refine VC.block ?_) | (refine VC.exit ?_) | (refine VC.ret ?_) | (refine VC.skip ?_) | (refine VC.label ?_) | (refine VC.scope ?_) | (refine VQ.cons ?_) | (refine VQ.nil ?_) | (refine VG.nil ?_) | (refine VG.cons ?_) | (refine VH.nil ?_) | (refine VH.cons ?_)); (conv => whnf))))
        ((repeat ((first | (refine VL.cons ?_) | (refine VL.nil ?_) | (refine VC.seqS rfl ?_) | (refine VC.region ?_) | (refine VC.draw ?_) | (refine VC.cond ?_) | (refine VC.block ?_) | (refine VC.exit ?_) | (refine VC.ret ?_) | (refine VC.skip ?_) | (refine VC.label ?_) | (refine VC.scope ?_) | (refine VQ.cons ?_) | (refine VQ.nil ?_) | (refine VG.nil ?_) | (refine VG.cons ?_) | (refine VH.nil ?_) | (refine VH.cons ?_) | (refine VP.done ?_) | (refine VP.one ?_) | (refine VP.two ?_) | (refine VE.cons ?_) | (refine VE.nil ?_) | (refine VBool.t ?_) | (refine VBool.f ?_) | (refine VBool.dT (by omega) ?_) | (refine VBool.dF (by omega) ?_) | (refine VBool.nT (by omega) ?_) | (refine VBool.nF (by omega) ?_) | (refine VRead.lenS ?_) | (refine VRead.lenT ?_) | (refine VRead.fld ?_) | (refine VRead.load1 (by assumption) ?_) | (refine VRead.load (by assumption) ?_) | (refine VRead.neB ?_) | (refine VRead.eqPN ?_) | (refine VRead.nePN ?_) | (refine VRead.eqB ?_) | (refine VBool.nT rfl ?_) | (refine VBool.dT rfl ?_) | (refine VWrap.i64 (by omega) (by omega) ?_) | (refine VWrap.u64 (by omega) (by omega) ?_) | (refine VRead.at1 (by omega) ?_) | (refine VRead.eqNN ?_) | (refine VSem.convI ?_) | (refine VRead.convI ?_) | (refine VRead.rem (by omega) (by decide) ?_) | (refine VRead.neg ?_) | (refine VC.seq ?_)); (conv => whnf))))
        exact ⟨by rw [e]; rfl, rfl⟩
      · have hj : A0.length % n < n := Nat.mod_lt _ (by omega)
        obtain ⟨ap, up, rfl, hbl2, hu2, hc2⟩ := hrw.at_ hj
        have e : up = .int .i64 (keepAt ps A0.length) := by
          unfold iv at hu2
          obtain ⟨x, hx, rfl⟩ := map_at hu2
          unfold keepAt
          rw [if_neg (by omega), hpl, List.getD_eq_getElem?_getD, hx]
          rfl
        subst e
        ((conv => whnf); (repeat ((first | (refine VL.cons ?_) | (refine VL.nil ?_) | (refine VC.seqS rfl ?_) | (refine VC.region ?_) | (refine VC.draw ?_) | (refine VC.cond ?_) | (refine VC.block ?_) | (refine VC.exit ?_) | (refine VC.ret ?_) | (refine VC.skip ?_) | (refine VC.label ?_) | (refine VC.scope ?_) | (refine VQ.cons ?_) | (refine VQ.nil ?_) | (refine VG.nil ?_) | (refine VG.cons ?_) | (refine VH.nil ?_) | (refine VH.cons ?_)); (conv => whnf))))
        (repeat (first | ((first | (refine VL.cons ?_) | (refine VL.nil ?_) | (refine VC.seqS rfl ?_) | (refine VC.region ?_) | (refine VC.draw ?_) | (refine VC.cond ?_) | (refine VC.block ?_) | (refine VC.exit ?_) | (refine VC.ret ?_) | (refine VC.skip ?_) | (refine VC.label ?_) | (refine VC.scope ?_) | (refine VQ.cons ?_) | (refine VQ.nil ?_) | (refine VG.nil ?_) | (refine VG.cons ?_) | (refine VH.nil ?_) | (refine VH.cons ?_) | (refine VP.done ?_) | (refine VP.one ?_) | (refine VP.two ?_) | (refine VE.cons ?_) | (refine VE.nil ?_) | (refine VBool.t ?_) | (refine VBool.f ?_) | (refine VBool.dT (by omega) ?_) | (refine VBool.dF (by omega) ?_) | (refine VBool.nT (by omega) ?_) | (refine VBool.nF (by omega) ?_) | (refine VRead.lenS ?_) | (refine VRead.lenT ?_) | (refine VRead.fld ?_) | (refine VRead.load1 (by assumption) ?_) | (refine VRead.load (by assumption) ?_) | (refine VRead.neB ?_) | (refine VRead.eqPN ?_) | (refine VRead.nePN ?_) | (refine VRead.eqB ?_) | (refine VBool.nT rfl ?_) | (refine VBool.dT rfl ?_) | (refine VWrap.i64 (by omega) (by omega) ?_) | (refine VWrap.u64 (by omega) (by omega) ?_) | (refine VRead.at1 (by omega) ?_) | (refine VRead.eqNN ?_) | (refine VSem.convI ?_) | (refine VRead.convI ?_) | (refine VRead.rem (by omega) (by decide) ?_) | (refine VRead.neg ?_) | (refine VC.seq ?_)); (conv => whnf)) | (refine VRead.remN (by omega) ?_; (conv => whnf))))
        exact ⟨rfl, rfl⟩
    rintro τ2 vs2 w2 ⟨rfl, rfl⟩
    have hka : (max 0 (min (keepAt ps A0.length) ((p.2.2.b.length : Int) - p.2.2.sure))) = ((keepN ps A0.length p.2.2 - p.2.2.sure : Nat) : Int) := by
      unfold keepN; omega
    obtain ⟨hk1, hk2⟩ := keepN_le (ps := ps) (i := A0.length) hsp
    ((conv => whnf); (repeat ((first | (refine VL.cons ?_) | (refine VL.nil ?_) | (refine VC.seqS rfl ?_) | (refine VC.region ?_) | (refine VC.draw ?_) | (refine VC.cond ?_) | (refine VC.block ?_) | (refine VC.exit ?_) | (refine VC.ret ?_) | (refine VC.skip ?_) | (refine VC.label ?_) | (refine VC.scope ?_) | (refine VQ.cons ?_) | (refine VQ.nil ?_) | (refine VG.nil ?_) | (refine VG.cons ?_) | (refine VH.nil ?_) | (refine VH.cons ?_)); (conv => whnf))))
    ((repeat ((first | (refine VL.cons ?_) | (refine VL.nil ?_) | (refine VC.seqS rfl ?_) | (refine VC.region ?_) | (refine VC.draw ?_) | (refine VC.cond ?_) | (refine VC.block ?_) | (refine VC.exit ?_) | (refine VC.ret ?_) | (refine VC.skip ?_) | (refine VC.label ?_) | (refine VC.scope ?_) | (refine VQ.cons ?_) | (refine VQ.nil ?_) | (refine VG.nil ?_) | (refine VG.cons ?_) | (refine VH.nil ?_) | (refine VH.cons ?_) | (refine VP.done ?_) | (refine VP.one ?_) | (refine VP.two ?_) | (refine VE.cons ?_) | (refine VE.nil ?_) | (refine VBool.t ?_) | (refine VBool.f ?_) | (refine VBool.dT (by omega) ?_) | (refine VBool.dF (by omega) ?_) | (refine VBool.nT (by omega) ?_) | (refine VBool.nF (by omega) ?_) | (refine VRead.lenS ?_) | (refine VRead.lenT ?_) | (refine VRead.fld ?_) | (refine VRead.load1 (by assumption) ?_) | (refine VRead.load (by assumption) ?_) | (refine VRead.neB ?_) | (refine VRead.eqPN ?_) | (refine VRead.nePN ?_) | (refine VRead.eqB ?_) | (refine VBool.nT rfl ?_) | (refine VBool.dT rfl ?_) | (refine VWrap.i64 (by omega) (by omega) ?_) | (refine VWrap.u64 (by omega) (by omega) ?_) | (refine VRead.at1 (by omega) ?_) | (refine VRead.eqNN ?_) | (refine VSem.convI ?_) | (refine VRead.convI ?_) | (refine VRead.rem (by omega) (by decide) ?_) | (refine VRead.neg ?_) | (refine VC.seq ?_)); (conv => whnf))))
    (refine VDraw.seg (Eq (World.drewN _ 1)) [] [0, 1, 2, 3, 4, 5, 6, 7, 8, 9, 10, 11, 12, 13] (by kernel_rfl) (by kernel_rfl) rfl ?_; (conv => whnf))
    (repeat ((first | (refine VRead.loadB hbf rfl rfl ?_) | (refine VL.cons ?_) | (refine VL.nil ?_) | (refine VC.seqS rfl ?_) | (refine VC.region ?_) | (refine VC.draw ?_) | (refine VC.cond ?_) | (refine VC.block ?_) | (refine VC.exit ?_) | (refine VC.ret ?_) | (refine VC.skip ?_) | (refine VC.label ?_) | (refine VC.scope ?_) | (refine VQ.cons ?_) | (refine VQ.nil ?_) | (refine VG.nil ?_) | (refine VG.cons ?_) | (refine VH.nil ?_) | (refine VH.cons ?_) | (refine VP.done ?_) | (refine VP.one ?_) | (refine VP.two ?_) | (refine VE.cons ?_) | (refine VE.nil ?_) | (refine VBool.t ?_) | (refine VBool.f ?_) | (refine VBool.dT (by omega) ?_) | (refine VBool.dF (by omega) ?_) | (refine VBool.nT (by omega) ?_) | (refine VBool.nF (by omega) ?_) | (refine VRead.lenS ?_) | (refine VRead.lenT ?_) | (refine VRead.fld ?_) | (refine VRead.load1 (by assumption) ?_) | (refine VRead.load (by assumption) ?_) | (refine VRead.neB ?_) | (refine VRead.eqPN ?_) | (refine VRead.nePN ?_) | (refine VRead.eqB ?_) | (refine VBool.nT rfl ?_) | (refine VBool.dT rfl ?_) | (refine VWrap.i64 (by omega) (by omega) ?_) | (refine VWrap.u64 (by omega) (by omega) ?_) | (refine VRead.at1 (by omega) ?_) | (refine VRead.eqNN ?_) | (refine VSem.convI ?_) | (refine VRead.convI ?_) | (refine VRead.rem (by omega) (by decide) ?_) | (refine VRead.neg ?_) | (refine VC.seq ?_)); (conv => whnf)))
    refine VRead.minZ (z := min (keepAt ps A0.length) ((p.2.2.b.length : Int) - p.2.2.sure)) (by split <;> omega) ?_
    (conv => whnf)
    (repeat ((first | (refine VRead.loadB hbf rfl rfl ?_) | (refine VL.cons ?_) | (refine VL.nil ?_) | (refine VC.seqS rfl ?_) | (refine VC.region ?_) | (refine VC.draw ?_) | (refine VC.cond ?_) | (refine VC.block ?_) | (refine VC.exit ?_) | (refine VC.ret ?_) | (refine VC.skip ?_) | (refine VC.label ?_) | (refine VC.scope ?_) | (refine VQ.cons ?_) | (refine VQ.nil ?_) | (refine VG.nil ?_) | (refine VG.cons ?_) | (refine VH.nil ?_) | (refine VH.cons ?_) | (refine VP.done ?_) | (refine VP.one ?_) | (refine VP.two ?_) | (refine VE.cons ?_) | (refine VE.nil ?_) | (refine VBool.t ?_) | (refine VBool.f ?_) | (refine VBool.dT (by omega) ?_) | (refine VBool.dF (by omega) ?_) | (refine VBool.nT (by omega) ?_) | (refine VBool.nF (by omega) ?_) | (refine VRead.lenS ?_) | (refine VRead.lenT ?_) | (refine VRead.fld ?_) | (refine VRead.load1 (by assumption) ?_) | (refine VRead.load (by assumption) ?_) | (refine VRead.neB ?_) | (refine VRead.eqPN ?_) | (refine VRead.nePN ?_) | (refine VRead.eqB ?_) | (refine VBool.nT rfl ?_) | (refine VBool.dT rfl ?_) | (refine VWrap.i64 (by omega) (by omega) ?_) | (refine VWrap.u64 (by omega) (by omega) ?_) | (refine VRead.at1 (by omega) ?_) | (refine VRead.eqNN ?_) | (refine VSem.convI ?_) | (refine VRead.convI ?_) | (refine VRead.rem (by omega) (by decide) ?_) | (refine VRead.neg ?_) | (refine VC.seq ?_)); (conv => whnf)))
    refine VRead.maxZ (z := ((keepN ps A0.length p.2.2 - p.2.2.sure : Nat) : Int)) (by rw [← hka]; split <;> omega) ?_
    ((conv => whnf); (repeat ((first | (refine VL.cons ?_) | (refine VL.nil ?_) | (refine VC.seqS rfl ?_) | (refine VC.region ?_) | (refine VC.draw ?_) | (refine VC.cond ?_) | (refine VC.block ?_) | (refine VC.exit ?_) | (refine VC.ret ?_) | (refine VC.skip ?_) | (refine VC.label ?_) | (refine VC.scope ?_) | (refine VQ.cons ?_) | (refine VQ.nil ?_) | (refine VG.nil ?_) | (refine VG.cons ?_) | (refine VH.nil ?_) | (refine VH.cons ?_)); (conv => whnf))))
    ((repeat ((first | (refine VL.cons ?_) | (refine VL.nil ?_) | (refine VC.seqS rfl ?_) | (refine VC.region ?_) | (refine VC.draw ?_) | (refine VC.cond ?_) | (refine VC.block ?_) | (refine VC.exit ?_) | (refine VC.ret ?_) | (refine VC.skip ?_) | (refine VC.label ?_) | (refine VC.scope ?_) | (refine VQ.cons ?_) | (refine VQ.nil ?_) | (refine VG.nil ?_) | (refine VG.cons ?_) | (refine VH.nil ?_) | (refine VH.cons ?_) | (refine VP.done ?_) | (refine VP.one ?_) | (refine VP.two ?_) | (refine VE.cons ?_) | (refine VE.nil ?_) | (refine VBool.t ?_) | (refine VBool.f ?_) | (refine VBool.dT (by omega) ?_) | (refine VBool.dF (by omega) ?_) | (refine VBool.nT (by omega) ?_) | (refine VBool.nF (by omega) ?_) | (refine VRead.lenS ?_) | (refine VRead.lenT ?_) | (refine VRead.fld ?_) | (refine VRead.load1 (by assumption) ?_) | (refine VRead.load (by assumption) ?_) | (refine VRead.neB ?_) | (refine VRead.eqPN ?_) | (refine VRead.nePN ?_) | (refine VRead.eqB ?_) | (refine VBool.nT rfl ?_) | (refine VBool.dT rfl ?_) | (refine VWrap.i64 (by omega) (by omega) ?_) | (refine VWrap.u64 (by omega) (by omega) ?_) | (refine VRead.at1 (by omega) ?_) | (refine VRead.eqNN ?_) | (refine VSem.convI ?_) | (refine VRead.convI ?_) | (refine VRead.rem (by omega) (by decide) ?_) | (refine VRead.neg ?_) | (refine VC.seq ?_)); (conv => whnf))))
    refine VDraw.last [0, 1, 2, 3, 4, 5, 6, 7, 8, 9, 10, 11, 12, 13, 14, 15, 16, 17, 18, 19] 20 (by kernel_rfl) (by kernel_rfl) ?_
    (conv => whnf)
    (repeat ((first | (refine VRead.loadB hbf rfl rfl ?_) | (refine VL.cons ?_) | (refine VL.nil ?_) | (refine VC.seqS rfl ?_) | (refine VC.region ?_) | (refine VC.draw ?_) | (refine VC.cond ?_) | (refine VC.block ?_) | (refine VC.exit ?_) | (refine VC.ret ?_) | (refine VC.skip ?_) | (refine VC.label ?_) | (refine VC.scope ?_) | (refine VQ.cons ?_) | (refine VQ.nil ?_) | (refine VG.nil ?_) | (refine VG.cons ?_) | (refine VH.nil ?_) | (refine VH.cons ?_) | (refine VP.done ?_) | (refine VP.one ?_) | (refine VP.two ?_) | (refine VE.cons ?_) | (refine VE.nil ?_) | (refine VBool.t ?_) | (refine VBool.f ?_) | (refine VBool.dT (by omega) ?_) | (refine VBool.dF (by omega) ?_) | (refine VBool.nT (by omega) ?_) | (refine VBool.nF (by omega) ?_) | (refine VRead.lenS ?_) | (refine VRead.lenT ?_) | (refine VRead.fld ?_) | (refine VRead.load1 (by assumption) ?_) | (refine VRead.load (by assumption) ?_) | (refine VRead.neB ?_) | (refine VRead.eqPN ?_) | (refine VRead.nePN ?_) | (refine VRead.eqB ?_) | (refine VBool.nT rfl ?_) | (refine VBool.dT rfl ?_) | (refine VWrap.i64 (by omega) (by omega) ?_) | (refine VWrap.u64 (by omega) (by omega) ?_) | (refine VRead.at1 (by omega) ?_) | (refine VRead.eqNN ?_) | (refine VSem.convI ?_) | (refine VRead.convI ?_) | (refine VRead.rem (by omega) (by decide) ?_) | (refine VRead.neg ?_) | (refine VC.seq ?_)); (conv => whnf)))
    refine VRead.cutHMn (q := keepN ps A0.length p.2.2) (by omega) (by omega) (by omega) ?_
    (conv => whnf)
    (repeat ((first | (refine VRead.loadB hbf rfl rfl ?_) | (refine VL.cons ?_) | (refine VL.nil ?_) | (refine VC.seqS rfl ?_) | (refine VC.region ?_) | (refine VC.draw ?_) | (refine VC.cond ?_) | (refine VC.block ?_) | (refine VC.exit ?_) | (refine VC.ret ?_) | (refine VC.skip ?_) | (refine VC.label ?_) | (refine VC.scope ?_) | (refine VQ.cons ?_) | (refine VQ.nil ?_) | (refine VG.nil ?_) | (refine VG.cons ?_) | (refine VH.nil ?_) | (refine VH.cons ?_) | (refine VP.done ?_) | (refine VP.one ?_) | (refine VP.two ?_) | (refine VE.cons ?_) | (refine VE.nil ?_) | (refine VBool.t ?_) | (refine VBool.f ?_) | (refine VBool.dT (by omega) ?_) | (refine VBool.dF (by omega) ?_) | (refine VBool.nT (by omega) ?_) | (refine VBool.nF (by omega) ?_) | (refine VRead.lenS ?_) | (refine VRead.lenT ?_) | (refine VRead.fld ?_) | (refine VRead.load1 (by assumption) ?_) | (refine VRead.load (by assumption) ?_) | (refine VRead.neB ?_) | (refine VRead.eqPN ?_) | (refine VRead.nePN ?_) | (refine VRead.eqB ?_) | (refine VBool.nT rfl ?_) | (refine VBool.dT rfl ?_) | (refine VWrap.i64 (by omega) (by omega) ?_) | (refine VWrap.u64 (by omega) (by omega) ?_) | (refine VRead.at1 (by omega) ?_) | (refine VRead.eqNN ?_) | (refine VSem.convI ?_) | (refine VRead.convI ?_) | (refine VRead.rem (by omega) (by decide) ?_) | (refine VRead.neg ?_) | (refine VC.seq ?_)); (conv => whnf)))
    refine VUnit.storeB hbf rfl rfl rfl ?_
    intro W3 hb3 hg3
    (conv => whnf)
    refine Keep.mk trivial ?_
    (conv => whnf)
    replace hb3 : Blk W3 p.2.1 90 #[.slice Af (keepN ps A0.length p.2.2) (keepN ps A0.length p.2.2), .int .i64 p.2.2.sure] := hb3
    ((conv => whnf); (repeat ((first | (refine VL.cons ?_) | (refine VL.nil ?_) | (refine VC.seqS rfl ?_) | (refine VC.region ?_) | (refine VC.draw ?_) | (refine VC.cond ?_) | (refine VC.block ?_) | (refine VC.exit ?_) | (refine VC.ret ?_) | (refine VC.skip ?_) | (refine VC.label ?_) | (refine VC.scope ?_) | (refine VQ.cons ?_) | (refine VQ.nil ?_) | (refine VG.nil ?_) | (refine VG.cons ?_) | (refine VH.nil ?_) | (refine VH.cons ?_)); (conv => whnf))))
    (repeat (first | ((first | (refine VL.cons ?_) | (refine VL.nil ?_) | (refine VC.seqS rfl ?_) | (refine VC.region ?_) | (refine VC.draw ?_) | (refine VC.cond ?_) | (refine VC.block ?_) | (refine VC.exit ?_) | (refine VC.ret ?_) | (refine VC.skip ?_) | (refine VC.label ?_) | (refine VC.scope ?_) | (refine VQ.cons ?_) | (refine VQ.nil ?_) | (refine VG.nil ?_) | (refine VG.cons ?_) | (refine VH.nil ?_) | (refine VH.cons ?_) | (refine VP.done ?_) | (refine VP.one ?_) | (refine VP.two ?_) | (refine VE.cons ?_) | (refine VE.nil ?_) | (refine VBool.t ?_) | (refine VBool.f ?_) | (refine VBool.dT (by omega) ?_) | (refine VBool.dF (by omega) ?_) | (refine VBool.nT (by omega) ?_) | (refine VBool.nF (by omega) ?_) | (refine VRead.lenS ?_) | (refine VRead.lenT ?_) | (refine VRead.fld ?_) | (refine VRead.load1 (by assumption) ?_) | (refine VRead.load (by assumption) ?_) | (refine VRead.neB ?_) | (refine VRead.eqPN ?_) | (refine VRead.nePN ?_) | (refine VRead.eqB ?_) | (refine VBool.nT rfl ?_) | (refine VBool.dT rfl ?_) | (refine VWrap.i64 (by omega) (by omega) ?_) | (refine VWrap.u64 (by omega) (by omega) ?_) | (refine VRead.at1 (by omega) ?_) | (refine VRead.eqNN ?_) | (refine VSem.convI ?_) | (refine VRead.convI ?_) | (refine VRead.rem (by omega) (by decide) ?_) | (refine VRead.neg ?_) | (refine VC.seq ?_)); (conv => whnf)) | (refine VRead.loadB hb3 rfl rfl ?_; (conv => whnf))))
    refine VUnit.storeB hb3 rfl rfl rfl ?_
    intro W4 hb4 hg4
    ((conv => whnf); (repeat ((first | (refine VL.cons ?_) | (refine VL.nil ?_) | (refine VC.seqS rfl ?_) | (refine VC.region ?_) | (refine VC.draw ?_) | (refine VC.cond ?_) | (refine VC.block ?_) | (refine VC.exit ?_) | (refine VC.ret ?_) | (refine VC.skip ?_) | (refine VC.label ?_) | (refine VC.scope ?_) | (refine VQ.cons ?_) | (refine VQ.nil ?_) | (refine VG.nil ?_) | (refine VG.cons ?_) | (refine VH.nil ?_) | (refine VH.cons ?_)); (conv => whnf))))
    ((repeat ((first | (refine VL.cons ?_) | (refine VL.nil ?_) | (refine VC.seqS rfl ?_) | (refine VC.region ?_) | (refine VC.draw ?_) | (refine VC.cond ?_) | (refine VC.block ?_) | (refine VC.exit ?_) | (refine VC.ret ?_) | (refine VC.skip ?_) | (refine VC.label ?_) | (refine VC.scope ?_) | (refine VQ.cons ?_) | (refine VQ.nil ?_) | (refine VG.nil ?_) | (refine VG.cons ?_) | (refine VH.nil ?_) | (refine VH.cons ?_) | (refine VP.done ?_) | (refine VP.one ?_) | (refine VP.two ?_) | (refine VE.cons ?_) | (refine VE.nil ?_) | (refine VBool.t ?_) | (refine VBool.f ?_) | (refine VBool.dT (by omega) ?_) | (refine VBool.dF (by omega) ?_) | (refine VBool.nT (by omega) ?_) | (refine VBool.nF (by omega) ?_) | (refine VRead.lenS ?_) | (refine VRead.lenT ?_) | (refine VRead.fld ?_) | (refine VRead.load1 (by assumption) ?_) | (refine VRead.load (by assumption) ?_) | (refine VRead.neB ?_) | (refine VRead.eqPN ?_) | (refine VRead.nePN ?_) | (refine VRead.eqB ?_) | (refine VBool.nT rfl ?_) | (refine VBool.dT rfl ?_) | (refine VWrap.i64 (by omega) (by omega) ?_) | (refine VWrap.u64 (by omega) (by omega) ?_) | (refine VRead.at1 (by omega) ?_) | (refine VRead.eqNN ?_) | (refine VSem.convI ?_) | (refine VRead.convI ?_) | (refine VRead.rem (by omega) (by decide) ?_) | (refine VRead.neg ?_) | (refine VC.seq ?_)); (conv => whnf))))
    have hg3' : w2.grownBy W3 (some p.2.1) := ⟨hg3.os, hg3.tape, hg3.output, hg3.size, hg3.block⟩
    have hg : w2.grownBy W4 (some p.2.1) := only_trans hg3' hg4
    have hlen : (p.2.2.b.take (keepN ps A0.length p.2.2)).length = keepN ps A0.length p.2.2 := by rw [List.length_take]; omega
    have h4 := hw.file (f' := crashF ps A0.length p.2.2) (k := keepN ps A0.length p.2.2) (A := Af) hf (by show Blk _ _ _ #[.slice _ (p.2.2.b.take (keepN ps A0.length p.2.2)).length _, _]; rw [hlen]; exact hb4) hg (by show (p.2.2.b.take (keepN ps A0.length p.2.2)).length ≤ _; rw [hlen]; exact Nat.le_refl _)
      (by show Lies W4 V Af (p.2.2.b.take (keepN ps A0.length p.2.2)).length (p.2.2.b.take (keepN ps A0.length p.2.2)); rw [hlen]; exact (hlf.take hk1).blk hbf hg (by decide))
    rw [show crashL ps 0 A0 ++ p :: B0 = crashL ps 0 A0 ++ (p.1, p.2) :: B0 from rfl, tset_old hw.ris] at h4
    refine ⟨_, by simp, A0 ++ [p], B0, ?_, rfl, by rw [hL]; simp, ?_, hOw.trans (Out.grown hg hVg)⟩
    · simp only [List.length_append, List.length_cons, List.length_nil]; rfl
    · rw [crashL_snoc, Nat.zero_add, List.append_assoc]
      exact h4
theorem dCrash_any (W : World) (U : Foot) (d : Nat) (S : DS) (n k : Nat) (A : Option Addr) (ps : List Int) (h : Disk W U d S) (hr : Reads W W.heap.size 1 A n (iv .i64 ps)) (hoff : Off U A n) (hn : n ≤ 1000000000000000) :
    Calls Try.prog 28 #[.pointer (some ⟨d, 0, none⟩), .slice A n k] W fun e W' => e = .returned (.tuple #[]) ∧ Disk W' U d (S.crash ps) ∧ Out U W W' := by
  have hwf' := h.1.crash ps
  obtain ⟨h0, m, c, L, h, hcc, hpl⟩ := h
  have hin : ∀ p ∈ L, (p.1, p.2.2) ∈ S.t := fun p hp => by rw [← hpl]; exact List.mem_map_of_mem (f := fun p : List UInt8 × (Nat × Fl) => (p.1, p.2.2)) hp
  have hlen : L.length = S.t.length := by rw [← hpl]; exact (tmap_length _ _).symm
  refine (dCrash_at W U d m c S.k L n k A ps h (by rw [hlen]; exact h0.t.few) (fun p hp => h0.t.sure _ (hin p hp)) (fun p hp => ?_) (fun p hp => (h0.t.names _ (hin p hp)).2) hr hoff hn).mono ?_
  · have := len_used (hin p hp)
    have := h0.t.fit
    have := h0.k.room
    simp only at *
    omega
  · rintro e W' ⟨rfl, h1, hO⟩
    exact ⟨rfl, ⟨hwf', m, c, _, h1, hcc, by rw [crashL_plain, hpl]; rfl⟩, hO⟩
end Go.Proofs.Ytebeidnmplnlpaa
end

section
set_option maxRecDepth 10000
namespace Go.Proofs.Ytebeidnmplnlpaa
set_option linter.unusedVariables false
open Go.RowKit
open Go.Maps (Keyed)
open Go.ChangeMaps Go.WideElems

theorem place_any (v n : Int) (w : World) (hv : -9223372036854775808 ≤ v ∧ v ≤ 9223372036854775807) (h0 : 1 ≤ n) (hn : n ≤ 4611686018427387904) :
    Calls Try.prog 19 #[.int .i64 v, .int .i64 n] w fun e w' => e = .returned (.int .i64 (v % n)) ∧ w' = w := by
  have t1 : -n < v.tmod n := Int.lt_tmod_of_pos v (by omega)
  have t2 : v.tmod n < n := Int.tmod_lt_of_pos v (by omega)
  have t3 : v.tmod n < 0 → v % n = v.tmod n + n := fun h => by
    rw [Int.tmod_eq_emod] at h ⊢
    split at h <;> rename_i hc
    · have := Int.emod_nonneg v (show n ≠ 0 by omega); omega
    · rw [if_neg hc]; omega
  have t4 : 0 ≤ v.tmod n → v % n = v.tmod n := fun h => by
    have hn' := Int.emod_lt_of_pos v (show 0 < n by omega)
    rw [Int.tmod_eq_emod] at h ⊢
    split at h <;> rename_i hc
    · rw [if_pos hc]; omega
    · omega
  refine calls_vc Try.func19 rfl (by kernel_rfl) ?_
  ((conv => whnf); (repeat ((first | (refine VL.cons ?_) | (refine VL.nil ?_) | (refine VC.seqS rfl ?_) | (refine VC.region ?_) | (refine VC.draw ?_) | (refine VC.cond ?_) | (refine VC.block ?_) | (refine VC.exit ?_) | (refine VC.ret ?_) | (refine VC.skip ?_) | (refine VC.label ?_) | (refine VC.scope ?_) | (refine VQ.cons ?_) | (refine VQ.nil ?_) | (refine VG.nil ?_) | (refine VG.cons ?_) | (refine VH.nil ?_) | (refine VH.cons ?_)); (conv => whnf))))
  refine VRead.remT (by omega) ?_
  generalize v.tmod n = r at *
  by_cases hr : r < 0
  · have e := t3 hr
    clear t3 t4
    ((conv => whnf); (repeat ((first | (refine VL.cons ?_) | (refine VL.nil ?_) | (refine VC.seqS rfl ?_) | (refine VC.region ?_) | (refine VC.draw ?_) | (refine VC.cond ?_) | (refine VC.block ?_) | (refine VC.exit ?_) | (refine VC.ret ?_) | (refine VC.skip ?_) | (refine VC.label ?_) | (refine VC.scope ?_) | (refine VQ.cons ?_) | (refine VQ.nil ?_) | (refine VG.nil ?_) | (refine VG.cons ?_) | (refine VH.nil ?_) | (refine VH.cons ?_)); (conv => whnf))))
    ((repeat ((first | (refine VL.cons ?_) | (refine VL.nil ?_) | (refine VC.seqS rfl ?_) | (refine VC.region ?_) | (refine VC.draw ?_) | (refine VC.cond ?_) | (refine VC.block ?_) | (refine VC.exit ?_) | (refine VC.ret ?_) | (refine VC.skip ?_) | (refine VC.label ?_) | (refine VC.scope ?_) | (refine VQ.cons ?_) | (refine VQ.nil ?_) | (refine VG.nil ?_) | (refine VG.cons ?_) | (refine VH.nil ?_) | (refine VH.cons ?_) | (refine VP.done ?_) | (refine VP.one ?_) | (refine VP.two ?_) | (refine VE.cons ?_) | (refine VE.nil ?_) | (refine VBool.t ?_) | (refine VBool.f ?_) | (refine VBool.dT (by omega) ?_) | (refine VBool.dF (by omega) ?_) | (refine VBool.nT (by omega) ?_) | (refine VBool.nF (by omega) ?_) | (refine VRead.lenS ?_) | (refine VRead.lenT ?_) | (refine VRead.fld ?_) | (refine VRead.load1 (by assumption) ?_) | (refine VRead.load (by assumption) ?_) | (refine VRead.neB ?_) | (refine VRead.eqPN ?_) | (refine VRead.nePN ?_) | (refine VRead.eqB ?_) | (refine VBool.nT rfl ?_) | (refine VBool.dT rfl ?_) | (refine VWrap.i64 (by omega) (by omega) ?_) | (refine VWrap.u64 (by omega) (by omega) ?_) | (refine VRead.at1 (by omega) ?_) | (refine VRead.eqNN ?_) | (refine VSem.convI ?_) | (refine VRead.convI ?_) | (refine VRead.rem (by omega) (by decide) ?_) | (refine VRead.neg ?_) | (refine VC.seq ?_)); (conv => whnf))))
    exact ⟨by rw [e]; rfl, rfl⟩
  · have e := t4 (by omega)
    clear t3 t4
    ((conv => whnf); (repeat ((first | (refine VL.cons ?_) | (refine VL.nil ?_) | (refine VC.seqS rfl ?_) | (refine VC.region ?_) | (refine VC.draw ?_) | (refine VC.cond ?_) | (refine VC.block ?_) | (refine VC.exit ?_) | (refine VC.ret ?_) | (refine VC.skip ?_) | (refine VC.label ?_) | (refine VC.scope ?_) | (refine VQ.cons ?_) | (refine VQ.nil ?_) | (refine VG.nil ?_) | (refine VG.cons ?_) | (refine VH.nil ?_) | (refine VH.cons ?_)); (conv => whnf))))
    ((repeat ((first | (refine VL.cons ?_) | (refine VL.nil ?_) | (refine VC.seqS rfl ?_) | (refine VC.region ?_) | (refine VC.draw ?_) | (refine VC.cond ?_) | (refine VC.block ?_) | (refine VC.exit ?_) | (refine VC.ret ?_) | (refine VC.skip ?_) | (refine VC.label ?_) | (refine VC.scope ?_) | (refine VQ.cons ?_) | (refine VQ.nil ?_) | (refine VG.nil ?_) | (refine VG.cons ?_) | (refine VH.nil ?_) | (refine VH.cons ?_) | (refine VP.done ?_) | (refine VP.one ?_) | (refine VP.two ?_) | (refine VE.cons ?_) | (refine VE.nil ?_) | (refine VBool.t ?_) | (refine VBool.f ?_) | (refine VBool.dT (by omega) ?_) | (refine VBool.dF (by omega) ?_) | (refine VBool.nT (by omega) ?_) | (refine VBool.nF (by omega) ?_) | (refine VRead.lenS ?_) | (refine VRead.lenT ?_) | (refine VRead.fld ?_) | (refine VRead.load1 (by assumption) ?_) | (refine VRead.load (by assumption) ?_) | (refine VRead.neB ?_) | (refine VRead.eqPN ?_) | (refine VRead.nePN ?_) | (refine VRead.eqB ?_) | (refine VBool.nT rfl ?_) | (refine VBool.dT rfl ?_) | (refine VWrap.i64 (by omega) (by omega) ?_) | (refine VWrap.u64 (by omega) (by omega) ?_) | (refine VRead.at1 (by omega) ?_) | (refine VRead.eqNN ?_) | (refine VSem.convI ?_) | (refine VRead.convI ?_) | (refine VRead.rem (by omega) (by decide) ?_) | (refine VRead.neg ?_) | (refine VC.seq ?_)); (conv => whnf))))
    exact ⟨by rw [e]; rfl, rfl⟩
theorem bytes_any (A : Option Addr) (n c B : Nat) (l : List UInt8) (W : World) (hn : n ≤ 140737488355328) (hrd : Reads W B 1 A n (bv l)) :
    Calls Try.prog 21 #[.slice A n c] W fun e W' => ∃ A' c', e = .returned (.slice A' n c') ∧ Own W' W.heap.size (.slice A' n c') n l ∧ Below W.heap.size W W' := by
  refine calls_vc Try.func21 rfl (by kernel_rfl) ?_
  ((conv => whnf); (repeat ((first | (refine VL.cons ?_) | (refine VL.nil ?_) | (refine VC.seqS rfl ?_) | (refine VC.region ?_) | (refine VC.draw ?_) | (refine VC.cond ?_) | (refine VC.block ?_) | (refine VC.exit ?_) | (refine VC.ret ?_) | (refine VC.skip ?_) | (refine VC.label ?_) | (refine VC.scope ?_) | (refine VQ.cons ?_) | (refine VQ.nil ?_) | (refine VG.nil ?_) | (refine VG.cons ?_) | (refine VH.nil ?_) | (refine VH.cons ?_)); (conv => whnf))))
  ((repeat ((first | (refine VL.cons ?_) | (refine VL.nil ?_) | (refine VC.seqS rfl ?_) | (refine VC.region ?_) | (refine VC.draw ?_) | (refine VC.cond ?_) | (refine VC.block ?_) | (refine VC.exit ?_) | (refine VC.ret ?_) | (refine VC.skip ?_) | (refine VC.label ?_) | (refine VC.scope ?_) | (refine VQ.cons ?_) | (refine VQ.nil ?_) | (refine VG.nil ?_) | (refine VG.cons ?_) | (refine VH.nil ?_) | (refine VH.cons ?_) | (refine VP.done ?_) | (refine VP.one ?_) | (refine VP.two ?_) | (refine VE.cons ?_) | (refine VE.nil ?_) | (refine VBool.t ?_) | (refine VBool.f ?_) | (refine VBool.dT (by omega) ?_) | (refine VBool.dF (by omega) ?_) | (refine VBool.nT (by omega) ?_) | (refine VBool.nF (by omega) ?_) | (refine VRead.lenS ?_) | (refine VRead.lenT ?_) | (refine VRead.fld ?_) | (refine VRead.load1 (by assumption) ?_) | (refine VRead.load (by assumption) ?_) | (refine VRead.neB ?_) | (refine VRead.eqPN ?_) | (refine VRead.nePN ?_) | (refine VRead.eqB ?_) | (refine VBool.nT rfl ?_) | (refine VBool.dT rfl ?_) | (refine VWrap.i64 (by omega) (by omega) ?_) | (refine VWrap.u64 (by omega) (by omega) ?_) | (refine VRead.at1 (by omega) ?_) | (refine VRead.eqNN ?_) | (refine VSem.convI ?_) | (refine VRead.convI ?_) | (refine VRead.rem (by omega) (by decide) ?_) | (refine VRead.neg ?_) | (refine VC.seq ?_)); (conv => whnf))))
  refine VSem.appO (Own.nil W W.heap.size) hrd (by omega) (Nat.le_refl _) ?_
  intro A' k' W1 hO1 _ hB1
  rw [Nat.zero_add, List.nil_append] at hO1
  rw [Nat.zero_add]
  ((conv => whnf); (repeat ((first | (refine VL.cons ?_) | (refine VL.nil ?_) | (refine VC.seqS rfl ?_) | (refine VC.region ?_) | (refine VC.draw ?_) | (refine VC.cond ?_) | (refine VC.block ?_) | (refine VC.exit ?_) | (refine VC.ret ?_) | (refine VC.skip ?_) | (refine VC.label ?_) | (refine VC.scope ?_) | (refine VQ.cons ?_) | (refine VQ.nil ?_) | (refine VG.nil ?_) | (refine VG.cons ?_) | (refine VH.nil ?_) | (refine VH.cons ?_)); (conv => whnf))))
  ((repeat ((first | (refine VL.cons ?_) | (refine VL.nil ?_) | (refine VC.seqS rfl ?_) | (refine VC.region ?_) | (refine VC.draw ?_) | (refine VC.cond ?_) | (refine VC.block ?_) | (refine VC.exit ?_) | (refine VC.ret ?_) | (refine VC.skip ?_) | (refine VC.label ?_) | (refine VC.scope ?_) | (refine VQ.cons ?_) | (refine VQ.nil ?_) | (refine VG.nil ?_) | (refine VG.cons ?_) | (refine VH.nil ?_) | (refine VH.cons ?_) | (refine VP.done ?_) | (refine VP.one ?_) | (refine VP.two ?_) | (refine VE.cons ?_) | (refine VE.nil ?_) | (refine VBool.t ?_) | (refine VBool.f ?_) | (refine VBool.dT (by omega) ?_) | (refine VBool.dF (by omega) ?_) | (refine VBool.nT (by omega) ?_) | (refine VBool.nF (by omega) ?_) | (refine VRead.lenS ?_) | (refine VRead.lenT ?_) | (refine VRead.fld ?_) | (refine VRead.load1 (by assumption) ?_) | (refine VRead.load (by assumption) ?_) | (refine VRead.neB ?_) | (refine VRead.eqPN ?_) | (refine VRead.nePN ?_) | (refine VRead.eqB ?_) | (refine VBool.nT rfl ?_) | (refine VBool.dT rfl ?_) | (refine VWrap.i64 (by omega) (by omega) ?_) | (refine VWrap.u64 (by omega) (by omega) ?_) | (refine VRead.at1 (by omega) ?_) | (refine VRead.eqNN ?_) | (refine VSem.convI ?_) | (refine VRead.convI ?_) | (refine VRead.rem (by omega) (by decide) ?_) | (refine VRead.neg ?_) | (refine VC.seq ?_)); (conv => whnf))))
  exact ⟨A', k', rfl, hO1, hB1⟩
theorem int_info : (Try.prog.info? 3).map (fun i => (i.zero, i.size, i.bytes)) = some (some (.int .i64 0), 1, 8) := by kernel_rfl
theorem iv_one : ∀ (l : List Int), ∀ u ∈ iv .i64 l, u.oneCell' = true := by
  intro l u hu
  unfold iv at hu
  obtain ⟨x, _, rfl⟩ := List.mem_map.1 hu
  rfl
/-- append of ints -/
theorem VSem.appI {w : World} {ty : TypeId} {B C n m c : Nat} {v : Value} {A : Option Addr} {l news : List Int} {K : Value → World → Prop} (hown : w.ownsRow B 3 1 v n (iv .i64 l)) (hr : Reads w C 1 A m (iv .i64 news)) (hn : n + m ≤ 17592186044416) (hB : B ≤ w.heap.size)
    (h : ∀ A' c' w', w'.ownsRow B 3 1 (.slice A' (n + m) c') (n + m) (iv .i64 (l ++ news)) → Below B w w' → K (.slice A' (n + m) c') w') :
    VSem Try.prog (Builtin.append_ #[28, 28] ty [v, .slice A m c].toArray) w K := by
  obtain ⟨i0, hi0, hz0, hz1, hz2⟩ := info_parts int_info
  refine VSem.appR (t := 28) (e := 3) Try.underlying28 hi0 hz0 hz1 hz2 rfl (by decide) hown hr (iv_one news) (by simp only [maxLen]; omega) (by omega) hB fun A' c' w' k1 k2 _ => ?_
  have e : iv .i64 l ++ iv .i64 news = iv .i64 (l ++ news) := by unfold iv; rw [List.map_append]
  rw [e] at k1
  exact h A' c' w' k1 ((Below.refl B w).grown k2 hB (fun k hk => (World.ownsRow.lt hown k hk).1))
theorem ints_any (A : Option Addr) (n c B : Nat) (l : List Int) (W : World) (hn : n ≤ 17592186044416) (hrd : Reads W B 1 A n (iv .i64 l)) :
    Calls Try.prog 29 #[.slice A n c] W fun e W' => ∃ A' c', e = .returned (.slice A' n c') ∧ W'.ownsRow W.heap.size 3 1 (.slice A' n c') n (iv .i64 l) ∧ Below W.heap.size W W' := by
  refine calls_vc Try.func29 rfl (by kernel_rfl) ?_
  ((conv => whnf); (repeat ((first | (refine VL.cons ?_) | (refine VL.nil ?_) | (refine VC.seqS rfl ?_) | (refine VC.region ?_) | (refine VC.draw ?_) | (refine VC.cond ?_) | (refine VC.block ?_) | (refine VC.exit ?_) | (refine VC.ret ?_) | (refine VC.skip ?_) | (refine VC.label ?_) | (refine VC.scope ?_) | (refine VQ.cons ?_) | (refine VQ.nil ?_) | (refine VG.nil ?_) | (refine VG.cons ?_) | (refine VH.nil ?_) | (refine VH.cons ?_)); (conv => whnf))))
  ((repeat ((first | (refine VL.cons ?_) | (refine VL.nil ?_) | (refine VC.seqS rfl ?_) | (refine VC.region ?_) | (refine VC.draw ?_) | (refine VC.cond ?_) | (refine VC.block ?_) | (refine VC.exit ?_) | (refine VC.ret ?_) | (refine VC.skip ?_) | (refine VC.label ?_) | (refine VC.scope ?_) | (refine VQ.cons ?_) | (refine VQ.nil ?_) | (refine VG.nil ?_) | (refine VG.cons ?_) | (refine VH.nil ?_) | (refine VH.cons ?_) | (refine VP.done ?_) | (refine VP.one ?_) | (refine VP.two ?_) | (refine VE.cons ?_) | (refine VE.nil ?_) | (refine VBool.t ?_) | (refine VBool.f ?_) | (refine VBool.dT (by omega) ?_) | (refine VBool.dF (by omega) ?_) | (refine VBool.nT (by omega) ?_) | (refine VBool.nF (by omega) ?_) | (refine VRead.lenS ?_) | (refine VRead.lenT ?_) | (refine VRead.fld ?_) | (refine VRead.load1 (by assumption) ?_) | (refine VRead.load (by assumption) ?_) | (refine VRead.neB ?_) | (refine VRead.eqPN ?_) | (refine VRead.nePN ?_) | (refine VRead.eqB ?_) | (refine VBool.nT rfl ?_) | (refine VBool.dT rfl ?_) | (refine VWrap.i64 (by omega) (by omega) ?_) | (refine VWrap.u64 (by omega) (by omega) ?_) | (refine VRead.at1 (by omega) ?_) | (refine VRead.eqNN ?_) | (refine VSem.convI ?_) | (refine VRead.convI ?_) | (refine VRead.rem (by omega) (by decide) ?_) | (refine VRead.neg ?_) | (refine VC.seq ?_)); (conv => whnf))))
  refine VSem.appI (l := []) (World.ownsRow_nil W W.heap.size _ _) hrd (by omega) (Nat.le_refl _) ?_
  intro A' k' W1 hO1 hB1
  rw [Nat.zero_add, List.nil_append] at hO1
  rw [Nat.zero_add]
  ((conv => whnf); (repeat ((first | (refine VL.cons ?_) | (refine VL.nil ?_) | (refine VC.seqS rfl ?_) | (refine VC.region ?_) | (refine VC.draw ?_) | (refine VC.cond ?_) | (refine VC.block ?_) | (refine VC.exit ?_) | (refine VC.ret ?_) | (refine VC.skip ?_) | (refine VC.label ?_) | (refine VC.scope ?_) | (refine VQ.cons ?_) | (refine VQ.nil ?_) | (refine VG.nil ?_) | (refine VG.cons ?_) | (refine VH.nil ?_) | (refine VH.cons ?_)); (conv => whnf))))
  ((repeat ((first | (refine VL.cons ?_) | (refine VL.nil ?_) | (refine VC.seqS rfl ?_) | (refine VC.region ?_) | (refine VC.draw ?_) | (refine VC.cond ?_) | (refine VC.block ?_) | (refine VC.exit ?_) | (refine VC.ret ?_) | (refine VC.skip ?_) | (refine VC.label ?_) | (refine VC.scope ?_) | (refine VQ.cons ?_) | (refine VQ.nil ?_) | (refine VG.nil ?_) | (refine VG.cons ?_) | (refine VH.nil ?_) | (refine VH.cons ?_) | (refine VP.done ?_) | (refine VP.one ?_) | (refine VP.two ?_) | (refine VE.cons ?_) | (refine VE.nil ?_) | (refine VBool.t ?_) | (refine VBool.f ?_) | (refine VBool.dT (by omega) ?_) | (refine VBool.dF (by omega) ?_) | (refine VBool.nT (by omega) ?_) | (refine VBool.nF (by omega) ?_) | (refine VRead.lenS ?_) | (refine VRead.lenT ?_) | (refine VRead.fld ?_) | (refine VRead.load1 (by assumption) ?_) | (refine VRead.load (by assumption) ?_) | (refine VRead.neB ?_) | (refine VRead.eqPN ?_) | (refine VRead.nePN ?_) | (refine VRead.eqB ?_) | (refine VBool.nT rfl ?_) | (refine VBool.dT rfl ?_) | (refine VWrap.i64 (by omega) (by omega) ?_) | (refine VWrap.u64 (by omega) (by omega) ?_) | (refine VRead.at1 (by omega) ?_) | (refine VRead.eqNN ?_) | (refine VSem.convI ?_) | (refine VRead.convI ?_) | (refine VRead.rem (by omega) (by decide) ?_) | (refine VRead.neg ?_) | (refine VC.seq ?_)); (conv => whnf))))
  exact ⟨A', k', rfl, hO1, hB1⟩
/-! ### names by numbers -/
/-! ### the document's example -/
end Go.Proofs.Ytebeidnmplnlpaa
end

section
set_option maxRecDepth 10000
namespace Go.Proofs.Ytebeidnmplnlpaa
set_option linter.unusedVariables false
open Go.RowKit

def k0 (room calls : Int) : Dk := ⟨room, calls, false, 0, 0, false⟩
section
variable {r c : Int} {T : PT} {s t l : List UInt8} {f : Fl}
theorem k0_call : (k0 r c).call = (0, k0 r (c + 1)) := rfl
theorem k0_create (hs : nameOk s) (hf : ¬ (tfind T s = none ∧ 64 ≤ T.length)) : DS.create ⟨k0 r c, T⟩ s = (0, ⟨k0 r (c + 1), tset T s ⟨[], 0⟩⟩) := by
  unfold DS.create
  rw [k0_call, if_neg (by simp), if_neg (not_not_intro hs), if_neg hf]
theorem k0_append (hs : nameOk s) (hf : tfind T s = some f) (hr : (used T : Int) + l.length ≤ r) : DS.append ⟨k0 r c, T⟩ s l = (0, ⟨k0 r (c + 1), tset T s ⟨f.b ++ l, f.sure⟩⟩) := by
  unfold DS.append
  rw [k0_call, if_neg (by simp), if_neg (not_not_intro hs)]
  simp only
  rw [hf]
  unfold DS.put
  exact if_neg (Int.not_lt.2 hr)
theorem k0_sync (hs : nameOk s) (hf : tfind T s = some f) : DS.sync ⟨k0 r c, T⟩ s = (0, ⟨k0 r (c + 1), tset T s ⟨f.b, f.b.length⟩⟩) := by
  unfold DS.sync
  rw [k0_call, if_neg (by simp), if_neg (not_not_intro hs)]
  simp only
  rw [hf]
theorem k0_rename (hs : nameOk s) (ht : nameOk t) (hf : tfind T s = some f) : DS.rename ⟨k0 r c, T⟩ s t = (0, ⟨k0 r (c + 1), tset (tdel T s) t f⟩) := by
  unfold DS.rename
  rw [k0_call, if_neg (by simp), if_neg (not_not_intro ⟨hs, ht⟩)]
  simp only
  rw [hf]
theorem k0_remove (hs : nameOk s) (hf : tfind T s = some f) : DS.remove ⟨k0 r c, T⟩ s = (0, ⟨k0 r (c + 1), tdel T s⟩) := by
  unfold DS.remove
  rw [k0_call, if_neg (by simp), if_neg (not_not_intro hs)]
  simp only
  rw [hf]
end
theorem new_k0 {room : Int} (h : 0 ≤ room) (h2 : room ≤ 16777216) : DS.new room = ⟨k0 room 0, []⟩ := by
  unfold DS.new Dk.new k0
  rw [show max 0 (min room 16777216) = room by omega]
end Go.Proofs.Ytebeidnmplnlpaa
end

section
namespace Go.Proofs.Ytebeidnmplnlpaa
set_option linter.unusedVariables false
open Go.RowKit

def vsegL (P : Program) (S : World → Prop) (ops : List Oper) (K : Env → World → Prop) : List (List Nat × Nat) → List Nat → Nat → Env → World → Prop
  | [], l, c, σ, w => vquiet P S ops (fun σ' => vone P (fun _ => True) ops K (nthOp ops c) σ' w) (picks ops l) σ
  | (l1, c1) :: r, l, c, σ, w => vquiet P S ops (fun σ' => vone P S ops (fun σ2 w2 => vsegL P S ops K r l c σ2 w2) (nthOp ops c1) σ' w) (picks ops l1) σ
structure VE (P : Program) (S : World → Prop) (ops : List Oper) (K : Env → World → Prop) (segs : List (List Nat × Nat)) (l : List Nat) (c : Nat) (σ : Env) (w : World) : Prop where
  out : vsegL P S ops K segs l c σ w
theorem VE_fun (P : Program) (S : World → Prop) (ops : List Oper) (K : Env → World → Prop) (segs : List (List Nat × Nat)) (l : List Nat) (c : Nat) : VE P S ops K segs l c = vsegL P S ops K segs l c := by funext σ w; exact propext ⟨fun h => h.out, fun h => ⟨h⟩⟩
section
variable {P : Program} {S : World → Prop} {ops : List Oper} {K : Env → World → Prop} {l l1 : List Nat} {c c1 : Nat} {r : List (List Nat × Nat)} {σ : Env} {w : World}
theorem VE.nil (h : VQ P S ops (fun σ' => vone P (fun _ => True) ops K (nthOp ops c) σ' w) (picks ops l) σ) : VE P S ops K [] l c σ w := ⟨h.out⟩
theorem VE.cons (h : VQ P S ops (fun σ' => vone P S ops (fun σ2 w2 => VE P S ops K r l c σ2 w2) (nthOp ops c1) σ' w) (picks ops l1) σ) : VE P S ops K ((l1, c1) :: r) l c σ w := by
  refine ⟨?_⟩
  have h := h.out
  simp only [VE_fun] at h
  exact h
end
end Go.Proofs.Ytebeidnmplnlpaa
end

section
set_option maxRecDepth 10000
namespace Go.Proofs.Ytebeidnmplnlpaa
set_option linter.unusedVariables false
open Go.RowKit

/-! ### a file's three cells -/
def FEl (W : World) (U : Foot) (p : List UInt8 × Fl) (a b c : Value) : Prop :=
  a = encStr p.1 ∧ (∃ As cs, b = .slice As p.2.sure cs ∧ Lies W U As p.2.sure (p.2.b.take p.2.sure) ∧ p.2.sure ≤ cs) ∧
    ∃ Ap cp, c = .slice Ap (p.2.b.length - p.2.sure) cp ∧ Lies W U Ap (p.2.b.length - p.2.sure) (p.2.b.drop p.2.sure) ∧ p.2.b.length - p.2.sure ≤ cp
def FEls (W : World) (U : Foot) : PT → List Value → Prop
  | [], [] => True
  | p :: T, a :: b :: c :: xs => FEl W U p a b c ∧ FEls W U T xs
  | _, _ => False
section
variable {W W' : World} {U V : Foot}
theorem FEl.stay {p : List UInt8 × Fl} {a b c : Value} (h : FEl W U p a b c) (hl : ∀ A m (l : List UInt8), Lies W U A m l → Lies W' V A m l) : FEl W' V p a b c := by
  obtain ⟨h1, ⟨As, cs, h2, h3, h4⟩, Ap, cp, h5, h6, h7⟩ := h
  exact ⟨h1, ⟨As, cs, h2, hl _ _ _ h3, h4⟩, Ap, cp, h5, hl _ _ _ h6, h7⟩
theorem FEls.stay (hl : ∀ A m (l : List UInt8), Lies W U A m l → Lies W' V A m l) : ∀ {T : PT} {xs : List Value}, FEls W U T xs → FEls W' V T xs
  | [], [], _ => trivial
  | p :: T, a :: b :: c :: xs, h => ⟨h.1.stay hl, FEls.stay hl h.2⟩
  | [], _ :: _, h => h.elim
  | _ :: _, [], h => h.elim
  | _ :: _, [_], h => h.elim
  | _ :: _, [_, _], h => h.elim
theorem FEls.len : ∀ {T : PT} {xs : List Value}, FEls W U T xs → xs.length = T.length * 3
  | [], [], _ => rfl
  | p :: T, a :: b :: c :: xs, h => by have := FEls.len h.2; simp only [List.length_cons]; omega
  | [], _ :: _, h => h.elim
  | _ :: _, [], h => h.elim
  | _ :: _, [_], h => h.elim
  | _ :: _, [_, _], h => h.elim
theorem FEls.append : ∀ {T1 T2 : PT} {x1 x2 : List Value}, FEls W U T1 x1 → FEls W U T2 x2 → FEls W U (T1 ++ T2) (x1 ++ x2)
  | [], _, [], _, _, h => h
  | p :: T, _, a :: b :: c :: xs, _, h, k => ⟨h.1, FEls.append h.2 k⟩
  | [], _, _ :: _, _, h, _ => h.elim
  | _ :: _, _, [], _, h, _ => h.elim
  | _ :: _, _, [_], _, h, _ => h.elim
  | _ :: _, _, [_, _], _, h, _ => h.elim
theorem FEls.split : ∀ {T1 T2 : PT} {xs : List Value}, FEls W U (T1 ++ T2) xs → FEls W U T1 (xs.take (T1.length * 3)) ∧ FEls W U T2 (xs.drop (T1.length * 3))
  | [], _, xs, h => ⟨by simp [FEls], by simpa using h⟩
  | p :: T, T2, a :: b :: c :: xs, h => by
    obtain ⟨h1, h2⟩ := FEls.split (T1 := T) h.2
    have e : (p :: T).length * 3 = T.length * 3 + 3 := by simp; omega
    rw [e]
    exact ⟨⟨h.1, h1⟩, h2⟩
  | _ :: _, _, [], h => h.elim
  | _ :: _, _, [_], h => h.elim
  | _ :: _, _, [_, _], h => h.elim
/-- the cells of a file of a number -/
theorem FEls.at_ {A B : PT} {p : List UInt8 × Fl} {xs : List Value} (h : FEls W U (A ++ p :: B) xs) :
    ∃ x1 a b c x2, xs = x1 ++ a :: b :: c :: x2 ∧ x1.length = A.length * 3 ∧ FEls W U A x1 ∧ FEl W U p a b c ∧ FEls W U B x2 := by
  obtain ⟨h1, h2⟩ := FEls.split h
  have hl := h1.len
  generalize hd : xs.drop (A.length * 3) = ys at h2
  match ys, h2 with
  | a :: b :: c :: x2, h2 => exact ⟨_, a, b, c, x2, by rw [← hd, List.take_append_drop], hl, h1, h2.1, h2.2⟩
  | [], h => exact h.elim
  | [_], h => exact h.elim
  | [_, _], h => exact h.elim
theorem FEls.one : ∀ {T : PT} {xs : List Value}, FEls W U T xs → ∀ u ∈ xs, u.oneCell' = true
  | [], [], _, u, hu => by cases hu
  | p :: T, a :: b :: c :: xs, h, u, hu => by
    obtain ⟨⟨rfl, ⟨As, cs, rfl, _, _⟩, Ap, cp, rfl, _, _⟩, h2⟩ := h
    simp only [List.mem_cons] at hu
    rcases hu with rfl | rfl | rfl | hu
    · rfl
    · rfl
    · rfl
    · exact FEls.one h2 u hu
  | [], _ :: _, h, _, _ => h.elim
  | _ :: _, [], h, _, _ => h.elim
  | _ :: _, [_], h, _, _ => h.elim
  | _ :: _, [_, _], h, _, _ => h.elim
end
def rC (K : Dk) (A : Option Addr) (n c : Nat) : Array Value := #[.slice A n c, .int .i64 K.room, .int .i64 K.calls, .bool K.armed, .int .i64 K.kind, .int .i64 K.after, .bool K.off]
/-- a row of files -/
structure FRow (W : World) (U : Foot) (A : Option Addr) (n c : Nat) (xs : List Value) (T : PT) : Prop where
  row : W.ownsRow 0 100 3 (.slice A n c) n xs
  foot : ∀ g, (Value.slice A n c).ownBlock = some g → U g
  els : FEls W U T xs
structure RefAt (W : World) (U : Foot) (r : Nat) (A : Option Addr) (c : Nat) (xs : List Value) (K : Dk) (T : PT) : Prop where
  hr : U r
  blk : Blk W r 98 (rC K A T.length c)
  fr : FRow W U A T.length c xs T
def RefD (W : World) (U : Foot) (r : Nat) (S : DS) : Prop := DWf S ∧ ∃ A c xs, RefAt W U r A c xs S.k S.t
section
variable {W W' : World} {U V : Foot} {r n c : Nat} {A : Option Addr} {xs : List Value} {K K' : Dk} {T : PT} {S : DS}
theorem ownsRow_stay {B e s m : Nat} {v : Value} {ys : List Value} (h : W.ownsRow B e s v m ys) (hk : ∀ g, v.ownBlock = some g → W'.heap[g]? = W.heap[g]?) : W'.ownsRow B e s v m ys := by
  refine ⟨h.1, ?_⟩
  rcases h.2 with h0 | ⟨k, cap, cur, hv, hbg, hh, q⟩
  · exact .inl h0
  · exact .inr ⟨k, cap, cur, hv, hbg, by rw [hk k (by rw [hv]; rfl)]; exact hh, q⟩
theorem FRow.stay (h : FRow W U A n c xs T) (hs : W.heap.size ≤ W'.heap.size) (hk : ∀ j, j < W.heap.size → U j → W'.heap[j]? = W.heap[j]?) : FRow W' U A n c xs T :=
  ⟨ownsRow_stay h.row (fun g hg => hk g (World.ownsRow.lt h.row g hg).2 (h.foot g hg)), h.foot, h.els.stay (fun A m l hl => hl.stay hs hk)⟩
theorem FRow.more (h : FRow W U A n c xs T) (hV : ∀ j, j < W.heap.size → U j → V j) : FRow W V A n c xs T :=
  ⟨h.row, fun g hg => hV g (World.ownsRow.lt h.row g hg).2 (h.foot g hg), h.els.stay (fun A m l hl => hl.more hV)⟩
theorem FRow.below {C : Nat} (h : FRow W U A n c xs T) (hb : Below C W W') (hC : W.heap.size ≤ C) : FRow W' U A n c xs T :=
  h.stay hb.size (fun j hj _ => hb.block j (Nat.lt_of_lt_of_le hj hC))
theorem RefAt.stay (h : RefAt W U r A c xs K T) (hs : W.heap.size ≤ W'.heap.size) (hk : ∀ j, j < W.heap.size → U j → W'.heap[j]? = W.heap[j]?) : RefAt W' U r A c xs K T :=
  ⟨h.hr, (hk r h.blk.lt h.hr).trans h.blk, h.fr.stay hs hk⟩
theorem RefAt.more (h : RefAt W U r A c xs K T) (hV : ∀ j, j < W.heap.size → U j → V j) : RefAt W V r A c xs K T := ⟨hV r h.blk.lt h.hr, h.blk, h.fr.more hV⟩
theorem RefAt.below {C : Nat} (h : RefAt W U r A c xs K T) (hb : Below C W W') (hC : W.heap.size ≤ C) : RefAt W' U r A c xs K T :=
  h.stay hb.size (fun j hj _ => hb.block j (Nat.lt_of_lt_of_le hj hC))
theorem RefAt.own (h : RefAt W U r A c xs K T) (hb : Blk W' r 98 (rC K' A T.length c)) (hg : W.grownBy W' (some r)) : RefAt W' U r A c xs K' T := by
  refine ⟨h.hr, hb, ⟨ownsRow_stay h.fr.row (fun g hg' => ?_), h.fr.foot, h.fr.els.stay (fun A m l hl => hl.blk h.blk hg (by decide))⟩⟩
  refine hg.block g (World.ownsRow.lt h.fr.row g hg').2 (fun e => ?_)
  injection e with e
  subst e
  obtain ⟨_, cs, hc⟩ := row_cells h.fr.row _ hg'
  have hb' := h.blk
  unfold Blk at hb'
  rw [hc] at hb'
  injection hb' with hb'
  injection hb' with _ h2 _
  exact absurd h2 (by decide)
theorem RefD.wf (h : RefD W U r S) : DWf S := h.1
theorem RefD.stay (h : RefD W U r S) (hs : W.heap.size ≤ W'.heap.size) (hk : ∀ j, j < W.heap.size → U j → W'.heap[j]? = W.heap[j]?) : RefD W' U r S := by
  obtain ⟨h0, A, c, xs, h1⟩ := h; exact ⟨h0, A, c, xs, h1.stay hs hk⟩
theorem RefD.more (h : RefD W U r S) (hV : ∀ j, j < W.heap.size → U j → V j) : RefD W V r S := by
  obtain ⟨h0, A, c, xs, h1⟩ := h; exact ⟨h0, A, c, xs, h1.more hV⟩
theorem RefD.below {C : Nat} (h : RefD W U r S) (hb : Below C W W') (hC : W.heap.size ≤ C) : RefD W' U r S :=
  h.stay hb.size (fun j hj _ => hb.block j (Nat.lt_of_lt_of_le hj hC))
/-- a cell of a file -/
theorem FRow.cell (h : FRow W U A n c xs T) {i k : Nat} {v : Value} (hi : xs[i * 3 + k]? = some v) : ∃ g, A = some ⟨g, 0, none⟩ ∧ g < W.heap.size ∧ W.cell? (((⟨g, 0, none⟩ : Addr).add (i * 3)).add k) = some v := by
  have hl := h.row.1
  have hlt := (List.getElem?_eq_some_iff.1 hi).1
  obtain ⟨g, cap, e, _⟩ := World.ownsRow.form h.row (by omega)
  injection e with e1 e2 e3
  have hlt := (World.ownsRow.lt h.row g (by rw [e1]; rfl)).2
  refine ⟨g, e1, hlt, ?_⟩
  have := World.ownsRow.cells h.row (g := g) (by rw [e1]; rfl) (i * 3 + k) v hi
  rw [Addr.add_add]
  exact this
end
end Go.Proofs.Ytebeidnmplnlpaa
end

section
set_option maxRecDepth 10000
namespace Go.Proofs.Ytebeidnmplnlpaa
set_option linter.unusedVariables false
open Go.RowKit

/-- one went on to another world and footprint: what lay outside stays, and stays outside -/
structure Step (W : World) (U : Foot) (W' : World) (U' : Foot) : Prop where
  out : Out U W W'
  sub : ∀ j, U' j → U j ∨ W.heap.size ≤ j
section
variable {W W' W'' : World} {U U' U'' : Foot}
theorem Step.refl (W : World) (U : Foot) : Step W U W U := ⟨Out.refl _ _, fun j h => .inl h⟩
theorem Step.trans (h : Step W U W' U') (k : Step W' U' W'' U'') : Step W U W'' U'' := by
  have hs := h.out.size
  refine ⟨⟨k.out.os.trans h.out.os, k.out.tape.trans h.out.tape, k.out.output.trans h.out.output, Nat.le_trans hs k.out.size, fun j hj hu => ?_⟩, fun j hj => ?_⟩
  · rw [k.out.block j (by omega) (fun h' => ?_), h.out.block j hj hu]
    rcases h.sub j h' with h' | h'
    · exact hu h'
    · omega
  · rcases k.sub j hj with h' | h'
    · exact h.sub j h'
    · right; omega
theorem Step.new (h : Below W.heap.size W W') : Step W U W' U := ⟨Out.new h, fun j hj => .inl hj⟩
theorem Step.size (h : Step W U W' U') : W.heap.size ≤ W'.heap.size := h.out.size
theorem Step.below {B : Nat} (h : Step W U W' U') (hU : ∀ j, U j → B ≤ j) (hB : B ≤ W.heap.size) : Below B W W' := h.out.below hU hB
theorem Step.min {B : Nat} (h : Step W U W' U') (hU : ∀ j, U j → B ≤ j) (hB : B ≤ W.heap.size) : ∀ j, U' j → B ≤ j := fun j hj => by
  rcases h.sub j hj with h' | h'
  · exact hU j h'
  · omega
/-- a value whose block is not of the footprint -/
def Free (U : Foot) (v : Value) : Prop := ∀ g, v.ownBlock = some g → ¬ U g
theorem Free.new {B e s n : Nat} {v : Value} {xs : List Value} (h : W'.ownsRow B e s v n xs) (hU : ∀ j, U j → j < B) : Free U v := fun g hg hu => by
  have := (World.ownsRow.lt h g hg).1
  have := hU g hu
  omega
theorem Step.rows {B e s n : Nat} {v : Value} {xs : List Value} (h : Step W U W' U') (ho : W.ownsRow B e s v n xs) (hf : Free U v) : W'.ownsRow B e s v n xs ∧ Free U' v := by
  refine ⟨ownsRow_stay ho (fun g hg => h.out.block g (World.ownsRow.lt ho g hg).2 (hf g hg)), fun g hg hu => ?_⟩
  rcases h.sub g hu with h' | h'
  · exact hf g hg h'
  · have := (World.ownsRow.lt ho g hg).2; omega
theorem Step.own {B n : Nat} {v : Value} {l : List UInt8} (h : Step W U W' U') (ho : Own W B v n l) (hf : Free U v) : Own W' B v n l ∧ Free U' v := h.rows ho hf
theorem Step.off {B s n : Nat} {A : Option Addr} {l : List Value} (h : Step W U W' U') (hr : Reads W B s A n l) (hB : B ≤ W.heap.size) (ho : Off U A n) : Reads W' B s A n l ∧ Off U' A n := by
  refine ⟨hr.out hB ho h.out, fun h0 => ?_⟩
  obtain ⟨ad, e, hu⟩ := ho h0
  refine ⟨ad, e, fun h' => ?_⟩
  obtain ⟨ad', e', hl, _⟩ := hr.2 h0
  rw [e] at e'
  obtain rfl := Option.some.inj e'
  rcases h.sub _ h' with h' | h'
  · exact hu h'
  · omega
theorem Step.blk {g T : Nat} {cs : Array Value} (h : Step W U W' U') (hb : Blk W g T cs) (hf : ¬ U g) : Blk W' g T cs ∧ ¬ U' g := by
  refine ⟨(h.out.block g hb.lt hf).trans hb, fun hu => ?_⟩
  rcases h.sub g hu with h' | h'
  · exact hf h'
  · have := hb.lt; omega
end
/-- a disk in its footprint -/
structure Dsk (W : World) (U : Foot) (d : Nat) (S : DS) : Prop where
  disk : Disk W U d S
  lt : ∀ j, U j → j < W.heap.size
section
variable {W W' : World} {U V : Foot} {d : Nat} {S S' : DS}
theorem Dsk.wf (h : Dsk W U d S) : DWf S := h.disk.wf
theorem Dsk.below (h : Dsk W U d S) (hb : Below W.heap.size W W') : Dsk W' U d S := ⟨h.disk.below hb (Nat.le_refl _), fun j hj => Nat.lt_of_lt_of_le (h.lt j hj) hb.size⟩
theorem Dsk.apart {V' : Foot} (h : Dsk W U d S) (hs : Step W V W' V') (hn : ∀ j, U j → ¬ V j) : Dsk W' U d S ∧ ∀ j, U j → ¬ V' j :=
  ⟨⟨h.disk.stay hs.size (fun j hj hu => hs.out.block j hj (hn j hu)), fun j hj => Nat.lt_of_lt_of_le (h.lt j hj) hs.size⟩, fun j hj hv => by
    rcases hs.sub j hv with h' | h'
    · exact hn j hj h'
    · have := h.lt j hj; omega⟩
def grow (U : Foot) (W : World) : Foot := fun j => U j ∨ W.heap.size ≤ j
theorem grow_up (U : Foot) (W : World) : Up (grow U W) W := fun j hj => .inr hj
theorem Dsk.more (h : Dsk W U d S) : Disk W (grow U W) d S := h.disk.more (fun j _ hj => .inl hj)
theorem Dsk.op (h : Disk W' (grow U W) d S') (hO : Out (grow U W) W W') : ∃ U', Dsk W' U' d S' ∧ Step W U W' U' := by
  refine ⟨fun j => grow U W j ∧ j < W'.heap.size, ⟨h.more (fun j hj hu => ⟨hu, hj⟩), fun j hj => hj.2⟩, ⟨⟨hO.os, hO.tape, hO.output, hO.size, fun j hj hu => hO.block j hj (fun h' => ?_)⟩, fun j hj => hj.1⟩⟩
  rcases h' with h' | h'
  · exact hu h'
  · omega
end
theorem oNew (W : World) (room : Int) : Calls Try.prog 18 #[.int .i64 room] W fun e W' => ∃ d U, e = .returned (.pointer (some ⟨d, 0, none⟩)) ∧ Dsk W' U d (DS.new room) ∧ (∀ j, U j → W.heap.size ≤ j) ∧ Below W.heap.size W W' := by
  refine (dNew_any W room).mono ?_
  rintro e W' ⟨d, rfl, h, hB⟩
  exact ⟨d, fun j => W.heap.size ≤ j ∧ j < W'.heap.size, rfl, ⟨h.more (fun j h1 h2 => ⟨h2, h1⟩), fun j hj => hj.2⟩, fun j hj => hj.1, hB⟩
section
variable (W : World) (U : Foot) (d : Nat) (S : DS)
theorem oCreate (s : List UInt8) (h : Dsk W U d S) (hc : S.k.calls < 1000000) (hs : s.length ≤ 1000) :
    Calls Try.prog 25 #[.pointer (some ⟨d, 0, none⟩), .string (txt s)] W fun e W' => e = .returned (.int .i64 (S.create s).1) ∧ ∃ U', Dsk W' U' d (S.create s).2 ∧ Step W U W' U' := by
  refine (dCreate_any W (grow U W) d S s h.more hc hs (grow_up U W)).mono ?_
  rintro e W' ⟨rfl, h2, hO⟩
  exact ⟨rfl, Dsk.op h2 hO⟩
theorem oAppend (s : List UInt8) (n k : Nat) (A : Option Addr) (b : List UInt8) (h : Dsk W U d S) (hc : S.k.calls < 1000000) (hs : s.length ≤ 1000) (hr : Src W (grow U W) A n b) (hn : n ≤ 140737488351232) (hnk : n ≤ k) :
    Calls Try.prog 26 #[.pointer (some ⟨d, 0, none⟩), .string (txt s), .slice A n k] W fun e W' => e = .returned (.int .i64 (S.append s b).1) ∧ ∃ U', Dsk W' U' d (S.append s b).2 ∧ Step W U W' U' := by
  refine (dAppend_any W (grow U W) d S s n k A b h.more hc hs hr hn hnk (grow_up U W)).mono ?_
  rintro e W' ⟨rfl, h2, hO⟩
  exact ⟨rfl, Dsk.op h2 hO⟩
theorem oSync (s : List UInt8) (h : Dsk W U d S) (hc : S.k.calls < 1000000) (hs : s.length ≤ 1000) :
    Calls Try.prog 51 #[.pointer (some ⟨d, 0, none⟩), .string (txt s)] W fun e W' => e = .returned (.int .i64 (S.sync s).1) ∧ ∃ U', Dsk W' U' d (S.sync s).2 ∧ Step W U W' U' := by
  refine (dSync_any W (grow U W) d S s h.more hc hs).mono ?_
  rintro e W' ⟨rfl, h2, hO⟩
  exact ⟨rfl, Dsk.op h2 hO⟩
theorem oRemove (s : List UInt8) (h : Dsk W U d S) (hc : S.k.calls < 1000000) (hs : s.length ≤ 1000) :
    Calls Try.prog 54 #[.pointer (some ⟨d, 0, none⟩), .string (txt s)] W fun e W' => e = .returned (.int .i64 (S.remove s).1) ∧ ∃ U', Dsk W' U' d (S.remove s).2 ∧ Step W U W' U' := by
  refine (dRemove_any W (grow U W) d S s h.more hc hs).mono ?_
  rintro e W' ⟨rfl, h2, hO⟩
  exact ⟨rfl, Dsk.op h2 hO⟩
theorem oRename (s t : List UInt8) (h : Dsk W U d S) (hc : S.k.calls < 1000000) (hs : s.length ≤ 1000) (ht : t.length ≤ 1000) :
    Calls Try.prog 52 #[.pointer (some ⟨d, 0, none⟩), .string (txt s), .string (txt t)] W fun e W' => e = .returned (.int .i64 (S.rename s t).1) ∧ ∃ U', Dsk W' U' d (S.rename s t).2 ∧ Step W U W' U' := by
  refine (dRename_any W (grow U W) d S s t h.more hc hs ht).mono ?_
  rintro e W' ⟨rfl, h2, hO⟩
  exact ⟨rfl, Dsk.op h2 hO⟩
theorem oArm (kind after : Int) (h : Dsk W U d S) (ha : after ≤ 9223372036854775807) :
    Calls Try.prog 27 #[.pointer (some ⟨d, 0, none⟩), .int .i64 kind, .int .i64 after] W fun e W' => e = .returned (.int .i64 (S.arm kind after).1) ∧ ∃ U', Dsk W' U' d (S.arm kind after).2 ∧ Step W U W' U' := by
  refine (dArm_any W (grow U W) d S kind after h.more ha).mono ?_
  rintro e W' ⟨rfl, h2, hO⟩
  exact ⟨rfl, Dsk.op h2 hO⟩
theorem oCrash (n k : Nat) (A : Option Addr) (ps : List Int) (h : Dsk W U d S) (hr : Reads W W.heap.size 1 A n (iv .i64 ps)) (hoff : Off U A n) (hn : n ≤ 1000000000000000) :
    Calls Try.prog 28 #[.pointer (some ⟨d, 0, none⟩), .slice A n k] W fun e W' => e = .returned (.tuple #[]) ∧ ∃ U', Dsk W' U' d (S.crash ps) ∧ Step W U W' U' := by
  have hoff' : Off (grow U W) A n := fun h0 => by
    obtain ⟨ad, e, hu⟩ := hoff h0
    obtain ⟨ad', e', hl, _⟩ := hr.2 h0
    rw [e] at e'
    obtain rfl := Option.some.inj e'
    exact ⟨ad, e, fun h' => by
      rcases h' with h' | h'
      · exact hu h'
      · omega⟩
  refine (dCrash_any W (grow U W) d S n k A ps h.more hr hoff' hn).mono ?_
  rintro e W' ⟨rfl, h2, hO⟩
  exact ⟨rfl, Dsk.op h2 hO⟩
theorem oList (h : Dsk W U d S) :
    Calls Try.prog 23 #[.pointer (some ⟨d, 0, none⟩)] W fun e W' => ∃ A k, e = .returned (.slice A S.t.length k) ∧ W'.ownsRow W.heap.size 9 1 (.slice A S.t.length k) S.t.length ((S.t.map (·.1)).map encStr) ∧ Below W.heap.size W W' := dList_any W U d S h.disk
theorem oRead (s : List UInt8) (h : Dsk W U d S) (hs : s.length ≤ 1000) :
    Calls Try.prog 24 #[.pointer (some ⟨d, 0, none⟩), .string (txt s)] W fun e W' => ∃ v, e = .returned v ∧ readR W' W.heap.size S.t s v ∧ Below W.heap.size W W' := dRead_any W U d S s h.disk hs
end
end Go.Proofs.Ytebeidnmplnlpaa
end

section
namespace Go.Proofs.Ytebeidnmplnlpaa.Wire
set_option linter.unusedVariables false

/-- a number in groups of seven bits -/
def var : Nat → Nat → List UInt8
  | 0, u => [UInt8.ofNat u]
  | f + 1, u => if u < 128 then [UInt8.ofNat u] else UInt8.ofNat (u % 128 + 128) :: var f (u / 128)
/-- the sign below -/
def zz (v : Int) : Nat := if 0 ≤ v then (2 * v).toNat else (-2 * v - 1).toNat
def int (v : Int) : List UInt8 := var 9 (zz v)
def bool (t : Bool) : List UInt8 := [if t then 1 else 0]
def text (s : List UInt8) : List UInt8 := int s.length ++ s

theorem zz_lt {v : Int} (h : -9223372036854775808 ≤ v ∧ v ≤ 9223372036854775807) : zz v < 18446744073709551616 := by unfold zz; split <;> omega
theorem var_pos : ∀ (f u : Nat), 1 ≤ (var f u).length
  | 0, _ => by simp [var]
  | f + 1, u => by unfold var; split <;> simp
theorem var_le : ∀ (f u : Nat), (var f u).length ≤ f + 1
  | 0, _ => by simp [var]
  | f + 1, u => by
    unfold var
    split
    · simp
    · have := var_le f (u / 128); simp; omega
/-- what groups of seven bits say: the number, and what is left -/
def dec : Nat → Bool → List UInt8 → Option (Nat × List UInt8)
  | _, _, [] => none
  | 0, first, x :: r => if 1 < x.toNat ∨ (first = false ∧ x.toNat = 0) then none else some (x.toNat, r)
  | f + 1, first, x :: r => if first = false ∧ x.toNat = 0 then none else if x.toNat < 128 then some (x.toNat, r) else (dec f false r).map fun p => (x.toNat - 128 + 128 * p.1, p.2)
def uz (u : Nat) : Int := if u % 2 = 1 then -((u / 2 : Nat) : Int) - 1 else ((u / 2 : Nat) : Int)
/-- the number at the head of bytes, and what is left -/
def getInt (l : List UInt8) : Option (Int × List UInt8) := (dec 9 true l).map fun p => (uz p.1, p.2)

theorem uz_zz (v : Int) : uz (zz v) = v := by unfold uz zz; split <;> split <;> omega
theorem zz_uz (u : Nat) : zz (uz u) = u := by unfold uz zz; split <;> split <;> omega
theorem ofNat_toNat {u : Nat} (h : u < 256) : (UInt8.ofNat u).toNat = u := by rw [UInt8.toNat_ofNat']; omega
theorem dec_var : ∀ (f : Nat) (first : Bool) (u : Nat) (r : List UInt8), u < 2 * 128 ^ f → (first = true ∨ u ≠ 0) → dec f first (var f u ++ r) = some (u, r)
  | 0, first, u, r, h, h0 => by
    simp only [var, List.cons_append, List.nil_append, dec]
    rw [ofNat_toNat (by omega), if_neg]
    rintro (h1 | ⟨h1, h2⟩)
    · omega
    · rcases h0 with h0 | h0
      · rw [h0] at h1; cases h1
      · exact h0 h2
  | f + 1, first, u, r, h, h0 => by
    have hne : ¬ (first = false ∧ u = 0) := by
      rintro ⟨h1, h2⟩
      rcases h0 with h0 | h0
      · rw [h0] at h1; cases h1
      · exact h0 h2
    unfold var
    by_cases hu : u < 128
    · rw [if_pos hu]
      simp only [List.cons_append, List.nil_append, dec]
      rw [ofNat_toNat (by omega), if_neg hne, if_pos hu]
    · rw [if_neg hu]
      simp only [List.cons_append, dec]
      rw [ofNat_toNat (by omega), if_neg (by omega), if_neg (by omega), dec_var f false (u / 128) r (by rw [Nat.pow_succ] at h; omega) (.inr (by omega))]
      simp
      omega
theorem var_dec : ∀ (f : Nat) (first : Bool) (l : List UInt8) (u : Nat) (r : List UInt8), dec f first l = some (u, r) → l = var f u ++ r ∧ u < 2 * 128 ^ f ∧ (first = true ∨ u ≠ 0)
  | f, first, [], u, r, h => by cases f <;> simp [dec] at h
  | 0, first, x :: l, u, r, h => by
    simp only [dec] at h
    split at h
    · cases h
    · rename_i hc
      simp only [Option.some.injEq, Prod.mk.injEq] at h
      obtain ⟨rfl, rfl⟩ := h
      have hc' : ¬ 1 < x.toNat := fun k => hc (.inl k)
      refine ⟨by simp [var], by omega, ?_⟩
      cases first
      · exact .inr fun k => hc (.inr ⟨rfl, k⟩)
      · exact .inl rfl
  | f + 1, first, x :: l, u, r, h => by
    have hx := x.toNat_lt
    simp only [dec] at h
    split at h
    · cases h
    · rename_i hc
      split at h
      · rename_i h1
        simp only [Option.some.injEq, Prod.mk.injEq] at h
        obtain ⟨rfl, rfl⟩ := h
        refine ⟨by simp [var, h1], by have : 0 < 128 ^ f := Nat.pow_pos (by omega); rw [Nat.pow_succ]; omega, ?_⟩
        cases first
        · exact .inr fun k => hc ⟨rfl, k⟩
        · exact .inl rfl
      · rename_i h1
        obtain ⟨⟨u', r'⟩, hd, he⟩ := Option.map_eq_some_iff.1 h
        simp only [Prod.mk.injEq] at he
        obtain ⟨rfl, rfl⟩ := he
        obtain ⟨e1, e2, e3⟩ := var_dec f false l u' r' hd
        have e4 : u' ≠ 0 := by rcases e3 with e3 | e3; cases e3; exact e3
        refine ⟨?_, by rw [Nat.pow_succ]; omega, .inr (by omega)⟩
        unfold var
        rw [if_neg (by omega), show (x.toNat - 128 + 128 * u') % 128 + 128 = x.toNat from by omega, show (x.toNat - 128 + 128 * u') / 128 = u' from by omega]
        simp [e1]
theorem getInt_int {v : Int} (h : -9223372036854775808 ≤ v ∧ v ≤ 9223372036854775807) (r : List UInt8) : getInt (int v ++ r) = some (v, r) := by
  unfold getInt int
  rw [dec_var 9 true (zz v) r (by have := zz_lt h; omega) (.inl rfl)]
  simp [uz_zz]
theorem uz_range {u : Nat} (h : u < 18446744073709551616) : -9223372036854775808 ≤ uz u ∧ uz u ≤ 9223372036854775807 := by unfold uz; split <;> omega
theorem getInt_back {l r : List UInt8} {v : Int} (h : getInt l = some (v, r)) : l = int v ++ r ∧ -9223372036854775808 ≤ v ∧ v ≤ 9223372036854775807 := by
  unfold getInt at h
  obtain ⟨⟨u, r'⟩, hd, he⟩ := Option.map_eq_some_iff.1 h
  simp only [Prod.mk.injEq] at he
  obtain ⟨rfl, rfl⟩ := he
  obtain ⟨e1, e2, _⟩ := var_dec 9 true l u r' hd
  refine ⟨?_, uz_range (by omega)⟩
  unfold int
  rw [zz_uz]
  exact e1
/-- a Reader's state: what is left, or nothing: it isn't Ok -/
def intS : Option (List UInt8) → Int × Option (List UInt8)
  | none => (0, none)
  | some l => match getInt l with
    | none => (0, none)
    | some (v, r) => (v, some r)
def endS : Option (List UInt8) → Bool
  | none => false
  | some l => decide (l.length = 0)
def okS : Option (List UInt8) → Bool
  | none => false
  | some _ => true
theorem intS_none {l : List UInt8} (h : dec 9 true l = none) : intS (some l) = (0, none) := by simp [intS, getInt, h]
theorem intS_some {l r : List UInt8} {u : Nat} (h : dec 9 true l = some (u, r)) : intS (some l) = (uz u, some r) := by simp [intS, getInt, h]
theorem dec_stop {f : Nat} {first : Bool} {x : UInt8} {r : List UInt8} (h : (f = 0 ∧ 1 < x.toNat) ∨ (first = false ∧ x.toNat = 0)) : dec f first (x :: r) = none := by
  cases f with
  | zero =>
    simp only [dec]
    rw [if_pos]
    rcases h with ⟨_, h⟩ | h
    · exact .inl h
    · exact .inr h
  | succ f =>
    simp only [dec]
    rw [if_pos]
    rcases h with ⟨h, _⟩ | h
    · cases h
    · exact h
theorem dec_end {f : Nat} {first : Bool} {x : UInt8} {r : List UInt8} (h1 : f = 0 → x.toNat ≤ 1) (h2 : first = false → x.toNat ≠ 0) (h3 : x.toNat < 128) : dec f first (x :: r) = some (x.toNat, r) := by
  cases f with
  | zero =>
    simp only [dec]
    rw [if_neg]
    rintro (h | ⟨ha, hb⟩)
    · have := h1 rfl; omega
    · exact h2 ha hb
  | succ f =>
    simp only [dec]
    rw [if_neg (fun h => h2 h.1 h.2), if_pos h3]
theorem dec_more {f : Nat} {first : Bool} {x : UInt8} {r : List UInt8} (h3 : 128 ≤ x.toNat) : dec (f + 1) first (x :: r) = (dec f false r).map fun p => (x.toNat - 128 + 128 * p.1, p.2) := by
  simp only [dec]
  rw [if_neg (by omega), if_neg (by omega)]
theorem int_len (v : Int) : 1 ≤ (int v).length ∧ (int v).length ≤ 10 := ⟨var_pos _ _, var_le _ _⟩
end Go.Proofs.Ytebeidnmplnlpaa.Wire
end

section
namespace Go.Proofs.Ytebeidnmplnlpaa.Wire
set_option linter.unusedVariables false
theorem var_mono : ∀ (f u u' : Nat), u ≤ u' → (var f u).length ≤ (var f u').length
  | 0, _, _, _ => by simp [var]
  | f + 1, u, u', h => by
    unfold var
    by_cases h1 : u < 128
    · rw [if_pos h1]
      have := var_pos (f + 1) u'
      unfold var at this
      simpa using this
    · rw [if_neg h1, if_neg (by omega)]
      have := var_mono f (u / 128) (u' / 128) (by omega)
      simpa using this
theorem zz_mono {a b : Int} (h : (0 ≤ a ∧ a ≤ b) ∨ (a < 0 ∧ b ≤ a)) : zz a ≤ zz b := by unfold zz; split <;> split <;> omega
theorem int_mono {a b : Int} (h : (0 ≤ a ∧ a ≤ b) ∨ (a < 0 ∧ b ≤ a)) : (int a).length ≤ (int b).length := var_mono _ _ _ (zz_mono h)
theorem intS_back {l r : List UInt8} {v : Int} (h : intS (some l) = (v, some r)) : l = int v ++ r ∧ -9223372036854775808 ≤ v ∧ v ≤ 9223372036854775807 := by
  unfold intS at h
  simp only at h
  split at h
  · simp at h
  · rename_i v' r' hg
    simp only [Prod.mk.injEq, Option.some.injEq] at h
    obtain ⟨rfl, rfl⟩ := h
    exact getInt_back hg
theorem intS_bad {s : Option (List UInt8)} {v : Int} (h : intS s = (v, none)) : v = 0 := by
  unfold intS at h
  split at h
  · simp at h; exact h.symm
  · split at h <;> simp at h
    exact h.symm
theorem intS_int {v : Int} (h : -9223372036854775808 ≤ v ∧ v ≤ 9223372036854775807) (r : List UInt8) : intS (some (int v ++ r)) = (v, some r) := by
  simp [intS, getInt_int h]
end Go.Proofs.Ytebeidnmplnlpaa.Wire
end

section
namespace Go.Proofs.Ytebeidnmplnlpaa.Crc

/-- one bit's step -/
def bit (r : Nat) : Nat := if r % 2 = 1 then (r / 2) ^^^ 3988292384 else r / 2
/-- n bits' steps -/
def bits : Nat → Nat → Nat
  | 0, r => r
  | n + 1, r => bits n (bit r)
/-- one byte's step -/
def byte (r x : Nat) : Nat := bits 8 (r ^^^ x)
/-- the register behind bytes -/
def reg (r : Nat) (l : List UInt8) : Nat := l.foldl (fun r x => byte r x.toNat) r
def more (s : Nat) (l : List UInt8) : Nat := (reg (4294967295 - s) l) ^^^ 4294967295

theorem xor_lt {a b : Nat} (ha : a < 4294967296) (hb : b < 4294967296) : a ^^^ b < 4294967296 := Nat.xor_lt_two_pow (n := 32) ha hb
theorem bit_lt {r : Nat} (h : r < 4294967296) : bit r < 4294967296 := by
  unfold bit; split
  · exact xor_lt (by omega) (by omega)
  · omega
theorem bits_lt : ∀ (n : Nat) {r : Nat}, r < 4294967296 → bits n r < 4294967296
  | 0, _, h => h
  | n + 1, _, h => bits_lt n (bit_lt h)
theorem bits_succ : ∀ (n r : Nat), bits (n + 1) r = bit (bits n r)
  | 0, _ => rfl
  | n + 1, r => bits_succ n (bit r)
theorem byte_lt {r : Nat} (h : r < 4294967296) (x : UInt8) : byte r x.toNat < 4294967296 :=
  bits_lt 8 (xor_lt h (by have := x.toNat_lt; omega))
theorem reg_lt : ∀ (l : List UInt8) {r : Nat}, r < 4294967296 → reg r l < 4294967296
  | [], _, h => h
  | x :: l, _, h => reg_lt l (byte_lt h x)
theorem reg_snoc (r : Nat) (l : List UInt8) (x : UInt8) : reg r (l ++ [x]) = byte (reg r l) x.toNat := by simp [reg]
theorem reg_append (r : Nat) (l m : List UInt8) : reg r (l ++ m) = reg (reg r l) m := by simp [reg]
theorem more_lt {s : Nat} (h : s < 4294967296) (l : List UInt8) : more s l < 4294967296 := xor_lt (reg_lt l (by omega)) (by omega)
theorem not_eq {s : Nat} (h : s < 4294967296) : 4294967295 - s = s ^^^ 4294967295 := by
  have e := BitVec.toNat_not (x := BitVec.ofNat 32 s)
  have e2 := congrArg BitVec.toNat (BitVec.xor_allOnes (x := BitVec.ofNat 32 s))
  rw [e, BitVec.toNat_xor] at e2
  simp only [BitVec.toNat_ofNat, BitVec.toNat_allOnes] at e2
  rw [Nat.mod_eq_of_lt (by omega)] at e2
  simpa using e2.symm
theorem not_not {s : Nat} (h : s < 4294967296) : 4294967295 - (s ^^^ 4294967295) = s := by rw [← not_eq h]; omega
theorem more_append {s : Nat} (h : s < 4294967296) (l m : List UInt8) : more (more s l) m = more s (l ++ m) := by
  unfold more
  rw [reg_append, not_not (reg_lt l (by omega))]
/-- the other text's step: the byte is not laid into the register ahead -/
def two (q y : Nat) : Nat := if q % 2 ≠ y % 2 then (q / 2) ^^^ 3988292384 else q / 2
theorem two_bit (q y : Nat) : two q y ^^^ (y / 2) = bit (q ^^^ y) := by
  have e : (q ^^^ y) % 2 = 1 ↔ ¬(q % 2 = 1 ↔ y % 2 = 1) := Nat.xor_mod_two_eq_one
  unfold two bit
  rw [Nat.xor_div_two]
  by_cases h : q % 2 ≠ y % 2
  · rw [if_pos h, if_pos (e.2 (by omega)), Nat.xor_assoc, Nat.xor_comm 3988292384, ← Nat.xor_assoc]
  · rw [if_neg h, if_neg (fun k => (e.1 k) (by omega))]
/-! ### the sum is linear -/
theorem xor_cancel {a b c : Nat} (h : a ^^^ c = b ^^^ c) : a = b := by
  have := congrArg (· ^^^ c) h
  simpa [Nat.xor_assoc] using this
theorem xor_zero {a b : Nat} (h : a ^^^ b = 0) : a = b := xor_cancel (c := b) (by rw [h, Nat.xor_self])
theorem bit_xor (a b : Nat) : bit (a ^^^ b) = bit a ^^^ bit b := by
  have e : (a ^^^ b) % 2 = 1 ↔ ¬(a % 2 = 1 ↔ b % 2 = 1) := Nat.xor_mod_two_eq_one
  unfold bit
  rw [Nat.xor_div_two]
  by_cases ha : a % 2 = 1 <;> by_cases hb : b % 2 = 1
  · rw [if_neg (fun k => e.1 k (by simp [ha, hb])), if_pos ha, if_pos hb, Nat.xor_assoc, Nat.xor_comm 3988292384, Nat.xor_assoc, Nat.xor_self, Nat.xor_zero]
  · rw [if_pos (e.2 (by simp [ha, hb])), if_pos ha, if_neg hb, Nat.xor_assoc, Nat.xor_comm (b / 2), ← Nat.xor_assoc]
  · rw [if_pos (e.2 (by simp [ha, hb])), if_neg ha, if_pos hb, Nat.xor_assoc]
  · rw [if_neg (fun k => e.1 k (by simp [ha, hb])), if_neg ha, if_neg hb]
/-! ### up to 32 bits in a row -/
theorem bit_zero {r : Nat} (h : r < 4294967296) (h0 : bit r = 0) : r = 0 := by
  unfold bit at h0
  split at h0
  · have e : r / 2 = 3988292384 := xor_zero h0
    omega
  · omega
theorem bits_zero : ∀ (n : Nat) {r : Nat}, r < 4294967296 → bits n r = 0 → r = 0
  | 0, _, _, h0 => h0
  | n + 1, _, h, h0 => bit_zero h (bits_zero n (bit_lt h) h0)
/-- bits one behind the other, out of a number -/
def ser : Nat → Nat → Nat → Nat
  | 0, d, _ => d
  | m + 1, d, e => ser m (two d e) (e / 2)
theorem ser_add : ∀ (m n d e : Nat), ser (m + n) d e = ser n (ser m d e) (e / 2 ^ m)
  | 0, n, d, e => by simp [ser]
  | m + 1, n, d, e => by
    rw [show m + 1 + n = (m + n) + 1 from by omega]
    simp only [ser]
    rw [ser_add m n, Nat.div_div_eq_div_mul, Nat.pow_succ, Nat.mul_comm 2]
theorem ser_bits : ∀ (m d e : Nat), ser m d e ^^^ (e / 2 ^ m) = bits m (d ^^^ e)
  | 0, d, e => by simp [ser, bits]
  | m + 1, d, e => by
    have h := ser_bits m (two d e) (e / 2)
    simp only [ser, bits]
    rw [← two_bit, ← h, Nat.div_div_eq_div_mul, Nat.pow_succ, Nat.mul_comm 2]
theorem ser_low : ∀ (m d e f : Nat), ser m d (e + 2 ^ m * f) = ser m d e
  | 0, _, _, _ => rfl
  | m + 1, d, e, f => by
    simp only [ser]
    have h1 : (e + 2 ^ (m + 1) * f) / 2 = e / 2 + 2 ^ m * f := by rw [Nat.pow_succ, Nat.mul_comm (2 ^ m), Nat.mul_assoc]; omega
    have h2 : two d (e + 2 ^ (m + 1) * f) = two d e := by
      unfold two
      rw [show (e + 2 ^ (m + 1) * f) % 2 = e % 2 from by rw [Nat.pow_succ, Nat.mul_comm (2 ^ m), Nat.mul_assoc]; omega]
    rw [h1, h2, ser_low m]
/-- bytes as one number, the first one lowest -/
def num : List UInt8 → Nat
  | [] => 0
  | x :: l => x.toNat + 256 * num l
theorem num_lt : ∀ (l : List UInt8), num l < 2 ^ (8 * l.length)
  | [] => by simp [num]
  | x :: l => by
    have h := num_lt l
    have hx := x.toNat_lt
    simp only [num, List.length_cons]
    rw [show 8 * (l.length + 1) = 8 * l.length + 8 from by omega, Nat.pow_add]
    omega
theorem num_inj : ∀ (l m : List UInt8), l.length = m.length → num l = num m → l = m
  | [], [], _, _ => rfl
  | x :: l, y :: m, h, e => by
    have hx := x.toNat_lt
    have hy := y.toNat_lt
    simp only [num] at e
    have e1 : x = y := UInt8.toNat_inj.1 (by omega)
    rw [e1, num_inj l m (by simpa using h) (by omega)]
  | [], _ :: _, h, _ => by simp at h
  | _ :: _, [], h, _ => by simp at h
theorem reg_ser : ∀ (l : List UInt8) (d : Nat), reg d l = ser (8 * l.length) d (num l)
  | [], _ => rfl
  | x :: l, d => by
    have hx := x.toNat_lt
    simp only [reg, List.foldl_cons, num, List.length_cons]
    rw [show 8 * (l.length + 1) = 8 + 8 * l.length from by omega, ser_add, show (256 : Nat) = 2 ^ 8 from rfl, ser_low]
    have h := ser_bits 8 d x.toNat
    rw [show x.toNat / 2 ^ 8 = 0 from by omega, Nat.xor_zero] at h
    rw [h, show (x.toNat + 2 ^ 8 * num l) / 2 ^ 8 = num l from by omega]
    exact reg_ser l (byte d x.toNat)
theorem two_xor (a b y z : Nat) : two (a ^^^ b) (y ^^^ z) = two a y ^^^ two b z := by
  have e := two_bit (a ^^^ b) (y ^^^ z)
  have e1 := two_bit a y
  have e2 := two_bit b z
  rw [show (a ^^^ b) ^^^ (y ^^^ z) = (a ^^^ y) ^^^ (b ^^^ z) from by simp only [Nat.xor_assoc]; congr 1; rw [← Nat.xor_assoc, Nat.xor_comm b, Nat.xor_assoc], bit_xor, ← e1, ← e2, Nat.xor_div_two] at e
  have k : (two a y ^^^ y / 2) ^^^ (two b z ^^^ z / 2) = (two a y ^^^ two b z) ^^^ (y / 2 ^^^ z / 2) := by
    simp only [Nat.xor_assoc]; congr 1; rw [← Nat.xor_assoc, Nat.xor_comm (y / 2), Nat.xor_assoc]
  rw [k] at e
  exact xor_cancel e
theorem ser_xor : ∀ (m a b y z : Nat), ser m (a ^^^ b) (y ^^^ z) = ser m a y ^^^ ser m b z
  | 0, _, _, _, _ => rfl
  | m + 1, a, b, y, z => by
    simp only [ser]
    rw [two_xor, Nat.xor_div_two, ser_xor m]
theorem ser_zeros : ∀ (k m row : Nat), ser (k + m) 0 (row * 2 ^ k) = ser m 0 row
  | 0, m, row => by simp
  | k + 1, m, row => by
    rw [show k + 1 + m = (k + m) + 1 from by omega]
    simp only [ser]
    have h1 : row * 2 ^ (k + 1) / 2 = row * 2 ^ k := by rw [Nat.pow_succ, ← Nat.mul_assoc]; omega
    have h2 : two 0 (row * 2 ^ (k + 1)) = 0 := by
      unfold two
      rw [if_neg (by rw [Nat.pow_succ, ← Nat.mul_assoc]; omega)]
    rw [h1, h2, ser_zeros k m]
/-- bits that are turned within 32 in a row are told -/
theorem burst (l l' : List UInt8) (hl : l'.length = l.length) (k row : Nat) (hrow : row < 4294967296) (hn : num l' = num l ^^^ (row * 2 ^ k)) (hk : k ≤ 8 * l.length) (h : more 0 l' = more 0 l) : l' = l := by
  unfold more at h
  have h1 : reg (4294967295 - 0) l' = reg (4294967295 - 0) l := xor_cancel h
  rw [reg_ser, reg_ser, hl, hn, ← Nat.xor_zero (4294967295 - 0), ser_xor, Nat.xor_zero] at h1
  have h2 : ser (8 * l.length) 0 (row * 2 ^ k) = 0 := by
    have := congrArg (ser (8 * l.length) (4294967295 - 0) (num l) ^^^ ·) h1
    simpa [← Nat.xor_assoc] using this
  have hlt : row * 2 ^ k < 2 ^ (8 * l.length) := by
    have e : row * 2 ^ k = num l ^^^ num l' := by rw [hn, ← Nat.xor_assoc, Nat.xor_self, Nat.zero_xor]
    rw [e]
    exact Nat.xor_lt_two_pow (num_lt l) (by have := num_lt l'; rwa [hl] at this)
  rw [show 8 * l.length = k + (8 * l.length - k) from by omega, ser_zeros] at h2
  have h3 := ser_bits (8 * l.length - k) 0 row
  have h4 : row / 2 ^ (8 * l.length - k) = 0 := by
    apply Nat.div_eq_of_lt
    rw [show 8 * l.length = (8 * l.length - k) + k from by omega, Nat.pow_add] at hlt
    exact Nat.lt_of_mul_lt_mul_right hlt
  rw [h4, h2, Nat.zero_xor, Nat.zero_xor] at h3
  have h0 := bits_zero _ hrow h3.symm
  subst h0
  exact num_inj _ _ hl (by rw [hn]; simp)
theorem num_bit : ∀ (l : List UInt8) (i : Nat), (num l).testBit i = ((l[i / 8]?).map fun x => x.toNat.testBit (i % 8)).getD false
  | [], i => by simp [num]
  | x :: l, i => by
    have hx := x.toNat_lt
    have e := Nat.testBit_two_pow_mul_add (num l) (i := 8) (b := x.toNat) (by omega) i
    simp only [num]
    rw [show x.toNat + 256 * num l = 2 ^ 8 * num l + x.toNat from by omega, e]
    by_cases hi : i < 8
    · rw [if_pos hi, show i / 8 = 0 from by omega, show i % 8 = i from by omega]
      simp
    · rw [if_neg hi, num_bit l (i - 8), show i / 8 = (i - 8) / 8 + 1 from by omega, show i % 8 = (i - 8) % 8 from by omega]
      simp
end Go.Proofs.Ytebeidnmplnlpaa.Crc
end

section
namespace Go.Proofs.Ytebeidnmplnlpaa.Frame
set_option linter.unusedVariables false

def le4 (s : Nat) : List UInt8 := [UInt8.ofNat s, UInt8.ofNat (s / 2 ^ 8), UInt8.ofNat (s / 2 ^ 16), UInt8.ofNat (s / 2 ^ 24)]
def sum (body : List UInt8) : Nat := Crc.more (Crc.more 0 (Wire.int body.length)) body
def put (body : List UInt8) : List UInt8 := Wire.int body.length ++ le4 (sum body) ++ body
theorem sum_lt (body : List UInt8) : sum body < 4294967296 := Crc.more_lt (Crc.more_lt (by omega) _) _
theorem le4_len (s : Nat) : (le4 s).length = 4 := rfl
theorem put_len (body : List UInt8) : (put body).length = (Wire.int body.length).length + 4 + body.length := by simp [put, le4_len]; omega
theorem num_le4 {s : Nat} (h : s < 4294967296) : Crc.num (le4 s) = s := by
  simp only [le4, Crc.num, UInt8.toNat_ofNat']
  omega
theorem le4_num {l : List UInt8} (h : l.length = 4) : le4 (Crc.num l) = l := by
  have h2 : Crc.num l < 4294967296 := by have := Crc.num_lt l; rw [h] at this; exact this
  exact Crc.num_inj _ _ (by rw [le4_len, h]) (num_le4 h2)

/-- the frame at the head of bytes: its body, what is behind it -/
def first (l : List UInt8) : Option (List UInt8 × List UInt8) :=
  match Wire.intS (some l) with
  | (n, some r) => if 1 ≤ n ∧ n ≤ 1048576 ∧ 4 + n.toNat ≤ r.length ∧ r.take 4 = le4 (sum ((r.drop 4).take n.toNat)) then some ((r.drop 4).take n.toNat, r.drop (4 + n.toNat)) else none
  | _ => none
theorem int_small {n : Nat} (h : n ≤ 1048576) (r : List UInt8) : Wire.intS (some (Wire.int (n : Int) ++ r)) = ((n : Int), some r) := Wire.intS_int (by omega) r
theorem first_put {body : List UInt8} (r : List UInt8) (h1 : 1 ≤ body.length) (h2 : body.length ≤ 1048576) : first (put body ++ r) = some (body, r) := by
  unfold first put
  rw [List.append_assoc, List.append_assoc, int_small h2]
  have e1 : (le4 (sum body) ++ (body ++ r)).take 4 = le4 (sum body) := List.take_left' (le4_len _)
  have e2 : (le4 (sum body) ++ (body ++ r)).drop 4 = body ++ r := List.drop_left' (le4_len _)
  have e3 : (body ++ r).take body.length = body := List.take_left' rfl
  have e4 : (le4 (sum body) ++ (body ++ r)).drop (4 + body.length) = r := by rw [← List.drop_drop, e2, List.drop_left' rfl]
  simp only [Int.toNat_natCast, e1, e2, e3, e4]
  rw [if_pos ⟨by omega, by omega, by simp [le4_len], trivial⟩]
theorem first_some {l body r : List UInt8} (h : first l = some (body, r)) : l = put body ++ r ∧ 1 ≤ body.length ∧ body.length ≤ 1048576 := by
  unfold first at h
  split at h
  · rename_i n r0 hI
    split at h
    · rename_i hc
      obtain ⟨c1, c2, c3, c4⟩ := hc
      simp only [Option.some.injEq, Prod.mk.injEq] at h
      obtain ⟨hb, hr⟩ := h
      obtain ⟨e, _, _⟩ := Wire.intS_back hI
      have hl : body.length = n.toNat := by rw [← hb]; simp; omega
      have hn : ((body.length : Nat) : Int) = n := by omega
      refine ⟨?_, by omega, by omega⟩
      rw [e]
      unfold put
      rw [hn, List.append_assoc, List.append_assoc]
      congr 1
      rw [← hb] at hl ⊢
      rw [← c4, ← hr, ← List.drop_drop, List.take_append_drop, List.take_append_drop]
    · cases h
  · cases h
theorem first_nil : first [] = none := rfl

/-- the frame at a place: a body, the place behind it, an answer -/
def get (l : List UInt8) (at_ : Int) : List UInt8 × Int × Int :=
  if at_ < 0 ∨ (l.length : Int) < at_ then ([], 0, 1) else if at_ = l.length then ([], 0, 3) else
  match first (l.drop at_.toNat) with
  | none => ([], 0, 4)
  | some (body, r) => (body, at_ + (put body).length, 0)
/-- what the first ten bytes say of a number is what all say -/
theorem intS_ten (l : List UInt8) : (Wire.intS (some (l.take 10))).1 = (Wire.intS (some l)).1 ∧ ((Wire.intS (some (l.take 10))).2.isSome = (Wire.intS (some l)).2.isSome) := by
  cases hI : Wire.intS (some l) with
  | mk v o =>
    cases o with
    | some r =>
      obtain ⟨e, h1, h2⟩ := Wire.intS_back hI
      have hl := (Wire.int_len v).2
      have e2 : l.take 10 = Wire.int v ++ r.take (10 - (Wire.int v).length) := by rw [e, List.take_append, List.take_of_length_le hl]
      rw [e2, Wire.intS_int ⟨h1, h2⟩]
      exact ⟨rfl, rfl⟩
    | none =>
      have hv := Wire.intS_bad hI
      cases hJ : Wire.intS (some (l.take 10)) with
      | mk v' o' =>
        cases o' with
        | none => exact ⟨by rw [hv, Wire.intS_bad hJ], rfl⟩
        | some r =>
          exfalso
          obtain ⟨e, h1, h2⟩ := Wire.intS_back hJ
          have e2 : l = Wire.int v' ++ (r ++ l.drop 10) := by rw [← List.append_assoc, ← e, List.take_append_drop]
          rw [e2, Wire.intS_int ⟨h1, h2⟩] at hI
          cases hI
end Go.Proofs.Ytebeidnmplnlpaa.Frame
end

section
namespace Go.Proofs.Ytebeidnmplnlpaa
set_option linter.unusedVariables false
open Go.RowKit

set_option maxHeartbeats 400000 in
theorem more_any (s : Nat) (hs : s < 4294967296) (A : Option Addr) (n c B : Nat) (l : List UInt8) (w : World) (hl : n ≤ maxLen) (hrd : Reads w B 1 A n (bv l)) :
    Calls Try.prog 84 #[.int .u32 (s : Int), .slice A n c] w fun e w' => e = .returned (.int .u32 (Crc.more s l : Nat)) ∧ w = w' := by
  unfold maxLen at hl
  go_enter Try.func84, Try.ntmps84
  go_wp2
  go_loop [5, 7, 8, 13, 21] (fun r _ _ i _ => ∃ k q : Nat, k ≤ n ∧ q < 4294967296 ∧ Hid (Crc.reg (4294967295 - s) (l.take k) = q) ∧ r = .int .u32 (q : Int) ∧ i = .int .i64 (k : Int)) (fun _ _ _ i _ => n - (intOf i).toNat)
  case atStart =>
    refine ⟨0, 4294967295 - s, by omega, by omega, rfl, ?_, rfl⟩
    rw [show IntKind.u32.max = ((4294967295 : Nat) : Int) from rfl, u32_xor_nat _ _ (by omega) hs, Nat.xor_comm, ← Crc.not_eq hs]
  case round =>
    obtain ⟨k, q, hk, hq, HQ, rfl, rfl⟩ := hrel
    by_cases hlt : k < n
    · obtain ⟨ad, u, rfl, hb, hx, hc⟩ := hrd.at_ hlt
      obtain ⟨x, hx', rfl⟩ := bv_at hx
      have hx1 := x.toNat_lt
      have hq' : q ^^^ x.toNat < 4294967296 := Crc.xor_lt hq (by omega)
      have e1 : bits BinOp.xor IntKind.u32 (q : Int) (x.toNat : Int) = ((q ^^^ x.toNat : Nat) : Int) := u32_xor_nat _ _ hq (by omega)
      go_wp2
      clear e1
      go_loop [5, 8, 21] (fun r _ i => ∃ k' q' : Nat, k' ≤ 8 ∧ q' < 4294967296 ∧ Hid (Crc.bits k' (q ^^^ x.toNat) = q') ∧ r = .int .u32 (q' : Int) ∧ i = .int .i64 (k' : Int)) (fun _ _ i => 8 - (intOf i).toNat)
      case atStart => exact ⟨0, _, by omega, hq', rfl, rfl, rfl⟩
      case round =>
        obtain ⟨k', q', hk', hq2, HQ', rfl, rfl⟩ := hrel
        have e2 : bits BinOp.and IntKind.u32 (q' : Int) 1 = ((q' % 2 : Nat) : Int) := by
          rw [show (1 : Int) = ((1 : Nat) : Int) from rfl, u32_and_nat _ _ hq2 (by omega), nat_mask1]
        by_cases hlt' : k' < 8
        · have e3 : bits BinOp.xor IntKind.u32 ((q' : Int) / 2) 3988292384 = ((q' / 2 ^^^ 3988292384 : Nat) : Int) := by
            rw [show (3988292384 : Int) = ((3988292384 : Nat) : Int) from rfl, show (q' : Int) / 2 = ((q' / 2 : Nat) : Int) from by omega]
            exact u32_xor_nat _ _ (by omega) (by omega)
          go_wp2
          · have ht : q' % 2 = 1 := by
              have : ((q' : Int) % 2 == 1) = true := by assumption
              simp at this; omega
            go_round
            case rel =>
              exact ⟨k' + 1, Crc.bit q', by omega, Crc.bit_lt hq2, by show Crc.bits _ _ = _; rw [Crc.bits_succ, show Crc.bits k' (q ^^^ x.toNat) = q' from HQ'], by simp only [Crc.bit, if_pos ht], by go_num⟩
            case measure => simp [intOf]; omega
          · have ht : ¬ q' % 2 = 1 := by
              have : ((q' : Int) % 2 == 1) = false := by assumption
              simp at this; omega
            go_round
            case rel =>
              exact ⟨k' + 1, Crc.bit q', by omega, Crc.bit_lt hq2, by show Crc.bits _ _ = _; rw [Crc.bits_succ, show Crc.bits k' (q ^^^ x.toNat) = q' from HQ'], by simp only [Crc.bit, if_neg ht]; go_num, by go_num⟩
            case measure => simp [intOf]; omega
        · have h8 : k' = 8 := by omega
          clear e2
          subst h8
          go_wp2
          go_round
          case rel =>
            exact ⟨k + 1, q', by omega, hq2, by show Crc.reg _ _ = _; rw [take_snoc hx', Crc.reg_snoc, show Crc.reg _ _ = q from HQ]; exact HQ', rfl, by go_num⟩
          case measure => simp [intOf]; omega
    · have hkn : l.take k = l := List.take_of_length_le (by have := hrd.1; rw [bv_length] at this; omega)
      rw [hkn] at HQ
      clear hkn
      have e1 : bits BinOp.xor IntKind.u32 IntKind.u32.max (q : Int) = ((q ^^^ 4294967295 : Nat) : Int) := by
        rw [show IntKind.u32.max = ((4294967295 : Nat) : Int) from rfl, u32_xor_nat _ _ (by omega) hq, Nat.xor_comm]
      go_wp2
      go_ret
      refine ⟨?_, rfl⟩
      unfold Crc.more
      rw [show Crc.reg _ _ = q from HQ]
      rfl

end Go.Proofs.Ytebeidnmplnlpaa
end

section
namespace Go.Proofs.Ytebeidnmplnlpaa
set_option linter.unusedVariables false
open Go.RowKit

set_option maxHeartbeats 400000 in
theorem of_any (A : Option Addr) (n c B : Nat) (l : List UInt8) (w : World) (hl : n ≤ maxLen) (hrd : Reads w B 1 A n (bv l)) :
    Calls Try.prog 85 #[.slice A n c] w fun e w' => e = .returned (.int .u32 (Crc.more 0 l : Nat)) ∧ w = w' := by
  go_enter Try.func85, Try.ntmps85
  go_wp2_with fail
  refine (more_any 0 (by omega) _ _ _ B l _ hl hrd).mono ?_
  rintro e w' ⟨rfl, rfl⟩
  go_wp2
  go_ret
  exact ⟨rfl, rfl⟩
end Go.Proofs.Ytebeidnmplnlpaa
end

section
namespace Go.Proofs.Ytebeidnmplnlpaa
set_option linter.unusedVariables false
open Go.RowKit

theorem slice_lhm (w : World) (A : Option Addr) (n c : Nat) (hk : n ≤ c) :
    (Instr.slice 31 (.slice A n c) none (some (.int .i64 (n : Int))) (some (.int .i64 (n : Int)))).run Try.prog w = .ok (.slice A n n) w := by
  rw [run_slice_hm w 31 A n c (by kernel_rfl) .i64 .i64 n n (by omega) (by omega) (by omega)]
  rw [show (sizeOf (Try.prog.elem 31)).run Try.prog w = .ok 1 w from by kernel_rfl]
  have h := cutA_zero A n
  unfold cutA at h
  simp [Result.andThen, sliced, h]

theorem zz_go {v : Int} (hv : -9223372036854775808 ≤ v ∧ v ≤ 9223372036854775807) :
    bits BinOp.xor IntKind.u64 (IntKind.u64.wrap (IntKind.u64.wrap v * 2)) (IntKind.u64.wrap (v / 9223372036854775808)) = (Wire.zz v : Int) := by
  simp only [IntKind.wrap_u64]
  unfold Wire.zz
  split
  · rename_i h
    rw [show v % 18446744073709551616 * 2 % 18446744073709551616 = (((2 * v).toNat : Nat) : Int) from by omega, show v / 9223372036854775808 % 18446744073709551616 = ((0 : Nat) : Int) from by omega,
      bits_xor_u64_nat _ _ (by omega) (by omega), Nat.xor_zero]
  · rename_i h
    rw [show v % 18446744073709551616 * 2 % 18446744073709551616 = (((2 * v + 18446744073709551616).toNat : Nat) : Int) from by omega,
      show v / 9223372036854775808 % 18446744073709551616 = ((18446744073709551615 : Nat) : Int) from by omega, bits_xor_u64_nat _ _ (by omega) (by omega), u64_not (by omega)]
    omega
set_option maxHeartbeats 400000 in
theorem putInt_any (A : Option Addr) (n c : Nat) (l : List UInt8) (v : Int) (w : World) (hn : n + 10 ≤ 140737488355328) (hnc : n ≤ c) (hv : -9223372036854775808 ≤ v ∧ v ≤ 9223372036854775807)
    (hrd : Reads w w.heap.size 1 A n (bv l)) :
    Calls Try.prog 49 #[.slice A n c, .int .i64 v] w fun e w' => ∃ A' m c', e = .returned (.slice A' m c') ∧ Own w' w.heap.size (.slice A' m c') m (l ++ Wire.int v) ∧ Below w.heap.size w w' := by
  have hA : A = none → n = 0 := hrd.none_zero
  have hs1 := fun w => slice_lhm w A n c hnc
  have hz : Hid (Wire.zz v < 2 * 128 ^ 9) := by have := Wire.zz_lt hv; show _ < _; omega
  go_enter Try.func49, Try.ntmps49
  go_upto_region 2 with fail
  go_cut [5] (fun s5 wx => wx = w ∧ s5 = .int .u64 (Wire.zz v : Int))
  case first =>
    go_wp2
    go_meet
    exact ⟨rfl, by rw [zz_go hv]⟩
  case rest =>
  obtain ⟨rfl, rfl⟩ := hcut
  clear hv
  go_wp2
  go_loopw [0, 5] (fun b u wr => ∃ (m : Nat) (pre : List UInt8) (q f : Nat), u = .int .u64 (q : Int) ∧ AppB wr wc.heap.size b m (l ++ pre) ∧ f ≤ 9 ∧ m + f ≤ n + 9 ∧ Hid (q < 2 * 128 ^ f) ∧
      Hid (pre ++ Wire.var f q = Wire.int v) ∧ Below wc.heap.size wc wr) (fun _ u _ => (intOf u).toNat)
  case atStart =>
    refine ⟨n, [], Wire.zz v, 9, ?_, .inr ⟨A, rfl, by simpa using hrd, hA⟩, by omega, by omega, hz, rfl, Below.refl _ _⟩
    rfl
  case round =>
    obtain ⟨m, pre, q, f, rfl, hap, hf, hm, hq, HV, hbr⟩ := hrel
    obtain ⟨A1, c1, rfl, hc1, hn1⟩ := hap.form
    by_cases hlt : 128 ≤ q
    · have e1 := u8_or128 q
      obtain ⟨x, hx⟩ : ∃ x : UInt8, x.toNat = q % 128 + 128 := ⟨UInt8.ofNat (q % 128 + 128), by rw [UInt8.toNat_ofNat']; omega⟩
      rw [← hx] at e1
      have HX := Lib.hid hx
      clear hx
      have ht : decide ((128 : Int) ≤ (q : Int)) = true := by simp; omega
      have HLT := Lib.hid hlt
      clear hlt
      have hsz := hbr.size
      have hm1 : m + 1 ≤ 140737488355328 := by omega
      go_wp2_with (at_builtin; refine app_grow _ rfl (.tmp 21) (.tmp 25) rfl wc.heap.size _ m (l ++ pre) rfl (hap.alloc hsz _) _ ⟨wr.heap.size, 0, none⟩ 1 1 [x] rfl (reads_new wr [x] _ _ _ rfl 1 rfl) (Nat.le_refl _) hm1 (Nat.le_trans hsz (by simp)) ?_; intro A2 c2 w2 hO2 hb2)
      go_roundw
      case rel =>
        have hq' := hq.out
        have hl' := HLT.out
        obtain ⟨f', rfl⟩ : ∃ f', f = f' + 1 := by
          cases f with
          | zero => omega
          | succ f' => exact ⟨f', rfl⟩
        refine ⟨m + 1, pre ++ [x], q / 128, f', by go_num, .inl (by rw [← List.append_assoc]; exact hO2), by omega, by omega, ?_, ?_, (hbr.alloc hsz _).trans hb2⟩
        · show _ < _
          rw [Nat.pow_succ] at hq'
          omega
        · show _ = _
          rw [← HV.out, List.append_assoc]
          congr 1
          have hxe : x = UInt8.ofNat (q % 128 + 128) := UInt8.toNat_inj.1 (by rw [HX.out, UInt8.toNat_ofNat']; omega)
          conv => rhs; unfold Wire.var
          rw [if_neg (by omega), hxe]
          rfl
      case measure =>
        have hl' := HLT.out
        simp [intOf]; omega
    · have ht : decide ((128 : Int) ≤ (q : Int)) = false := by simp; omega
      have HLT := Lib.hid hlt
      clear hlt
      obtain ⟨x, hx⟩ : ∃ x : UInt8, x.toNat = q := ⟨UInt8.ofNat q, by have := HLT.out; rw [UInt8.toNat_ofNat']; omega⟩
      have e1 : (q : Int) % 256 = (x.toNat : Int) := by have := x.toNat_lt; omega
      have HX := Lib.hid hx
      clear hx
      have hsz := hbr.size
      have hm1 : m + 1 ≤ 140737488355328 := by omega
      go_wp2_with (at_builtin; refine app_grow _ rfl (.tmp 29) (.tmp 32) rfl wc.heap.size _ m (l ++ pre) rfl (hap.alloc hsz _) _ ⟨wr.heap.size, 0, none⟩ 1 1 [x] rfl (reads_new wr [x] _ _ _ rfl 1 rfl) (Nat.le_refl _) hm1 (Nat.le_trans hsz (by simp)) ?_; intro A2 c2 w2 hO2 hb2)
      go_ret
      refine ⟨A2, m + 1, c2, rfl, ?_, (hbr.alloc hsz _).trans hb2⟩
      rw [← HV.out, ← List.append_assoc]
      have hxe : Wire.var f q = [x] := by
        have hl' := HLT.out
        have hxe : x = UInt8.ofNat q := UInt8.toNat_inj.1 (by rw [HX.out, UInt8.toNat_ofNat']; omega)
        cases f with
        | zero => simp [Wire.var, hxe]
        | succ f => unfold Wire.var; rw [if_pos (by omega), hxe]
      rw [hxe]
      exact hO2

end Go.Proofs.Ytebeidnmplnlpaa
end

section
namespace Go.Proofs.Ytebeidnmplnlpaa
set_option linter.unusedVariables false
open Go.RowKit

end Go.Proofs.Ytebeidnmplnlpaa
end

section
namespace Go.Proofs.Ytebeidnmplnlpaa
set_option linter.unusedVariables false
open Go.RowKit

/-- a Reader in block g: its bytes, its place, whether something was wrong -/
def Rdr (T : TypeId) (w : World) (g : Nat) (l : List UInt8) (p : Nat) (bad : Bool) : Prop :=
  ∃ A n c, Blk w g T #[.slice A n c, .int .i64 (p : Int), .bool bad] ∧ Reads w g 1 A n (bv l) ∧ n ≤ c ∧ n ≤ 4611686018427387904 ∧ p ≤ n
/-- .. told by what is left -/
def RS (T : TypeId) (w : World) (g : Nat) (s : Option (List UInt8)) : Prop :=
  ∃ l p bad, Rdr T w g l p bad ∧ s = if bad then none else some (l.drop p)
theorem Rdr.lt {T : TypeId} {w : World} {g : Nat} {l : List UInt8} {p : Nat} {bad : Bool} (h : Rdr T w g l p bad) : g < w.heap.size := by
  obtain ⟨_, _, _, h, _⟩ := h; exact h.lt
theorem RS.lt {T : TypeId} {w : World} {g : Nat} {s : Option (List UInt8)} (h : RS T w g s) : g < w.heap.size := by
  obtain ⟨_, _, _, h, _⟩ := h; exact h.lt
theorem RS.mk {T : TypeId} {w : World} {g : Nat} {l : List UInt8} {p : Nat} {A : Option Addr} {n c : Nat} {bad : Bool} (hb : Blk w g T #[.slice A n c, .int .i64 (p : Int), .bool bad]) (hr : Reads w g 1 A n (bv l)) (hnc : n ≤ c)
    (hc : n ≤ 4611686018427387904) (hp : p ≤ n) {s : Option (List UInt8)} (hs : s = if bad then none else some (l.drop p)) : RS T w g s := ⟨l, p, bad, ⟨A, n, c, hb, hr, hnc, hc, hp⟩, hs⟩
theorem RS.below {T : TypeId} {w w' : World} {g B : Nat} {s : Option (List UInt8)} (h : RS T w g s) (hb : Below B w w') (hg : g < B) : RS T w' g s := by
  obtain ⟨l, p, bad, ⟨A, n, c, h1, h2, h3⟩, h4⟩ := h
  exact ⟨l, p, bad, ⟨A, n, c, h1.below hb hg, h2.below (hb.mono (by omega)), h3⟩, h4⟩
theorem RS.other {T : TypeId} {w w' : World} {g k : Nat} {s : Option (List UInt8)} (h : RS T w g s) (hb : w.grownBy w' (some k)) (hg : g < k) : RS T w' g s := by
  have hlt := h.lt
  obtain ⟨l, p, bad, ⟨A, n, c, h1, h2, h3⟩, h4⟩ := h
  exact ⟨l, p, bad, ⟨A, n, c, h1.grown hb (fun e => by injection e with e; omega), h2.only hb (by omega) (by omega), h3⟩, h4⟩
theorem RS.drewN {T : TypeId} {w : World} {g : Nat} {s : Option (List UInt8)} (h : RS T w g s) (n : Nat) : RS T (w.drewN n) g s := by
  obtain ⟨l, p, bad, ⟨A, n', c, h1, h2, h3⟩, h4⟩ := h
  exact ⟨l, p, bad, ⟨A, n', c, h1.drewN n, h2.drewN n, h3⟩, h4⟩

theorem uz_go {s : Nat} (h : s < 18446744073709551616) :
    bits BinOp.xor IntKind.i64 (wrap64 ((s : Int) / 2)) (wrap64 (-wrap64 (bits BinOp.and IntKind.u64 (s : Int) 1))) = Wire.uz s := by
  rw [show (1 : Int) = ((1 : Nat) : Int) from rfl, u64_and_nat _ _ h (by omega), nat_mask1]
  have e1 : wrap64 ((s : Int) / 2) = ((s / 2 : Nat) : Int) := by rw [IntWalk.wrap64_in _ ⟨by omega, by omega⟩]; omega
  rw [e1]
  unfold Wire.uz
  by_cases h2 : s % 2 = 1
  · rw [if_pos h2, h2, show wrap64 (-wrap64 ((1 : Nat) : Int)) = -1 from by rw [IntWalk.wrap64_in ((1 : Nat) : Int) ⟨by decide, by decide⟩, IntWalk.wrap64_in _ ⟨by decide, by decide⟩]; rfl, i64_xor_neg _ (by omega)]
  · rw [if_neg h2, show s % 2 = 0 from by omega, show wrap64 (-wrap64 ((0 : Nat) : Int)) = 0 from by rw [IntWalk.wrap64_in ((0 : Nat) : Int) ⟨by decide, by decide⟩, IntWalk.wrap64_in _ ⟨by decide, by decide⟩]; rfl, i64_xor_zero _ (by omega)]

/-- what the loop's round reckons -/
structure IntStep (x : UInt8) (k q y z s : Nat) : Prop where
  e1 : bits BinOp.and IntKind.u8 (x.toNat : Int) 127 = (y : Int)
  e2 : IntKind.u64.wrap (IntKind.u64.wrap (y : Int) * 2 ^ (7 * k)) = (z : Int)
  e3 : bits BinOp.or IntKind.u64 (q : Int) (z : Int) = (s : Int)
theorem intStep (x : UInt8) (k q : Nat) (hk : k ≤ 9) (hq : q < 128 ^ k) (h9 : k = 9 → x.toNat ≤ 1) : ∃ y z s, IntStep x k q y z s ∧ s = q + 128 ^ k * (x.toNat % 128) ∧ s < 18446744073709551616 := by
  have hx := x.toNat_lt
  have hp : 2 ^ (7 * k) = 128 ^ k := by rw [Nat.pow_mul]
  have hz : x.toNat % 128 * 128 ^ k < 18446744073709551616 ∧ q + x.toNat % 128 * 128 ^ k < 18446744073709551616 := by
    rcases Nat.lt_or_ge k 9 with h | h
    · have h8 : 128 ^ k ≤ 128 ^ 8 := Nat.pow_le_pow_right (by omega) (by omega)
      have h7 : x.toNat % 128 * 128 ^ k ≤ 127 * 128 ^ 8 := Nat.mul_le_mul (by omega) h8
      omega
    · obtain rfl : k = 9 := by omega
      have := h9 rfl
      have h7 : x.toNat % 128 * 128 ^ 9 ≤ 1 * 128 ^ 9 := Nat.mul_le_mul (by omega) (Nat.le_refl _)
      omega
  refine ⟨x.toNat % 128, x.toNat % 128 * 128 ^ k, q + 128 ^ k * (x.toNat % 128), ⟨u8_and127 x, ?_, ?_⟩, rfl, by rw [Nat.mul_comm (128 ^ k)]; exact hz.2⟩
  · have e : ((x.toNat % 128 : Nat) : Int) * 2 ^ (7 * k) = ((x.toNat % 128 * 128 ^ k : Nat) : Int) := by rw [← hp]; simp
    rw [IntWalk.u64_in ((x.toNat % 128 : Nat) : Int) (by omega), e, IntWalk.u64_in _ (by omega)]
  · rw [Nat.mul_comm (128 ^ k)]
    exact u64_or_add (i := 7 * k) (by rw [hp]; exact hq) hz.1 (by rw [hp]; exact Nat.dvd_mul_left _ _) hz.2
end Go.Proofs.Ytebeidnmplnlpaa
end

section
namespace Go.Proofs.Ytebeidnmplnlpaa
set_option linter.unusedVariables false
open Go.RowKit

/-- the frame at the jump -/
def JumpFrame (g : Nat) (a : Act) : Prop := ∃ (u2 u3 u4 u5 u6 u7 u8 u9 u10 u11 u12 u13 u14 u15 u16 u17 u18 u19 u20 u21 u22 u23 u24 u25 u26 u27 u28 u29 u30 u31 u32 u33 u34 u35 u36 u37 u38 u39 u40 u41 u42 u43 u44 u45 u46 u47 u48 u49 u50 u51 u52 u53 u54 u55 u56 u57 u58 u59 u60 u61 u62 u63 u64 u65 u66 u67 u68 u69 u70 u71 u72 u73 u74 u75 u76 u77 u78 u79 u80 : Value), a = { tmps := #[.pointer (some ⟨g, 0, none⟩), undef, u2, u3, u4, u5, u6, u7, u8, u9, u10, u11, u12, u13, u14, u15, u16, u17, u18, u19, u20, u21, u22, u23, u24, u25, u26, u27, u28, u29, u30, u31, u32, u33, u34, u35, u36, u37, u38, u39, u40, u41, u42, u43, u44, u45, u46, u47, u48, u49, u50, u51, u52, u53, u54, u55, u56, u57, u58, u59, u60, u61, u62, u63, u64, u65, u66, u67, u68, u69, u70, u71, u72, u73, u74, u75, u76, u77, u78, u79, u80], defers := [] }

set_option maxRecDepth 100000 in
set_option maxHeartbeats 1000000 in
theorem rInt_ok (w : World) (g : Nat) (l : List UInt8) (a0 : Nat) (hr : Rdr 138 w g l a0 false) :
    Calls Try.prog 90 #[.pointer (some ⟨g, 0, none⟩)] w fun e w' =>
      e = .returned (.int .i64 (Wire.intS (some (l.drop a0))).1) ∧ RS 138 w' g (Wire.intS (some (l.drop a0))).2 ∧ w.grownBy w' (some g) := by
  obtain ⟨A, n, c, hb, hrd, hnc, hc, han⟩ := hr
  have hgl := hb.lt
  have hln : Hid (l.length = n) := by have := hrd.1; rw [bv_length] at this; show _ = _; omega
  go_enter Try.func90, Try.ntmps90
  go_wp2
  refine wp_scope_jumps 0 (fun a' w' => JumpFrame g a' ∧ Hid (Wire.intS (some (l.drop a0)) = (0, none)) ∧ (∃ (A' : Option Addr) (n' c' p' : Nat), Blk w' g 138 #[.slice A' n' c', .int .i64 (p' : Int), .bool false] ∧ Reads w' g 1 A' n' (bv l) ∧ n' ≤ c' ∧ n' ≤ 4611686018427387904 ∧ p' ≤ n') ∧ w.grownBy w' (some g)) (fun _ _ => 0) rfl ?_ ?_
  case refine_2 =>
    rintro a' w' ⟨⟨u2, u3, u4, u5, u6, u7, u8, u9, u10, u11, u12, u13, u14, u15, u16, u17, u18, u19, u20, u21, u22, u23, u24, u25, u26, u27, u28, u29, u30, u31, u32, u33, u34, u35, u36, u37, u38, u39, u40, u41, u42, u43, u44, u45, u46, u47, u48, u49, u50, u51, u52, u53, u54, u55, u56, u57, u58, u59, u60, u61, u62, u63, u64, u65, u66, u67, u68, u69, u70, u71, u72, u73, u74, u75, u76, u77, u78, u79, u80, rfl⟩, HI, ⟨A', n', c', p', hbj, hrj, hnj, hcj, hpj⟩, hgj⟩
    have h0 := hbj.cell 0
    have h1 := hbj.cell 1
    have h2 := hbj.cell 2
    have f2 := hbj.frozen 2
    have hbk : Blk (w'.setCell ⟨g, 2, none⟩ (.bool true)) g 138 #[.slice A' n' c', .int .i64 (p' : Int), .bool true] := hbj.set_ 2 (.bool true)
    have hgk : w.grownBy (w'.setCell ⟨g, 2, none⟩ (.bool true)) (some g) := only_setCell hgj (.inl rfl) _
    simp at h0 h1 h2
    go_wp2
    simp only [Exit.jump]
    go_ret
    rw [HI.out]
    exact ⟨rfl, RS.mk hbk (hrj.only (only_setCell (only_refl w' g) (.inl rfl) _) (Nat.le_of_lt hbj.lt) (Nat.le_refl _)) hnj hcj hpj rfl, hgk⟩
  go_wp2
  go_loopw [3, 4, 5] (fun u i _ wr => ∃ (k q p : Nat), u = .int .u64 (q : Int) ∧ i = .int .i64 (k : Int) ∧ k ≤ 9 ∧ Hid (q < 128 ^ k) ∧ Hid (p = a0 + k) ∧ p ≤ n ∧ Blk wr g 138 #[.slice A n c, .int .i64 (p : Int), .bool false] ∧
      Hid (Wire.dec 9 true (l.drop a0) = (Wire.dec (9 - k) (decide (k = 0)) (l.drop p)).map fun r => (q + 128 ^ k * r.1, r.2)) ∧ w.grownBy wr (some g)) (fun _ i _ _ => 9 - (intOf i).toNat)
  case atStart => exact ⟨0, 0, a0, rfl, rfl, by omega, by show _ < _; simp, rfl, han, hb, by show _ = _; simp, only_refl w g⟩
  case round =>
    obtain ⟨k, q, p, rfl, rfl, hk, hq, HP, hak, hbw, HD, hgr⟩ := hrel
    have h0 := hbw.cell 0
    have h1 := hbw.cell 1
    have h2 := hbw.cell 2
    have f1 := hbw.frozen 1
    have f2 := hbw.frozen 2
    have hszr := hgr.size
    simp at h0 h1 h2
    have t1 : decide ((k : Int) < 10) = true := by simp; omega
    by_cases hlt : p < n
    · obtain ⟨ad, u, hAd, _, hx, hcx⟩ := (hrd.only hgr (by omega) (Nat.le_refl _)).at_ hlt
      obtain ⟨x, hx', rfl⟩ := bv_at hx
      subst hAd
      have hcw : wr.cell? (ad.add p) = some (.int .u8 (x.toNat : Int)) := hcx
      have hld : l.drop p = x :: l.drop (p + 1) := by
        have e := List.drop_eq_getElem_cons (l := l) (i := p) (by have := hln.out; omega)
        rw [e]
        congr 1
        have := List.getElem?_eq_some_iff.1 hx'
        exact this.2
      have HL := Lib.hid hld
      clear hx' hx hcx hld
      have hways : (k = 9 ∧ 1 < x.toNat) ∨ (k = 9 ∧ x.toNat = 0) ∨ (k < 9 ∧ 0 < k ∧ x.toNat = 0) ∨ (k = 9 ∧ x.toNat = 1) ∨ (k < 9 ∧ 0 < k ∧ 0 < x.toNat ∧ x.toNat < 128) ∨ (k = 0 ∧ x.toNat < 128) ∨ (k < 9 ∧ 0 < k ∧ 128 ≤ x.toNat) ∨ (k = 0 ∧ 128 ≤ x.toNat) := by have := x.toNat_lt; omega
      have hbq : ∀ N, Blk ((wr.drewN N).setCell ⟨g, 1, none⟩ (.int .i64 ((p : Int) + 1))) g 138 #[.slice (some ad) n c, .int .i64 ((p + 1 : Nat) : Int), .bool false] := fun N => (hbw.drewN N).set_ 1 (.int .i64 ((p : Int) + 1))
      have hgq : ∀ N, w.grownBy ((wr.drewN N).setCell ⟨g, 1, none⟩ (.int .i64 ((p : Int) + 1))) (some g) := fun N => only_setCell (only_drewN hgr N) (.inl rfl) _
      rcases hways with hway | hway | hway | hway | hway | hway | hway | hway
      · have HW := Lib.hid hway
        have t9 : ((k : Int) == 9) = true := by rw [beq_iff_eq]; omega
        have u1 : decide ((1 : Int) < (x.toNat : Int)) = true := by simp; omega
        clear hway
        go_wp2
        go_quiet (fail)
        go_wp2
        go_quiet (fail)
        go_wp2
        go_step3
        have hde : Wire.intS (some (l.drop a0)) = (0, none) := by
          have hw := HW.out
          apply Wire.intS_none
          rw [HD.out, HL.out, Wire.dec_stop (by simp; omega)]
          rfl
        refine ⟨rfl, ?_, hde, ⟨some ad, n, c, p + 1, hbq _, hrd.only (hgq _) (by omega) (Nat.le_refl _), hnc, hc, by omega⟩, hgq _⟩
        unfold JumpFrame
        repeat apply Exists.intro
        rfl
      · have HW := Lib.hid hway
        have t9 : ((k : Int) == 9) = true := by rw [beq_iff_eq]; omega
        have u1 : decide ((1 : Int) < (x.toNat : Int)) = false := by simp; omega
        have u0 : decide ((0 : Int) < (k : Int)) = true := by simp; omega
        have u0' : decide (0 < k) = true := by simp; omega
        have uz : ((x.toNat : Int) == 0) = true := by rw [beq_iff_eq]; omega
        clear hway
        go_wp2
        go_quiet (fail)
        go_wp2
        go_quiet (fail)
        go_wp2
        go_step3
        have hde : Wire.intS (some (l.drop a0)) = (0, none) := by
          have hw := HW.out
          apply Wire.intS_none
          rw [HD.out, HL.out, Wire.dec_stop (by simp; omega)]
          rfl
        refine ⟨rfl, ?_, hde, ⟨some ad, n, c, p + 1, hbq _, hrd.only (hgq _) (by omega) (Nat.le_refl _), hnc, hc, by omega⟩, hgq _⟩
        unfold JumpFrame
        repeat apply Exists.intro
        rfl
      · have HW := Lib.hid hway
        have t9 : ((k : Int) == 9) = false := by rw [beq_eq_false_iff_ne]; omega
        have u0 : decide ((0 : Int) < (k : Int)) = true := by simp; omega
        have u0' : decide (0 < k) = true := by simp; omega
        have uz : ((x.toNat : Int) == 0) = true := by rw [beq_iff_eq]; omega
        clear hway
        go_wp2
        go_quiet (fail)
        go_wp2
        go_quiet (fail)
        go_wp2
        go_step3
        have hde : Wire.intS (some (l.drop a0)) = (0, none) := by
          have hw := HW.out
          apply Wire.intS_none
          rw [HD.out, HL.out, Wire.dec_stop (by simp; omega)]
          rfl
        refine ⟨rfl, ?_, hde, ⟨some ad, n, c, p + 1, hbq _, hrd.only (hgq _) (by omega) (Nat.le_refl _), hnc, hc, by omega⟩, hgq _⟩
        unfold JumpFrame
        repeat apply Exists.intro
        rfl
      · have HW := Lib.hid hway
        have t9 : ((k : Int) == 9) = true := by rw [beq_iff_eq]; omega
        have u1 : decide ((1 : Int) < (x.toNat : Int)) = false := by simp; omega
        have u0 : decide ((0 : Int) < (k : Int)) = true := by simp; omega
        have u0' : decide (0 < k) = true := by simp; omega
        have uz : ((x.toNat : Int) == 0) = false := by rw [beq_eq_false_iff_ne]; omega
        have u8 : decide ((x.toNat : Int) < 128) = true := by simp; omega
        obtain ⟨y, z, s, hst, hse, hs64⟩ := intStep x k q hk hq.out (by omega)
        obtain ⟨e1, e2, e3⟩ := hst
        have HSE := Lib.hid hse
        have HS := Lib.hid hs64
        clear hse hs64
        clear hway
        go_wp2
        go_quiet (fail)
        go_wp2
        go_quiet (fail)
        go_wp2
        rw [uz_go HS.out]
        simp only [Exit.jump]
        go_ret
        have hde : Wire.intS (some (l.drop a0)) = (Wire.uz s, some (l.drop (p + 1))) := by
          have hw := HW.out
          apply Wire.intS_some
          rw [HD.out, HL.out, Wire.dec_end (by omega) (by simp; omega) (by omega), HSE.out, Nat.mod_eq_of_lt (by omega)]
          rfl
        rw [hde]
        exact ⟨rfl, RS.mk (p := p + 1) (hbq _) (hrd.only (hgq _) (by omega) (Nat.le_refl _)) hnc hc (by omega) rfl, hgq _⟩
      · have HW := Lib.hid hway
        have t9 : ((k : Int) == 9) = false := by rw [beq_eq_false_iff_ne]; omega
        have u0 : decide ((0 : Int) < (k : Int)) = true := by simp; omega
        have u0' : decide (0 < k) = true := by simp; omega
        have uz : ((x.toNat : Int) == 0) = false := by rw [beq_eq_false_iff_ne]; omega
        have u8 : decide ((x.toNat : Int) < 128) = true := by simp; omega
        obtain ⟨y, z, s, hst, hse, hs64⟩ := intStep x k q hk hq.out (by omega)
        obtain ⟨e1, e2, e3⟩ := hst
        have HSE := Lib.hid hse
        have HS := Lib.hid hs64
        clear hse hs64
        clear hway
        go_wp2
        go_quiet (fail)
        go_wp2
        go_quiet (fail)
        go_wp2
        rw [uz_go HS.out]
        simp only [Exit.jump]
        go_ret
        have hde : Wire.intS (some (l.drop a0)) = (Wire.uz s, some (l.drop (p + 1))) := by
          have hw := HW.out
          apply Wire.intS_some
          rw [HD.out, HL.out, Wire.dec_end (by omega) (by simp; omega) (by omega), HSE.out, Nat.mod_eq_of_lt (by omega)]
          rfl
        rw [hde]
        exact ⟨rfl, RS.mk (p := p + 1) (hbq _) (hrd.only (hgq _) (by omega) (Nat.le_refl _)) hnc hc (by omega) rfl, hgq _⟩
      · have HW := Lib.hid hway
        have t9 : ((k : Int) == 9) = false := by rw [beq_eq_false_iff_ne]; omega
        have u0 : decide ((0 : Int) < (k : Int)) = false := by simp; omega
        have u0' : decide (0 < k) = false := by simp; omega
        have u8 : decide ((x.toNat : Int) < 128) = true := by simp; omega
        obtain ⟨y, z, s, hst, hse, hs64⟩ := intStep x k q hk hq.out (by omega)
        obtain ⟨e1, e2, e3⟩ := hst
        have HSE := Lib.hid hse
        have HS := Lib.hid hs64
        clear hse hs64
        clear hway
        go_wp2
        go_quiet (fail)
        go_wp2
        go_quiet (fail)
        go_wp2
        rw [uz_go HS.out]
        simp only [Exit.jump]
        go_ret
        have hde : Wire.intS (some (l.drop a0)) = (Wire.uz s, some (l.drop (p + 1))) := by
          have hw := HW.out
          apply Wire.intS_some
          rw [HD.out, HL.out, Wire.dec_end (by omega) (by simp; omega) (by omega), HSE.out, Nat.mod_eq_of_lt (by omega)]
          rfl
        rw [hde]
        exact ⟨rfl, RS.mk (p := p + 1) (hbq _) (hrd.only (hgq _) (by omega) (Nat.le_refl _)) hnc hc (by omega) rfl, hgq _⟩
      · have HW := Lib.hid hway
        have t9 : ((k : Int) == 9) = false := by rw [beq_eq_false_iff_ne]; omega
        have u0 : decide ((0 : Int) < (k : Int)) = true := by simp; omega
        have u0' : decide (0 < k) = true := by simp; omega
        have uz : ((x.toNat : Int) == 0) = false := by rw [beq_eq_false_iff_ne]; omega
        have u8 : decide ((x.toNat : Int) < 128) = false := by simp; omega
        obtain ⟨y, z, s, hst, hse, hs64⟩ := intStep x k q hk hq.out (by omega)
        obtain ⟨e1, e2, e3⟩ := hst
        have HSE := Lib.hid hse
        have HS := Lib.hid hs64
        clear hse hs64
        clear hway
        go_wp2
        go_quiet (fail)
        go_wp2
        go_quiet (fail)
        go_wp2
        go_roundw
        case rel =>
          have hw := HW.out
          have hs := HSE.out
          have hq' := hq.out
          have hp' := HP.out
          have hxm : x.toNat % 128 = x.toNat - 128 := by have := x.toNat_lt; omega
          refine ⟨k + 1, s, p + 1, rfl, by go_num, by omega, ?_, ?_, by omega, hbq _, ?_, hgq _⟩
          · show s < 128 ^ (k + 1)
            have h7 : 128 ^ k * (x.toNat % 128) ≤ 128 ^ k * 127 := Nat.mul_le_mul (Nat.le_refl _) (by omega)
            rw [Nat.pow_succ]
            omega
          · show p + 1 = a0 + (k + 1)
            omega
          · show _ = _
            rw [HD.out, HL.out, show 9 - k = (9 - (k + 1)) + 1 from by omega, Wire.dec_more (by omega), Option.map_map, decide_eq_false (by omega)]
            congr 1
            funext r
            simp only [Function.comp_apply, Prod.mk.injEq, and_true]
            rw [hs, hxm, Nat.pow_succ, Nat.mul_add, ← Nat.mul_assoc, Nat.add_assoc]
        case measure =>
          have hw := HW.out
          simp [intOf]; omega
      · have HW := Lib.hid hway
        have t9 : ((k : Int) == 9) = false := by rw [beq_eq_false_iff_ne]; omega
        have u0 : decide ((0 : Int) < (k : Int)) = false := by simp; omega
        have u0' : decide (0 < k) = false := by simp; omega
        have u8 : decide ((x.toNat : Int) < 128) = false := by simp; omega
        obtain ⟨y, z, s, hst, hse, hs64⟩ := intStep x k q hk hq.out (by omega)
        obtain ⟨e1, e2, e3⟩ := hst
        have HSE := Lib.hid hse
        have HS := Lib.hid hs64
        clear hse hs64
        clear hway
        go_wp2
        go_quiet (fail)
        go_wp2
        go_quiet (fail)
        go_wp2
        go_roundw
        case rel =>
          have hw := HW.out
          have hs := HSE.out
          have hq' := hq.out
          have hp' := HP.out
          have hxm : x.toNat % 128 = x.toNat - 128 := by have := x.toNat_lt; omega
          refine ⟨k + 1, s, p + 1, rfl, by go_num, by omega, ?_, ?_, by omega, hbq _, ?_, hgq _⟩
          · show s < 128 ^ (k + 1)
            have h7 : 128 ^ k * (x.toNat % 128) ≤ 128 ^ k * 127 := Nat.mul_le_mul (Nat.le_refl _) (by omega)
            rw [Nat.pow_succ]
            omega
          · show p + 1 = a0 + (k + 1)
            omega
          · show _ = _
            rw [HD.out, HL.out, show 9 - k = (9 - (k + 1)) + 1 from by omega, Wire.dec_more (by omega), Option.map_map, decide_eq_false (by omega)]
            congr 1
            funext r
            simp only [Function.comp_apply, Prod.mk.injEq, and_true]
            rw [hs, hxm, Nat.pow_succ, Nat.mul_add, ← Nat.mul_assoc, Nat.add_assoc]
        case measure =>
          have hw := HW.out
          simp [intOf]; omega
    · have hdn : l.drop p = [] := List.drop_eq_nil_of_le (by have := hln.out; omega)
      have HI : Hid (Wire.intS (some (l.drop a0)) = (0, none)) := by
        apply Wire.intS_none
        rw [HD.out, hdn]
        cases h : 9 - k <;> rfl
      have t2 : decide ((p : Int) < (n : Int)) = false := by simp; omega
      have t2' : decide (p < n) = false := by simp; omega
      clear hdn
      have hbk : ∀ N, Blk ((wr.drewN N).setCell ⟨g, 2, none⟩ (.bool true)) g 138 #[.slice A n c, .int .i64 (p : Int), .bool true] := fun N => (hbw.drewN N).set_ 2 (.bool true)
      have hgk : ∀ N, w.grownBy ((wr.drewN N).setCell ⟨g, 2, none⟩ (.bool true)) (some g) := fun N => only_setCell (only_drewN hgr N) (.inl rfl) _
      go_wp2
      go_quiet (fail)
      go_wp2
      go_step3
      go_wp2
      simp only [Exit.jump]
      go_ret
      rw [HI.out]
      exact ⟨rfl, RS.mk (hbk _) (hrd.only (hgk _) (by omega) (Nat.le_refl _)) hnc hc hak rfl, hgk _⟩

set_option maxRecDepth 100000 in
set_option maxHeartbeats 400000 in
theorem rInt_bad (w : World) (g : Nat) (l : List UInt8) (a0 : Nat) (hr : Rdr 138 w g l a0 true) :
    Calls Try.prog 90 #[.pointer (some ⟨g, 0, none⟩)] w fun e w' =>
      e = .returned (.int .i64 0) ∧ RS 138 w' g none ∧ w.grownBy w' (some g) := by
  obtain ⟨A, n, c, hb, hrd, hnc, hc, han⟩ := hr
  have h0 := hb.cell 0
  have h1 := hb.cell 1
  have h2 := hb.cell 2
  have f2 := hb.frozen 2
  have hgl := hb.lt
  simp at h0 h1 h2
  have hbk : ∀ N, Blk ((w.drewN N).setCell ⟨g, 2, none⟩ (.bool true)) g 138 #[.slice A n c, .int .i64 (a0 : Int), .bool true] := fun N => (hb.drewN N).set_ 2 (.bool true)
  have hgk : ∀ N, w.grownBy ((w.drewN N).setCell ⟨g, 2, none⟩ (.bool true)) (some g) := fun N => only_setCell (only_drewN (only_refl w g) N) (.inl rfl) _
  go_enter Try.func90, Try.ntmps90
  go_wp2
  go_step3
  go_wp2
  refine wp_loop_rounds 1 ?_
  rw [rounds_succ]
  go_wp2
  go_quiet (fail)
  go_wp2
  go_step3
  go_wp2
  rw [Exit.noGoto_ret]
  go_ret
  exact ⟨rfl, RS.mk (hbk _) (hrd.only (hgk _) (by omega) (Nat.le_refl _)) hnc hc han rfl, hgk _⟩

theorem rInt_any (w : World) (g : Nat) (s : Option (List UInt8)) (hr : RS 138 w g s) :
    Calls Try.prog 90 #[.pointer (some ⟨g, 0, none⟩)] w fun e w' =>
      e = .returned (.int .i64 (Wire.intS s).1) ∧ RS 138 w' g (Wire.intS s).2 ∧ w.grownBy w' (some g) := by
  obtain ⟨l, p, bad, h, rfl⟩ := hr
  cases bad
  · exact rInt_ok w g l p h
  · exact rInt_bad w g l p h
end Go.Proofs.Ytebeidnmplnlpaa
end

section
namespace Go.Proofs.Ytebeidnmplnlpaa
set_option linter.unusedVariables false
open Go.RowKit

set_option maxHeartbeats 400000 in
theorem rEnd_any (w : World) (g : Nat) (s : Option (List UInt8)) (hr : RS 138 w g s) :
    Calls Try.prog 91 #[.pointer (some ⟨g, 0, none⟩)] w fun e w' => e = .returned (.bool (Wire.endS s)) ∧ ∃ N, w' = w.drewN N := by
  obtain ⟨l, p, bad, ⟨A, n, c, hb, hrd, hnc, hc, hp⟩, rfl⟩ := hr
  have h0 := hb.cell 0
  have h1 := hb.cell 1
  have h2 := hb.cell 2
  have f1 := hb.frozen 1
  have f2 := hb.frozen 2
  have hgl := hb.lt
  have hln : Hid (l.length = n) := by have := hrd.1; rw [bv_length] at this; show _ = _; omega
  simp at h0 h1 h2
  cases bad
  · have hlf : (((p : Int)) == (n : Int)) = Wire.endS (some (l.drop p)) := by
      have := hln.out
      unfold Wire.endS
      rw [Bool.eq_iff_iff, beq_iff_eq]
      simp
      omega
    have HLF := Lib.hid hlf
    clear hlf
    go_enter Try.func91, Try.ntmps91
    go_wp2
    go_quiet (fail)
    go_wp2
    go_ret
    refine ⟨?_, _, rfl⟩
    show _ = Ending.returned (.bool (Wire.endS (some (l.drop p))))
    rw [← HLF.out]
    rfl
  · 
    go_enter Try.func91, Try.ntmps91
    go_wp2
    go_quiet (fail)
    go_wp2
    go_ret
    exact ⟨rfl, _, rfl⟩

end Go.Proofs.Ytebeidnmplnlpaa
end

section
namespace Go.Proofs.Ytebeidnmplnlpaa
set_option linter.unusedVariables false
open Go.RowKit

end Go.Proofs.Ytebeidnmplnlpaa
end

section
namespace Go.Proofs.Ytebeidnmplnlpaa
set_option linter.unusedVariables false
open Go.RowKit

theorem RS.split {T : TypeId} {w : World} {g : Nat} {s : Option (List UInt8)} (h : RS T w g s) :
    ∃ (l : List UInt8) (p : Nat) (A : Option Addr) (n c : Nat), Blk w g T #[.slice A n c, .int .i64 (p : Int), .bool (s == none)] ∧ Reads w g 1 A n (bv l) ∧ n ≤ c ∧ n ≤ 4611686018427387904 ∧ p ≤ n ∧ l.length = n ∧ (∀ r, s = some r → r = l.drop p) := by
  obtain ⟨l, p, bad, ⟨A, n, c, hb, hrd, hnc, hc, hp⟩, rfl⟩ := h
  have hln : l.length = n := by have := hrd.1; rw [bv_length] at this; omega
  cases bad
  · exact ⟨l, p, A, n, c, hb, hrd, hnc, hc, hp, hln, fun r hr => by simp at hr; exact hr.symm⟩
  · exact ⟨l, p, A, n, c, hb, hrd, hnc, hc, hp, hln, fun r hr => by simp at hr⟩

theorem rOk_any (w : World) (g : Nat) (s : Option (List UInt8)) (hr : RS 138 w g s) :
    Calls Try.prog 127 #[.pointer (some ⟨g, 0, none⟩)] w fun e w' => e = .returned (.bool (Wire.okS s)) ∧ w = w' := by
  obtain ⟨l, p, A, n, c, hb, _⟩ := hr.split
  have h2 := hb.cell 2
  simp at h2
  go_enter Try.func127, Try.ntmps127
  go_wp2
  go_ret
  exact ⟨by cases s <;> rfl, rfl⟩

set_option maxHeartbeats 400000 in
theorem rNew_any (A : Option Addr) (n c B : Nat) (l : List UInt8) (w : World) (hn : n ≤ 140737488355328) (hrd : Reads w B 1 A n (bv l)) :
    Calls Try.prog 89 #[.slice A n c] w fun e w' => ∃ g, e = .returned (.pointer (some ⟨g, 0, none⟩)) ∧ w.heap.size ≤ g ∧ RS 138 w' g (some l) ∧ Below w.heap.size w w' := by
  go_enter Try.func89, Try.ntmps89
  go_wp2_with (at_builtin; refine app_copy _ rfl _ rfl B A n c l rfl hrd hn ?_; intro A' c' w1 hO hb)
  go_ret
  obtain ⟨A1, c1, e1, hc1, _⟩ := (AppB.form (.inl hO) : _)
  injection e1 with e1 e2 e3
  subst e1; subst e3
  refine ⟨_, rfl, hb.size, RS.mk (p := 0) (Blk.new w1 _ _) (hO.reads.alloc (Nat.le_refl _) _) hc1 (by omega) (by omega) rfl, hb.alloc hb.size _⟩
end Go.Proofs.Ytebeidnmplnlpaa
end
