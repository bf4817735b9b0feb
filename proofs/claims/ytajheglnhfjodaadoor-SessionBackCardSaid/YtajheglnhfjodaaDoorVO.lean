/- The rules of the calculus, operation by operation. No condition. -/
import Derived.Test.YtajheglnhfjodaaDoorVR
set_option maxRecDepth 10000
namespace Go.Proofs.YtajheglnhfjodaaDoor
set_option linter.unusedVariables false
open Go.RowKit

/-! ### what is known of types -/
class TSlice (P : Program) (t : TypeId) (e : outParam TypeId) (k : outParam Nat) : Prop where
  u : P.underlying t = some (.slice e)
  s : (P.info? e).map (·.size) = some k
class TStr (P : Program) (t : TypeId) : Prop where
  u : P.underlying t = some .string
class TBool (P : Program) (t : TypeId) : Prop where
  u : P.underlying t = some .bool
class TPtr (P : Program) (t : TypeId) : Prop where
  u : ∃ e, P.underlying t = some (.pointer e)
class TInt (P : Program) (t : TypeId) (k : outParam IntKind) : Prop where
  u : P.underlying t = some (.int k)
def cellB (P : Program) (t : TypeId) : Bool := match P.underlying t with
  | none | some (.struct _) | some (.array ..) => false
  | _ => match P.info? t with | some i => Nat.beq i.size 1 && i.zero.isSome | none => false
class TCell (P : Program) (t : TypeId) : Prop where
  c : cellB P t = true
def fieldB (P : Program) (s : TypeId) (f : Nat) : Option (TypeId × Nat × Nat) := match P.underlying s with
  | some (.struct fs) => match fs[f]? with
    | some fd => match P.info? fd.type with | some i => some (fd.type, fd.offset, i.size) | none => none
    | none => none
  | _ => none
class TField (P : Program) (s : TypeId) (f : Nat) (t : outParam TypeId) (o : outParam Nat) (k : outParam Nat) : Prop where
  f : fieldB P s f = some (t, o, k)
  n : k ≠ 0
class TAgg (P : Program) (t : TypeId) (k : outParam Nat) : Prop where
  a : (match P.underlying t with | some (.struct _) | some (.array ..) => true | _ => false) = true
  s : (P.info? t).map (·.size) = some k
class TArr (P : Program) (t : TypeId) (n : outParam Nat) (e : outParam TypeId) (k : outParam Nat) : Prop where
  u : P.underlying t = some (.array n e)
  s : (P.info? e).map (·.size) = some k
class TMap (P : Program) (t : TypeId) (k : outParam TypeId) (e : outParam TypeId) : Prop where
  u : P.underlying t = some (.map k e)
class Ent (P : Program) (f : FuncId) : Prop where
  e : enters P f = true

section
variable {P : Program} {S : World → Prop} {w W : World}
theorem cellB_out {t : TypeId} (h : cellB P t = true) : (∃ d, P.underlying t = some d ∧ (∀ fs, d ≠ .struct fs) ∧ (∀ n e, d ≠ .array n e)) ∧ ∃ i, P.info? t = some i ∧ i.size = 1 ∧ i.zero.isSome = true := by
  unfold cellB at h
  split at h
  · cases h
  · cases h
  · cases h
  · rename_i h1 h2 h3
    split at h
    · rename_i i hi
      simp only [Bool.and_eq_true] at h
      refine ⟨?_, i, hi, Nat.eq_of_beq_eq_true h.1, h.2⟩
      cases hu : P.underlying t with
      | none => exact (h1 hu).elim
      | some d => exact ⟨d, rfl, fun fs e => h2 fs (by rw [hu, e]), fun n e e' => h3 n e (by rw [hu, e'])⟩
    · cases h
theorem run_isAgg_cell {t : TypeId} (h : cellB P t = true) : (isAgg t).run P W = .ok false W := by
  obtain ⟨⟨d, hd, h1, h2⟩, _⟩ := cellB_out h
  unfold isAgg
  simp only [Sem.run_bind, run_underlying hd, Result.andThen_ok]
  cases d <;> first | rfl | exact (h1 _ rfl).elim | exact (h2 _ _ rfl).elim
theorem run_load_cell {t : TypeId} {p : Addr} {v : Value} (h : cellB P t = true) (hc : W.cell? p = some v) : (Instr.loadAt t (.pointer (some p))).run P W = .ok v W := by
  unfold Instr.loadAt Instr.sureAddr loadVar
  simp [run_isAgg_cell h, hc]
theorem run_size {t : TypeId} {k : Nat} (h : (P.info? t).map (·.size) = some k) : (sizeOf t).run P W = .ok k W := by
  cases hi : P.info? t with
  | none => rw [hi] at h; cases h
  | some i =>
    rw [hi] at h
    simp only [Option.map_some, Option.some.injEq] at h
    simp [sizeOf, typeInfo, hi, h]
theorem fieldB_out {s f t o k : Nat} (h : fieldB P s f = some (t, o, k)) : ∃ fs fd, P.underlying s = some (.struct fs) ∧ fs[f]? = some fd ∧ fd.type = t ∧ fd.offset = o ∧ (P.info? t).map (·.size) = some k := by
  unfold fieldB at h
  split at h
  · rename_i fs hs
    split at h
    · rename_i fd hf
      split at h
      · rename_i i hi
        simp only [Option.some.injEq, Prod.mk.injEq] at h
        obtain ⟨rfl, rfl, rfl⟩ := h
        exact ⟨fs, fd, hs, hf, rfl, rfl, by rw [hi]; rfl⟩
      · cases h
    · cases h
  · cases h
theorem VRead.of {s : Sem Value} {K : Value → Prop} {v : Value} (h : ∀ W, S W → s.run P W = .ok v W) (hk : K v) : VRead P S s K := by simp only [VRead_eq]; exact ⟨v, h, hk⟩
theorem VRead.ofW {s : Sem Value} {K : Value → Prop} {v : Value} (h : ∀ W, s.run P W = .ok v W) (hk : K v) : VRead P S s K := .of (fun W _ => h W) hk
theorem VRead.of1 {s : Sem Value} {K : Value → Prop} {v : Value} (h : s.run P w = .ok v w) (hk : K v) : VRead P (Eq w) s K := .of (fun W e => e ▸ h) hk
theorem VSem.of {s : Sem Value} {K : Value → World → Prop} {v : Value} {w' : World} (h : s.run P w = .ok v w') (hk : K v w') : VSem P s w K := by simp only [VSem_eq]; exact ⟨v, w', h, hk⟩
theorem VUnit.of {s : Sem Unit} {K : World → Prop} {w' : World} (h : s.run P w = .ok () w') (hk : K w') : VUnit P s w K := by simp only [VUnit_eq]; exact ⟨w', h, hk⟩
theorem VRead.load {t : TypeId} {p : Addr} {v : Value} {K : Value → Prop} [c : TCell P t] (h : ∀ W, S W → W.cell? p = some v) (hk : K v) : VRead P S (Instr.loadAt t (.pointer (some p))) K :=
  .of (fun W hW => run_load_cell c.c (h W hW)) hk
theorem VRead.load1 {t : TypeId} {p : Addr} {v : Value} {K : Value → Prop} [c : TCell P t] (h : w.cell? p = some v) (hk : K v) : VRead P (Eq w) (Instr.loadAt t (.pointer (some p))) K :=
  .of1 (run_load_cell c.c h) hk
theorem elem_of {t e : TypeId} (h : P.underlying t = some (.slice e)) : P.underlying t = some (.slice (P.elem t)) := by rw [h]; unfold Program.elem; rw [h]
theorem VRead.lenS {t ty e k : Nat} {A : Option Addr} {n c : Nat} {K : Value → Prop} [i : TSlice P t e k] (hk : K (.int .i64 n)) : VRead P S (Builtin.len_ #[t] ty [Value.slice A n c].toArray) K :=
  .ofW (fun W => run_len_slice W t ty A n c (elem_of i.u)) hk
theorem VRead.lenT {t ty : TypeId} {s : ByteArray} {K : Value → Prop} [i : TStr P t] (hk : K (.int .i64 s.size)) : VRead P S (Builtin.len_ #[t] ty [Value.string s].toArray) K :=
  .ofW (fun W => run_len_string W t ty s i.u) hk
theorem VRead.capS {t ty e k : Nat} {A : Option Addr} {n c : Nat} {K : Value → Prop} [i : TSlice P t e k] (hk : K (.int .i64 c)) : VRead P S (Builtin.cap_ #[t] ty [Value.slice A n c].toArray) K :=
  .ofW (fun W => run_cap_slice W t ty A n c (elem_of i.u)) hk
theorem VRead.at1 {t e : Nat} {a : Addr} {n c j : Nat} {kk : IntKind} {K : Value → Prop} [i : TSlice P t e 1] (h : j < n) (hk : K (.pointer (some (a.add j)))) : VRead P S (Instr.indexAt t (.slice (some a) n c) (.int kk (j : Int))) K :=
  .ofW (fun W => by rw [run_indexAt_slice W t a n c kk j (elem_of i.u), if_pos ⟨by omega, by omega⟩, show P.elem t = e from by unfold Program.elem; rw [i.u], run_size i.s]; simp) hk
theorem VRead.atI {t e : Nat} {a : Addr} {n c : Nat} {z : Int} {kk : IntKind} {K : Value → Prop} [i : TSlice P t e 1] (h0 : 0 ≤ z) (h : z < n) (hk : K (.pointer (some (a.add z.toNat)))) : VRead P S (Instr.indexAt t (.slice (some a) n c) (.int kk z)) K :=
  .ofW (fun W => by rw [run_indexAt_slice W t a n c kk z (elem_of i.u), if_pos ⟨by omega, by omega⟩, show P.elem t = e from by unfold Program.elem; rw [i.u], run_size i.s]; simp) hk
theorem VRead.atK {t e k : Nat} {a : Addr} {n c j : Nat} {kk : IntKind} {K : Value → Prop} [i : TSlice P t e k] (h : j < n) (hk : K (.pointer (some (a.add (j * k))))) : VRead P S (Instr.indexAt t (.slice (some a) n c) (.int kk (j : Int))) K :=
  .ofW (fun W => by rw [run_indexAt_slice W t a n c kk j (elem_of i.u), if_pos ⟨by omega, by omega⟩, show P.elem t = e from by unfold Program.elem; rw [i.u], run_size i.s]; simp) hk
theorem VRead.idxT {t : Nat} {s : ByteArray} {j : Nat} {kk : IntKind} {x : UInt8} {K : Value → Prop} [i : TStr P t] (h : s.data.toList[j]? = some x) (hk : K (.int .u8 (x.toNat : Int))) : VRead P S (Instr.index t (.string s) (.int kk (j : Int))) K :=
  .ofW (fun W => by
    have hl := (List.getElem?_eq_some_iff.1 h)
    obtain ⟨h1, h2⟩ := hl
    have h3 : j < s.size := by rw [Array.length_toList] at h1; exact h1
    rw [run_index_string W t s kk j i.u, dif_pos ⟨by omega, by omega⟩]
    congr 3
    rw [← h2]
    rfl) hk
theorem VRead.fld {s f t o k : Nat} {p : Addr} {K : Value → Prop} [i : TField P s f t o k] (hk : K (.pointer (some (p.add o)))) : VRead P S (Instr.fieldAt s (.pointer (some p)) f) K := by
  obtain ⟨fs, fd, h1, h2, h3, h4, h5⟩ := fieldB_out i.f
  refine .ofW (v := .pointer (some (p.add o))) (fun W => ?_) hk
  subst h3
  unfold Instr.fieldAt Instr.sureAddr fieldPlace
  simp [run_underlying h1, h2, run_size h5, i.n, h4]
theorem VRead.part {s f t o k : Nat} {cs : Array Value} {v : Value} {K : Value → Prop} [i : TField P s f t o k] [c : TCell P t] (hv : cs.toList[o]? = some v) (hk : K v) : VRead P S (Instr.field s (.agg cs) f) K := by
  obtain ⟨fs, fd, h1, h2, h3, h4, h5⟩ := fieldB_out i.f
  refine .ofW (v := v) (fun W => ?_) hk
  have hv' : cs[o]? = some v := by rw [← hv]; simp
  subst h3
  unfold Instr.field Go.part
  simp [run_underlying h1, h2, asAgg, run_isAgg_cell c.c, h4, hv']

/-! ### slices of slices -/
theorem VRead.cutL {t e : Nat} {A : Option Addr} {n c : Nat} {z : Int} {kk : IntKind} {K : Value → Prop} [i : TSlice P t e 1] (h0 : 0 ≤ z) (h : z ≤ n) (hk : K (.slice (cutA A c z.toNat) (n - z.toNat) (c - z.toNat))) : VRead P S (Instr.sliceAt t (.slice A n c) (some (.int kk z)) none none) K :=
  .ofW (fun W => by
    rw [run_sliceAt_slice W t _ _ _ _ (elem_of i.u), run_slice_l W t A n c (elem_of i.u) kk z h0 h, show P.elem t = e from by unfold Program.elem; rw [i.u], run_size i.s]
    simp [sliced, cutA]) hk
theorem VRead.cutH {t e : Nat} {A : Option Addr} {n c : Nat} {z : Int} {kk : IntKind} {K : Value → Prop} [i : TSlice P t e 1] (h0 : 0 ≤ z) (h : z ≤ c) (hk : K (.slice A z.toNat c)) : VRead P S (Instr.sliceAt t (.slice A n c) none (some (.int kk z)) none) K :=
  .ofW (fun W => by
    rw [run_sliceAt_slice W t _ _ _ _ (elem_of i.u), run_slice_h W t A n c (elem_of i.u) kk z h0 h, show P.elem t = e from by unfold Program.elem; rw [i.u], run_size i.s]
    have := cutA_zero A c
    unfold cutA at this
    simp [sliced, this]) hk
theorem VRead.cutLH {t e : Nat} {A : Option Addr} {n c : Nat} {y z : Int} {kk kj : IntKind} {K : Value → Prop} [i : TSlice P t e 1] (h0 : 0 ≤ y) (h1 : y ≤ z) (h : z ≤ c) (hk : K (.slice (cutA A c y.toNat) (z.toNat - y.toNat) (c - y.toNat))) : VRead P S (Instr.sliceAt t (.slice A n c) (some (.int kk y)) (some (.int kj z)) none) K :=
  .ofW (fun W => by
    rw [run_sliceAt_slice W t _ _ _ _ (elem_of i.u), run_slice_lh W t A n c (elem_of i.u) kk kj y z h0 h1 h, show P.elem t = e from by unfold Program.elem; rw [i.u], run_size i.s]
    simp [sliced, cutA]) hk
theorem VRead.cutHM {t e : Nat} {A : Option Addr} {n c : Nat} {z m : Int} {kk kj : IntKind} {K : Value → Prop} [i : TSlice P t e 1] (h0 : 0 ≤ z) (h1 : z ≤ m) (h : m ≤ c) (hk : K (.slice A z.toNat m.toNat)) : VRead P S (Instr.sliceAt t (.slice A n c) none (some (.int kk z)) (some (.int kj m))) K :=
  .ofW (fun W => by
    rw [run_sliceAt_slice W t _ _ _ _ (elem_of i.u), run_slice_hm W t A n c (elem_of i.u) kk kj z m h0 h1 h, show P.elem t = e from by unfold Program.elem; rw [i.u], run_size i.s]
    have h5 := cutA_zero A m.toNat
    unfold cutA at h5
    simp only [Result.andThen_ok, sliced, Nat.zero_mul, Nat.sub_zero]
    rw [h5]) hk
theorem VRead.textL {t : Nat} {s : ByteArray} {z : Int} {kk : IntKind} {K : Value → Prop} [i : TStr P t] (h0 : 0 ≤ z) (h : z ≤ s.size) (hk : K (.string (s.extract z.toNat s.size))) : VRead P S (Instr.sliceAt t (.string s) (some (.int kk z)) none none) K :=
  .ofW (fun W => by rw [run_sliceAt_string W t _ _ _ _ i.u, run_slice_string_l W t s i.u kk z h0 h]) hk
theorem VRead.textH {t : Nat} {s : ByteArray} {z : Int} {kk : IntKind} {K : Value → Prop} [i : TStr P t] (h0 : 0 ≤ z) (h : z ≤ s.size) (hk : K (.string (s.extract 0 z.toNat))) : VRead P S (Instr.sliceAt t (.string s) none (some (.int kk z)) none) K :=
  .ofW (fun W => by rw [run_sliceAt_string W t _ _ _ _ i.u, run_slice_string_h W t s i.u kk z h0 h]) hk
theorem VRead.textLH {t : Nat} {s : ByteArray} {y z : Int} {kk kj : IntKind} {K : Value → Prop} [i : TStr P t] (h0 : 0 ≤ y) (h1 : y ≤ z) (h : z ≤ s.size) (hk : K (.string (s.extract y.toNat z.toNat))) : VRead P S (Instr.sliceAt t (.string s) (some (.int kk y)) (some (.int kj z)) none) K :=
  .ofW (fun W => by rw [run_sliceAt_string W t _ _ _ _ i.u, run_slice_string W t s kk kj y z i.u h0 h1 h]) hk

theorem VRead.cutR {t e : Nat} {A : Option Addr} {n c B : Nat} {l : List UInt8} {u : World} {Y Z : Int} {kk kj : IntKind} {K : Value → Prop} [i : TSlice P t e 1] (y z : Nat) (hr : Reads u B 1 A n (bv l)) (hy : Y = (y : Int)) (hz : Z = (z : Int)) (h1 : y ≤ z) (h2 : z ≤ n) (hc : n ≤ c)
    (hk : ∀ A', Reads u B 1 A' (z - y) (bv ((l.take z).drop y)) → K (.slice A' (z - y) (c - y))) : VRead P S (Instr.sliceAt t (.slice A n c) (some (.int kk Y)) (some (.int kj Z)) none) K := by
  subst hy hz
  exact VRead.cutLH (by omega) (by omega) (by omega) (hk _ ((hr.take h2).cutA h1 (by omega)))
theorem VRead.cutRL {t e : Nat} {A : Option Addr} {n c B : Nat} {l : List UInt8} {u : World} {Y : Int} {kk : IntKind} {K : Value → Prop} [i : TSlice P t e 1] (y : Nat) (hr : Reads u B 1 A n (bv l)) (hy : Y = (y : Int)) (h1 : y ≤ n) (hc : n ≤ c)
    (hk : ∀ A', Reads u B 1 A' (n - y) (bv (l.drop y)) → K (.slice A' (n - y) (c - y))) : VRead P S (Instr.sliceAt t (.slice A n c) (some (.int kk Y)) none none) K := by
  subst hy
  exact VRead.cutL (by omega) (by omega) (hk _ (hr.cutA h1 (by omega)))
theorem VRead.cutRH {t e : Nat} {A : Option Addr} {n c B : Nat} {l : List UInt8} {u : World} {Z : Int} {kk : IntKind} {K : Value → Prop} [i : TSlice P t e 1] (z : Nat) (hr : Reads u B 1 A n (bv l)) (hz : Z = (z : Int)) (h1 : z ≤ n) (hc : n ≤ c)
    (hk : Reads u B 1 A z (bv (l.take z)) → K (.slice A z c)) : VRead P S (Instr.sliceAt t (.slice A n c) none (some (.int kk Z)) none) K := by
  subst hz
  exact VRead.cutH (by omega) (by omega) (hk (hr.take h1))

/-! ### numbers -/
theorem VWrap.i64 {z : Int} {K : Int → Prop} (h1 : -9223372036854775808 ≤ z) (h2 : z ≤ 9223372036854775807) (hk : K z) : VWrap .i64 z K := by
  simp only [VWrap_eq]; rwa [IntWalk.i64_in z ⟨h1, h2⟩]
theorem VWrap.of {k : IntKind} {z z' : Int} {K : Int → Prop} (e : k.wrap z = z') (hk : K z') : VWrap k z K := by simp only [VWrap_eq]; rwa [e]
theorem VWrap.any {k : IntKind} {z : Int} {K : Int → Prop} (hk : K (k.wrap z)) : VWrap k z K := by simp only [VWrap_eq]; exact hk
theorem wrap_u {k : IntKind} {z : Int} (hs : k.signed = false) (h1 : 0 ≤ z) (h2 : z < 2 ^ k.bits) : k.wrap z = z := by
  unfold IntKind.wrap
  rw [hs]
  simp only [Bool.false_eq_true, if_false, false_and]
  exact Int.emod_eq_of_lt h1 h2
theorem VWrap.u64 {z : Int} {K : Int → Prop} (h1 : 0 ≤ z) (h2 : z ≤ 18446744073709551615) (hk : K z) : VWrap .u64 z K := by
  simp only [VWrap_eq]; rwa [wrap_u rfl h1 (by simp [IntKind.bits]; omega)]
theorem VWrap.u32 {z : Int} {K : Int → Prop} (h1 : 0 ≤ z) (h2 : z ≤ 4294967295) (hk : K z) : VWrap .u32 z K := by
  simp only [VWrap_eq]; rwa [wrap_u rfl h1 (by simp [IntKind.bits]; omega)]
theorem VWrap.u8 {z : Int} {K : Int → Prop} (h1 : 0 ≤ z) (h2 : z ≤ 255) (hk : K z) : VWrap .u8 z K := by
  simp only [VWrap_eq]; rwa [wrap_u rfl h1 (by simp [IntKind.bits]; omega)]
theorem VBin.of {op : BinOp} {t : TypeId} {x y : Operand} {k j : IntKind} {m n : Int} {v : Value} {K : Value → Prop} (h : ∀ W, (binOp op t (.int k m) (.int j n)).run P W = .ok v W) (hk : K v) :
    VRead P S (do eqGuard op t x y (.int k m) (.int j n); binOp op t (.int k m) (.int j n)) K :=
  .ofW (fun W => by rw [Sem.run_bind, eqGuard_int]; exact h W) hk
theorem VRead.quo {t : TypeId} {x y : Operand} {k : IntKind} {m n : Int} {K : Value → Prop} (h0 : 0 ≤ m) (h1 : 1 ≤ n) (hm : k.wrap (m / n) = m / n) (hk : K (.int k (m / n))) :
    VRead P S (do eqGuard .quo t x y (.int k m) (.int k n); binOp .quo t (.int k m) (.int k n)) K :=
  VBin.of (fun W => by
    have e : m.tdiv n = m / n := Int.tdiv_eq_ediv_of_nonneg h0
    simp [binOp, Op.intDiv, show ¬ n = 0 from by omega, e, hm]) hk
theorem VRead.quo64 {t : TypeId} {x y : Operand} {m n : Int} {K : Value → Prop} (h0 : 0 ≤ m) (h1 : 1 ≤ n) (hm : m ≤ 9223372036854775807) (hk : K (.int .i64 (m / n))) :
    VRead P S (do eqGuard .quo t x y (.int .i64 m) (.int .i64 n); binOp .quo t (.int .i64 m) (.int .i64 n)) K :=
  VRead.quo h0 h1 (IntWalk.i64_in _ ⟨by have := Int.ediv_nonneg h0 (by omega : 0 ≤ n); omega, by have := Int.ediv_le_self n h0; omega⟩) hk
theorem VRead.rem {t : TypeId} {x y : Operand} {k : IntKind} {m n : Int} {K : Value → Prop} (h0 : 0 ≤ m) (h1 : n ≠ 0) (hk : K (.int k (m % n))) :
    VRead P S (do eqGuard .rem t x y (.int k m) (.int k n); binOp .rem t (.int k m) (.int k n)) K :=
  VBin.of (fun W => by
    have e : m.tmod n = m % n := Int.tmod_eq_emod_of_nonneg h0
    simp [binOp, Op.intDiv, h1, e]) hk
theorem VRead.remT {t : TypeId} {x y : Operand} {k : IntKind} {m n : Int} {K : Value → Prop} (h1 : n ≠ 0) (hk : K (.int k (m.tmod n))) :
    VRead P S (do eqGuard .rem t x y (.int k m) (.int k n); binOp .rem t (.int k m) (.int k n)) K :=
  VBin.of (fun W => by simp [binOp, Op.intDiv, h1]) hk
theorem run_bits {op : BinOp} {k : IntKind} {m n : Int} (h : op = .and ∨ op = .or ∨ op = .xor) (t : TypeId) : (binOp op t (.int k m) (.int k n)).run P W = .ok (.int k (bits op k m n)) W := by
  rcases h with rfl | rfl | rfl <;> simp [binOp, Op.intBits, bits]
theorem VRead.and {t : TypeId} {x y : Operand} {k : IntKind} {m n : Int} {K : Value → Prop} (hk : K (.int k (bits .and k m n))) :
    VRead P S (do eqGuard .and t x y (.int k m) (.int k n); binOp .and t (.int k m) (.int k n)) K := VBin.of (fun W => run_bits (.inl rfl) t) hk
theorem VRead.or {t : TypeId} {x y : Operand} {k : IntKind} {m n : Int} {K : Value → Prop} (hk : K (.int k (bits .or k m n))) :
    VRead P S (do eqGuard .or t x y (.int k m) (.int k n); binOp .or t (.int k m) (.int k n)) K := VBin.of (fun W => run_bits (.inr (.inl rfl)) t) hk
theorem VRead.xor {t : TypeId} {x y : Operand} {k : IntKind} {m n : Int} {K : Value → Prop} (hk : K (.int k (bits .xor k m n))) :
    VRead P S (do eqGuard .xor t x y (.int k m) (.int k n); binOp .xor t (.int k m) (.int k n)) K := VBin.of (fun W => run_bits (.inr (.inr rfl)) t) hk
theorem VRead.neg {k : IntKind} {n : Int} {K : Value → Prop} (hk : VWrap k (0 - n) fun z => K (.int k z)) : VRead P S (Op.unary .neg (.int k n)) K := by
  simp only [VWrap_eq] at hk
  exact .ofW (fun W => by simp [Op.unary, Op.intArith]) hk
theorem VRead.shr {t : TypeId} {x y : Operand} {k j : IntKind} {m n : Int} {K : Value → Prop} (h0 : 0 ≤ n) (h1 : n ≤ k.bits) (hk : K (.int k (m / 2 ^ n.toNat))) :
    VRead P S (do eqGuard .shr t x y (.int k m) (.int j n); binOp .shr t (.int k m) (.int j n)) K :=
  VBin.of (fun W => by
    have e : min n.toNat k.bits = n.toNat := by omega
    have p : (0 : Int) < 2 ^ n.toNat := Int.pow_pos (by omega)
    simp only [binOp, Op.shift, show ¬ n < 0 from by omega, if_false, e]
    rw [Int.fdiv_eq_ediv_of_nonneg _ (by omega)]
    rfl) hk
theorem VRead.shl {t : TypeId} {x y : Operand} {k j : IntKind} {m n : Int} {K : Value → Prop} (h0 : 0 ≤ n) (h1 : n ≤ k.bits) (hk : VWrap k (m * 2 ^ n.toNat) fun z => K (.int k z)) :
    VRead P S (do eqGuard .shl t x y (.int k m) (.int j n); binOp .shl t (.int k m) (.int j n)) K := by
  simp only [VWrap_eq] at hk
  exact VBin.of (fun W => by
    have e : min n.toNat k.bits = n.toNat := by omega
    simp only [binOp, Op.shift, show ¬ n < 0 from by omega, if_false, e]
    rfl) hk
theorem VRead.shl64 {t : TypeId} {x y : Operand} {j : IntKind} {m n : Int} {K : Value → Prop} (h0 : 0 ≤ n) (h1 : n ≤ 64) (hk : VWrap .u64 (m * 2 ^ n.toNat) fun z => K (.int .u64 z)) :
    VRead P S (do eqGuard .shl t x y (.int .u64 m) (.int j n); binOp .shl t (.int .u64 m) (.int j n)) K := .shl h0 h1 hk
theorem VRead.shl32 {t : TypeId} {x y : Operand} {j : IntKind} {m n : Int} {K : Value → Prop} (h0 : 0 ≤ n) (h1 : n ≤ 32) (hk : VWrap .u32 (m * 2 ^ n.toNat) fun z => K (.int .u32 z)) :
    VRead P S (do eqGuard .shl t x y (.int .u32 m) (.int j n); binOp .shl t (.int .u32 m) (.int j n)) K := .shl h0 h1 hk
theorem VRead.quoU {t : TypeId} {x y : Operand} {m n : Int} {K : Value → Prop} (h0 : 0 ≤ m) (h1 : 1 ≤ n) (hm : m ≤ 18446744073709551615) (hk : K (.int .u64 (m / n))) :
    VRead P S (do eqGuard .quo t x y (.int .u64 m) (.int .u64 n); binOp .quo t (.int .u64 m) (.int .u64 n)) K :=
  VRead.quo h0 h1 (wrap_u rfl (Int.ediv_nonneg h0 (by omega)) (by have := Int.ediv_le_self n h0; simp [IntKind.bits]; omega)) hk
theorem VRead.eqB {t : TypeId} {x y : Operand} {a b : Bool} {K : Value → Prop} [i : TBool P t] (hk : K (.bool (decide (a = b)))) :
    VRead P S (do eqGuard .eql t x y (.bool a) (.bool b); binOp .eql t (.bool a) (.bool b)) K :=
  .ofW (fun W => by
    rw [Sem.run_bind, show (eqGuard .eql t x y (.bool a) (.bool b)).run P W = .ok () W from rfl]
    simp only [Result.andThen_ok]
    rw [run_eql_bool W t a b i.u]
    cases a <;> cases b <;> rfl) hk
theorem VRead.neB {t : TypeId} {x y : Operand} {a b : Bool} {K : Value → Prop} [i : TBool P t] (hk : K (.bool (!decide (a = b)))) :
    VRead P S (do eqGuard .neq t x y (.bool a) (.bool b); binOp .neq t (.bool a) (.bool b)) K :=
  .ofW (fun W => by
    rw [Sem.run_bind, show (eqGuard .neq t x y (.bool a) (.bool b)).run P W = .ok () W from rfl]
    simp only [Result.andThen_ok]
    rw [run_neq_bool W t a b i.u]
    cases a <;> cases b <;> rfl) hk
theorem VRead.eqPN {t : TypeId} {x y : Operand} {p : Addr} {K : Value → Prop} [i : TPtr P t] (hk : K (.bool false)) :
    VRead P S (do eqGuard .eql t x y (.pointer (some p)) (.pointer none); binOp .eql t (.pointer (some p)) (.pointer none)) K := by
  obtain ⟨e, he⟩ := i.u
  refine .ofW (fun W => ?_) hk
  rw [Sem.run_bind, show (eqGuard .eql t x y (.pointer (some p)) (.pointer none)).run P W = .ok () W from rfl]
  have hp : P.underlying t = some (.pointer (P.pointee t)) := by rw [he]; unfold Program.pointee; rw [he]
  simp only [Result.andThen_ok]
  rw [run_eql_pointer_nil W t (some p) hp]
  rfl
theorem VRead.nePN {t : TypeId} {x y : Operand} {p : Addr} {K : Value → Prop} [i : TPtr P t] (hk : K (.bool true)) :
    VRead P S (do eqGuard .neq t x y (.pointer (some p)) (.pointer none); binOp .neq t (.pointer (some p)) (.pointer none)) K := by
  obtain ⟨e, he⟩ := i.u
  refine .ofW (fun W => ?_) hk
  rw [Sem.run_bind, show (eqGuard .neq t x y (.pointer (some p)) (.pointer none)).run P W = .ok () W from rfl]
  have hp : P.underlying t = some (.pointer (P.pointee t)) := by rw [he]; unfold Program.pointee; rw [he]
  simp only [Result.andThen_ok]
  rw [run_neq_pointer_nil W t (some p) hp]
  rfl
theorem run_conv {s d : TypeId} {j k : IntKind} {n : Int} (hs : P.underlying s = some (.int j)) (hd : P.underlying d = some (.int k)) : (convert s d (.int j n)).run P W = .ok (.int k (k.wrap n)) W := by
  simp [convert, run_underlying hs, run_underlying hd, Conv.intToInt]
theorem VSem.convI {s d : TypeId} {j k : IntKind} {n : Int} {K : Value → World → Prop} [a : TInt P s j] [b : TInt P d k] (hk : VWrap k n fun z => K (.int k z) w) : VSem P (convert s d (.int j n)) w K := by
  simp only [VWrap_eq] at hk; exact .of (run_conv a.u b.u) hk
theorem VRead.convI {s d : TypeId} {j k : IntKind} {n : Int} {K : Value → Prop} [a : TInt P s j] [b : TInt P d k] (hk : VWrap k n fun z => K (.int k z)) : VRead P S (convert s d (.int j n)) K := by
  simp only [VWrap_eq] at hk; exact .ofW (fun W => run_conv a.u b.u) hk
theorem VSem.convT {s d e k : TypeId} {B : Nat} {A : Option Addr} {n c : Nat} {l : List UInt8} {K : Value → World → Prop} [a : TSlice P s e k] [i : TInt P e .u8] [b : TStr P d] (h : Reads w B 1 A n (bv l)) (hk : K (.string (txt l)) w) :
    VSem P (convert s d (.slice A n c)) w K := .of (run_string_of w a.u i.u b.u c h) hk
theorem VRead.convT {s d e k : TypeId} {B : Nat} {A : Option Addr} {n c : Nat} {l : List UInt8} {K : Value → Prop} [a : TSlice P s e k] [i : TInt P e .u8] [b : TStr P d] (h : ∀ W, S W → Reads W B 1 A n (bv l)) (hk : K (.string (txt l))) :
    VRead P S (convert s d (.slice A n c)) K := .of (fun W hW => run_string_of W a.u i.u b.u c (h W hW)) hk
theorem VRead.min2 {ts : Array TypeId} {t : TypeId} {k k' : IntKind} {x y : Int} {K : Value → Prop} (hk : K (.int k (if y < x then y else x))) : VRead P S (Builtin.min_ ts t [Value.int k x, .int k' y].toArray) K :=
  .ofW (fun W => run_min_int2 W ts t k k' x y) hk
theorem VRead.convT1 {s d e k : TypeId} {B : Nat} {A : Option Addr} {n c : Nat} {l : List UInt8} {K : Value → Prop} [a : TSlice P s e k] [i : TInt P e .u8] [b : TStr P d] (h : Reads w B 1 A n (bv l)) (hk : K (.string (txt l))) :
    VRead P (Eq w) (convert s d (.slice A n c)) K := .convT (fun W e => e ▸ h) hk
theorem VRead.minZ {ts : Array TypeId} {t : TypeId} {k k' : IntKind} {x y z : Int} {K : Value → Prop} (e : (if y < x then y else x) = z) (hk : K (.int k z)) : VRead P S (Builtin.min_ ts t [Value.int k x, .int k' y].toArray) K :=
  .min2 (by rw [e]; exact hk)
theorem VRead.maxZ {ts : Array TypeId} {t : TypeId} {k k' : IntKind} {x y z : Int} {K : Value → Prop} (e : (if x < y then y else x) = z) (hk : K (.int k z)) : VRead P S (Builtin.max_ ts t [Value.int k x, .int k' y].toArray) K :=
  .ofW (fun W => by rw [show [Value.int k x, .int k' y].toArray = #[Value.int k x, .int k' y] from rfl, run_max_int2 W ts t k k' x y, e]) hk
theorem VRead.max2 {ts : Array TypeId} {t : TypeId} {k k' : IntKind} {x y : Int} {K : Value → Prop} (hk : K (.int k (if x < y then y else x))) : VRead P S (Builtin.max_ ts t [Value.int k x, .int k' y].toArray) K :=
  .ofW (fun W => run_max_int2 W ts t k k' x y) hk

/-! ### truths -/
theorem VBool.t {k : Bool → Prop} (h : k true) : VBool true k := .mk h
theorem VBool.f {k : Bool → Prop} (h : k false) : VBool false k := .mk h
theorem VBool.dec {p : Prop} [d : Decidable p] {k : Bool → Prop} (h1 : p → k true) (h2 : ¬ p → k false) : VBool (decide p) k := by
  refine .mk ?_
  by_cases h : p
  · rw [decide_eq_true h]; exact h1 h
  · rw [decide_eq_false h]; exact h2 h
theorem VBool.decN {p : Prop} [d : Decidable p] {k : Bool → Prop} (h1 : p → k false) (h2 : ¬ p → k true) : VBool (!decide p) k := by
  refine .mk ?_
  by_cases h : p
  · rw [decide_eq_true h]; exact h1 h
  · rw [decide_eq_false h]; exact h2 h
theorem VBool.yes {b : Bool} {k : Bool → Prop} (h : b = true) (hk : k true) : VBool b k := by subst h; exact .mk hk
theorem VBool.no {b : Bool} {k : Bool → Prop} (h : b = false) (hk : k false) : VBool b k := by subst h; exact .mk hk
theorem VBool.not {b : Bool} {k : Bool → Prop} (h : VBool b fun x => k (!x)) : VBool (!b) k := .mk h.out
theorem VBool.cases {b : Bool} {k : Bool → Prop} (h1 : b = true → k true) (h2 : b = false → k false) : VBool b k := .mk (by cases b; exact h2 rfl; exact h1 rfl)
theorem VBool.dT {p : Prop} [d : Decidable p] {k : Bool → Prop} (h : p) (hk : k true) : VBool (decide p) k := .yes (decide_eq_true h) hk
theorem VBool.dF {p : Prop} [d : Decidable p] {k : Bool → Prop} (h : ¬ p) (hk : k false) : VBool (decide p) k := .no (decide_eq_false h) hk
theorem VBool.nT {p : Prop} [d : Decidable p] {k : Bool → Prop} (h : p) (hk : k false) : VBool (!decide p) k := .no (by simp [h]) hk
theorem VBool.nF {p : Prop} [d : Decidable p] {k : Bool → Prop} (h : ¬ p) (hk : k true) : VBool (!decide p) k := .yes (by simp [h]) hk

/-! ### what is built -/
def idxs (k : Nat) : List Value → List (Nat × Value)
  | [] => []
  | v :: r => (k, v) :: idxs (k + 1) r
theorem idxs_of : ∀ (ps : List (Nat × Value)) (k : Nat), ps.map (·.1) = List.range' k ps.length → ps = idxs k (ps.map (·.2))
  | [], k, h => rfl
  | p :: r, k, h => by
    simp only [List.map_cons, List.length_cons, List.range'_succ, List.cons.injEq] at h
    simp only [List.map_cons, idxs]
    rw [← idxs_of r (k + 1) h.2, ← h.1]
theorem cells_one {v : Value} (h : v.oneCell' = true) : v.cells = #[v] := by cases v <;> first | rfl | cases h
theorem fill_ones : ∀ (vs pre rest : List Value), (∀ v ∈ vs, v.oneCell' = true) → rest.length = vs.length → Instr.fill (fun i => some (i, 1)) (pre ++ rest).toArray (idxs pre.length vs) = some (pre ++ vs).toArray
  | [], pre, rest, h1, hl => by simp [List.eq_nil_of_length_eq_zero hl, idxs, Instr.fill]
  | v :: vs, pre, x :: rest, h1, hl => by
    simp only [idxs, Instr.fill, cells_one (h1 v (by simp))]
    have e1 : ((#[v] : Array Value).zipIdx.foldl (fun cs (c, j) => cs.setIfInBounds (pre.length + j) c) (pre ++ x :: rest).toArray) = ((pre ++ [v]) ++ rest).toArray := by
      simp
    have e2 : ((#[v] : Array Value).size ≠ 1 || pre.length + (#[v] : Array Value).size > (pre ++ x :: rest).toArray.size) = false := by simp
    have ih := fill_ones vs (pre ++ [v]) rest (fun u hu => h1 u (List.mem_cons_of_mem _ hu)) (by simpa using hl)
    rw [if_neg (by rw [e2]; simp), e1]
    have e3 : (pre ++ [v]).length = pre.length + 1 := by simp
    rw [e3] at ih
    simpa using ih
  | v :: vs, pre, [], h1, hl => by simp at hl
theorem run_buildS {t e : TypeId} {n : Nat} {ps : List (Nat × Value)} (i : TSlice P t e 1) (c : TCell P e) (hp : ps.map (·.1) = List.range' 0 ps.length) (hn : ps.length = n) (h1 : ∀ v ∈ ps.map (·.2), v.oneCell' = true) (hb : n ≤ 16777216) :
    (Instr.buildSlice t n ps.toArray).run P w = .ok (.slice (some ⟨w.heap.size, 0, none⟩) n n) (w.alloc (.cells (ps.map (·.2)).toArray e)) := by
  obtain ⟨_, j, hj, hs, hz⟩ := cellB_out c.c
  obtain ⟨z, hz⟩ := Option.isSome_iff_exists.1 hz
  have e1 : (sizeOf e).run P w = .ok 1 w := run_size i.s
  have hps := idxs_of ps 0 hp
  have hf : ∀ C : Array Value, C.size = n → Instr.fill (fun i => some (i, 1)) C ps = some (ps.map (·.2)).toArray := fun C hC => by
    have := fill_ones (ps.map (·.2)) [] C.toList h1 (by simp [hC, hn])
    simp only [List.nil_append, List.length_nil, Array.toArray_toList] at this
    rw [← hps] at this
    exact this
  unfold Instr.buildSlice
  simp only [Sem.run_bind, run_underlying i.u, Result.andThen_ok, e1, Nat.mul_one]
  rw [if_neg (by omega)]
  by_cases h0 : n = 0
  · rw [if_pos h0]
    simp only [Sem.run_bind, Sem.run_pure, Result.andThen_ok]
    rw [hf _ (by simp)]
    simp [newRow]
  · rw [if_neg h0]
    simp only [Sem.run_bind, zeroValue, typeInfo, run_program, hj, hz, Sem.run_pure, Result.andThen_ok]
    rw [hf _ (by simp)]
    simp [newRow]
theorem VSem.buildS {t e : TypeId} {n : Nat} {ps : List (Nat × Value)} {K : Value → World → Prop} [i : TSlice P t e 1] [c : TCell P e] (hp : ps.map (·.1) = List.range' 0 ps.length) (hn : ps.length = n) (h1 : ∀ v ∈ ps.map (·.2), v.oneCell' = true) (hb : n ≤ 16777216)
    (hk : K (.slice (some ⟨w.heap.size, 0, none⟩) n n) (w.alloc (.cells (ps.map (·.2)).toArray e))) : VSem P (Instr.buildSlice t n ps.toArray) w K := .of (run_buildS i c hp hn h1 hb) hk

/-! ### calls and stores -/
theorem VCall.of {f : FuncId} {args : List Value} {K : Value → World → Prop} {R : Ending → World → Prop} [e : Ent P f] (h : Calls P f args.toArray w R) (hk : ∀ e w', R e w' → ∃ v, e = .returned v ∧ K v w') : VCall P f args w K := by
  simp only [VCall_eq]; exact ⟨e.e, h.mono fun e w' hr => hk e w' hr⟩
theorem run_store_cell {t : TypeId} {p : Addr} {u v : Value} (h : cellB P t = true) (hc : w.cell? p = some u) (hf : w.frozen? p = false) (hv : v.oneCell' = true) : (Instr.storeAt t (.pointer (some p)) v).run P w = .ok () (w.setCell p v) := by
  obtain ⟨_, i, hi, hs, _⟩ := cellB_out h
  have e1 : v.cells = #[v] := by cases v <;> first | rfl | cases hv
  have e2 : (store p v).run P w = .ok () (w.setCell p v) := by
    cases v <;> first | (cases hv; done) | simp [store, Sem.run, hc, hf]
  unfold Instr.storeAt Instr.sureAddr storeVar
  simp [e1, run_size (k := 1) (by rw [hi]; simp [hs]), storeCells, Addr.add]
  exact e2
theorem VUnit.store {t : TypeId} {p : Addr} {u v : Value} {K : World → Prop} [c : TCell P t] (hc : w.cell? p = some u) (hf : w.frozen? p = false) (hv : v.oneCell' = true) (hk : K (w.setCell p v)) : VUnit P (Instr.storeAt t (.pointer (some p)) v) w K :=
  .of (run_store_cell c.c hc hf hv) hk
/-- a store into a block that is known whole: a new world -/
theorem VUnit.storeB {t T : TypeId} {p : Addr} {g i : Nat} {cs : Array Value} {v : Value} {K : World → Prop} [c : TCell P t] (hb : Blk w g T cs) (hp : p = ⟨g, i, none⟩) (hi : Nat.blt i cs.size = true) (hv : v.oneCell' = true)
    (h : ∀ w', Blk w' g T (cs.setIfInBounds i v) → w.grownBy w' (some g) → K w') : VUnit P (Instr.storeAt t (.pointer (some p)) v) w K := by
  subst hp
  have hi' : i < cs.size := Nat.blt_eq ▸ hi
  have hc : w.cell? ⟨g, i, none⟩ = some cs[i] := by rw [hb.cell i]; exact Array.getElem?_eq_getElem hi'
  exact .store hc (hb.frozen i) hv (h _ (hb.set_ i v) (only_setCell (only_refl w g) (.inl rfl) _))
theorem only_of_drewN {w w' : World} {n : Nat} {r : Option Nat} (h : (w.drewN n).grownBy w' r) : w.grownBy w' r := ⟨h.os, h.tape, h.output, h.size, h.block⟩
end
end Go.Proofs.YtajheglnhfjodaaDoor
