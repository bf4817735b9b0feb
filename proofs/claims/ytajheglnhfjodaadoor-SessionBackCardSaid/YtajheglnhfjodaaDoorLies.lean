/- Bytes that lie in a block of bytes; new rows of bytes; copies between them. No condition. -/
import Derived.Test.YtajheglnhfjodaaDoorVRow
import Derived.Deep.OwnRows
import Derived.Laws.OwnMore
set_option maxRecDepth 10000
namespace Go.Proofs.YtajheglnhfjodaaDoor
set_option linter.unusedVariables false
open Go.RowKit

/-! ### footprints: blocks that may be something's own -/
abbrev Foot := Nat → Prop
/-- what is made from now on lies in the footprint -/
def Up (U : Foot) (W : World) : Prop := ∀ j, W.heap.size ≤ j → U j
/-- outside the footprint the world stays -/
structure Out (U : Foot) (W W' : World) : Prop where
  os : W'.os = W.os
  tape : W'.tape = W.tape
  output : W'.output = W.output
  size : W.heap.size ≤ W'.heap.size
  block : ∀ j, j < W.heap.size → ¬ U j → W'.heap[j]? = W.heap[j]?
section
variable {U V : Foot} {W W' W'' : World}
theorem Up.grow (h : Up U W) (hs : W.heap.size ≤ W'.heap.size) : Up U W' := fun j hj => h j (Nat.le_trans hs hj)
theorem Up.from {B : Nat} (h : B ≤ W.heap.size) : Up (fun j => B ≤ j) W := fun j hj => Nat.le_trans h hj
theorem Out.refl (U : Foot) (W : World) : Out U W W := ⟨rfl, rfl, rfl, Nat.le_refl _, fun _ _ _ => rfl⟩
theorem Out.trans (h : Out U W W') (k : Out U W' W'') : Out U W W'' :=
  ⟨k.os.trans h.os, k.tape.trans h.tape, k.output.trans h.output, Nat.le_trans h.size k.size, fun j hj hu => (k.block j (Nat.lt_of_lt_of_le hj h.size) hu).trans (h.block j hj hu)⟩
theorem Out.mono (h : Out U W W') (hV : ∀ j, U j → V j) : Out V W W' := ⟨h.os, h.tape, h.output, h.size, fun j hj hu => h.block j hj (fun e => hu (hV j e))⟩
theorem Out.of_below {B : Nat} (h : Below B W W') (hB : ∀ j, B ≤ j → j < W.heap.size → U j) : Out U W W' :=
  ⟨h.os, h.tape, h.output, h.size, fun j hj hu => h.block j (Nat.lt_of_not_le fun e => hu (hB j e hj))⟩
theorem Out.new (h : Below W.heap.size W W') : Out U W W' := .of_below h (fun j h1 h2 => absurd h1 (Nat.not_le_of_lt h2))
theorem Out.grown {g : Nat} (h : W.grownBy W' (some g)) (hg : U g) : Out U W W' := ⟨h.os, h.tape, h.output, h.size, fun j hj hu => h.block j hj (fun e => hu (by injection e with e; subst e; exact hg))⟩
theorem Out.grown0 (h : W.grownBy W' none) : Out U W W' := ⟨h.os, h.tape, h.output, h.size, fun j hj hu => h.block j hj (by simp)⟩
theorem Out.row {row : Option Nat} (h : W.grownBy W' row) (hg : ∀ g, row = some g → U g) : Out U W W' := ⟨h.os, h.tape, h.output, h.size, fun j hj hu => h.block j hj (fun e => hu (hg j e.symm))⟩
theorem Out.below {B : Nat} (h : Out U W W') (hB : ∀ j, U j → B ≤ j) (hs : B ≤ W.heap.size) : Below B W W' :=
  ⟨h.os, h.tape, h.output, h.size, fun j hj => h.block j (Nat.lt_of_lt_of_le hj hs) (fun e => absurd (hB j e) (Nat.not_le_of_lt hj))⟩
theorem Out.from {B : Nat} (h : Out (fun j => B ≤ j) W W') (hs : B ≤ W.heap.size) : Below B W W' := h.below (fun _ e => e) hs
end
/-- bytes in a block of bytes -/
def Lies (W : World) (U : Foot) (A : Option Addr) (m : Nat) (l : List UInt8) : Prop := Reads W W.heap.size 1 A m (bv l) ∧ (0 < m → ∃ ad cs fr, A = some ad ∧ U ad.block ∧ W.heap[ad.block]? = some (Obj.cells cs 5 fr))
theorem Lies.len {W : World} {U : Foot} {m : Nat} {A : Option Addr} {l : List UInt8} (h : Lies W U A m l) : l.length = m := by have := h.1.1; rw [bv_length] at this; omega
theorem Lies.nil (W : World) (U : Foot) (A : Option Addr) : Lies W U A 0 [] := ⟨by simpa [bv] using (Reads.none_ (w := W) (B := W.heap.size) (size := 1) (A := A)), fun h0 => absurd h0 (Nat.lt_irrefl 0)⟩
/-- .. stays where the footprint stays -/
theorem Lies.stay {W W' : World} {U : Foot} {m : Nat} {A : Option Addr} {l : List UInt8} (h : Lies W U A m l) (hs : W.heap.size ≤ W'.heap.size) (hk : ∀ j, j < W.heap.size → U j → W'.heap[j]? = W.heap[j]?) : Lies W' U A m l := by
  refine ⟨⟨h.1.1, fun hm => ?_⟩, fun hm => ?_⟩
  · obtain ⟨ad, cs, fr, rfl, h1, h2⟩ := h.2 hm
    obtain ⟨ad', e, h3, h4⟩ := h.1.2 hm
    obtain rfl := Option.some.inj e
    refine ⟨_, rfl, Nat.lt_of_lt_of_le h3 hs, fun j u hu => ?_⟩
    rw [← h4 j u hu]
    exact World.cell?_of_block (by rw [add_block]; exact hk _ h3 h1)
  · obtain ⟨ad, cs, fr, e, h1, h2⟩ := h.2 hm
    exact ⟨ad, cs, fr, e, h1, by rw [hk _ (Array.getElem?_eq_some_iff.1 h2).1 h1]; exact h2⟩
theorem Lies.below {W W' : World} {U : Foot} {C m : Nat} {A : Option Addr} {l : List UInt8} (h : Lies W U A m l) (hb : Below C W W') (hC : W.heap.size ≤ C) : Lies W' U A m l :=
  h.stay hb.size (fun j hj _ => hb.block j (Nat.lt_of_lt_of_le hj hC))
theorem Lies.more {W : World} {U V : Foot} {m : Nat} {A : Option Addr} {l : List UInt8} (h : Lies W U A m l) (hV : ∀ j, j < W.heap.size → U j → V j) : Lies W V A m l :=
  ⟨h.1, fun hm => by obtain ⟨ad, cs, fr, e, h1, h2⟩ := h.2 hm; exact ⟨ad, cs, fr, e, hV _ (Array.getElem?_eq_some_iff.1 h2).1 h1, h2⟩⟩
theorem Lies.of_own {W : World} {U : Foot} {B m c : Nat} {A : Option Addr} {l : List UInt8} (h : Own W B (.slice A m c) m l) (hU : ∀ j, B ≤ j → U j) : Lies W U A m l := by
  refine ⟨h.reads, fun hm => ?_⟩
  rcases h.2 with ⟨_, h0⟩ | ⟨g, cap, cur, e, hg, hh, _⟩
  · omega
  · injection e with e1 e2 e3
    exact ⟨_, _, _, e1, hU _ hg, hh⟩
theorem Lies.take {W : World} {U : Foot} {m k : Nat} {A : Option Addr} {l : List UInt8} (h : Lies W U A m l) (hk : k ≤ m) : Lies W U A k (l.take k) :=
  ⟨h.1.take hk, fun h0 => h.2 (by omega)⟩
/-- .. untouched by what touches no block of bytes -/
theorem Lies.apart {W W' : World} {U : Foot} {m : Nat} {A : Option Addr} {l : List UInt8} {row : Option Nat} (h : Lies W U A m l) (hg : W.grownBy W' row) (hne : ∀ k, row = some k → ∀ cs fr, W.heap[k]? ≠ some (Obj.cells cs 5 fr)) : Lies W' U A m l := by
  have key : ∀ ad cs fr, W.heap[ad]? = some (Obj.cells cs 5 fr) → W'.heap[ad]? = W.heap[ad]? := fun ad cs fr h2 =>
    hg.block ad (Array.getElem?_eq_some_iff.1 h2).1 (fun e => hne ad e.symm cs fr h2)
  refine ⟨⟨h.1.1, fun hm => ?_⟩, fun hm => ?_⟩
  · obtain ⟨ad, cs, fr, rfl, h1, h2⟩ := h.2 hm
    obtain ⟨ad', e, h3, h4⟩ := h.1.2 hm
    obtain rfl := Option.some.inj e
    refine ⟨_, rfl, Nat.lt_of_lt_of_le h3 hg.size, fun j u hu => ?_⟩
    rw [← h4 j u hu]
    exact World.cell?_of_block (by rw [add_block]; exact key _ cs fr h2)
  · obtain ⟨ad, cs, fr, e, h1, h2⟩ := h.2 hm
    exact ⟨ad, cs, fr, e, h1, by rw [key _ cs fr h2]; exact h2⟩
theorem Lies.row {W W' : World} {U : Foot} {B' m e size n : Nat} {A : Option Addr} {l : List UInt8} {v : Value} {xs : List Value} (h : Lies W U A m l) (hr : W.ownsRow B' e size v n xs) (hg : W.grownBy W' v.ownBlock) (hne : 5 ≠ e) : Lies W' U A m l := by
  refine h.apart hg (fun k hk cs fr hc => ?_)
  rcases hr.2 with ⟨rfl, _⟩ | ⟨g', cap, cur, rfl, _, hh, _⟩
  · simp [Value.ownBlock] at hk
  · have : g' = k := by simpa [Value.ownBlock] using hk
    subst this
    rw [hc] at hh
    injection hh with hh
    injection hh with _ h2 _
    exact hne h2
theorem Lies.blk {W W' : World} {U : Foot} {m g T : Nat} {A : Option Addr} {l : List UInt8} {cs : Array Value} (h : Lies W U A m l) (hb : Blk W g T cs) (hg : W.grownBy W' (some g)) (hne : 5 ≠ T) : Lies W' U A m l := by
  refine h.apart hg (fun k hk cs' fr hc => ?_)
  obtain rfl := Option.some.inj hk
  unfold Blk at hb
  rw [hc] at hb
  injection hb with hb
  injection hb with _ h2 _
  exact hne h2

/-- bytes to be read, off the footprint or in a block of bytes -/
def Src (W : World) (U : Foot) (A : Option Addr) (n : Nat) (l : List UInt8) : Prop := Reads W W.heap.size 1 A n (bv l) ∧ (0 < n → ∃ ad, A = some ad ∧ (¬ U ad.block ∨ ∃ cs fr, W.heap[ad.block]? = some (Obj.cells cs 5 fr)))
theorem Src.of_lies {W : World} {U V : Foot} {A : Option Addr} {n : Nat} {l : List UInt8} (h : Lies W V A n l) : Src W U A n l :=
  ⟨h.1, fun h0 => by obtain ⟨ad, cs, fr, e, _, h2⟩ := h.2 h0; exact ⟨ad, e, .inr ⟨cs, fr, h2⟩⟩⟩
theorem Src.of_own {W : World} {U : Foot} {B n c : Nat} {A : Option Addr} {l : List UInt8} (h : Own W B (.slice A n c) n l) : Src W U A n l := .of_lies (Lies.of_own (U := fun _ => True) h (fun _ _ => trivial))
/-- bytes that lie below all of the footprint -/
theorem Src.of_old {W : World} {U : Foot} {B n : Nat} {A : Option Addr} {l : List UInt8} (h : Reads W B 1 A n (bv l)) (hB : B ≤ W.heap.size) (hU : ∀ j, U j → B ≤ j) : Src W U A n l :=
  ⟨h.more hB, fun h0 => by obtain ⟨ad, e, h1, _⟩ := h.2 h0; exact ⟨ad, e, .inl (fun hu => absurd (hU _ hu) (by omega))⟩⟩
theorem Src.len {W : World} {U : Foot} {A : Option Addr} {n : Nat} {l : List UInt8} (h : Src W U A n l) : l.length = n := by have := h.1.1; rw [bv_length] at this; omega
theorem Src.blk {W W' : World} {U : Foot} {A : Option Addr} {n d T : Nat} {l : List UInt8} {cs : Array Value} (h : Src W U A n l) (hb : Blk W d T cs) (hd : U d) (hg : W.grownBy W' (some d)) (hne : 5 ≠ T) : Src W' U A n l := by
  have key : ∀ ad, (¬ U ad ∨ ∃ cs fr, W.heap[ad]? = some (Obj.cells cs 5 fr)) → ad ≠ d := by
    rintro ad (h1 | ⟨cs', fr, h1⟩) rfl
    · exact h1 hd
    · unfold Blk at hb
      rw [h1] at hb
      injection hb with hb
      injection hb with _ h2 _
      exact hne h2
  refine ⟨⟨h.1.1, fun hm => ?_⟩, fun hm => ?_⟩
  · obtain ⟨ad, rfl, h1⟩ := h.2 hm
    obtain ⟨ad', e, h3, h4⟩ := h.1.2 hm
    obtain rfl := Option.some.inj e
    refine ⟨_, rfl, Nat.lt_of_lt_of_le h3 hg.size, fun j u hu => ?_⟩
    rw [← h4 j u hu]
    exact World.cell?_of_block (by rw [add_block]; exact hg.block _ h3 (fun e => key _ h1 (Option.some.inj e)))
  · obtain ⟨ad, e, h1⟩ := h.2 hm
    obtain ⟨ad', e', h3, _⟩ := h.1.2 hm
    rw [e] at e'
    obtain rfl := Option.some.inj e'
    refine ⟨ad, e, h1.imp (fun h => h) (fun ⟨cs, fr, h2⟩ => ⟨cs, fr, ?_⟩)⟩
    rw [hg.block _ h3 (fun e => key _ h1 (Option.some.inj e))]; exact h2

theorem u8_info3 : (Tryd.prog.info? 5).map (fun i => (i.zero, i.size, i.bytes)) = some (some (.int .u8 0), 1, 1) := by kernel_rfl
theorem VSem.makeZ {n B : Nat} {Z Z' : Int} {kl kc : IntKind} {w : World} {K : Value → World → Prop} (hn : n ≤ 140737488355328) (hB : B ≤ w.heap.size) (hZ : Z = (n : Int)) (hZ' : Z' = (n : Int))
    (h : ∀ w', Own w' B (.slice (some ⟨w.heap.size, 0, none⟩) n n) n (List.replicate n 0) → Below w.heap.size w w' → w'.heap.size = w.heap.size + 1 → K (.slice (some ⟨w.heap.size, 0, none⟩) n n) w') :
    VSem Tryd.prog (Instr.makeSlice 42 (.int kl Z) (.int kc Z')) w K := by
  subst hZ; subst hZ'
  have hr := run_make_row' (P := Tryd.prog) 42 5 (.int .u8 0) 1 Tryd.underlying42 u8_info3 rfl kl kc n (by omega) (by omega) w
  refine VSem.of hr (h _ ?_ ((Below.refl _ _).alloc (Nat.le_refl _) _) (by simp))
  refine ⟨by rw [bv_length]; simp, .inr ⟨_, n, _, rfl, hB, heap_alloc_new w _, Nat.le_refl _, by simp only [maxLen]; omega, by simp [size_madeCells], ?_⟩⟩
  rw [toList_madeCells_one]
  simp [bv]
theorem VSem.copyS {P : Program} {w : World} {dT sT ty e : TypeId} {g n c C B o dL dC m k : Nat} {D A : Option Addr} {l news : List UInt8} {K : Value → World → Prop} [i : TSlice P dT e 1]
    (hO : Own w B (.slice (some ⟨g, 0, none⟩) n c) n l) (hr : Reads w C 1 A m (bv news)) (hD : 0 < m → D = some ⟨g, o, none⟩) (hle : m ≤ dL) (hfit : o + m ≤ n)
    (h : ∀ w', Own w' B (.slice (some ⟨g, 0, none⟩) n c) n (l.take o ++ news ++ l.drop (o + m)) → Only g w w' → K (.int .i64 (m : Int)) w') :
    VSem P (Builtin.copy_ #[dT, sT] ty [.slice D dL dC, .slice A m k].toArray) w K := by
  have hl := hO.len
  have hm : news.length = m := by have := hr.1; rw [bv_length] at this; omega
  by_cases h0 : m = 0
  · subst h0
    obtain rfl : news = [] := List.eq_nil_of_length_eq_zero hm
    refine VSem.of (run_copy_none w dT sT ty e D A dL dC 0 k i.u i.s (by simp)) (h w ?_ ⟨rfl, rfl, rfl, rfl, fun _ _ => rfl⟩)
    simpa using hO
  obtain rfl := hD (by omega)
  obtain ⟨ad, rfl, _, hc0⟩ := hr.2 (by omega)
  obtain ⟨hx, hrow⟩ := hO
  rcases hrow with ⟨h0, _⟩ | ⟨g', cap, cur, hv, hB, hg, hnc, hmx, hs, hc⟩
  · cases h0
  injection hv with e1 e2 e3
  injection e1 with e1
  injection e1 with e1
  subst e1 e3
  rw [Nat.mul_one] at hs hc
  have hcl : cur.toList.length = c := by rw [Array.length_toList]; exact hs
  have hrun := run_copy_row (P := P) w dT sT ty e g o dL dC ad m k cur _ (bv news) i.u i.s hg (by rw [bv_length, hm]; exact (Nat.min_eq_left hle).symm) hc0 (by rw [bv_length]; omega) (bv_one _)
  rw [bv_length, hm] at hrun
  refine VSem.of hrun (h _ ?_ ?_)
  · refine ⟨by rw [bv_length]; simp only [List.length_append, List.length_take, List.length_drop]; omega, .inr ⟨g, c, _, rfl, hB, setRow_heap w g cur _ _ _ hg, hnc, hmx, ?_, ?_⟩⟩
    · simp only [List.size_toArray, List.length_append, List.length_take, List.length_drop, bv_length]
      omega
    · rw [Nat.mul_one]
      have h1 : cur.toList.take o = bv (l.take o) := by
        have := congrArg (List.take o) hc
        rw [List.take_take, Nat.min_eq_left (by omega)] at this
        rw [this]; unfold bv; rw [List.map_take]
      have h2 : (cur.toList.drop (o + m)).take (n - (o + m)) = bv (l.drop (o + m)) := by
        have := congrArg (List.drop (o + m)) hc
        rw [List.drop_take] at this
        rw [this]; unfold bv; rw [List.map_drop]
      have h3 : (bv (l.take o) ++ bv news).length = o + m := by rw [List.length_append, bv_length, bv_length, List.length_take]; omega
      show (cur.toList.take o ++ bv news ++ cur.toList.drop (o + m)).take n = _
      rw [h1, List.take_append, List.take_of_length_le (by omega), h3, h2]
      unfold bv
      simp only [List.map_append]
  · exact ⟨rfl, rfl, rfl, by simp [World.setRow], fun j hj => setRow_other w g j _ hj⟩
/-- a row that is written out -/
theorem VSem.buildR {P : Program} {w : World} {t e n : Nat} {ps : List (Nat × Value)} {K : Value → World → Prop} [i : TSlice P t e 1] [c : TCell P e] (hp : ps.map (·.1) = List.range' 0 ps.length) (hn : ps.length = n) (h1 : ∀ v ∈ ps.map (·.2), v.oneCell' = true) (hb : n ≤ 16777216)
    (h : ∀ w', w'.ownsRow w.heap.size e 1 (.slice (some ⟨w.heap.size, 0, none⟩) n n) n (ps.map (·.2)) → Below w.heap.size w w' → w'.heap.size = w.heap.size + 1 → K (.slice (some ⟨w.heap.size, 0, none⟩) n n) w') : VSem P (Instr.buildSlice t n ps.toArray) w K := by
  refine VSem.buildS (P := P) (t := t) (e := e) (n := n) (ps := ps) hp hn h1 hb ?_
  have hnew := Blk.new w e (ps.map (·.2)).toArray
  refine h _ ⟨by simp [hn], .inr ⟨_, n, _, rfl, Nat.le_refl _, hnew, Nat.le_refl _, by simp only [maxLen]; omega, by simp [hn], ?_⟩⟩ ((Below.refl w.heap.size w).alloc (Nat.le_refl _) _) (by simp)
  rw [List.take_of_length_le (by simp [hn])]
end Go.Proofs.YtajheglnhfjodaaDoor
