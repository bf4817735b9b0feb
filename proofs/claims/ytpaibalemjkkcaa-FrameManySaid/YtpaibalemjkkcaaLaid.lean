/- palaverlaw04.laid: strings in frames, one behind the other. No condition. -/
import Derived.Test.YtpaibalemjkkcaaLaidL
import Derived.Test.YtpaibalemjkkcaaIn
import Derived.Lib.ConvBytes
import Derived.Lib.UnsafeStr
namespace Go.Proofs.Ytpaibalemjkkcaa
set_option linter.unusedVariables false
open Go.RowKit

theorem row_addr' {w : World} {B e s n c : Nat} {A : Option Addr} {xs : List Value} (h : w.ownsRow B e s (.slice A n c) n xs) (hn : 0 < n) : ∃ g, A = some ⟨g, 0, none⟩ := by
  obtain ⟨g, c, e, -, -⟩ := h.form hn
  injection e with e1 e2 e3
  exact ⟨g, e1⟩
theorem sv_at {l : List ByteArray} {j : Nat} {u : Value} (h : (sv l)[j]? = some u) : ∃ x, l[j]? = some x ∧ u = .string x := by
  unfold sv at h; rw [List.getElem?_map, Option.map_eq_some_iff] at h; obtain ⟨x, hx, rfl⟩ := h; exact ⟨x, hx, rfl⟩
/-- the bytes of a string -/
theorem VSem.convB {P : Program} {w : World} {s d e : TypeId} {k : Nat} {x : ByteArray} {K : Value → World → Prop} [a : TStr P s] [b : TSlice P d e k] [i : TInt P e .u8]
    (h : ∀ A c w', Reads w' w'.heap.size 1 A x.size (bv x.data.toList) → x.size ≤ c → Below w.heap.size w w' → K (.slice A x.size c) w') : VSem P (convert s d (.string x)) w K := by
  refine VSem.of (Lib.run_convert_string_bytes w s d e x a.u b.u i.u) (h _ _ _ ?_ (grownCap_ge _ _ _ _) ?_)
  · refine ⟨by rw [bv_length]; simp, fun _ => ⟨_, rfl, by rw [Lib.bytesWorld_size]; show w.heap.size < _; omega, fun j u hu => ?_⟩⟩
    have hj : j < x.size := by
      have := (List.getElem?_eq_some_iff.1 hu).1
      rw [bv_length] at this; simpa using this
    rw [show (⟨w.heap.size, 0, none⟩ : Addr).add j = ⟨w.heap.size, j, none⟩ from by unfold Addr.add; split <;> simp_all, Lib.bytesWorld_cell w e x j hj]
    rw [← hu]
    unfold bv
    rw [List.getElem?_map, List.getD_eq_getElem?_getD, List.getElem?_eq_getElem (by simpa using hj)]
    rfl
  · exact Lib.below_freeze (((Below.refl _ w).drew).alloc (Nat.le_refl _) _) (Nat.le_refl _) _
/-- a row of ints -/
def IRow (w : World) (B : Nat) (v : Value) (n : Nat) (l : List Int) : Prop := w.ownsRow B 3 1 v n (l.map (Value.int .i64))
theorem IRow.below {w w' : World} {B C n : Nat} {v : Value} {l : List Int} (h : IRow w B v n l) (hb : Below C w w') (hC : w.heap.size ≤ C) : IRow w' B v n l := rows_below h hb hC
theorem IRow.len {w : World} {B n : Nat} {v : Value} {l : List Int} (h : IRow w B v n l) : l.length = n := by have := h.1; simpa using this
theorem IRow.at_ {w : World} {B n c i : Nat} {A : Option Addr} {l : List Int} {x : Int} (h : IRow w B (.slice A n c) n l) (hx : l[i]? = some x) : ∃ g, A = some ⟨g, 0, none⟩ ∧ w.cell? ((⟨g, 0, none⟩ : Addr).add i) = some (.int .i64 x) := by
  have hl := h.len
  have hi := (List.getElem?_eq_some_iff.1 hx).1
  obtain ⟨g, rfl⟩ := row_addr' h (by omega)
  exact ⟨g, rfl, World.ownsRow.cells h rfl i _ (by rw [List.getElem?_map, hx]; rfl)⟩
set_option maxRecDepth 10000 in
theorem laid_any (A : Option Addr) (n c : Nat) (s : List ByteArray) (w : World) (hr : Reads w w.heap.size 1 A n (sv s)) :
    Calls Try.prog 59 #[.slice A n c] w fun e w' => ∃ A1 n1 c1 A2 n2 c2, e = .returned (.tuple #[.slice A1 n1 c1, .slice A2 n2 c2, .bool true]) ∧
      Own w' w.heap.size (.slice A1 n1 c1) n1 (Frame.laid (Frame.sel (s.take 20))) ∧ IRow w' w.heap.size (.slice A2 n2 c2) n2 (Frame.ends (Frame.sel (s.take 20))) ∧ Below w.heap.size w w' := by
  have hl2 : s.length = n := by have := hr.1; unfold sv at this; simpa using this
  refine calls_vc Try.func59 rfl (by kernel_rfl) ?_
  ((conv => whnf); (repeat ((first | (refine VL.cons ?_) | (refine VL.nil ?_) | (refine VC.seqS rfl ?_) | (refine VC.region ?_) | (refine VC.draw ?_) | (refine VC.cond ?_) | (refine VC.block ?_) | (refine VC.exit ?_) | (refine VC.ret ?_) | (refine VC.skip ?_) | (refine VC.label ?_) | (refine VC.scope ?_) | (refine VQ.cons ?_) | (refine VQ.nil ?_) | (refine VG.nil ?_) | (refine VG.cons ?_)); (conv => whnf))))
  ((repeat ((first | (refine VL.cons ?_) | (refine VL.nil ?_) | (refine VC.seqS rfl ?_) | (refine VC.region ?_) | (refine VC.draw ?_) | (refine VC.cond ?_) | (refine VC.block ?_) | (refine VC.exit ?_) | (refine VC.ret ?_) | (refine VC.skip ?_) | (refine VC.label ?_) | (refine VC.scope ?_) | (refine VQ.cons ?_) | (refine VQ.nil ?_) | (refine VG.nil ?_) | (refine VG.cons ?_) | (refine VBool.t ?_) | (refine VBool.f ?_) | (refine VBool.dT (by omega) ?_) | (refine VBool.dF (by omega) ?_) | (refine VBool.nT (by omega) ?_) | (refine VBool.nF (by omega) ?_) | (refine VRead.lenS ?_) | (refine VRead.lenT ?_) | (refine VRead.fld ?_) | (refine VRead.load1 (by assumption) ?_) | (refine VRead.load (by assumption) ?_) | (refine VRead.neB ?_) | (refine VRead.eqPN ?_) | (refine VRead.nePN ?_) | (refine VRead.eqB ?_) | (refine VBool.nT rfl ?_) | (refine VBool.dT rfl ?_) | (refine VWrap.i64 (by omega) (by omega) ?_) | (refine VWrap.u64 (by omega) (by omega) ?_) | (refine VRead.at1 (by omega) ?_) | (refine VSem.convI ?_) | (refine VRead.convI ?_) | (refine VRead.rem (by omega) (by decide) ?_) | (refine VRead.neg ?_) | (refine VC.seq ?_)); (conv => whnf))))
  refine VC.loop [5, 6, 7] [(2, 58)] (fun q vs W => ∃ (i n1 c1 n2 c2 : Nat) (A1 A2 : Option Addr), vs = [.slice A1 n1 c1, .slice A2 n2 c2, .int .i64 (i : Int)] ∧ q = n - i ∧ i ≤ n ∧ i ≤ 20 ∧
      Own W w.heap.size (.slice A1 n1 c1) n1 (Frame.laid (Frame.sel (s.take i))) ∧ IRow W w.heap.size (.slice A2 n2 c2) n2 (Frame.ends (Frame.sel (s.take i))) ∧ (Frame.sel (s.take i)).length ≤ i ∧ Below w.heap.size w W) (by kernel_rfl)
    ⟨_, 0, 0, 0, 0, 0, none, none, rfl, rfl, by omega, by omega, Own.nil _ _, World.ownsRow_nil _ _ _ _, Nat.le_refl _, Below.refl _ _⟩ ?_
  rintro q τ vs W ⟨i, n1, c1, n2, c2, A1, A2, rfl, rfl, hi, hi20, hO, hE, hsl, hB⟩
  by_cases hend : i < n ∧ i < 20
  · obtain ⟨h1, h2⟩ := hend
    obtain ⟨ad, u, rfl, _, hx, hcx⟩ := (hr.below hB).at_ h1
    obtain ⟨x, hy, rfl⟩ := sv_at hx
    have hs1 : s.take (i + 1) = s.take i ++ [x] := Frame.take_succ hy
    have hg := Frame.laid_le (Frame.sel_good (s.take i))
    have hln := hO.len
    by_cases hbad : x.size < 1 ∨ 2000 < x.size
    · have hs2 : Frame.sel (s.take (i + 1)) = Frame.sel (s.take i) := by rw [hs1, Frame.sel_append, Frame.sel_no hbad, List.append_nil]
      ((conv => whnf); (repeat ((first | (refine VL.cons ?_) | (refine VL.nil ?_) | (refine VC.seqS rfl ?_) | (refine VC.region ?_) | (refine VC.draw ?_) | (refine VC.cond ?_) | (refine VC.block ?_) | (refine VC.exit ?_) | (refine VC.ret ?_) | (refine VC.skip ?_) | (refine VC.label ?_) | (refine VC.scope ?_) | (refine VQ.cons ?_) | (refine VQ.nil ?_) | (refine VG.nil ?_) | (refine VG.cons ?_)); (conv => whnf))))
      ((repeat' ((first | (refine VL.cons ?_) | (refine VL.nil ?_) | (refine VC.seqS rfl ?_) | (refine VC.region ?_) | (refine VC.draw ?_) | (refine VC.cond ?_) | (refine VC.block ?_) | (refine VC.exit ?_) | (refine VC.ret ?_) | (refine VC.skip ?_) | (refine VC.label ?_) | (refine VC.scope ?_) | (refine VQ.cons ?_) | (refine VQ.nil ?_) | (refine VG.nil ?_) | (refine VG.cons ?_) | (refine VBool.t ?_) | (refine VBool.f ?_) | (refine VBool.dT (by omega) ?_) | (refine VBool.dF (by omega) ?_) | (refine VBool.nT (by omega) ?_) | (refine VBool.nF (by omega) ?_) | (refine VRead.lenS ?_) | (refine VRead.lenT ?_) | (refine VRead.fld ?_) | (refine VRead.load1 (by assumption) ?_) | (refine VRead.load (by assumption) ?_) | (refine VRead.neB ?_) | (refine VRead.eqPN ?_) | (refine VRead.nePN ?_) | (refine VRead.eqB ?_) | (refine VBool.nT rfl ?_) | (refine VBool.dT rfl ?_) | (refine VWrap.i64 (by omega) (by omega) ?_) | (refine VWrap.u64 (by omega) (by omega) ?_) | (refine VRead.at1 (by omega) ?_) | (refine VSem.convI ?_) | (refine VRead.convI ?_) | (refine VRead.rem (by omega) (by decide) ?_) | (refine VRead.neg ?_) | (refine VC.seq ?_) | (refine VBool.dec (fun h => ?_) (fun h => ?_)) | (refine VBool.decN (fun h => ?_) (fun h => ?_))); (conv => whnf))))
      all_goals exact ⟨_, by omega, i + 1, n1, c1, n2, c2, A1, A2, rfl, rfl, by omega, by omega, by rw [hs2]; exact hO, by rw [hs2]; exact hE, by rw [hs2]; omega, hB⟩
    · have hs2 : Frame.sel (s.take (i + 1)) = Frame.sel (s.take i) ++ [x.data.toList] := by rw [hs1, Frame.sel_append, Frame.sel_yes (by omega) (by omega)]
      ((conv => whnf); (repeat ((first | (refine VL.cons ?_) | (refine VL.nil ?_) | (refine VC.seqS rfl ?_) | (refine VC.region ?_) | (refine VC.draw ?_) | (refine VC.cond ?_) | (refine VC.block ?_) | (refine VC.exit ?_) | (refine VC.ret ?_) | (refine VC.skip ?_) | (refine VC.label ?_) | (refine VC.scope ?_) | (refine VQ.cons ?_) | (refine VQ.nil ?_) | (refine VG.nil ?_) | (refine VG.cons ?_)); (conv => whnf))))
      ((repeat ((first | (refine VL.cons ?_) | (refine VL.nil ?_) | (refine VC.seqS rfl ?_) | (refine VC.region ?_) | (refine VC.draw ?_) | (refine VC.cond ?_) | (refine VC.block ?_) | (refine VC.exit ?_) | (refine VC.ret ?_) | (refine VC.skip ?_) | (refine VC.label ?_) | (refine VC.scope ?_) | (refine VQ.cons ?_) | (refine VQ.nil ?_) | (refine VG.nil ?_) | (refine VG.cons ?_) | (refine VBool.t ?_) | (refine VBool.f ?_) | (refine VBool.dT (by omega) ?_) | (refine VBool.dF (by omega) ?_) | (refine VBool.nT (by omega) ?_) | (refine VBool.nF (by omega) ?_) | (refine VRead.lenS ?_) | (refine VRead.lenT ?_) | (refine VRead.fld ?_) | (refine VRead.load1 (by assumption) ?_) | (refine VRead.load (by assumption) ?_) | (refine VRead.neB ?_) | (refine VRead.eqPN ?_) | (refine VRead.nePN ?_) | (refine VRead.eqB ?_) | (refine VBool.nT rfl ?_) | (refine VBool.dT rfl ?_) | (refine VWrap.i64 (by omega) (by omega) ?_) | (refine VWrap.u64 (by omega) (by omega) ?_) | (refine VRead.at1 (by omega) ?_) | (refine VSem.convI ?_) | (refine VRead.convI ?_) | (refine VRead.rem (by omega) (by decide) ?_) | (refine VRead.neg ?_) | (refine VC.seq ?_)); (conv => whnf))))
      refine VSem.convB ?_
      intro A3 c3 W1 hR3 hc3 hB1
      ((conv => whnf); (repeat ((first | (refine VL.cons ?_) | (refine VL.nil ?_) | (refine VC.seqS rfl ?_) | (refine VC.region ?_) | (refine VC.draw ?_) | (refine VC.cond ?_) | (refine VC.block ?_) | (refine VC.exit ?_) | (refine VC.ret ?_) | (refine VC.skip ?_) | (refine VC.label ?_) | (refine VC.scope ?_) | (refine VQ.cons ?_) | (refine VQ.nil ?_) | (refine VG.nil ?_) | (refine VG.cons ?_)); (conv => whnf))))
      ((repeat ((first | (refine VL.cons ?_) | (refine VL.nil ?_) | (refine VC.seqS rfl ?_) | (refine VC.region ?_) | (refine VC.draw ?_) | (refine VC.cond ?_) | (refine VC.block ?_) | (refine VC.exit ?_) | (refine VC.ret ?_) | (refine VC.skip ?_) | (refine VC.label ?_) | (refine VC.scope ?_) | (refine VQ.cons ?_) | (refine VQ.nil ?_) | (refine VG.nil ?_) | (refine VG.cons ?_) | (refine VBool.t ?_) | (refine VBool.f ?_) | (refine VBool.dT (by omega) ?_) | (refine VBool.dF (by omega) ?_) | (refine VBool.nT (by omega) ?_) | (refine VBool.nF (by omega) ?_) | (refine VRead.lenS ?_) | (refine VRead.lenT ?_) | (refine VRead.fld ?_) | (refine VRead.load1 (by assumption) ?_) | (refine VRead.load (by assumption) ?_) | (refine VRead.neB ?_) | (refine VRead.eqPN ?_) | (refine VRead.nePN ?_) | (refine VRead.eqB ?_) | (refine VBool.nT rfl ?_) | (refine VBool.dT rfl ?_) | (refine VWrap.i64 (by omega) (by omega) ?_) | (refine VWrap.u64 (by omega) (by omega) ?_) | (refine VRead.at1 (by omega) ?_) | (refine VSem.convI ?_) | (refine VRead.convI ?_) | (refine VRead.rem (by omega) (by decide) ?_) | (refine VRead.neg ?_) | (refine VC.seq ?_)); (conv => whnf))))
      refine VCall.of (frPut_yes A1 n1 c1 _ A3 x.size c3 x.data.toList W1 (by omega) (by omega) (by omega) hO.cap ((hO.below hB1 (Nat.le_refl _)).reads) hR3) ?_
      rintro e W2 ⟨A4, m4, c4, rfl, hO4, hB2⟩
      refine ⟨_, rfl, ?_⟩
      have hB12 := hB.trans (hB1.mono hB.size)
      have hB22 := hB12.trans (hB2.mono hB12.size)
      have hE2 := (hE.below hB1 (Nat.le_refl _)).below hB2 (Nat.le_refl _)
      have hO4' := hO4.more hB12.size
      have hlm := hO4.len
      rw [List.length_append] at hlm
      have h5 := Frame.put_pos x.data.toList
      have hn2 := hE.len
      rw [Frame.ends_len] at hn2
      ((conv => whnf); (repeat ((first | (refine VL.cons ?_) | (refine VL.nil ?_) | (refine VC.seqS rfl ?_) | (refine VC.region ?_) | (refine VC.draw ?_) | (refine VC.cond ?_) | (refine VC.block ?_) | (refine VC.exit ?_) | (refine VC.ret ?_) | (refine VC.skip ?_) | (refine VC.label ?_) | (refine VC.scope ?_) | (refine VQ.cons ?_) | (refine VQ.nil ?_) | (refine VG.nil ?_) | (refine VG.cons ?_)); (conv => whnf))))
      ((repeat ((first | (refine VL.cons ?_) | (refine VL.nil ?_) | (refine VC.seqS rfl ?_) | (refine VC.region ?_) | (refine VC.draw ?_) | (refine VC.cond ?_) | (refine VC.block ?_) | (refine VC.exit ?_) | (refine VC.ret ?_) | (refine VC.skip ?_) | (refine VC.label ?_) | (refine VC.scope ?_) | (refine VQ.cons ?_) | (refine VQ.nil ?_) | (refine VG.nil ?_) | (refine VG.cons ?_) | (refine VBool.t ?_) | (refine VBool.f ?_) | (refine VBool.dT (by omega) ?_) | (refine VBool.dF (by omega) ?_) | (refine VBool.nT (by omega) ?_) | (refine VBool.nF (by omega) ?_) | (refine VRead.lenS ?_) | (refine VRead.lenT ?_) | (refine VRead.fld ?_) | (refine VRead.load1 (by assumption) ?_) | (refine VRead.load (by assumption) ?_) | (refine VRead.neB ?_) | (refine VRead.eqPN ?_) | (refine VRead.nePN ?_) | (refine VRead.eqB ?_) | (refine VBool.nT rfl ?_) | (refine VBool.dT rfl ?_) | (refine VWrap.i64 (by omega) (by omega) ?_) | (refine VWrap.u64 (by omega) (by omega) ?_) | (refine VRead.at1 (by omega) ?_) | (refine VSem.convI ?_) | (refine VRead.convI ?_) | (refine VRead.rem (by omega) (by decide) ?_) | (refine VRead.neg ?_) | (refine VC.seq ?_)); (conv => whnf))))
      refine VSem.buildS rfl rfl (by simp [zipP, Value.oneCell']) (by omega) ?_
      have hB3 := (Below.refl W2.heap.size W2).alloc (Nat.le_refl _) (.cells #[.int .i64 (m4 : Int)] 3)
      have hnew := Blk.new W2 3 #[.int .i64 (m4 : Int)]
      have hsz : (W2.alloc (.cells #[.int .i64 (m4 : Int)] 3)).heap.size = W2.heap.size + 1 := by simp
      generalize hW3 : W2.alloc (.cells #[.int .i64 (m4 : Int)] 3) = W3 at *
      rw [show W2.alloc (.cells (List.map (fun x => x.2) (zipP #[(0, Operand.tmp 56)].toList [Value.int .i64 (m4 : Int)])).toArray 3) = W3 from hW3]
      obtain ⟨i0, hi0, hz0, hz1, hz2⟩ := info_parts int_info
      have hReads : Reads W3 W3.heap.size 1 (some ⟨W2.heap.size, 0, none⟩) 1 [.int .i64 (m4 : Int)] := by
        refine ⟨rfl, fun _ => ⟨_, rfl, by show W2.heap.size < _; omega, fun j u hu => ?_⟩⟩
        rw [show (⟨W2.heap.size, 0, none⟩ : Addr).add j = ⟨W2.heap.size, j, none⟩ from by unfold Addr.add; split <;> simp_all, hnew.cell j]
        simpa using hu
      have hE3 := hE2.below hB3 (Nat.le_refl _)
      have hO5 := hO4'.below hB3 (Nat.le_refl _)
      have hB32 := hB22.trans (hB3.mono hB22.size)
      ((conv => whnf); (repeat ((first | (refine VL.cons ?_) | (refine VL.nil ?_) | (refine VC.seqS rfl ?_) | (refine VC.region ?_) | (refine VC.draw ?_) | (refine VC.cond ?_) | (refine VC.block ?_) | (refine VC.exit ?_) | (refine VC.ret ?_) | (refine VC.skip ?_) | (refine VC.label ?_) | (refine VC.scope ?_) | (refine VQ.cons ?_) | (refine VQ.nil ?_) | (refine VG.nil ?_) | (refine VG.cons ?_)); (conv => whnf))))
      ((repeat ((first | (refine VL.cons ?_) | (refine VL.nil ?_) | (refine VC.seqS rfl ?_) | (refine VC.region ?_) | (refine VC.draw ?_) | (refine VC.cond ?_) | (refine VC.block ?_) | (refine VC.exit ?_) | (refine VC.ret ?_) | (refine VC.skip ?_) | (refine VC.label ?_) | (refine VC.scope ?_) | (refine VQ.cons ?_) | (refine VQ.nil ?_) | (refine VG.nil ?_) | (refine VG.cons ?_) | (refine VBool.t ?_) | (refine VBool.f ?_) | (refine VBool.dT (by omega) ?_) | (refine VBool.dF (by omega) ?_) | (refine VBool.nT (by omega) ?_) | (refine VBool.nF (by omega) ?_) | (refine VRead.lenS ?_) | (refine VRead.lenT ?_) | (refine VRead.fld ?_) | (refine VRead.load1 (by assumption) ?_) | (refine VRead.load (by assumption) ?_) | (refine VRead.neB ?_) | (refine VRead.eqPN ?_) | (refine VRead.nePN ?_) | (refine VRead.eqB ?_) | (refine VBool.nT rfl ?_) | (refine VBool.dT rfl ?_) | (refine VWrap.i64 (by omega) (by omega) ?_) | (refine VWrap.u64 (by omega) (by omega) ?_) | (refine VRead.at1 (by omega) ?_) | (refine VSem.convI ?_) | (refine VRead.convI ?_) | (refine VRead.rem (by omega) (by decide) ?_) | (refine VRead.neg ?_) | (refine VC.seq ?_)); (conv => whnf))))
      refine VSem.appR (base := w.heap.size) Try.underlying49 hi0 hz0 hz1 hz2 rfl (by decide) hE3 hReads (by simp [Value.oneCell']) (by simp only [maxLen]; omega) (by omega) (by have := hB22.size; omega) ?_
      intro A9 c9 W4 hr9 hg9 _
      have hlt := World.ownsRow.lt hE3
      have hO6 := hO5.apartG hg9 (own_apart hO5 hE3 (by decide))
      have hB42 := hB32.grown hg9 (by have := hB22.size; omega) (fun j hj => (hlt j hj).1)
      have hse : Frame.laid (Frame.sel (s.take (i + 1))) = Frame.laid (Frame.sel (s.take i)) ++ Frame.put x.data.toList := by rw [hs2, Frame.laid_append, Frame.laid_one]
      ((conv => whnf); (repeat ((first | (refine VL.cons ?_) | (refine VL.nil ?_) | (refine VC.seqS rfl ?_) | (refine VC.region ?_) | (refine VC.draw ?_) | (refine VC.cond ?_) | (refine VC.block ?_) | (refine VC.exit ?_) | (refine VC.ret ?_) | (refine VC.skip ?_) | (refine VC.label ?_) | (refine VC.scope ?_) | (refine VQ.cons ?_) | (refine VQ.nil ?_) | (refine VG.nil ?_) | (refine VG.cons ?_)); (conv => whnf))))
      ((repeat ((first | (refine VL.cons ?_) | (refine VL.nil ?_) | (refine VC.seqS rfl ?_) | (refine VC.region ?_) | (refine VC.draw ?_) | (refine VC.cond ?_) | (refine VC.block ?_) | (refine VC.exit ?_) | (refine VC.ret ?_) | (refine VC.skip ?_) | (refine VC.label ?_) | (refine VC.scope ?_) | (refine VQ.cons ?_) | (refine VQ.nil ?_) | (refine VG.nil ?_) | (refine VG.cons ?_) | (refine VBool.t ?_) | (refine VBool.f ?_) | (refine VBool.dT (by omega) ?_) | (refine VBool.dF (by omega) ?_) | (refine VBool.nT (by omega) ?_) | (refine VBool.nF (by omega) ?_) | (refine VRead.lenS ?_) | (refine VRead.lenT ?_) | (refine VRead.fld ?_) | (refine VRead.load1 (by assumption) ?_) | (refine VRead.load (by assumption) ?_) | (refine VRead.neB ?_) | (refine VRead.eqPN ?_) | (refine VRead.nePN ?_) | (refine VRead.eqB ?_) | (refine VBool.nT rfl ?_) | (refine VBool.dT rfl ?_) | (refine VWrap.i64 (by omega) (by omega) ?_) | (refine VWrap.u64 (by omega) (by omega) ?_) | (refine VRead.at1 (by omega) ?_) | (refine VSem.convI ?_) | (refine VRead.convI ?_) | (refine VRead.rem (by omega) (by decide) ?_) | (refine VRead.neg ?_) | (refine VC.seq ?_)); (conv => whnf))))
      refine ⟨_, by omega, i + 1, m4, c4, n2 + 1, c9, A4, A9, rfl, rfl, by omega, by omega, by rw [hse]; exact hO6, ?_, by rw [hs2, List.length_append, List.length_singleton]; omega, hB42⟩
      unfold IRow
      rw [hs2, Frame.ends_append, List.map_append, ← hs2, hse, List.length_append, hlm]
      exact hr9
  · by_cases hin : i < n
    · ((conv => whnf); (repeat ((first | (refine VL.cons ?_) | (refine VL.nil ?_) | (refine VC.seqS rfl ?_) | (refine VC.region ?_) | (refine VC.draw ?_) | (refine VC.cond ?_) | (refine VC.block ?_) | (refine VC.exit ?_) | (refine VC.ret ?_) | (refine VC.skip ?_) | (refine VC.label ?_) | (refine VC.scope ?_) | (refine VQ.cons ?_) | (refine VQ.nil ?_) | (refine VG.nil ?_) | (refine VG.cons ?_)); (conv => whnf))))
      ((repeat ((first | (refine VL.cons ?_) | (refine VL.nil ?_) | (refine VC.seqS rfl ?_) | (refine VC.region ?_) | (refine VC.draw ?_) | (refine VC.cond ?_) | (refine VC.block ?_) | (refine VC.exit ?_) | (refine VC.ret ?_) | (refine VC.skip ?_) | (refine VC.label ?_) | (refine VC.scope ?_) | (refine VQ.cons ?_) | (refine VQ.nil ?_) | (refine VG.nil ?_) | (refine VG.cons ?_) | (refine VBool.t ?_) | (refine VBool.f ?_) | (refine VBool.dT (by omega) ?_) | (refine VBool.dF (by omega) ?_) | (refine VBool.nT (by omega) ?_) | (refine VBool.nF (by omega) ?_) | (refine VRead.lenS ?_) | (refine VRead.lenT ?_) | (refine VRead.fld ?_) | (refine VRead.load1 (by assumption) ?_) | (refine VRead.load (by assumption) ?_) | (refine VRead.neB ?_) | (refine VRead.eqPN ?_) | (refine VRead.nePN ?_) | (refine VRead.eqB ?_) | (refine VBool.nT rfl ?_) | (refine VBool.dT rfl ?_) | (refine VWrap.i64 (by omega) (by omega) ?_) | (refine VWrap.u64 (by omega) (by omega) ?_) | (refine VRead.at1 (by omega) ?_) | (refine VSem.convI ?_) | (refine VRead.convI ?_) | (refine VRead.rem (by omega) (by decide) ?_) | (refine VRead.neg ?_) | (refine VC.seq ?_)); (conv => whnf))))
      exact ⟨_, _, _, _, _, _, rfl, by rw [show 20 = i by omega]; exact hO, by rw [show 20 = i by omega]; exact hE, hB⟩
    · have hT : s.take 20 = s.take i := by rw [List.take_of_length_le (by omega), List.take_of_length_le (by omega)]
      ((conv => whnf); (repeat ((first | (refine VL.cons ?_) | (refine VL.nil ?_) | (refine VC.seqS rfl ?_) | (refine VC.region ?_) | (refine VC.draw ?_) | (refine VC.cond ?_) | (refine VC.block ?_) | (refine VC.exit ?_) | (refine VC.ret ?_) | (refine VC.skip ?_) | (refine VC.label ?_) | (refine VC.scope ?_) | (refine VQ.cons ?_) | (refine VQ.nil ?_) | (refine VG.nil ?_) | (refine VG.cons ?_)); (conv => whnf))))
      ((repeat ((first | (refine VL.cons ?_) | (refine VL.nil ?_) | (refine VC.seqS rfl ?_) | (refine VC.region ?_) | (refine VC.draw ?_) | (refine VC.cond ?_) | (refine VC.block ?_) | (refine VC.exit ?_) | (refine VC.ret ?_) | (refine VC.skip ?_) | (refine VC.label ?_) | (refine VC.scope ?_) | (refine VQ.cons ?_) | (refine VQ.nil ?_) | (refine VG.nil ?_) | (refine VG.cons ?_) | (refine VBool.t ?_) | (refine VBool.f ?_) | (refine VBool.dT (by omega) ?_) | (refine VBool.dF (by omega) ?_) | (refine VBool.nT (by omega) ?_) | (refine VBool.nF (by omega) ?_) | (refine VRead.lenS ?_) | (refine VRead.lenT ?_) | (refine VRead.fld ?_) | (refine VRead.load1 (by assumption) ?_) | (refine VRead.load (by assumption) ?_) | (refine VRead.neB ?_) | (refine VRead.eqPN ?_) | (refine VRead.nePN ?_) | (refine VRead.eqB ?_) | (refine VBool.nT rfl ?_) | (refine VBool.dT rfl ?_) | (refine VWrap.i64 (by omega) (by omega) ?_) | (refine VWrap.u64 (by omega) (by omega) ?_) | (refine VRead.at1 (by omega) ?_) | (refine VSem.convI ?_) | (refine VRead.convI ?_) | (refine VRead.rem (by omega) (by decide) ?_) | (refine VRead.neg ?_) | (refine VC.seq ?_)); (conv => whnf))))
      exact ⟨_, _, _, _, _, _, rfl, by rw [hT]; exact hO, by rw [hT]; exact hE, hB⟩
end Go.Proofs.Ytpaibalemjkkcaa
