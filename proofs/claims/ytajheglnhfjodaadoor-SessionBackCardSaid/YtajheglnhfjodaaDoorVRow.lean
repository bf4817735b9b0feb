/- Rows of a call's own: rules. No condition. -/
import Derived.Test.YtajheglnhfjodaaDoorVS
import Derived.Test.YtajheglnhfjodaaDoorMore
import Derived.Lib.ConvBytes
import Derived.Lib.UnsafeStr
import Derived.Lib.Strings
set_option maxRecDepth 10000
namespace Go.Proofs.YtajheglnhfjodaaDoor
set_option linter.unusedVariables false
open Go.RowKit

/-- append to a row of the call's own, of whatever elements -/
theorem VSem.appR {P : Program} {w : World} {t ty e : TypeId} {size bytes base : Nat} {i : TypeInfo} {z : Value} (ht : P.underlying t = some (.slice e)) (hi : P.info? e = some i) (hz : i.zero = some z) (hsize : i.size = size) (hby : i.bytes = bytes) (hzs : z.cells.size = size) (hsz : 0 < size)
    {v : Value} {n : Nat} {xs : List Value} (hown : w.ownsRow base e size v n xs) {B : Nat} {A : Option Addr} {m c : Nat} {news : List Value} (hr : Reads w B size A m news) (h1 : ∀ u ∈ news, u.oneCell' = true) (h63 : n + m ≤ maxLen) (hbytes : (n + m) * bytes ≤ 140737488355328) (hbase : base ≤ w.heap.size)
    {K : Value → World → Prop} (h : ∀ A' c' w', w'.ownsRow base e size (.slice A' (n + m) c') (n + m) (xs ++ news) → w.grownBy w' v.ownBlock → ((Value.slice A' (n + m) c').ownBlock = v.ownBlock ∨ (Value.slice A' (n + m) c').ownBlock = some w.heap.size) → K (.slice A' (n + m) c') w') :
    VSem P (Builtin.append_ #[t, t] ty [v, .slice A m c].toArray) w K := by
  obtain ⟨v', w', hrun, h2, h3, h4⟩ := run_append_any (P := P) w base t ty e i z size bytes ht hi hz hsize hby hzs hsz v n xs hown B A m c news hr h1 h63 hbytes hbase
  have hf : ∃ A' c', v' = .slice A' (n + m) c' := by
    rcases h2.2 with ⟨rfl, e0⟩ | ⟨g, cap, cur, e1, _⟩
    · exact ⟨none, 0, by rw [e0]⟩
    · exact ⟨_, _, e1⟩
  obtain ⟨A', c', rfl⟩ := hf
  exact .of hrun (h A' c' w' h2 h3 h4)
theorem rows_below {w w' : World} {B C e size n : Nat} {v : Value} {xs : List Value} (h : w.ownsRow B e size v n xs) (hb : Below C w w') (hC : w.heap.size ≤ C) : w'.ownsRow B e size v n xs := by
  refine ⟨h.1, ?_⟩
  rcases h.2 with h0 | ⟨g, cap, cur, hv, hbg, hg, r⟩
  · exact .inl h0
  · exact .inr ⟨g, cap, cur, hv, hbg, by rw [hb.block g (by have := (Array.getElem?_eq_some_iff.1 hg).1; omega)]; exact hg, r⟩
theorem own_apart {w : World} {B B' e1 e2 s1 s2 n1 n2 : Nat} {v1 v2 : Value} {xs1 xs2 : List Value} (h1 : w.ownsRow B e1 s1 v1 n1 xs1) (h2 : w.ownsRow B' e2 s2 v2 n2 xs2) (hne : e1 ≠ e2) : ∀ g, v2.ownBlock = some g → v1.ownBlock ≠ some g := by
  intro g hg
  rcases h2.2 with ⟨rfl, _⟩ | ⟨g', cap, cur, rfl, _, hh, _⟩
  · simp [Value.ownBlock] at hg
  · have : g' = g := by simpa [Value.ownBlock] using hg
    subst this
    exact own_blk_ne h1 hh hne
theorem Own.apartG {w w' : World} {B : Nat} {v : Value} {n : Nat} {l : List UInt8} {row : Option Nat} (h : Own w B v n l) (hg : w.grownBy w' row) (hne : ∀ g, row = some g → v.ownBlock ≠ some g) : Own w' B v n l := by
  refine ⟨h.1, ?_⟩
  rcases h.2 with h0 | ⟨k, cap, cur, hv, hbg, hk, r⟩
  · exact .inl h0
  · refine .inr ⟨k, cap, cur, hv, hbg, ?_, r⟩
    rw [hg.block k (Array.getElem?_eq_some_iff.1 hk).1 (fun e => hne k e.symm (by rw [hv]; rfl))]
    exact hk
theorem rows_apart {w w' : World} {B e size n : Nat} {v : Value} {xs : List Value} {row : Option Nat} (h : w.ownsRow B e size v n xs) (hg : w.grownBy w' row) (hne : ∀ g, row = some g → v.ownBlock ≠ some g) : w'.ownsRow B e size v n xs := by
  refine ⟨h.1, ?_⟩
  rcases h.2 with h0 | ⟨k, cap, cur, hv, hbg, hk, r⟩
  · exact .inl h0
  · refine .inr ⟨k, cap, cur, hv, hbg, ?_, r⟩
    rw [hg.block k (Array.getElem?_eq_some_iff.1 hk).1 (fun e => hne k e.symm (by rw [hv]; rfl))]
    exact hk
theorem row_addr' {w : World} {B e s n c : Nat} {A : Option Addr} {xs : List Value} (h : w.ownsRow B e s (.slice A n c) n xs) (hn : 0 < n) : ∃ g, A = some ⟨g, 0, none⟩ := by
  obtain ⟨g, c, e, -, -⟩ := h.form hn
  injection e with e1 e2 e3
  exact ⟨g, e1⟩
theorem sv_at {l : List ByteArray} {j : Nat} {u : Value} (h : (sv l)[j]? = some u) : ∃ x, l[j]? = some x ∧ u = .string x := by
  unfold sv at h; rw [List.getElem?_map, Option.map_eq_some_iff] at h; obtain ⟨x, hx, rfl⟩ := h; exact ⟨x, hx, rfl⟩
/-- the bytes of a string -/
theorem VSem.convB {P : Program} {w : World} {s d e : TypeId} {k : Nat} {x : ByteArray} {K : Value → World → Prop} [a : TStr P s] [b : TSlice P d e k] [i : TInt P e .u8]
    (h : ∀ A c w', Reads w' w'.heap.size 1 A x.size (bv x.data.toList) → x.size ≤ c → Below w.heap.size w w' → K (.slice A x.size c) w') : VSem P (convert s d (.string x)) w K := by
  refine VSem.of (Lib.run_convert_string_bytes w s d e x a.u b.u i.u) (h _ _ _ ?_ (grownCap_ge _ _ _ _) ?_)
  · refine ⟨by rw [bv_length]; simp, fun _ => ⟨_, rfl, by rw [Lib.bytesWorld_size]; show w.heap.size < _; omega, fun j u hu => ?_⟩⟩
    have hj : j < x.size := by
      have := (List.getElem?_eq_some_iff.1 hu).1
      rw [bv_length] at this; simpa using this
    rw [show (⟨w.heap.size, 0, none⟩ : Addr).add j = ⟨w.heap.size, j, none⟩ from by unfold Addr.add; split <;> simp_all, Lib.bytesWorld_cell w e x j hj]
    rw [← hu]
    unfold bv
    rw [List.getElem?_map, List.getD_eq_getElem?_getD, List.getElem?_eq_getElem (by simpa using hj)]
    rfl
  · exact Lib.below_freeze (((Below.refl _ w).drew).alloc (Nat.le_refl _) _) (Nat.le_refl _) _
theorem rows_more {w : World} {B B' e size n : Nat} {v : Value} {xs : List Value} (h : w.ownsRow B e size v n xs) (hB : B' ≤ B) : w.ownsRow B' e size v n xs :=
  ⟨h.1, h.2.elim .inl fun ⟨g, cap, cur, hv, hg, r⟩ => .inr ⟨g, cap, cur, hv, Nat.le_trans hB hg, r⟩⟩
theorem Reads.row {w : World} {B e s n c : Nat} {A : Option Addr} {xs : List Value} (h : w.ownsRow B e s (.slice A n c) n xs) : Reads w w.heap.size s A n xs := Reads.of_own h
/-- a slice of one cell -/
theorem VSem.one {P : Program} {w : World} {t e : TypeId} {v : Value} {K : Value → World → Prop} [i : TSlice P t e 1] [c : TCell P e] (h1 : v.oneCell' = true)
    (h : ∀ w', Reads w' w'.heap.size 1 (some ⟨w.heap.size, 0, none⟩) 1 [v] → Below w.heap.size w w' → w'.heap.size = w.heap.size + 1 → K (.slice (some ⟨w.heap.size, 0, none⟩) 1 1) w') :
    VSem P (Instr.buildSlice t 1 [(0, v)].toArray) w K := by
  refine VSem.buildS (P := P) (t := t) (e := e) (n := 1) (ps := [(0, v)]) rfl rfl (by simpa using h1) (by omega) ?_
  have hnew := Blk.new w e #[v]
  have hsz : (w.alloc (.cells #[v] e)).heap.size = w.heap.size + 1 := by simp
  rw [show (List.map (fun x => x.2) [(0, v)]).toArray = #[v] from rfl]
  refine h _ ⟨rfl, fun _ => ⟨_, rfl, by show w.heap.size < _; rw [hsz]; omega, fun j u hu => ?_⟩⟩ ((Below.refl w.heap.size w).alloc (Nat.le_refl _) (.cells #[v] e)) hsz
  rw [show (⟨w.heap.size, 0, none⟩ : Addr).add j = ⟨w.heap.size, j, none⟩ from by unfold Addr.add; split <;> simp_all, hnew.cell j]
  simpa using hu
/-- one cell more -/
theorem VSem.push {P : Program} {w : World} {t ty e : TypeId} {z u : Value} {bytes base n B c : Nat} {v : Value} {xs : List Value} {A : Option Addr} {K : Value → World → Prop} [i : TSlice P t e 1]
    (hinf : (P.info? e).map (fun i => (i.zero, i.size, i.bytes)) = some (some z, 1, bytes)) (hz : z.cells.size = 1) (hown : w.ownsRow base e 1 v n xs) (hr : Reads w B 1 A 1 [u]) (h1 : u.oneCell' = true)
    (hn : n ≤ 16777216) (hby : bytes ≤ 1024) (hbase : base ≤ w.heap.size)
    (h : ∀ A' c' w', w'.ownsRow base e 1 (.slice A' (n + 1) c') (n + 1) (xs ++ [u]) → w.grownBy w' v.ownBlock → K (.slice A' (n + 1) c') w') : VSem P (Builtin.append_ #[t, t] ty [v, .slice A 1 c].toArray) w K := by
  obtain ⟨i0, hi0, hz0, hz1, hz2⟩ := info_parts hinf
  have hb2 : (n + 1) * bytes ≤ (n + 1) * 1024 := Nat.mul_le_mul_left _ hby
  exact VSem.appR i.u hi0 hz0 hz1 hz2 hz (by decide) hown hr (by simpa using h1) (by simp only [maxLen]; omega) (by omega) hbase fun A' c' w' k1 k2 _ => h A' c' w' k1 k2
/-- parts of a text -/
theorem VRead.tH {P : Program} {S : World → Prop} {t : Nat} {s : ByteArray} {Z : Int} {kk : IntKind} {K : Value → Prop} [i : TStr P t] (z : Nat) (hz : Z = (z : Int)) (h : z ≤ s.size) (hk : K (.string (txt (s.data.toList.take z)))) : VRead P S (Instr.sliceAt t (.string s) none (some (.int kk Z)) none) K := by
  subst hz
  refine VRead.textH (by omega) (by omega) ?_
  rw [Lib.extract_eq]
  simpa [txt] using hk
theorem VRead.tL {P : Program} {S : World → Prop} {t : Nat} {s : ByteArray} {Z : Int} {kk : IntKind} {K : Value → Prop} [i : TStr P t] (z : Nat) (hz : Z = (z : Int)) (h : z ≤ s.size) (hk : K (.string (txt (s.data.toList.drop z)))) : VRead P S (Instr.sliceAt t (.string s) (some (.int kk Z)) none none) K := by
  subst hz
  refine VRead.textL (by omega) (by omega) ?_
  have e : (s.data.toList.drop z).take (s.size - z) = s.data.toList.drop z := List.take_of_length_le (by rw [List.length_drop, Array.length_toList]; exact Nat.le_refl _)
  rw [Lib.extract_eq]
  simp only [Int.toNat_natCast, e]
  exact hk
theorem VRead.tLH {P : Program} {S : World → Prop} {t : Nat} {s : ByteArray} {Y Z : Int} {kk kj : IntKind} {K : Value → Prop} [i : TStr P t] (y z : Nat) (hy : Y = (y : Int)) (hz : Z = (z : Int)) (h0 : y ≤ z) (h : z ≤ s.size) (hk : K (.string (txt ((s.data.toList.drop y).take (z - y))))) : VRead P S (Instr.sliceAt t (.string s) (some (.int kk Y)) (some (.int kj Z)) none) K := by
  subst hy hz
  refine VRead.textLH (by omega) (by omega) (by omega) ?_
  rw [Lib.extract_eq]
  simpa [txt] using hk
end Go.Proofs.YtajheglnhfjodaaDoor
