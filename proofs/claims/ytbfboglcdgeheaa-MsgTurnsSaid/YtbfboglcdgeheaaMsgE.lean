/- Copies of messages. No condition. -/
import Derived.Test.YtbfboglcdgeheaaMsgD
namespace Go.Proofs.Ytbfboglcdgeheaa
set_option linter.unusedVariables false
open Go.RowKit

theorem e_info : (Try.prog.info? 41).map (fun i => (i.zero, i.size, i.bytes)) = some (some (.agg #[.int .i64 0, .bool false, .slice none 0 0]), 3, 40) := by kernel_rfl
/-- bytes in a block of bytes -/
def Lies (W : World) (B : Nat) (A : Option Addr) (m : Nat) (l : List UInt8) : Prop := Reads W W.heap.size 1 A m (bv l) ∧ (0 < m → ∃ ad cs fr, A = some ad ∧ B ≤ ad.block ∧ W.heap[ad.block]? = some (Obj.cells cs 5 fr))
theorem Lies.below {W W' : World} {B C m : Nat} {A : Option Addr} {l : List UInt8} (h : Lies W B A m l) (hb : Below C W W') (hC : W.heap.size ≤ C) : Lies W' B A m l := by
  refine ⟨(h.1.below (hb.mono hC)).more (hb.mono hC).size, fun hm => ?_⟩
  obtain ⟨ad, cs, fr, e, h1, h2⟩ := h.2 hm
  exact ⟨ad, cs, fr, e, h1, by rw [hb.block _ (by have := (Array.getElem?_eq_some_iff.1 h2).1; omega)]; exact h2⟩
theorem Lies.more {W : World} {B B' m : Nat} {A : Option Addr} {l : List UInt8} (h : Lies W B A m l) (hB : B' ≤ B) : Lies W B' A m l :=
  ⟨h.1, fun hm => by obtain ⟨ad, cs, fr, e, h1, h2⟩ := h.2 hm; exact ⟨ad, cs, fr, e, Nat.le_trans hB h1, h2⟩⟩
theorem Lies.of_own {W : World} {B m c : Nat} {A : Option Addr} {l : List UInt8} (h : Own W B (.slice A m c) m l) : Lies W B A m l := by
  refine ⟨h.reads, fun hm => ?_⟩
  rcases h.2 with ⟨_, h0⟩ | ⟨g, cap, cur, e, hg, hh, _⟩
  · omega
  · injection e with e1 e2 e3
    exact ⟨_, _, _, e1, hg, hh⟩
/-- .. untouched by what touches no block of bytes -/
theorem Lies.apart {W W' : World} {B m : Nat} {A : Option Addr} {l : List UInt8} {row : Option Nat} (h : Lies W B A m l) (hg : W.grownBy W' row) (hne : ∀ k, row = some k → ∀ cs fr, W.heap[k]? ≠ some (Obj.cells cs 5 fr)) : Lies W' B A m l := by
  have key : ∀ ad cs fr, W.heap[ad]? = some (Obj.cells cs 5 fr) → W'.heap[ad]? = W.heap[ad]? := fun ad cs fr h2 =>
    hg.block ad (Array.getElem?_eq_some_iff.1 h2).1 (fun e => hne ad e.symm cs fr h2)
  refine ⟨⟨h.1.1, fun hm => ?_⟩, fun hm => ?_⟩
  · obtain ⟨ad, cs, fr, rfl, h1, h2⟩ := h.2 hm
    obtain ⟨ad', e, h3, h4⟩ := h.1.2 hm
    obtain rfl := Option.some.inj e
    refine ⟨_, rfl, Nat.lt_of_lt_of_le h3 hg.size, fun j u hu => ?_⟩
    rw [← h4 j u hu]
    exact World.cell?_of_block (by rw [add_blk]; exact key _ cs fr h2)
  · obtain ⟨ad, cs, fr, e, h1, h2⟩ := h.2 hm
    exact ⟨ad, cs, fr, e, h1, by rw [key _ cs fr h2]; exact h2⟩
theorem Lies.row {W W' : World} {B B' m e size n : Nat} {A : Option Addr} {l : List UInt8} {v : Value} {xs : List Value} (h : Lies W B A m l) (hr : W.ownsRow B' e size v n xs) (hg : W.grownBy W' v.ownBlock) (hne : 5 ≠ e) : Lies W' B A m l := by
  refine h.apart hg (fun k hk cs fr hc => ?_)
  rcases hr.2 with ⟨rfl, _⟩ | ⟨g', cap, cur, rfl, _, hh, _⟩
  · simp [Value.ownBlock] at hk
  · have : g' = k := by simpa [Value.ownBlock] using hk
    subst this
    rw [hc] at hh
    injection hh with hh
    injection hh with _ h2 _
    exact hne h2
theorem Lies.blk {W W' : World} {B m g T : Nat} {A : Option Addr} {l : List UInt8} {cs : Array Value} (h : Lies W B A m l) (hb : Blk W g T cs) (hg : W.grownBy W' (some g)) (hne : 5 ≠ T) : Lies W' B A m l := by
  refine h.apart hg (fun k hk cs' fr hc => ?_)
  obtain rfl := Option.some.inj hk
  unfold Blk at hb
  rw [hc] at hb
  injection hb with hb
  injection hb with _ h2 _
  exact hne h2
/-- entries in a row of the call's own -/
def ERow (es : List Msg.En) (B : Nat) (v : Value) (k : Nat) (W : World) : Prop := ∃ xs : List Value, W.ownsRow B 41 3 v k xs ∧
  ∀ i e, i < k → es[i]? = some e → ∃ A m c, xs[3 * i]? = some (.int .i64 e.term) ∧ xs[3 * i + 1]? = some (.bool e.cmd) ∧ xs[3 * i + 2]? = some (.slice A m c) ∧ m ≤ c ∧ Lies W B A m e.data
theorem ERow.below {es : List Msg.En} {B C : Nat} {v : Value} {k : Nat} {W W' : World} (h : ERow es B v k W) (hb : Below C W W') (hC : W.heap.size ≤ C) : ERow es B v k W' := by
  obtain ⟨xs, h1, h2⟩ := h
  exact ⟨xs, rows_below h1 hb hC, fun i e hi he => by obtain ⟨A, m, c, e1, e2, e3, e5, e4⟩ := h2 i e hi he; exact ⟨A, m, c, e1, e2, e3, e5, e4.below hb hC⟩⟩
theorem ERow.more {es : List Msg.En} {B B' : Nat} {v : Value} {k : Nat} {W : World} (h : ERow es B v k W) (hB : B' ≤ B) : ERow es B' v k W := by
  obtain ⟨xs, h1, h2⟩ := h
  exact ⟨xs, rows_more h1 hB, fun i e hi he => by obtain ⟨A, m, c, e1, e2, e3, e5, e4⟩ := h2 i e hi he; exact ⟨A, m, c, e1, e2, e3, e5, e4.more hB⟩⟩
theorem ERow.nil (es : List Msg.En) (B : Nat) (W : World) : ERow es B (.slice none 0 0) 0 W := ⟨[], World.ownsRow_nil W _ _ _, fun i e hi => absurd hi (Nat.not_lt_zero i)⟩
theorem ERow.ents {es : List Msg.En} {B n c : Nat} {A : Option Addr} {W : World} (h : ERow es B (.slice A n c) n W) (hl : es.length = n) : EntsAt W W.heap.size A n es := by
  obtain ⟨xs, h1, h2⟩ := h
  refine EntsAt.of hl (Reads.row h1) (fun i e he => ?_)
  obtain ⟨A', m, k, e1, e2, e3, e5, e4⟩ := h2 i e (by have := (List.getElem?_eq_some_iff.1 he).1; omega) he
  exact ⟨A', m, k, e1, e2, e3, e5, e4.1⟩
theorem ERow.cap {es : List Msg.En} {B n c : Nat} {A : Option Addr} {W : World} (h : ERow es B (.slice A n c) n W) : n ≤ c := by
  obtain ⟨xs, h1, h2⟩ := h
  rcases h1.2 with ⟨e, h0⟩ | ⟨g, cap, cur, e, _, _, r⟩
  · omega
  · injection e with e1 e2 e3
    subst e3
    exact r.1
/-- one entry more -/
theorem ERow.push {es : List Msg.En} {B k : Nat} {v : Value} {W : World} {A : Option Addr} {m c ty : Nat} {e : Msg.En} {K : Value → World → Prop} (h : ERow es B v k W) (he : es[k]? = some e) (hmc : m ≤ c) (hO : Lies W B A m e.data) (hk : k ≤ 1000000) (hB : B ≤ W.heap.size)
    (hK : ∀ A' c' W', ERow es B (.slice A' (k + 1) c') (k + 1) W' → Below B W W' → (W.alloc (.cells #[.int .i64 e.term, .bool e.cmd, .slice A m c] 41)).grownBy W' v.ownBlock → K (.slice A' (k + 1) c') W') :
    VSem Try.prog (Builtin.append_ #[22, 22] ty [v, .slice (some ⟨W.heap.size, 0, none⟩) 1 1].toArray) (W.alloc (.cells #[.int .i64 e.term, .bool e.cmd, .slice A m c] 41)) K := by
  obtain ⟨xs, hrow0, hels0⟩ := h
  have hnew := Blk.new W 41 #[.int .i64 e.term, .bool e.cmd, .slice A m c]
  have hsz : (W.alloc (.cells #[.int .i64 e.term, .bool e.cmd, .slice A m c] 41)).heap.size = W.heap.size + 1 := by simp
  have hB4 : Below W.heap.size W (W.alloc (.cells #[.int .i64 e.term, .bool e.cmd, .slice A m c] 41)) := (Below.refl _ W).alloc (Nat.le_refl _) _
  generalize W.alloc (.cells #[.int .i64 e.term, .bool e.cmd, .slice A m c] 41) = W4 at *
  have hrow4 := rows_below hrow0 hB4 (Nat.le_refl _)
  have hO4 := hO.below hB4 (Nat.le_refl _)
  have hReads : Reads W4 W4.heap.size 3 (some ⟨W.heap.size, 0, none⟩) 1 [.int .i64 e.term, .bool e.cmd, .slice A m c] := by
    refine ⟨rfl, fun _ => ⟨_, rfl, by show W.heap.size < _; omega, fun j u hu => ?_⟩⟩
    rw [show (⟨W.heap.size, 0, none⟩ : Addr).add j = ⟨W.heap.size, j, none⟩ from by unfold Addr.add; split <;> simp_all, hnew.cell j]
    simpa using hu
  obtain ⟨i0, hi0, hz0, hz1, hz2⟩ := info_parts e_info
  refine VSem.appR (base := B) Try.underlying22 hi0 hz0 hz1 hz2 rfl (by decide) hrow4 hReads (by simp [Value.oneCell']) (by simp only [maxLen]; omega) (by omega) (by omega) ?_
  intro A6 c6 W6 hrow6 hg6 _
  have hlt6 := World.ownsRow.lt hrow0
  have hB6 : Below B W W6 := (hB4.mono hB).grown hg6 (by omega) (fun j hj => (hlt6 j hj).1)
  have hxl := hrow0.1
  refine hK A6 c6 W6 ⟨_, hrow6, fun i e' hi he' => ?_⟩ hB6 hg6
  rcases Nat.lt_or_ge i k with h | h
  · obtain ⟨A', m', c', e1, e2, e3, e5, e4⟩ := hels0 i e' h he'
    refine ⟨A', m', c', ?_, ?_, ?_, e5, (e4.below hB4 (Nat.le_refl _)).row hrow4 hg6 (by decide)⟩
    · rw [List.getElem?_append_left (by omega)]; exact e1
    · rw [List.getElem?_append_left (by omega)]; exact e2
    · rw [List.getElem?_append_left (by omega)]; exact e3
  · obtain rfl : i = k := by omega
    rw [he] at he'
    obtain rfl := Option.some.inj he'
    refine ⟨A, m, c, ?_, ?_, ?_, hmc, hO4.row hrow4 hg6 (by decide)⟩
    · rw [List.getElem?_append_right (by omega), show 3 * i - xs.length = 0 by omega]; rfl
    · rw [List.getElem?_append_right (by omega), show 3 * i + 1 - xs.length = 1 by omega]; rfl
    · rw [List.getElem?_append_right (by omega), show 3 * i + 2 - xs.length = 2 by omega]; rfl
set_option maxRecDepth 10000 in
set_option maxHeartbeats 1000000 in
theorem entries_any (es : List Msg.En) (A : Option Addr) (n c : Nat) (w : World) (h : EntsAt w w.heap.size A n es) (hn : n ≤ 1000000) (hd : ∀ e ∈ es, e.data.length ≤ 100000000) :
    Calls Try.prog 21 #[.slice A n c] w fun e w' => ∃ A' c', e = .returned (.slice A' n c') ∧ ERow es w.heap.size (.slice A' n c') n w' ∧ Below w.heap.size w w' := by
  have hne := h.1
  refine calls_vc Try.func21 rfl (by kernel_rfl) ?_
  ((conv => whnf); (repeat ((first | (refine VL.cons ?_) | (refine VL.nil ?_) | (refine VC.seqS rfl ?_) | (refine VC.region ?_) | (refine VC.draw ?_) | (refine VC.cond ?_) | (refine VC.block ?_) | (refine VC.exit ?_) | (refine VC.ret ?_) | (refine VC.skip ?_) | (refine VC.label ?_) | (refine VC.scope ?_) | (refine VQ.cons ?_) | (refine VQ.nil ?_) | (refine VG.nil ?_) | (refine VG.cons ?_)); (conv => whnf))))
  ((repeat ((first | (refine VL.cons ?_) | (refine VL.nil ?_) | (refine VC.seqS rfl ?_) | (refine VC.region ?_) | (refine VC.draw ?_) | (refine VC.cond ?_) | (refine VC.block ?_) | (refine VC.exit ?_) | (refine VC.ret ?_) | (refine VC.skip ?_) | (refine VC.label ?_) | (refine VC.scope ?_) | (refine VQ.cons ?_) | (refine VQ.nil ?_) | (refine VG.nil ?_) | (refine VG.cons ?_) | (refine VBool.t ?_) | (refine VBool.f ?_) | (refine VBool.dT (by omega) ?_) | (refine VBool.dF (by omega) ?_) | (refine VBool.nT (by omega) ?_) | (refine VBool.nF (by omega) ?_) | (refine VRead.lenS ?_) | (refine VRead.lenT ?_) | (refine VRead.fld ?_) | (refine VRead.load1 (by assumption) ?_) | (refine VRead.load (by assumption) ?_) | (refine VRead.neB ?_) | (refine VRead.eqPN ?_) | (refine VRead.nePN ?_) | (refine VRead.eqB ?_) | (refine VBool.nT rfl ?_) | (refine VBool.dT rfl ?_) | (refine VWrap.i64 (by omega) (by omega) ?_) | (refine VWrap.u64 (by omega) (by omega) ?_) | (refine VRead.at1 (by omega) ?_) | (refine VSem.convI ?_) | (refine VRead.convI ?_) | (refine VRead.rem (by omega) (by decide) ?_) | (refine VRead.neg ?_) | (refine VC.seq ?_)); (conv => whnf))))
  refine VC.loop [3, 4] [(3, 23)] (fun q vs W => ∃ (k c' : Nat) (A' : Option Addr), vs = [.slice A' k c', .int .i64 (k : Int)] ∧ q = n - k ∧ k ≤ n ∧ ERow es w.heap.size (.slice A' k c') k W ∧ Below w.heap.size w W) (by kernel_rfl)
    ⟨_, 0, 0, none, rfl, rfl, by omega, ERow.nil _ _ _, Below.refl _ _⟩ ?_
  rintro q τ vs W ⟨k, c', A', rfl, rfl, hk, hE, hB⟩
  by_cases hlt : k < n
  case neg =>
    obtain rfl : k = n := by omega
    ((conv => whnf); (repeat ((first | (refine VL.cons ?_) | (refine VL.nil ?_) | (refine VC.seqS rfl ?_) | (refine VC.region ?_) | (refine VC.draw ?_) | (refine VC.cond ?_) | (refine VC.block ?_) | (refine VC.exit ?_) | (refine VC.ret ?_) | (refine VC.skip ?_) | (refine VC.label ?_) | (refine VC.scope ?_) | (refine VQ.cons ?_) | (refine VQ.nil ?_) | (refine VG.nil ?_) | (refine VG.cons ?_)); (conv => whnf))))
    ((repeat ((first | (refine VL.cons ?_) | (refine VL.nil ?_) | (refine VC.seqS rfl ?_) | (refine VC.region ?_) | (refine VC.draw ?_) | (refine VC.cond ?_) | (refine VC.block ?_) | (refine VC.exit ?_) | (refine VC.ret ?_) | (refine VC.skip ?_) | (refine VC.label ?_) | (refine VC.scope ?_) | (refine VQ.cons ?_) | (refine VQ.nil ?_) | (refine VG.nil ?_) | (refine VG.cons ?_) | (refine VBool.t ?_) | (refine VBool.f ?_) | (refine VBool.dT (by omega) ?_) | (refine VBool.dF (by omega) ?_) | (refine VBool.nT (by omega) ?_) | (refine VBool.nF (by omega) ?_) | (refine VRead.lenS ?_) | (refine VRead.lenT ?_) | (refine VRead.fld ?_) | (refine VRead.load1 (by assumption) ?_) | (refine VRead.load (by assumption) ?_) | (refine VRead.neB ?_) | (refine VRead.eqPN ?_) | (refine VRead.nePN ?_) | (refine VRead.eqB ?_) | (refine VBool.nT rfl ?_) | (refine VBool.dT rfl ?_) | (refine VWrap.i64 (by omega) (by omega) ?_) | (refine VWrap.u64 (by omega) (by omega) ?_) | (refine VRead.at1 (by omega) ?_) | (refine VSem.convI ?_) | (refine VRead.convI ?_) | (refine VRead.rem (by omega) (by decide) ?_) | (refine VRead.neg ?_) | (refine VC.seq ?_)); (conv => whnf))))
    exact ⟨A', c', rfl, hE, hB⟩
  obtain ⟨e, he⟩ := h.pair hlt
  obtain ⟨x, D, m, j, rfl, hmj, hml, H⟩ := h.later he
  have hdl := hd e (List.mem_of_getElem? he)
  obtain ⟨f0, f1, f2, hr⟩ := H W hB
  ((conv => whnf); (repeat ((first | (refine VL.cons ?_) | (refine VL.nil ?_) | (refine VC.seqS rfl ?_) | (refine VC.region ?_) | (refine VC.draw ?_) | (refine VC.cond ?_) | (refine VC.block ?_) | (refine VC.exit ?_) | (refine VC.ret ?_) | (refine VC.skip ?_) | (refine VC.label ?_) | (refine VC.scope ?_) | (refine VQ.cons ?_) | (refine VQ.nil ?_) | (refine VG.nil ?_) | (refine VG.cons ?_)); (conv => whnf))))
  (repeat ((first | (refine VRead.atK hlt ?_) | (refine VRead.load3 f0 f1 f2 ?_) | (refine VL.cons ?_) | (refine VL.nil ?_) | (refine VC.seqS rfl ?_) | (refine VC.region ?_) | (refine VC.draw ?_) | (refine VC.cond ?_) | (refine VC.block ?_) | (refine VC.exit ?_) | (refine VC.ret ?_) | (refine VC.skip ?_) | (refine VC.label ?_) | (refine VC.scope ?_) | (refine VQ.cons ?_) | (refine VQ.nil ?_) | (refine VG.nil ?_) | (refine VG.cons ?_) | (refine VBool.t ?_) | (refine VBool.f ?_) | (refine VBool.dT (by omega) ?_) | (refine VBool.dF (by omega) ?_) | (refine VBool.nT (by omega) ?_) | (refine VBool.nF (by omega) ?_) | (refine VRead.lenS ?_) | (refine VRead.lenT ?_) | (refine VRead.fld ?_) | (refine VRead.load1 (by assumption) ?_) | (refine VRead.load (by assumption) ?_) | (refine VRead.neB ?_) | (refine VRead.eqPN ?_) | (refine VRead.nePN ?_) | (refine VRead.eqB ?_) | (refine VBool.nT rfl ?_) | (refine VBool.dT rfl ?_) | (refine VWrap.i64 (by omega) (by omega) ?_) | (refine VWrap.u64 (by omega) (by omega) ?_) | (refine VRead.at1 (by omega) ?_) | (refine VSem.convI ?_) | (refine VRead.convI ?_) | (refine VRead.rem (by omega) (by decide) ?_) | (refine VRead.neg ?_) | (refine VC.seq ?_)); (conv => whnf)))
  refine VSem.allocZ (z := .agg #[.int .i64 0, .bool false, .slice none 0 0]) (by kernel_rfl) ?_
  intro W2 b hb hgb hlb hB2
  ((conv => whnf); (repeat ((first | (refine VL.cons ?_) | (refine VL.nil ?_) | (refine VC.seqS rfl ?_) | (refine VC.region ?_) | (refine VC.draw ?_) | (refine VC.cond ?_) | (refine VC.block ?_) | (refine VC.exit ?_) | (refine VC.ret ?_) | (refine VC.skip ?_) | (refine VC.label ?_) | (refine VC.scope ?_) | (refine VQ.cons ?_) | (refine VQ.nil ?_) | (refine VG.nil ?_) | (refine VG.cons ?_)); (conv => whnf))))
  ((repeat ((first | (refine VL.cons ?_) | (refine VL.nil ?_) | (refine VC.seqS rfl ?_) | (refine VC.region ?_) | (refine VC.draw ?_) | (refine VC.cond ?_) | (refine VC.block ?_) | (refine VC.exit ?_) | (refine VC.ret ?_) | (refine VC.skip ?_) | (refine VC.label ?_) | (refine VC.scope ?_) | (refine VQ.cons ?_) | (refine VQ.nil ?_) | (refine VG.nil ?_) | (refine VG.cons ?_) | (refine VBool.t ?_) | (refine VBool.f ?_) | (refine VBool.dT (by omega) ?_) | (refine VBool.dF (by omega) ?_) | (refine VBool.nT (by omega) ?_) | (refine VBool.nF (by omega) ?_) | (refine VRead.lenS ?_) | (refine VRead.lenT ?_) | (refine VRead.fld ?_) | (refine VRead.load1 (by assumption) ?_) | (refine VRead.load (by assumption) ?_) | (refine VRead.neB ?_) | (refine VRead.eqPN ?_) | (refine VRead.nePN ?_) | (refine VRead.eqB ?_) | (refine VBool.nT rfl ?_) | (refine VBool.dT rfl ?_) | (refine VWrap.i64 (by omega) (by omega) ?_) | (refine VWrap.u64 (by omega) (by omega) ?_) | (refine VRead.at1 (by omega) ?_) | (refine VSem.convI ?_) | (refine VRead.convI ?_) | (refine VRead.rem (by omega) (by decide) ?_) | (refine VRead.neg ?_) | (refine VC.seq ?_)); (conv => whnf))))
  refine VUnit.storeAB hb rfl rfl rfl (by simp [Value.oneCell']) ?_
  intro W3 hb3 hg3
  replace hb3 : Blk W3 b 41 #[.int .i64 e.term, .bool e.cmd, .slice D m j] := hb3
  have hB13 : Below W.heap.size W W3 := only_new hB2 hg3 (by omega) (by omega)
  have hB3 := hB.trans (hB13.mono hB.size)
  ((conv => whnf); (repeat ((first | (refine VL.cons ?_) | (refine VL.nil ?_) | (refine VC.seqS rfl ?_) | (refine VC.region ?_) | (refine VC.draw ?_) | (refine VC.cond ?_) | (refine VC.block ?_) | (refine VC.exit ?_) | (refine VC.ret ?_) | (refine VC.skip ?_) | (refine VC.label ?_) | (refine VC.scope ?_) | (refine VQ.cons ?_) | (refine VQ.nil ?_) | (refine VG.nil ?_) | (refine VG.cons ?_)); (conv => whnf))))
  (repeat (first | ((first | (refine VL.cons ?_) | (refine VL.nil ?_) | (refine VC.seqS rfl ?_) | (refine VC.region ?_) | (refine VC.draw ?_) | (refine VC.cond ?_) | (refine VC.block ?_) | (refine VC.exit ?_) | (refine VC.ret ?_) | (refine VC.skip ?_) | (refine VC.label ?_) | (refine VC.scope ?_) | (refine VQ.cons ?_) | (refine VQ.nil ?_) | (refine VG.nil ?_) | (refine VG.cons ?_) | (refine VBool.t ?_) | (refine VBool.f ?_) | (refine VBool.dT (by omega) ?_) | (refine VBool.dF (by omega) ?_) | (refine VBool.nT (by omega) ?_) | (refine VBool.nF (by omega) ?_) | (refine VRead.lenS ?_) | (refine VRead.lenT ?_) | (refine VRead.fld ?_) | (refine VRead.load1 (by assumption) ?_) | (refine VRead.load (by assumption) ?_) | (refine VRead.neB ?_) | (refine VRead.eqPN ?_) | (refine VRead.nePN ?_) | (refine VRead.eqB ?_) | (refine VBool.nT rfl ?_) | (refine VBool.dT rfl ?_) | (refine VWrap.i64 (by omega) (by omega) ?_) | (refine VWrap.u64 (by omega) (by omega) ?_) | (refine VRead.at1 (by omega) ?_) | (refine VSem.convI ?_) | (refine VRead.convI ?_) | (refine VRead.rem (by omega) (by decide) ?_) | (refine VRead.neg ?_) | (refine VC.seq ?_)); (conv => whnf)) | (refine VRead.loadB hb3 rfl rfl ?_; (conv => whnf))))
  refine VCall.of (bytes_any D m j w.heap.size e.data W3 (by omega) (H W3 hB3).2.2.2) ?_
  rintro e' W4 ⟨D', j', rfl, hO4, hB4⟩
  refine ⟨_, rfl, ?_⟩
  have hb4 := hb3.below hB4 hb3.lt
  have hB14 := hB13.trans (hB4.mono hB13.size)
  have hb3l := hb3.lt
  ((conv => whnf); (repeat ((first | (refine VL.cons ?_) | (refine VL.nil ?_) | (refine VC.seqS rfl ?_) | (refine VC.region ?_) | (refine VC.draw ?_) | (refine VC.cond ?_) | (refine VC.block ?_) | (refine VC.exit ?_) | (refine VC.ret ?_) | (refine VC.skip ?_) | (refine VC.label ?_) | (refine VC.scope ?_) | (refine VQ.cons ?_) | (refine VQ.nil ?_) | (refine VG.nil ?_) | (refine VG.cons ?_)); (conv => whnf))))
  ((repeat ((first | (refine VL.cons ?_) | (refine VL.nil ?_) | (refine VC.seqS rfl ?_) | (refine VC.region ?_) | (refine VC.draw ?_) | (refine VC.cond ?_) | (refine VC.block ?_) | (refine VC.exit ?_) | (refine VC.ret ?_) | (refine VC.skip ?_) | (refine VC.label ?_) | (refine VC.scope ?_) | (refine VQ.cons ?_) | (refine VQ.nil ?_) | (refine VG.nil ?_) | (refine VG.cons ?_) | (refine VBool.t ?_) | (refine VBool.f ?_) | (refine VBool.dT (by omega) ?_) | (refine VBool.dF (by omega) ?_) | (refine VBool.nT (by omega) ?_) | (refine VBool.nF (by omega) ?_) | (refine VRead.lenS ?_) | (refine VRead.lenT ?_) | (refine VRead.fld ?_) | (refine VRead.load1 (by assumption) ?_) | (refine VRead.load (by assumption) ?_) | (refine VRead.neB ?_) | (refine VRead.eqPN ?_) | (refine VRead.nePN ?_) | (refine VRead.eqB ?_) | (refine VBool.nT rfl ?_) | (refine VBool.dT rfl ?_) | (refine VWrap.i64 (by omega) (by omega) ?_) | (refine VWrap.u64 (by omega) (by omega) ?_) | (refine VRead.at1 (by omega) ?_) | (refine VSem.convI ?_) | (refine VRead.convI ?_) | (refine VRead.rem (by omega) (by decide) ?_) | (refine VRead.neg ?_) | (refine VC.seq ?_)); (conv => whnf))))
  refine VUnit.storeB hb4 rfl rfl rfl ?_
  intro W5 hb5 hg5
  replace hb5 : Blk W5 b 41 #[.int .i64 e.term, .bool e.cmd, .slice D' m j'] := hb5
  have hO5 := (hO4.storeApart hg5 (fun q => by have := (World.ownsRow.lt hO4 b q).1; omega)).more (B' := w.heap.size) (by have := hB3.size; omega)
  have hB15 : Below W.heap.size W W5 := only_new hB14 hg5 (by omega) hB14.size
  have hE5 := hE.below hB15 (Nat.le_refl _)
  have hB5 := hB.trans (hB15.mono hB.size)
  ((conv => whnf); (repeat ((first | (refine VL.cons ?_) | (refine VL.nil ?_) | (refine VC.seqS rfl ?_) | (refine VC.region ?_) | (refine VC.draw ?_) | (refine VC.cond ?_) | (refine VC.block ?_) | (refine VC.exit ?_) | (refine VC.ret ?_) | (refine VC.skip ?_) | (refine VC.label ?_) | (refine VC.scope ?_) | (refine VQ.cons ?_) | (refine VQ.nil ?_) | (refine VG.nil ?_) | (refine VG.cons ?_)); (conv => whnf))))
  ((repeat ((first | (refine VL.cons ?_) | (refine VL.nil ?_) | (refine VC.seqS rfl ?_) | (refine VC.region ?_) | (refine VC.draw ?_) | (refine VC.cond ?_) | (refine VC.block ?_) | (refine VC.exit ?_) | (refine VC.ret ?_) | (refine VC.skip ?_) | (refine VC.label ?_) | (refine VC.scope ?_) | (refine VQ.cons ?_) | (refine VQ.nil ?_) | (refine VG.nil ?_) | (refine VG.cons ?_) | (refine VBool.t ?_) | (refine VBool.f ?_) | (refine VBool.dT (by omega) ?_) | (refine VBool.dF (by omega) ?_) | (refine VBool.nT (by omega) ?_) | (refine VBool.nF (by omega) ?_) | (refine VRead.lenS ?_) | (refine VRead.lenT ?_) | (refine VRead.fld ?_) | (refine VRead.load1 (by assumption) ?_) | (refine VRead.load (by assumption) ?_) | (refine VRead.neB ?_) | (refine VRead.eqPN ?_) | (refine VRead.nePN ?_) | (refine VRead.eqB ?_) | (refine VBool.nT rfl ?_) | (refine VBool.dT rfl ?_) | (refine VWrap.i64 (by omega) (by omega) ?_) | (refine VWrap.u64 (by omega) (by omega) ?_) | (refine VRead.at1 (by omega) ?_) | (refine VSem.convI ?_) | (refine VRead.convI ?_) | (refine VRead.rem (by omega) (by decide) ?_) | (refine VRead.neg ?_) | (refine VC.seq ?_)); (conv => whnf))))
  refine VRead.loadAB1 hb5 rfl rfl ?_
  ((conv => whnf); (repeat ((first | (refine VL.cons ?_) | (refine VL.nil ?_) | (refine VC.seqS rfl ?_) | (refine VC.region ?_) | (refine VC.draw ?_) | (refine VC.cond ?_) | (refine VC.block ?_) | (refine VC.exit ?_) | (refine VC.ret ?_) | (refine VC.skip ?_) | (refine VC.label ?_) | (refine VC.scope ?_) | (refine VQ.cons ?_) | (refine VQ.nil ?_) | (refine VG.nil ?_) | (refine VG.cons ?_)); (conv => whnf))))
  ((repeat ((first | (refine VL.cons ?_) | (refine VL.nil ?_) | (refine VC.seqS rfl ?_) | (refine VC.region ?_) | (refine VC.draw ?_) | (refine VC.cond ?_) | (refine VC.block ?_) | (refine VC.exit ?_) | (refine VC.ret ?_) | (refine VC.skip ?_) | (refine VC.label ?_) | (refine VC.scope ?_) | (refine VQ.cons ?_) | (refine VQ.nil ?_) | (refine VG.nil ?_) | (refine VG.cons ?_) | (refine VBool.t ?_) | (refine VBool.f ?_) | (refine VBool.dT (by omega) ?_) | (refine VBool.dF (by omega) ?_) | (refine VBool.nT (by omega) ?_) | (refine VBool.nF (by omega) ?_) | (refine VRead.lenS ?_) | (refine VRead.lenT ?_) | (refine VRead.fld ?_) | (refine VRead.load1 (by assumption) ?_) | (refine VRead.load (by assumption) ?_) | (refine VRead.neB ?_) | (refine VRead.eqPN ?_) | (refine VRead.nePN ?_) | (refine VRead.eqB ?_) | (refine VBool.nT rfl ?_) | (refine VBool.dT rfl ?_) | (refine VWrap.i64 (by omega) (by omega) ?_) | (refine VWrap.u64 (by omega) (by omega) ?_) | (refine VRead.at1 (by omega) ?_) | (refine VSem.convI ?_) | (refine VRead.convI ?_) | (refine VRead.rem (by omega) (by decide) ?_) | (refine VRead.neg ?_) | (refine VC.seq ?_)); (conv => whnf))))
  refine VSem.of (v := .slice (some ⟨W5.heap.size, 0, none⟩) 1 1) (w' := W5.alloc (.cells #[.int .i64 e.term, .bool e.cmd, .slice D' m j'] 41)) (by kernel_rfl) ?_
  ((conv => whnf); (repeat ((first | (refine VL.cons ?_) | (refine VL.nil ?_) | (refine VC.seqS rfl ?_) | (refine VC.region ?_) | (refine VC.draw ?_) | (refine VC.cond ?_) | (refine VC.block ?_) | (refine VC.exit ?_) | (refine VC.ret ?_) | (refine VC.skip ?_) | (refine VC.label ?_) | (refine VC.scope ?_) | (refine VQ.cons ?_) | (refine VQ.nil ?_) | (refine VG.nil ?_) | (refine VG.cons ?_)); (conv => whnf))))
  ((repeat ((first | (refine VL.cons ?_) | (refine VL.nil ?_) | (refine VC.seqS rfl ?_) | (refine VC.region ?_) | (refine VC.draw ?_) | (refine VC.cond ?_) | (refine VC.block ?_) | (refine VC.exit ?_) | (refine VC.ret ?_) | (refine VC.skip ?_) | (refine VC.label ?_) | (refine VC.scope ?_) | (refine VQ.cons ?_) | (refine VQ.nil ?_) | (refine VG.nil ?_) | (refine VG.cons ?_) | (refine VBool.t ?_) | (refine VBool.f ?_) | (refine VBool.dT (by omega) ?_) | (refine VBool.dF (by omega) ?_) | (refine VBool.nT (by omega) ?_) | (refine VBool.nF (by omega) ?_) | (refine VRead.lenS ?_) | (refine VRead.lenT ?_) | (refine VRead.fld ?_) | (refine VRead.load1 (by assumption) ?_) | (refine VRead.load (by assumption) ?_) | (refine VRead.neB ?_) | (refine VRead.eqPN ?_) | (refine VRead.nePN ?_) | (refine VRead.eqB ?_) | (refine VBool.nT rfl ?_) | (refine VBool.dT rfl ?_) | (refine VWrap.i64 (by omega) (by omega) ?_) | (refine VWrap.u64 (by omega) (by omega) ?_) | (refine VRead.at1 (by omega) ?_) | (refine VSem.convI ?_) | (refine VRead.convI ?_) | (refine VRead.rem (by omega) (by decide) ?_) | (refine VRead.neg ?_) | (refine VC.seq ?_)); (conv => whnf))))
  refine ERow.push hE5 he hO5.cap (Lies.of_own hO5) (by omega) hB5.size ?_
  intro A6 c6 W6 hE6 hB6 _
  ((conv => whnf); (repeat ((first | (refine VL.cons ?_) | (refine VL.nil ?_) | (refine VC.seqS rfl ?_) | (refine VC.region ?_) | (refine VC.draw ?_) | (refine VC.cond ?_) | (refine VC.block ?_) | (refine VC.exit ?_) | (refine VC.ret ?_) | (refine VC.skip ?_) | (refine VC.label ?_) | (refine VC.scope ?_) | (refine VQ.cons ?_) | (refine VQ.nil ?_) | (refine VG.nil ?_) | (refine VG.cons ?_)); (conv => whnf))))
  ((repeat ((first | (refine VL.cons ?_) | (refine VL.nil ?_) | (refine VC.seqS rfl ?_) | (refine VC.region ?_) | (refine VC.draw ?_) | (refine VC.cond ?_) | (refine VC.block ?_) | (refine VC.exit ?_) | (refine VC.ret ?_) | (refine VC.skip ?_) | (refine VC.label ?_) | (refine VC.scope ?_) | (refine VQ.cons ?_) | (refine VQ.nil ?_) | (refine VG.nil ?_) | (refine VG.cons ?_) | (refine VBool.t ?_) | (refine VBool.f ?_) | (refine VBool.dT (by omega) ?_) | (refine VBool.dF (by omega) ?_) | (refine VBool.nT (by omega) ?_) | (refine VBool.nF (by omega) ?_) | (refine VRead.lenS ?_) | (refine VRead.lenT ?_) | (refine VRead.fld ?_) | (refine VRead.load1 (by assumption) ?_) | (refine VRead.load (by assumption) ?_) | (refine VRead.neB ?_) | (refine VRead.eqPN ?_) | (refine VRead.nePN ?_) | (refine VRead.eqB ?_) | (refine VBool.nT rfl ?_) | (refine VBool.dT rfl ?_) | (refine VWrap.i64 (by omega) (by omega) ?_) | (refine VWrap.u64 (by omega) (by omega) ?_) | (refine VRead.at1 (by omega) ?_) | (refine VSem.convI ?_) | (refine VRead.convI ?_) | (refine VRead.rem (by omega) (by decide) ?_) | (refine VRead.neg ?_) | (refine VC.seq ?_)); (conv => whnf))))
  exact ⟨_, by omega, k + 1, c6, A6, rfl, rfl, by omega, hE6, hB5.trans hB6⟩
theorem ERow.apart {es : List Msg.En} {B g T : Nat} {cs : Array Value} {v : Value} {k : Nat} {W W' : World} (h : ERow es B v k W) (hb : Blk W g T cs) (hg : W.grownBy W' (some g)) (hT : 5 ≠ T) (hlt : g < B) : ERow es B v k W' := by
  obtain ⟨xs, h1, h2⟩ := h
  refine ⟨xs, rows_apart h1 hg (fun q e h => by injection e with e; have := (World.ownsRow.lt h1 q h).1; omega), fun i e hi he => ?_⟩
  obtain ⟨A, m, c, e1, e2, e3, e5, e4⟩ := h2 i e hi he
  exact ⟨A, m, c, e1, e2, e3, e5, e4.blk hb hg hT⟩
theorem setFrom_list : ∀ (vs : List Value) (i : Nat) (cs : Array Value), cs.size = i + vs.length → (setFrom cs i vs).toList = cs.toList.take i ++ vs
  | [], i, cs, h => by simp only [setFrom, List.append_nil]; rw [List.take_of_length_le]; rw [Array.length_toList]; simp at h; omega
  | v :: r, i, cs, h => by
    simp only [List.length_cons] at h
    have := setFrom_list r (i + 1) (cs.setIfInBounds i v) (by simp; omega)
    simp only [setFrom]
    rw [this, Array.toList_setIfInBounds, List.take_add_one, List.take_set_of_le (by omega), List.getElem?_set_self (by rw [Array.length_toList]; omega)]
    simp
theorem setFrom_all {vs cs : Array Value} (h : cs.size = vs.size) : setFrom cs 0 vs.toList = vs := by
  have := setFrom_list vs.toList 0 cs (by simpa using h)
  rw [List.take_zero, List.nil_append] at this
  exact Array.toList_inj.1 this
theorem VRes.cellM {P : Program} {w : World} {a t T g k : Nat} {σ : Env} {cs : Array Value} {R : Ending → World → Prop} [i : TAgg P t k] (ha : σ a = .pointer (some ⟨g, 0, none⟩)) (hb : Blk w g T cs) (hs : Nat.beq cs.size k = true) (h : R (.returned (.agg cs)) w) :
    VRes P [.cell a t] σ w R := by
  have h2 := run_load_agg (P := P) i hb (Nat.eq_of_beq_eq_true hs)
  unfold Instr.loadAt Instr.sureAddr at h2
  simp only [Sem.run_bind, Sem.run_pure, Result.andThen_ok] at h2
  exact ⟨⟨_, by simp [resE, ha, asAddr, h2], h⟩⟩
set_option maxRecDepth 10000 in
set_option maxHeartbeats 1000000 in
theorem msgCopy_any (m : Msg.Mg) (Ae Ad : Option Addr) (ne ce nd cd : Nat) (w : World) (h : MsgAt w w.heap.size m Ae ne ce Ad nd cd) (hn : ne ≤ 1000000) (hd : ∀ e ∈ m.es, e.data.length ≤ 100000000) (hnd : nd ≤ 100000000) :
    Calls Try.prog 10 #[.agg (msgC m Ae ne ce Ad nd cd)] w fun e w' => ∃ A1 c1 A2 c2, e = .returned (.agg (msgC m A1 ne c1 A2 nd c2)) ∧ MsgAt w' w'.heap.size m A1 ne c1 A2 nd c2 ∧ Below w.heap.size w w' := by
  refine calls_vc Try.func10 rfl (by kernel_rfl) ?_
  ((conv => whnf); (repeat ((first | (refine VL.cons ?_) | (refine VL.nil ?_) | (refine VC.seqS rfl ?_) | (refine VC.region ?_) | (refine VC.draw ?_) | (refine VC.cond ?_) | (refine VC.block ?_) | (refine VC.exit ?_) | (refine VC.ret ?_) | (refine VC.skip ?_) | (refine VC.label ?_) | (refine VC.scope ?_) | (refine VQ.cons ?_) | (refine VQ.nil ?_) | (refine VG.nil ?_) | (refine VG.cons ?_)); (conv => whnf))))
  ((repeat ((first | (refine VL.cons ?_) | (refine VL.nil ?_) | (refine VC.seqS rfl ?_) | (refine VC.region ?_) | (refine VC.draw ?_) | (refine VC.cond ?_) | (refine VC.block ?_) | (refine VC.exit ?_) | (refine VC.ret ?_) | (refine VC.skip ?_) | (refine VC.label ?_) | (refine VC.scope ?_) | (refine VQ.cons ?_) | (refine VQ.nil ?_) | (refine VG.nil ?_) | (refine VG.cons ?_) | (refine VBool.t ?_) | (refine VBool.f ?_) | (refine VBool.dT (by omega) ?_) | (refine VBool.dF (by omega) ?_) | (refine VBool.nT (by omega) ?_) | (refine VBool.nF (by omega) ?_) | (refine VRead.lenS ?_) | (refine VRead.lenT ?_) | (refine VRead.fld ?_) | (refine VRead.load1 (by assumption) ?_) | (refine VRead.load (by assumption) ?_) | (refine VRead.neB ?_) | (refine VRead.eqPN ?_) | (refine VRead.nePN ?_) | (refine VRead.eqB ?_) | (refine VBool.nT rfl ?_) | (refine VBool.dT rfl ?_) | (refine VWrap.i64 (by omega) (by omega) ?_) | (refine VWrap.u64 (by omega) (by omega) ?_) | (refine VRead.at1 (by omega) ?_) | (refine VSem.convI ?_) | (refine VRead.convI ?_) | (refine VRead.rem (by omega) (by decide) ?_) | (refine VRead.neg ?_) | (refine VC.seq ?_)); (conv => whnf))))
  refine VSem.boxB ?_
  intro w1 g hb hg hl hB1
  replace hb : Blk w1 g 25 (msgC m Ae ne ce Ad nd cd) := hb
  have h1 := h.below hB1 (Nat.le_refl _)
  ((conv => whnf); (repeat ((first | (refine VL.cons ?_) | (refine VL.nil ?_) | (refine VC.seqS rfl ?_) | (refine VC.region ?_) | (refine VC.draw ?_) | (refine VC.cond ?_) | (refine VC.block ?_) | (refine VC.exit ?_) | (refine VC.ret ?_) | (refine VC.skip ?_) | (refine VC.label ?_) | (refine VC.scope ?_) | (refine VQ.cons ?_) | (refine VQ.nil ?_) | (refine VG.nil ?_) | (refine VG.cons ?_)); (conv => whnf))))
  ((repeat ((first | (refine VL.cons ?_) | (refine VL.nil ?_) | (refine VC.seqS rfl ?_) | (refine VC.region ?_) | (refine VC.draw ?_) | (refine VC.cond ?_) | (refine VC.block ?_) | (refine VC.exit ?_) | (refine VC.ret ?_) | (refine VC.skip ?_) | (refine VC.label ?_) | (refine VC.scope ?_) | (refine VQ.cons ?_) | (refine VQ.nil ?_) | (refine VG.nil ?_) | (refine VG.cons ?_) | (refine VBool.t ?_) | (refine VBool.f ?_) | (refine VBool.dT (by omega) ?_) | (refine VBool.dF (by omega) ?_) | (refine VBool.nT (by omega) ?_) | (refine VBool.nF (by omega) ?_) | (refine VRead.lenS ?_) | (refine VRead.lenT ?_) | (refine VRead.fld ?_) | (refine VRead.load1 (by assumption) ?_) | (refine VRead.load (by assumption) ?_) | (refine VRead.neB ?_) | (refine VRead.eqPN ?_) | (refine VRead.nePN ?_) | (refine VRead.eqB ?_) | (refine VBool.nT rfl ?_) | (refine VBool.dT rfl ?_) | (refine VWrap.i64 (by omega) (by omega) ?_) | (refine VWrap.u64 (by omega) (by omega) ?_) | (refine VRead.at1 (by omega) ?_) | (refine VSem.convI ?_) | (refine VRead.convI ?_) | (refine VRead.rem (by omega) (by decide) ?_) | (refine VRead.neg ?_) | (refine VC.seq ?_)); (conv => whnf))))
  refine VSem.allocZ (z := .agg #[.int .i64 0, .int .i64 0, .int .i64 0, .int .i64 0, .int .i64 0, .int .i64 0, .int .i64 0, .bool false, .slice none 0 0, .slice none 0 0]) (by kernel_rfl) ?_
  intro w2 r hbr hgr hlr hB2
  have hb2 := hb.below hB2 hl
  have hB12 := hB1.trans (hB2.mono hB1.size)
  have hz2 := hB12.size
  ((conv => whnf); (repeat ((first | (refine VL.cons ?_) | (refine VL.nil ?_) | (refine VC.seqS rfl ?_) | (refine VC.region ?_) | (refine VC.draw ?_) | (refine VC.cond ?_) | (refine VC.block ?_) | (refine VC.exit ?_) | (refine VC.ret ?_) | (refine VC.skip ?_) | (refine VC.label ?_) | (refine VC.scope ?_) | (refine VQ.cons ?_) | (refine VQ.nil ?_) | (refine VG.nil ?_) | (refine VG.cons ?_)); (conv => whnf))))
  (repeat (first | ((first | (refine VL.cons ?_) | (refine VL.nil ?_) | (refine VC.seqS rfl ?_) | (refine VC.region ?_) | (refine VC.draw ?_) | (refine VC.cond ?_) | (refine VC.block ?_) | (refine VC.exit ?_) | (refine VC.ret ?_) | (refine VC.skip ?_) | (refine VC.label ?_) | (refine VC.scope ?_) | (refine VQ.cons ?_) | (refine VQ.nil ?_) | (refine VG.nil ?_) | (refine VG.cons ?_) | (refine VBool.t ?_) | (refine VBool.f ?_) | (refine VBool.dT (by omega) ?_) | (refine VBool.dF (by omega) ?_) | (refine VBool.nT (by omega) ?_) | (refine VBool.nF (by omega) ?_) | (refine VRead.lenS ?_) | (refine VRead.lenT ?_) | (refine VRead.fld ?_) | (refine VRead.load1 (by assumption) ?_) | (refine VRead.load (by assumption) ?_) | (refine VRead.neB ?_) | (refine VRead.eqPN ?_) | (refine VRead.nePN ?_) | (refine VRead.eqB ?_) | (refine VBool.nT rfl ?_) | (refine VBool.dT rfl ?_) | (refine VWrap.i64 (by omega) (by omega) ?_) | (refine VWrap.u64 (by omega) (by omega) ?_) | (refine VRead.at1 (by omega) ?_) | (refine VSem.convI ?_) | (refine VRead.convI ?_) | (refine VRead.rem (by omega) (by decide) ?_) | (refine VRead.neg ?_) | (refine VC.seq ?_)); (conv => whnf)) | (refine VRead.loadB hb2 rfl rfl ?_; (conv => whnf))))
  refine VCall.of (entries_any m.es Ae ne ce w2 ((h.es.below hB12 (Nat.le_refl _)).more hz2) hn hd) ?_
  rintro e W3 ⟨A1, c1, rfl, hE, hB3⟩
  refine ⟨_, rfl, ?_⟩
  have hb3 := hb2.below hB3 hb2.lt
  have hbr3 := hbr.below hB3 hlr
  have h13 := hB12.trans (hB3.mono hz2)
  have hl2 := hb2.lt
  ((conv => whnf); (repeat ((first | (refine VL.cons ?_) | (refine VL.nil ?_) | (refine VC.seqS rfl ?_) | (refine VC.region ?_) | (refine VC.draw ?_) | (refine VC.cond ?_) | (refine VC.block ?_) | (refine VC.exit ?_) | (refine VC.ret ?_) | (refine VC.skip ?_) | (refine VC.label ?_) | (refine VC.scope ?_) | (refine VQ.cons ?_) | (refine VQ.nil ?_) | (refine VG.nil ?_) | (refine VG.cons ?_)); (conv => whnf))))
  ((repeat ((first | (refine VL.cons ?_) | (refine VL.nil ?_) | (refine VC.seqS rfl ?_) | (refine VC.region ?_) | (refine VC.draw ?_) | (refine VC.cond ?_) | (refine VC.block ?_) | (refine VC.exit ?_) | (refine VC.ret ?_) | (refine VC.skip ?_) | (refine VC.label ?_) | (refine VC.scope ?_) | (refine VQ.cons ?_) | (refine VQ.nil ?_) | (refine VG.nil ?_) | (refine VG.cons ?_) | (refine VBool.t ?_) | (refine VBool.f ?_) | (refine VBool.dT (by omega) ?_) | (refine VBool.dF (by omega) ?_) | (refine VBool.nT (by omega) ?_) | (refine VBool.nF (by omega) ?_) | (refine VRead.lenS ?_) | (refine VRead.lenT ?_) | (refine VRead.fld ?_) | (refine VRead.load1 (by assumption) ?_) | (refine VRead.load (by assumption) ?_) | (refine VRead.neB ?_) | (refine VRead.eqPN ?_) | (refine VRead.nePN ?_) | (refine VRead.eqB ?_) | (refine VBool.nT rfl ?_) | (refine VBool.dT rfl ?_) | (refine VWrap.i64 (by omega) (by omega) ?_) | (refine VWrap.u64 (by omega) (by omega) ?_) | (refine VRead.at1 (by omega) ?_) | (refine VSem.convI ?_) | (refine VRead.convI ?_) | (refine VRead.rem (by omega) (by decide) ?_) | (refine VRead.neg ?_) | (refine VC.seq ?_)); (conv => whnf))))
  refine VUnit.storeB hb3 rfl rfl rfl ?_
  intro W4 hb4 hg4
  replace hb4 : Blk W4 g 25 (msgC m A1 ne c1 Ad nd cd) := hb4
  have hE4 := hE.apart hb3 hg4 (by decide) hl2
  have hbr4 := hbr3.grown hg4 (fun e => by injection e; omega)
  have h14 : Below w.heap.size w W4 := only_new h13 hg4 (by omega) h13.size
  have hz4 := hg4.size
  ((conv => whnf); (repeat ((first | (refine VL.cons ?_) | (refine VL.nil ?_) | (refine VC.seqS rfl ?_) | (refine VC.region ?_) | (refine VC.draw ?_) | (refine VC.cond ?_) | (refine VC.block ?_) | (refine VC.exit ?_) | (refine VC.ret ?_) | (refine VC.skip ?_) | (refine VC.label ?_) | (refine VC.scope ?_) | (refine VQ.cons ?_) | (refine VQ.nil ?_) | (refine VG.nil ?_) | (refine VG.cons ?_)); (conv => whnf))))
  (repeat (first | ((first | (refine VL.cons ?_) | (refine VL.nil ?_) | (refine VC.seqS rfl ?_) | (refine VC.region ?_) | (refine VC.draw ?_) | (refine VC.cond ?_) | (refine VC.block ?_) | (refine VC.exit ?_) | (refine VC.ret ?_) | (refine VC.skip ?_) | (refine VC.label ?_) | (refine VC.scope ?_) | (refine VQ.cons ?_) | (refine VQ.nil ?_) | (refine VG.nil ?_) | (refine VG.cons ?_) | (refine VBool.t ?_) | (refine VBool.f ?_) | (refine VBool.dT (by omega) ?_) | (refine VBool.dF (by omega) ?_) | (refine VBool.nT (by omega) ?_) | (refine VBool.nF (by omega) ?_) | (refine VRead.lenS ?_) | (refine VRead.lenT ?_) | (refine VRead.fld ?_) | (refine VRead.load1 (by assumption) ?_) | (refine VRead.load (by assumption) ?_) | (refine VRead.neB ?_) | (refine VRead.eqPN ?_) | (refine VRead.nePN ?_) | (refine VRead.eqB ?_) | (refine VBool.nT rfl ?_) | (refine VBool.dT rfl ?_) | (refine VWrap.i64 (by omega) (by omega) ?_) | (refine VWrap.u64 (by omega) (by omega) ?_) | (refine VRead.at1 (by omega) ?_) | (refine VSem.convI ?_) | (refine VRead.convI ?_) | (refine VRead.rem (by omega) (by decide) ?_) | (refine VRead.neg ?_) | (refine VC.seq ?_)); (conv => whnf)) | (refine VRead.loadB hb4 rfl rfl ?_; (conv => whnf))))
  refine VCall.of (bytes_any Ad nd cd w.heap.size m.data W4 (by omega) (h.data.below h14)) ?_
  rintro e W5 ⟨A2, c2, rfl, hO5, hB5⟩
  refine ⟨_, rfl, ?_⟩
  have hb5 := hb4.below hB5 hb4.lt
  have hbr5 := hbr4.below hB5 hbr4.lt
  have hE5 := hE4.below hB5 (Nat.le_refl _)
  have h15 := h14.trans (hB5.mono h14.size)
  have hl4 := hb4.lt
  have hz3 := hB3.size
  ((conv => whnf); (repeat ((first | (refine VL.cons ?_) | (refine VL.nil ?_) | (refine VC.seqS rfl ?_) | (refine VC.region ?_) | (refine VC.draw ?_) | (refine VC.cond ?_) | (refine VC.block ?_) | (refine VC.exit ?_) | (refine VC.ret ?_) | (refine VC.skip ?_) | (refine VC.label ?_) | (refine VC.scope ?_) | (refine VQ.cons ?_) | (refine VQ.nil ?_) | (refine VG.nil ?_) | (refine VG.cons ?_)); (conv => whnf))))
  ((repeat ((first | (refine VL.cons ?_) | (refine VL.nil ?_) | (refine VC.seqS rfl ?_) | (refine VC.region ?_) | (refine VC.draw ?_) | (refine VC.cond ?_) | (refine VC.block ?_) | (refine VC.exit ?_) | (refine VC.ret ?_) | (refine VC.skip ?_) | (refine VC.label ?_) | (refine VC.scope ?_) | (refine VQ.cons ?_) | (refine VQ.nil ?_) | (refine VG.nil ?_) | (refine VG.cons ?_) | (refine VBool.t ?_) | (refine VBool.f ?_) | (refine VBool.dT (by omega) ?_) | (refine VBool.dF (by omega) ?_) | (refine VBool.nT (by omega) ?_) | (refine VBool.nF (by omega) ?_) | (refine VRead.lenS ?_) | (refine VRead.lenT ?_) | (refine VRead.fld ?_) | (refine VRead.load1 (by assumption) ?_) | (refine VRead.load (by assumption) ?_) | (refine VRead.neB ?_) | (refine VRead.eqPN ?_) | (refine VRead.nePN ?_) | (refine VRead.eqB ?_) | (refine VBool.nT rfl ?_) | (refine VBool.dT rfl ?_) | (refine VWrap.i64 (by omega) (by omega) ?_) | (refine VWrap.u64 (by omega) (by omega) ?_) | (refine VRead.at1 (by omega) ?_) | (refine VSem.convI ?_) | (refine VRead.convI ?_) | (refine VRead.rem (by omega) (by decide) ?_) | (refine VRead.neg ?_) | (refine VC.seq ?_)); (conv => whnf))))
  refine VUnit.storeB hb5 rfl rfl rfl ?_
  intro W6 hb6 hg6
  replace hb6 : Blk W6 g 25 (msgC m A1 ne c1 A2 nd c2) := hb6
  have hE6 := hE5.apart hb5 hg6 (by decide) hl2
  have hO6 := hO5.storeApart hg6 (fun q => by have := (World.ownsRow.lt hO5 g q).1; omega)
  have hbr6 := hbr5.grown hg6 (fun e => by injection e; omega)
  have h16 : Below w.heap.size w W6 := only_new h15 hg6 (by omega) h15.size
  have hlr4 := hbr4.lt
  ((conv => whnf); (repeat ((first | (refine VL.cons ?_) | (refine VL.nil ?_) | (refine VC.seqS rfl ?_) | (refine VC.region ?_) | (refine VC.draw ?_) | (refine VC.cond ?_) | (refine VC.block ?_) | (refine VC.exit ?_) | (refine VC.ret ?_) | (refine VC.skip ?_) | (refine VC.label ?_) | (refine VC.scope ?_) | (refine VQ.cons ?_) | (refine VQ.nil ?_) | (refine VG.nil ?_) | (refine VG.cons ?_)); (conv => whnf))))
  ((repeat ((first | (refine VL.cons ?_) | (refine VL.nil ?_) | (refine VC.seqS rfl ?_) | (refine VC.region ?_) | (refine VC.draw ?_) | (refine VC.cond ?_) | (refine VC.block ?_) | (refine VC.exit ?_) | (refine VC.ret ?_) | (refine VC.skip ?_) | (refine VC.label ?_) | (refine VC.scope ?_) | (refine VQ.cons ?_) | (refine VQ.nil ?_) | (refine VG.nil ?_) | (refine VG.cons ?_) | (refine VBool.t ?_) | (refine VBool.f ?_) | (refine VBool.dT (by omega) ?_) | (refine VBool.dF (by omega) ?_) | (refine VBool.nT (by omega) ?_) | (refine VBool.nF (by omega) ?_) | (refine VRead.lenS ?_) | (refine VRead.lenT ?_) | (refine VRead.fld ?_) | (refine VRead.load1 (by assumption) ?_) | (refine VRead.load (by assumption) ?_) | (refine VRead.neB ?_) | (refine VRead.eqPN ?_) | (refine VRead.nePN ?_) | (refine VRead.eqB ?_) | (refine VBool.nT rfl ?_) | (refine VBool.dT rfl ?_) | (refine VWrap.i64 (by omega) (by omega) ?_) | (refine VWrap.u64 (by omega) (by omega) ?_) | (refine VRead.at1 (by omega) ?_) | (refine VSem.convI ?_) | (refine VRead.convI ?_) | (refine VRead.rem (by omega) (by decide) ?_) | (refine VRead.neg ?_) | (refine VC.seq ?_)); (conv => whnf))))
  refine VRead.loadAB1 hb6 rfl rfl ?_
  ((conv => whnf); (repeat ((first | (refine VL.cons ?_) | (refine VL.nil ?_) | (refine VC.seqS rfl ?_) | (refine VC.region ?_) | (refine VC.draw ?_) | (refine VC.cond ?_) | (refine VC.block ?_) | (refine VC.exit ?_) | (refine VC.ret ?_) | (refine VC.skip ?_) | (refine VC.label ?_) | (refine VC.scope ?_) | (refine VQ.cons ?_) | (refine VQ.nil ?_) | (refine VG.nil ?_) | (refine VG.cons ?_)); (conv => whnf))))
  ((repeat ((first | (refine VL.cons ?_) | (refine VL.nil ?_) | (refine VC.seqS rfl ?_) | (refine VC.region ?_) | (refine VC.draw ?_) | (refine VC.cond ?_) | (refine VC.block ?_) | (refine VC.exit ?_) | (refine VC.ret ?_) | (refine VC.skip ?_) | (refine VC.label ?_) | (refine VC.scope ?_) | (refine VQ.cons ?_) | (refine VQ.nil ?_) | (refine VG.nil ?_) | (refine VG.cons ?_) | (refine VBool.t ?_) | (refine VBool.f ?_) | (refine VBool.dT (by omega) ?_) | (refine VBool.dF (by omega) ?_) | (refine VBool.nT (by omega) ?_) | (refine VBool.nF (by omega) ?_) | (refine VRead.lenS ?_) | (refine VRead.lenT ?_) | (refine VRead.fld ?_) | (refine VRead.load1 (by assumption) ?_) | (refine VRead.load (by assumption) ?_) | (refine VRead.neB ?_) | (refine VRead.eqPN ?_) | (refine VRead.nePN ?_) | (refine VRead.eqB ?_) | (refine VBool.nT rfl ?_) | (refine VBool.dT rfl ?_) | (refine VWrap.i64 (by omega) (by omega) ?_) | (refine VWrap.u64 (by omega) (by omega) ?_) | (refine VRead.at1 (by omega) ?_) | (refine VSem.convI ?_) | (refine VRead.convI ?_) | (refine VRead.rem (by omega) (by decide) ?_) | (refine VRead.neg ?_) | (refine VC.seq ?_)); (conv => whnf))))
  refine VUnit.storeAB hbr6 rfl rfl rfl (by simp [msgC, Value.oneCell']) ?_
  intro W7 hbr7 hg7
  rw [setFrom_all (by rfl)] at hbr7
  have hE7 := hE6.apart hbr6 hg7 (by decide) (by omega)
  have hO7 := hO6.storeApart hg7 (fun q => by have := (World.ownsRow.lt hO6 r q).1; omega)
  have h17 : Below w.heap.size w W7 := only_new h16 hg7 (by omega) h16.size
  ((conv => whnf); (repeat ((first | (refine VL.cons ?_) | (refine VL.nil ?_) | (refine VC.seqS rfl ?_) | (refine VC.region ?_) | (refine VC.draw ?_) | (refine VC.cond ?_) | (refine VC.block ?_) | (refine VC.exit ?_) | (refine VC.ret ?_) | (refine VC.skip ?_) | (refine VC.label ?_) | (refine VC.scope ?_) | (refine VQ.cons ?_) | (refine VQ.nil ?_) | (refine VG.nil ?_) | (refine VG.cons ?_)); (conv => whnf))))
  ((repeat ((first | (refine VL.cons ?_) | (refine VL.nil ?_) | (refine VC.seqS rfl ?_) | (refine VC.region ?_) | (refine VC.draw ?_) | (refine VC.cond ?_) | (refine VC.block ?_) | (refine VC.exit ?_) | (refine VC.ret ?_) | (refine VC.skip ?_) | (refine VC.label ?_) | (refine VC.scope ?_) | (refine VQ.cons ?_) | (refine VQ.nil ?_) | (refine VG.nil ?_) | (refine VG.cons ?_) | (refine VBool.t ?_) | (refine VBool.f ?_) | (refine VBool.dT (by omega) ?_) | (refine VBool.dF (by omega) ?_) | (refine VBool.nT (by omega) ?_) | (refine VBool.nF (by omega) ?_) | (refine VRead.lenS ?_) | (refine VRead.lenT ?_) | (refine VRead.fld ?_) | (refine VRead.load1 (by assumption) ?_) | (refine VRead.load (by assumption) ?_) | (refine VRead.neB ?_) | (refine VRead.eqPN ?_) | (refine VRead.nePN ?_) | (refine VRead.eqB ?_) | (refine VBool.nT rfl ?_) | (refine VBool.dT rfl ?_) | (refine VWrap.i64 (by omega) (by omega) ?_) | (refine VWrap.u64 (by omega) (by omega) ?_) | (refine VRead.at1 (by omega) ?_) | (refine VSem.convI ?_) | (refine VRead.convI ?_) | (refine VRead.rem (by omega) (by decide) ?_) | (refine VRead.neg ?_) | (refine VC.seq ?_)); (conv => whnf))))
  refine VRes.cellM rfl hbr7 rfl ?_
  exact ⟨A1, c1, A2, c2, rfl, ⟨hE7.cap, hE7.ents h.ne, hO7.cap, hO7.reads⟩, h17⟩
end Go.Proofs.Ytbfboglcdgeheaa
