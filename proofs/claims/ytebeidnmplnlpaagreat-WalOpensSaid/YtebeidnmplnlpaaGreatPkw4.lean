/- Texts joined: WalD, VT, VF, RwA, RwB, VY, WalE, WalF, WalG, WalH. No condition. -/
import Derived.Test.YtebeidnmplnlpaaGreatPkw3
import Derived.Test.YtebeidnmplnlpaaGreatPkw2
import Derived.Test.YtebeidnmplnlpaaGreatPkw0
section
set_option maxRecDepth 10000
namespace Go.Proofs.YtebeidnmplnlpaaGreat
set_option linter.unusedVariables false
open Go.RowKit

theorem ERow.keepG {W W' : World} {V : Foot} {B q T : Nat} {cs : Array Value} {v : Value} {es : List En} (h : ERow W V B v es) (hb : Blk W q T cs) (hg : W.grownBy W' (some q)) (hT : 5 ≠ T) (hne : v.ownBlock ≠ some q) : ERow W' V B v es := by
  obtain ⟨xs, h1, h2, h3⟩ := h
  refine ⟨xs, rows_apart h1 hg (fun q e h => by injection e with e; exact hne (by rw [h, e])), h2, fun i e he => ?_⟩
  obtain ⟨A, m, c, e1, e2, e3, e5, e4⟩ := h3 i e he
  exact ⟨A, m, c, e1, e2, e3, e5, e4.blk hb hg hT⟩
theorem ERow.lt {W : World} {V : Foot} {B q : Nat} {v : Value} {es : List En} (h : ERow W V B v es) (hq : v.ownBlock = some q) : q < W.heap.size ∧ B ≤ q := by
  obtain ⟨xs, h1, _⟩ := h
  have := World.ownsRow.lt h1 q hq
  omega
theorem ERow.cells {W : World} {V : Foot} {B q : Nat} {v : Value} {es : List En} (h : ERow W V B v es) (hq : v.ownBlock = some q) : ∃ cs, W.heap[q]? = some (Obj.cells cs 56 (0, 0)) := by
  obtain ⟨xs, h1, _⟩ := h
  rcases h1.2 with ⟨rfl, _⟩ | ⟨g', cap, cur, rfl, _, hc, _⟩
  · simp [Value.ownBlock] at hq
  · have : g' = q := by simpa [Value.ownBlock] using hq
    subst this
    exact ⟨_, hc⟩
theorem ERow.notBlk {W : World} {V : Foot} {B q T : Nat} {cs : Array Value} {v : Value} {es : List En} (h : ERow W V B v es) (hb : Blk W q T cs) (hT : 56 ≠ T) : v.ownBlock ≠ some q := fun hq => by
  obtain ⟨cs', hc⟩ := h.cells hq
  unfold Blk at hb
  rw [hc] at hb
  injection hb with hb
  injection hb with _ h2 _
  exact hT h2
theorem Out.newG {F : Foot} {w W W' : World} {q : Nat} (h : Out F w W) (hg : W.grownBy W' (some q)) (hq : w.heap.size ≤ q ∨ F q) : Out F w W' :=
  ⟨hg.os.trans h.os, hg.tape.trans h.tape, hg.output.trans h.output, Nat.le_trans h.size hg.size, fun j hj hu => (hg.block j (Nat.lt_of_lt_of_le hj h.size) (fun e => by
    injection e with e
    rcases hq with hq | hq
    · omega
    · exact hu (e ▸ hq))).trans (h.block j hj hu)⟩
theorem VSem.convLW {P : Program} {w : World} {s d : TypeId} {k : Nat} {x : ByteArray} {K : Value → World → Prop} [a : TStr P s] [b : TSlice P d 5 k] [i : TInt P 5 .u8]
    (h : ∀ A c w', Lies w' (fun j => w.heap.size ≤ j) A x.size x.data.toList → x.size ≤ c → Below w.heap.size w w' → K (.slice A x.size c) w') : VSem P (convert s d (.string x)) w K := by
  refine VSem.of (Lib.run_convert_string_bytes w s d 5 x a.u b.u i.u) (h _ _ _ ⟨?_, fun _ => ⟨_, _, _, rfl, Nat.le_refl _, Lib.bytesWorld_at_new w 5 x⟩⟩ (grownCap_ge _ _ _ _) ?_)
  · refine ⟨by rw [bv_length]; simp, fun _ => ⟨_, rfl, by rw [Lib.bytesWorld_size]; show w.heap.size < _; omega, fun j u hu => ?_⟩⟩
    have hj : j < x.size := by
      have := (List.getElem?_eq_some_iff.1 hu).1
      rw [bv_length] at this; simpa using this
    rw [show (⟨w.heap.size, 0, none⟩ : Addr).add j = ⟨w.heap.size, j, none⟩ from by unfold Addr.add; split <;> simp_all, Lib.bytesWorld_cell w 5 x j hj]
    rw [← hu]
    unfold bv
    rw [List.getElem?_map, List.getD_eq_getElem?_getD, List.getElem?_eq_getElem (by simpa using hj)]
    rfl
  · exact Lib.below_freeze (((Below.refl _ w).drew).alloc (Nat.le_refl _) _) (Nat.le_refl _) _
/-- while a record is read -/
structure TkS (V : Foot) (B g gr : Nat) (v : Value) (w : World) (es : List En) (cs : Array Value) (s : Option (List UInt8)) (W : World) : Prop where
  blk : Blk W g 50 cs
  row : ERow W V B v es
  rs : RS 157 W gr s
  out : Out (fun j => j = g) w W
  gl : g < w.heap.size
  grl : w.heap.size ≤ gr
section
variable {V : Foot} {B g gr q : Nat} {v : Value} {w W W' : World} {es : List En} {cs cs' : Array Value} {s s' : Option (List UInt8)}
theorem TkS.later (h : TkS V B g gr v w es cs s W) (hb : Below W.heap.size W W') : TkS V B g gr v w es cs s W' :=
  ⟨h.blk.later hb, h.row.below hb, h.rs.below hb h.rs.lt, h.out.later hb, h.gl, h.grl⟩
theorem TkS.read (h : TkS V B g gr v w es cs s W) (hr : RS 157 W' gr s') (hg : W.grownBy W' (some gr)) : TkS V B g gr v w es cs s' W' := by
  have := h.gl; have := h.grl
  obtain ⟨l, p, bad, ⟨A, n, c, h1, _⟩, _⟩ := h.rs
  exact ⟨h.blk.grown hg (fun e => by injection e; omega), h.row.keepG h1 hg (by decide) (h.row.notBlk h1 (by decide)), hr, h.out.newG hg (.inl h.grl), h.gl, h.grl⟩
theorem TkS.store (h : TkS V B g gr v w es cs s W) (hb : Blk W' g 50 cs') (hg : W.grownBy W' (some g)) (hcs : cs.toList.all notU8 = true) : TkS V B g gr v w es cs' s W' := by
  have := h.gl; have := h.grl
  exact ⟨hb, h.row.keepG h.blk hg (by decide) (h.row.notBlk h.blk (by decide)), h.rs.apartC h.blk hcs hg (by omega), h.out.newG hg (.inr rfl), h.gl, h.grl⟩
theorem TkS.own (h : TkS V B g gr v w es cs s W) {T b : Nat} {cs2 : Array Value} (hb : Blk W b T cs2) (hg : W.grownBy W' (some b)) (hT : 5 ≠ T) (hbr : gr < b) (hv : v.ownBlock ≠ some b) : TkS V B g gr v w es cs s W' := by
  have := h.gl; have := h.grl
  exact ⟨h.blk.grown hg (fun e => by injection e; omega), h.row.keepG hb hg hT hv, h.rs.other hg hbr, h.out.newG hg (.inl (by omega)), h.gl, h.grl⟩
end
/-- what a record's reading leaves -/
def TkR (V : Foot) (B g : Nat) (v : Value) (w : World) (o : Option Kp) (e : Ending) (W : World) : Prop :=
  Out (fun j => j = g ∨ v.ownBlock = some j) w W ∧ match o with
  | some k => e = .returned (.bool true) ∧ ∃ A n c, Blk W g 50 (kC k A n c) ∧ ERow W V B (.slice A n c) k.es
  | none => e = .returned (.bool false) ∧ ∃ cs : Array Value, cs.size = 5 ∧ Blk W g 50 cs
theorem TkS.no {V : Foot} {B g gr : Nat} {v : Value} {w W : World} {es : List En} {cs : Array Value} {s : Option (List UInt8)} (h : TkS V B g gr v w es cs s W) (hc : cs.size = 5) : TkR V B g v w none (.returned (.bool false)) W :=
  ⟨h.out.mono (fun j hj => .inl hj), rfl, cs, hc, h.blk⟩
set_option maxHeartbeats 4000000 in
theorem takes_any (V : Foot) (B g : Nat) (k : Kp) (Ak A : Option Addr) (nk ck n c : Nat) (b : List UInt8) (st : Bool) (w : World) (hk : Blk w g 50 (kC k Ak nk ck)) (hE : ERow w V B (.slice Ak nk ck) k.es)
    (hr : Reads w w.heap.size 1 A n (bv b)) (hn1 : 1 ≤ n) (hnc : n ≤ c) (hn : n ≤ 1048576) (hB : B ≤ w.heap.size) (hV : ∀ j, B ≤ j → V j) (hnk : nk ≤ 50000000) (hkb : inR k.base 1099511627776) :
    Calls Tryz.prog 62 #[.pointer (some ⟨g, 0, none⟩), .slice A n c, .bool st] w fun e w' => TkR V B g (.slice Ak nk ck) w (takes k b st) e w' := by
  have hbl : b.length = n := by have := hr.1; rw [bv_length] at this; omega
  obtain ⟨x, r, rfl⟩ : ∃ x r, b = x :: r := by
    cases b with
    | nil => simp at hbl; omega
    | cons x r => exact ⟨x, r, rfl⟩
  have hx := x.toNat_lt
  obtain ⟨ad, u, rfl, _, hu, hcell⟩ := hr.at_ (k := 0) (by omega)
  have hu' : u = .int .u8 (x.toNat : Int) := by unfold bv at hu; simpa using hu.symm
  subst hu'
  refine calls_vc Tryz.func62 rfl (by kernel_rfl) ?_
  ((conv => whnf); (repeat ((first | (refine VL.cons ?_) | (refine VL.nil ?_) | (refine VC.seqS rfl ?_) | (refine VC.region ?_)); (conv => whnf))))
  ((repeat ((fail); (conv => whnf))))
  refine VRead.cutL (by omega) (by omega) ?_
  ((conv => whnf); (repeat ((first | (refine VL.cons ?_)); (conv => whnf))))
  ((repeat ((fail); (conv => whnf))))
  refine VCall.of (rNew_any _ (n - 1) (c - 1) w.heap.size r w (by omega) (hr.cutA (k := 1) hn1 hnc)) ?_
  rintro e w1 ⟨gr, rfl, hgr, hR, hB1⟩
  refine ⟨_, rfl, ?_⟩
  have hS1 : TkS V B g gr (.slice Ak nk ck) w k.es (kC k Ak nk ck) (some r) w1 := ⟨hk.later hB1, hE.below hB1, hR, Out.new hB1, hk.lt, hgr⟩
  have hcell1 : w1.cell? (ad.add 0) = some (.int .u8 (x.toNat : Int)) := (World.cell?_of_block (by rw [adb]; exact hB1.block _ (by assumption))).trans hcell
  have h5 : (kC k Ak nk ck).size = 5 := rfl
  by_cases hst : decide (x.toNat = 0) = st
  case neg =>
    have ht : takes k (x :: r) st = none := by unfold takes; simp only; rw [if_neg hst]
    rw [ht]
    ((conv => whnf); (repeat ((first | (refine VL.cons ?_) | (refine VL.nil ?_)); (conv => whnf))))
    (repeat (first | ((first | (refine VL.cons ?_) | (refine VL.nil ?_) | (refine VC.seqS rfl ?_) | (refine VC.region ?_) | (refine VC.cond ?_) | (refine VRead.load1 (by assumption) ?_) | (refine VRead.neB ?_) | (refine VC.seq ?_)); (conv => whnf)) | (refine VRead.at1 (j := 0) (by omega) ?_; (conv => whnf))))
    have hbx : (!decide (decide ((x.toNat : Int) = 0) = st)) = true := by
      rw [show decide ((x.toNat : Int) = 0) = decide (x.toNat = 0) from decide_eq_decide.2 (by omega), decide_eq_false hst]
      rfl
    refine VBool.yes hbx ?_
    ((conv => whnf); (repeat ((first | (refine VL.cons ?_) | (refine VL.nil ?_) | (refine VC.seqS rfl ?_) | (refine VC.region ?_) | (refine VC.ret ?_)); (conv => whnf))))
    ((repeat ((fail); (conv => whnf))))
    exact hS1.no h5
  have hbx : (!decide (decide ((x.toNat : Int) = 0) = st)) = false := by
    rw [show decide ((x.toNat : Int) = 0) = decide (x.toNat = 0) from decide_eq_decide.2 (by omega), decide_eq_true hst]
    rfl
  by_cases hx0 : x.toNat = 0
  · have ht : takes k (x :: r) st = tk0 k r := by unfold takes; simp only; rw [if_pos hst, if_pos hx0]
    rw [ht]
    ((conv => whnf); (repeat ((first | (refine VL.cons ?_) | (refine VL.nil ?_)); (conv => whnf))))
    (repeat (first | ((first | (refine VL.cons ?_) | (refine VL.nil ?_) | (refine VC.seqS rfl ?_) | (refine VC.region ?_) | (refine VC.cond ?_) | (refine VC.block ?_) | (refine VC.skip ?_) | (refine VBool.dT (by omega) ?_) | (refine VRead.load1 (by assumption) ?_) | (refine VRead.neB ?_) | (refine VC.seq ?_)); (conv => whnf)) | (refine VRead.at1 (j := 0) (by omega) ?_; (conv => whnf)) | (refine VBool.no hbx ?_; (conv => whnf))))
    refine VCall.of (rInt_any w1 gr _ hR) ?_
    rintro e w2 ⟨rfl, hR2, hg2⟩
    refine ⟨_, rfl, ?_⟩
    have hS2 := hS1.read hR2 hg2
    unfold tk0
    generalize Wire.intS (some r) = p1 at *
    obtain ⟨v1, s1⟩ := p1
    simp only at *
    ((conv => whnf); (repeat ((first | (refine VL.cons ?_)); (conv => whnf))))
    ((repeat ((first | (refine VL.cons ?_) | (refine VRead.fld ?_)); (conv => whnf))))
    refine VUnit.storeB hS2.blk rfl rfl rfl ?_
    intro w3 hb3 hg3
    have hS3 := hS2.store hb3 hg3 rfl
    ((conv => whnf); (repeat ((first | (refine VL.cons ?_)); (conv => whnf))))
    ((repeat ((first | (refine VL.cons ?_) | (refine VRead.fld ?_)); (conv => whnf))))
    refine VUnit.storeB hS3.blk rfl rfl rfl ?_
    intro w4 hb4 hg4
    have hS4 := hS3.store hb4 hg4 rfl
    ((conv => whnf); (repeat ((first | (refine VL.cons ?_) | (refine VL.nil ?_) | (refine VC.seqS rfl ?_) | (refine VC.region ?_)); (conv => whnf))))
    ((repeat ((fail); (conv => whnf))))
    refine VCall.of (rInt_any w4 gr _ hS4.rs) ?_
    rintro e w5 ⟨rfl, hR5, hg5⟩
    refine ⟨_, rfl, ?_⟩
    have hS5 := hS4.read hR5 hg5
    generalize Wire.intS s1 = p2 at *
    obtain ⟨v2, s2⟩ := p2
    simp only at *
    ((conv => whnf); (repeat ((first | (refine VL.cons ?_)); (conv => whnf))))
    ((repeat ((first | (refine VL.cons ?_) | (refine VRead.fld ?_)); (conv => whnf))))
    refine VUnit.storeB hS5.blk rfl rfl rfl ?_
    intro w6 hb6 hg6
    have hS6 := hS5.store hb6 hg6 rfl
    have hb6' : Blk w6 g 50 (kC { k with base := v1, bterm := v2 } Ak nk ck) := hb6
    ((conv => whnf); (repeat ((first | (refine VL.cons ?_) | (refine VL.nil ?_) | (refine VC.seqS rfl ?_) | (refine VC.region ?_)); (conv => whnf))))
    ((repeat ((fail); (conv => whnf))))
    refine VCall.of (rEnd_any w6 gr _ hS6.rs) ?_
    rintro e _ ⟨rfl, N, rfl⟩
    refine ⟨_, rfl, ?_⟩
    have hS7 := hS6.later (below_drewN (Below.refl _ w6) N)
    have hb7 : Blk (w6.drewN N) g 50 (kC { k with base := v1, bterm := v2 } Ak nk ck) := hb6'.later (below_drewN (Below.refl _ w6) N)
    generalize w6.drewN N = w7 at *
    by_cases c1 : Wire.endS s2 = true
    case neg =>
      rw [if_neg (fun h => c1 h.1)]
      have c1' : Wire.endS s2 = false := by simpa using c1
      ((conv => whnf); (repeat ((first | (refine VL.cons ?_)); (conv => whnf))))
      (repeat (first | ((first | (refine VL.cons ?_) | (refine VL.nil ?_) | (refine VC.ret ?_) | (refine VBool.f ?_)); (conv => whnf)) | (refine VBool.no c1' ?_; (conv => whnf))))
      rw [c1']
      exact hS7.no rfl
    by_cases c2 : inR v1 1099511627776
    case neg =>
      rw [if_neg (fun h => c2 h.2.1)]
      ((conv => whnf); (repeat ((first | (refine VL.cons ?_)); (conv => whnf))))
      (repeat (first | ((first | (refine VL.cons ?_) | (refine VBool.t ?_) | (refine VRead.fld ?_)); (conv => whnf)) | (refine VBool.yes c1 ?_; (conv => whnf)) | (refine VRead.loadB hb7 rfl rfl ?_; (conv => whnf))))
      refine VCall.of (walIn_any v1 1099511627776 w7) ?_
      rintro e _ ⟨rfl, rfl⟩
      refine ⟨_, rfl, ?_⟩
      rw [decide_eq_false c2]
      ((conv => whnf); (repeat ((first | (refine VL.cons ?_)); (conv => whnf))))
      ((repeat ((first | (refine VL.cons ?_) | (refine VL.nil ?_) | (refine VC.ret ?_) | (refine VBool.f ?_)); (conv => whnf))))
      exact hS7.no rfl
    ((conv => whnf); (repeat ((first | (refine VL.cons ?_)); (conv => whnf))))
    (repeat (first | ((first | (refine VL.cons ?_) | (refine VBool.t ?_) | (refine VRead.fld ?_)); (conv => whnf)) | (refine VBool.yes c1 ?_; (conv => whnf)) | (refine VRead.loadB hb7 rfl rfl ?_; (conv => whnf))))
    refine VCall.of (walIn_any v1 1099511627776 w7) ?_
    rintro e _ ⟨rfl, rfl⟩
    refine ⟨_, rfl, ?_⟩
    rw [decide_eq_true c2]
    ((conv => whnf); (repeat ((first | (refine VL.cons ?_)); (conv => whnf))))
    (repeat (first | ((first | (refine VL.cons ?_) | (refine VBool.t ?_) | (refine VRead.fld ?_)); (conv => whnf)) | (refine VRead.loadB hb7 rfl rfl ?_; (conv => whnf))))
    refine VCall.of (walIn_any v2 1099511627776 _) ?_
    rintro e _ ⟨rfl, rfl⟩
    refine ⟨_, rfl, ?_⟩
    by_cases c3 : inR v2 1099511627776
    · rw [if_pos ⟨c1, c2, c3⟩, decide_eq_true c3]
      ((conv => whnf); (repeat ((first | (refine VL.cons ?_) | (refine VL.nil ?_) | (refine VC.ret ?_)); (conv => whnf))))
      ((repeat ((fail); (conv => whnf))))
      exact ⟨hS7.out.mono (fun j hj => .inl hj), rfl, Ak, nk, ck, hb7, hS7.row⟩
    · rw [if_neg (fun h => c3 h.2.2), decide_eq_false c3]
      ((conv => whnf); (repeat ((first | (refine VL.cons ?_) | (refine VL.nil ?_) | (refine VC.ret ?_)); (conv => whnf))))
      ((repeat ((fail); (conv => whnf))))
      exact hS7.no rfl
  by_cases hx1 : x.toNat = 1
  · have ht : takes k (x :: r) st = tk1 k r := by unfold takes; simp only; rw [if_pos hst, if_neg hx0, if_pos hx1]
    rw [ht]
    ((conv => whnf); (repeat ((first | (refine VL.cons ?_) | (refine VL.nil ?_)); (conv => whnf))))
    (repeat (first | ((first | (refine VL.cons ?_) | (refine VL.nil ?_) | (refine VC.seqS rfl ?_) | (refine VC.region ?_) | (refine VC.cond ?_) | (refine VC.block ?_) | (refine VC.skip ?_) | (refine VBool.dT (by omega) ?_) | (refine VBool.dF (by omega) ?_) | (refine VRead.load1 (by assumption) ?_) | (refine VRead.neB ?_) | (refine VC.seq ?_)); (conv => whnf)) | (refine VRead.at1 (j := 0) (by omega) ?_; (conv => whnf)) | (refine VBool.no hbx ?_; (conv => whnf))))
    refine VCall.of (rInt_any w1 gr _ hR) ?_
    rintro e w2 ⟨rfl, hR2, hg2⟩
    refine ⟨_, rfl, ?_⟩
    have hS2 := hS1.read hR2 hg2
    unfold tk1
    generalize Wire.intS (some r) = p1 at *
    obtain ⟨v1, s1⟩ := p1
    simp only at *
    ((conv => whnf); (repeat ((first | (refine VL.cons ?_)); (conv => whnf))))
    ((repeat ((first | (refine VL.cons ?_) | (refine VRead.fld ?_)); (conv => whnf))))
    refine VUnit.storeB hS2.blk rfl rfl rfl ?_
    intro w3 hb3 hg3
    have hS4 := hS2.store hb3 hg3 rfl
    ((conv => whnf); (repeat ((first | (refine VL.cons ?_) | (refine VL.nil ?_) | (refine VC.seqS rfl ?_) | (refine VC.region ?_)); (conv => whnf))))
    ((repeat ((fail); (conv => whnf))))
    refine VCall.of (rInt_any w3 gr _ hS4.rs) ?_
    rintro e w5 ⟨rfl, hR5, hg5⟩
    refine ⟨_, rfl, ?_⟩
    have hS5 := hS4.read hR5 hg5
    generalize Wire.intS s1 = p2 at *
    obtain ⟨v2, s2⟩ := p2
    simp only at *
    ((conv => whnf); (repeat ((first | (refine VL.cons ?_)); (conv => whnf))))
    ((repeat ((first | (refine VL.cons ?_) | (refine VRead.fld ?_)); (conv => whnf))))
    refine VUnit.storeB hS5.blk rfl rfl rfl ?_
    intro w6 hb6 hg6
    have hS6 := hS5.store hb6 hg6 rfl
    have hb6' : Blk w6 g 50 (kC { k with term := v1, vote := v2 } Ak nk ck) := hb6
    ((conv => whnf); (repeat ((first | (refine VL.cons ?_) | (refine VL.nil ?_) | (refine VC.seqS rfl ?_) | (refine VC.region ?_)); (conv => whnf))))
    ((repeat ((fail); (conv => whnf))))
    refine VCall.of (rEnd_any w6 gr _ hS6.rs) ?_
    rintro e _ ⟨rfl, N, rfl⟩
    refine ⟨_, rfl, ?_⟩
    have hS7 := hS6.later (below_drewN (Below.refl _ w6) N)
    have hb7 : Blk (w6.drewN N) g 50 (kC { k with term := v1, vote := v2 } Ak nk ck) := hb6'.later (below_drewN (Below.refl _ w6) N)
    generalize w6.drewN N = w7 at *
    by_cases c1 : Wire.endS s2 = true
    case neg =>
      rw [if_neg (fun h => c1 h.1)]
      have c1' : Wire.endS s2 = false := by simpa using c1
      ((conv => whnf); (repeat ((first | (refine VL.cons ?_)); (conv => whnf))))
      (repeat (first | ((first | (refine VL.cons ?_) | (refine VL.nil ?_) | (refine VC.ret ?_) | (refine VBool.f ?_)); (conv => whnf)) | (refine VBool.no c1' ?_; (conv => whnf))))
      rw [c1']
      exact hS7.no rfl
    by_cases c2 : inR v1 1099511627776
    case neg =>
      rw [if_neg (fun h => c2 h.2.1)]
      ((conv => whnf); (repeat ((first | (refine VL.cons ?_)); (conv => whnf))))
      (repeat (first | ((first | (refine VL.cons ?_) | (refine VBool.t ?_) | (refine VRead.fld ?_)); (conv => whnf)) | (refine VBool.yes c1 ?_; (conv => whnf)) | (refine VRead.loadB hb7 rfl rfl ?_; (conv => whnf))))
      refine VCall.of (walIn_any v1 1099511627776 w7) ?_
      rintro e _ ⟨rfl, rfl⟩
      refine ⟨_, rfl, ?_⟩
      rw [decide_eq_false c2]
      ((conv => whnf); (repeat ((first | (refine VL.cons ?_)); (conv => whnf))))
      ((repeat ((first | (refine VL.cons ?_) | (refine VL.nil ?_) | (refine VC.ret ?_) | (refine VBool.f ?_)); (conv => whnf))))
      exact hS7.no rfl
    ((conv => whnf); (repeat ((first | (refine VL.cons ?_)); (conv => whnf))))
    (repeat (first | ((first | (refine VL.cons ?_) | (refine VBool.t ?_) | (refine VRead.fld ?_)); (conv => whnf)) | (refine VBool.yes c1 ?_; (conv => whnf)) | (refine VRead.loadB hb7 rfl rfl ?_; (conv => whnf))))
    refine VCall.of (walIn_any v1 1099511627776 w7) ?_
    rintro e _ ⟨rfl, rfl⟩
    refine ⟨_, rfl, ?_⟩
    rw [decide_eq_true c2]
    ((conv => whnf); (repeat ((first | (refine VL.cons ?_)); (conv => whnf))))
    (repeat (first | ((first | (refine VL.cons ?_) | (refine VBool.t ?_) | (refine VRead.fld ?_)); (conv => whnf)) | (refine VRead.loadB hb7 rfl rfl ?_; (conv => whnf))))
    refine VCall.of (walIn_any v2 7 _) ?_
    rintro e _ ⟨rfl, rfl⟩
    refine ⟨_, rfl, ?_⟩
    by_cases c3 : inR v2 7
    · rw [if_pos ⟨c1, c2, c3⟩, decide_eq_true c3]
      ((conv => whnf); (repeat ((first | (refine VL.cons ?_) | (refine VL.nil ?_) | (refine VC.ret ?_)); (conv => whnf))))
      ((repeat ((fail); (conv => whnf))))
      exact ⟨hS7.out.mono (fun j hj => .inl hj), rfl, Ak, nk, ck, hb7, hS7.row⟩
    · rw [if_neg (fun h => c3 h.2.2), decide_eq_false c3]
      ((conv => whnf); (repeat ((first | (refine VL.cons ?_) | (refine VL.nil ?_) | (refine VC.ret ?_)); (conv => whnf))))
      ((repeat ((fail); (conv => whnf))))
      exact hS7.no rfl
  by_cases hx2 : x.toNat = 2
  case neg =>
    have ht : takes k (x :: r) st = none := by unfold takes; simp only; rw [if_pos hst, if_neg hx0, if_neg hx1, if_neg hx2]
    rw [ht]
    ((conv => whnf); (repeat ((first | (refine VL.cons ?_) | (refine VL.nil ?_)); (conv => whnf))))
    (repeat (first | ((first | (refine VL.cons ?_) | (refine VL.nil ?_) | (refine VC.seqS rfl ?_) | (refine VC.region ?_) | (refine VC.cond ?_) | (refine VC.block ?_) | (refine VC.ret ?_) | (refine VC.skip ?_) | (refine VBool.dF (by omega) ?_) | (refine VRead.load1 (by assumption) ?_) | (refine VRead.neB ?_) | (refine VC.seq ?_)); (conv => whnf)) | (refine VRead.at1 (j := 0) (by omega) ?_; (conv => whnf)) | (refine VBool.no hbx ?_; (conv => whnf))))
    exact hS1.no h5
  have ht : takes k (x :: r) st = tk2 k r := by unfold takes; simp only; rw [if_pos hst, if_neg hx0, if_neg hx1, if_pos hx2]
  rw [ht]
  ((conv => whnf); (repeat ((first | (refine VL.cons ?_) | (refine VL.nil ?_)); (conv => whnf))))
  (repeat (first | ((first | (refine VL.cons ?_) | (refine VL.nil ?_) | (refine VC.seqS rfl ?_) | (refine VC.region ?_) | (refine VC.cond ?_) | (refine VC.block ?_) | (refine VC.skip ?_) | (refine VBool.dT (by omega) ?_) | (refine VBool.dF (by omega) ?_) | (refine VRead.load1 (by assumption) ?_) | (refine VRead.neB ?_) | (refine VC.seq ?_)); (conv => whnf)) | (refine VRead.at1 (j := 0) (by omega) ?_; (conv => whnf)) | (refine VBool.no hbx ?_; (conv => whnf))))
  refine VCall.of (rInt_any w1 gr _ hR) ?_
  rintro e w2 ⟨rfl, hR2, hg2⟩
  refine ⟨_, rfl, ?_⟩
  have hS2 := hS1.read hR2 hg2
  unfold tk2 eE eD eC eT eI
  generalize Wire.intS (some r) = p1 at *
  obtain ⟨v1, s1⟩ := p1
  simp only at *
  ((conv => whnf); (repeat ((first | (refine VL.cons ?_)); (conv => whnf))))
  ((repeat ((fail); (conv => whnf))))
  refine VRead.ofW (v := .agg #[.int .i64 0, .bool false, .slice none 0 0]) (fun _ => by kernel_rfl) ?_
  ((conv => whnf); (repeat ((first | (refine VL.cons ?_)); (conv => whnf))))
  ((repeat ((fail); (conv => whnf))))
  refine VSem.allocZ (z := .agg #[.int .i64 0, .bool false, .slice none 0 0]) (by kernel_rfl) ?_
  intro X1 q hbq hq hlq hBq
  have hT1 := hS2.later hBq
  ((conv => whnf); (repeat ((first | (refine VL.cons ?_)); (conv => whnf))))
  ((repeat ((fail); (conv => whnf))))
  refine VUnit.storeAB hbq rfl rfl rfl (by simp [Value.oneCell']) ?_
  intro X2 hbq2 hg2'
  have hlr := hS2.rs.lt
  have hvq : (Value.slice Ak nk ck).ownBlock ≠ some q := fun e => by have := (hS2.row.lt e).1; omega
  replace hbq2 : Blk X2 q 56 #[.int .i64 0, .bool false, .slice none 0 0] := hbq2
  have hT2 := hT1.own hbq hg2' (by decide) (by omega) hvq
  ((conv => whnf); (repeat ((first | (refine VL.cons ?_) | (refine VL.nil ?_) | (refine VC.seqS rfl ?_) | (refine VC.region ?_)); (conv => whnf))))
  ((repeat ((fail); (conv => whnf))))
  refine VCall.of (rInt_any X2 gr _ hT2.rs) ?_
  rintro e X3 ⟨rfl, hR3, hg3⟩
  refine ⟨_, rfl, ?_⟩
  have hT3 := hT2.read hR3 hg3
  have hbq3 := hbq2.grown hg3 (fun e => by injection e; omega)
  generalize Wire.intS s1 = p2 at *
  obtain ⟨v2, s2⟩ := p2
  simp only at *
  ((conv => whnf); (repeat ((first | (refine VL.cons ?_)); (conv => whnf))))
  ((repeat ((first | (refine VL.cons ?_) | (refine VRead.fld ?_)); (conv => whnf))))
  refine VUnit.storeB hbq3 rfl rfl rfl ?_
  intro X4 hbq4 hg4
  have hT4 := hT3.own hbq3 hg4 (by decide) (by omega) hvq
  ((conv => whnf); (repeat ((first | (refine VL.cons ?_) | (refine VL.nil ?_) | (refine VC.seqS rfl ?_) | (refine VC.region ?_)); (conv => whnf))))
  ((repeat ((fail); (conv => whnf))))
  refine VCall.of (rBool_any X4 gr _ hT4.rs) ?_
  rintro e X5 ⟨rfl, hR5, hg5⟩
  refine ⟨_, rfl, ?_⟩
  have hT5 := hT4.read hR5 hg5
  have hbq5 := hbq4.grown hg5 (fun e => by injection e; omega)
  generalize Wire.boolS s2 = p3 at *
  obtain ⟨v3, s3⟩ := p3
  simp only at *
  ((conv => whnf); (repeat ((first | (refine VL.cons ?_)); (conv => whnf))))
  ((repeat ((first | (refine VL.cons ?_) | (refine VRead.fld ?_)); (conv => whnf))))
  refine VUnit.storeB hbq5 rfl rfl rfl ?_
  intro X6 hbq6 hg6
  have hT6 := hT5.own hbq5 hg6 (by decide) (by omega) hvq
  ((conv => whnf); (repeat ((first | (refine VL.cons ?_) | (refine VL.nil ?_) | (refine VC.seqS rfl ?_) | (refine VC.region ?_)); (conv => whnf))))
  ((repeat ((fail); (conv => whnf))))
  refine VCall.of (rText_any X6 gr _ 1048476 hT6.rs) ?_
  rintro e X7 ⟨rfl, hR7, hg7⟩
  refine ⟨_, rfl, ?_⟩
  have hT7 := hT6.read hR7 hg7
  have hbq7 := hbq6.grown hg7 (fun e => by injection e; omega)
  generalize Wire.textS 1048476 s3 = p4 at *
  obtain ⟨v4, s4⟩ := p4
  simp only at *
  ((conv => whnf); (repeat ((first | (refine VL.cons ?_)); (conv => whnf))))
  ((repeat ((fail); (conv => whnf))))
  refine VSem.convLW ?_
  intro D dc X8 hL8 hdc8 hB8
  rw [show (txt v4).data.toList = v4 from rfl, txt_size] at hL8
  rw [txt_size] at hdc8 ⊢
  have hT8 := hT7.later hB8
  have hbq8 := hbq7.later hB8
  ((conv => whnf); (repeat ((first | (refine VL.cons ?_)); (conv => whnf))))
  ((repeat ((first | (refine VL.cons ?_) | (refine VRead.fld ?_)); (conv => whnf))))
  refine VUnit.storeB hbq8 rfl rfl rfl ?_
  intro X9 hbq9 hg9
  have hT9 := hT8.own hbq8 hg9 (by decide) (by omega) hvq
  have hL9 := hL8.blk hbq8 hg9 (by decide)
  replace hbq9 : Blk X9 q 56 #[.int .i64 v2, .bool v3, .slice D v4.length dc] := hbq9
  clear hS1 hS2 hT1 hT2 hT3 hT4 hT5 hT6 hT7 hT8 hbq hbq2 hbq3 hbq4 hbq5 hbq6 hbq7 hbq8 hR hR2 hR3 hR5 hR7 hL8
  have z2 : w.heap.size ≤ X9.heap.size := hT9.out.size
  obtain ⟨en, hen⟩ : ∃ en : En, en = ⟨v2, v3, v4⟩ := ⟨_, rfl⟩
  have hqw : w.heap.size ≤ q := by omega
  have hbk9 := hT9.blk
  have hS0 : Below X9.heap.size X9 (X9.drewN 1) := below_drewN (Below.refl _ _) 1
  have kq : ∀ Y, Below X9.heap.size X9 Y → Blk Y q 56 #[.int .i64 v2, .bool v3, .slice D v4.length dc] := fun Y hY => hbq9.later hY
  have kk : ∀ Y, Below X9.heap.size X9 Y → Blk Y g 50 (kC k Ak nk ck) := fun Y hY => hbk9.later hY
  have hkl : k.es.length = nk := hE.at_.2.2
  ((conv => whnf); (repeat ((first | (refine VL.nil ?_)); (conv => whnf))))
  ((repeat ((first | (refine VC.draw ?_) | (refine VC.seq ?_)); (conv => whnf))))
  refine VDraw.seg (fun Y => Below X9.heap.size X9 Y) [([0], 1), ([2, 3, 4], 5)] [6, 7, 8, 9, 10, 11, 12, 13, 14, 15, 16, 17, 18, 19, 20, 21, 22, 23, 24, 25, 26, 27, 28, 29, 30] (by kernel_rfl) (by kernel_rfl) hS0 ?_
  (conv => whnf)
  ((repeat ((first | (refine VQ.cons ?_) | (refine VQ.nil ?_) | (refine VG.cons ?_)); (conv => whnf))))
  refine VCall.of (rEnd_any _ gr _ (hT9.later hS0).rs) ?_
  rintro e _ ⟨rfl, N, rfl⟩
  refine ⟨_, rfl, ?_⟩
  have hS1 := below_drewN hS0 N
  generalize (X9.drewN 1).drewN N = Y1 at *
  (conv => whnf)
  refine Keep.mk hS1 ?_
  (conv => whnf)
  by_cases c1 : Wire.endS s4 = true
  case neg =>
    have c1' : Wire.endS s4 = false := by simpa using c1
    rw [if_neg (fun h => c1 h.1), c1']
    ((repeat ((first | (refine VL.cons ?_) | (refine VL.nil ?_) | (refine VC.seqS rfl ?_) | (refine VC.region ?_) | (refine VC.cond ?_) | (refine VC.ret ?_) | (refine VQ.cons ?_) | (refine VQ.nil ?_) | (refine VG.nil ?_) | (refine VG.cons ?_) | (refine VBool.t ?_)); (conv => whnf))))
    exact (hT9.later hS1).no rfl
  rw [c1]
  (repeat ((first | (refine VRead.loadAB kq rfl rfl ?_) | (refine VQ.cons ?_) | (refine VQ.nil ?_) | (refine VG.cons ?_) | (refine VBool.f ?_)); (conv => whnf)))
  refine VCall.of (mayEntry_any ⟨v2, v3, v4⟩ D v4.length dc Y1 rfl) ?_
  rintro e Y2 ⟨rfl, hBY⟩
  refine ⟨_, rfl, ?_⟩
  have hS2 := hS1.trans (hBY.mono hS1.size)
  (conv => whnf)
  refine Keep.mk hS2 ?_
  (conv => whnf)
  by_cases c2 : mayE ⟨v2, v3, v4⟩
  case neg =>
    rw [if_neg (fun h => c2 h.2.1), decide_eq_false c2]
    ((repeat ((first | (refine VL.cons ?_) | (refine VL.nil ?_) | (refine VC.seqS rfl ?_) | (refine VC.region ?_) | (refine VC.cond ?_) | (refine VC.ret ?_) | (refine VQ.cons ?_) | (refine VQ.nil ?_) | (refine VG.nil ?_) | (refine VBool.t ?_) | (refine VBool.f ?_)); (conv => whnf))))
    exact (hT9.later hS2).no rfl
  rw [decide_eq_true c2]
  have hkr1 := hkb.1
  have hkr2 := hkb.2
  by_cases c3 : k.base < v1
  case neg =>
    rw [if_neg (fun h => c3 h.2.2.1)]
    have c3' : v1 ≤ k.base := by omega
    (repeat ((first | (refine VRead.loadBS kk rfl rfl ?_) | (refine VL.cons ?_) | (refine VL.nil ?_) | (refine VC.seqS rfl ?_) | (refine VC.region ?_) | (refine VC.cond ?_) | (refine VC.ret ?_) | (refine VQ.cons ?_) | (refine VQ.nil ?_) | (refine VG.nil ?_) | (refine VBool.t ?_) | (refine VBool.f ?_) | (refine VBool.dT (by omega) ?_) | (refine VRead.fld ?_)); (conv => whnf)))
    exact (hT9.later hS2).no rfl
  by_cases c4 : v1 ≤ k.base + k.es.length + 1
  case neg =>
    rw [if_neg (fun h => c4 h.2.2.2)]
    have c4' : k.base + (nk : Int) + 1 < v1 := by omega
    (repeat ((first | (refine VRead.loadBS kk rfl rfl ?_) | (refine VL.cons ?_) | (refine VL.nil ?_) | (refine VC.seqS rfl ?_) | (refine VC.region ?_) | (refine VC.cond ?_) | (refine VC.ret ?_) | (refine VQ.cons ?_) | (refine VQ.nil ?_) | (refine VG.nil ?_) | (refine VBool.f ?_) | (refine VBool.dT (by omega) ?_) | (refine VBool.dF (by omega) ?_) | (refine VRead.lenS ?_) | (refine VRead.fld ?_) | (refine VWrap.i64 (by omega) (by omega) ?_)); (conv => whnf)))
    exact (hT9.later hS2).no rfl
  rw [if_pos ⟨rfl, c2, c3, c4⟩]
  have c4' : ¬ k.base + (nk : Int) + 1 < v1 := by omega
  have c3' : ¬ v1 ≤ k.base := by omega
  (repeat ((first | (refine VRead.loadBS kk rfl rfl ?_) | (refine VC.draw ?_) | (refine VC.cond ?_) | (refine VC.skip ?_) | (refine VQ.cons ?_) | (refine VQ.nil ?_) | (refine VG.nil ?_) | (refine VBool.f ?_) | (refine VBool.dF (by omega) ?_) | (refine VRead.lenS ?_) | (refine VRead.fld ?_) | (refine VWrap.i64 (by omega) (by omega) ?_) | (refine VC.seq ?_)); (conv => whnf)))
  clear hS0 hS1 hBY hbq9 hbk9
  have hT := hT9.later hS2
  have hL2 := hL9.below hS2 (Nat.le_refl _)
  have hz2 := hS2.size
  have kq2 := kq Y2 hS2
  have kk2 := kk Y2 hS2
  clear kq kk hS2
  obtain ⟨m, hm⟩ : ∃ m : Nat, m = (v1 - k.base - 1).toNat := ⟨_, rfl⟩
  have hmk : m ≤ nk := by omega
  have hck := hT.row.at_.2.1
  rw [← hm]
  refine VDraw.lasts (fun Y => Blk Y g 50 (kC k Ak nk ck) ∧ Blk Y q 56 #[.int .i64 v2, .bool v3, .slice D v4.length dc]) [([0, 1, 2, 3, 4, 5, 6, 7, 8, 9, 10, 11, 12, 13], 14), ([], 15)] [16, 17] 18 (by kernel_rfl) (by kernel_rfl) ⟨kk2, kq2⟩ ?_
  (conv => whnf)
  (repeat ((first | (refine VRead.loadBS (fun Y hY => hY.1) rfl rfl ?_) | (refine VRead.loadAB (fun Y hY => hY.2) rfl rfl ?_) | (refine VRead.cutKH m (by omega) (by omega) ?_) | (refine VQ.cons ?_) | (refine VQ.nil ?_) | (refine VE.cons ?_) | (refine VRead.fld ?_) | (refine VWrap.i64 (by omega) (by omega) ?_)); (conv => whnf)))
  have hT3 := hT.later (below_drewN (Below.refl _ Y2) 1)
  have hL3 := hL2.below (below_drewN (Below.refl Y2.heap.size Y2) 1) (Nat.le_refl _)
  have kk3 : Blk (Y2.drewN 1) g 50 (kC k Ak nk ck) := kk2.later (below_drewN (Below.refl _ Y2) 1)
  have kq3 : Blk (Y2.drewN 1) q 56 #[.int .i64 v2, .bool v3, .slice D v4.length dc] := kq2.later (below_drewN (Below.refl _ Y2) 1)
  have hz3 : X9.heap.size ≤ (Y2.drewN 1).heap.size := hz2
  generalize Y2.drewN 1 = Y3 at *
  refine VSem.of (v := .slice (some ⟨Y3.heap.size, 0, none⟩) 1 1) (w' := Y3.alloc (.cells #[.int .i64 v2, .bool v3, .slice D v4.length dc] 56)) (by kernel_rfl) ?_
  have hnew := Blk.new Y3 56 #[.int .i64 v2, .bool v3, .slice D v4.length dc]
  have hB4 : Below Y3.heap.size Y3 (Y3.alloc (.cells #[.int .i64 v2, .bool v3, .slice D v4.length dc] 56)) := (Below.refl _ Y3).alloc (Nat.le_refl _) _
  have hT4 := hT3.later hB4
  have hL4 := hL3.below hB4 (Nat.le_refl _)
  have kk4 := kk3.later hB4
  have kq4 := kq3.later hB4
  generalize Y3.alloc (.cells #[.int .i64 v2, .bool v3, .slice D v4.length dc] 56) = Y4 at *
  (conv => whnf)
  refine Keep.mk ⟨kk4, kq4⟩ ?_
  (conv => whnf)
  ((repeat ((first | (refine VQ.nil ?_) | (refine VE.cons ?_)); (conv => whnf))))
  have hz4 := hB4.size
  have hzw := hT4.out.size
  have hen : EnAt Y4 V (some ⟨Y3.heap.size, 0, none⟩) 1 [⟨v2, v3, v4⟩] := EnAt.one hnew (hV _ (by omega)) hdc8 (hL4.more (fun j _ hj => hV _ (by have : X7.heap.size ≤ j := hj; have := hg2'.size; have := hg3.size; have := hg4.size; have := hg5.size; have := hg6.size; have := hg7.size; have := hBq.size; omega)))
  refine ERow.app (hT4.row.take hmk) hen (by omega) (by omega) (fun j hj => hV j (by omega)) ?_
  intro A2 c2 Y5 hE5 hg5'
  have hob : (Value.slice Ak m ck).ownBlock = (Value.slice Ak nk ck).ownBlock := by cases Ak <;> rfl
  have hng := hT4.row.notBlk kk4 (by decide)
  rw [hob] at hg5'
  have hvq4 : some q ≠ (Value.slice Ak nk ck).ownBlock := fun e => hvq e.symm
  have kk5 : Blk Y5 g 50 (kC k Ak nk ck) := kk4.grown hg5' (fun e => hng e.symm)
  have kq5 : Blk Y5 q 56 #[.int .i64 v2, .bool v3, .slice D v4.length dc] := kq4.grown hg5' hvq4
  have ho5 : Out (fun j => j = g ∨ (Value.slice Ak nk ck).ownBlock = some j) w Y5 := (hT4.out.mono (fun j hj => .inl hj)).trans (Out.row hg5' (fun j hj => .inr hj))
  (conv => whnf)
  refine Keep.mk ⟨kk5, kq5⟩ ?_
  (conv => whnf)
  ((repeat ((first | (refine VQ.cons ?_) | (refine VQ.nil ?_) | (refine VE.nil ?_) | (refine VRead.fld ?_)); (conv => whnf))))
  refine VUnit.storeB kk5 rfl rfl rfl ?_
  intro Y6 hb6 hg6'
  have hb6' : Blk Y6 g 50 (kC { k with es := k.es.take m ++ [⟨v2, v3, v4⟩] } A2 (m + 1) c2) := hb6
  have hE6 := hE5.keepG kk5 hg6' (by decide) (hE5.notBlk kk5 (by decide))
  (conv => whnf)
  refine Keep.mk trivial ?_
  (conv => whnf)
  ((repeat ((first | (refine VL.cons ?_) | (refine VL.nil ?_) | (refine VC.seqS rfl ?_) | (refine VC.region ?_) | (refine VC.ret ?_)); (conv => whnf))))
  exact ⟨ho5.newG hg6' (.inr (.inl rfl)), rfl, A2, m + 1, c2, hb6', hE6⟩
end Go.Proofs.YtebeidnmplnlpaaGreat
end

section
namespace Go.Proofs.YtebeidnmplnlpaaGreat
set_option linter.unusedVariables false
open Go.RowKit

/-- a plan: quiet operations, then one that is left, or one of two -/
inductive Plan where
  | done (l : List Nat)
  | one (l : List Nat) (c : Nat) (p : Plan)
  | two (l : List Nat) (c : Nat) (p : Plan) (d : Nat) (q : Plan)
def Plan.size : Plan → Nat
  | .done l => l.length
  | .one l _ p => l.length + 1 + p.size
  | .two l _ p _ _ => l.length + 1 + p.size
def planC (md : Region.Mode) (ops : Array Oper) : Plan → Array Bool → Bool
  | .done l, L => match takeC md ops l L with | some L' => (Region.ready md ops L').isEmpty | none => false
  | .one l c p, L => match takeC md ops l L with | some L' => Region.ready md ops L' == [c] && (ops[c]?).isSome && planC md ops p (L'.setIfInBounds c true) | none => false
  | .two l c p d q, L => match takeC md ops l L with
    | some L' => Region.ready md ops L' == [c, d] && (ops[c]?).isSome && (ops[d]?).isSome && Nat.beq p.size q.size && planC md ops p (L'.setIfInBounds c true) && planC md ops q (L'.setIfInBounds d true)
    | none => false
def vplan (P : Program) (S : World → Prop) (ops : List Oper) (K : Env → World → Prop) : Plan → Env → World → Prop
  | .done l, σ, w => vquiet P S ops (fun σ' => K σ' w) (picks ops l) σ
  | .one l c p, σ, w => vquiet P S ops (fun σ' => vone P S ops (fun σ2 w2 => vplan P S ops K p σ2 w2) (nthOp ops c) σ' w) (picks ops l) σ
  | .two l c p d q, σ, w => vquiet P S ops (fun σ' => vone P S ops (fun σ2 w2 => vplan P S ops K p σ2 w2) (nthOp ops c) σ' w ∧ vone P S ops (fun σ2 w2 => vplan P S ops K q σ2 w2) (nthOp ops d) σ' w) (picks ops l) σ
theorem plan_sound {P : Program} {n : Nat} {ds : List Deferred} {ops : List Oper} {md : Region.Mode} {Q : Exit → Act → World → Prop} {S : World → Prop} {K : Env → World → Prop} {D : List Nat} {σ0 : Env} (hdst : ∀ o ∈ ops, ∀ t, o.dst = some t → t < n ∧ t ∈ D) (hs : Region.noSelect ops.toArray = true)
    (hQ : ∀ c a a' w, Q (.panic c) a w → Q (.panic c) a' w) (hK : ∀ a σ w, Agr n ds a σ → Fr D σ σ0 → K σ w → Q .normal a w) :
    ∀ (pl : Plan) (L : Array Bool) (a : Act) (σ : Env) (w : World), S w → planC md ops.toArray pl L = true → Agr n ds a σ → Fr D σ σ0 → vplan P S ops K pl σ w → wpAnyH P md ops.toArray Q S pl.size L a w := by
  have one : ∀ (i : Nat) (p : Plan) (L : Array Bool) (a : Act) (σ : Env) (w : World), S w → Agr n ds a σ → Fr D σ σ0 →
      (∀ (a : Act) (σ : Env) (w : World), S w → Agr n ds a σ → Fr D σ σ0 → vplan P S ops K p σ w → wpAnyH P md ops.toArray Q S p.size (L.setIfInBounds i true) a w) →
      vone P S ops (fun σ2 w2 => vplan P S ops K p σ2 w2) (nthOp ops i) σ w → wpOp P ops.toArray Q i (fun a' w' => S w' ∧ wpAnyH P md ops.toArray Q S p.size (L.setIfInBounds i true) a' w') a w := by
    intro i p L a σ w hS hA hF ih ha
    rw [nthOp_eq] at ha
    cases ho : ops[i]? with
    | none => rw [ho] at ha; exact ha.elim
    | some o =>
      rw [ho] at ha
      simp only [vone] at ha
      have hm : o ∈ ops := List.mem_of_getElem? ho
      unfold wpOp
      rw [show ops.toArray[i]? = some o from by simpa using ho]
      simp only
      rcases vguard_sound hA ha with ⟨k1, k2⟩ | ⟨k1, k2⟩
      · rw [if_pos k1]
        exact .inl (vop_sound hA k2 fun v w' hk => ⟨hk.keep, ih _ _ w' hk.keep (hA.put (fun t ht => (hdst o hm t ht).1) v) (hF.put (fun t ht => (hdst o hm t ht).2) v) hk.rest⟩)
      · rw [if_neg (by rw [k1]; simp)]
        exact ⟨hS, ih _ _ w hS (hA.put (fun t ht => (hdst o hm t ht).1) undef) (hF.put (fun t ht => (hdst o hm t ht).2) undef) k2⟩
  intro pl
  induction pl with
  | done l =>
    intro L a σ w hS hB hA hF h
    unfold planC at hB
    cases hT : takeC md ops.toArray l L with
    | none => rw [hT] at hB; cases hB
    | some L' =>
      rw [hT] at hB
      simp only [List.isEmpty_iff] at hB
      have := quiet_take (md := md) (fuel := 0) (Q := Q) hdst hs hQ hS (K := fun σ' => K σ' w) (fun a σ hA hF hk => wpAnyH_done hB (hK a σ w hA hF hk) 0) l L a σ hT hA hF h
      simpa [Plan.size] using this
  | one l c p ih =>
    intro L a σ w hS hB hA hF h
    unfold planC at hB
    cases hT : takeC md ops.toArray l L with
    | none => rw [hT] at hB; cases hB
    | some L' =>
      rw [hT] at hB
      simp only [Bool.and_eq_true, beq_iff_eq] at hB
      obtain ⟨⟨h1, h2⟩, h3⟩ := hB
      unfold vplan at h
      have := quiet_take (md := md) (fuel := p.size + 1) (Q := Q) hdst hs hQ hS (fun a σ' hA hF ha => ?_) l L a σ hT hA hF h
      · rw [show (Plan.one l c p).size = p.size + 1 + l.length from by simp [Plan.size]; omega]
        exact this
      · refine wpAnyH_all h1 (by simp) (fun i hi => ?_)
        simp only [List.mem_singleton] at hi
        subst hi
        exact one i p L' a σ' w hS hA hF (fun a σ w hS hA hF hv => ih _ a σ w hS h3 hA hF hv) ha
  | two l c p d q ihp ihq =>
    intro L a σ w hS hB hA hF h
    unfold planC at hB
    cases hT : takeC md ops.toArray l L with
    | none => rw [hT] at hB; cases hB
    | some L' =>
      rw [hT] at hB
      simp only [Bool.and_eq_true, beq_iff_eq] at hB
      obtain ⟨⟨⟨⟨⟨h1, h2⟩, h3⟩, h4⟩, h5⟩, h6⟩ := hB
      have hpq := Nat.eq_of_beq_eq_true h4
      unfold vplan at h
      have := quiet_take (md := md) (fuel := p.size + 1) (Q := Q) hdst hs hQ hS (fun a σ' hA hF ha => ?_) l L a σ hT hA hF h
      · rw [show (Plan.two l c p d q).size = p.size + 1 + l.length from by simp [Plan.size]; omega]
        exact this
      · refine wpAnyH_all h1 (by simp) (fun i hi => ?_)
        simp only [List.mem_cons, List.not_mem_nil, or_false] at hi
        rcases hi with rfl | rfl
        · exact one i p L' a σ' w hS hA hF (fun a σ w hS hA hF hv => ihp _ a σ w hS h5 hA hF hv) ha.1
        · have := one i q L' a σ' w hS hA hF (fun a σ w hS hA hF hv => ihq _ a σ w hS h6 hA hF hv) ha.2
          rw [← hpq] at this
          exact this
def planB (n : Nat) (ops : List Oper) (pl : Plan) : Bool :=
  Region.noSelect ops.toArray && planC .any ops.toArray pl (Array.replicate ops.length false) && Nat.beq pl.size ops.length && ops.all fun o => match o.dst with | some d => Nat.blt d n | none => true
structure VP (P : Program) (S : World → Prop) (ops : List Oper) (K : Env → World → Prop) (pl : Plan) (σ : Env) (w : World) : Prop where
  out : vplan P S ops K pl σ w
theorem VP_fun (P : Program) (S : World → Prop) (ops : List Oper) (K : Env → World → Prop) (pl : Plan) : VP P S ops K pl = vplan P S ops K pl := by funext σ w; exact propext ⟨fun h => h.out, fun h => ⟨h⟩⟩
section
variable {P : Program} {S : World → Prop} {ops : List Oper} {K : Env → World → Prop} {l : List Nat} {c d : Nat} {p q : Plan} {σ : Env} {w : World}
theorem VP.done (h : VQ P S ops (fun σ' => K σ' w) (picks ops l) σ) : VP P S ops K (.done l) σ w := ⟨h.out⟩
theorem VP.one (h : VQ P S ops (fun σ' => vone P S ops (fun σ2 w2 => VP P S ops K p σ2 w2) (nthOp ops c) σ' w) (picks ops l) σ) : VP P S ops K (.one l c p) σ w := by
  refine ⟨?_⟩
  have h := h.out
  simp only [VP_fun] at h
  exact h
theorem VP.two (h : VQ P S ops (fun σ' => And (vone P S ops (fun σ2 w2 => VP P S ops K p σ2 w2) (nthOp ops c) σ' w) (vone P S ops (fun σ2 w2 => VP P S ops K q σ2 w2) (nthOp ops d) σ' w)) (picks ops l) σ) : VP P S ops K (.two l c p d q) σ w := by
  refine ⟨?_⟩
  have h := h.out
  simp only [VP_fun] at h
  exact h
end
theorem VDraw.plan {P : Program} {n : Nat} {ops : List Oper} {Q : Post} {σ : Env} {w : World} (S : World → Prop) (pl : Plan) (hm : P.follows .mixedOrders = true) (hB : planB n ops pl = true)
    (hS : S (w.drewN 1)) (h : VP P S ops (Q .normal) pl σ (w.drewN 1)) : VDraw P n ops Q σ w := by
  replace h := h.out
  unfold planB at hB
  simp only [Bool.and_eq_true] at hB
  obtain ⟨⟨⟨h1, h2⟩, h3⟩, h4⟩ := hB
  simp only [VDraw_eq]
  intro ds a id hA
  refine wp_region_held (S := S) hm ?_
  have hlen := Nat.eq_of_beq_eq_true h3
  have hdst : ∀ o ∈ ops, ∀ t, o.dst = some t → t < n ∧ t ∈ dsts ops := fun o ho t ht => ⟨by
    have := List.all_eq_true.1 h4 o ho
    rw [ht] at this
    exact Nat.blt_eq ▸ this, mem_dsts ho ht⟩
  have := plan_sound (ds := ds) (Q := Lift n ds Q (dsts ops) σ) (K := Q .normal) hdst h1 (fun c a a' w h => h) (fun a σ' w hA hF hk => ⟨σ', hA, hF, hk⟩) pl _ a σ _ hS h2 hA (Fr.refl _ _) h
  rw [hlen] at this
  have e : ops.toArray.size = ops.length := by simp
  rw [e]
  exact this
end Go.Proofs.YtebeidnmplnlpaaGreat
end

section
namespace Go.Proofs.YtebeidnmplnlpaaGreat
set_option linter.unusedVariables false
open Go.RowKit

def Plan.sizeL : Plan → Nat
  | .done l => 1 + l.length
  | .one l _ p => p.sizeL + 1 + l.length
  | .two l _ p _ _ => p.sizeL + 1 + l.length
def planL (md : Region.Mode) (ops : Array Oper) (c : Nat) : Plan → Array Bool → Bool
  | .done l, L => (l.all fun i => Nat.blt i c) && segC md ops [(l, c)] [] L
  | .one l d p, L => (l.all fun i => Nat.blt i c) && Nat.blt d c && match takeC md ops l L with | some L' => Region.ready md ops L' == [d] && (ops[d]?).isSome && planL md ops c p (L'.setIfInBounds d true) | none => false
  | .two l d p e q, L => (l.all fun i => Nat.blt i c) && Nat.blt d c && Nat.blt e c && match takeC md ops l L with
    | some L' => Region.ready md ops L' == [d, e] && (ops[d]?).isSome && (ops[e]?).isSome && Nat.beq p.sizeL q.sizeL && planL md ops c p (L'.setIfInBounds d true) && planL md ops c q (L'.setIfInBounds e true)
    | none => false
def vplanL (P : Program) (S : World → Prop) (ops : List Oper) (K : Env → World → Prop) (c : Nat) : Plan → Env → World → Prop
  | .done l, σ, w => vquiet P S ops (fun σ' => vone P (fun _ => True) ops K (nthOp ops c) σ' w) (picks ops l) σ
  | .one l d p, σ, w => vquiet P S ops (fun σ' => vone P S ops (fun σ2 w2 => vplanL P S ops K c p σ2 w2) (nthOp ops d) σ' w) (picks ops l) σ
  | .two l d p e q, σ, w => vquiet P S ops (fun σ' => vone P S ops (fun σ2 w2 => vplanL P S ops K c p σ2 w2) (nthOp ops d) σ' w ∧ vone P S ops (fun σ2 w2 => vplanL P S ops K c q σ2 w2) (nthOp ops e) σ' w) (picks ops l) σ
theorem down_take {md : Region.Mode} {ops : Array Oper} : ∀ (l : List Nat) (L L' : Array Bool), Down md ops L → takeC md ops l L = some L' → Down md ops L' := by
  intro l
  induction l with
  | nil => intro L L' h1 h2; simp only [takeC, Option.some.injEq] at h2; subst h2; exact h1
  | cons i r ih =>
    intro L L' h1 h2
    unfold takeC at h2
    split at h2
    · rename_i hc
      simp only [Bool.and_eq_true] at hc
      exact ih _ _ (h1.set (by simpa using hc.1.2)) h2
    · cases h2
theorem planL_sound {P : Program} {n : Nat} {ds : List Deferred} {ops : List Oper} {md : Region.Mode} {Q : Exit → Act → World → Prop} {S : World → Prop} {K : Env → World → Prop} {D : List Nat} {σ0 : Env} {c : Nat} (hf : feeds md ops.toArray c = true) (hdst : ∀ o ∈ ops, ∀ t, o.dst = some t → t < n ∧ t ∈ D) (hs : Region.noSelect ops.toArray = true)
    (hQ : ∀ x a a' w, Q (.panic x) a w → Q (.panic x) a' w) (hK : ∀ a σ w, Agr n ds a σ → Fr D σ σ0 → K σ w → Q .normal a w) :
    ∀ (pl : Plan) (L : Array Bool) (a : Act) (σ : Env) (w : World), Down md ops.toArray L → S w → planL md ops.toArray c pl L = true → Agr n ds a σ → Fr D σ σ0 → vplanL P S ops K c pl σ w → wpAnyC P md ops.toArray Q S c pl.sizeL L a w := by
  have one : ∀ (i : Nat) (p : Plan) (L : Array Bool) (a : Act) (σ : Env) (w : World), i ∈ Region.ready md ops.toArray L → Down md ops.toArray L → S w → Agr n ds a σ → Fr D σ σ0 →
      (∀ (a : Act) (σ : Env) (w : World), S w → Agr n ds a σ → Fr D σ σ0 → vplanL P S ops K c p σ w → wpAnyC P md ops.toArray Q S c p.sizeL (L.setIfInBounds i true) a w) →
      vone P S ops (fun σ2 w2 => vplanL P S ops K c p σ2 w2) (nthOp ops i) σ w → wpOp P ops.toArray Q i (fun a' w' => (i ≠ c → S w') ∧ wpAnyC P md ops.toArray Q S c p.sizeL (L.setIfInBounds i true) a' w') a w := by
    intro i p L a σ w hi hD hS hA hF ih ha
    rw [nthOp_eq] at ha
    cases ho : ops[i]? with
    | none => rw [ho] at ha; exact ha.elim
    | some o =>
      rw [ho] at ha
      simp only [vone] at ha
      have hm : o ∈ ops := List.mem_of_getElem? ho
      unfold wpOp
      rw [show ops.toArray[i]? = some o from by simpa using ho]
      simp only
      rcases vguard_sound hA ha with ⟨k1, k2⟩ | ⟨k1, k2⟩
      · rw [if_pos k1]
        exact .inl (vop_sound hA k2 fun v w' hk => ⟨fun _ => hk.keep, ih _ _ w' hk.keep (hA.put (fun t ht => (hdst o hm t ht).1) v) (hF.put (fun t ht => (hdst o hm t ht).2) v) hk.rest⟩)
      · rw [if_neg (by rw [k1]; simp)]
        exact ⟨fun _ => hS, ih _ _ w hS (hA.put (fun t ht => (hdst o hm t ht).1) undef) (hF.put (fun t ht => (hdst o hm t ht).2) undef) k2⟩
  intro pl
  induction pl with
  | done l =>
    intro L a σ w hD hS hB hA hF h
    unfold planL at hB
    simp only [Bool.and_eq_true] at hB
    have h1 : vsegL P S ops K [] l c σ w := h
    have := segL_sound (md := md) (Q := Q) (σ0 := σ0) hf hdst hs hQ hK hB.1 [] L a σ w rfl hD hS hB.2 hA hF h1
    rw [show (Plan.done l).sizeL = segLn ([] ++ [(l, c)]) [] from by simp [segLn, Plan.sizeL]; try omega]
    exact this
  | one l d p ih =>
    intro L a σ w hD hS hB hA hF h
    unfold planL at hB
    simp only [Bool.and_eq_true] at hB
    obtain ⟨⟨h0, h00⟩, hB⟩ := hB
    cases hT : takeC md ops.toArray l L with
    | none => rw [hT] at hB; cases hB
    | some L' =>
      rw [hT] at hB
      simp only [Bool.and_eq_true, beq_iff_eq] at hB
      obtain ⟨⟨h1, h2⟩, h3⟩ := hB
      unfold vplanL at h
      have hDL := down_take l L L' hD hT
      have := quiet_takeC (md := md) (Q := Q) (S := S) (w := w) (fuel := p.sizeL + 1) (σ0 := σ0) hf hdst hs hQ hS (fun a σ' hA hF ha => ?_) l L a σ hD h0 hT hA hF h
      · exact this
      · refine ⟨fun h0 => absurd (h1 ▸ h0) (by simp), fun i hi => ?_⟩
        have hi0 := hi
        rw [h1] at hi
        simp only [List.mem_singleton] at hi
        subst hi
        exact one i p L' a σ' w hi0 hDL hS hA hF (fun a σ w hS hA hF hv => ih _ a σ w (hDL.set hi0) hS h3 hA hF hv) ha
  | two l d p e q ihp ihq =>
    intro L a σ w hD hS hB hA hF h
    unfold planL at hB
    simp only [Bool.and_eq_true] at hB
    obtain ⟨⟨⟨h0, h00⟩, h01⟩, hB⟩ := hB
    cases hT : takeC md ops.toArray l L with
    | none => rw [hT] at hB; cases hB
    | some L' =>
      rw [hT] at hB
      simp only [Bool.and_eq_true, beq_iff_eq] at hB
      obtain ⟨⟨⟨⟨⟨h1, h2⟩, h3⟩, h4⟩, h5⟩, h6⟩ := hB
      have hpq := Nat.eq_of_beq_eq_true h4
      unfold vplanL at h
      have hDL := down_take l L L' hD hT
      have := quiet_takeC (md := md) (Q := Q) (S := S) (w := w) (fuel := p.sizeL + 1) (σ0 := σ0) hf hdst hs hQ hS (fun a σ' hA hF ha => ?_) l L a σ hD h0 hT hA hF h
      · exact this
      · refine ⟨fun h0 => absurd (h1 ▸ h0) (by simp), fun i hi => ?_⟩
        have hi0 := hi
        rw [h1] at hi
        simp only [List.mem_cons, List.not_mem_nil, or_false] at hi
        rcases hi with rfl | rfl
        · exact one i p L' a σ' w hi0 hDL hS hA hF (fun a σ w hS hA hF hv => ihp _ a σ w (hDL.set hi0) hS h5 hA hF hv) ha.1
        · have := one i q L' a σ' w hi0 hDL hS hA hF (fun a σ w hS hA hF hv => ihq _ a σ w (hDL.set hi0) hS h6 hA hF hv) ha.2
          rw [← hpq] at this
          exact this
def planLB (n : Nat) (ops : List Oper) (pl : Plan) (c : Nat) : Bool :=
  Region.noSelect ops.toArray && feeds .any ops.toArray c && planL .any ops.toArray c pl (Array.replicate ops.length false) && Nat.beq pl.sizeL ops.length && ops.all fun o => match o.dst with | some d => Nat.blt d n | none => true
structure VF (P : Program) (S : World → Prop) (ops : List Oper) (K : Env → World → Prop) (c : Nat) (pl : Plan) (σ : Env) (w : World) : Prop where
  out : vplanL P S ops K c pl σ w
theorem VF_fun (P : Program) (S : World → Prop) (ops : List Oper) (K : Env → World → Prop) (c : Nat) (pl : Plan) : VF P S ops K c pl = vplanL P S ops K c pl := by funext σ w; exact propext ⟨fun h => h.out, fun h => ⟨h⟩⟩
section
variable {P : Program} {S : World → Prop} {ops : List Oper} {K : Env → World → Prop} {l : List Nat} {c d e : Nat} {p q : Plan} {σ : Env} {w : World}
theorem VF.done (h : VQ P S ops (fun σ' => vone P (fun _ => True) ops K (nthOp ops c) σ' w) (picks ops l) σ) : VF P S ops K c (.done l) σ w := ⟨h.out⟩
theorem VF.one (h : VQ P S ops (fun σ' => vone P S ops (fun σ2 w2 => VF P S ops K c p σ2 w2) (nthOp ops d) σ' w) (picks ops l) σ) : VF P S ops K c (.one l d p) σ w := by
  refine ⟨?_⟩
  have h := h.out
  simp only [VF_fun] at h
  exact h
theorem VF.two (h : VQ P S ops (fun σ' => And (vone P S ops (fun σ2 w2 => VF P S ops K c p σ2 w2) (nthOp ops d) σ' w) (vone P S ops (fun σ2 w2 => VF P S ops K c q σ2 w2) (nthOp ops e) σ' w)) (picks ops l) σ) : VF P S ops K c (.two l d p e q) σ w := by
  refine ⟨?_⟩
  have h := h.out
  simp only [VF_fun] at h
  exact h
end
theorem VDraw.planL {P : Program} {n : Nat} {ops : List Oper} {Q : Post} {σ : Env} {w : World} (S : World → Prop) (pl : Plan) (c : Nat) (hm : P.follows .mixedOrders = true) (hB : planLB n ops pl c = true)
    (hS : S (w.drewN 1)) (h : VF P S ops (fun σ2 w2 => Q .normal σ2 w2) c pl σ (w.drewN 1)) : VDraw P n ops Q σ w := by
  replace h := h.out
  unfold planLB at hB
  simp only [Bool.and_eq_true] at hB
  obtain ⟨⟨⟨⟨h1, h2⟩, h3⟩, h4⟩, h5⟩ := hB
  have hlen := Nat.eq_of_beq_eq_true h4
  have hdst : ∀ o ∈ ops, ∀ t, o.dst = some t → t < n ∧ t ∈ dsts ops := fun o ho t ht => ⟨by
    have := List.all_eq_true.1 h5 o ho
    rw [ht] at this
    exact Nat.blt_eq ▸ this, mem_dsts ho ht⟩
  simp only [VDraw_eq]
  intro ds a id hA
  refine wp_region_any hm (wpAny_ofC (S := S) (c := c) _ _ _ _ ?_)
  have := planL_sound (md := .any) (ds := ds) (Q := Lift n ds Q (dsts ops) σ) (S := S) (K := fun σ2 w2 => Q .normal σ2 w2) (σ0 := σ) h2 hdst h1 (fun c a a' w h => h) (fun a σ' w hA hF hk => ⟨σ', hA, hF, hk⟩) pl _ a σ _ (Down.start _) hS h3 hA (Fr.refl _ _) h
  rw [hlen] at this
  rw [show ops.toArray.size = ops.length from by simp]
  exact this
end Go.Proofs.YtebeidnmplnlpaaGreat
end

section
set_option maxRecDepth 10000
namespace Go.Proofs.YtebeidnmplnlpaaGreat
set_option linter.unusedVariables false
open Go.RowKit

theorem r18In_any (v a b : Int) (w : World) : Calls Tryz.prog 97 #[.int .i64 v, .int .i64 a, .int .i64 b] w fun e w' => e = .returned (.bool (decide (a ≤ v ∧ v ≤ b))) ∧ w' = w := by
  refine calls_vc Tryz.func97 rfl (by kernel_rfl) ?_
  by_cases h1 : a ≤ v
  · by_cases h2 : v ≤ b
    · rw [decide_eq_true ⟨h1, h2⟩]
      ((conv => whnf); (repeat ((first | (refine VL.cons ?_) | (refine VL.nil ?_) | (refine VC.seqS rfl ?_) | (refine VC.region ?_)); (conv => whnf))))
      ((repeat ((first | (refine VL.cons ?_) | (refine VL.nil ?_) | (refine VC.ret ?_) | (refine VBool.t ?_) | (refine VBool.dT (by omega) ?_)); (conv => whnf))))
      exact ⟨congrArg _ (congrArg _ (decide_eq_true (by omega))), rfl⟩
    · rw [decide_eq_false (fun h => h2 h.2)]
      ((conv => whnf); (repeat ((first | (refine VL.cons ?_) | (refine VL.nil ?_) | (refine VC.seqS rfl ?_) | (refine VC.region ?_)); (conv => whnf))))
      ((repeat ((first | (refine VL.cons ?_) | (refine VL.nil ?_) | (refine VC.ret ?_) | (refine VBool.t ?_) | (refine VBool.dT (by omega) ?_)); (conv => whnf))))
      exact ⟨congrArg _ (congrArg _ (decide_eq_false (by omega))), rfl⟩
  · rw [decide_eq_false (fun h => h1 h.1)]
    ((conv => whnf); (repeat ((first | (refine VL.cons ?_) | (refine VL.nil ?_) | (refine VC.seqS rfl ?_) | (refine VC.region ?_)); (conv => whnf))))
    ((repeat ((first | (refine VL.cons ?_) | (refine VL.nil ?_) | (refine VC.ret ?_) | (refine VBool.f ?_) | (refine VBool.dF (by omega) ?_)); (conv => whnf))))
    exact ⟨rfl, rfl⟩
theorem r18Last_any (W : World) (g : Nat) (k : Kp) (A : Option Addr) (n c : Nat) (hk : Blk W g 72 (kC k A n c)) (hb : inR k.base 1099511627776) (hn : n ≤ 1000000000) :
    Calls Tryz.prog 35 #[.pointer (some ⟨g, 0, none⟩)] W fun e W' => e = .returned (.int .i64 (k.base + n)) ∧ ∃ N, W' = W.drewN N := by
  obtain ⟨b1, b2⟩ := hb
  refine calls_vc Tryz.func35 rfl (by kernel_rfl) ?_
  have hk' := hk.later (below_drewN (Below.refl W.heap.size W) 1)
  ((conv => whnf); (repeat ((first | (refine VL.cons ?_) | (refine VL.nil ?_) | (refine VC.seqS rfl ?_) | (refine VC.region ?_)); (conv => whnf))))
  ((repeat ((first | (refine VC.draw ?_) | (refine VC.seq ?_)); (conv => whnf))))
  (refine VDraw.seg (Eq (World.drewN _ 1)) [] [0, 1, 2, 3, 4, 5, 6, 7, 8, 9, 10] (by kernel_rfl) (by kernel_rfl) rfl ?_; (conv => whnf))
  (repeat ((first | (refine VRead.loadB hk' rfl rfl ?_) | (refine VC.ret ?_) | (refine VQ.cons ?_) | (refine VQ.nil ?_) | (refine VG.nil ?_) | (refine VRead.lenS ?_) | (refine VRead.fld ?_) | (refine VWrap.i64 (by omega) (by omega) ?_)); (conv => whnf)))
  exact ⟨rfl, 1, rfl⟩
def pt (k : Kp) (i : Int) (e : En) : Option Kp := if mayE e ∧ k.base < i ∧ i ≤ k.base + k.es.length + 1 then some { k with es := k.es.take (i - k.base - 1).toNat ++ [e] } else none
/-- what a record's reading leaves -/
def RkR (V : Foot) (B g : Nat) (w : World) (o : Option Kp) (e : Ending) (W : World) : Prop :=
  Out (fun j => j = g) w W ∧ match o with
  | some k => e = .returned (.bool true) ∧ ∃ A n c, Blk W g 72 (kC k A n c) ∧ ERow W V B (.slice A n c) k.es
  | none => e = .returned (.bool false) ∧ ∃ cs : Array Value, cs.size = 5 ∧ Blk W g 72 cs
set_option maxHeartbeats 4000000 in
theorem r18Put_any (V : Foot) (B g : Nat) (k : Kp) (A : Option Addr) (n c : Nat) (i : Int) (e : En) (D : Option Addr) (m kk : Nat) (w : World) (hk : Blk w g 72 (kC k A n c)) (hE : ERow w V B (.slice A n c) k.es) (hL : Lies w V D m e.data) (hmk : m ≤ kk)
    (hB : B ≤ w.heap.size) (hV : ∀ j, B ≤ j → V j) (hn : n ≤ 50000000) (hkb : inR k.base 1099511627776) (hi : -9223372036854775808 ≤ i ∧ i ≤ 9223372036854775807) :
    Calls Tryz.prog 100 #[.pointer (some ⟨g, 0, none⟩), .int .i64 i, .agg #[.int .i64 e.term, .bool e.cmd, .slice D m kk]] w fun E W => RkR V B g w (pt k i e) E W := by
  obtain ⟨b1, b2⟩ := id hkb
  have hml := hL.len
  have hnl := hE.at_.2.2
  have hnc := hE.at_.2.1
  refine calls_vc Tryz.func100 rfl (by kernel_rfl) ?_
  ((conv => whnf); (repeat ((first | (refine VL.cons ?_) | (refine VC.seqS rfl ?_) | (refine VC.region ?_)); (conv => whnf))))
  ((repeat ((fail); (conv => whnf))))
  refine VSem.boxB ?_
  intro w1 q hq hqe hql hB1
  replace hq : Blk w1 q 56 #[.int .i64 e.term, .bool e.cmd, .slice D m kk] := hq
  have hk1 := hk.later hB1
  have o1 : Out (fun j => j = g) w w1 := Out.new hB1
  have no : ∀ {W : World}, Below w1.heap.size w1 W → pt k i e = none → RkR V B g w (pt k i e) (.returned (.bool false)) W := fun {W} h h2 => by
    rw [h2]
    exact ⟨o1.later h, rfl, kC k A n c, rfl, hk1.later h⟩
  by_cases d1 : i ≤ k.base
  · have hp : pt k i e = none := by unfold pt; rw [if_neg (fun h => by omega)]
    ((conv => whnf); (repeat ((first | (refine VL.cons ?_) | (refine VL.nil ?_)); (conv => whnf))))
    (repeat (first | ((first | (refine VL.cons ?_) | (refine VL.nil ?_) | (refine VC.seqS rfl ?_) | (refine VC.region ?_) | (refine VC.cond ?_) | (refine VC.ret ?_) | (refine VBool.t ?_) | (refine VBool.dT (by omega) ?_) | (refine VRead.fld ?_) | (refine VC.seq ?_)); (conv => whnf)) | (refine VRead.loadB hk1 rfl rfl ?_; (conv => whnf))))
    exact no (Below.refl _ _) hp
  ((conv => whnf); (repeat ((first | (refine VL.cons ?_) | (refine VL.nil ?_)); (conv => whnf))))
  (repeat (first | ((first | (refine VL.cons ?_) | (refine VC.seqS rfl ?_) | (refine VC.region ?_) | (refine VBool.f ?_) | (refine VBool.dF (by omega) ?_) | (refine VRead.fld ?_) | (refine VC.seq ?_)); (conv => whnf)) | (refine VRead.loadB hk1 rfl rfl ?_; (conv => whnf))))
  refine VCall.of (r18Last_any w1 g k A n c hk1 hkb (by omega)) ?_
  rintro E _ ⟨rfl, N, rfl⟩
  refine ⟨_, rfl, ?_⟩
  have hN := below_drewN (Below.refl w1.heap.size w1) N
  have hk2 := hk1.later hN
  have hq2 := hq.later hN
  generalize w1.drewN N = w2 at *
  by_cases d2 : k.base + n + 1 < i
  · have hp : pt k i e = none := by unfold pt; rw [if_neg (fun h => by omega)]
    ((conv => whnf); (repeat ((first | (refine VL.cons ?_)); (conv => whnf))))
    ((repeat ((first | (refine VL.cons ?_) | (refine VL.nil ?_) | (refine VC.seqS rfl ?_) | (refine VC.region ?_) | (refine VC.cond ?_) | (refine VC.ret ?_) | (refine VBool.t ?_) | (refine VBool.f ?_) | (refine VBool.dT (by omega) ?_) | (refine VWrap.i64 (by omega) (by omega) ?_)); (conv => whnf))))
    exact no hN hp
  ((conv => whnf); (repeat ((first | (refine VL.cons ?_)); (conv => whnf))))
  (repeat (first | ((first | (refine VL.cons ?_) | (refine VBool.f ?_) | (refine VBool.dF (by omega) ?_) | (refine VRead.fld ?_) | (refine VWrap.i64 (by omega) (by omega) ?_)); (conv => whnf)) | (refine VRead.loadB hq2 rfl rfl ?_; (conv => whnf))))
  refine VCall.of (r18In_any e.term 1 1099511627776 w2) ?_
  rintro E w2' ⟨rfl, eW⟩
  obtain rfl := eW.symm
  refine ⟨_, rfl, ?_⟩
  by_cases d3 : 1 ≤ e.term ∧ e.term ≤ 1099511627776
  case neg =>
    have hp : pt k i e = none := by unfold pt mayE; rw [if_neg (fun h => d3 ⟨h.1.1, h.1.2.1⟩)]
    rw [decide_eq_false d3]
    ((conv => whnf); (repeat ((first | (refine VL.cons ?_)); (conv => whnf))))
    ((repeat ((first | (refine VL.cons ?_) | (refine VL.nil ?_) | (refine VC.seqS rfl ?_) | (refine VC.region ?_) | (refine VC.cond ?_) | (refine VC.ret ?_) | (refine VBool.t ?_) | (refine VBool.f ?_)); (conv => whnf))))
    exact no hN hp
  rw [decide_eq_true d3]
  by_cases d4 : 1048476 < m
  · have hp : pt k i e = none := by unfold pt mayE; rw [if_neg (fun h => by have := h.1.2.2; omega)]
    ((conv => whnf); (repeat ((first | (refine VL.cons ?_)); (conv => whnf))))
    (repeat (first | ((first | (refine VL.cons ?_) | (refine VL.nil ?_) | (refine VC.seqS rfl ?_) | (refine VC.region ?_) | (refine VC.cond ?_) | (refine VC.ret ?_) | (refine VBool.f ?_) | (refine VBool.dT (by omega) ?_) | (refine VRead.lenS ?_) | (refine VRead.fld ?_)); (conv => whnf)) | (refine VRead.loadB hq2 rfl rfl ?_; (conv => whnf))))
    exact no hN hp
  have hp : pt k i e = some { k with es := k.es.take (i - k.base - 1).toNat ++ [e] } := by
    unfold pt
    rw [if_pos ⟨⟨d3.1, d3.2, by omega⟩, by omega, by omega⟩]
  rw [hp]
  obtain ⟨j, hj⟩ : ∃ j : Nat, (i - k.base - 1).toNat = j := ⟨_, rfl⟩
  rw [hj]
  have hs2 := hN.size
  have hs1 := hB1.size
  have hE2 := (hE.below hB1).below hN
  have hL2 := (hL.below hB1 (Nat.le_refl _)).below hN (Nat.le_refl _)
  have o2 := o1.later hN
  have hgl := hk.lt
  have hS : Below w2.heap.size w2 (w2.drewN 1) := below_drewN (Below.refl _ _) 1
  have kB : ∀ X, Below w2.heap.size w2 X → Blk X g 72 (kC k A n c) := fun X hX => hk2.later hX
  have kq : ∀ X, Below w2.heap.size w2 X → Blk X q 56 #[.int .i64 e.term, .bool e.cmd, .slice D m kk] := fun X hX => hq2.later hX
  have fin : ∀ {X Y : World} {A' : Option Addr} {c' : Nat}, Below w2.heap.size w2 X → ERow X V B (.slice A' (0 + j + 1) c') (k.es.take j ++ [e]) → Blk X g 72 (kC k A n c) → Blk Y g 72 (kC { k with es := k.es.take j ++ [e] } A' (0 + j + 1) c') → X.grownBy Y (some g) → RkR V B g w (some { k with es := k.es.take j ++ [e] }) (.returned (.bool true)) Y := fun {X Y A' c'} h1 h2 h3 h4 h5 =>
    ⟨(o2.later h1).newG h5 (.inr rfl), rfl, A', 0 + j + 1, c', h4, h2.keepG h3 h5 (by decide) (h2.notBlk h3 (by decide))⟩
  ((conv => whnf); (repeat ((first | (refine VL.cons ?_)); (conv => whnf))))
  (repeat (first | ((first | (refine VL.cons ?_) | (refine VL.nil ?_) | (refine VC.draw ?_) | (refine VC.cond ?_) | (refine VC.skip ?_) | (refine VBool.f ?_) | (refine VBool.dF (by omega) ?_) | (refine VRead.lenS ?_) | (refine VRead.fld ?_) | (refine VC.seq ?_)); (conv => whnf)) | (refine VRead.loadB hq2 rfl rfl ?_; (conv => whnf))))
  refine VDraw.planL (fun X => Below w2.heap.size w2 X) (.two [0, 1, 2, 3, 4, 5, 6, 7, 8, 9, 10, 11, 12, 14] 13 (.one [] 15 (.one [] 16 (.done [17, 18]))) 15 (.one [] 13 (.one [] 16 (.done [17, 18])))) 19 (by kernel_rfl) (by kernel_rfl) hS ?_
  generalize w2.drewN 1 = X1 at *
  (conv => whnf)
  refine VF.two ?_
  (conv => whnf)
  (repeat ((first | (refine VRead.loadBS kB rfl rfl ?_) | (refine VQ.cons ?_) | (refine VRead.fld ?_) | (refine VWrap.i64 (by omega) (by omega) ?_)); (conv => whnf)))
  refine VRead.cutKH j (by omega) (by omega) ?_
  (conv => whnf)
  (repeat ((first | (refine VRead.loadAB kq rfl rfl ?_) | (refine VQ.cons ?_) | (refine VQ.nil ?_)); (conv => whnf)))
  have hE3 := hE2.below hS
  refine ⟨?_, ?_⟩
  · (conv => whnf)
    ((repeat ((fail); (conv => whnf))))
    refine ERow.app (ERow.nil X1 V w2.heap.size) (hE3.at_.1.take (m := j) (by omega)) (by omega) hS.size (fun j hj => hV j (by have := hS.size; omega)) ?_
    intro A4 c4 X2 hE4 hg4
    rw [List.nil_append] at hE4
    have hS2 : Below w2.heap.size w2 X2 := hS.grown hg4 hS.size (fun j hj => by simp [Value.ownBlock] at hj)
    (conv => whnf)
    refine Keep.mk hS2 ?_
    (conv => whnf)
    refine VF.one ?_
    (conv => whnf)
    ((repeat ((first | (refine VQ.nil ?_)); (conv => whnf))))
    refine VSem.of (v := .slice (some ⟨X2.heap.size, 0, none⟩) 1 1) (w' := X2.alloc (.cells #[.int .i64 e.term, .bool e.cmd, .slice D m kk] 56)) (by kernel_rfl) ?_
    have hnew := Blk.new X2 56 #[.int .i64 e.term, .bool e.cmd, .slice D m kk]
    have hB3 : Below X2.heap.size X2 (X2.alloc (.cells #[.int .i64 e.term, .bool e.cmd, .slice D m kk] 56)) := (Below.refl _ X2).alloc (Nat.le_refl _) _
    generalize X2.alloc (.cells #[.int .i64 e.term, .bool e.cmd, .slice D m kk] 56) = X3 at *
    have hS3 := hS2.trans (hB3.mono hS2.size)
    have hE43 := hE4.below hB3
    have hb3 := hnew
    have z3 := hS3.size
    (conv => whnf)
    refine Keep.mk hS3 ?_
    (conv => whnf)
    refine VF.one ?_
    (conv => whnf)
    ((repeat ((first | (refine VQ.nil ?_)); (conv => whnf))))
    refine ERow.app hE43 (EnAt.one (e := e) hb3 (hV _ (by have := hS.size; have := hS2.size; omega)) hmk (hL2.below hS3 (Nat.le_refl _))) (by omega) (by omega) (fun j hj => hV j (by omega)) ?_
    intro A5 c5 X4 hE5 hg5
    have hS4 : Below w2.heap.size w2 X4 := hS3.grown hg5 z3 (fun j hj => (hE43.lt hj).2)
    have hE5' := hE5.more (B' := B) (V' := V) (by omega) (fun _ _ h => h)
    have kB4 := kB X4 hS4
    (conv => whnf)
    refine Keep.mk hS4 ?_
    (conv => whnf)
    refine VF.done ?_
    (conv => whnf)
    ((repeat ((first | (refine VQ.cons ?_) | (refine VQ.nil ?_) | (refine VRead.fld ?_)); (conv => whnf))))
    refine VUnit.storeB kB4 rfl rfl rfl ?_
    intro X5 hb5 hg6
    (conv => whnf)
    refine Keep.mk trivial ?_
    (conv => whnf)
    ((repeat ((first | (refine VL.cons ?_) | (refine VL.nil ?_) | (refine VC.seqS rfl ?_) | (refine VC.region ?_) | (refine VC.ret ?_)); (conv => whnf))))
    exact fin hS4 hE5' kB4 hb5 hg6
  · (conv => whnf)
    ((repeat ((fail); (conv => whnf))))
    refine VSem.of (v := .slice (some ⟨X1.heap.size, 0, none⟩) 1 1) (w' := X1.alloc (.cells #[.int .i64 e.term, .bool e.cmd, .slice D m kk] 56)) (by kernel_rfl) ?_
    have hnew := Blk.new X1 56 #[.int .i64 e.term, .bool e.cmd, .slice D m kk]
    have hB2 : Below X1.heap.size X1 (X1.alloc (.cells #[.int .i64 e.term, .bool e.cmd, .slice D m kk] 56)) := (Below.refl _ X1).alloc (Nat.le_refl _) _
    generalize X1.alloc (.cells #[.int .i64 e.term, .bool e.cmd, .slice D m kk] 56) = X2 at *
    have hS2 := hS.trans (hB2.mono hS.size)
    (conv => whnf)
    refine Keep.mk hS2 ?_
    (conv => whnf)
    refine VF.one ?_
    (conv => whnf)
    ((repeat ((first | (refine VQ.nil ?_)); (conv => whnf))))
    refine ERow.app (ERow.nil X2 V X2.heap.size) ((hE3.below hB2).at_.1.take (m := j) (by omega)) (by omega) (Nat.le_refl _) (fun j hj => hV j (by have := hS2.size; omega)) ?_
    intro A4 c4 X3 hE4 hg4
    rw [List.nil_append] at hE4
    have hBn : Below X2.heap.size X2 X3 := (Below.refl _ X2).grown hg4 (Nat.le_refl _) (fun j hj => by simp [Value.ownBlock] at hj)
    have hS3 := hS2.trans (hBn.mono hS2.size)
    have hE43 := hE4.more (B' := w2.heap.size) (V' := V) hS2.size (fun _ _ h => h)
    have hb3 := hnew.later hBn
    have z3 := hS3.size
    (conv => whnf)
    refine Keep.mk hS3 ?_
    (conv => whnf)
    refine VF.one ?_
    (conv => whnf)
    ((repeat ((first | (refine VQ.nil ?_)); (conv => whnf))))
    refine ERow.app hE43 (EnAt.one (e := e) hb3 (hV _ (by have := hS.size; have := hS2.size; omega)) hmk (hL2.below hS3 (Nat.le_refl _))) (by omega) (by omega) (fun j hj => hV j (by omega)) ?_
    intro A5 c5 X4 hE5 hg5
    have hS4 : Below w2.heap.size w2 X4 := hS3.grown hg5 z3 (fun j hj => (hE43.lt hj).2)
    have hE5' := hE5.more (B' := B) (V' := V) (by omega) (fun _ _ h => h)
    have kB4 := kB X4 hS4
    (conv => whnf)
    refine Keep.mk hS4 ?_
    (conv => whnf)
    refine VF.done ?_
    (conv => whnf)
    ((repeat ((first | (refine VQ.cons ?_) | (refine VQ.nil ?_) | (refine VRead.fld ?_)); (conv => whnf))))
    refine VUnit.storeB kB4 rfl rfl rfl ?_
    intro X5 hb5 hg6
    (conv => whnf)
    refine Keep.mk trivial ?_
    (conv => whnf)
    ((repeat ((first | (refine VL.cons ?_) | (refine VL.nil ?_) | (refine VC.seqS rfl ?_) | (refine VC.region ?_) | (refine VC.ret ?_)); (conv => whnf))))
    exact fin hS4 hE5' kB4 hb5 hg6
end Go.Proofs.YtebeidnmplnlpaaGreat
end

section
set_option maxRecDepth 10000
namespace Go.Proofs.YtebeidnmplnlpaaGreat
set_option linter.unusedVariables false
open Go.RowKit

theorem textS_less {a b : Int} (hab : a ≤ b) (s : Option (List UInt8)) : ((Wire.textS b s).1.length ≤ a → Wire.textS a s = Wire.textS b s) ∧ (a < (Wire.textS b s).1.length → Wire.textS a s = ([], none)) := by
  unfold Wire.textS Wire.countS
  cases hI : Wire.intS s with
  | mk v o =>
    cases o with
    | none => exact ⟨fun _ => rfl, fun _ => rfl⟩
    | some r =>
      simp only
      by_cases h1 : v < 0 ∨ b < v ∨ (r.length : Int) < v
      · rw [if_pos h1]
        have h2 : v < 0 ∨ a < v ∨ (r.length : Int) < v := by omega
        rw [if_pos h2]
        exact ⟨fun _ => rfl, fun _ => rfl⟩
      · rw [if_neg h1]
        simp only
        have hl : (r.take v.toNat).length = v.toNat := by rw [List.length_take]; omega
        constructor
        · intro h
          rw [hl] at h
          rw [if_neg (by omega)]
        · intro h
          rw [hl] at h
          rw [if_pos (by omega)]
theorem rec2_eq (k : Kp) (v1 v2 : Int) (v3 : Bool) (s : Option (List UInt8)) :
    (if Wire.endS (Wire.textS 1048576 s).2 = true then pt k v1 ⟨v2, v3, (Wire.textS 1048576 s).1⟩ else none) =
      if Wire.endS (Wire.textS 1048476 s).2 = true ∧ mayE ⟨v2, v3, (Wire.textS 1048476 s).1⟩ ∧ k.base < v1 ∧ v1 ≤ k.base + k.es.length + 1 then
        some { k with es := k.es.take (v1 - k.base - 1).toNat ++ [⟨v2, v3, (Wire.textS 1048476 s).1⟩] } else none := by
  obtain ⟨h1, h2⟩ := textS_less (a := 1048476) (b := 1048576) (by decide) s
  by_cases h : ((Wire.textS 1048576 s).1.length : Int) ≤ 1048476
  · rw [h1 h]
    unfold pt
    by_cases he : Wire.endS (Wire.textS 1048576 s).2 = true
    · rw [if_pos he]
      by_cases hh : mayE ⟨v2, v3, (Wire.textS 1048576 s).1⟩ ∧ k.base < v1 ∧ v1 ≤ k.base + k.es.length + 1
      · rw [if_pos hh, if_pos ⟨he, hh⟩]
      · rw [if_neg hh, if_neg (fun h => hh h.2)]
    · rw [if_neg he, if_neg (fun h => he h.1)]
  · rw [h2 (by omega)]
    have hp : pt k v1 ⟨v2, v3, (Wire.textS 1048576 s).1⟩ = none := by
      unfold pt mayE
      rw [if_neg (fun hh => by have := hh.1.2.2; simp only at this; omega)]
    rw [hp, ite_self, if_neg (fun hh => by have h9 := hh.1; simp [Wire.endS] at h9)]
theorem intS_i64' (s : Option (List UInt8)) : -9223372036854775808 ≤ (Wire.intS s).1 ∧ (Wire.intS s).1 ≤ 9223372036854775807 := by
  cases s with
  | none => exact ⟨by show (-9223372036854775808 : Int) ≤ 0; decide, by show (0 : Int) ≤ 9223372036854775807; decide⟩
  | some l =>
    unfold Wire.intS
    simp only
    cases hg : Wire.getInt l with
    | none => exact ⟨by show (-9223372036854775808 : Int) ≤ 0; decide, by show (0 : Int) ≤ 9223372036854775807; decide⟩
    | some p =>
      obtain ⟨v, q⟩ := p
      exact (Wire.getInt_back hg).2
/-- while a record is read -/
structure RkS (V : Foot) (B g gr : Nat) (v : Value) (w : World) (es : List En) (cs : Array Value) (s : Option (List UInt8)) (W : World) : Prop where
  blk : Blk W g 72 cs
  row : ERow W V B v es
  rs : RS 141 W gr s
  out : Out (fun j => j = g) w W
  gl : g < w.heap.size
  grl : w.heap.size ≤ gr
section
variable {V : Foot} {B g gr q : Nat} {v : Value} {w W W' : World} {es : List En} {cs cs' : Array Value} {s s' : Option (List UInt8)}
theorem RkS.later (h : RkS V B g gr v w es cs s W) (hb : Below W.heap.size W W') : RkS V B g gr v w es cs s W' :=
  ⟨h.blk.later hb, h.row.below hb, h.rs.below hb h.rs.lt, h.out.later hb, h.gl, h.grl⟩
theorem RkS.read (h : RkS V B g gr v w es cs s W) (hr : RS 141 W' gr s') (hg : W.grownBy W' (some gr)) : RkS V B g gr v w es cs s' W' := by
  have := h.gl; have := h.grl
  obtain ⟨l, p, bad, ⟨A, n, c, h1, _⟩, _⟩ := h.rs
  exact ⟨h.blk.grown hg (fun e => by injection e; omega), h.row.keepG h1 hg (by decide) (h.row.notBlk h1 (by decide)), hr, h.out.newG hg (.inl h.grl), h.gl, h.grl⟩
theorem RkS.store (h : RkS V B g gr v w es cs s W) (hb : Blk W' g 72 cs') (hg : W.grownBy W' (some g)) (hcs : cs.toList.all notU8 = true) : RkS V B g gr v w es cs' s W' := by
  have := h.gl; have := h.grl
  exact ⟨hb, h.row.keepG h.blk hg (by decide) (h.row.notBlk h.blk (by decide)), h.rs.apartC h.blk hcs hg (by omega), h.out.newG hg (.inr rfl), h.gl, h.grl⟩
theorem RkS.own (h : RkS V B g gr v w es cs s W) {T b : Nat} {cs2 : Array Value} (hb : Blk W b T cs2) (hg : W.grownBy W' (some b)) (hT : 5 ≠ T) (hbr : gr < b) (hv : v.ownBlock ≠ some b) : RkS V B g gr v w es cs s W' := by
  have := h.gl; have := h.grl
  exact ⟨h.blk.grown hg (fun e => by injection e; omega), h.row.keepG hb hg hT hv, h.rs.other hg hbr, h.out.newG hg (.inl (by omega)), h.gl, h.grl⟩
end
theorem RkS.no {V : Foot} {B g gr : Nat} {v : Value} {w W : World} {es : List En} {cs : Array Value} {s : Option (List UInt8)} (h : RkS V B g gr v w es cs s W) (hc : cs.size = 5) : RkR V B g w none (.returned (.bool false)) W :=
  ⟨h.out, rfl, cs, hc, h.blk⟩
set_option maxHeartbeats 4000000 in
theorem r18Record_any (V : Foot) (B g : Nat) (k : Kp) (Ak A : Option Addr) (nk ck n c : Nat) (b : List UInt8) (st : Bool) (w : World) (hk : Blk w g 72 (kC k Ak nk ck)) (hE : ERow w V B (.slice Ak nk ck) k.es)
    (hr : Reads w w.heap.size 1 A n (bv b)) (hn1 : 1 ≤ n) (hnc : n ≤ c) (hn : n ≤ 1048576) (hB : B ≤ w.heap.size) (hV : ∀ j, B ≤ j → V j) (hnk : nk ≤ 50000000) (hkb : inR k.base 1099511627776) :
    Calls Tryz.prog 77 #[.pointer (some ⟨g, 0, none⟩), .slice A n c, .bool st] w fun e w' => RkR V B g w (takes k b st) e w' := by
  have hbl : b.length = n := by have := hr.1; rw [bv_length] at this; omega
  obtain ⟨x, r, rfl⟩ : ∃ x r, b = x :: r := by
    cases b with
    | nil => simp at hbl; omega
    | cons x r => exact ⟨x, r, rfl⟩
  have hx := x.toNat_lt
  obtain ⟨ad, u, rfl, had, hu, hcell⟩ := hr.at_ (k := 0) (by omega)
  have hu' : u = .int .u8 (x.toNat : Int) := by unfold bv at hu; simpa using hu.symm
  subst hu'
  refine calls_vc Tryz.func77 rfl (by kernel_rfl) ?_
  ((conv => whnf); (repeat ((first | (refine VL.cons ?_) | (refine VL.nil ?_) | (refine VC.seqS rfl ?_) | (refine VC.region ?_)); (conv => whnf))))
  ((repeat ((fail); (conv => whnf))))
  refine VRead.cutL (by omega) (by omega) ?_
  ((conv => whnf); (repeat ((first | (refine VL.cons ?_)); (conv => whnf))))
  ((repeat ((fail); (conv => whnf))))
  refine VRead.ofW (v := .agg #[.slice (cutA (some ad) c 1) (n - 1) (c - 1), .int .i64 0, .bool false]) (fun _ => by kernel_rfl) ?_
  ((conv => whnf); (repeat ((first | (refine VL.cons ?_)); (conv => whnf))))
  ((repeat ((fail); (conv => whnf))))
  refine VSem.boxB ?_
  intro w1 gr hbr hgr hlr hB1
  replace hbr : Blk w1 gr 141 #[.slice (cutA (some ad) c 1) (n - 1) (c - 1), .int .i64 ((0 : Nat) : Int), .bool false] := hbr
  have s1 := hB1.size
  have hR : RS 141 w1 gr (some r) := RS.mk hbr (((hr.cutA (k := 1) hn1 hnc).below hB1).more (by omega)) (by omega) (by omega) (by omega) (by simp)
  have hS1 : RkS V B g gr (.slice Ak nk ck) w k.es (kC k Ak nk ck) (some r) w1 := ⟨hk.later hB1, hE.below hB1, hR, Out.new hB1, hk.lt, by omega⟩
  have hcell1 : w1.cell? (ad.add 0) = some (.int .u8 (x.toNat : Int)) := (World.cell?_of_block (by rw [adb]; exact hB1.block _ had)).trans hcell
  have h5 : (kC k Ak nk ck).size = 5 := rfl
  clear hcell hbr
  cases st with
  | true =>
    by_cases hx0 : x.toNat = 0
    case neg =>
      have ht : takes k (x :: r) true = none := by unfold takes; simp only; rw [if_neg (by rw [decide_eq_false hx0]; simp)]
      rw [ht]
      have hcase : x.toNat = 1 ∨ x.toNat = 2 ∨ (¬ x.toNat = 1 ∧ ¬ x.toNat = 2) := by omega
      rcases hcase with hc | hc | ⟨hc, hc2⟩
      all_goals
        ((conv => whnf); (repeat ((first | (refine VL.cons ?_) | (refine VL.nil ?_)); (conv => whnf))))
        (repeat (first | ((first | (refine VL.cons ?_) | (refine VL.nil ?_) | (refine VC.seqS rfl ?_) | (refine VC.region ?_) | (refine VC.cond ?_) | (refine VC.block ?_) | (refine VC.ret ?_) | (refine VC.skip ?_) | (refine VBool.t ?_) | (refine VBool.f ?_) | (refine VBool.dT (by omega) ?_) | (refine VBool.dF (by omega) ?_) | (refine VRead.load1 (by assumption) ?_) | (refine VC.seq ?_)); (conv => whnf)) | (refine VRead.at1 (j := 0) (by omega) ?_; (conv => whnf))))
        exact hS1.no h5
    have ht : takes k (x :: r) true = tk0 k r := by unfold takes; simp only; rw [if_pos (by rw [decide_eq_true hx0]), if_pos hx0]
    rw [ht]
    ((conv => whnf); (repeat ((first | (refine VL.cons ?_) | (refine VL.nil ?_)); (conv => whnf))))
    (repeat (first | ((first | (refine VL.cons ?_) | (refine VL.nil ?_) | (refine VC.seqS rfl ?_) | (refine VC.region ?_) | (refine VC.cond ?_) | (refine VC.block ?_) | (refine VBool.t ?_) | (refine VBool.dT (by omega) ?_) | (refine VRead.load1 (by assumption) ?_) | (refine VC.seq ?_)); (conv => whnf)) | (refine VRead.at1 (j := 0) (by omega) ?_; (conv => whnf))))
    refine VCall.of (fInt_any w1 gr _ hR) ?_
    rintro e w2 ⟨rfl, hR2, hg2⟩
    refine ⟨_, rfl, ?_⟩
    have hS2 := hS1.read hR2 hg2
    unfold tk0
    generalize Wire.intS (some r) = p1 at *
    obtain ⟨v1, s1'⟩ := p1
    simp only at *
    ((conv => whnf); (repeat ((first | (refine VL.cons ?_)); (conv => whnf))))
    ((repeat ((first | (refine VL.cons ?_) | (refine VRead.fld ?_)); (conv => whnf))))
    refine VUnit.storeB hS2.blk rfl rfl rfl ?_
    intro w3 hb3 hg3
    have hS4 := hS2.store hb3 hg3 rfl
    ((conv => whnf); (repeat ((first | (refine VL.cons ?_) | (refine VL.nil ?_) | (refine VC.seqS rfl ?_) | (refine VC.region ?_)); (conv => whnf))))
    ((repeat ((fail); (conv => whnf))))
    refine VCall.of (fInt_any w3 gr _ hS4.rs) ?_
    rintro e w5 ⟨rfl, hR5, hg5⟩
    refine ⟨_, rfl, ?_⟩
    have hS5 := hS4.read hR5 hg5
    generalize Wire.intS s1' = p2 at *
    obtain ⟨v2, s2'⟩ := p2
    simp only at *
    ((conv => whnf); (repeat ((first | (refine VL.cons ?_)); (conv => whnf))))
    ((repeat ((first | (refine VL.cons ?_) | (refine VRead.fld ?_)); (conv => whnf))))
    refine VUnit.storeB hS5.blk rfl rfl rfl ?_
    intro w6 hb6 hg6
    have hS6 := hS5.store hb6 hg6 rfl
    have hb6' : Blk w6 g 72 (kC { k with base := v1, bterm := v2 } Ak nk ck) := hb6
    ((conv => whnf); (repeat ((first | (refine VL.cons ?_) | (refine VL.nil ?_) | (refine VC.seqS rfl ?_) | (refine VC.region ?_)); (conv => whnf))))
    ((repeat ((fail); (conv => whnf))))
    refine VCall.of (fEnd_any w6 gr _ hS6.rs) ?_
    rintro e _ ⟨rfl, N, rfl⟩
    refine ⟨_, rfl, ?_⟩
    have hS7 := hS6.later (below_drewN (Below.refl _ w6) N)
    have hb7 : Blk (w6.drewN N) g 72 (kC { k with base := v1, bterm := v2 } Ak nk ck) := hb6'.later (below_drewN (Below.refl _ w6) N)
    generalize w6.drewN N = w7 at *
    by_cases c1 : Wire.endS s2' = true
    case neg =>
      rw [if_neg (fun h => c1 h.1)]
      have c1' : Wire.endS s2' = false := by simpa using c1
      rw [c1']
      ((conv => whnf); (repeat ((first | (refine VL.cons ?_)); (conv => whnf))))
      ((repeat ((first | (refine VL.cons ?_) | (refine VL.nil ?_) | (refine VC.ret ?_) | (refine VBool.f ?_)); (conv => whnf))))
      exact hS7.no rfl
    rw [c1]
    by_cases c2 : inR v1 1099511627776
    case neg =>
      rw [if_neg (fun h => c2 h.2.1)]
      ((conv => whnf); (repeat ((first | (refine VL.cons ?_)); (conv => whnf))))
      (repeat (first | ((first | (refine VL.cons ?_) | (refine VBool.t ?_) | (refine VRead.fld ?_)); (conv => whnf)) | (refine VRead.loadB hb7 rfl rfl ?_; (conv => whnf))))
      refine VCall.of (r18In_any v1 0 1099511627776 w7) ?_
      rintro e _ ⟨rfl, rfl⟩
      refine ⟨_, rfl, ?_⟩
      rw [decide_eq_false (p := 0 ≤ v1 ∧ v1 ≤ 1099511627776) c2]
      ((conv => whnf); (repeat ((first | (refine VL.cons ?_)); (conv => whnf))))
      ((repeat ((first | (refine VL.cons ?_) | (refine VL.nil ?_) | (refine VC.ret ?_) | (refine VBool.f ?_)); (conv => whnf))))
      exact hS7.no rfl
    ((conv => whnf); (repeat ((first | (refine VL.cons ?_)); (conv => whnf))))
    (repeat (first | ((first | (refine VL.cons ?_) | (refine VBool.t ?_) | (refine VRead.fld ?_)); (conv => whnf)) | (refine VRead.loadB hb7 rfl rfl ?_; (conv => whnf))))
    refine VCall.of (r18In_any v1 0 1099511627776 w7) ?_
    rintro e _ ⟨rfl, rfl⟩
    refine ⟨_, rfl, ?_⟩
    rw [decide_eq_true (p := 0 ≤ v1 ∧ v1 ≤ 1099511627776) c2]
    ((conv => whnf); (repeat ((first | (refine VL.cons ?_)); (conv => whnf))))
    (repeat (first | ((first | (refine VL.cons ?_) | (refine VBool.t ?_) | (refine VRead.fld ?_)); (conv => whnf)) | (refine VRead.loadB hb7 rfl rfl ?_; (conv => whnf))))
    refine VCall.of (r18In_any v2 0 1099511627776 _) ?_
    rintro e _ ⟨rfl, rfl⟩
    refine ⟨_, rfl, ?_⟩
    by_cases c3 : inR v2 1099511627776
    · rw [if_pos ⟨rfl, c2, c3⟩, decide_eq_true (p := 0 ≤ v2 ∧ v2 ≤ 1099511627776) c3]
      ((conv => whnf); (repeat ((first | (refine VL.cons ?_) | (refine VL.nil ?_) | (refine VC.ret ?_)); (conv => whnf))))
      ((repeat ((fail); (conv => whnf))))
      exact ⟨hS7.out, rfl, Ak, nk, ck, hb7, hS7.row⟩
    · rw [if_neg (fun h => c3 h.2.2), decide_eq_false (p := 0 ≤ v2 ∧ v2 ≤ 1099511627776) c3]
      ((conv => whnf); (repeat ((first | (refine VL.cons ?_) | (refine VL.nil ?_) | (refine VC.ret ?_)); (conv => whnf))))
      ((repeat ((fail); (conv => whnf))))
      exact hS7.no rfl
  | false =>
    by_cases hx0 : x.toNat = 0
    · have ht : takes k (x :: r) false = none := by unfold takes; simp only; rw [if_neg (by rw [decide_eq_true hx0]; simp)]
      rw [ht]
      ((conv => whnf); (repeat ((first | (refine VL.cons ?_) | (refine VL.nil ?_)); (conv => whnf))))
      (repeat (first | ((first | (refine VL.cons ?_) | (refine VL.nil ?_) | (refine VC.seqS rfl ?_) | (refine VC.region ?_) | (refine VC.cond ?_) | (refine VC.block ?_) | (refine VC.ret ?_) | (refine VC.skip ?_) | (refine VBool.f ?_) | (refine VBool.dT (by omega) ?_) | (refine VBool.dF (by omega) ?_) | (refine VRead.load1 (by assumption) ?_) | (refine VC.seq ?_)); (conv => whnf)) | (refine VRead.at1 (j := 0) (by omega) ?_; (conv => whnf))))
      exact hS1.no h5
    by_cases hx1 : x.toNat = 1
    · have ht : takes k (x :: r) false = tk1 k r := by unfold takes; simp only; rw [if_pos (by rw [decide_eq_false hx0]), if_neg hx0, if_pos hx1]
      rw [ht]
      ((conv => whnf); (repeat ((first | (refine VL.cons ?_) | (refine VL.nil ?_)); (conv => whnf))))
      (repeat (first | ((first | (refine VL.cons ?_) | (refine VL.nil ?_) | (refine VC.seqS rfl ?_) | (refine VC.region ?_) | (refine VC.cond ?_) | (refine VC.block ?_) | (refine VBool.t ?_) | (refine VBool.f ?_) | (refine VBool.dT (by omega) ?_) | (refine VBool.dF (by omega) ?_) | (refine VRead.load1 (by assumption) ?_) | (refine VC.seq ?_)); (conv => whnf)) | (refine VRead.at1 (j := 0) (by omega) ?_; (conv => whnf))))
      refine VCall.of (fInt_any w1 gr _ hR) ?_
      rintro e w2 ⟨rfl, hR2, hg2⟩
      refine ⟨_, rfl, ?_⟩
      have hS2 := hS1.read hR2 hg2
      unfold tk1
      generalize Wire.intS (some r) = p1 at *
      obtain ⟨v1, s1'⟩ := p1
      simp only at *
      ((conv => whnf); (repeat ((first | (refine VL.cons ?_)); (conv => whnf))))
      ((repeat ((first | (refine VL.cons ?_) | (refine VRead.fld ?_)); (conv => whnf))))
      refine VUnit.storeB hS2.blk rfl rfl rfl ?_
      intro w3 hb3 hg3
      have hS4 := hS2.store hb3 hg3 rfl
      ((conv => whnf); (repeat ((first | (refine VL.cons ?_) | (refine VL.nil ?_) | (refine VC.seqS rfl ?_) | (refine VC.region ?_)); (conv => whnf))))
      ((repeat ((fail); (conv => whnf))))
      refine VCall.of (fInt_any w3 gr _ hS4.rs) ?_
      rintro e w5 ⟨rfl, hR5, hg5⟩
      refine ⟨_, rfl, ?_⟩
      have hS5 := hS4.read hR5 hg5
      generalize Wire.intS s1' = p2 at *
      obtain ⟨v2, s2'⟩ := p2
      simp only at *
      ((conv => whnf); (repeat ((first | (refine VL.cons ?_)); (conv => whnf))))
      ((repeat ((first | (refine VL.cons ?_) | (refine VRead.fld ?_)); (conv => whnf))))
      refine VUnit.storeB hS5.blk rfl rfl rfl ?_
      intro w6 hb6 hg6
      have hS6 := hS5.store hb6 hg6 rfl
      have hb6' : Blk w6 g 72 (kC { k with term := v1, vote := v2 } Ak nk ck) := hb6
      ((conv => whnf); (repeat ((first | (refine VL.cons ?_) | (refine VL.nil ?_) | (refine VC.seqS rfl ?_) | (refine VC.region ?_)); (conv => whnf))))
      ((repeat ((fail); (conv => whnf))))
      refine VCall.of (fEnd_any w6 gr _ hS6.rs) ?_
      rintro e _ ⟨rfl, N, rfl⟩
      refine ⟨_, rfl, ?_⟩
      have hS7 := hS6.later (below_drewN (Below.refl _ w6) N)
      have hb7 : Blk (w6.drewN N) g 72 (kC { k with term := v1, vote := v2 } Ak nk ck) := hb6'.later (below_drewN (Below.refl _ w6) N)
      generalize w6.drewN N = w7 at *
      by_cases c1 : Wire.endS s2' = true
      case neg =>
        rw [if_neg (fun h => c1 h.1)]
        have c1' : Wire.endS s2' = false := by simpa using c1
        rw [c1']
        ((conv => whnf); (repeat ((first | (refine VL.cons ?_)); (conv => whnf))))
        ((repeat ((first | (refine VL.cons ?_) | (refine VL.nil ?_) | (refine VC.ret ?_) | (refine VBool.f ?_)); (conv => whnf))))
        exact hS7.no rfl
      rw [c1]
      by_cases c2 : inR v1 1099511627776
      case neg =>
        rw [if_neg (fun h => c2 h.2.1)]
        ((conv => whnf); (repeat ((first | (refine VL.cons ?_)); (conv => whnf))))
        (repeat (first | ((first | (refine VL.cons ?_) | (refine VBool.t ?_) | (refine VRead.fld ?_)); (conv => whnf)) | (refine VRead.loadB hb7 rfl rfl ?_; (conv => whnf))))
        refine VCall.of (r18In_any v1 0 1099511627776 w7) ?_
        rintro e _ ⟨rfl, rfl⟩
        refine ⟨_, rfl, ?_⟩
        rw [decide_eq_false (p := 0 ≤ v1 ∧ v1 ≤ 1099511627776) c2]
        ((conv => whnf); (repeat ((first | (refine VL.cons ?_)); (conv => whnf))))
        ((repeat ((first | (refine VL.cons ?_) | (refine VL.nil ?_) | (refine VC.ret ?_) | (refine VBool.f ?_)); (conv => whnf))))
        exact hS7.no rfl
      ((conv => whnf); (repeat ((first | (refine VL.cons ?_)); (conv => whnf))))
      (repeat (first | ((first | (refine VL.cons ?_) | (refine VBool.t ?_) | (refine VRead.fld ?_)); (conv => whnf)) | (refine VRead.loadB hb7 rfl rfl ?_; (conv => whnf))))
      refine VCall.of (r18In_any v1 0 1099511627776 w7) ?_
      rintro e _ ⟨rfl, rfl⟩
      refine ⟨_, rfl, ?_⟩
      rw [decide_eq_true (p := 0 ≤ v1 ∧ v1 ≤ 1099511627776) c2]
      ((conv => whnf); (repeat ((first | (refine VL.cons ?_)); (conv => whnf))))
      (repeat (first | ((first | (refine VL.cons ?_) | (refine VBool.t ?_) | (refine VRead.fld ?_)); (conv => whnf)) | (refine VRead.loadB hb7 rfl rfl ?_; (conv => whnf))))
      refine VCall.of (r18In_any v2 0 7 _) ?_
      rintro e _ ⟨rfl, rfl⟩
      refine ⟨_, rfl, ?_⟩
      by_cases c3 : inR v2 7
      · rw [if_pos ⟨rfl, c2, c3⟩, decide_eq_true (p := 0 ≤ v2 ∧ v2 ≤ 7) c3]
        ((conv => whnf); (repeat ((first | (refine VL.cons ?_) | (refine VL.nil ?_) | (refine VC.ret ?_)); (conv => whnf))))
        ((repeat ((fail); (conv => whnf))))
        exact ⟨hS7.out, rfl, Ak, nk, ck, hb7, hS7.row⟩
      · rw [if_neg (fun h => c3 h.2.2), decide_eq_false (p := 0 ≤ v2 ∧ v2 ≤ 7) c3]
        ((conv => whnf); (repeat ((first | (refine VL.cons ?_) | (refine VL.nil ?_) | (refine VC.ret ?_)); (conv => whnf))))
        ((repeat ((fail); (conv => whnf))))
        exact hS7.no rfl
    by_cases hx2 : x.toNat = 2
    case neg =>
      have ht : takes k (x :: r) false = none := by unfold takes; simp only; rw [if_pos (by rw [decide_eq_false hx0]), if_neg hx0, if_neg hx1, if_neg hx2]
      rw [ht]
      ((conv => whnf); (repeat ((first | (refine VL.cons ?_) | (refine VL.nil ?_)); (conv => whnf))))
      (repeat (first | ((first | (refine VL.cons ?_) | (refine VL.nil ?_) | (refine VC.seqS rfl ?_) | (refine VC.region ?_) | (refine VC.cond ?_) | (refine VC.block ?_) | (refine VC.ret ?_) | (refine VC.skip ?_) | (refine VBool.f ?_) | (refine VBool.dF (by omega) ?_) | (refine VRead.load1 (by assumption) ?_) | (refine VC.seq ?_)); (conv => whnf)) | (refine VRead.at1 (j := 0) (by omega) ?_; (conv => whnf))))
      exact hS1.no h5
    have ht : takes k (x :: r) false = tk2 k r := by unfold takes; simp only; rw [if_pos (by rw [decide_eq_false hx0]), if_neg hx0, if_neg hx1, if_pos hx2]
    rw [ht]
    ((conv => whnf); (repeat ((first | (refine VL.cons ?_) | (refine VL.nil ?_)); (conv => whnf))))
    (repeat (first | ((first | (refine VL.cons ?_) | (refine VL.nil ?_) | (refine VC.seqS rfl ?_) | (refine VC.region ?_) | (refine VC.cond ?_) | (refine VC.block ?_) | (refine VBool.t ?_) | (refine VBool.f ?_) | (refine VBool.dT (by omega) ?_) | (refine VBool.dF (by omega) ?_) | (refine VRead.load1 (by assumption) ?_) | (refine VC.seq ?_)); (conv => whnf)) | (refine VRead.at1 (j := 0) (by omega) ?_; (conv => whnf))))
    refine VCall.of (fInt_any w1 gr _ hR) ?_
    rintro e w2 ⟨rfl, hR2, hg2⟩
    refine ⟨_, rfl, ?_⟩
    have hS2 := hS1.read hR2 hg2
    have hi64 := intS_i64' (some r)
    unfold tk2 eE eD eC eT eI
    generalize Wire.intS (some r) = p1 at *
    obtain ⟨v1, s1'⟩ := p1
    simp only at *
    ((conv => whnf); (repeat ((first | (refine VL.cons ?_) | (refine VL.nil ?_) | (refine VC.seqS rfl ?_) | (refine VC.region ?_)); (conv => whnf))))
    ((repeat ((fail); (conv => whnf))))
    refine VRead.ofW (v := .agg #[.int .i64 0, .bool false, .slice none 0 0]) (fun _ => by kernel_rfl) ?_
    ((conv => whnf); (repeat ((first | (refine VL.cons ?_)); (conv => whnf))))
    ((repeat ((fail); (conv => whnf))))
    refine VSem.allocZ (z := .agg #[.int .i64 0, .bool false, .slice none 0 0]) (by kernel_rfl) ?_
    intro X1 q hbq hq hlq hBq
    have hT1 := hS2.later hBq
    ((conv => whnf); (repeat ((first | (refine VL.cons ?_)); (conv => whnf))))
    ((repeat ((fail); (conv => whnf))))
    refine VUnit.storeAB hbq rfl rfl rfl (by simp [Value.oneCell']) ?_
    intro X2 hbq2 hg2'
    have hlr2 := hS2.rs.lt
    have hvq : (Value.slice Ak nk ck).ownBlock ≠ some q := fun e => by have := (hS2.row.lt e).1; omega
    replace hbq2 : Blk X2 q 56 #[.int .i64 0, .bool false, .slice none 0 0] := hbq2
    have hT2 := hT1.own hbq hg2' (by decide) (by omega) hvq
    ((conv => whnf); (repeat ((first | (refine VL.cons ?_) | (refine VL.nil ?_) | (refine VC.seqS rfl ?_) | (refine VC.region ?_)); (conv => whnf))))
    ((repeat ((fail); (conv => whnf))))
    refine VCall.of (fInt_any X2 gr _ hT2.rs) ?_
    rintro e X3 ⟨rfl, hR3, hg3⟩
    refine ⟨_, rfl, ?_⟩
    have hT3 := hT2.read hR3 hg3
    have hbq3 := hbq2.grown hg3 (fun e => by injection e; omega)
    generalize Wire.intS s1' = p2 at *
    obtain ⟨v2, s2'⟩ := p2
    simp only at *
    ((conv => whnf); (repeat ((first | (refine VL.cons ?_)); (conv => whnf))))
    ((repeat ((first | (refine VL.cons ?_) | (refine VRead.fld ?_)); (conv => whnf))))
    refine VUnit.storeB hbq3 rfl rfl rfl ?_
    intro X4 hbq4 hg4
    have hT4 := hT3.own hbq3 hg4 (by decide) (by omega) hvq
    ((conv => whnf); (repeat ((first | (refine VL.cons ?_) | (refine VL.nil ?_) | (refine VC.seqS rfl ?_) | (refine VC.region ?_)); (conv => whnf))))
    ((repeat ((fail); (conv => whnf))))
    refine VCall.of (fBool_any X4 gr _ hT4.rs) ?_
    rintro e X5 ⟨rfl, hR5, hg5⟩
    refine ⟨_, rfl, ?_⟩
    have hT5 := hT4.read hR5 hg5
    have hbq5 := hbq4.grown hg5 (fun e => by injection e; omega)
    generalize Wire.boolS s2' = p3 at *
    obtain ⟨v3, s3'⟩ := p3
    simp only at *
    ((conv => whnf); (repeat ((first | (refine VL.cons ?_)); (conv => whnf))))
    ((repeat ((first | (refine VL.cons ?_) | (refine VRead.fld ?_)); (conv => whnf))))
    refine VUnit.storeB hbq5 rfl rfl rfl ?_
    intro X6 hbq6 hg6
    have hT6 := hT5.own hbq5 hg6 (by decide) (by omega) hvq
    ((conv => whnf); (repeat ((first | (refine VL.cons ?_) | (refine VL.nil ?_) | (refine VC.seqS rfl ?_) | (refine VC.region ?_)); (conv => whnf))))
    ((repeat ((fail); (conv => whnf))))
    refine VCall.of (fText_any X6 gr _ 1048576 hT6.rs) ?_
    rintro e X7 ⟨rfl, hR7, hg7⟩
    refine ⟨_, rfl, ?_⟩
    have hT7 := hT6.read hR7 hg7
    have hbq7 := hbq6.grown hg7 (fun e => by injection e; omega)
    rw [← rec2_eq]
    generalize Wire.textS 1048576 s3' = p4 at *
    obtain ⟨v4, s4'⟩ := p4
    simp only at *
    ((conv => whnf); (repeat ((first | (refine VL.cons ?_)); (conv => whnf))))
    ((repeat ((fail); (conv => whnf))))
    refine VSem.convLW ?_
    intro D dc X8 hL8 hdc8 hB8
    rw [show (txt v4).data.toList = v4 from rfl, txt_size] at hL8
    rw [txt_size] at hdc8 ⊢
    have hT8 := hT7.later hB8
    have hbq8 := hbq7.later hB8
    ((conv => whnf); (repeat ((first | (refine VL.cons ?_)); (conv => whnf))))
    ((repeat ((first | (refine VL.cons ?_) | (refine VRead.fld ?_)); (conv => whnf))))
    refine VUnit.storeB hbq8 rfl rfl rfl ?_
    intro X9 hbq9 hg9
    have hT9 := hT8.own hbq8 hg9 (by decide) (by omega) hvq
    have hL9 := hL8.blk hbq8 hg9 (by decide)
    replace hbq9 : Blk X9 q 56 #[.int .i64 v2, .bool v3, .slice D v4.length dc] := hbq9
    have z2 : w.heap.size ≤ X9.heap.size := hT9.out.size
    have z7 : w.heap.size ≤ X7.heap.size := hT7.out.size
    ((conv => whnf); (repeat ((first | (refine VL.cons ?_) | (refine VL.nil ?_) | (refine VC.seqS rfl ?_) | (refine VC.region ?_)); (conv => whnf))))
    ((repeat ((fail); (conv => whnf))))
    refine VCall.of (fEnd_any X9 gr _ hT9.rs) ?_
    rintro e _ ⟨rfl, N, rfl⟩
    refine ⟨_, rfl, ?_⟩
    have hBN := below_drewN (Below.refl X9.heap.size X9) N
    have hTN := hT9.later hBN
    have hbqN := hbq9.later hBN
    have hLN := hL9.below hBN (Nat.le_refl _)
    generalize X9.drewN N = Y at *
    by_cases c1 : Wire.endS s4' = true
    case neg =>
      have c1' : Wire.endS s4' = false := by simpa using c1
      rw [if_neg c1, c1']
      ((conv => whnf); (repeat ((first | (refine VL.cons ?_)); (conv => whnf))))
      ((repeat ((first | (refine VL.cons ?_) | (refine VL.nil ?_) | (refine VC.ret ?_) | (refine VBool.f ?_)); (conv => whnf))))
      exact hTN.no rfl
    rw [if_pos c1, c1]
    ((conv => whnf); (repeat ((first | (refine VL.cons ?_)); (conv => whnf))))
    (repeat ((first | (refine VRead.loadAB1 hbqN rfl rfl ?_) | (refine VL.cons ?_) | (refine VBool.t ?_)); (conv => whnf)))
    refine VCall.of (r18Put_any V B g k Ak nk ck v1 ⟨v2, v3, v4⟩ D v4.length dc Y hTN.blk hTN.row (hLN.more (fun j _ hj => hV j (by have : X7.heap.size ≤ j := hj; omega))) hdc8 (by have := hTN.out.size; omega) hV hnk hkb hi64) ?_
    rintro e Y2 ⟨hO, hm⟩
    have hOut := hTN.out.trans hO
    cases hp : pt k v1 ⟨v2, v3, v4⟩ with
    | none =>
      rw [hp] at hm
      obtain ⟨rfl, cs, hcs, hb⟩ := hm
      refine ⟨_, rfl, ?_⟩
      ((conv => whnf); (repeat ((first | (refine VL.cons ?_) | (refine VL.nil ?_) | (refine VC.ret ?_)); (conv => whnf))))
      ((repeat ((fail); (conv => whnf))))
      exact ⟨hOut, rfl, cs, hcs, hb⟩
    | some k' =>
      rw [hp] at hm
      obtain ⟨rfl, A', n', c', hb, hE'⟩ := hm
      refine ⟨_, rfl, ?_⟩
      ((conv => whnf); (repeat ((first | (refine VL.cons ?_) | (refine VL.nil ?_) | (refine VC.ret ?_)); (conv => whnf))))
      ((repeat ((fail); (conv => whnf))))
      exact ⟨hOut, rfl, A', n', c', hb, hE'⟩
end Go.Proofs.YtebeidnmplnlpaaGreat
end

section
namespace Go.Proofs.YtebeidnmplnlpaaGreat
set_option linter.unusedVariables false
open Go.RowKit

section
variable {P : Program} {n : Nat} {ds : List Deferred} {Q : PostD} {σ : Env} {w : World}
theorem VW.scope {b : Code} (h : VW P n ds b (fun ds => noGotoP (Q ds)) σ w) : VW P n ds (.scope b) Q σ w := by
  refine ⟨fun a hA => wpIn_wide.2 (wp_scope_straight (wp_mono (wpIn_wide.1 (h.out a hA)) fun e a1 w1 hl => ?_))⟩
  cases e with
  | goto _ => obtain ⟨_, _, _, hq⟩ := hl; exact hq.elim
  | _ => exact hl
end
theorem VRes.rd3 {P : Program} {w : World} {a b c t u T1 T3 g1 g3 k : Nat} {σ : Env} {cs : Array Value} {z : Value} {R : Ending → World → Prop} [i : TAgg P t k] [j : TCell P u]
    (ha : σ a = .pointer (some ⟨g1, 0, none⟩)) (hc : σ c = .pointer (some ⟨g3, 0, none⟩)) (h1 : Blk w g1 T1 cs) (hs : Nat.beq cs.size k = true) (h3 : Blk w g3 T3 #[z])
    (h : R (.returned (.tuple #[.agg cs, σ b, z])) w) : VRes P [.cell a t, .tmp b, .cell c u] σ w R := by
  have k1 := run_load_agg (P := P) i h1 (Nat.eq_of_beq_eq_true hs)
  have k3 := run_load_cell (P := P) (t := u) (W := w) j.c (by have := h3.cell 0; simpa using this)
  unfold Instr.loadAt Instr.sureAddr at k1 k3
  simp only [Sem.run_bind, Sem.run_pure, Result.andThen_ok] at k1 k3
  exact ⟨⟨_, by simp [resE, ha, hc, asAddr, k1, k3], h⟩⟩
end Go.Proofs.YtebeidnmplnlpaaGreat
end

section
set_option maxRecDepth 10000
namespace Go.Proofs.YtebeidnmplnlpaaGreat
set_option linter.unusedVariables false
open Go.RowKit

theorem ERow.put {W : World} {B q : Nat} {v : Value} {es : List En} (h : ERow W (fun j => B ≤ j) B v es) (hq : q < B) (o : Obj) : ERow (W.putObj q o) (fun j => B ≤ j) B v es :=
  h.stay (by rw [World.putObj_size]; exact Nat.le_refl _) (fun j _ hj => World.putObj_heap_other (by have : B ≤ j := hj; omega))
/-- what stays while the frames are read -/
structure WrFix (v : Value) (w : World) (D : Nat) (o : Obj) (gx : Nat) (W : World) : Prop where
  bx : Blk W gx 33 #[v]
  dd : W.heap[D]? = some (.deferred (some []))
  ll : W.heap[D + 1]? = some o
  since : Below w.heap.size w W
/-- what the frames have said so far -/
structure WrAcc (bs : List (List UInt8)) (D g2 g4 : Nat) (k : Nat) (W : World) : Prop where
  ok : Blk W g4 4 #[.bool (decide (0 < k))]
  kp : ∃ kp A n c, takesA true Kp.zero (bs.take k) = some kp ∧ inR kp.base 1099511627776 ∧ kp.es.length ≤ k ∧ Blk W g2 50 (kC kp A n c) ∧ ERow W (fun j => D + 2 ≤ j) (D + 2) (.slice A n c) kp.es
section
variable {v : Value} {w W W' : World} {D : Nat} {o o' : Obj} {g2 g4 gx g k : Nat} {bs : List (List UInt8)}
theorem WrFix.later (h : WrFix v w D o gx W) (hb : Below W.heap.size W W') : WrFix v w D o gx W' :=
  ⟨h.bx.later hb, obj_later h.dd hb, obj_later h.ll hb, h.since.trans (hb.mono h.since.size)⟩
theorem WrFix.only (h : WrFix v w D o gx W) (hg : W.grownBy W' (some g)) (hx : gx ≠ g) (hd : D ≠ g) (hl : D + 1 ≠ g) (hw : w.heap.size ≤ g) : WrFix v w D o gx W' :=
  ⟨h.bx.only hg hx, obj_only h.dd hg hd, obj_only h.ll hg hl, only_new h.since hg hw h.since.size⟩
theorem WrFix.out {F : Foot} (h : WrFix v w D o gx W) (ho : Out F W W') (hx : ¬ F gx) (hd : ¬ F D) (hl : ¬ F (D + 1)) (hw : ∀ j, F j → w.heap.size ≤ j) : WrFix v w D o gx W' :=
  ⟨(ho.block gx (blk_lt h.bx) hx).trans h.bx, (ho.block D (Array.getElem?_eq_some_iff.1 h.dd).1 hd).trans h.dd, (ho.block (D + 1) (Array.getElem?_eq_some_iff.1 h.ll).1 hl).trans h.ll, h.since.trans (ho.below hw h.since.size)⟩
theorem WrFix.loop (h : WrFix v w D o gx W) (hx : gx < D) (hw : w.heap.size ≤ D) : WrFix v w D o' gx (W.putObj (D + 1) o') :=
  ⟨h.bx.putObj (by omega) _, put_other h.dd (by omega), put_same h.ll, Below.putObj h.since (by omega) _⟩
theorem WrAcc.later (h : WrAcc bs D g2 g4 k W) (hb : Below W.heap.size W W') : WrAcc bs D g2 g4 k W' := by
  obtain ⟨h1, kp, A, n, c, e1, e2, e3, h2, h3⟩ := h
  exact ⟨h1.later hb, kp, A, n, c, e1, e2, e3, h2.later hb, h3.below hb⟩
theorem WrAcc.loop (h : WrAcc bs D g2 g4 k W) (h2' : g2 < D) (h4' : g4 < D) (o : Obj) : WrAcc bs D g2 g4 k (W.putObj (D + 1) o) := by
  obtain ⟨h1, kp, A, n, c, e1, e2, e3, h2, h3⟩ := h
  exact ⟨h1.putObj (by omega) _, kp, A, n, c, e1, e2, e3, h2.putObj (by omega) _, h3.put (by omega) _⟩
end
structure WrJ (bs : List (List UInt8)) (v : Value) (w : World) (D : Nat) (o : Obj) (g2 g4 gx : Nat) (k : Nat) (W : World) : Prop where
  fix : WrFix v w D o gx W
  acc : WrAcc bs D g2 g4 k W
/-- the round that leaves -/
structure WrX (bs : List (List UInt8)) (v : Value) (w : World) (D : Nat) (r : Loop) (g2 g4 gx : Nat) (W : World) : Prop where
  fix : WrFix v w D (.loop { r with state := .done, pending := some (.exit 0) }) gx W
  ok : Blk W g4 4 #[.bool false]
  kp : ∃ cs : Array Value, cs.size = 5 ∧ Blk W g2 50 cs
  no : takesA true Kp.zero bs = none
  some_ : bs ≠ []
def RdV (W : World) (B : Nat) (o : Option Kp) (wh : Bool) (v : Value) : Prop := match o with
  | some kp => ∃ A n c, v = .tuple #[.agg (kC kp A n c), .bool wh, .bool true] ∧ ERow W (fun j => B ≤ j) B (.slice A n c) kp.es
  | none => v = .tuple #[.agg (kC Kp.zero none 0 0), .bool false, .bool false]
theorem places_grow {l : List UInt8} : ∀ {k : Nat}, (∀ i, i < k → Frame.okAt l i) → (k : Int) ≤ Frame.place l k
  | 0, _ => by unfold Frame.place; omega
  | k + 1, h => by
    have h1 := places_grow (k := k) (fun i hi => h i (by omega))
    have h2 := Frame.place_ok (h k (by omega))
    omega
set_option maxHeartbeats 4000000 in
theorem walRead_any (A : Option Addr) (n c : Nat) (l : List UInt8) (w : World) (hn : n ≤ 16777216) (hnc : n ≤ c) (hr : Reads w w.heap.size 1 A n (bv l)) :
    Calls Tryz.prog 42 #[.slice A n c] w fun e w' => (∃ v, e = .returned v ∧ RdV w' w.heap.size (readW l) (isWhole l) v) ∧ Below w.heap.size w w' := by
  have hln : l.length = n := by have := hr.1; rw [bv_length] at this; omega
  refine calls_vw Tryz.func42 rfl (by kernel_rfl) ?_
  refine VW.seq (VW.vc (by kernel_rfl) ?_)
  ((conv => whnf); (repeat ((first | (refine VL.cons ?_) | (refine VC.region ?_)); (conv => whnf))))
  ((repeat ((fail); (conv => whnf))))
  refine VSem.allocZ (z := .agg (kC Kp.zero none 0 0)) (by kernel_rfl) ?_
  intro w1 g2 hb2 hg2 hl2 hB1
  replace hb2 : Blk w1 g2 50 (kC Kp.zero none 0 0) := hb2
  ((conv => whnf); (repeat ((first | (refine VL.cons ?_)); (conv => whnf))))
  ((repeat ((fail); (conv => whnf))))
  refine VSem.allocZ (z := .bool false) (by kernel_rfl) ?_
  intro w2 g4 hb4 hg4 hl4 hB2
  replace hb4 : Blk w2 g4 4 #[.bool false] := hb4
  have s1 := hB1.size
  have s2 := hB2.size
  have hB02 : Below w.heap.size w w2 := hB1.trans (hB2.mono s1)
  replace hb2 := hb2.later hB2
  ((conv => whnf); (repeat ((first | (refine VL.nil ?_)); (conv => whnf))))
  ((repeat ((fail); (conv => whnf))))
  refine VW.scope ?_
  refine VW.seq (VW.vc (by kernel_rfl) ?_)
  ((conv => whnf); (repeat ((first | (refine VL.cons ?_) | (refine VC.region ?_)); (conv => whnf))))
  ((repeat ((fail); (conv => whnf))))
  refine VCall.of (frEnds_any A n c l w2 (by omega) hnc ((hr.below hB02).more hB02.size)) ?_
  rintro e w3 ⟨k, hk, hno, rfl, hB3⟩
  refine ⟨_, rfl, ?_⟩
  obtain rfl := Frame.reach_eq hk hno
  have hwh : decide (Frame.place l (Frame.bodies l).length = (n : Int)) = isWhole l := by
    unfold isWhole
    rw [← hln]
    exact decide_eq_decide.2 Frame.whole_iff
  replace hb2 := hb2.later hB3
  replace hb4 := hb4.later hB3
  have hB03 := hB02.trans (hB3.mono hB02.size)
  have s3 := hB3.size
  ((conv => whnf); (repeat ((first | (refine VL.cons ?_) | (refine VL.nil ?_)); (conv => whnf))))
  ((repeat ((fail); (conv => whnf))))
  refine VW.seq (VW.vc (by kernel_rfl) ?_)
  ((conv => whnf); (repeat ((first | (refine VC.label ?_)); (conv => whnf))))
  ((repeat ((fail); (conv => whnf))))
  refine VW.seq (VW.seq (VW.vc (by kernel_rfl) ?_))
  ((conv => whnf); (repeat ((first | (refine VL.cons ?_) | (refine VC.region ?_)); (conv => whnf))))
  ((repeat ((fail); (conv => whnf))))
  refine VCall.of (frAll_any (.slice A n c) ⟨_, _, _, rfl⟩ w3) ?_
  rintro e w4 ⟨gx, rfl, hbx, hgx, hB4⟩
  refine ⟨_, rfl, ?_⟩
  have hxl := blk_lt hbx
  replace hb2 := hb2.later hB4
  replace hb4 := hb4.later hB4
  have hB04 := hB03.trans (hB4.mono hB03.size)
  obtain ⟨o1, o2, o3, o4⟩ : w.heap.size ≤ g2 ∧ g2 < g4 ∧ g4 < gx ∧ gx < w4.heap.size := by omega
  clear hg2 hl2 hB1 hg4 hl4 hB2 s1 s2 hB02 hB3 hB03 s3 hB4 hxl hgx hk hno
  ((conv => whnf); (repeat ((first | (refine VL.nil ?_)); (conv => whnf))))
  ((repeat ((fail); (conv => whnf))))
  refine VW.block (VW.range rfl (by kernel_rfl) ?_)
  intro r w5 hr1 hr2 hr3 hr4 hr5 hA5 hB5 hD5 hL5 hS5
  obtain ⟨D, hD⟩ : ∃ D, w4.heap.size = D := ⟨_, rfl⟩
  obtain ⟨bs, hbs⟩ : ∃ bs, Frame.bodies l = bs := ⟨_, rfl⟩
  have eS : readW l = if bs = [] then none else takesA true Kp.zero bs := by rw [← hbs]; rfl
  rw [hD] at o4 hD5 hL5 hS5
  have hwD : w.heap.size ≤ D := by omega
  have hB05 := hB04.trans (hB5.mono hB04.size)
  have hJ0 : WrJ bs (.slice A n c) w D (.loop r) g2 g4 gx 0 w5 :=
    ⟨⟨hbx.later hB5, hD5, hL5, hB05⟩, ⟨hb4.later hB5, Kp.zero, none, 0, 0, rfl, ⟨by decide, by decide⟩, Nat.le_refl _, hb2.later hB5, ERow.nil _ _ _⟩⟩
  clear hb2 hb4 hbx hD5 hL5 hB5 hB04 hB05
  rw [hD]
  refine VCall.of (all1 _ ⟨gx, 0, none⟩ A n c l (WrJ bs (.slice A n c) w D (.loop r) g2 g4 gx) (fun _ => WrX bs (.slice A n c) w D r g2 g4 gx) w5 (by omega) hnc hln (.inr ⟨_, rfl⟩) ?_ hJ0) ?_
  · refine ⟨fun k W hJ => ⟨?_, ?_⟩, fun k W W' hJ hb => ⟨hJ.fix.later hb, hJ.acc.later hb⟩, fun k W hk hok hJ B u m hO => ?_⟩
    · rw [hJ.fix.bx.cell 0]; rfl
    · exact (hr.below hJ.fix.since).more hJ.fix.since.size
    have hkb : k < bs.length := by
      rw [← hbs]
      exact Frame.reach_le (k := k + 1) (fun i hi => by
        by_cases e : i = k
        · rw [e]; exact hok
        · exact hk i (by omega))
    obtain ⟨b, hb⟩ : ∃ b, bs[k]? = some b := ⟨_, List.getElem?_eq_getElem hkb⟩
    have hbl : 1 ≤ b.length ∧ b.length ≤ 1048576 := Frame.body_ok (l := l) (by rw [hbs]; exact hb)
    have hbk : Frame.body l k = b := Frame.body_at (by rw [hbs]; exact hb)
    have hp0 : Frame.place l k = 0 ↔ k = 0 := Frame.place_zero (by rw [hbs]; exact hkb)
    have hkn : k ≤ 16777216 := by
      have h1 := Frame.place_le hk
      have h2 := places_grow hk
      omega
    obtain ⟨A1, c1, rfl⟩ := own_form hO
    rw [hbk] at hO
    have hml : b.length = m := hO.len
    refine VYield.of hJ.fix.ll hr1 hA5 (by rw [hr3, hr4, hr5]; kernel_rfl) ?_
    rw [hr3, hr4, hr5]
    ((conv => whnf); (repeat ((first | (refine VL.cons ?_) | (refine VL.nil ?_) | (refine VC.seqS rfl ?_) | (refine VC.region ?_)); (conv => whnf))))
    refine ⟨r, hJ.fix.ll, hr1, ?_⟩
    obtain ⟨W2, hW2⟩ : ∃ W2, W2 = W.putObj (D + 1) (.loop { r with state := .busy }) := ⟨_, rfl⟩
    rw [← hW2]
    have fx : WrFix (.slice A n c) w D (.loop { r with state := .busy }) gx W2 := by rw [hW2]; exact hJ.fix.loop (by omega) (by omega)
    have ac : WrAcc bs D g2 g4 k W2 := by rw [hW2]; exact hJ.acc.loop (by omega) (by omega) _
    have hO2 : Own W2 B (.slice A1 m c1) m b := by rw [hW2]; exact hO.loop hJ.fix.ll _
    have hDl : D + 1 < W2.heap.size := (Array.getElem?_eq_some_iff.1 fx.ll).1
    clear hW2 hJ hO
    obtain ⟨p4, kp, Ak, nk, ck, hkp, hbase, hlen, p2, hE⟩ := ac
    have hnk := hE.at_.2.2
    have htk : bs.take (k + 1) = bs.take k ++ [b] := take_snoc hb
    have hsn : takesA true Kp.zero (bs.take (k + 1)) = takes kp b (decide (k = 0)) := by
      rw [htk, takesA_snoc, hkp]
      simp only
      congr 1
      rw [Bool.true_and]
      cases k with
      | zero => rfl
      | succ k =>
        cases bs with
        | nil => simp at hkb
        | cons x y => rfl
    ((conv => whnf); (repeat ((first | (refine VL.cons ?_) | (refine VC.seqS rfl ?_) | (refine VC.region ?_) | (refine VC.block ?_)); (conv => whnf))))
    ((repeat ((fail); (conv => whnf))))
    rw [show decide (Frame.place l k = 0) = decide (k = 0) from decide_eq_decide.2 hp0]
    refine VCall.of (takes_any (fun j => D + 2 ≤ j) (D + 2) g2 kp Ak A1 nk ck m c1 b (decide (k = 0)) W2 p2 hE hO2.reads (by omega) hO2.cap (by omega) (by omega) (fun j hj => hj) (by omega) hbase) ?_
    rintro e W3 ⟨hout, hres⟩
    have hrb : ∀ j, (Value.slice Ak nk ck).ownBlock = some j → D + 2 ≤ j := fun j hj => (hE.lt hj).2
    have hF : ∀ j, j < D + 2 → j ≠ g2 → ¬ (j = g2 ∨ (Value.slice Ak nk ck).ownBlock = some j) := fun j hj hne h => by
      rcases h with h | h
      · exact hne h
      · have := hrb j h; omega
    have fx3 : WrFix (.slice A n c) w D (.loop { r with state := .busy }) gx W3 := fx.out hout (hF gx (by omega) (by omega)) (hF D (by omega) (by omega)) (hF (D + 1) (by omega) (by omega)) (fun j hj => by
      rcases hj with h | h
      · omega
      · have := hrb j h; omega)
    have p43 : Blk W3 g4 4 #[.bool (decide (0 < k))] := (hout.block g4 (blk_lt p4) (hF g4 (by omega) (by omega))).trans p4
    have hDl3 : D + 1 < W3.heap.size := (Array.getElem?_eq_some_iff.1 fx3.ll).1
    clear fx p4 hout hF
    cases hT : takes kp b (decide (k = 0)) with
    | none =>
      rw [hT] at hres hsn
      obtain ⟨rfl, cs, hcs5, hb2⟩ := hres
      refine ⟨_, rfl, ?_⟩
      ((conv => whnf); (repeat ((first | (refine VL.cons ?_)); (conv => whnf))))
      ((repeat ((fail); (conv => whnf))))
      refine VUnit.storeB p43 rfl rfl rfl ?_
      intro W4 p44 hg4
      replace p44 : Blk W4 g4 4 #[.bool false] := p44
      have fx4 := fx3.only hg4 (by omega) (by omega) (by omega) (by omega)
      have hb24 := hb2.only hg4 (by omega)
      ((conv => whnf); (repeat ((first | (refine VL.cons ?_) | (refine VL.nil ?_) | (refine VC.seqS rfl ?_) | (refine VC.region ?_)); (conv => whnf))))
      (repeat (first | ((first | (refine VL.cons ?_) | (refine VL.nil ?_) | (refine VC.cond ?_) | (refine VC.exit ?_) | (refine VBool.t ?_)); (conv => whnf)) | (refine VRead.loadB p44 rfl rfl ?_; (conv => whnf))))
      refine ⟨_, fx4.ll, .inr ⟨rfl, ⟨fx4.loop (by omega) (by omega), p44.putObj (by omega) _, ⟨cs, hcs5, hb24.putObj (by omega) _⟩, takesA_none hsn, fun e => by rw [e] at hkb; simp at hkb⟩⟩⟩
    | some kp' =>
      rw [hT] at hres hsn
      obtain ⟨rfl, A4, n4, c4, hb2, hE3⟩ := hres
      obtain ⟨hbase', hlen'⟩ := takes_in hT hbase
      refine ⟨_, rfl, ?_⟩
      ((conv => whnf); (repeat ((first | (refine VL.cons ?_)); (conv => whnf))))
      ((repeat ((fail); (conv => whnf))))
      refine VUnit.storeB p43 rfl rfl rfl ?_
      intro W4 p44 hg4
      replace p44 : Blk W4 g4 4 #[.bool true] := p44
      have fx4 := fx3.only hg4 (by omega) (by omega) (by omega) (by omega)
      have hb24 := hb2.only hg4 (by omega)
      have hE4 := hE3.keepG p43 hg4 (by decide) (fun e => by have := (hE3.lt e).2; omega)
      ((conv => whnf); (repeat ((first | (refine VL.cons ?_) | (refine VL.nil ?_) | (refine VC.seqS rfl ?_) | (refine VC.region ?_)); (conv => whnf))))
      (repeat (first | ((first | (refine VL.cons ?_) | (refine VL.nil ?_) | (refine VC.cond ?_) | (refine VC.skip ?_) | (refine VBool.f ?_)); (conv => whnf)) | (refine VRead.loadB p44 rfl rfl ?_; (conv => whnf))))
      refine ⟨_, fx4.ll, .inl ⟨rfl, ?_⟩⟩
      have er : (Loop.mk .ready none r.fn r.tmps r.params r.assign r.body r.defers) = r := by
        cases r; simp only at hr1 hr2; subst hr1 hr2; rfl
      have q1 : WrFix (.slice A n c) w D (.loop r) gx (W4.putObj (D + 1) (.loop r)) := fx4.loop (by omega) (by omega)
      show WrJ bs (.slice A n c) w D (.loop r) g2 g4 gx (k + 1) (W4.putObj (D + 1) (.loop (Loop.mk .ready none r.fn r.tmps r.params r.assign r.body r.defers)))
      rw [er]
      exact ⟨q1, p44.putObj (by omega) _, kp', A4, n4, c4, hsn, hbase', by omega, hb24.putObj (by omega) _, hE4.put (by omega) _⟩
  · rintro e W ⟨rfl, k, hk, hh⟩
    rcases hh with ⟨hno, hJ⟩ | ⟨_, hX⟩
    · have hkk : k = bs.length := by rw [← hbs]; exact Frame.reach_eq hk hno
      refine ⟨_, rfl, r, hJ.fix.ll, by rw [hr1]; decide, ?_⟩
      rw [hr2]
      (conv => whnf)
      obtain ⟨W2, hW2⟩ : ∃ W2, W2 = W.putObj (D + 1) (.loop { r with state := .exhausted, pending := none }) := ⟨_, rfl⟩
      rw [← hW2]
      have fx : WrFix (.slice A n c) w D (.loop { r with state := .exhausted, pending := none }) gx W2 := by rw [hW2]; exact hJ.fix.loop (by omega) (by omega)
      have ac : WrAcc bs D g2 g4 k W2 := by rw [hW2]; exact hJ.acc.loop (by omega) (by omega) _
      clear hW2 hJ hno
      obtain ⟨q4, kp, Ak, nk, ck, hkp, hbase, hlen, q2, hE⟩ := ac
      rw [hkk, List.take_of_length_le (Nat.le_refl _)] at hkp
      by_cases hk0 : 0 < k
      case neg =>
        have hbn : bs = [] := List.eq_nil_of_length_eq_zero (by omega)
        have hno : readW l = none := by rw [eS, if_pos hbn]
        rw [decide_eq_false hk0] at q4
        have hcs5 : (kC kp Ak nk ck).size = 5 := rfl
        refine VW.seq (VW.vc (by kernel_rfl) ?_)
        ((conv => whnf); (repeat ((first | (refine VL.cons ?_) | (refine VC.seqS rfl ?_) | (refine VC.region ?_)); (conv => whnf))))
        (repeat (first | ((first | (refine VL.cons ?_) | (refine VL.nil ?_) | (refine VC.seqS rfl ?_) | (refine VC.region ?_) | (refine VC.cond ?_) | (refine VBool.t ?_)); (conv => whnf)) | (refine VRead.loadB q4 rfl rfl ?_; (conv => whnf))))
        refine VRead.ofW (v := .agg (kC Kp.zero none 0 0)) (fun _ => by kernel_rfl) ?_
        ((conv => whnf); (repeat ((first | (refine VL.cons ?_)); (conv => whnf))))
        ((repeat ((fail); (conv => whnf))))
        refine VUnit.storeAB q2 rfl rfl (by rw [hcs5]; rfl) (by simp [kC, Kp.zero, Value.oneCell']) ?_
        intro W3 b2 y2
        rw [setFrom_allW (by rw [hcs5]; rfl)] at b2
        ((conv => whnf); (repeat ((first | (refine VL.cons ?_)); (conv => whnf))))
        ((repeat ((fail); (conv => whnf))))
        refine VUnit.storeB (q4.only y2 (by omega)) rfl rfl rfl ?_
        intro W4 b4 y4
        replace b4 : Blk W4 g4 4 #[.bool false] := b4
        ((conv => whnf); (repeat ((first | (refine VL.nil ?_) | (refine VC.ret ?_)); (conv => whnf))))
        ((repeat ((fail); (conv => whnf))))
        refine ⟨obj_only (obj_only fx.dd y2 (by omega)) y4 (by omega), ?_⟩
        have b2' := (b2.only y4 (by omega)).putObj (r := D) (by omega) (.deferred none)
        have b4' := b4.putObj (r := D) (by omega) (.deferred none)
        refine VRes.rd3 rfl rfl b2' rfl b4' ?_
        refine ⟨⟨_, rfl, ?_⟩, Below.putObj (only_new (only_new fx.since y2 (by omega) fx.since.size) y4 (by omega) (by have := fx.since.size; have := y2.size; omega)) (by omega) _⟩
        rw [hno]
        exact rfl
      have hyes : readW l = some kp := by rw [eS, if_neg (fun e => by rw [e] at hkk; simp at hkk; omega), hkp]
      rw [decide_eq_true hk0] at q4
      refine VW.seq (VW.vc (by kernel_rfl) ?_)
      ((conv => whnf); (repeat ((first | (refine VL.cons ?_) | (refine VC.seqS rfl ?_) | (refine VC.region ?_)); (conv => whnf))))
      (repeat (first | ((first | (refine VL.cons ?_) | (refine VL.nil ?_) | (refine VC.cond ?_) | (refine VC.skip ?_) | (refine VBool.f ?_)); (conv => whnf)) | (refine VRead.loadB q4 rfl rfl ?_; (conv => whnf))))
      refine VW.vc (by kernel_rfl) ?_
      ((conv => whnf); (repeat ((first | (refine VL.cons ?_) | (refine VC.seqS rfl ?_) | (refine VC.region ?_)); (conv => whnf))))
      ((repeat ((fail); (conv => whnf))))
      refine VRead.loadAB1 q2 rfl rfl ?_
      ((conv => whnf); (repeat ((first | (refine VL.cons ?_)); (conv => whnf))))
      ((repeat ((fail); (conv => whnf))))
      refine VUnit.storeAB q2 rfl rfl rfl (by simp [kC, Value.oneCell']) ?_
      intro W3 b2 y2
      rw [setFrom_allW rfl] at b2
      have hE3 := hE.keepG q2 y2 (by decide) (fun e => by have := (hE.lt e).2; omega)
      ((conv => whnf); (repeat ((first | (refine VL.cons ?_)); (conv => whnf))))
      ((repeat ((fail); (conv => whnf))))
      refine VUnit.storeB (q4.only y2 (by omega)) rfl rfl rfl ?_
      intro W4 b4 y4
      replace b4 : Blk W4 g4 4 #[.bool true] := b4
      have hE4 := hE3.keepG (q4.only y2 (by omega)) y4 (by decide) (fun e => by have := (hE3.lt e).2; omega)
      ((conv => whnf); (repeat ((first | (refine VL.nil ?_) | (refine VC.ret ?_)); (conv => whnf))))
      ((repeat ((fail); (conv => whnf))))
      refine ⟨obj_only (obj_only fx.dd y2 (by omega)) y4 (by omega), ?_⟩
      have b2' := (b2.only y4 (by omega)).putObj (r := D) (by omega) (.deferred none)
      have b4' := b4.putObj (r := D) (by omega) (.deferred none)
      refine VRes.rd3 rfl rfl b2' rfl b4' ?_
      refine ⟨⟨_, rfl, ?_⟩, Below.putObj (only_new (only_new fx.since y2 (by omega) fx.since.size) y4 (by omega) (by have := fx.since.size; have := y2.size; omega)) (by omega) _⟩
      rw [hyes, ← hwh]
      exact ⟨Ak, nk, ck, rfl, (hE4.put (by omega) _).more (by omega) (fun j _ hj => by have : D + 2 ≤ j := hj; show w.heap.size ≤ j; omega)⟩
    · refine ⟨_, rfl, _, hX.fix.ll, by simp, ?_⟩
      (conv => whnf)
      obtain ⟨W2, hW2⟩ : ∃ W2, W2 = W.putObj (D + 1) (.loop { r with state := .exhausted, pending := some (.exit 0) }) := ⟨_, rfl⟩
      rw [← hW2]
      have fx : WrFix (.slice A n c) w D (.loop { r with state := .exhausted, pending := some (.exit 0) }) gx W2 := by rw [hW2]; exact hX.fix.loop (by omega) (by omega)
      have q4 : Blk W2 g4 4 #[.bool false] := by rw [hW2]; exact hX.ok.putObj (by omega) _
      obtain ⟨cs, hcs5, hbx⟩ := hX.kp
      have q2 : Blk W2 g2 50 cs := by rw [hW2]; exact hbx.putObj (by omega) _
      have hno : readW l = none := by rw [eS, if_neg hX.some_, hX.no]
      clear hW2 hX hbx
      refine VW.seq (VW.vc (by kernel_rfl) ?_)
      ((conv => whnf); (repeat ((first | (refine VL.cons ?_) | (refine VC.seqS rfl ?_) | (refine VC.region ?_)); (conv => whnf))))
      (repeat (first | ((first | (refine VL.cons ?_) | (refine VL.nil ?_) | (refine VC.seqS rfl ?_) | (refine VC.region ?_) | (refine VC.cond ?_) | (refine VBool.t ?_)); (conv => whnf)) | (refine VRead.loadB q4 rfl rfl ?_; (conv => whnf))))
      refine VRead.ofW (v := .agg (kC Kp.zero none 0 0)) (fun _ => by kernel_rfl) ?_
      ((conv => whnf); (repeat ((first | (refine VL.cons ?_)); (conv => whnf))))
      ((repeat ((fail); (conv => whnf))))
      refine VUnit.storeAB q2 rfl rfl (by rw [hcs5]; rfl) (by simp [kC, Kp.zero, Value.oneCell']) ?_
      intro W3 b2 y2
      rw [setFrom_allW (by rw [hcs5]; rfl)] at b2
      ((conv => whnf); (repeat ((first | (refine VL.cons ?_)); (conv => whnf))))
      ((repeat ((fail); (conv => whnf))))
      refine VUnit.storeB (q4.only y2 (by omega)) rfl rfl rfl ?_
      intro W4 b4 y4
      replace b4 : Blk W4 g4 4 #[.bool false] := b4
      ((conv => whnf); (repeat ((first | (refine VL.nil ?_) | (refine VC.ret ?_)); (conv => whnf))))
      ((repeat ((fail); (conv => whnf))))
      refine ⟨obj_only (obj_only fx.dd y2 (by omega)) y4 (by omega), ?_⟩
      have b2' := (b2.only y4 (by omega)).putObj (r := D) (by omega) (.deferred none)
      have b4' := b4.putObj (r := D) (by omega) (.deferred none)
      refine VRes.rd3 rfl rfl b2' rfl b4' ?_
      refine ⟨⟨_, rfl, ?_⟩, Below.putObj (only_new (only_new fx.since y2 (by omega) fx.since.size) y4 (by omega) (by have := fx.since.size; have := y2.size; omega)) (by omega) _⟩
      rw [hno]
      exact rfl
end Go.Proofs.YtebeidnmplnlpaaGreat
end

section
set_option maxRecDepth 10000
namespace Go.Proofs.YtebeidnmplnlpaaGreat
set_option linter.unusedVariables false
open Go.RowKit

structure WlS where
  n : Int
  base : Int
  last : Int
def wlC (d : Nat) (w : WlS) : Array Value := #[.pointer (some ⟨d, 0, none⟩), .int .i64 w.n, .int .i64 w.base, .int .i64 w.last]
def addF (U : Foot) (g : Nat) : Foot := fun j => U j ∨ j = g
theorem Step.add {W W' : World} {U U' : Foot} (h : Step W U W' U') (g : Nat) : Step W (addF U g) W' (addF U' g) :=
  ⟨h.out.mono (fun j hj => .inl hj), fun j hj => by
    rcases hj with h' | h'
    · rcases h.sub j h' with h' | h'
      · exact .inl (.inl h')
      · exact .inr h'
    · exact .inl (.inr h')⟩
theorem Step.cell {W W' : World} {U : Foot} {g : Nat} (hg : W.grownBy W' (some g)) : Step W (addF U g) W' (addF U g) := ⟨Out.grown hg (.inr rfl), fun j hj => .inl hj⟩
theorem Dsk.cell {W W' : World} {U : Foot} {d g : Nat} {S : DS} (h : Dsk W U d S) (hg : W.grownBy W' (some g)) (hU : ¬ U g) : Dsk W' U d S :=
  ⟨h.disk.stay hg.size (fun j hj hu => hg.block j hj (fun e => by injection e with e; exact hU (e ▸ hu))), fun j hj => Nat.lt_of_lt_of_le (h.lt j hj) hg.size⟩
set_option maxHeartbeats 2000000 in
theorem walClears_any (W : World) (U : Foot) (g d : Nat) (S : DS) (wl : WlS) (h : Dsk W U d S) (hw : Blk W g 82 (wlC d wl)) (hg : ¬ U g) (hn : -9223372036854775808 ≤ wl.n ∧ wl.n ≤ 9223372036854775807) (hc : S.k.calls + 100 < 1000000) :
    Calls Tryz.prog 44 #[.pointer (some ⟨g, 0, none⟩)] W fun e W' => e = .returned (.int .i64 (S.clear wPre (wName wl.n) S.keys).1) ∧ ∃ U', Dsk W' U' d (S.clear wPre (wName wl.n) S.keys).2 ∧ Step W U W' U' := by
  have hwn := wName_le wl.n
  refine calls_vc Tryz.func44 rfl (by kernel_rfl) ?_
  ((conv => whnf); (repeat ((first | (refine VL.cons ?_) | (refine VL.nil ?_) | (refine VC.seqS rfl ?_) | (refine VC.region ?_)); (conv => whnf))))
  (repeat (first | ((first | (refine VL.cons ?_) | (refine VC.seqS rfl ?_) | (refine VC.region ?_) | (refine VRead.fld ?_) | (refine VC.seq ?_)); (conv => whnf)) | (refine VRead.loadB hw rfl rfl ?_; (conv => whnf))))
  refine VCall.of (oList W U d S h) ?_
  rintro e w5 ⟨Al, kl, rfl, hOl, hB5⟩
  refine ⟨_, rfl, ?_⟩
  have hfew := h.wf.t.few
  have hnm : ∀ s ∈ S.keys, s.length ≤ 32 := fun s hs => by
    obtain ⟨p, hp, rfl⟩ := List.mem_map.1 hs
    exact (h.wf.t.names p hp).2
  have hkl : S.keys.length = S.t.length := by unfold DS.keys; simp
  have hfr : Free U (.slice Al S.t.length kl) := Free.new hOl h.lt
  obtain ⟨keys, hkeys⟩ : ∃ keys, S.keys = keys := ⟨_, rfl⟩
  replace hOl : w5.ownsRow W.heap.size 9 1 (.slice Al S.t.length kl) S.t.length (keys.map encStr) := by rw [← hkeys]; exact hOl
  rw [hkeys] at hnm hkl ⊢
  obtain ⟨R, hR⟩ : ∃ R, S.clear wPre (wName wl.n) keys = R := ⟨_, rfl⟩
  rw [hR]
  ((conv => whnf); (repeat ((first | (refine VL.cons ?_)); (conv => whnf))))
  ((repeat ((first | (refine VL.cons ?_) | (refine VL.nil ?_) | (refine VC.block ?_) | (refine VRead.lenS ?_)); (conv => whnf))))
  refine VC.loop [12] [(2, 2), (4, 5), (12, 36)] (fun q vs w => ∃ (j : Nat) (U' : Foot) (S' : DS), vs = [.int .i64 (j : Int)] ∧ q = S.t.length - j ∧ j ≤ S.t.length ∧ Dsk w U' d S' ∧ Step W U w U' ∧ Blk w g 82 (wlC d wl) ∧ ¬ U' g ∧ w.ownsRow W.heap.size 9 1 (.slice Al S.t.length kl) S.t.length (keys.map encStr) ∧ Free U' (.slice Al S.t.length kl) ∧
      S'.k.calls ≤ S.k.calls + j ∧ R = S'.clear wPre (wName wl.n) (keys.drop j)) (by kernel_rfl)
    ⟨_, 0, U, S, rfl, rfl, by omega, h.below hB5, Step.new hB5, hw.later hB5, hg, hOl, hfr, by omega, by rw [List.drop_zero]; exact hR.symm⟩ ?_
  clear hR
  clear hOl hfr hB5 hg hw
  rintro q τ vs v ⟨j, U', S'', rfl, rfl, hj, hd, st, hw, hg, hO, hfr, hcl5, e1⟩
  by_cases hjn : j < S.t.length
  case neg =>
    rw [List.drop_of_length_le (by omega)] at e1
    unfold DS.clear at e1
    rw [e1]
    ((conv => whnf); (repeat ((first | (refine VL.cons ?_) | (refine VL.nil ?_) | (refine VC.seqS rfl ?_) | (refine VC.region ?_)); (conv => whnf))))
    ((repeat ((first | (refine VL.cons ?_) | (refine VL.nil ?_) | (refine VC.seqS rfl ?_) | (refine VC.region ?_) | (refine VC.cond ?_) | (refine VC.exit ?_) | (refine VC.ret ?_) | (refine VBool.dF (by omega) ?_) | (refine VC.seq ?_)); (conv => whnf))))
    exact ⟨rfl, U', hd, st⟩
  obtain ⟨x, hx⟩ : ∃ x, keys[j]? = some x := ⟨_, List.getElem?_eq_getElem (by omega)⟩
  have hxl := hnm x (List.mem_of_getElem? hx)
  obtain ⟨ad, u, rfl, _, hu, hcell⟩ := (Reads.row hO).at_ hjn
  obtain ⟨x', hx', rfl⟩ := map_at hu
  rw [hx] at hx'
  obtain rfl := Option.some.inj hx'
  have hcell' : v.cell? (ad.add j) = some (.string (txt x)) := hcell
  have hdr : keys.drop j = x :: keys.drop (j + 1) := by
    obtain ⟨hjl, hje⟩ := List.getElem?_eq_some_iff.1 hx
    rw [← hje]
    exact List.drop_eq_getElem_cons hjl
  rw [hdr] at e1
  unfold DS.clear at e1
  ((conv => whnf); (repeat ((first | (refine VL.cons ?_) | (refine VL.nil ?_) | (refine VC.seqS rfl ?_) | (refine VC.region ?_)); (conv => whnf))))
  (repeat (first | ((first | (refine VL.cons ?_) | (refine VL.nil ?_) | (refine VC.seqS rfl ?_) | (refine VC.region ?_) | (refine VC.cond ?_) | (refine VC.block ?_) | (refine VC.skip ?_) | (refine VBool.dT (by omega) ?_) | (refine VRead.load1 (by assumption) ?_) | (refine VRead.at1 (by omega) ?_) | (refine VC.seq ?_)); (conv => whnf)) | (refine VRead.at1 hjn ?_; (conv => whnf))))
  refine VCall.of (hasPrefix_any x wPre v (by omega) (by decide)) ?_
  rintro e v' ⟨rfl, eW⟩
  obtain rfl := eW.symm
  refine ⟨_, rfl, ?_⟩
  cases hp : isPre wPre x with
  | false =>
    rw [if_neg (by rw [hp]; simp)] at e1
    ((conv => whnf); (repeat ((first | (refine VL.cons ?_)); (conv => whnf))))
    ((repeat ((first | (refine VL.cons ?_) | (refine VL.nil ?_) | (refine VC.region ?_) | (refine VC.cond ?_) | (refine VC.skip ?_) | (refine VBool.f ?_) | (refine VWrap.i64 (by omega) (by omega) ?_)); (conv => whnf))))
    exact ⟨_, by omega, j + 1, U', S'', rfl, rfl, by omega, hd, st, hw, hg, hO, hfr, by omega, e1⟩
  | true =>
    ((conv => whnf); (repeat ((first | (refine VL.cons ?_)); (conv => whnf))))
    (repeat (first | ((first | (refine VL.cons ?_) | (refine VBool.t ?_) | (refine VRead.fld ?_)); (conv => whnf)) | (refine VRead.loadB hw rfl rfl ?_; (conv => whnf))))
    refine VCall.of (walName_any wl.n v hn) ?_
    rintro e v1 ⟨rfl, hBn⟩
    refine ⟨_, rfl, ?_⟩
    have hd1 := hd.below hBn
    have hw1 := hw.later hBn
    have st1 := st.trans (Step.new hBn)
    obtain ⟨hO1, hfr1⟩ := (Step.new (U := U') hBn).rows hO hfr
    by_cases hxe : x = wName wl.n
    · rw [if_neg (by rw [hp]; simp [hxe])] at e1
      have hxe' : txt x = txt (wName wl.n) := by rw [hxe]
      ((conv => whnf); (repeat ((first | (refine VL.cons ?_)); (conv => whnf))))
      (repeat (first | ((first | (refine VL.cons ?_) | (refine VL.nil ?_) | (refine VC.region ?_) | (refine VC.cond ?_) | (refine VC.skip ?_) | (refine VBool.t ?_) | (refine VBool.nT (by omega) ?_) | (refine VWrap.i64 (by omega) (by omega) ?_)); (conv => whnf)) | (refine VBool.nT hxe' ?_; (conv => whnf))))
      exact ⟨_, by omega, j + 1, U', S'', rfl, rfl, by omega, hd1, st1, hw1, hg, hO1, hfr1, by omega, e1⟩
    · rw [if_pos ⟨hp, hxe⟩] at e1
      have hxe' : ¬ txt x = txt (wName wl.n) := fun e => hxe (txt_inj.1 e)
      ((conv => whnf); (repeat ((first | (refine VL.cons ?_)); (conv => whnf))))
      (repeat (first | ((first | (refine VL.cons ?_) | (refine VL.nil ?_) | (refine VC.seqS rfl ?_) | (refine VC.region ?_) | (refine VC.cond ?_) | (refine VBool.t ?_) | (refine VBool.nF (by omega) ?_) | (refine VRead.fld ?_)); (conv => whnf)) | (refine VBool.nF hxe' ?_; (conv => whnf)) | (refine VRead.loadB hw1 rfl rfl ?_; (conv => whnf))))
      refine VCall.of (oRemove v1 U' d S'' x hd1 (by omega) (by omega)) ?_
      rintro e v2 ⟨rfl, U2, hd2, st2⟩
      refine ⟨_, rfl, ?_⟩
      have st02 := st1.trans st2
      have hcl6 : (S''.remove x).2.k.calls = S''.k.calls + 1 := DS.remove_calls
      by_cases c4 : (S''.remove x).1 = 0
      case neg =>
        rw [andT_no c4] at e1
        rw [e1]
        ((conv => whnf); (repeat ((first | (refine VL.cons ?_) | (refine VL.nil ?_) | (refine VC.seqS rfl ?_) | (refine VC.region ?_) | (refine VC.cond ?_)); (conv => whnf))))
        (repeat (first | ((first | (refine VL.cons ?_) | (refine VL.nil ?_) | (refine VC.seqS rfl ?_) | (refine VC.region ?_) | (refine VC.ret ?_) | (refine VBool.nF (by omega) ?_)); (conv => whnf)) | (refine VBool.nF c4 ?_; (conv => whnf))))
        exact ⟨rfl, U2, hd2, st02⟩
      rw [andT_ok c4] at e1
      obtain ⟨hO2, hfr2⟩ := st2.rows hO1 hfr1
      obtain ⟨hw2, hg2⟩ := st2.blk hw1 hg
      ((conv => whnf); (repeat ((first | (refine VL.cons ?_) | (refine VL.nil ?_) | (refine VC.seqS rfl ?_) | (refine VC.region ?_) | (refine VC.cond ?_)); (conv => whnf))))
      (repeat (first | ((first | (refine VL.cons ?_) | (refine VL.nil ?_) | (refine VC.region ?_) | (refine VC.skip ?_) | (refine VBool.nT (by omega) ?_) | (refine VWrap.i64 (by omega) (by omega) ?_)); (conv => whnf)) | (refine VBool.nT c4 ?_; (conv => whnf))))
      exact ⟨_, by omega, j + 1, U2, _, rfl, rfl, by omega, hd2, st02, hw2, hg2, hO2, hfr2, by omega, e1⟩
/-! ### Save -/
def wsBad (w : WlS) (set : Bool) (term vote fr : Int) : Prop := (set = true ∧ ¬ (inR term 1099511627776 ∧ inR vote 7)) ∨ (0 < fr ∧ (fr ≤ w.base ∨ w.last + 1 < fr))
instance (w : WlS) (set : Bool) (term vote fr : Int) : Decidable (wsBad w set term vote fr) := by unfold wsBad; infer_instance
def wsSet (set : Bool) (term vote : Int) : List UInt8 := if set = true then Frame.put (recB 1 [term, vote]) else []
def wsB (set : Bool) (term vote fr : Int) (es : List En) : List UInt8 := wsSet set term vote ++ (if 0 < fr then written fr es else [])
def wlast (w : WlS) (fr : Int) (es : List En) : WlS := if 0 < fr ∧ 0 < es.length then { w with last := fr + es.length - 1 } else w
def DS.wapp (S : DS) (nm b : List UInt8) : Int × DS := andT (S.append nm b) fun S1 => S1.sync nm
def DS.wsave (S : DS) (w : WlS) (set : Bool) (term vote fr : Int) (es : List En) : (Int × DS) × WlS :=
  if wsBad w set term vote fr ∨ (0 < fr ∧ ¬ ∀ e ∈ es, mayE e) then ((1, S), w) else
  if wsB set term vote fr es = [] then ((0, S), w) else
    (S.wapp (wName w.n) (wsB set term vote fr es), if (S.wapp (wName w.n) (wsB set term vote fr es)).1 = 0 then wlast w fr es else w)
end Go.Proofs.YtebeidnmplnlpaaGreat
end

section
set_option maxRecDepth 10000
namespace Go.Proofs.YtebeidnmplnlpaaGreat
set_option linter.unusedVariables false
open Go.RowKit

structure WlOk (w : WlS) : Prop where
  n1 : 0 ≤ w.n
  n2 : w.n ≤ 99999999
  b1 : 0 ≤ w.base
  b2 : w.base ≤ 1099511627776
  l1 : w.base ≤ w.last
  l2 : w.last ≤ 1100000000000000
set_option maxHeartbeats 2000000 in
theorem walSave_any (W : World) (U : Foot) (g d : Nat) (S : DS) (wl : WlS) (set : Bool) (term vote fr : Int) (A : Option Addr) (n c : Nat) (es : List En) (h : Dsk W U d S) (hw : Blk W g 82 (wlC d wl)) (hg : ¬ U g) (hok : WlOk wl)
    (hE : EnAt W (fun j => j < W.heap.size) A n es) (hn : n ≤ 1000000) (ht : -9223372036854775808 ≤ term ∧ term ≤ 9223372036854775807) (hv : -9223372036854775808 ≤ vote ∧ vote ≤ 9223372036854775807) (hc : S.k.calls + 10 < 1000000) :
    Calls Tryz.prog 20 #[.pointer (some ⟨g, 0, none⟩), .bool set, .int .i64 term, .int .i64 vote, .int .i64 fr, .slice A n c] W fun e W' => e = .returned (.int .i64 (S.wsave wl set term vote fr es).1.1) ∧
      ∃ U', Dsk W' U' d (S.wsave wl set term vote fr es).1.2 ∧ Blk W' g 82 (wlC d (S.wsave wl set term vote fr es).2) ∧ ¬ U' g ∧ Step W (addF U g) W' (addF U' g) := by
  obtain ⟨n1, n2, b1, b2, l1, l2⟩ := hok
  have hel := hE.1
  have hwn := wName_le wl.n
  refine calls_vc Tryz.func20 rfl (by kernel_rfl) ?_
  (conv => whnf)
  (iterate 4 ((first | (refine VL.cons ?_) | (refine VL.nil ?_) | (refine VC.seqS rfl ?_) | (refine VC.region ?_)); (conv => whnf)))
  have hbad : wsBad wl set term vote fr → S.wsave wl set term vote fr es = ((1, S), wl) := fun hb => by unfold DS.wsave; rw [if_pos (.inl hb)]
  refine VC.cut [12] [(12, 12), (18, 49)] (fun vs X => vs = [.int .i64 0] ∧ X = W ∧ ¬ wsBad wl set term vote fr) (by kernel_rfl) ?_ ?_
  · by_cases hb : wsBad wl set term vote fr
    · rw [hbad hb]
      by_cases hset : set = true ∧ ¬ (inR term 1099511627776 ∧ inR vote 7)
      · obtain ⟨rfl, hr⟩ := hset
        ((conv => whnf); (repeat ((first | (refine VL.cons ?_) | (refine VC.seqS rfl ?_) | (refine VC.region ?_)); (conv => whnf))))
        ((repeat ((first | (refine VL.cons ?_) | (refine VBool.t ?_)); (conv => whnf))))
        refine VCall.of (walIn_any term 1099511627776 W) ?_
        rintro e _ ⟨rfl, rfl⟩
        refine ⟨_, rfl, ?_⟩
        by_cases h1 : inR term 1099511627776
        · have h2 : ¬ inR vote 7 := fun h2 => hr ⟨h1, h2⟩
          rw [decide_eq_true h1]
          ((conv => whnf); (repeat ((first | (refine VL.cons ?_)); (conv => whnf))))
          ((repeat ((first | (refine VL.cons ?_) | (refine VBool.t ?_) | (refine VBool.f ?_)); (conv => whnf))))
          refine VCall.of (walIn_any vote 7 _) ?_
          rintro e _ ⟨rfl, rfl⟩
          refine ⟨_, rfl, ?_⟩
          rw [decide_eq_false h2]
          ((conv => whnf); (repeat ((first | (refine VL.cons ?_)); (conv => whnf))))
          ((repeat ((first | (refine VL.cons ?_) | (refine VL.nil ?_) | (refine VC.seqS rfl ?_) | (refine VC.region ?_) | (refine VC.cond ?_) | (refine VC.ret ?_) | (refine VBool.t ?_) | (refine VBool.f ?_)); (conv => whnf))))
          exact ⟨rfl, U, h, hw, hg, Step.refl _ _⟩
        · rw [decide_eq_false h1]
          ((conv => whnf); (repeat ((first | (refine VL.cons ?_)); (conv => whnf))))
          ((repeat ((first | (refine VL.cons ?_) | (refine VL.nil ?_) | (refine VC.seqS rfl ?_) | (refine VC.region ?_) | (refine VC.cond ?_) | (refine VC.ret ?_) | (refine VBool.t ?_)); (conv => whnf))))
          exact ⟨rfl, U, h, hw, hg, Step.refl _ _⟩
      have hb2 : 0 < fr ∧ (fr ≤ wl.base ∨ wl.last + 1 < fr) := by
        rcases hb with hb | hb
        · exact absurd hb hset
        · exact hb
      obtain ⟨hf0, hf1⟩ := hb2
      cases set with
      | false =>
        by_cases hf2 : fr ≤ wl.base
        · ((conv => whnf); (repeat ((first | (refine VL.cons ?_) | (refine VC.seqS rfl ?_) | (refine VC.region ?_)); (conv => whnf))))
          (repeat (first | ((first | (refine VL.cons ?_) | (refine VL.nil ?_) | (refine VC.seqS rfl ?_) | (refine VC.region ?_) | (refine VC.cond ?_) | (refine VC.ret ?_) | (refine VBool.t ?_) | (refine VBool.f ?_) | (refine VBool.dT (by omega) ?_) | (refine VRead.fld ?_)); (conv => whnf)) | (refine VRead.loadB hw rfl rfl ?_; (conv => whnf))))
          exact ⟨rfl, U, h, hw, hg, Step.refl _ _⟩
        · have hf3 : wl.last + 1 < fr := by omega
          ((conv => whnf); (repeat ((first | (refine VL.cons ?_) | (refine VC.seqS rfl ?_) | (refine VC.region ?_)); (conv => whnf))))
          (repeat (first | ((first | (refine VL.cons ?_) | (refine VL.nil ?_) | (refine VC.seqS rfl ?_) | (refine VC.region ?_) | (refine VC.cond ?_) | (refine VC.ret ?_) | (refine VBool.t ?_) | (refine VBool.f ?_) | (refine VBool.dT (by omega) ?_) | (refine VBool.dF (by omega) ?_) | (refine VRead.fld ?_) | (refine VWrap.i64 (by omega) (by omega) ?_)); (conv => whnf)) | (refine VRead.loadB hw rfl rfl ?_; (conv => whnf))))
          exact ⟨rfl, U, h, hw, hg, Step.refl _ _⟩
      | true =>
        have h12 : inR term 1099511627776 ∧ inR vote 7 := by
          by_cases h : inR term 1099511627776 ∧ inR vote 7
          · exact h
          · exact absurd ⟨rfl, h⟩ hset
        ((conv => whnf); (repeat ((first | (refine VL.cons ?_) | (refine VC.seqS rfl ?_) | (refine VC.region ?_)); (conv => whnf))))
        ((repeat ((first | (refine VL.cons ?_) | (refine VBool.t ?_)); (conv => whnf))))
        refine VCall.of (walIn_any term 1099511627776 W) ?_
        rintro e _ ⟨rfl, rfl⟩
        refine ⟨_, rfl, ?_⟩
        rw [decide_eq_true h12.1]
        ((conv => whnf); (repeat ((first | (refine VL.cons ?_)); (conv => whnf))))
        ((repeat ((first | (refine VL.cons ?_) | (refine VBool.t ?_) | (refine VBool.f ?_)); (conv => whnf))))
        refine VCall.of (walIn_any vote 7 _) ?_
        rintro e _ ⟨rfl, rfl⟩
        refine ⟨_, rfl, ?_⟩
        rw [decide_eq_true h12.2]
        by_cases hf2 : fr ≤ wl.base
        · ((conv => whnf); (repeat ((first | (refine VL.cons ?_)); (conv => whnf))))
          (repeat (first | ((first | (refine VL.cons ?_) | (refine VL.nil ?_) | (refine VC.seqS rfl ?_) | (refine VC.region ?_) | (refine VC.cond ?_) | (refine VC.ret ?_) | (refine VBool.t ?_) | (refine VBool.f ?_) | (refine VBool.dT (by omega) ?_) | (refine VRead.fld ?_)); (conv => whnf)) | (refine VRead.loadB hw rfl rfl ?_; (conv => whnf))))
          exact ⟨rfl, U, h, hw, hg, Step.refl _ _⟩
        · have hf3 : wl.last + 1 < fr := by omega
          ((conv => whnf); (repeat ((first | (refine VL.cons ?_)); (conv => whnf))))
          (repeat (first | ((first | (refine VL.cons ?_) | (refine VL.nil ?_) | (refine VC.seqS rfl ?_) | (refine VC.region ?_) | (refine VC.cond ?_) | (refine VC.ret ?_) | (refine VBool.t ?_) | (refine VBool.f ?_) | (refine VBool.dT (by omega) ?_) | (refine VBool.dF (by omega) ?_) | (refine VRead.fld ?_) | (refine VWrap.i64 (by omega) (by omega) ?_)); (conv => whnf)) | (refine VRead.loadB hw rfl rfl ?_; (conv => whnf))))
          exact ⟨rfl, U, h, hw, hg, Step.refl _ _⟩
    · by_cases hf0 : 0 < fr
      · have hf2 : ¬ fr ≤ wl.base := fun h => hb (.inr ⟨hf0, .inl h⟩)
        have hf3 : ¬ wl.last + 1 < fr := fun h => hb (.inr ⟨hf0, .inr h⟩)
        cases set with
        | false =>
          ((conv => whnf); (repeat ((first | (refine VL.cons ?_) | (refine VC.seqS rfl ?_) | (refine VC.region ?_)); (conv => whnf))))
          (repeat (first | ((first | (refine VL.cons ?_) | (refine VL.nil ?_) | (refine VC.cond ?_) | (refine VC.skip ?_) | (refine VBool.t ?_) | (refine VBool.f ?_) | (refine VBool.dT (by omega) ?_) | (refine VBool.dF (by omega) ?_) | (refine VRead.fld ?_) | (refine VWrap.i64 (by omega) (by omega) ?_)); (conv => whnf)) | (refine VRead.loadB hw rfl rfl ?_; (conv => whnf))))
          exact ⟨rfl, rfl, hb⟩
        | true =>
          have h12 : inR term 1099511627776 ∧ inR vote 7 := by
            by_cases h : inR term 1099511627776 ∧ inR vote 7
            · exact h
            · exact absurd (.inl ⟨rfl, h⟩) hb
          ((conv => whnf); (repeat ((first | (refine VL.cons ?_) | (refine VC.seqS rfl ?_) | (refine VC.region ?_)); (conv => whnf))))
          ((repeat ((first | (refine VL.cons ?_) | (refine VBool.t ?_)); (conv => whnf))))
          refine VCall.of (walIn_any term 1099511627776 W) ?_
          rintro e _ ⟨rfl, rfl⟩
          refine ⟨_, rfl, ?_⟩
          rw [decide_eq_true h12.1]
          ((conv => whnf); (repeat ((first | (refine VL.cons ?_)); (conv => whnf))))
          ((repeat ((first | (refine VL.cons ?_) | (refine VBool.t ?_) | (refine VBool.f ?_)); (conv => whnf))))
          refine VCall.of (walIn_any vote 7 _) ?_
          rintro e _ ⟨rfl, rfl⟩
          refine ⟨_, rfl, ?_⟩
          rw [decide_eq_true h12.2]
          ((conv => whnf); (repeat ((first | (refine VL.cons ?_)); (conv => whnf))))
          (repeat (first | ((first | (refine VL.cons ?_) | (refine VL.nil ?_) | (refine VC.cond ?_) | (refine VC.skip ?_) | (refine VBool.t ?_) | (refine VBool.f ?_) | (refine VBool.dT (by omega) ?_) | (refine VBool.dF (by omega) ?_) | (refine VRead.fld ?_) | (refine VWrap.i64 (by omega) (by omega) ?_)); (conv => whnf)) | (refine VRead.loadB hw rfl rfl ?_; (conv => whnf))))
          exact ⟨rfl, rfl, hb⟩
      · cases set with
        | false =>
          ((conv => whnf); (repeat ((first | (refine VL.cons ?_) | (refine VC.seqS rfl ?_) | (refine VC.region ?_)); (conv => whnf))))
          (repeat (first | ((first | (refine VL.cons ?_) | (refine VL.nil ?_) | (refine VC.cond ?_) | (refine VC.skip ?_) | (refine VBool.f ?_) | (refine VBool.dF (by omega) ?_)); (conv => whnf)) | (refine VRead.loadB hw rfl rfl ?_; (conv => whnf))))
          exact ⟨rfl, rfl, hb⟩
        | true =>
          have h12 : inR term 1099511627776 ∧ inR vote 7 := by
            by_cases h : inR term 1099511627776 ∧ inR vote 7
            · exact h
            · exact absurd (.inl ⟨rfl, h⟩) hb
          ((conv => whnf); (repeat ((first | (refine VL.cons ?_) | (refine VC.seqS rfl ?_) | (refine VC.region ?_)); (conv => whnf))))
          ((repeat ((first | (refine VL.cons ?_) | (refine VBool.t ?_)); (conv => whnf))))
          refine VCall.of (walIn_any term 1099511627776 W) ?_
          rintro e _ ⟨rfl, rfl⟩
          refine ⟨_, rfl, ?_⟩
          rw [decide_eq_true h12.1]
          ((conv => whnf); (repeat ((first | (refine VL.cons ?_)); (conv => whnf))))
          ((repeat ((first | (refine VL.cons ?_) | (refine VBool.t ?_) | (refine VBool.f ?_)); (conv => whnf))))
          refine VCall.of (walIn_any vote 7 _) ?_
          rintro e _ ⟨rfl, rfl⟩
          refine ⟨_, rfl, ?_⟩
          rw [decide_eq_true h12.2]
          ((conv => whnf); (repeat ((first | (refine VL.cons ?_)); (conv => whnf))))
          (repeat (first | ((first | (refine VL.cons ?_) | (refine VL.nil ?_) | (refine VC.cond ?_) | (refine VC.skip ?_) | (refine VBool.t ?_) | (refine VBool.f ?_) | (refine VBool.dF (by omega) ?_)); (conv => whnf)) | (refine VRead.loadB hw rfl rfl ?_; (conv => whnf))))
          exact ⟨rfl, rfl, hb⟩
  rintro τ vs w0 ⟨rfl, rfl, hb⟩
  clear hbad
  have hin : set = true → inR term 1099511627776 ∧ inR vote 7 := fun hs => by
    by_cases h : inR term 1099511627776 ∧ inR vote 7
    · exact h
    · exact absurd (.inl ⟨hs, h⟩) hb
  have hfr : 0 < fr → wl.base < fr ∧ fr ≤ wl.last + 1 := fun hf => by
    refine ⟨?_, ?_⟩
    · by_cases h : fr ≤ wl.base
      · exact absurd (.inr ⟨hf, .inl h⟩) hb
      · omega
    · by_cases h : wl.last + 1 < fr
      · exact absurd (.inr ⟨hf, .inr h⟩) hb
      · omega
  (conv => whnf)
  (iterate 4 ((first | (refine VL.cons ?_) | (refine VL.nil ?_) | (refine VC.seqS rfl ?_) | (refine VC.region ?_)); (conv => whnf)))
  refine VC.cut [13] [(13, 13), (50, 58)] (fun vs X => ∃ A1 n1 c1, vs = [.slice A1 n1 c1] ∧ Own X w0.heap.size (.slice A1 n1 c1) n1 (wsSet set term vote) ∧ n1 ≤ 100 ∧ Below w0.heap.size w0 X) (by kernel_rfl) ?_ ?_
  · cases set with
    | false =>
      ((conv => whnf); (repeat ((first | (refine VL.cons ?_) | (refine VL.nil ?_) | (refine VC.seqS rfl ?_) | (refine VC.region ?_) | (refine VC.cond ?_)); (conv => whnf))))
      ((repeat ((first | (refine VC.skip ?_) | (refine VBool.f ?_)); (conv => whnf))))
      exact ⟨none, 0, 0, rfl, Own.nil _ _, by omega, Below.refl _ _⟩
    | true =>
      obtain ⟨h1, h2⟩ := hin rfl
      ((conv => whnf); (repeat ((first | (refine VL.cons ?_) | (refine VL.nil ?_) | (refine VC.seqS rfl ?_) | (refine VC.region ?_) | (refine VC.cond ?_)); (conv => whnf))))
      ((repeat ((first | (refine VL.cons ?_) | (refine VC.region ?_) | (refine VBool.t ?_)); (conv => whnf))))
      refine VSem.buildR (ps := [(0, .int .i64 term), (1, .int .i64 vote)]) rfl rfl (by simp [Value.oneCell']) (by omega) ?_
      intro X1 hO1 hB1 hz1
      have hr1 : Reads X1 X1.heap.size 1 (some ⟨w0.heap.size, 0, none⟩) 2 (iv .i64 [term, vote]) := Reads.row hO1
      ((conv => whnf); (repeat ((first | (refine VL.cons ?_)); (conv => whnf))))
      ((repeat ((fail); (conv => whnf))))
      refine VCall.of (record_any 1 [term, vote] _ 2 2 X1 (by omega) (fun v hv => ?_) hr1) ?_
      · simp only [List.mem_cons, List.not_mem_nil, or_false] at hv
        rcases hv with rfl | rfl <;> omega
      rintro e X2 ⟨A2, m2, c2, rfl, hO2, hc2, hB2⟩
      refine ⟨_, rfl, ?_⟩
      have hl2 := hO2.len
      have hrl := recB_len 1 [term, vote]
      simp only [List.length_cons, List.length_nil] at hrl
      ((conv => whnf); (repeat ((first | (refine VL.cons ?_)); (conv => whnf))))
      ((repeat ((fail); (conv => whnf))))
      refine VCall.of (frPut_yes none 0 0 [] A2 m2 c2 (recB 1 [term, vote]) X2 (by omega) (by omega) (by omega) (Nat.le_refl _) (Own.nil _ 0).reads hO2.reads) ?_
      rintro e X3 ⟨A3, m3, c3, rfl, hO3, hB3⟩
      refine ⟨_, rfl, ?_⟩
      rw [List.nil_append] at hO3
      have hl3 := hO3.len
      have hpl := put_le (recB 1 [term, vote])
      have hB02 := hB1.trans (hB2.mono hB1.size)
      ((conv => whnf); (repeat ((first | (refine VL.cons ?_) | (refine VL.nil ?_)); (conv => whnf))))
      ((repeat ((fail); (conv => whnf))))
      exact ⟨A3, m3, c3, rfl, rows_more hO3 hB02.size, by omega, hB02.trans (hB3.mono hB02.size)⟩
  rintro τ2 vs X ⟨A1, m1, c1, rfl, hO, hm1, hB⟩
  have hE1 : EnAt X (fun j => j < w0.heap.size) A n es := hE.belowB hB
  have hd1 := h.below hB
  have hw1 := hw.later hB
  have st1 : Step w0 (addF U g) X (addF U g) := Step.new hB
  have hzX := hB.size
  (conv => whnf)
  refine VC.cut [12, 13] [(12, 13), (15, 15), (59, 74)] (fun vs X' => ∃ A2 n2 c2, vs = [.int .i64 0, .slice A2 n2 c2] ∧ Own X' w0.heap.size (.slice A2 n2 c2) n2 (wsB set term vote fr es) ∧ n2 ≤ 2000000000000 ∧ (0 < fr → ∀ e ∈ es, mayE e) ∧ Below w0.heap.size w0 X') (by kernel_rfl) ?_ ?_
  · by_cases hf0 : 0 < fr
    case neg =>
      have e1 : wsB set term vote fr es = wsSet set term vote := by unfold wsB; rw [if_neg hf0, List.append_nil]
      rw [e1]
      ((conv => whnf); (repeat ((first | (refine VL.cons ?_) | (refine VL.nil ?_) | (refine VC.seqS rfl ?_) | (refine VC.region ?_) | (refine VC.cond ?_)); (conv => whnf))))
      ((repeat ((first | (refine VC.skip ?_) | (refine VBool.dF (by omega) ?_)); (conv => whnf))))
      exact ⟨A1, m1, c1, rfl, hO, by omega, fun h => absurd h hf0, hB⟩
    ((conv => whnf); (repeat ((first | (refine VL.cons ?_) | (refine VL.nil ?_) | (refine VC.seqS rfl ?_) | (refine VC.region ?_) | (refine VC.cond ?_)); (conv => whnf))))
    ((repeat ((first | (refine VL.cons ?_) | (refine VL.nil ?_) | (refine VC.seqS rfl ?_) | (refine VC.region ?_) | (refine VC.block ?_) | (refine VBool.dT (by omega) ?_) | (refine VRead.lenS ?_) | (refine VC.seq ?_)); (conv => whnf))))
    refine VC.loop [12, 63] [(12, 12), (15, 15), (63, 70)] (fun q vs Y => ∃ j : Nat, vs = [.int .i64 0, .int .i64 (j : Int)] ∧ q = n - j ∧ j ≤ n ∧ (∀ e ∈ es.take j, mayE e) ∧ Below X.heap.size X Y) (by kernel_rfl)
      ⟨_, 0, rfl, rfl, by omega, by simp, Below.refl _ _⟩ ?_
    rintro q τ3 vs Y ⟨j, rfl, rfl, hj, hall, hY⟩
    have h0Y := hB.trans (hY.mono hzX)
    by_cases hlt : j < n
    case neg =>
      obtain rfl : j = n := by omega
      rw [List.take_of_length_le (by omega)] at hall
      have hwl := written_len (i := fr) hall
      obtain ⟨f1, f2⟩ := hfr hf0
      have e1 : wsB set term vote fr es = wsSet set term vote ++ written fr es := by unfold wsB; rw [if_pos hf0]
      ((conv => whnf); (repeat ((first | (refine VL.cons ?_) | (refine VL.nil ?_) | (refine VC.seqS rfl ?_) | (refine VC.region ?_)); (conv => whnf))))
      ((repeat ((first | (refine VL.cons ?_) | (refine VC.region ?_) | (refine VC.cond ?_) | (refine VC.exit ?_) | (refine VBool.dF (by omega) ?_) | (refine VC.seq ?_)); (conv => whnf))))
      refine VCall.of (written_any A1 A m1 c1 j c w0.heap.size fr _ es Y (hO.below hY (Nat.le_refl _)) (hE1.belowB (hY.mono hzX)) (by have := hY.size; omega) (by omega) (by omega) (by omega) hall) ?_
      rintro e Y2 ⟨A2, n2, c2, rfl, hO2, hB2, _⟩
      refine ⟨_, rfl, ?_⟩
      have hl2 := hO2.len
      have hl1 := hO.len
      rw [List.length_append] at hl2
      ((conv => whnf); (repeat ((first | (refine VL.cons ?_) | (refine VL.nil ?_)); (conv => whnf))))
      ((repeat ((fail); (conv => whnf))))
      exact ⟨A2, n2, c2, rfl, by rw [e1]; exact hO2, by omega, fun _ => hall, h0Y.trans hB2⟩
    obtain ⟨e, he⟩ : ∃ e, es[j]? = some e := ⟨_, List.getElem?_eq_getElem (by omega)⟩
    obtain ⟨x, D, dn, dc, rfl, f0, f1, f2, hdc, hdl, hdr⟩ := (hE1.belowB (hY.mono hzX)).at_ he
    ((conv => whnf); (repeat ((first | (refine VL.cons ?_) | (refine VL.nil ?_) | (refine VC.seqS rfl ?_) | (refine VC.region ?_)); (conv => whnf))))
    (repeat ((first | (refine VRead.atK hlt ?_) | (refine VRead.load3W f0 f1 f2 ?_) | (refine VL.cons ?_) | (refine VC.seqS rfl ?_) | (refine VC.region ?_) | (refine VC.cond ?_) | (refine VC.block ?_) | (refine VC.skip ?_) | (refine VBool.dT (by omega) ?_) | (refine VC.seq ?_)); (conv => whnf)))
    refine VSem.allocZ (z := .agg #[.int .i64 0, .bool false, .slice none 0 0]) (by kernel_rfl) ?_
    intro X2 b hbb hgb hlb hB5
    ((conv => whnf); (repeat ((first | (refine VL.cons ?_)); (conv => whnf))))
    ((repeat ((fail); (conv => whnf))))
    refine VUnit.storeAB hbb rfl rfl rfl (by simp [Value.oneCell']) ?_
    intro X3 hb6 hg6
    replace hb6 : Blk X3 b 56 #[.int .i64 e.term, .bool e.cmd, .slice D dn dc] := hb6
    have hB13 : Below Y.heap.size Y X3 := only_new hB5 hg6 (by omega) (by omega)
    have h13 := hY.trans (hB13.mono hY.size)
    ((conv => whnf); (repeat ((first | (refine VL.cons ?_) | (refine VL.nil ?_) | (refine VC.seqS rfl ?_) | (refine VC.region ?_)); (conv => whnf))))
    ((repeat ((fail); (conv => whnf))))
    refine VRead.loadAB1 hb6 rfl rfl ?_
    ((conv => whnf); (repeat ((first | (refine VL.cons ?_)); (conv => whnf))))
    ((repeat ((fail); (conv => whnf))))
    refine VCall.of (mayEntry_any e D dn dc X3 hdl) ?_
    rintro y X4 ⟨rfl, hB14⟩
    refine ⟨_, rfl, ?_⟩
    have h14 := h13.trans (hB14.mono h13.size)
    by_cases hem : mayE e
    · rw [decide_eq_true hem]
      ((conv => whnf); (repeat ((first | (refine VL.cons ?_) | (refine VL.nil ?_) | (refine VC.cond ?_)); (conv => whnf))))
      ((repeat ((first | (refine VL.cons ?_) | (refine VL.nil ?_) | (refine VC.region ?_) | (refine VC.skip ?_) | (refine VBool.f ?_) | (refine VWrap.i64 (by omega) (by omega) ?_)); (conv => whnf))))
      refine ⟨_, by omega, j + 1, rfl, rfl, by omega, fun x hx => ?_, h14⟩
      rw [take_snoc he, List.mem_append] at hx
      rcases hx with hx | hx
      · exact hall x hx
      · obtain rfl : x = e := by simpa using hx
        exact hem
    · have e1 : S.wsave wl set term vote fr es = ((1, S), wl) := by unfold DS.wsave; rw [if_pos (.inr ⟨hf0, fun h => hem (h e (List.mem_of_getElem? he))⟩)]
      rw [decide_eq_false hem, e1]
      ((conv => whnf); (repeat ((first | (refine VL.cons ?_) | (refine VL.nil ?_) | (refine VC.cond ?_)); (conv => whnf))))
      ((repeat ((first | (refine VL.cons ?_) | (refine VL.nil ?_) | (refine VC.seqS rfl ?_) | (refine VC.region ?_) | (refine VC.ret ?_) | (refine VBool.t ?_)); (conv => whnf))))
      exact ⟨rfl, U, hd1.below h14, hw1.later h14, hg, st1.trans (Step.new h14)⟩
  clear hE1 hd1 hw1 st1 hO hB hE
  rintro τ3 vs X1 ⟨A2, n2, c2, rfl, hO, hn2, hmay, hB⟩
  have hd1 := h.below hB
  have hw1 := hw.later hB
  have st1 : Step w0 U X1 U := Step.new hB
  have hl2 := hO.len
  have e0 : S.wsave wl set term vote fr es = if wsB set term vote fr es = [] then ((0, S), wl) else
      (S.wapp (wName wl.n) (wsB set term vote fr es), if (S.wapp (wName wl.n) (wsB set term vote fr es)).1 = 0 then wlast wl fr es else wl) := by
    unfold DS.wsave
    rw [if_neg (fun h => by
      rcases h with h | h
      · exact hb h
      · exact h.2 (hmay h.1))]
  by_cases hn0 : n2 = 0
  · subst hn0
    rw [e0, if_pos (List.eq_nil_of_length_eq_zero hl2)]
    ((conv => whnf); (repeat ((fail); (conv => whnf))))
    ((repeat ((first | (refine VL.cons ?_) | (refine VL.nil ?_) | (refine VC.seqS rfl ?_) | (refine VC.region ?_) | (refine VC.cond ?_) | (refine VC.ret ?_) | (refine VBool.t ?_) | (refine VRead.lenS ?_) | (refine VC.seq ?_)); (conv => whnf))))
    exact ⟨rfl, U, hd1, hw1, hg, st1.add g⟩
  rw [if_neg (fun e => hn0 (by rw [e] at hl2; simpa using hl2.symm))] at e0
  rw [e0]
  clear e0
  generalize wsB set term vote fr es = bytes at *
  have hfree : Free U (.slice A2 n2 c2) := Free.new hO h.lt
  ((conv => whnf); (repeat ((fail); (conv => whnf))))
  ((repeat ((first | (refine VL.cons ?_) | (refine VL.nil ?_) | (refine VC.seqS rfl ?_) | (refine VC.region ?_) | (refine VC.draw ?_) | (refine VC.cond ?_) | (refine VC.skip ?_) | (refine VBool.dF (by omega) ?_) | (refine VRead.lenS ?_) | (refine VC.seq ?_)); (conv => whnf))))
  refine VDraw.seg (fun Y => Blk Y g 82 (wlC d wl)) [([0, 1, 2, 3, 4, 5, 6, 7, 9], 8), ([], 10)] [11] (by kernel_rfl) (by kernel_rfl) hw1 ?_
  (conv => whnf)
  (repeat ((first | (refine VRead.loadBS (fun Y hY => hY) rfl rfl ?_) | (refine VQ.cons ?_) | (refine VQ.nil ?_) | (refine VG.cons ?_) | (refine VRead.fld ?_)); (conv => whnf)))
  refine VCall.of (walName_any wl.n _ (by omega)) ?_
  rintro e X2 ⟨rfl, hB2⟩
  refine ⟨_, rfl, ?_⟩
  have hS2 : Below X1.heap.size X1 X2 := (below_drewN (Below.refl X1.heap.size X1) 1).trans hB2
  have hd2 := hd1.below hS2
  have hO2 := hO.below hS2 (Nat.le_refl _)
  have hw2 := hw1.later hS2
  have st2 := st1.trans (Step.new (U := U) hS2)
  (conv => whnf)
  refine Keep.mk hw2 ?_
  (conv => whnf)
  ((repeat ((first | (refine VQ.nil ?_) | (refine VG.cons ?_)); (conv => whnf))))
  refine VCall.of (oAppend X2 U d S (wName wl.n) n2 c2 A2 bytes hd2 (by omega) (by omega) (Src.of_own hO2) (by omega) hO2.cap) ?_
  rintro e X3 ⟨rfl, U3, hd3, st3⟩
  refine ⟨_, rfl, ?_⟩
  obtain ⟨hw3, hg3⟩ := st3.blk hw2 hg
  have st03 := st2.trans st3
  have hc3 : (S.append (wName wl.n) bytes).2.k.calls = S.k.calls + 1 := DS.append_calls
  (conv => whnf)
  refine Keep.mk hw3 ?_
  by_cases ca : (S.append (wName wl.n) bytes).1 = 0
  case neg =>
    have e1 : S.wapp (wName wl.n) bytes = S.append (wName wl.n) bytes := by unfold DS.wapp; rw [andT_no ca]
    rw [e1, if_neg ca]
    ((conv => whnf); (repeat ((first | (refine VL.cons ?_) | (refine VL.nil ?_) | (refine VC.seqS rfl ?_) | (refine VC.region ?_) | (refine VC.cond ?_) | (refine VQ.cons ?_) | (refine VQ.nil ?_) | (refine VG.nil ?_)); (conv => whnf))))
    (repeat (first | ((first | (refine VL.cons ?_) | (refine VL.nil ?_) | (refine VC.seqS rfl ?_) | (refine VC.region ?_) | (refine VC.ret ?_) | (refine VBool.nF (by omega) ?_)); (conv => whnf)) | (refine VBool.nF ca ?_; (conv => whnf))))
    exact ⟨rfl, U3, hd3, hw3, hg3, st03.add g⟩
  have e1 : S.wapp (wName wl.n) bytes = (S.append (wName wl.n) bytes).2.sync (wName wl.n) := by unfold DS.wapp; rw [andT_ok ca]
  rw [e1]
  clear e1
  obtain ⟨S3, hS3⟩ : ∃ S3, (S.append (wName wl.n) bytes).2 = S3 := ⟨_, rfl⟩
  rw [hS3] at hd3 hc3 ⊢
  clear hS3 hd2 hw2 st2 hO2 hS2 hd1 hw1 st1 hO hB2 hfree
  ((conv => whnf); (repeat ((first | (refine VL.cons ?_) | (refine VL.nil ?_) | (refine VC.seqS rfl ?_) | (refine VC.region ?_) | (refine VC.cond ?_) | (refine VQ.cons ?_) | (refine VQ.nil ?_) | (refine VG.nil ?_)); (conv => whnf))))
  (repeat (first | ((first | (refine VC.draw ?_) | (refine VC.skip ?_) | (refine VBool.nT (by omega) ?_) | (refine VC.seq ?_)); (conv => whnf)) | (refine VBool.nT ca ?_; (conv => whnf))))
  refine VDraw.seg (fun Y => Blk Y g 82 (wlC d wl)) [([0, 1, 2, 3, 4, 5, 6, 7], 8), ([], 9)] [10] (by kernel_rfl) (by kernel_rfl) hw3 ?_
  (conv => whnf)
  (repeat ((first | (refine VRead.loadBS (fun Y hY => hY) rfl rfl ?_) | (refine VQ.cons ?_) | (refine VQ.nil ?_) | (refine VG.cons ?_) | (refine VRead.fld ?_)); (conv => whnf)))
  refine VCall.of (walName_any wl.n _ (by omega)) ?_
  rintro e X4 ⟨rfl, hB4⟩
  refine ⟨_, rfl, ?_⟩
  have hS4 : Below X3.heap.size X3 X4 := (below_drewN (Below.refl X3.heap.size X3) 1).trans hB4
  have hd4 := hd3.below hS4
  have hw4 := hw3.later hS4
  have st4 := st03.trans (Step.new (U := U3) hS4)
  (conv => whnf)
  refine Keep.mk hw4 ?_
  (conv => whnf)
  ((repeat ((first | (refine VQ.nil ?_) | (refine VG.cons ?_)); (conv => whnf))))
  refine VCall.of (oSync X4 U3 d S3 (wName wl.n) hd4 (by omega) (by omega)) ?_
  rintro e X5 ⟨rfl, U5, hd5, st5⟩
  refine ⟨_, rfl, ?_⟩
  obtain ⟨hw5, hg5⟩ := st5.blk hw4 hg3
  have st05 := st4.trans st5
  (conv => whnf)
  refine Keep.mk hw5 ?_
  by_cases cb : (S3.sync (wName wl.n)).1 = 0
  case neg =>
    rw [if_neg cb]
    ((conv => whnf); (repeat ((first | (refine VL.cons ?_) | (refine VL.nil ?_) | (refine VC.seqS rfl ?_) | (refine VC.region ?_) | (refine VC.cond ?_) | (refine VQ.cons ?_) | (refine VQ.nil ?_) | (refine VG.nil ?_)); (conv => whnf))))
    (repeat (first | ((first | (refine VL.cons ?_) | (refine VL.nil ?_) | (refine VC.seqS rfl ?_) | (refine VC.region ?_) | (refine VC.ret ?_) | (refine VBool.nF (by omega) ?_)); (conv => whnf)) | (refine VBool.nF cb ?_; (conv => whnf))))
    exact ⟨rfl, U5, hd5, hw5, hg5, st05.add g⟩
  rw [if_pos cb]
  have fin0 : Ending.returned (.int .i64 0) = Ending.returned (.int .i64 (S3.sync (wName wl.n)).1) := by rw [cb]
  by_cases hf : 0 < fr ∧ 0 < es.length
  case neg =>
    have e2 : wlast wl fr es = wl := by unfold wlast; rw [if_neg hf]
    rw [e2]
    by_cases hf0 : 0 < fr
    · have hn0' : ¬ 0 < (n : Int) := fun h => hf ⟨hf0, by omega⟩
      ((conv => whnf); (repeat ((first | (refine VL.cons ?_) | (refine VL.nil ?_) | (refine VC.seqS rfl ?_) | (refine VC.region ?_) | (refine VC.cond ?_) | (refine VQ.cons ?_) | (refine VQ.nil ?_) | (refine VG.nil ?_)); (conv => whnf))))
      (repeat (first | ((first | (refine VL.cons ?_) | (refine VL.nil ?_) | (refine VC.seqS rfl ?_) | (refine VC.region ?_) | (refine VC.cond ?_) | (refine VC.ret ?_) | (refine VC.skip ?_) | (refine VBool.t ?_) | (refine VBool.dT (by omega) ?_) | (refine VBool.dF (by omega) ?_) | (refine VBool.nT (by omega) ?_) | (refine VRead.lenS ?_) | (refine VC.seq ?_)); (conv => whnf)) | (refine VBool.nT cb ?_; (conv => whnf))))
      exact ⟨fin0, U5, hd5, hw5, hg5, st05.add g⟩
    · ((conv => whnf); (repeat ((first | (refine VL.cons ?_) | (refine VL.nil ?_) | (refine VC.seqS rfl ?_) | (refine VC.region ?_) | (refine VC.cond ?_) | (refine VQ.cons ?_) | (refine VQ.nil ?_) | (refine VG.nil ?_)); (conv => whnf))))
      (repeat (first | ((first | (refine VL.cons ?_) | (refine VL.nil ?_) | (refine VC.seqS rfl ?_) | (refine VC.region ?_) | (refine VC.cond ?_) | (refine VC.ret ?_) | (refine VC.skip ?_) | (refine VBool.f ?_) | (refine VBool.dF (by omega) ?_) | (refine VBool.nT (by omega) ?_) | (refine VC.seq ?_)); (conv => whnf)) | (refine VBool.nT cb ?_; (conv => whnf))))
      exact ⟨fin0, U5, hd5, hw5, hg5, st05.add g⟩
  obtain ⟨hf0, hf1⟩ := hf
  obtain ⟨f1, f2⟩ := hfr hf0
  have hn1 : 0 < (n : Int) := by omega
  have e2 : wlast wl fr es = { wl with last := fr + n - 1 } := by unfold wlast; rw [if_pos ⟨hf0, hf1⟩, hel]
  rw [e2]
  ((conv => whnf); (repeat ((first | (refine VL.cons ?_) | (refine VL.nil ?_) | (refine VC.seqS rfl ?_) | (refine VC.region ?_) | (refine VC.cond ?_) | (refine VQ.cons ?_) | (refine VQ.nil ?_) | (refine VG.nil ?_)); (conv => whnf))))
  (repeat (first | ((first | (refine VL.cons ?_) | (refine VL.nil ?_) | (refine VC.seqS rfl ?_) | (refine VC.region ?_) | (refine VC.cond ?_) | (refine VC.skip ?_) | (refine VBool.t ?_) | (refine VBool.dT (by omega) ?_) | (refine VBool.nT (by omega) ?_) | (refine VRead.lenS ?_) | (refine VRead.fld ?_) | (refine VWrap.i64 (by omega) (by omega) ?_) | (refine VC.seq ?_)); (conv => whnf)) | (refine VBool.nT cb ?_; (conv => whnf))))
  refine VUnit.storeB hw5 rfl rfl rfl ?_
  intro X6 hw6 hg6
  replace hw6 : Blk X6 g 82 (wlC d { wl with last := fr + n - 1 }) := hw6
  ((conv => whnf); (repeat ((first | (refine VL.cons ?_) | (refine VL.nil ?_) | (refine VC.seqS rfl ?_) | (refine VC.region ?_) | (refine VC.ret ?_)); (conv => whnf))))
  ((repeat ((fail); (conv => whnf))))
  exact ⟨fin0, U5, hd5.cell hg6 hg5, hw6, hg5, (st05.add g).trans (Step.cell hg6)⟩
end Go.Proofs.YtebeidnmplnlpaaGreat
end

section
set_option maxRecDepth 10000
namespace Go.Proofs.YtebeidnmplnlpaaGreat
set_option linter.unusedVariables false
open Go.RowKit

theorem VRead.idxAW {P : Program} {S : World → Prop} {t n e j : Nat} {cs : Array Value} {v : Value} {kk : IntKind} {K : Value → Prop} [i : TArr P t n e 1] [c : TCell P e] (h : j < n) (hv : cs.toList[j]? = some v) (hk : K v) : VRead P S (Instr.index t (.agg cs) (.int kk (j : Int))) K := by
  refine .ofW (v := v) (fun W => ?_) hk
  have hv' : cs[j]? = some v := by rw [← hv]; simp
  unfold Instr.index Go.part
  simp [asIntOf, run_underlying i.u, run_isAgg_cell c.c, run_size i.s, hv', h]
section
variable (W : World) (U : Foot) (g d p q : Nat) (S : DS) (wl : WlS) (h : Dsk W U d S) (hw : Blk W g 82 (wlC d wl)) (hp : Blk W p 29 #[.pointer (some ⟨g, 0, none⟩)]) (hc : S.k.calls + 10 < 1000000)
include h hw hp hc
theorem anew1_any :
    Calls Tryz.prog 64 #[.pointer (some ⟨p, 0, none⟩)] W fun e W' => e = .returned (.int .i64 (S.create wTmp).1) ∧ ∃ U', Dsk W' U' d (S.create wTmp).2 ∧ Step W U W' U' := by
  refine calls_vc Tryz.func64 rfl (by kernel_rfl) ?_
  ((conv => whnf); (repeat ((first | (refine VL.cons ?_) | (refine VL.nil ?_) | (refine VC.seqS rfl ?_) | (refine VC.region ?_)); (conv => whnf))))
  (repeat (first | ((first | (refine VL.cons ?_) | (refine VRead.fld ?_)); (conv => whnf)) | (refine VRead.loadB hp rfl rfl ?_; (conv => whnf)) | (refine VRead.loadB hw rfl rfl ?_; (conv => whnf))))
  refine VCall.of (oCreate W U d S wTmp h (by omega) (by decide)) ?_
  rintro e W1 ⟨rfl, U1, hd1, st1⟩
  refine ⟨_, rfl, ?_⟩
  ((conv => whnf); (repeat ((first | (refine VL.cons ?_) | (refine VL.nil ?_) | (refine VC.ret ?_)); (conv => whnf))))
  ((repeat ((fail); (conv => whnf))))
  exact ⟨rfl, U1, hd1, st1⟩
theorem anew3_any :
    Calls Tryz.prog 66 #[.pointer (some ⟨p, 0, none⟩)] W fun e W' => e = .returned (.int .i64 (S.sync wTmp).1) ∧ ∃ U', Dsk W' U' d (S.sync wTmp).2 ∧ Step W U W' U' := by
  refine calls_vc Tryz.func66 rfl (by kernel_rfl) ?_
  ((conv => whnf); (repeat ((first | (refine VL.cons ?_) | (refine VL.nil ?_) | (refine VC.seqS rfl ?_) | (refine VC.region ?_)); (conv => whnf))))
  (repeat (first | ((first | (refine VL.cons ?_) | (refine VRead.fld ?_)); (conv => whnf)) | (refine VRead.loadB hp rfl rfl ?_; (conv => whnf)) | (refine VRead.loadB hw rfl rfl ?_; (conv => whnf))))
  refine VCall.of (oSync W U d S wTmp h (by omega) (by decide)) ?_
  rintro e W1 ⟨rfl, U1, hd1, st1⟩
  refine ⟨_, rfl, ?_⟩
  ((conv => whnf); (repeat ((first | (refine VL.cons ?_) | (refine VL.nil ?_) | (refine VC.ret ?_)); (conv => whnf))))
  ((repeat ((fail); (conv => whnf))))
  exact ⟨rfl, U1, hd1, st1⟩
variable (hgU : ¬ U g) (hpU : ¬ U p) (hqU : ¬ U q)
include hgU hpU hqU
theorem anew2_any (B : Nat) (A : Option Addr) (n c : Nat) (b : List UInt8) (hq : Blk W q 33 #[.slice A n c]) (hr : Own W B (.slice A n c) n b) (hn : n ≤ 140737488351232) :
    Calls Tryz.prog 65 #[.pointer (some ⟨p, 0, none⟩), .pointer (some ⟨q, 0, none⟩)] W fun e W' => e = .returned (.int .i64 (S.append wTmp b).1) ∧ ∃ U', Dsk W' U' d (S.append wTmp b).2 ∧ Step W U W' U' := by
  refine calls_vc Tryz.func65 rfl (by kernel_rfl) ?_
  ((conv => whnf); (repeat ((first | (refine VL.cons ?_) | (refine VL.nil ?_) | (refine VC.seqS rfl ?_) | (refine VC.region ?_)); (conv => whnf))))
  ((repeat ((first | (refine VC.draw ?_) | (refine VC.seq ?_)); (conv => whnf))))
  refine VDraw.seg (fun Y => Blk Y p 29 #[.pointer (some ⟨g, 0, none⟩)] ∧ Blk Y g 82 (wlC d wl) ∧ Blk Y q 33 #[.slice A n c]) [([0, 1, 2, 3, 4], 5)] [6] (by kernel_rfl) (by kernel_rfl) ⟨hp, hw, hq⟩ ?_
  (conv => whnf)
  (repeat ((first | (refine VRead.loadBS (fun Y hY => hY.1) rfl rfl ?_) | (refine VRead.loadBS (fun Y hY => hY.2.1) rfl rfl ?_) | (refine VRead.loadBS (fun Y hY => hY.2.2) rfl rfl ?_) | (refine VQ.cons ?_) | (refine VQ.nil ?_) | (refine VG.cons ?_) | (refine VRead.fld ?_)); (conv => whnf)))
  have hb1 : Below W.heap.size W (W.drewN 1) := below_drewN (Below.refl _ _) 1
  refine VCall.of (oAppend (W.drewN 1) U d S wTmp n c A b (h.below hb1) (by omega) (by decide) (Src.of_own (hr.below hb1 (Nat.le_refl _))) hn hr.cap) ?_
  rintro e W1 ⟨rfl, U1, hd1, st1⟩
  refine ⟨_, rfl, ?_⟩
  have st := (Step.new (U := U) hb1).trans st1
  (conv => whnf)
  refine Keep.mk ⟨(st.blk hp hpU).1, (st.blk hw hgU).1, (st.blk hq hqU).1⟩ ?_
  (conv => whnf)
  ((repeat ((first | (refine VC.ret ?_) | (refine VQ.cons ?_) | (refine VQ.nil ?_) | (refine VG.nil ?_)); (conv => whnf))))
  exact ⟨rfl, U1, hd1, st⟩
theorem anew4_any (nm : List UInt8) (hq : Blk W q 9 #[.string (txt nm)]) (hnm : nm.length ≤ 1000) :
    Calls Tryz.prog 67 #[.pointer (some ⟨p, 0, none⟩), .pointer (some ⟨q, 0, none⟩)] W fun e W' => e = .returned (.int .i64 (S.rename wTmp nm).1) ∧ ∃ U', Dsk W' U' d (S.rename wTmp nm).2 ∧ Step W U W' U' := by
  refine calls_vc Tryz.func67 rfl (by kernel_rfl) ?_
  ((conv => whnf); (repeat ((first | (refine VL.cons ?_) | (refine VL.nil ?_) | (refine VC.seqS rfl ?_) | (refine VC.region ?_)); (conv => whnf))))
  ((repeat ((first | (refine VC.draw ?_) | (refine VC.seq ?_)); (conv => whnf))))
  refine VDraw.seg (fun Y => Blk Y p 29 #[.pointer (some ⟨g, 0, none⟩)] ∧ Blk Y g 82 (wlC d wl) ∧ Blk Y q 9 #[.string (txt nm)]) [([0, 1, 2, 3, 4], 5)] [6] (by kernel_rfl) (by kernel_rfl) ⟨hp, hw, hq⟩ ?_
  (conv => whnf)
  (repeat ((first | (refine VRead.loadBS (fun Y hY => hY.1) rfl rfl ?_) | (refine VRead.loadBS (fun Y hY => hY.2.1) rfl rfl ?_) | (refine VRead.loadBS (fun Y hY => hY.2.2) rfl rfl ?_) | (refine VQ.cons ?_) | (refine VQ.nil ?_) | (refine VG.cons ?_) | (refine VRead.fld ?_)); (conv => whnf)))
  have hb1 : Below W.heap.size W (W.drewN 1) := below_drewN (Below.refl _ _) 1
  refine VCall.of (oRename (W.drewN 1) U d S wTmp nm (h.below hb1) (by omega) (by decide) hnm) ?_
  rintro e W1 ⟨rfl, U1, hd1, st1⟩
  refine ⟨_, rfl, ?_⟩
  have st := (Step.new (U := U) hb1).trans st1
  (conv => whnf)
  refine Keep.mk ⟨(st.blk hp hpU).1, (st.blk hw hgU).1, (st.blk hq hqU).1⟩ ?_
  (conv => whnf)
  ((repeat ((first | (refine VC.ret ?_) | (refine VQ.cons ?_) | (refine VQ.nil ?_) | (refine VG.nil ?_)); (conv => whnf))))
  exact ⟨rfl, U1, hd1, st⟩
end
theorem Own.notBlkW {W : World} {B n q T : Nat} {v : Value} {l : List UInt8} {cs : Array Value} (h : Own W B v n l) (hb : Blk W q T cs) (hT : 5 ≠ T) : v.ownBlock ≠ some q := fun hq => by
  rcases h.2 with ⟨rfl, _⟩ | ⟨g', cap, cur, rfl, _, hc, _⟩
  · simp [Value.ownBlock] at hq
  · have : g' = q := by simpa [Value.ownBlock] using hq
    subst this
    unfold Blk at hb
    rw [hc] at hb
    injection hb with hb
    injection hb with _ h2 _
    exact hT h2
theorem Blk.rowG {W W' : World} {q T : Nat} {cs : Array Value} {row : Option Nat} (h : Blk W q T cs) (hg : W.grownBy W' row) (hne : row ≠ some q) : Blk W' q T cs := h.grown hg (fun e => hne e.symm)
theorem Blk.outW {W W' : World} {F : Foot} {q T : Nat} {cs : Array Value} (h : Blk W q T cs) (ho : Out F W W') (hne : ¬ F q) : Blk W' q T cs := (ho.block q h.lt hne).trans h
/-! ### Anew, plain -/
def wact (nm b : List UInt8) (k : Nat) (S : DS) : Int × DS := match k with
  | 0 => S.create wTmp
  | 1 => S.append wTmp b
  | 2 => S.sync wTmp
  | _ => S.rename wTmp nm
def wrun (nm b : List UInt8) : Nat → Nat → DS → Int × DS
  | 0, _, S => (0, S)
  | m + 1, k, S => andT (wact nm b k S) fun S' => wrun nm b m (k + 1) S'
def waB (k : Kp) : List UInt8 := Frame.put (recB 0 [k.base, k.bterm]) ++ Frame.put (recB 1 [k.term, k.vote]) ++ written (k.base + 1) k.es
def DS.wanew (S : DS) (w : WlS) (k : Kp) : (Int × DS) × WlS :=
  if ¬ mayK k then ((1, S), w) else if wName (w.n + 1) = [] then ((2, S), w) else
  let R := wrun (wName (w.n + 1)) (waB k) 4 0 S
  if ¬ R.1 = 0 then (R, w) else
  let w' : WlS := ⟨w.n + 1, k.base, k.base + k.es.length⟩
  if wName w.n = [] then ((0, R.2), w') else
  ((if (R.2.remove (wName w.n)).1 = 3 then 0 else (R.2.remove (wName w.n)).1, (R.2.remove (wName w.n)).2), w')
theorem wact_calls (nm b : List UInt8) (k : Nat) (S : DS) : (wact nm b k S).2.k.calls = S.k.calls + 1 := by
  unfold wact
  split
  · exact DS.create_calls S wTmp
  · exact DS.append_calls
  · exact DS.sync_calls
  · exact DS.rename_calls
set_option maxHeartbeats 4000000 in
theorem walAnew_any (W : World) (U : Foot) (g d : Nat) (S : DS) (wl : WlS) (k : Kp) (A : Option Addr) (n c : Nat) (h : Dsk W U d S) (hw : Blk W g 82 (wlC d wl)) (hg : ¬ U g) (hok : WlOk wl)
    (hE : EnAt W (fun j => j < W.heap.size) A n k.es) (hn : n ≤ 50000000) (hc : S.k.calls + 20 < 1000000) (hi1 : -9223372036854775808 ≤ k.base ∧ k.base ≤ 9223372036854775807) :
    Calls Tryz.prog 43 #[.pointer (some ⟨g, 0, none⟩), .agg (kC k A n c)] W fun e W' => e = .returned (.int .i64 (S.wanew wl k).1.1) ∧
      ∃ U', Dsk W' U' d (S.wanew wl k).1.2 ∧ Blk W' g 82 (wlC d (S.wanew wl k).2) ∧ ¬ U' g ∧ Step W (addF U g) W' (addF U' g) := by
  obtain ⟨n1, n2, b1, b2, l1, l2⟩ := hok
  have hel := hE.1
  have hwn := wName_le wl.n
  have hwn1 := wName_le (wl.n + 1)
  refine calls_vc Tryz.func43 rfl (by kernel_rfl) ?_
  ((conv => whnf); (repeat ((first | (refine VL.cons ?_) | (refine VC.seqS rfl ?_) | (refine VC.region ?_)); (conv => whnf))))
  ((repeat ((fail); (conv => whnf))))
  refine VSem.boxB ?_
  intro W1 p hp hpe hpl hB1
  replace hp : Blk W1 p 29 #[.pointer (some ⟨g, 0, none⟩)] := hp
  ((conv => whnf); (repeat ((first | (refine VL.cons ?_)); (conv => whnf))))
  ((repeat ((fail); (conv => whnf))))
  refine VSem.boxB ?_
  intro W2 q3 hq hqe hql hB2
  replace hq : Blk W2 q3 50 (kC k A n c) := hq
  replace hp := hp.later hB2
  have hB02 := hB1.trans (hB2.mono hB1.size)
  have s1 := hB1.size
  have s2 := hB2.size
  ((conv => whnf); (repeat ((first | (refine VL.cons ?_) | (refine VL.nil ?_)); (conv => whnf))))
  ((repeat ((first | (refine VL.cons ?_) | (refine VC.seqS rfl ?_) | (refine VC.region ?_) | (refine VC.seq ?_)); (conv => whnf))))
  refine VRead.loadAB1 hq rfl rfl ?_
  ((conv => whnf); (repeat ((first | (refine VL.cons ?_)); (conv => whnf))))
  ((repeat ((fail); (conv => whnf))))
  refine VCall.of (mayKept_any k A n c W2 ((hE.belowB hB02).more (fun j _ hj => by have : j < W.heap.size := hj; show j < W2.heap.size; omega)) (by omega)) ?_
  rintro e W3 ⟨rfl, hB3⟩
  refine ⟨_, rfl, ?_⟩
  replace hp := hp.later hB3
  replace hq := hq.later hB3
  have hB03 := hB02.trans (hB3.mono hB02.size)
  have s3 := hB3.size
  have hd3 := h.below hB03
  have hw3 := hw.later hB03
  have st3 := (Step.new (U := U) hB03)
  by_cases hm : mayK k
  case neg =>
    have e1 : S.wanew wl k = ((1, S), wl) := by unfold DS.wanew; rw [if_pos hm]
    rw [e1, decide_eq_false hm]
    ((conv => whnf); (repeat ((first | (refine VL.cons ?_) | (refine VL.nil ?_) | (refine VC.cond ?_)); (conv => whnf))))
    ((repeat ((first | (refine VL.cons ?_) | (refine VL.nil ?_) | (refine VC.seqS rfl ?_) | (refine VC.region ?_) | (refine VC.ret ?_) | (refine VBool.t ?_)); (conv => whnf))))
    exact ⟨rfl, U, hd3, hw3, hg, st3.add g⟩
  obtain ⟨hme, hm1, hm2, hm3, hm4⟩ := id hm
  obtain ⟨m1, m2⟩ := hm1
  obtain ⟨m3, m4⟩ := hm2
  obtain ⟨m5, m6⟩ := hm3
  obtain ⟨m7, m8⟩ := hm4
  rw [decide_eq_true hm]
  ((conv => whnf); (repeat ((first | (refine VL.cons ?_) | (refine VL.nil ?_) | (refine VC.cond ?_)); (conv => whnf))))
  (repeat (first | ((first | (refine VL.cons ?_) | (refine VC.seqS rfl ?_) | (refine VC.region ?_) | (refine VC.skip ?_) | (refine VBool.f ?_) | (refine VRead.fld ?_) | (refine VWrap.i64 (by omega) (by omega) ?_)); (conv => whnf)) | (refine VRead.loadB hp rfl rfl ?_; (conv => whnf)) | (refine VRead.loadB hw3 rfl rfl ?_; (conv => whnf))))
  refine VCall.of (walName_any (wl.n + 1) W3 (by omega)) ?_
  rintro e W4 ⟨rfl, hB4⟩
  refine ⟨_, rfl, ?_⟩
  have s4 := hB4.size
  replace hp := hp.later hB4
  replace hq := hq.later hB4
  have hB04 := hB03.trans (hB4.mono hB03.size)
  ((conv => whnf); (repeat ((first | (refine VL.cons ?_)); (conv => whnf))))
  ((repeat ((fail); (conv => whnf))))
  refine VSem.allocZ (z := .string (txt [])) (by kernel_rfl) ?_
  intro W5 q5 hq5 hqe5 hql5 hB5
  have s5 := hB5.size
  replace hp := hp.later hB5
  replace hq := hq.later hB5
  have hB05 := hB04.trans (hB5.mono hB04.size)
  ((conv => whnf); (repeat ((first | (refine VL.cons ?_)); (conv => whnf))))
  ((repeat ((fail); (conv => whnf))))
  refine VUnit.storeB hq5 rfl rfl rfl ?_
  intro W6 hq6 hg6
  replace hq6 : Blk W6 q5 9 #[.string (txt (wName (wl.n + 1)))] := hq6
  replace hp := hp.only hg6 (by omega)
  replace hq := hq.only hg6 (by omega)
  have s6 := hg6.size
  have hB06 : Below W.heap.size W W6 := only_new hB05 hg6 (by omega) hB05.size
  have hd6 := h.below hB06
  have hw6 := hw.later hB06
  have st6 := (Step.new (U := U) hB06)
  have hgl := hw.lt
  by_cases hnm : wName (wl.n + 1) = []
  · have e1 : S.wanew wl k = ((2, S), wl) := by unfold DS.wanew; rw [if_neg (fun h => h hm), if_pos hnm]
    have hnm' : txt (wName (wl.n + 1)) = txt [] := by rw [hnm]
    rw [e1]
    ((conv => whnf); (repeat ((first | (refine VL.nil ?_)); (conv => whnf))))
    (repeat (first | ((first | (refine VL.cons ?_) | (refine VL.nil ?_) | (refine VC.seqS rfl ?_) | (refine VC.region ?_) | (refine VC.cond ?_) | (refine VC.ret ?_) | (refine VC.seq ?_)); (conv => whnf)) | (refine VRead.loadB hq6 rfl rfl ?_; (conv => whnf)) | (refine VBool.dT hnm' ?_; (conv => whnf))))
    exact ⟨rfl, U, hd6, hw6, hg, st6.add g⟩
  have hnm' : ¬ txt (wName (wl.n + 1)) = txt [] := fun e => hnm (txt_inj.1 e)
  clear hd3 hw3 st3 hB1 hB2 hB3 hB4 hB5 hB02 hB03 hB04 hB05 hg6 hq5
  ((conv => whnf); (repeat ((first | (refine VL.nil ?_)); (conv => whnf))))
  (repeat (first | ((first | (refine VL.cons ?_) | (refine VL.nil ?_) | (refine VC.seqS rfl ?_) | (refine VC.region ?_) | (refine VC.cond ?_) | (refine VC.skip ?_) | (refine VRead.fld ?_) | (refine VC.seq ?_)); (conv => whnf)) | (refine VRead.loadB hq6 rfl rfl ?_; (conv => whnf)) | (refine VBool.dF hnm' ?_; (conv => whnf)) | (refine VRead.loadB hq rfl rfl ?_; (conv => whnf))))
  refine VSem.buildR (ps := [(0, .int .i64 k.base), (1, .int .i64 k.bterm)]) rfl rfl (by simp [Value.oneCell']) (by omega) ?_
  intro X1 hO1 hC1 hz1
  have hr1 : Reads X1 X1.heap.size 1 (some ⟨W6.heap.size, 0, none⟩) 2 (iv .i64 [k.base, k.bterm]) := Reads.row hO1
  ((conv => whnf); (repeat ((first | (refine VL.cons ?_)); (conv => whnf))))
  ((repeat ((fail); (conv => whnf))))
  refine VCall.of (record_any 0 [k.base, k.bterm] _ 2 2 X1 (by omega) (fun v hv => ?_) hr1) ?_
  · simp only [List.mem_cons, List.not_mem_nil, or_false] at hv
    rcases hv with rfl | rfl <;> omega
  rintro e X2 ⟨A2, m2', c2, rfl, hO2, hc2, hC2⟩
  refine ⟨_, rfl, ?_⟩
  have hl2 := hO2.len
  have hrl := recB_len 0 [k.base, k.bterm]
  simp only [List.length_cons, List.length_nil] at hrl
  ((conv => whnf); (repeat ((first | (refine VL.cons ?_)); (conv => whnf))))
  ((repeat ((fail); (conv => whnf))))
  refine VCall.of (frPut_yes none 0 0 [] A2 m2' c2 (recB 0 [k.base, k.bterm]) X2 (by omega) (by omega) (by omega) (Nat.le_refl _) (Own.nil _ 0).reads hO2.reads) ?_
  rintro e X3 ⟨A3, m3', c3, rfl, hO3, hC3⟩
  refine ⟨_, rfl, ?_⟩
  rw [List.nil_append] at hO3
  have hl3 := hO3.len
  have hpl3 := put_le (recB 0 [k.base, k.bterm])
  have hC03 : Below W6.heap.size W6 X3 := (hC1.trans (hC2.mono hC1.size)).trans (hC3.mono (Nat.le_trans hC1.size hC2.size))
  have zC2 : W6.heap.size ≤ X2.heap.size := Nat.le_trans hC1.size hC2.size
  clear hO1 hr1 hO2 hC1 hC2 hC3
  have t3 := hC03.size
  ((conv => whnf); (repeat ((first | (refine VL.cons ?_)); (conv => whnf))))
  ((repeat ((fail); (conv => whnf))))
  refine VSem.allocZ (z := .slice none 0 0) (by kernel_rfl) ?_
  intro X4 q6 hq7 hqe7 hql7 hC4
  have hO4 := hO3.below hC4 (Nat.le_refl _)
  have hC04 := hC03.trans (hC4.mono hC03.size)
  ((conv => whnf); (repeat ((first | (refine VL.cons ?_)); (conv => whnf))))
  ((repeat ((fail); (conv => whnf))))
  refine VUnit.storeB hq7 rfl rfl rfl ?_
  intro X5 hq8 hg8
  replace hq8 : Blk X5 q6 33 #[.slice A3 m3' c3] := hq8
  have hO5 := hO4.storeApart hg8 (fun q' => by have := (World.ownsRow.lt hO3 q6 q').2; omega)
  have hC05 : Below W6.heap.size W6 X5 := only_new hC04 hg8 (by omega) hC04.size
  have t4 := hC4.size
  have t5 := hg8.size
  replace hp := hp.later hC05
  replace hq := hq.later hC05
  replace hq6 := hq6.later hC05
  clear hO3 hO4 hC4 hC04 hq7 hg8 hC03
  ((conv => whnf); (repeat ((first | (refine VL.cons ?_) | (refine VL.nil ?_) | (refine VC.seqS rfl ?_) | (refine VC.region ?_)); (conv => whnf))))
  (repeat (first | ((first | (refine VL.cons ?_) | (refine VRead.fld ?_)); (conv => whnf)) | (refine VRead.loadB hq rfl rfl ?_; (conv => whnf))))
  refine VSem.buildR (ps := [(0, .int .i64 k.term), (1, .int .i64 k.vote)]) rfl rfl (by simp [Value.oneCell']) (by omega) ?_
  intro Y1 hP1 hD1 hy1
  have hr1 : Reads Y1 Y1.heap.size 1 (some ⟨X5.heap.size, 0, none⟩) 2 (iv .i64 [k.term, k.vote]) := Reads.row hP1
  ((conv => whnf); (repeat ((first | (refine VL.cons ?_)); (conv => whnf))))
  ((repeat ((fail); (conv => whnf))))
  refine VCall.of (record_any 1 [k.term, k.vote] _ 2 2 Y1 (by omega) (fun v hv => ?_) hr1) ?_
  · simp only [List.mem_cons, List.not_mem_nil, or_false] at hv
    rcases hv with rfl | rfl <;> omega
  rintro e Y2 ⟨A4, m4', c4, rfl, hP2, hc4, hD2⟩
  refine ⟨_, rfl, ?_⟩
  have hl4 := hP2.len
  have hrl2 := recB_len 1 [k.term, k.vote]
  simp only [List.length_cons, List.length_nil] at hrl2
  ((conv => whnf); (repeat ((first | (refine VL.cons ?_)); (conv => whnf))))
  ((repeat ((fail); (conv => whnf))))
  refine VCall.of (frPut_yes none 0 0 [] A4 m4' c4 (recB 1 [k.term, k.vote]) Y2 (by omega) (by omega) (by omega) (Nat.le_refl _) (Own.nil _ 0).reads hP2.reads) ?_
  rintro e Y3 ⟨A5, m5', c5, rfl, hP3, hD3⟩
  refine ⟨_, rfl, ?_⟩
  rw [List.nil_append] at hP3
  have hl5 := hP3.len
  have hpl5 := put_le (recB 1 [k.term, k.vote])
  have hD03 : Below X5.heap.size X5 Y3 := (hD1.trans (hD2.mono hD1.size)).trans (hD3.mono (Nat.le_trans hD1.size hD2.size))
  clear hP1 hr1 hP2 hD1 hD2 hD3
  have hO6 := (hO5.below hD03 (Nat.le_refl _)).more (B' := W.heap.size) (by omega)
  replace hp := hp.later hD03
  replace hq := hq.later hD03
  replace hq6 := hq6.later hD03
  replace hq8 := hq8.later hD03
  have hBY : Below W.heap.size W Y3 := (hB06.trans (hC05.mono hB06.size)).trans (hD03.mono (by omega))
  have hzY := hBY.size
  have u3 := hD03.size
  have hw7 := hw.later hBY
  clear hB06 hC05 hD03 hO5 hd6 hw6 st6
  have hqn : q6 ≠ q3 := by omega
  ((conv => whnf); (repeat ((first | (refine VL.cons ?_) | (refine VL.nil ?_)); (conv => whnf))))
  ((repeat ((first | (refine VC.draw ?_) | (refine VC.seq ?_)); (conv => whnf))))
  refine VDraw.lasts (fun Y => Blk Y q6 33 #[.slice A3 m3' c3] ∧ Blk Y q3 50 (kC k A n c)) [([0, 1, 3, 4, 5, 6, 7], 2), ([], 8)] [] 9 (by kernel_rfl) (by kernel_rfl) ⟨hq8, hq⟩ ?_
  (conv => whnf)
  (repeat ((first | (refine VRead.loadBS (fun Y hY => hY.1) rfl rfl ?_) | (refine VRead.loadBS (fun Y hY => hY.2) rfl rfl ?_) | (refine VQ.cons ?_) | (refine VQ.nil ?_) | (refine VE.cons ?_) | (refine VRead.fld ?_) | (refine VWrap.i64 (by omega) (by omega) ?_)); (conv => whnf)))
  have hE1 : Below Y3.heap.size Y3 (Y3.drewN 1) := below_drewN (Below.refl _ _) 1
  replace hO6 := hO6.below hE1 (Nat.le_refl _)
  replace hP3 := hP3.below hE1 (Nat.le_refl _)
  replace hp := hp.later hE1
  replace hq := hq.later hE1
  replace hq6 := hq6.later hE1
  replace hq8 := hq8.later hE1
  have hBY1 := hBY.trans (hE1.mono hzY)
  have u4 := hE1.size
  generalize Y3.drewN 1 = Y4 at *
  refine VSem.appOb hO6 hP3.reads (by omega) (by omega) ?_
  intro A6 c6 Y5 hO7 hgr hblk
  have np := hO6.notBlkW hp (by decide)
  have nq := hO6.notBlkW hq (by decide)
  have nq6 := hO6.notBlkW hq6 (by decide)
  have nq8 := hO6.notBlkW hq8 (by decide)
  replace hp := hp.rowG hgr np
  replace hq := hq.rowG hgr nq
  replace hq6 := hq6.rowG hgr nq6
  replace hq8 := hq8.rowG hgr nq8
  have hBY5 : Below W.heap.size W Y5 := hBY1.grown hgr (by omega) (fun j hj => (World.ownsRow.lt hO6 j hj).1)
  (conv => whnf)
  refine Keep.mk ⟨hq8, hq⟩ ?_
  (conv => whnf)
  (repeat ((first | (refine VQ.nil ?_) | (refine VE.cons ?_)); (conv => whnf)))
  have hwl := written_len (i := k.base + 1) hme
  refine VCall.of (written_any A6 A (m3' + m5') c6 n c W.heap.size (k.base + 1) _ k.es Y5 hO7 (hE.belowB hBY5) hBY5.size (by omega) (by omega) (by omega) hme) ?_
  rintro e Y6 ⟨A7, n7, c7, rfl, hO8, hB8, hout8⟩
  refine ⟨_, rfl, ?_⟩
  have np2 := hO7.notBlkW hp (by decide)
  have nq2 := hO7.notBlkW hq (by decide)
  have nq62 := hO7.notBlkW hq6 (by decide)
  have nq82 := hO7.notBlkW hq8 (by decide)
  replace hp := hp.outW hout8 np2
  replace hq := hq.outW hout8 nq2
  replace hq6 := hq6.outW hout8 nq62
  replace hq8 := hq8.outW hout8 nq82
  have hBY6 := hBY5.trans hB8
  have hl8 := hO8.len
  rw [List.length_append, List.length_append] at hl8
  replace hO8 : Own Y6 W.heap.size (.slice A7 n7 c7) n7 (waB k) := hO8
  clear hO7 hO6 hP3 hgr hblk np nq nq6 nq8 np2 nq2 nq62 nq82 hout8 hB8
  (conv => whnf)
  refine Keep.mk ⟨hq8, hq⟩ ?_
  (conv => whnf)
  ((repeat ((first | (refine VQ.nil ?_) | (refine VE.nil ?_)); (conv => whnf))))
  refine VUnit.storeB hq8 rfl rfl rfl ?_
  intro Y7 hq9 hg9
  replace hq9 : Blk Y7 q6 33 #[.slice A7 n7 c7] := hq9
  have nq9 := hO8.notBlkW hq8 (by decide)
  have hO9 := hO8.storeApart hg9 nq9
  replace hp := hp.only hg9 (by omega)
  replace hq := hq.only hg9 (by omega)
  replace hq6 := hq6.only hg9 (by omega)
  have hBY7 : Below W.heap.size W Y7 := only_new hBY6 hg9 (by omega) hBY6.size
  clear hO8 hq8 hg9 nq9 hBY6 hBY5 hBY1 hBY hE1
  (conv => whnf)
  refine Keep.mk trivial ?_
  (conv => whnf)
  ((repeat ((first | (refine VL.cons ?_) | (refine VC.seqS rfl ?_) | (refine VC.region ?_) | (refine VC.seq ?_)); (conv => whnf))))
  refine VSem.of (v := .func (.func 64) #[] #[.pointer (some ⟨p, 0, none⟩)]) (w' := Y7) rfl ?_
  ((conv => whnf); (repeat ((first | (refine VL.cons ?_)); (conv => whnf))))
  ((repeat ((fail); (conv => whnf))))
  refine VSem.of (v := .func (.func 65) #[] #[.pointer (some ⟨p, 0, none⟩), .pointer (some ⟨q6, 0, none⟩)]) (w' := Y7) rfl ?_
  ((conv => whnf); (repeat ((first | (refine VL.cons ?_)); (conv => whnf))))
  ((repeat ((fail); (conv => whnf))))
  refine VSem.of (v := .func (.func 66) #[] #[.pointer (some ⟨p, 0, none⟩)]) (w' := Y7) rfl ?_
  ((conv => whnf); (repeat ((first | (refine VL.cons ?_)); (conv => whnf))))
  ((repeat ((fail); (conv => whnf))))
  refine VSem.of (v := .func (.func 67) #[] #[.pointer (some ⟨p, 0, none⟩), .pointer (some ⟨q5, 0, none⟩)]) (w' := Y7) rfl ?_
  ((conv => whnf); (repeat ((first | (refine VL.cons ?_)); (conv => whnf))))
  ((repeat ((fail); (conv => whnf))))
  refine VRead.ofW (v := .agg #[.func (.func 64) #[] #[.pointer (some ⟨p, 0, none⟩)], .func (.func 65) #[] #[.pointer (some ⟨p, 0, none⟩), .pointer (some ⟨q6, 0, none⟩)], .func (.func 66) #[] #[.pointer (some ⟨p, 0, none⟩)], .func (.func 67) #[] #[.pointer (some ⟨p, 0, none⟩), .pointer (some ⟨q5, 0, none⟩)]]) (fun _ => by kernel_rfl) ?_
  have hd7 := h.below hBY7
  have hw8 := hw.later hBY7
  have st7 := (Step.new (U := U) hBY7)
  have hU7 := h.lt
  have npU : ¬ U p := fun hu => by have := hU7 p hu; omega
  have nq3U : ¬ U q3 := fun hu => by have := hU7 q3 hu; omega
  have nq5U : ¬ U q5 := fun hu => by have := hU7 q5 hu; omega
  have nq6U : ¬ U q6 := fun hu => by have := hU7 q6 hu; omega
  have hfU : Free U (.slice A7 n7 c7) := Free.new hO9 hU7
  obtain ⟨bytes, hbytes⟩ : ∃ b, waB k = b := ⟨_, rfl⟩
  obtain ⟨nm, hnme⟩ : ∃ nm, wName (wl.n + 1) = nm := ⟨_, rfl⟩
  obtain ⟨R, hR⟩ : ∃ R, wrun nm bytes 4 0 S = R := ⟨_, rfl⟩
  have e0 : S.wanew wl k = if ¬ R.1 = 0 then (R, wl) else if wName wl.n = [] then ((0, R.2), ⟨wl.n + 1, k.base, k.base + k.es.length⟩) else
      ((if (R.2.remove (wName wl.n)).1 = 3 then 0 else (R.2.remove (wName wl.n)).1, (R.2.remove (wName wl.n)).2), ⟨wl.n + 1, k.base, k.base + k.es.length⟩) := by
    unfold DS.wanew
    rw [if_neg (fun h => h hm), if_neg hnm, hbytes, hnme, hR]
  rw [e0]
  rw [hbytes] at hO9
  rw [hnme] at hq6 hwn1
  have hcap := hO9.cap
  ((conv => whnf); (repeat ((first | (refine VL.cons ?_) | (refine VL.nil ?_) | (refine VC.block ?_)); (conv => whnf))))
  ((repeat ((fail); (conv => whnf))))
  refine VC.loop [4, 60] [(4, 4), (11, 12), (60, 68)] (fun m vs X => ∃ (j : Nat) (U' : Foot) (S' : DS), vs = [.int .i64 0, .int .i64 (j : Int)] ∧ m = 4 - j ∧ j ≤ 4 ∧ Dsk X U' d S' ∧ Step W U X U' ∧ Blk X g 82 (wlC d wl) ∧ ¬ U' g ∧ Blk X p 29 #[.pointer (some ⟨g, 0, none⟩)] ∧ ¬ U' p ∧
      Blk X q3 50 (kC k A n c) ∧ ¬ U' q3 ∧ Blk X q5 9 #[.string (txt nm)] ∧ ¬ U' q5 ∧ Blk X q6 33 #[.slice A7 n7 c7] ∧ ¬ U' q6 ∧ Own X W.heap.size (.slice A7 n7 c7) n7 bytes ∧ Free U' (.slice A7 n7 c7) ∧ S'.k.calls ≤ S.k.calls + j ∧ R = wrun nm bytes (4 - j) j S') (by kernel_rfl)
    ⟨_, 0, U, S, rfl, rfl, by omega, hd7, st7, hw8, hg, hp, npU, hq, nq3U, hq6, nq5U, hq9, nq6U, hO9, hfU, by omega, hR.symm⟩ ?_
  clear hR e0 hd7 st7 hw8 hg hp npU hq nq3U hq6 nq5U hq9 nq6U hO9 hfU
  rintro m τ vs X ⟨j, U1, S1, rfl, rfl, hj, hd, st, hw1, hg, hp, npU, hq, nq3U, hq5, nq5U, hq6, nq6U, hO, hfU, hcl, hR⟩
  by_cases hlt : j < 4
  · have hR2 : R = andT (wact nm bytes j S1) fun S' => wrun nm bytes (4 - (j + 1)) (j + 1) S' := by
      rw [hR, show 4 - j = (4 - (j + 1)) + 1 from by omega]; rfl
    have hwc := wact_calls nm bytes j S1
    have hj4 : j = 0 ∨ j = 1 ∨ j = 2 ∨ j = 3 := by omega
    rcases hj4 with rfl | rfl | rfl | rfl
    · ((conv => whnf); (repeat ((first | (refine VL.cons ?_) | (refine VL.nil ?_) | (refine VC.seqS rfl ?_) | (refine VC.region ?_)); (conv => whnf))))
      (repeat ((first | (refine VRead.idxAW (by decide) rfl ?_) | (refine VL.cons ?_) | (refine VL.nil ?_) | (refine VC.seqS rfl ?_) | (refine VC.region ?_) | (refine VC.cond ?_) | (refine VC.block ?_) | (refine VC.skip ?_) | (refine VBool.t ?_) | (refine VC.seq ?_)); (conv => whnf)))
      refine VCall.of (anew1_any X U1 g d p S1 wl hd hw1 hp (by omega)) ?_
      rintro e X2 ⟨rfl, U2, hd2, st2⟩
      refine ⟨_, rfl, ?_⟩
      rw [show wact nm bytes 0 S1 = S1.create wTmp from rfl] at hR2 hwc
      have st02 := st.trans st2
      obtain ⟨hw2, hg2⟩ := st2.blk hw1 hg
      by_cases ca : (S1.create wTmp).1 = 0
      case neg =>
        rw [andT_no ca] at hR2
        rw [hR2, if_pos ca]
        ((conv => whnf); (repeat ((first | (refine VL.cons ?_) | (refine VL.nil ?_) | (refine VC.seqS rfl ?_) | (refine VC.region ?_) | (refine VC.cond ?_)); (conv => whnf))))
        (repeat (first | ((first | (refine VL.cons ?_) | (refine VL.nil ?_) | (refine VC.seqS rfl ?_) | (refine VC.region ?_) | (refine VC.ret ?_) | (refine VBool.nF (by omega) ?_)); (conv => whnf)) | (refine VBool.nF ca ?_; (conv => whnf))))
        exact ⟨rfl, U2, hd2, hw2, hg2, st02.add g⟩
      rw [andT_ok ca] at hR2
      obtain ⟨hp2, npU2⟩ := st2.blk hp npU
      obtain ⟨hq2, nq3U2⟩ := st2.blk hq nq3U
      obtain ⟨hq52, nq5U2⟩ := st2.blk hq5 nq5U
      obtain ⟨hq62, nq6U2⟩ := st2.blk hq6 nq6U
      obtain ⟨hO2, hfU2⟩ := st2.own hO hfU
      ((conv => whnf); (repeat ((first | (refine VL.cons ?_) | (refine VL.nil ?_) | (refine VC.seqS rfl ?_) | (refine VC.region ?_) | (refine VC.cond ?_)); (conv => whnf))))
      (repeat (first | ((first | (refine VL.cons ?_) | (refine VL.nil ?_) | (refine VC.region ?_) | (refine VC.skip ?_) | (refine VBool.nT (by omega) ?_) | (refine VWrap.i64 (by omega) (by omega) ?_)); (conv => whnf)) | (refine VBool.nT ca ?_; (conv => whnf))))
      exact ⟨_, by omega, 1, U2, _, rfl, rfl, by omega, hd2, st02, hw2, hg2, hp2, npU2, hq2, nq3U2, hq52, nq5U2, hq62, nq6U2, hO2, hfU2, by omega, hR2⟩
    · ((conv => whnf); (repeat ((first | (refine VL.cons ?_) | (refine VL.nil ?_) | (refine VC.seqS rfl ?_) | (refine VC.region ?_)); (conv => whnf))))
      (repeat ((first | (refine VRead.idxAW (by decide) rfl ?_) | (refine VL.cons ?_) | (refine VL.nil ?_) | (refine VC.seqS rfl ?_) | (refine VC.region ?_) | (refine VC.cond ?_) | (refine VC.block ?_) | (refine VC.skip ?_) | (refine VBool.t ?_) | (refine VC.seq ?_)); (conv => whnf)))
      refine VCall.of (anew2_any X U1 g d p q6 S1 wl hd hw1 hp (by omega) hg npU nq6U W.heap.size A7 n7 c7 bytes hq6 hO (by omega)) ?_
      rintro e X2 ⟨rfl, U2, hd2, st2⟩
      refine ⟨_, rfl, ?_⟩
      rw [show wact nm bytes 1 S1 = S1.append wTmp bytes from rfl] at hR2 hwc
      have st02 := st.trans st2
      obtain ⟨hw2, hg2⟩ := st2.blk hw1 hg
      by_cases ca : (S1.append wTmp bytes).1 = 0
      case neg =>
        rw [andT_no ca] at hR2
        rw [hR2, if_pos ca]
        ((conv => whnf); (repeat ((first | (refine VL.cons ?_) | (refine VL.nil ?_) | (refine VC.seqS rfl ?_) | (refine VC.region ?_) | (refine VC.cond ?_)); (conv => whnf))))
        (repeat (first | ((first | (refine VL.cons ?_) | (refine VL.nil ?_) | (refine VC.seqS rfl ?_) | (refine VC.region ?_) | (refine VC.ret ?_) | (refine VBool.nF (by omega) ?_)); (conv => whnf)) | (refine VBool.nF ca ?_; (conv => whnf))))
        exact ⟨rfl, U2, hd2, hw2, hg2, st02.add g⟩
      rw [andT_ok ca] at hR2
      obtain ⟨hp2, npU2⟩ := st2.blk hp npU
      obtain ⟨hq2, nq3U2⟩ := st2.blk hq nq3U
      obtain ⟨hq52, nq5U2⟩ := st2.blk hq5 nq5U
      obtain ⟨hq62, nq6U2⟩ := st2.blk hq6 nq6U
      obtain ⟨hO2, hfU2⟩ := st2.own hO hfU
      ((conv => whnf); (repeat ((first | (refine VL.cons ?_) | (refine VL.nil ?_) | (refine VC.seqS rfl ?_) | (refine VC.region ?_) | (refine VC.cond ?_)); (conv => whnf))))
      (repeat (first | ((first | (refine VL.cons ?_) | (refine VL.nil ?_) | (refine VC.region ?_) | (refine VC.skip ?_) | (refine VBool.nT (by omega) ?_) | (refine VWrap.i64 (by omega) (by omega) ?_)); (conv => whnf)) | (refine VBool.nT ca ?_; (conv => whnf))))
      exact ⟨_, by omega, 2, U2, _, rfl, rfl, by omega, hd2, st02, hw2, hg2, hp2, npU2, hq2, nq3U2, hq52, nq5U2, hq62, nq6U2, hO2, hfU2, by omega, hR2⟩
    · ((conv => whnf); (repeat ((first | (refine VL.cons ?_) | (refine VL.nil ?_) | (refine VC.seqS rfl ?_) | (refine VC.region ?_)); (conv => whnf))))
      (repeat ((first | (refine VRead.idxAW (by decide) rfl ?_) | (refine VL.cons ?_) | (refine VL.nil ?_) | (refine VC.seqS rfl ?_) | (refine VC.region ?_) | (refine VC.cond ?_) | (refine VC.block ?_) | (refine VC.skip ?_) | (refine VBool.t ?_) | (refine VC.seq ?_)); (conv => whnf)))
      refine VCall.of (anew3_any X U1 g d p S1 wl hd hw1 hp (by omega)) ?_
      rintro e X2 ⟨rfl, U2, hd2, st2⟩
      refine ⟨_, rfl, ?_⟩
      rw [show wact nm bytes 2 S1 = S1.sync wTmp from rfl] at hR2 hwc
      have st02 := st.trans st2
      obtain ⟨hw2, hg2⟩ := st2.blk hw1 hg
      by_cases ca : (S1.sync wTmp).1 = 0
      case neg =>
        rw [andT_no ca] at hR2
        rw [hR2, if_pos ca]
        ((conv => whnf); (repeat ((first | (refine VL.cons ?_) | (refine VL.nil ?_) | (refine VC.seqS rfl ?_) | (refine VC.region ?_) | (refine VC.cond ?_)); (conv => whnf))))
        (repeat (first | ((first | (refine VL.cons ?_) | (refine VL.nil ?_) | (refine VC.seqS rfl ?_) | (refine VC.region ?_) | (refine VC.ret ?_) | (refine VBool.nF (by omega) ?_)); (conv => whnf)) | (refine VBool.nF ca ?_; (conv => whnf))))
        exact ⟨rfl, U2, hd2, hw2, hg2, st02.add g⟩
      rw [andT_ok ca] at hR2
      obtain ⟨hp2, npU2⟩ := st2.blk hp npU
      obtain ⟨hq2, nq3U2⟩ := st2.blk hq nq3U
      obtain ⟨hq52, nq5U2⟩ := st2.blk hq5 nq5U
      obtain ⟨hq62, nq6U2⟩ := st2.blk hq6 nq6U
      obtain ⟨hO2, hfU2⟩ := st2.own hO hfU
      ((conv => whnf); (repeat ((first | (refine VL.cons ?_) | (refine VL.nil ?_) | (refine VC.seqS rfl ?_) | (refine VC.region ?_) | (refine VC.cond ?_)); (conv => whnf))))
      (repeat (first | ((first | (refine VL.cons ?_) | (refine VL.nil ?_) | (refine VC.region ?_) | (refine VC.skip ?_) | (refine VBool.nT (by omega) ?_) | (refine VWrap.i64 (by omega) (by omega) ?_)); (conv => whnf)) | (refine VBool.nT ca ?_; (conv => whnf))))
      exact ⟨_, by omega, 3, U2, _, rfl, rfl, by omega, hd2, st02, hw2, hg2, hp2, npU2, hq2, nq3U2, hq52, nq5U2, hq62, nq6U2, hO2, hfU2, by omega, hR2⟩
    · ((conv => whnf); (repeat ((first | (refine VL.cons ?_) | (refine VL.nil ?_) | (refine VC.seqS rfl ?_) | (refine VC.region ?_)); (conv => whnf))))
      (repeat ((first | (refine VRead.idxAW (by decide) rfl ?_) | (refine VL.cons ?_) | (refine VL.nil ?_) | (refine VC.seqS rfl ?_) | (refine VC.region ?_) | (refine VC.cond ?_) | (refine VC.block ?_) | (refine VC.skip ?_) | (refine VBool.t ?_) | (refine VC.seq ?_)); (conv => whnf)))
      refine VCall.of (anew4_any X U1 g d p q5 S1 wl hd hw1 hp (by omega) hg npU nq5U nm hq5 (by omega)) ?_
      rintro e X2 ⟨rfl, U2, hd2, st2⟩
      refine ⟨_, rfl, ?_⟩
      rw [show wact nm bytes 3 S1 = S1.rename wTmp nm from rfl] at hR2 hwc
      have st02 := st.trans st2
      obtain ⟨hw2, hg2⟩ := st2.blk hw1 hg
      by_cases ca : (S1.rename wTmp nm).1 = 0
      case neg =>
        rw [andT_no ca] at hR2
        rw [hR2, if_pos ca]
        ((conv => whnf); (repeat ((first | (refine VL.cons ?_) | (refine VL.nil ?_) | (refine VC.seqS rfl ?_) | (refine VC.region ?_) | (refine VC.cond ?_)); (conv => whnf))))
        (repeat (first | ((first | (refine VL.cons ?_) | (refine VL.nil ?_) | (refine VC.seqS rfl ?_) | (refine VC.region ?_) | (refine VC.ret ?_) | (refine VBool.nF (by omega) ?_)); (conv => whnf)) | (refine VBool.nF ca ?_; (conv => whnf))))
        exact ⟨rfl, U2, hd2, hw2, hg2, st02.add g⟩
      rw [andT_ok ca] at hR2
      obtain ⟨hp2, npU2⟩ := st2.blk hp npU
      obtain ⟨hq2, nq3U2⟩ := st2.blk hq nq3U
      obtain ⟨hq52, nq5U2⟩ := st2.blk hq5 nq5U
      obtain ⟨hq62, nq6U2⟩ := st2.blk hq6 nq6U
      obtain ⟨hO2, hfU2⟩ := st2.own hO hfU
      ((conv => whnf); (repeat ((first | (refine VL.cons ?_) | (refine VL.nil ?_) | (refine VC.seqS rfl ?_) | (refine VC.region ?_) | (refine VC.cond ?_)); (conv => whnf))))
      (repeat (first | ((first | (refine VL.cons ?_) | (refine VL.nil ?_) | (refine VC.region ?_) | (refine VC.skip ?_) | (refine VBool.nT (by omega) ?_) | (refine VWrap.i64 (by omega) (by omega) ?_)); (conv => whnf)) | (refine VBool.nT ca ?_; (conv => whnf))))
      exact ⟨_, by omega, 4, U2, _, rfl, rfl, by omega, hd2, st02, hw2, hg2, hp2, npU2, hq2, nq3U2, hq52, nq5U2, hq62, nq6U2, hO2, hfU2, by omega, hR2⟩
  · obtain rfl : j = 4 := by omega
    have hR2 : R = (0, S1) := hR
    have hR0 : ¬ ¬ R.1 = 0 := by rw [hR2]; simp
    rw [if_neg hR0]
    rw [hR2]
    simp only
    clear hR hR2 hR0
    ((conv => whnf); (repeat ((first | (refine VL.cons ?_) | (refine VL.nil ?_) | (refine VC.seqS rfl ?_) | (refine VC.region ?_)); (conv => whnf))))
    (repeat (first | ((first | (refine VL.cons ?_) | (refine VC.seqS rfl ?_) | (refine VC.region ?_) | (refine VC.cond ?_) | (refine VC.exit ?_) | (refine VBool.f ?_) | (refine VRead.fld ?_) | (refine VC.seq ?_)); (conv => whnf)) | (refine VRead.loadB hp rfl rfl ?_; (conv => whnf)) | (refine VRead.loadB hw1 rfl rfl ?_; (conv => whnf))))
    refine VCall.of (walName_any wl.n X (by omega)) ?_
    rintro e X2 ⟨rfl, hB2⟩
    refine ⟨_, rfl, ?_⟩
    replace hp := hp.later hB2
    replace hq := hq.later hB2
    replace hw1 := hw1.later hB2
    replace hd := hd.below hB2
    replace st := st.trans (Step.new (U := U1) hB2)
    have hE1 : Below X2.heap.size X2 (X2.drewN 1) := below_drewN (Below.refl _ _) 1
    replace hp := hp.later hE1
    replace hq := hq.later hE1
    replace hw1 := hw1.later hE1
    replace hd := hd.below hE1
    replace st := st.trans (Step.new (U := U1) hE1)
    ((conv => whnf); (repeat ((first | (refine VL.cons ?_) | (refine VL.nil ?_)); (conv => whnf))))
    ((repeat ((first | (refine VC.draw ?_) | (refine VC.seq ?_)); (conv => whnf))))
    refine VDraw.seg (fun Y => Blk Y p 29 #[.pointer (some ⟨g, 0, none⟩)] ∧ Blk Y q3 50 (kC k A n c)) [([0, 1, 2, 3, 4, 5, 8, 9, 10, 11, 12, 13, 14, 15], 6), ([7, 16, 17], 18), ([19, 20], 21), ([22, 23], 24)] [] (by kernel_rfl) (by kernel_rfl) ⟨hp, hq⟩ ?_
    generalize X2.drewN 1 = X3 at *
    (conv => whnf)
    (repeat ((first | (refine VRead.loadBS (fun Y hY => hY.1) rfl rfl ?_) | (refine VRead.loadBS (fun Y hY => hY.2) rfl rfl ?_) | (refine VQ.cons ?_) | (refine VQ.nil ?_) | (refine VG.cons ?_) | (refine VRead.lenS ?_) | (refine VRead.fld ?_) | (refine VWrap.i64 (by omega) (by omega) ?_)); (conv => whnf)))
    refine VRead.loadB hw1 rfl rfl ?_
    (conv => whnf)
    refine Keep.mk ⟨hp, hq⟩ ?_
    (conv => whnf)
    ((repeat ((first | (refine VQ.cons ?_) | (refine VQ.nil ?_) | (refine VG.cons ?_) | (refine VRead.fld ?_) | (refine VWrap.i64 (by omega) (by omega) ?_)); (conv => whnf))))
    refine VUnit.storeB hw1 rfl rfl rfl ?_
    intro X4 hw4 hg4
    replace hp := hp.only hg4 (by omega)
    replace hq := hq.only hg4 (by omega)
    replace hd := hd.cell hg4 hg
    replace st := (st.add g).trans (Step.cell hg4)
    (conv => whnf)
    refine Keep.mk ⟨hp, hq⟩ ?_
    (conv => whnf)
    ((repeat ((first | (refine VQ.cons ?_) | (refine VQ.nil ?_) | (refine VG.cons ?_) | (refine VRead.fld ?_)); (conv => whnf))))
    refine VUnit.storeB hw4 rfl rfl rfl ?_
    intro X5 hw5 hg5
    replace hp := hp.only hg5 (by omega)
    replace hq := hq.only hg5 (by omega)
    replace hd := hd.cell hg5 hg
    replace st := st.trans (Step.cell hg5)
    (conv => whnf)
    refine Keep.mk ⟨hp, hq⟩ ?_
    (conv => whnf)
    ((repeat ((first | (refine VQ.cons ?_) | (refine VQ.nil ?_) | (refine VG.cons ?_) | (refine VRead.fld ?_)); (conv => whnf))))
    refine VUnit.storeB hw5 rfl rfl rfl ?_
    intro X6 hw6 hg6
    replace hp := hp.only hg6 (by omega)
    replace hq := hq.only hg6 (by omega)
    replace hd := hd.cell hg6 hg
    replace st := st.trans (Step.cell hg6)
    replace hw6 : Blk X6 g 82 (wlC d ⟨wl.n + 1, k.base, k.base + n⟩) := hw6
    clear hw1 hw4 hw5 hg4 hg5 hg6
    (conv => whnf)
    refine Keep.mk ⟨hp, hq⟩ ?_
    rw [hel]
    by_cases hel0 : wName wl.n = []
    · have he' : txt (wName wl.n) = txt [] := by rw [hel0]
      rw [if_pos hel0]
      ((conv => whnf); (repeat ((first | (refine VQ.nil ?_) | (refine VG.nil ?_)); (conv => whnf))))
      (repeat (first | ((first | (refine VL.cons ?_) | (refine VL.nil ?_) | (refine VC.seqS rfl ?_) | (refine VC.region ?_) | (refine VC.cond ?_) | (refine VC.ret ?_) | (refine VC.seq ?_)); (conv => whnf)) | (refine VBool.dT he' ?_; (conv => whnf))))
      exact ⟨rfl, U1, hd, hw6, hg, st⟩
    have he' : ¬ txt (wName wl.n) = txt [] := fun e => hel0 (txt_inj.1 e)
    rw [if_neg hel0]
    ((conv => whnf); (repeat ((first | (refine VQ.nil ?_) | (refine VG.nil ?_)); (conv => whnf))))
    (repeat (first | ((first | (refine VL.cons ?_) | (refine VL.nil ?_) | (refine VC.seqS rfl ?_) | (refine VC.region ?_) | (refine VC.cond ?_) | (refine VC.skip ?_) | (refine VRead.fld ?_) | (refine VC.seq ?_)); (conv => whnf)) | (refine VBool.dF he' ?_; (conv => whnf)) | (refine VRead.loadB hp rfl rfl ?_; (conv => whnf)) | (refine VRead.loadB hw6 rfl rfl ?_; (conv => whnf))))
    refine VCall.of (oRemove X6 U1 d S1 (wName wl.n) hd (by omega) (by omega)) ?_
    rintro e X7 ⟨rfl, U2, hd2, st2⟩
    refine ⟨_, rfl, ?_⟩
    obtain ⟨hw7, hg7⟩ := st2.blk hw6 hg
    have st7 := st.trans (st2.add g)
    by_cases c3 : (S1.remove (wName wl.n)).1 = 3
    · simp only [if_pos c3]
      ((conv => whnf); (repeat ((first | (refine VL.cons ?_) | (refine VL.nil ?_) | (refine VC.seqS rfl ?_) | (refine VC.region ?_) | (refine VC.cond ?_)); (conv => whnf))))
      (repeat (first | ((first | (refine VL.cons ?_) | (refine VL.nil ?_) | (refine VC.seqS rfl ?_) | (refine VC.region ?_) | (refine VC.ret ?_) | (refine VC.skip ?_) | (refine VBool.nT (by omega) ?_)); (conv => whnf)) | (refine VBool.nT c3 ?_; (conv => whnf))))
      exact ⟨rfl, U2, hd2, hw7, hg7, st7⟩
    · simp only [if_neg c3]
      ((conv => whnf); (repeat ((first | (refine VL.cons ?_) | (refine VL.nil ?_) | (refine VC.seqS rfl ?_) | (refine VC.region ?_) | (refine VC.cond ?_)); (conv => whnf))))
      (repeat (first | ((first | (refine VL.cons ?_) | (refine VL.nil ?_) | (refine VC.seqS rfl ?_) | (refine VC.region ?_) | (refine VC.ret ?_) | (refine VBool.nF (by omega) ?_)); (conv => whnf)) | (refine VBool.nF c3 ?_; (conv => whnf))))
      exact ⟨rfl, U2, hd2, hw7, hg7, st7⟩
end Go.Proofs.YtebeidnmplnlpaaGreat
end
