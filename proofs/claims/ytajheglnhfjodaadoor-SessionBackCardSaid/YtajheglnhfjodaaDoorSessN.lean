/- Tables read: Load. No condition. -/
import Derived.Test.YtajheglnhfjodaaDoorSessM
set_option maxRecDepth 10000
namespace Go.Proofs.YtajheglnhfjodaaDoor
set_option linter.unusedVariables false
open Go.RowKit
open Go.Maps (Keyed)
open Go.ChangeMaps Go.WideElems

theorem ne_fields (W : World) {r q : Rp} (h : r ≠ q) : (Op.equalIn 10000 31 (.agg (rpC r)) (.agg (rpC q))).run Tryd.prog W = .ok false W := by
  have hp : Tryd.prog.stoodInHeld 31 = false := by kernel_rfl
  have hp2 : Tryd.prog.stoodInHeld 29 = false := by kernel_rfl
  have ht : Tryd.prog.underlying 31 = some (.struct (Tryd.prog.fieldsOf 31)) := by unfold Program.fieldsOf; rw [Tryd.underlying31]
  have ht2 : Tryd.prog.underlying 29 = some (.struct (Tryd.prog.fieldsOf 29)) := by unfold Program.fieldsOf; rw [Tryd.underlying29]
  rw [run_equalIn_agg _ _ _ _ _ ht hp]
  unfold Program.fieldsOf
  rw [Tryd.underlying31]
  simp only [Op.eqFields]
  have e3 : ∀ r : Rp, (rpC r).extract 2 (2 + 3) = #[.int .i64 r.kind, .int .i64 r.vn, .string (txt r.s)] := fun _ => rfl
  simp only [Sem.run_ite, Sem.run_bind, ne_eq, reduceCtorEq, String.reduceEq, not_false_eq_true, if_true, not_true_eq_false, if_false]
  rw [part_cell (t := 27) (cs := rpC r) (o := 0) (v := .int .i64 r.err) rfl]
  simp only [Result.andThen_ok]
  rw [part_cell (t := 27) (cs := rpC q) (o := 0) (v := .int .i64 q.err) rfl]
  simp only [Result.andThen_ok]
  rw [run_equalIn_int _ _ _ _ .i64 _ _ Tryd.underlying27]
  by_cases h1 : r.err = q.err
  case neg => simp only [Result.andThen_ok, beq_eq_false_iff_ne.2 h1, Bool.not_false, if_true]; rfl
  simp only [Result.andThen_ok, h1, beq_self_eq_true, Bool.not_true, Bool.false_eq_true, if_false]
  rw [part_cell (t := 3) (cs := rpC r) (o := 1) (v := .int .i64 r.n) rfl]
  simp only [Result.andThen_ok]
  rw [part_cell (t := 3) (cs := rpC q) (o := 1) (v := .int .i64 q.n) rfl]
  simp only [Result.andThen_ok]
  rw [run_equalIn_int _ _ _ _ .i64 _ _ Tryd.underlying3]
  by_cases h2 : r.n = q.n
  case neg => simp only [Result.andThen_ok, beq_eq_false_iff_ne.2 h2, Bool.not_false, if_true]; rfl
  simp only [Result.andThen_ok, h2, beq_self_eq_true, Bool.not_true, Bool.false_eq_true, if_false]
  rw [part_agg (t := 29) (cs := rpC r) (o := 2), e3]
  simp only [Result.andThen_ok]
  rw [part_agg (t := 29) (cs := rpC q) (o := 2), e3]
  simp only [Result.andThen_ok]
  rw [run_equalIn_agg _ _ _ _ _ ht2 hp2]
  unfold Program.fieldsOf
  rw [Tryd.underlying29]
  simp only [Op.eqFields]
  simp only [Sem.run_ite, Sem.run_bind, ne_eq, reduceCtorEq, String.reduceEq, not_false_eq_true, if_true, not_true_eq_false, if_false]
  rw [part_cell (t := 3) (cs := #[.int .i64 r.kind, .int .i64 r.vn, .string (txt r.s)]) (o := 0) (v := .int .i64 r.kind) rfl]
  simp only [Result.andThen_ok]
  rw [part_cell (t := 3) (cs := #[.int .i64 q.kind, .int .i64 q.vn, .string (txt q.s)]) (o := 0) (v := .int .i64 q.kind) rfl]
  simp only [Result.andThen_ok]
  rw [run_equalIn_int _ _ _ _ .i64 _ _ Tryd.underlying3]
  by_cases h3 : r.kind = q.kind
  case neg => simp only [Result.andThen_ok, beq_eq_false_iff_ne.2 h3, Bool.not_false, if_true]; rfl
  simp only [Result.andThen_ok, h3, beq_self_eq_true, Bool.not_true, Bool.false_eq_true, if_false]
  rw [part_cell (t := 2) (cs := #[.int .i64 q.kind, .int .i64 r.vn, .string (txt r.s)]) (o := 1) (v := .int .i64 r.vn) rfl]
  simp only [Result.andThen_ok]
  rw [part_cell (t := 2) (cs := #[.int .i64 q.kind, .int .i64 q.vn, .string (txt q.s)]) (o := 1) (v := .int .i64 q.vn) rfl]
  simp only [Result.andThen_ok]
  rw [run_equalIn_int _ _ _ _ .i64 _ _ Tryd.underlying2]
  by_cases h4 : r.vn = q.vn
  case neg => simp only [Result.andThen_ok, beq_eq_false_iff_ne.2 h4, Bool.not_false, if_true]; rfl
  simp only [Result.andThen_ok, h4, beq_self_eq_true, Bool.not_true, Bool.false_eq_true, if_false]
  rw [part_cell (t := 9) (cs := #[.int .i64 q.kind, .int .i64 q.vn, .string (txt r.s)]) (o := 2) (v := .string (txt r.s)) rfl]
  simp only [Result.andThen_ok]
  rw [part_cell (t := 9) (cs := #[.int .i64 q.kind, .int .i64 q.vn, .string (txt q.s)]) (o := 2) (v := .string (txt q.s)) rfl]
  simp only [Result.andThen_ok]
  rw [run_equalIn_string _ _ _ _ _ Tryd.underlying9]
  have h5 : ¬ r.s = q.s := fun e => h (by cases r; cases q; simp only at h1 h2 h3 h4 e; rw [h1, h2, h3, h4, e])
  have h6 : ((txt r.s).toList == (txt q.s).toList) = false := by rw [Lib.toList_data, Lib.toList_data]; exact beq_eq_false_iff_ne.2 h5
  simp only [Result.andThen_ok, h6, Bool.not_false, if_true]
  rfl
theorem VRead.neRn {S : World → Prop} {x y : Operand} {r q : Rp} {K : Value → Prop} (h : r ≠ q) (hk : K (.bool true)) :
    VRead Tryd.prog S (do eqGuard .neq 31 x y (.agg (rpC r)) (.agg (rpC q)); binOp .neq 31 (.agg (rpC r)) (.agg (rpC q))) K :=
  .ofW (fun W => by rw [Sem.run_bind, run_eqGuard_agg _ _ _ _ _ _ _ (by kernel_rfl)]; simp only [Result.andThen_ok]; rw [run_neq_struct, ne_fields W h]; rfl) hk
end Go.Proofs.YtajheglnhfjodaaDoor
