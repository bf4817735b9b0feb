/- wire.Reader.Fail. No condition. -/
import Derived.Test.YtajheglnhfjodaaDoorReadMore
namespace Go.Proofs.YtajheglnhfjodaaDoor
set_option linter.unusedVariables false
open Go.RowKit

theorem rFail_any (w : World) (g : Nat) (s : Option (List UInt8)) (hr : RS 68 w g s) :
    Calls Tryd.prog 36 #[.pointer (some ⟨g, 0, none⟩)] w fun e w' => e = .returned (.tuple #[]) ∧ RS 68 w' g none ∧ w.grownBy w' (some g) := by
  obtain ⟨l, p, A, n, c, hb, hrd, hnc, hc, hp, hln, hsr⟩ := hr.split
  have h2 := hb.cell 2
  have f2 := hb.frozen 2
  simp at h2
  have hgl := hb.lt
  have hbk : Blk (w.setCell ⟨g, 2, none⟩ (.bool true)) g 68 #[.slice A n c, .int .i64 (p : Int), .bool true] := hb.set_ 2 (.bool true)
  have hgk : w.grownBy (w.setCell ⟨g, 2, none⟩ (.bool true)) (some g) := only_setCell (only_refl w g) (.inl rfl) _
  go_enter Tryd.func36, Tryd.ntmps36
  go_wp2
  go_end0
  exact ⟨rfl, RS.mk hbk (hrd.only hgk (by omega) (Nat.le_refl _)) hnc hc hp rfl, hgk⟩

end Go.Proofs.YtajheglnhfjodaaDoor
