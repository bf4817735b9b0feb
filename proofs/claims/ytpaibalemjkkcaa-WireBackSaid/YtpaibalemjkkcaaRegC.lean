/- Regions that draw their order: each operation yields one value in every world that keeps what was there. No condition. -/
import Derived.Test.YtpaibalemjkkcaaReg
import Derived.Test.YtpaibalemjkkcaaWords
import Derived.BigQuiet
namespace Go.Proofs.Ytpaibalemjkkcaa
set_option linter.unusedVariables false
open Go.RowKit

theorem region_class {P : Program} {id : Nat} {Q : Exit → Act → World → Prop} {a : Act} {w : World} {l : List Oper} (hm : P.follows .mixedOrders = true) (hB : Region.lexB .any l.toArray = true)
    (h : (∀ p : Prop, (∀ W, Below w.heap.size w W → p) = p) → wpQuiet P l.toArray (fun W => Below w.heap.size w W) (fun a' => ∀ W, Below w.heap.size w W → Q .normal a' W) l a) : (Code.region id l.toArray true).wp P Q a w :=
  wp_region_quiet (C := fun W => Below w.heap.size w W) hm hB (below_drewN (Below.refl _ _) 1)
    (by simpa using h (fun p => propext ⟨fun k => k w (Below.refl _ _), fun k _ _ => k⟩))
end Go.Proofs.Ytpaibalemjkkcaa
