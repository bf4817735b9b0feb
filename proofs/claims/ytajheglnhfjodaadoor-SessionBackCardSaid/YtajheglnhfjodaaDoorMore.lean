/- More words on owned rows. No condition. -/
import Derived.Test.YtajheglnhfjodaaDoorBytes
namespace Go.Proofs.YtajheglnhfjodaaDoor
set_option linter.unusedVariables false
open Go.RowKit

theorem Own.cap {w : World} {B : Nat} {A : Option Addr} {n c : Nat} {l : List UInt8} (h : Own w B (.slice A n c) n l) : n ≤ c := by
  rcases h.2 with ⟨e, _⟩ | ⟨g, cap, cur, e, _, _, hnc, _⟩
  · injection e with e1 e2 e3; omega
  · injection e with e1 e2 e3; omega
theorem Own.some_ {w : World} {B : Nat} {A : Option Addr} {n c : Nat} {l : List UInt8} (h : Own w B (.slice A n c) n l) (hn : 0 < n) : ∃ g, A = some ⟨g, 0, none⟩ ∧ B ≤ g ∧ g < w.heap.size := by
  rcases h.2 with ⟨e, h0⟩ | ⟨g, cap, cur, e, hb, hg, _⟩
  · omega
  · injection e with e1 e2 e3
    exact ⟨g, e1, hb, (Array.getElem?_eq_some_iff.1 hg).1⟩
/-- string(b), the rule for a world that has grown -/
def ConvAt (P : Program) (S T : TypeId) (w : World) (A : Option Addr) (n c : Nat) (l : List UInt8) : Prop := (convert S T (.slice A n c)).run P w = .ok (.string (txt l)) w
theorem txt_append (l m : List UInt8) : (txt l) ++ (txt m) = txt (l ++ m) := by
  apply ByteArray.ext
  simp [txt]
theorem run_txt_add {P : Program} (l m : List UInt8) (h : l.length + m.length ≤ 9223372036854775807) (w : World) : (Op.stringOp .add (txt l) (txt m)).run P w = .ok (.string (txt (l ++ m))) w := by
  rw [run_string_add_sum w _ _ (by rw [txt_size, txt_size]; exact h), txt_append]
end Go.Proofs.YtajheglnhfjodaaDoor
