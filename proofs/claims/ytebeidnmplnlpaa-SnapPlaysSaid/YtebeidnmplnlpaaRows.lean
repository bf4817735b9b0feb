/-
  No cell of these rows narrows 'for every input' (looked for: loops, veiled, ifaces, maps, wideKeys, modest, calm, conditions, laid).
  DERIVED. THE GIVEN ROWS OF THIS SEAT. 10 by the template 'for every input the law returns true; each argument reads behind the call as it read before'; 0 by the template 'total and deterministic' (their statements: YtebeidnmplnlpaaTotals.lean).
  GIVEN WITH THE SEED: the statements are not yours to turn. If you find one false, say at which input.
  Laid BY PROGRAM, IN A SANDBOX (cutbox-rows.mjs): the forced cells as the released guide's own fill.sh prints them over the translation 096e6cdd167758a2… (all of the seat's roots in one cut). By AI agents, Wed Nov 11 2026. No macro, syntax, notation, axiom, sorry.
-/
import Derived.Test.YtebeidnmplnlpaaChecked
import GoSem.Claim
import GoSem.ClaimJoined
import GoSem.ClaimMapViews
import Derived.JoinedTies
import Derived.KernelRfl
namespace Go.Proofs.Ytebeidnmplnlpaa
/- THE CELL 'sum', in the pinned program and in every row, IS THE sha256 OF THE DUMP (.gsa) THAT YtebeidnmplnlpaaProg.lean LOADS. Nothing in Lean hashes anything: it is a label: what it is worth is what the hold of that sum in a sandbox is worth. -/
noncomputable def Try.pinned : Pinned := { name := "ytebeidnmplnlpaa", sum := "096e6cdd167758a263fc82c1b70357dd7640e4e56a5daa81dc68f71c13a1429c", checked := Try.checked }
namespace Rows
def none {H : Type} : Left H := { results := [], args := [] }

/-- 'palaverlaw19.SnapNames': WHATEVER THE INPUT: true; the input reads as it did. -/
def snapNamesSpec : ChangeSpec := { name := "snapNames", fn := fun _ => fun
  | [d1, d2] => { results := [.lit (.bool true)], args := [d1, d2] }
  | _ => none }
def snapNamesRow : OpenClaim := { program := "ytebeidnmplnlpaa", sum := "096e6cdd167758a263fc82c1b70357dd7640e4e56a5daa81dc68f71c13a1429c", func := "palaver/palaverlaw19.SnapNames", spec := "snapNames", unfollowed := true, recurses := true, apart := false }
def SnapNamesSaid : Prop := snapNamesRow.holds Try.pinned (OpenSpec.ofChange snapNamesSpec)

/-- ITS FALSE NEIGHBOUR: 'it returns false'. Refute it at one input. -/
def snapNamesWrong : ChangeSpec := { name := "snapNames", fn := fun _ => fun
  | [d1, d2] => { results := [.lit (.bool false)], args := [d1, d2] }
  | _ => none }
def SnapNamesWrongFalsely : Prop := snapNamesRow.holds Try.pinned (OpenSpec.ofChange snapNamesWrong)

/-- 'palaverlaw19.SnapLast': WHATEVER THE INPUT: true; the input reads as it did. -/
def snapLastSpec : ChangeSpec := { name := "snapLast", fn := fun _ => fun
  | [d1, d2] => { results := [.lit (.bool true)], args := [d1, d2] }
  | _ => none }
def snapLastRow : OpenClaim := { program := "ytebeidnmplnlpaa", sum := "096e6cdd167758a263fc82c1b70357dd7640e4e56a5daa81dc68f71c13a1429c", func := "palaver/palaverlaw19.SnapLast", spec := "snapLast", unfollowed := true, recurses := true, apart := false }
def SnapLastSaid : Prop := snapLastRow.holds Try.pinned (OpenSpec.ofChange snapLastSpec)

/-- ITS FALSE NEIGHBOUR: 'it returns false'. Refute it at one input. -/
def snapLastWrong : ChangeSpec := { name := "snapLast", fn := fun _ => fun
  | [d1, d2] => { results := [.lit (.bool false)], args := [d1, d2] }
  | _ => none }
def SnapLastWrongFalsely : Prop := snapLastRow.holds Try.pinned (OpenSpec.ofChange snapLastWrong)

/-- 'palaverlaw19.SnapTurned': WHATEVER THE INPUT: true; the input reads as it did. -/
def snapTurnedSpec : ChangeSpec := { name := "snapTurned", fn := fun _ => fun
  | [d1, d2, d3, d4] => { results := [.lit (.bool true)], args := [d1, d2, d3, d4] }
  | _ => none }
def snapTurnedRow : OpenClaim := { program := "ytebeidnmplnlpaa", sum := "096e6cdd167758a263fc82c1b70357dd7640e4e56a5daa81dc68f71c13a1429c", func := "palaver/palaverlaw19.SnapTurned", spec := "snapTurned", unfollowed := true, recurses := true, apart := false }
def SnapTurnedSaid : Prop := snapTurnedRow.holds Try.pinned (OpenSpec.ofChange snapTurnedSpec)

/-- ITS FALSE NEIGHBOUR: 'it returns false'. Refute it at one input. -/
def snapTurnedWrong : ChangeSpec := { name := "snapTurned", fn := fun _ => fun
  | [d1, d2, d3, d4] => { results := [.lit (.bool false)], args := [d1, d2, d3, d4] }
  | _ => none }
def SnapTurnedWrongFalsely : Prop := snapTurnedRow.holds Try.pinned (OpenSpec.ofChange snapTurnedWrong)

/-- 'palaverlaw19.SnapAtOnce': WHATEVER THE INPUT: true; the input reads as it did. -/
def snapAtOnceSpec : ChangeSpec := { name := "snapAtOnce", fn := fun _ => fun
  | [d1, d2, d3, d4, d5] => { results := [.lit (.bool true)], args := [d1, d2, d3, d4, d5] }
  | _ => none }
def snapAtOnceRow : OpenClaim := { program := "ytebeidnmplnlpaa", sum := "096e6cdd167758a263fc82c1b70357dd7640e4e56a5daa81dc68f71c13a1429c", func := "palaver/palaverlaw19.SnapAtOnce", spec := "snapAtOnce", unfollowed := true, recurses := true, apart := false }
def SnapAtOnceSaid : Prop := snapAtOnceRow.holds Try.pinned (OpenSpec.ofChange snapAtOnceSpec)

/-- ITS FALSE NEIGHBOUR: 'it returns false'. Refute it at one input. -/
def snapAtOnceWrong : ChangeSpec := { name := "snapAtOnce", fn := fun _ => fun
  | [d1, d2, d3, d4, d5] => { results := [.lit (.bool false)], args := [d1, d2, d3, d4, d5] }
  | _ => none }
def SnapAtOnceWrongFalsely : Prop := snapAtOnceRow.holds Try.pinned (OpenSpec.ofChange snapAtOnceWrong)

/-- 'palaverlaw19.SnapPlays': WHATEVER THE INPUT: true; the input reads as it did. -/
def snapPlaysSpec : ChangeSpec := { name := "snapPlays", fn := fun _ => fun
  | [d1, d2] => { results := [.lit (.bool true)], args := [d1, d2] }
  | _ => none }
def snapPlaysRow : OpenClaim := { program := "ytebeidnmplnlpaa", sum := "096e6cdd167758a263fc82c1b70357dd7640e4e56a5daa81dc68f71c13a1429c", func := "palaver/palaverlaw19.SnapPlays", spec := "snapPlays", unfollowed := true, recurses := true, apart := false }
def SnapPlaysSaid : Prop := snapPlaysRow.holds Try.pinned (OpenSpec.ofChange snapPlaysSpec)

/-- ITS FALSE NEIGHBOUR: 'it returns false'. Refute it at one input. -/
def snapPlaysWrong : ChangeSpec := { name := "snapPlays", fn := fun _ => fun
  | [d1, d2] => { results := [.lit (.bool false)], args := [d1, d2] }
  | _ => none }
def SnapPlaysWrongFalsely : Prop := snapPlaysRow.holds Try.pinned (OpenSpec.ofChange snapPlaysWrong)

/-- 'palaverlaw18.WalNames': WHATEVER THE INPUT: true; the input reads as it did. -/
def walNamesSpec : ChangeSpec := { name := "walNames", fn := fun _ => fun
  | [d1, d2] => { results := [.lit (.bool true)], args := [d1, d2] }
  | _ => none }
def walNamesRow : OpenClaim := { program := "ytebeidnmplnlpaa", sum := "096e6cdd167758a263fc82c1b70357dd7640e4e56a5daa81dc68f71c13a1429c", func := "palaver/palaverlaw18.WalNames", spec := "walNames", unfollowed := true, recurses := true, apart := false }
def WalNamesSaid : Prop := walNamesRow.holds Try.pinned (OpenSpec.ofChange walNamesSpec)

/-- ITS FALSE NEIGHBOUR: 'it returns false'. Refute it at one input. -/
def walNamesWrong : ChangeSpec := { name := "walNames", fn := fun _ => fun
  | [d1, d2] => { results := [.lit (.bool false)], args := [d1, d2] }
  | _ => none }
def WalNamesWrongFalsely : Prop := walNamesRow.holds Try.pinned (OpenSpec.ofChange walNamesWrong)

/-- 'palaverlaw18.WalCuts': WHATEVER THE INPUT: true; the input reads as it did. -/
def walCutsSpec : ChangeSpec := { name := "walCuts", fn := fun _ => fun
  | [d1, d2] => { results := [.lit (.bool true)], args := [d1, d2] }
  | _ => none }
def walCutsRow : OpenClaim := { program := "ytebeidnmplnlpaa", sum := "096e6cdd167758a263fc82c1b70357dd7640e4e56a5daa81dc68f71c13a1429c", func := "palaver/palaverlaw18.WalCuts", spec := "walCuts", unfollowed := true, recurses := true, apart := false }
def WalCutsSaid : Prop := walCutsRow.holds Try.pinned (OpenSpec.ofChange walCutsSpec)

/-- ITS FALSE NEIGHBOUR: 'it returns false'. Refute it at one input. -/
def walCutsWrong : ChangeSpec := { name := "walCuts", fn := fun _ => fun
  | [d1, d2] => { results := [.lit (.bool false)], args := [d1, d2] }
  | _ => none }
def WalCutsWrongFalsely : Prop := walCutsRow.holds Try.pinned (OpenSpec.ofChange walCutsWrong)

/-- 'palaverlaw18.WalTorn': WHATEVER THE INPUT: true; the input reads as it did. -/
def walTornSpec : ChangeSpec := { name := "walTorn", fn := fun _ => fun
  | [d1, d2] => { results := [.lit (.bool true)], args := [d1, d2] }
  | _ => none }
def walTornRow : OpenClaim := { program := "ytebeidnmplnlpaa", sum := "096e6cdd167758a263fc82c1b70357dd7640e4e56a5daa81dc68f71c13a1429c", func := "palaver/palaverlaw18.WalTorn", spec := "walTorn", unfollowed := true, recurses := true, apart := false }
def WalTornSaid : Prop := walTornRow.holds Try.pinned (OpenSpec.ofChange walTornSpec)

/-- ITS FALSE NEIGHBOUR: 'it returns false'. Refute it at one input. -/
def walTornWrong : ChangeSpec := { name := "walTorn", fn := fun _ => fun
  | [d1, d2] => { results := [.lit (.bool false)], args := [d1, d2] }
  | _ => none }
def WalTornWrongFalsely : Prop := walTornRow.holds Try.pinned (OpenSpec.ofChange walTornWrong)

/-- 'palaverlaw18.WalKeeps': WHATEVER THE INPUT: true; the input reads as it did. -/
def walKeepsSpec : ChangeSpec := { name := "walKeeps", fn := fun _ => fun
  | [d1, d2, d3, d4, d5] => { results := [.lit (.bool true)], args := [d1, d2, d3, d4, d5] }
  | _ => none }
def walKeepsRow : OpenClaim := { program := "ytebeidnmplnlpaa", sum := "096e6cdd167758a263fc82c1b70357dd7640e4e56a5daa81dc68f71c13a1429c", func := "palaver/palaverlaw18.WalKeeps", spec := "walKeeps", unfollowed := true, recurses := true, apart := false }
def WalKeepsSaid : Prop := walKeepsRow.holds Try.pinned (OpenSpec.ofChange walKeepsSpec)

/-- ITS FALSE NEIGHBOUR: 'it returns false'. Refute it at one input. -/
def walKeepsWrong : ChangeSpec := { name := "walKeeps", fn := fun _ => fun
  | [d1, d2, d3, d4, d5] => { results := [.lit (.bool false)], args := [d1, d2, d3, d4, d5] }
  | _ => none }
def WalKeepsWrongFalsely : Prop := walKeepsRow.holds Try.pinned (OpenSpec.ofChange walKeepsWrong)

/-- 'palaverlaw18.WalAnew': WHATEVER THE INPUT: true; the input reads as it did. -/
def walAnewSpec : ChangeSpec := { name := "walAnew", fn := fun _ => fun
  | [d1, d2, d3, d4, d5] => { results := [.lit (.bool true)], args := [d1, d2, d3, d4, d5] }
  | _ => none }
def walAnewRow : OpenClaim := { program := "ytebeidnmplnlpaa", sum := "096e6cdd167758a263fc82c1b70357dd7640e4e56a5daa81dc68f71c13a1429c", func := "palaver/palaverlaw18.WalAnew", spec := "walAnew", unfollowed := true, recurses := true, apart := false }
def WalAnewSaid : Prop := walAnewRow.holds Try.pinned (OpenSpec.ofChange walAnewSpec)

/-- ITS FALSE NEIGHBOUR: 'it returns false'. Refute it at one input. -/
def walAnewWrong : ChangeSpec := { name := "walAnew", fn := fun _ => fun
  | [d1, d2, d3, d4, d5] => { results := [.lit (.bool false)], args := [d1, d2, d3, d4, d5] }
  | _ => none }
def WalAnewWrongFalsely : Prop := walAnewRow.holds Try.pinned (OpenSpec.ofChange walAnewWrong)

/- THE SECOND FORM. 'bulk': how many values and letters a reading holds, each counted each time it is reached (what is shared counts as often as it is met; a slice's spare places count too). A statement '..UptoSaid' is the law's where the arguments, and the package variables that the reading takes, are together of bulk at most 1048576: NARROWER than '..Said'. Prove '..Said' where nothing that the law and all that it calls make is longer than what came in: it says more and counts as full. Else prove '..UptoSaid'. A law counts once. -/
mutual
def uptoBulk {H : Type} : DataW H → Nat
  | .lit (.string bytes) => bytes.length + 1
  | .lit _ => 1
  | .nil => 1
  | .ptr d => uptoBulk d + 1
  | .slice elems spare => uptoBulkAll elems + uptoBulkAll spare + 1
  | .agg parts => uptoBulkAll parts + 1
  | .iface _ d => uptoBulk d + 1
  | .map entries => uptoBulkEntries entries + 1
  | .held _ => 1
def uptoBulkAll {H : Type} : List (DataW H) → Nat
  | [] => 0
  | d :: r => uptoBulk d + uptoBulkAll r
def uptoBulkEntries {H : Type} : List (Lit × DataW H) → Nat
  | [] => 0
  | x :: r => uptoBulkEntry x + uptoBulkEntries r
def uptoBulkEntry {H : Type} : Lit × DataW H → Nat
  | (.string bytes, d) => bytes.length + uptoBulk d + 1
  | (_, d) => uptoBulk d + 1
 end
def uptoSmall : (H : Type) → List (DataW H) → Bool := fun _ ds => decide (uptoBulkAll ds ≤ 1048576)
def OpenSpec.upto (s : _root_.Go.ChangeSpec) : _root_.Go.OpenSpec := { _root_.Go.OpenSpec.ofChange s with cond := some uptoSmall }

/-- 'palaverlaw19.SnapNames', WHERE WHAT IT READS IS OF BULK AT MOST 1048576: true; the input reads as it did. -/
def snapNamesUptoRow : OpenClaim := { program := "ytebeidnmplnlpaa", sum := "096e6cdd167758a263fc82c1b70357dd7640e4e56a5daa81dc68f71c13a1429c", func := "palaver/palaverlaw19.SnapNames", spec := "snapNames", unfollowed := true, recurses := true, apart := false, narrowed := true }
def SnapNamesUptoSaid : Prop := snapNamesUptoRow.holds Try.pinned (OpenSpec.upto snapNamesSpec)

/-- 'palaverlaw19.SnapLast', WHERE WHAT IT READS IS OF BULK AT MOST 1048576: true; the input reads as it did. -/
def snapLastUptoRow : OpenClaim := { program := "ytebeidnmplnlpaa", sum := "096e6cdd167758a263fc82c1b70357dd7640e4e56a5daa81dc68f71c13a1429c", func := "palaver/palaverlaw19.SnapLast", spec := "snapLast", unfollowed := true, recurses := true, apart := false, narrowed := true }
def SnapLastUptoSaid : Prop := snapLastUptoRow.holds Try.pinned (OpenSpec.upto snapLastSpec)

/-- 'palaverlaw19.SnapTurned', WHERE WHAT IT READS IS OF BULK AT MOST 1048576: true; the input reads as it did. -/
def snapTurnedUptoRow : OpenClaim := { program := "ytebeidnmplnlpaa", sum := "096e6cdd167758a263fc82c1b70357dd7640e4e56a5daa81dc68f71c13a1429c", func := "palaver/palaverlaw19.SnapTurned", spec := "snapTurned", unfollowed := true, recurses := true, apart := false, narrowed := true }
def SnapTurnedUptoSaid : Prop := snapTurnedUptoRow.holds Try.pinned (OpenSpec.upto snapTurnedSpec)

/-- 'palaverlaw19.SnapAtOnce', WHERE WHAT IT READS IS OF BULK AT MOST 1048576: true; the input reads as it did. -/
def snapAtOnceUptoRow : OpenClaim := { program := "ytebeidnmplnlpaa", sum := "096e6cdd167758a263fc82c1b70357dd7640e4e56a5daa81dc68f71c13a1429c", func := "palaver/palaverlaw19.SnapAtOnce", spec := "snapAtOnce", unfollowed := true, recurses := true, apart := false, narrowed := true }
def SnapAtOnceUptoSaid : Prop := snapAtOnceUptoRow.holds Try.pinned (OpenSpec.upto snapAtOnceSpec)

/-- 'palaverlaw19.SnapPlays', WHERE WHAT IT READS IS OF BULK AT MOST 1048576: true; the input reads as it did. -/
def snapPlaysUptoRow : OpenClaim := { program := "ytebeidnmplnlpaa", sum := "096e6cdd167758a263fc82c1b70357dd7640e4e56a5daa81dc68f71c13a1429c", func := "palaver/palaverlaw19.SnapPlays", spec := "snapPlays", unfollowed := true, recurses := true, apart := false, narrowed := true }
def SnapPlaysUptoSaid : Prop := snapPlaysUptoRow.holds Try.pinned (OpenSpec.upto snapPlaysSpec)

/-- 'palaverlaw18.WalNames', WHERE WHAT IT READS IS OF BULK AT MOST 1048576: true; the input reads as it did. -/
def walNamesUptoRow : OpenClaim := { program := "ytebeidnmplnlpaa", sum := "096e6cdd167758a263fc82c1b70357dd7640e4e56a5daa81dc68f71c13a1429c", func := "palaver/palaverlaw18.WalNames", spec := "walNames", unfollowed := true, recurses := true, apart := false, narrowed := true }
def WalNamesUptoSaid : Prop := walNamesUptoRow.holds Try.pinned (OpenSpec.upto walNamesSpec)

/-- 'palaverlaw18.WalCuts', WHERE WHAT IT READS IS OF BULK AT MOST 1048576: true; the input reads as it did. -/
def walCutsUptoRow : OpenClaim := { program := "ytebeidnmplnlpaa", sum := "096e6cdd167758a263fc82c1b70357dd7640e4e56a5daa81dc68f71c13a1429c", func := "palaver/palaverlaw18.WalCuts", spec := "walCuts", unfollowed := true, recurses := true, apart := false, narrowed := true }
def WalCutsUptoSaid : Prop := walCutsUptoRow.holds Try.pinned (OpenSpec.upto walCutsSpec)

/-- 'palaverlaw18.WalTorn', WHERE WHAT IT READS IS OF BULK AT MOST 1048576: true; the input reads as it did. -/
def walTornUptoRow : OpenClaim := { program := "ytebeidnmplnlpaa", sum := "096e6cdd167758a263fc82c1b70357dd7640e4e56a5daa81dc68f71c13a1429c", func := "palaver/palaverlaw18.WalTorn", spec := "walTorn", unfollowed := true, recurses := true, apart := false, narrowed := true }
def WalTornUptoSaid : Prop := walTornUptoRow.holds Try.pinned (OpenSpec.upto walTornSpec)

/-- 'palaverlaw18.WalKeeps', WHERE WHAT IT READS IS OF BULK AT MOST 1048576: true; the input reads as it did. -/
def walKeepsUptoRow : OpenClaim := { program := "ytebeidnmplnlpaa", sum := "096e6cdd167758a263fc82c1b70357dd7640e4e56a5daa81dc68f71c13a1429c", func := "palaver/palaverlaw18.WalKeeps", spec := "walKeeps", unfollowed := true, recurses := true, apart := false, narrowed := true }
def WalKeepsUptoSaid : Prop := walKeepsUptoRow.holds Try.pinned (OpenSpec.upto walKeepsSpec)

/-- 'palaverlaw18.WalAnew', WHERE WHAT IT READS IS OF BULK AT MOST 1048576: true; the input reads as it did. -/
def walAnewUptoRow : OpenClaim := { program := "ytebeidnmplnlpaa", sum := "096e6cdd167758a263fc82c1b70357dd7640e4e56a5daa81dc68f71c13a1429c", func := "palaver/palaverlaw18.WalAnew", spec := "walAnew", unfollowed := true, recurses := true, apart := false, narrowed := true }
def WalAnewUptoSaid : Prop := walAnewUptoRow.holds Try.pinned (OpenSpec.upto walAnewSpec)

end Rows
end Go.Proofs.Ytebeidnmplnlpaa
