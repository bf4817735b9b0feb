/-
  NARROWER THAN 'FOR EVERY INPUT', by the rows' own cells (each row's printed sentence says how): RunesClasses: laid · RunesFolds: laid · RunesPlaces: laid · RunesParts: laid · RunesAscii: laid · RunesBack: laid · RunesFoldKeeps: laid · RunesLists: laid · RunesGo: laid · RunesJoin: laid.
  DERIVED. THE GIVEN ROWS OF THIS SEAT. 10 by the template 'for every input the law returns true; each argument reads behind the call as it read before'; 0 by the template 'total and deterministic' (their statements: YtbfboglcdgeheaaDoorTotals.lean).
  GIVEN WITH THE SEED: the statements are not yours to turn. If you find one false, say at which input.
  Laid BY PROGRAM, IN A SANDBOX (cutbox-rows.mjs): the forced cells as the released guide's own fill.sh prints them over the translation 1a51256d02619169… (all of the seat's roots in one cut). By AI agents, Wed Nov 11 2026. No macro, syntax, notation, axiom, sorry.
-/
import Derived.Test.YtbfboglcdgeheaaDoorChecked
import GoSem.PinnedTables
import GoSem.Claim
import GoSem.ClaimJoined
import GoSem.ClaimMapViews
import Derived.JoinedTies
import Derived.KernelRfl
namespace Go.Proofs.YtbfboglcdgeheaaDoor
/- THE CELL 'sum', in the pinned program and in every row, IS THE sha256 OF THE DUMP (.gsa) THAT YtbfboglcdgeheaaDoorProg.lean LOADS. Nothing in Lean hashes anything: it is a label: what it is worth is what the hold of that sum in a sandbox is worth. -/
noncomputable def Tryd.pinned : Pinned := { name := "ytbfboglcdgeheaadoor", sum := "1a51256d02619169972f4cada97214424a5112503279c56637a9272ad39c2108", checked := Tryd.checked }
namespace Rows
def none {H : Type} : Left H := { results := [], args := [] }

/- WHAT THE LISTED PACKAGE-LEVEL VARIABLES READ AS WHEN THE CALL BEGINS. Each datum BY PROGRAM (the guide's laid-datum.mjs) off the statement by which the dump's own 'gosem.cut.vars' lays the variable. In a bare row this is a premise. The card (YtbfboglcdgeheaaDoorCards.lean) ties it to the program's text. -/
def laid_unicode_utf8_acceptRanges {H : Type} : DataW H := .agg [.agg [.lit (.int .u8 128), .lit (.int .u8 191)], .agg [.lit (.int .u8 160), .lit (.int .u8 191)], .agg [.lit (.int .u8 128), .lit (.int .u8 159)], .agg [.lit (.int .u8 144), .lit (.int .u8 191)], .agg [.lit (.int .u8 128), .lit (.int .u8 143)], .agg [.lit (.int .u8 0), .lit (.int .u8 0)], .agg [.lit (.int .u8 0), .lit (.int .u8 0)], .agg [.lit (.int .u8 0), .lit (.int .u8 0)], .agg [.lit (.int .u8 0), .lit (.int .u8 0)], .agg [.lit (.int .u8 0), .lit (.int .u8 0)], .agg [.lit (.int .u8 0), .lit (.int .u8 0)], .agg [.lit (.int .u8 0), .lit (.int .u8 0)], .agg [.lit (.int .u8 0), .lit (.int .u8 0)], .agg [.lit (.int .u8 0), .lit (.int .u8 0)], .agg [.lit (.int .u8 0), .lit (.int .u8 0)], .agg [.lit (.int .u8 0), .lit (.int .u8 0)]]
/-- One of Go's own tables, pinned by name: the form's constant. -/
def laid_unicode_utf8_first : DataW Unit := Go.Pinned.utf8First

/-- 'palaverlaw01.RunesClasses': WHATEVER THE INPUT: true; the input reads as it did. -/
def runesClassesSpec : ChangeSpec := { name := "runesClasses", fn := fun _ => fun
  | [d] => { results := [.lit (.bool true)], args := [d] }
  | _ => none }
def runesClassesRow : OpenClaim := { program := "ytbfboglcdgeheaadoor", sum := "1a51256d02619169972f4cada97214424a5112503279c56637a9272ad39c2108", func := "palaver/palaverlaw01.RunesClasses", spec := "runesClasses", inPlace := ["internal/abi.NoEscape"], named := ["unicode/utf8.first", "unicode/utf8.acceptRanges"], apart := false, laid := [("unicode/utf8.acceptRanges", laid_unicode_utf8_acceptRanges), ("unicode/utf8.first", laid_unicode_utf8_first)] }
def RunesClassesSaid : Prop := runesClassesRow.holds Tryd.pinned (OpenSpec.ofChange runesClassesSpec)

/-- ITS FALSE NEIGHBOUR: 'it returns false'. Refute it at one input. -/
def runesClassesWrong : ChangeSpec := { name := "runesClasses", fn := fun _ => fun
  | [d] => { results := [.lit (.bool false)], args := [d] }
  | _ => none }
def RunesClassesWrongFalsely : Prop := runesClassesRow.holds Tryd.pinned (OpenSpec.ofChange runesClassesWrong)

/-- 'palaverlaw01.RunesFolds': WHATEVER THE INPUT: true; the input reads as it did. -/
def runesFoldsSpec : ChangeSpec := { name := "runesFolds", fn := fun _ => fun
  | [d] => { results := [.lit (.bool true)], args := [d] }
  | _ => none }
def runesFoldsRow : OpenClaim := { program := "ytbfboglcdgeheaadoor", sum := "1a51256d02619169972f4cada97214424a5112503279c56637a9272ad39c2108", func := "palaver/palaverlaw01.RunesFolds", spec := "runesFolds", inPlace := ["internal/abi.NoEscape"], named := ["unicode/utf8.first", "unicode/utf8.acceptRanges"], apart := false, laid := [("unicode/utf8.acceptRanges", laid_unicode_utf8_acceptRanges), ("unicode/utf8.first", laid_unicode_utf8_first)] }
def RunesFoldsSaid : Prop := runesFoldsRow.holds Tryd.pinned (OpenSpec.ofChange runesFoldsSpec)

/-- ITS FALSE NEIGHBOUR: 'it returns false'. Refute it at one input. -/
def runesFoldsWrong : ChangeSpec := { name := "runesFolds", fn := fun _ => fun
  | [d] => { results := [.lit (.bool false)], args := [d] }
  | _ => none }
def RunesFoldsWrongFalsely : Prop := runesFoldsRow.holds Tryd.pinned (OpenSpec.ofChange runesFoldsWrong)

/-- 'palaverlaw01.RunesPlaces': WHATEVER THE INPUT: true; the input reads as it did. -/
def runesPlacesSpec : ChangeSpec := { name := "runesPlaces", fn := fun _ => fun
  | [d1, d2] => { results := [.lit (.bool true)], args := [d1, d2] }
  | _ => none }
def runesPlacesRow : OpenClaim := { program := "ytbfboglcdgeheaadoor", sum := "1a51256d02619169972f4cada97214424a5112503279c56637a9272ad39c2108", func := "palaver/palaverlaw01.RunesPlaces", spec := "runesPlaces", inPlace := ["internal/abi.NoEscape"], named := ["unicode/utf8.first", "unicode/utf8.acceptRanges"], apart := false, laid := [("unicode/utf8.acceptRanges", laid_unicode_utf8_acceptRanges), ("unicode/utf8.first", laid_unicode_utf8_first)] }
def RunesPlacesSaid : Prop := runesPlacesRow.holds Tryd.pinned (OpenSpec.ofChange runesPlacesSpec)

/-- ITS FALSE NEIGHBOUR: 'it returns false'. Refute it at one input. -/
def runesPlacesWrong : ChangeSpec := { name := "runesPlaces", fn := fun _ => fun
  | [d1, d2] => { results := [.lit (.bool false)], args := [d1, d2] }
  | _ => none }
def RunesPlacesWrongFalsely : Prop := runesPlacesRow.holds Tryd.pinned (OpenSpec.ofChange runesPlacesWrong)

/-- 'palaverlaw01.RunesParts': WHATEVER THE INPUT: true; the input reads as it did. -/
def runesPartsSpec : ChangeSpec := { name := "runesParts", fn := fun _ => fun
  | [d1, d2] => { results := [.lit (.bool true)], args := [d1, d2] }
  | _ => none }
def runesPartsRow : OpenClaim := { program := "ytbfboglcdgeheaadoor", sum := "1a51256d02619169972f4cada97214424a5112503279c56637a9272ad39c2108", func := "palaver/palaverlaw01.RunesParts", spec := "runesParts", inPlace := ["internal/abi.NoEscape"], named := ["unicode/utf8.first", "unicode/utf8.acceptRanges"], apart := false, laid := [("unicode/utf8.acceptRanges", laid_unicode_utf8_acceptRanges), ("unicode/utf8.first", laid_unicode_utf8_first)] }
def RunesPartsSaid : Prop := runesPartsRow.holds Tryd.pinned (OpenSpec.ofChange runesPartsSpec)

/-- ITS FALSE NEIGHBOUR: 'it returns false'. Refute it at one input. -/
def runesPartsWrong : ChangeSpec := { name := "runesParts", fn := fun _ => fun
  | [d1, d2] => { results := [.lit (.bool false)], args := [d1, d2] }
  | _ => none }
def RunesPartsWrongFalsely : Prop := runesPartsRow.holds Tryd.pinned (OpenSpec.ofChange runesPartsWrong)

/-- 'palaverlaw01.RunesAscii': WHATEVER THE INPUT: true; the input reads as it did. -/
def runesAsciiSpec : ChangeSpec := { name := "runesAscii", fn := fun _ => fun
  | [d] => { results := [.lit (.bool true)], args := [d] }
  | _ => none }
def runesAsciiRow : OpenClaim := { program := "ytbfboglcdgeheaadoor", sum := "1a51256d02619169972f4cada97214424a5112503279c56637a9272ad39c2108", func := "palaver/palaverlaw01.RunesAscii", spec := "runesAscii", inPlace := ["internal/abi.NoEscape"], named := ["unicode/utf8.first", "unicode/utf8.acceptRanges"], apart := false, laid := [("unicode/utf8.acceptRanges", laid_unicode_utf8_acceptRanges), ("unicode/utf8.first", laid_unicode_utf8_first)] }
def RunesAsciiSaid : Prop := runesAsciiRow.holds Tryd.pinned (OpenSpec.ofChange runesAsciiSpec)

/-- ITS FALSE NEIGHBOUR: 'it returns false'. Refute it at one input. -/
def runesAsciiWrong : ChangeSpec := { name := "runesAscii", fn := fun _ => fun
  | [d] => { results := [.lit (.bool false)], args := [d] }
  | _ => none }
def RunesAsciiWrongFalsely : Prop := runesAsciiRow.holds Tryd.pinned (OpenSpec.ofChange runesAsciiWrong)

/-- 'palaverlaw01.RunesBack': WHATEVER THE INPUT: true; the input reads as it did. -/
def runesBackSpec : ChangeSpec := { name := "runesBack", fn := fun _ => fun
  | [d] => { results := [.lit (.bool true)], args := [d] }
  | _ => none }
def runesBackRow : OpenClaim := { program := "ytbfboglcdgeheaadoor", sum := "1a51256d02619169972f4cada97214424a5112503279c56637a9272ad39c2108", func := "palaver/palaverlaw01.RunesBack", spec := "runesBack", inPlace := ["internal/abi.NoEscape"], named := ["unicode/utf8.first", "unicode/utf8.acceptRanges"], apart := false, laid := [("unicode/utf8.acceptRanges", laid_unicode_utf8_acceptRanges), ("unicode/utf8.first", laid_unicode_utf8_first)] }
def RunesBackSaid : Prop := runesBackRow.holds Tryd.pinned (OpenSpec.ofChange runesBackSpec)

/-- ITS FALSE NEIGHBOUR: 'it returns false'. Refute it at one input. -/
def runesBackWrong : ChangeSpec := { name := "runesBack", fn := fun _ => fun
  | [d] => { results := [.lit (.bool false)], args := [d] }
  | _ => none }
def RunesBackWrongFalsely : Prop := runesBackRow.holds Tryd.pinned (OpenSpec.ofChange runesBackWrong)

/-- 'palaverlaw01.RunesFoldKeeps': WHATEVER THE INPUT: true; the input reads as it did. -/
def runesFoldKeepsSpec : ChangeSpec := { name := "runesFoldKeeps", fn := fun _ => fun
  | [d] => { results := [.lit (.bool true)], args := [d] }
  | _ => none }
def runesFoldKeepsRow : OpenClaim := { program := "ytbfboglcdgeheaadoor", sum := "1a51256d02619169972f4cada97214424a5112503279c56637a9272ad39c2108", func := "palaver/palaverlaw01.RunesFoldKeeps", spec := "runesFoldKeeps", inPlace := ["internal/abi.NoEscape"], named := ["unicode/utf8.first", "unicode/utf8.acceptRanges"], apart := false, laid := [("unicode/utf8.acceptRanges", laid_unicode_utf8_acceptRanges), ("unicode/utf8.first", laid_unicode_utf8_first)] }
def RunesFoldKeepsSaid : Prop := runesFoldKeepsRow.holds Tryd.pinned (OpenSpec.ofChange runesFoldKeepsSpec)

/-- ITS FALSE NEIGHBOUR: 'it returns false'. Refute it at one input. -/
def runesFoldKeepsWrong : ChangeSpec := { name := "runesFoldKeeps", fn := fun _ => fun
  | [d] => { results := [.lit (.bool false)], args := [d] }
  | _ => none }
def RunesFoldKeepsWrongFalsely : Prop := runesFoldKeepsRow.holds Tryd.pinned (OpenSpec.ofChange runesFoldKeepsWrong)

/-- 'palaverlaw01.RunesLists': WHATEVER THE INPUT: true; the input reads as it did. -/
def runesListsSpec : ChangeSpec := { name := "runesLists", fn := fun _ => fun
  | [d1, d2] => { results := [.lit (.bool true)], args := [d1, d2] }
  | _ => none }
def runesListsRow : OpenClaim := { program := "ytbfboglcdgeheaadoor", sum := "1a51256d02619169972f4cada97214424a5112503279c56637a9272ad39c2108", func := "palaver/palaverlaw01.RunesLists", spec := "runesLists", inPlace := ["internal/abi.NoEscape"], named := ["unicode/utf8.first", "unicode/utf8.acceptRanges"], apart := false, laid := [("unicode/utf8.acceptRanges", laid_unicode_utf8_acceptRanges), ("unicode/utf8.first", laid_unicode_utf8_first)] }
def RunesListsSaid : Prop := runesListsRow.holds Tryd.pinned (OpenSpec.ofChange runesListsSpec)

/-- ITS FALSE NEIGHBOUR: 'it returns false'. Refute it at one input. -/
def runesListsWrong : ChangeSpec := { name := "runesLists", fn := fun _ => fun
  | [d1, d2] => { results := [.lit (.bool false)], args := [d1, d2] }
  | _ => none }
def RunesListsWrongFalsely : Prop := runesListsRow.holds Tryd.pinned (OpenSpec.ofChange runesListsWrong)

/-- 'palaverlaw01.RunesGo': WHATEVER THE INPUT: true; the input reads as it did. -/
def runesGoSpec : ChangeSpec := { name := "runesGo", fn := fun _ => fun
  | [d] => { results := [.lit (.bool true)], args := [d] }
  | _ => none }
def runesGoRow : OpenClaim := { program := "ytbfboglcdgeheaadoor", sum := "1a51256d02619169972f4cada97214424a5112503279c56637a9272ad39c2108", func := "palaver/palaverlaw01.RunesGo", spec := "runesGo", inPlace := ["internal/abi.NoEscape"], named := ["unicode/utf8.first", "unicode/utf8.acceptRanges"], apart := false, laid := [("unicode/utf8.acceptRanges", laid_unicode_utf8_acceptRanges), ("unicode/utf8.first", laid_unicode_utf8_first)] }
def RunesGoSaid : Prop := runesGoRow.holds Tryd.pinned (OpenSpec.ofChange runesGoSpec)

/-- ITS FALSE NEIGHBOUR: 'it returns false'. Refute it at one input. -/
def runesGoWrong : ChangeSpec := { name := "runesGo", fn := fun _ => fun
  | [d] => { results := [.lit (.bool false)], args := [d] }
  | _ => none }
def RunesGoWrongFalsely : Prop := runesGoRow.holds Tryd.pinned (OpenSpec.ofChange runesGoWrong)

/-- 'palaverlaw01.RunesJoin': WHATEVER THE INPUT: true; the input reads as it did. -/
def runesJoinSpec : ChangeSpec := { name := "runesJoin", fn := fun _ => fun
  | [d1, d2] => { results := [.lit (.bool true)], args := [d1, d2] }
  | _ => none }
def runesJoinRow : OpenClaim := { program := "ytbfboglcdgeheaadoor", sum := "1a51256d02619169972f4cada97214424a5112503279c56637a9272ad39c2108", func := "palaver/palaverlaw01.RunesJoin", spec := "runesJoin", inPlace := ["internal/abi.NoEscape"], named := ["unicode/utf8.first", "unicode/utf8.acceptRanges"], apart := false, laid := [("unicode/utf8.acceptRanges", laid_unicode_utf8_acceptRanges), ("unicode/utf8.first", laid_unicode_utf8_first)] }
def RunesJoinSaid : Prop := runesJoinRow.holds Tryd.pinned (OpenSpec.ofChange runesJoinSpec)

/-- ITS FALSE NEIGHBOUR: 'it returns false'. Refute it at one input. -/
def runesJoinWrong : ChangeSpec := { name := "runesJoin", fn := fun _ => fun
  | [d1, d2] => { results := [.lit (.bool false)], args := [d1, d2] }
  | _ => none }
def RunesJoinWrongFalsely : Prop := runesJoinRow.holds Tryd.pinned (OpenSpec.ofChange runesJoinWrong)

/- THE SECOND FORM. 'bulk': how many values and letters a reading holds, each counted each time it is reached (what is shared counts as often as it is met; a slice's spare places count too). A statement '..UptoSaid' is the law's where the arguments, and the package variables that the reading takes, are together of bulk at most 1048576: NARROWER than '..Said'. Prove '..Said' where nothing that the law and all that it calls make is longer than what came in: it says more and counts as full. Else prove '..UptoSaid'. A law counts once. -/
mutual
def uptoBulk {H : Type} : DataW H → Nat
  | .lit (.string bytes) => bytes.length + 1
  | .lit _ => 1
  | .nil => 1
  | .ptr d => uptoBulk d + 1
  | .slice elems spare => uptoBulkAll elems + uptoBulkAll spare + 1
  | .agg parts => uptoBulkAll parts + 1
  | .iface _ d => uptoBulk d + 1
  | .map entries => uptoBulkEntries entries + 1
  | .held _ => 1
def uptoBulkAll {H : Type} : List (DataW H) → Nat
  | [] => 0
  | d :: r => uptoBulk d + uptoBulkAll r
def uptoBulkEntries {H : Type} : List (Lit × DataW H) → Nat
  | [] => 0
  | x :: r => uptoBulkEntry x + uptoBulkEntries r
def uptoBulkEntry {H : Type} : Lit × DataW H → Nat
  | (.string bytes, d) => bytes.length + uptoBulk d + 1
  | (_, d) => uptoBulk d + 1
 end
def uptoSmall : (H : Type) → List (DataW H) → Bool := fun _ ds => decide (uptoBulkAll ds ≤ 1048576)
def OpenSpec.upto (s : _root_.Go.ChangeSpec) : _root_.Go.OpenSpec := { _root_.Go.OpenSpec.ofChange s with cond := some uptoSmall }

/-- 'palaverlaw01.RunesClasses', WHERE WHAT IT READS IS OF BULK AT MOST 1048576: true; the input reads as it did. -/
def runesClassesUptoRow : OpenClaim := { program := "ytbfboglcdgeheaadoor", sum := "1a51256d02619169972f4cada97214424a5112503279c56637a9272ad39c2108", func := "palaver/palaverlaw01.RunesClasses", spec := "runesClasses", inPlace := ["internal/abi.NoEscape"], named := ["unicode/utf8.first", "unicode/utf8.acceptRanges"], apart := false, laid := [("unicode/utf8.acceptRanges", laid_unicode_utf8_acceptRanges), ("unicode/utf8.first", laid_unicode_utf8_first)], narrowed := true }
def RunesClassesUptoSaid : Prop := runesClassesUptoRow.holds Tryd.pinned (OpenSpec.upto runesClassesSpec)

/-- 'palaverlaw01.RunesFolds', WHERE WHAT IT READS IS OF BULK AT MOST 1048576: true; the input reads as it did. -/
def runesFoldsUptoRow : OpenClaim := { program := "ytbfboglcdgeheaadoor", sum := "1a51256d02619169972f4cada97214424a5112503279c56637a9272ad39c2108", func := "palaver/palaverlaw01.RunesFolds", spec := "runesFolds", inPlace := ["internal/abi.NoEscape"], named := ["unicode/utf8.first", "unicode/utf8.acceptRanges"], apart := false, laid := [("unicode/utf8.acceptRanges", laid_unicode_utf8_acceptRanges), ("unicode/utf8.first", laid_unicode_utf8_first)], narrowed := true }
def RunesFoldsUptoSaid : Prop := runesFoldsUptoRow.holds Tryd.pinned (OpenSpec.upto runesFoldsSpec)

/-- 'palaverlaw01.RunesPlaces', WHERE WHAT IT READS IS OF BULK AT MOST 1048576: true; the input reads as it did. -/
def runesPlacesUptoRow : OpenClaim := { program := "ytbfboglcdgeheaadoor", sum := "1a51256d02619169972f4cada97214424a5112503279c56637a9272ad39c2108", func := "palaver/palaverlaw01.RunesPlaces", spec := "runesPlaces", inPlace := ["internal/abi.NoEscape"], named := ["unicode/utf8.first", "unicode/utf8.acceptRanges"], apart := false, laid := [("unicode/utf8.acceptRanges", laid_unicode_utf8_acceptRanges), ("unicode/utf8.first", laid_unicode_utf8_first)], narrowed := true }
def RunesPlacesUptoSaid : Prop := runesPlacesUptoRow.holds Tryd.pinned (OpenSpec.upto runesPlacesSpec)

/-- 'palaverlaw01.RunesParts', WHERE WHAT IT READS IS OF BULK AT MOST 1048576: true; the input reads as it did. -/
def runesPartsUptoRow : OpenClaim := { program := "ytbfboglcdgeheaadoor", sum := "1a51256d02619169972f4cada97214424a5112503279c56637a9272ad39c2108", func := "palaver/palaverlaw01.RunesParts", spec := "runesParts", inPlace := ["internal/abi.NoEscape"], named := ["unicode/utf8.first", "unicode/utf8.acceptRanges"], apart := false, laid := [("unicode/utf8.acceptRanges", laid_unicode_utf8_acceptRanges), ("unicode/utf8.first", laid_unicode_utf8_first)], narrowed := true }
def RunesPartsUptoSaid : Prop := runesPartsUptoRow.holds Tryd.pinned (OpenSpec.upto runesPartsSpec)

/-- 'palaverlaw01.RunesAscii', WHERE WHAT IT READS IS OF BULK AT MOST 1048576: true; the input reads as it did. -/
def runesAsciiUptoRow : OpenClaim := { program := "ytbfboglcdgeheaadoor", sum := "1a51256d02619169972f4cada97214424a5112503279c56637a9272ad39c2108", func := "palaver/palaverlaw01.RunesAscii", spec := "runesAscii", inPlace := ["internal/abi.NoEscape"], named := ["unicode/utf8.first", "unicode/utf8.acceptRanges"], apart := false, laid := [("unicode/utf8.acceptRanges", laid_unicode_utf8_acceptRanges), ("unicode/utf8.first", laid_unicode_utf8_first)], narrowed := true }
def RunesAsciiUptoSaid : Prop := runesAsciiUptoRow.holds Tryd.pinned (OpenSpec.upto runesAsciiSpec)

/-- 'palaverlaw01.RunesBack', WHERE WHAT IT READS IS OF BULK AT MOST 1048576: true; the input reads as it did. -/
def runesBackUptoRow : OpenClaim := { program := "ytbfboglcdgeheaadoor", sum := "1a51256d02619169972f4cada97214424a5112503279c56637a9272ad39c2108", func := "palaver/palaverlaw01.RunesBack", spec := "runesBack", inPlace := ["internal/abi.NoEscape"], named := ["unicode/utf8.first", "unicode/utf8.acceptRanges"], apart := false, laid := [("unicode/utf8.acceptRanges", laid_unicode_utf8_acceptRanges), ("unicode/utf8.first", laid_unicode_utf8_first)], narrowed := true }
def RunesBackUptoSaid : Prop := runesBackUptoRow.holds Tryd.pinned (OpenSpec.upto runesBackSpec)

/-- 'palaverlaw01.RunesFoldKeeps', WHERE WHAT IT READS IS OF BULK AT MOST 1048576: true; the input reads as it did. -/
def runesFoldKeepsUptoRow : OpenClaim := { program := "ytbfboglcdgeheaadoor", sum := "1a51256d02619169972f4cada97214424a5112503279c56637a9272ad39c2108", func := "palaver/palaverlaw01.RunesFoldKeeps", spec := "runesFoldKeeps", inPlace := ["internal/abi.NoEscape"], named := ["unicode/utf8.first", "unicode/utf8.acceptRanges"], apart := false, laid := [("unicode/utf8.acceptRanges", laid_unicode_utf8_acceptRanges), ("unicode/utf8.first", laid_unicode_utf8_first)], narrowed := true }
def RunesFoldKeepsUptoSaid : Prop := runesFoldKeepsUptoRow.holds Tryd.pinned (OpenSpec.upto runesFoldKeepsSpec)

/-- 'palaverlaw01.RunesLists', WHERE WHAT IT READS IS OF BULK AT MOST 1048576: true; the input reads as it did. -/
def runesListsUptoRow : OpenClaim := { program := "ytbfboglcdgeheaadoor", sum := "1a51256d02619169972f4cada97214424a5112503279c56637a9272ad39c2108", func := "palaver/palaverlaw01.RunesLists", spec := "runesLists", inPlace := ["internal/abi.NoEscape"], named := ["unicode/utf8.first", "unicode/utf8.acceptRanges"], apart := false, laid := [("unicode/utf8.acceptRanges", laid_unicode_utf8_acceptRanges), ("unicode/utf8.first", laid_unicode_utf8_first)], narrowed := true }
def RunesListsUptoSaid : Prop := runesListsUptoRow.holds Tryd.pinned (OpenSpec.upto runesListsSpec)

/-- 'palaverlaw01.RunesGo', WHERE WHAT IT READS IS OF BULK AT MOST 1048576: true; the input reads as it did. -/
def runesGoUptoRow : OpenClaim := { program := "ytbfboglcdgeheaadoor", sum := "1a51256d02619169972f4cada97214424a5112503279c56637a9272ad39c2108", func := "palaver/palaverlaw01.RunesGo", spec := "runesGo", inPlace := ["internal/abi.NoEscape"], named := ["unicode/utf8.first", "unicode/utf8.acceptRanges"], apart := false, laid := [("unicode/utf8.acceptRanges", laid_unicode_utf8_acceptRanges), ("unicode/utf8.first", laid_unicode_utf8_first)], narrowed := true }
def RunesGoUptoSaid : Prop := runesGoUptoRow.holds Tryd.pinned (OpenSpec.upto runesGoSpec)

/-- 'palaverlaw01.RunesJoin', WHERE WHAT IT READS IS OF BULK AT MOST 1048576: true; the input reads as it did. -/
def runesJoinUptoRow : OpenClaim := { program := "ytbfboglcdgeheaadoor", sum := "1a51256d02619169972f4cada97214424a5112503279c56637a9272ad39c2108", func := "palaver/palaverlaw01.RunesJoin", spec := "runesJoin", inPlace := ["internal/abi.NoEscape"], named := ["unicode/utf8.first", "unicode/utf8.acceptRanges"], apart := false, laid := [("unicode/utf8.acceptRanges", laid_unicode_utf8_acceptRanges), ("unicode/utf8.first", laid_unicode_utf8_first)], narrowed := true }
def RunesJoinUptoSaid : Prop := runesJoinUptoRow.holds Tryd.pinned (OpenSpec.upto runesJoinSpec)

end Rows
end Go.Proofs.YtbfboglcdgeheaaDoor
