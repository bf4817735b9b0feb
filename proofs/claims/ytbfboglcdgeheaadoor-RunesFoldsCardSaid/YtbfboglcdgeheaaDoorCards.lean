/-
  DERIVED. GIVEN WITH THE SEED: THE CARDS: each row of YtbfboglcdgeheaaDoorRows.lean that lists a variable, with what it lists TIED to the program's text (the seventh form; the later family's looks); each row that meets fmt, with fmt's text TOLD by the authors' own Lean function (tested against real Go, not proved from fmt's source: count such statements apart). THE CARD IS WHAT COUNTS. Prove the row's statement (the work); the ties are given (YtbfboglcdgeheaaDoorTie.lean); close each card by the builder's one call (the guide's Derived/Test/ToyasCard.lean, 'card_holds'). Laid BY PROGRAM, IN A SANDBOX (cutbox-door.mjs). By AI agents, Wed Nov 11 2026. No macro, syntax, notation, axiom, sorry.
-/
import Derived.Test.YtbfboglcdgeheaaDoorRows
import GoSem.ClaimSeven
namespace Go.Proofs.YtbfboglcdgeheaaDoor
namespace Rows

/-- THE TIED CARD OF 'palaverlaw01.RunesClasses'. -/
def runesClassesCard : Claim7 := { stood := { row := runesClassesRow, standIns := [], harness := (true, "ef922200c9636a2d5c511715374d8d24caa853e0e98e8dbcbd66cff1ca70b41e"), looks := false }, kinds := [], alts := [], laidByText := true, laidKinds := [.data, .pinned], laidTests := true, laidLooks := .later }
def RunesClassesCardSaid : Prop := Claim7.holds Tryd.pinned (.plain (OpenSpec.ofChange runesClassesSpec)) runesClassesCard

/-- THE TIED CARD OF 'palaverlaw01.RunesFolds'. -/
def runesFoldsCard : Claim7 := { stood := { row := runesFoldsRow, standIns := [], harness := (true, "ef922200c9636a2d5c511715374d8d24caa853e0e98e8dbcbd66cff1ca70b41e"), looks := false }, kinds := [], alts := [], laidByText := true, laidKinds := [.data, .pinned], laidTests := true, laidLooks := .later }
def RunesFoldsCardSaid : Prop := Claim7.holds Tryd.pinned (.plain (OpenSpec.ofChange runesFoldsSpec)) runesFoldsCard

/-- THE TIED CARD OF 'palaverlaw01.RunesPlaces'. -/
def runesPlacesCard : Claim7 := { stood := { row := runesPlacesRow, standIns := [], harness := (true, "ef922200c9636a2d5c511715374d8d24caa853e0e98e8dbcbd66cff1ca70b41e"), looks := false }, kinds := [], alts := [], laidByText := true, laidKinds := [.data, .pinned], laidTests := true, laidLooks := .later }
def RunesPlacesCardSaid : Prop := Claim7.holds Tryd.pinned (.plain (OpenSpec.ofChange runesPlacesSpec)) runesPlacesCard

/-- THE TIED CARD OF 'palaverlaw01.RunesParts'. -/
def runesPartsCard : Claim7 := { stood := { row := runesPartsRow, standIns := [], harness := (true, "ef922200c9636a2d5c511715374d8d24caa853e0e98e8dbcbd66cff1ca70b41e"), looks := false }, kinds := [], alts := [], laidByText := true, laidKinds := [.data, .pinned], laidTests := true, laidLooks := .later }
def RunesPartsCardSaid : Prop := Claim7.holds Tryd.pinned (.plain (OpenSpec.ofChange runesPartsSpec)) runesPartsCard

/-- THE TIED CARD OF 'palaverlaw01.RunesAscii'. -/
def runesAsciiCard : Claim7 := { stood := { row := runesAsciiRow, standIns := [], harness := (true, "ef922200c9636a2d5c511715374d8d24caa853e0e98e8dbcbd66cff1ca70b41e"), looks := false }, kinds := [], alts := [], laidByText := true, laidKinds := [.data, .pinned], laidTests := true, laidLooks := .later }
def RunesAsciiCardSaid : Prop := Claim7.holds Tryd.pinned (.plain (OpenSpec.ofChange runesAsciiSpec)) runesAsciiCard

/-- THE TIED CARD OF 'palaverlaw01.RunesBack'. -/
def runesBackCard : Claim7 := { stood := { row := runesBackRow, standIns := [], harness := (true, "ef922200c9636a2d5c511715374d8d24caa853e0e98e8dbcbd66cff1ca70b41e"), looks := false }, kinds := [], alts := [], laidByText := true, laidKinds := [.data, .pinned], laidTests := true, laidLooks := .later }
def RunesBackCardSaid : Prop := Claim7.holds Tryd.pinned (.plain (OpenSpec.ofChange runesBackSpec)) runesBackCard

/-- THE TIED CARD OF 'palaverlaw01.RunesFoldKeeps'. -/
def runesFoldKeepsCard : Claim7 := { stood := { row := runesFoldKeepsRow, standIns := [], harness := (true, "ef922200c9636a2d5c511715374d8d24caa853e0e98e8dbcbd66cff1ca70b41e"), looks := false }, kinds := [], alts := [], laidByText := true, laidKinds := [.data, .pinned], laidTests := true, laidLooks := .later }
def RunesFoldKeepsCardSaid : Prop := Claim7.holds Tryd.pinned (.plain (OpenSpec.ofChange runesFoldKeepsSpec)) runesFoldKeepsCard

/-- THE TIED CARD OF 'palaverlaw01.RunesLists'. -/
def runesListsCard : Claim7 := { stood := { row := runesListsRow, standIns := [], harness := (true, "ef922200c9636a2d5c511715374d8d24caa853e0e98e8dbcbd66cff1ca70b41e"), looks := false }, kinds := [], alts := [], laidByText := true, laidKinds := [.data, .pinned], laidTests := true, laidLooks := .later }
def RunesListsCardSaid : Prop := Claim7.holds Tryd.pinned (.plain (OpenSpec.ofChange runesListsSpec)) runesListsCard

/-- THE TIED CARD OF 'palaverlaw01.RunesGo'. -/
def runesGoCard : Claim7 := { stood := { row := runesGoRow, standIns := [], harness := (true, "ef922200c9636a2d5c511715374d8d24caa853e0e98e8dbcbd66cff1ca70b41e"), looks := false }, kinds := [], alts := [], laidByText := true, laidKinds := [.data, .pinned], laidTests := true, laidLooks := .later }
def RunesGoCardSaid : Prop := Claim7.holds Tryd.pinned (.plain (OpenSpec.ofChange runesGoSpec)) runesGoCard

/-- THE TIED CARD OF 'palaverlaw01.RunesJoin'. -/
def runesJoinCard : Claim7 := { stood := { row := runesJoinRow, standIns := [], harness := (true, "ef922200c9636a2d5c511715374d8d24caa853e0e98e8dbcbd66cff1ca70b41e"), looks := false }, kinds := [], alts := [], laidByText := true, laidKinds := [.data, .pinned], laidTests := true, laidLooks := .later }
def RunesJoinCardSaid : Prop := Claim7.holds Tryd.pinned (.plain (OpenSpec.ofChange runesJoinSpec)) runesJoinCard

/-- THE SECOND FORM's CARD OF 'palaverlaw01.RunesClasses'. -/
def runesClassesUptoCard : Claim7 := { stood := { row := runesClassesUptoRow, standIns := [], harness := (true, "ef922200c9636a2d5c511715374d8d24caa853e0e98e8dbcbd66cff1ca70b41e"), looks := false }, kinds := [], alts := [], laidByText := true, laidKinds := [.data, .pinned], laidTests := true, laidLooks := .later }
def RunesClassesUptoCardSaid : Prop := Claim7.holds Tryd.pinned (.plain (OpenSpec.upto runesClassesSpec)) runesClassesUptoCard

/-- THE SECOND FORM's CARD OF 'palaverlaw01.RunesFolds'. -/
def runesFoldsUptoCard : Claim7 := { stood := { row := runesFoldsUptoRow, standIns := [], harness := (true, "ef922200c9636a2d5c511715374d8d24caa853e0e98e8dbcbd66cff1ca70b41e"), looks := false }, kinds := [], alts := [], laidByText := true, laidKinds := [.data, .pinned], laidTests := true, laidLooks := .later }
def RunesFoldsUptoCardSaid : Prop := Claim7.holds Tryd.pinned (.plain (OpenSpec.upto runesFoldsSpec)) runesFoldsUptoCard

/-- THE SECOND FORM's CARD OF 'palaverlaw01.RunesPlaces'. -/
def runesPlacesUptoCard : Claim7 := { stood := { row := runesPlacesUptoRow, standIns := [], harness := (true, "ef922200c9636a2d5c511715374d8d24caa853e0e98e8dbcbd66cff1ca70b41e"), looks := false }, kinds := [], alts := [], laidByText := true, laidKinds := [.data, .pinned], laidTests := true, laidLooks := .later }
def RunesPlacesUptoCardSaid : Prop := Claim7.holds Tryd.pinned (.plain (OpenSpec.upto runesPlacesSpec)) runesPlacesUptoCard

/-- THE SECOND FORM's CARD OF 'palaverlaw01.RunesParts'. -/
def runesPartsUptoCard : Claim7 := { stood := { row := runesPartsUptoRow, standIns := [], harness := (true, "ef922200c9636a2d5c511715374d8d24caa853e0e98e8dbcbd66cff1ca70b41e"), looks := false }, kinds := [], alts := [], laidByText := true, laidKinds := [.data, .pinned], laidTests := true, laidLooks := .later }
def RunesPartsUptoCardSaid : Prop := Claim7.holds Tryd.pinned (.plain (OpenSpec.upto runesPartsSpec)) runesPartsUptoCard

/-- THE SECOND FORM's CARD OF 'palaverlaw01.RunesAscii'. -/
def runesAsciiUptoCard : Claim7 := { stood := { row := runesAsciiUptoRow, standIns := [], harness := (true, "ef922200c9636a2d5c511715374d8d24caa853e0e98e8dbcbd66cff1ca70b41e"), looks := false }, kinds := [], alts := [], laidByText := true, laidKinds := [.data, .pinned], laidTests := true, laidLooks := .later }
def RunesAsciiUptoCardSaid : Prop := Claim7.holds Tryd.pinned (.plain (OpenSpec.upto runesAsciiSpec)) runesAsciiUptoCard

/-- THE SECOND FORM's CARD OF 'palaverlaw01.RunesBack'. -/
def runesBackUptoCard : Claim7 := { stood := { row := runesBackUptoRow, standIns := [], harness := (true, "ef922200c9636a2d5c511715374d8d24caa853e0e98e8dbcbd66cff1ca70b41e"), looks := false }, kinds := [], alts := [], laidByText := true, laidKinds := [.data, .pinned], laidTests := true, laidLooks := .later }
def RunesBackUptoCardSaid : Prop := Claim7.holds Tryd.pinned (.plain (OpenSpec.upto runesBackSpec)) runesBackUptoCard

/-- THE SECOND FORM's CARD OF 'palaverlaw01.RunesFoldKeeps'. -/
def runesFoldKeepsUptoCard : Claim7 := { stood := { row := runesFoldKeepsUptoRow, standIns := [], harness := (true, "ef922200c9636a2d5c511715374d8d24caa853e0e98e8dbcbd66cff1ca70b41e"), looks := false }, kinds := [], alts := [], laidByText := true, laidKinds := [.data, .pinned], laidTests := true, laidLooks := .later }
def RunesFoldKeepsUptoCardSaid : Prop := Claim7.holds Tryd.pinned (.plain (OpenSpec.upto runesFoldKeepsSpec)) runesFoldKeepsUptoCard

/-- THE SECOND FORM's CARD OF 'palaverlaw01.RunesLists'. -/
def runesListsUptoCard : Claim7 := { stood := { row := runesListsUptoRow, standIns := [], harness := (true, "ef922200c9636a2d5c511715374d8d24caa853e0e98e8dbcbd66cff1ca70b41e"), looks := false }, kinds := [], alts := [], laidByText := true, laidKinds := [.data, .pinned], laidTests := true, laidLooks := .later }
def RunesListsUptoCardSaid : Prop := Claim7.holds Tryd.pinned (.plain (OpenSpec.upto runesListsSpec)) runesListsUptoCard

/-- THE SECOND FORM's CARD OF 'palaverlaw01.RunesGo'. -/
def runesGoUptoCard : Claim7 := { stood := { row := runesGoUptoRow, standIns := [], harness := (true, "ef922200c9636a2d5c511715374d8d24caa853e0e98e8dbcbd66cff1ca70b41e"), looks := false }, kinds := [], alts := [], laidByText := true, laidKinds := [.data, .pinned], laidTests := true, laidLooks := .later }
def RunesGoUptoCardSaid : Prop := Claim7.holds Tryd.pinned (.plain (OpenSpec.upto runesGoSpec)) runesGoUptoCard

/-- THE SECOND FORM's CARD OF 'palaverlaw01.RunesJoin'. -/
def runesJoinUptoCard : Claim7 := { stood := { row := runesJoinUptoRow, standIns := [], harness := (true, "ef922200c9636a2d5c511715374d8d24caa853e0e98e8dbcbd66cff1ca70b41e"), looks := false }, kinds := [], alts := [], laidByText := true, laidKinds := [.data, .pinned], laidTests := true, laidLooks := .later }
def RunesJoinUptoCardSaid : Prop := Claim7.holds Tryd.pinned (.plain (OpenSpec.upto runesJoinSpec)) runesJoinUptoCard
end Rows
end Go.Proofs.YtbfboglcdgeheaaDoor
