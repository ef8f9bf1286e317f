/-
  DERIVED. GIVEN WITH THE SEED: THE CARDS: each row of YtnhjbcjeeilicaaDoorRows.lean that lists a variable, with what it lists TIED to the program's text (the seventh form; the later family's looks); each row that meets fmt, with fmt's text TOLD by the authors' own Lean function (tested against real Go, not proved from fmt's source: count such statements apart). THE CARD IS WHAT COUNTS. Prove the row's statement (the work); the ties are given (YtnhjbcjeeilicaaDoorTie.lean); close each card by the builder's one call (the guide's Derived/Test/ToyasCard.lean, 'card_holds'). Laid BY PROGRAM, IN A SANDBOX (cutbox-door.mjs). By AI agents, Wed Nov 11 2026. No macro, syntax, notation, axiom, sorry.
-/
import Derived.Test.YtnhjbcjeeilicaaDoorRows
import GoSem.ClaimSeven
namespace Go.Proofs.YtnhjbcjeeilicaaDoor
namespace Rows

/-- THE TIED CARD OF 'bollardlaw16.HttpFields'. -/
def httpFieldsCard : Claim7 := { stood := { row := httpFieldsRow, standIns := [], harness := (true, "9ba64d4cd5ec703fbbd33f6d9ea20115991bc00ffd11f9579cb5ae884d746b7d"), looks := true }, kinds := [], alts := [], laidByText := true, laidKinds := [.data, .data, .data, .data, .sentinel, .sentinel, .sentinel, .sentinel, .pinned], laidTests := true, laidLooks := .later }
def HttpFieldsCardSaid : Prop := Claim7.holds Tryd.pinned (.plain (OpenSpec.ofChange httpFieldsSpec)) httpFieldsCard

/-- THE TIED CARD OF 'bollardlaw16.HttpWrites'. -/
def httpWritesCard : Claim7 := { stood := { row := httpWritesRow, standIns := [], harness := (true, "9ba64d4cd5ec703fbbd33f6d9ea20115991bc00ffd11f9579cb5ae884d746b7d"), looks := true }, kinds := [], alts := [], laidByText := true, laidKinds := [.data, .data, .data, .data, .sentinel, .sentinel, .sentinel, .sentinel, .pinned], laidTests := true, laidLooks := .later }
def HttpWritesCardSaid : Prop := Claim7.holds Tryd.pinned (.plain (OpenSpec.ofChange httpWritesSpec)) httpWritesCard

/-- THE TIED CARD OF 'bollardlaw16.HttpStreams'. -/
def httpStreamsCard : Claim7 := { stood := { row := httpStreamsRow, standIns := [], harness := (true, "9ba64d4cd5ec703fbbd33f6d9ea20115991bc00ffd11f9579cb5ae884d746b7d"), looks := true }, kinds := [], alts := [], laidByText := true, laidKinds := [.data, .data, .data, .data, .sentinel, .sentinel, .sentinel, .sentinel, .pinned], laidTests := true, laidLooks := .later }
def HttpStreamsCardSaid : Prop := Claim7.holds Tryd.pinned (.plain (OpenSpec.ofChange httpStreamsSpec)) httpStreamsCard

/-- THE TIED CARD OF 'bollardlaw16.HttpBack'. -/
def httpBackCard : Claim7 := { stood := { row := httpBackRow, standIns := [], harness := (true, "9ba64d4cd5ec703fbbd33f6d9ea20115991bc00ffd11f9579cb5ae884d746b7d"), looks := true }, kinds := [], alts := [], laidByText := true, laidKinds := [.data, .data, .data, .data, .sentinel, .sentinel, .sentinel, .sentinel, .pinned], laidTests := true, laidLooks := .later }
def HttpBackCardSaid : Prop := Claim7.holds Tryd.pinned (.plain (OpenSpec.ofChange httpBackSpec)) httpBackCard

/-- THE TIED CARD OF 'bollardlaw16.HttpRows'. -/
def httpRowsCard : Claim7 := { stood := { row := httpRowsRow, standIns := [], harness := (true, "9ba64d4cd5ec703fbbd33f6d9ea20115991bc00ffd11f9579cb5ae884d746b7d"), looks := true }, kinds := [], alts := [], laidByText := true, laidKinds := [.data, .data, .data, .data, .sentinel, .sentinel, .sentinel, .sentinel, .pinned], laidTests := true, laidLooks := .later }
def HttpRowsCardSaid : Prop := Claim7.holds Tryd.pinned (.plain (OpenSpec.ofChange httpRowsSpec)) httpRowsCard

/-- THE TIED CARD OF 'bollardlaw16.HttpAnswers'. -/
def httpAnswersCard : Claim7 := { stood := { row := httpAnswersRow, standIns := [], harness := (true, "9ba64d4cd5ec703fbbd33f6d9ea20115991bc00ffd11f9579cb5ae884d746b7d"), looks := true }, kinds := [], alts := [], laidByText := true, laidKinds := [.data, .data, .data, .data, .sentinel, .sentinel, .sentinel, .sentinel, .pinned], laidTests := true, laidLooks := .later }
def HttpAnswersCardSaid : Prop := Claim7.holds Tryd.pinned (.plain (OpenSpec.ofChange httpAnswersSpec)) httpAnswersCard

/-- THE SECOND FORM's CARD OF 'bollardlaw16.HttpFields'. -/
def httpFieldsUptoCard : Claim7 := { stood := { row := httpFieldsUptoRow, standIns := [], harness := (true, "9ba64d4cd5ec703fbbd33f6d9ea20115991bc00ffd11f9579cb5ae884d746b7d"), looks := true }, kinds := [], alts := [], laidByText := true, laidKinds := [.data, .data, .data, .data, .sentinel, .sentinel, .sentinel, .sentinel, .pinned], laidTests := true, laidLooks := .later }
def HttpFieldsUptoCardSaid : Prop := Claim7.holds Tryd.pinned (.plain (OpenSpec.upto httpFieldsSpec)) httpFieldsUptoCard

/-- THE SECOND FORM's CARD OF 'bollardlaw16.HttpWrites'. -/
def httpWritesUptoCard : Claim7 := { stood := { row := httpWritesUptoRow, standIns := [], harness := (true, "9ba64d4cd5ec703fbbd33f6d9ea20115991bc00ffd11f9579cb5ae884d746b7d"), looks := true }, kinds := [], alts := [], laidByText := true, laidKinds := [.data, .data, .data, .data, .sentinel, .sentinel, .sentinel, .sentinel, .pinned], laidTests := true, laidLooks := .later }
def HttpWritesUptoCardSaid : Prop := Claim7.holds Tryd.pinned (.plain (OpenSpec.upto httpWritesSpec)) httpWritesUptoCard

/-- THE SECOND FORM's CARD OF 'bollardlaw16.HttpStreams'. -/
def httpStreamsUptoCard : Claim7 := { stood := { row := httpStreamsUptoRow, standIns := [], harness := (true, "9ba64d4cd5ec703fbbd33f6d9ea20115991bc00ffd11f9579cb5ae884d746b7d"), looks := true }, kinds := [], alts := [], laidByText := true, laidKinds := [.data, .data, .data, .data, .sentinel, .sentinel, .sentinel, .sentinel, .pinned], laidTests := true, laidLooks := .later }
def HttpStreamsUptoCardSaid : Prop := Claim7.holds Tryd.pinned (.plain (OpenSpec.upto httpStreamsSpec)) httpStreamsUptoCard

/-- THE SECOND FORM's CARD OF 'bollardlaw16.HttpBack'. -/
def httpBackUptoCard : Claim7 := { stood := { row := httpBackUptoRow, standIns := [], harness := (true, "9ba64d4cd5ec703fbbd33f6d9ea20115991bc00ffd11f9579cb5ae884d746b7d"), looks := true }, kinds := [], alts := [], laidByText := true, laidKinds := [.data, .data, .data, .data, .sentinel, .sentinel, .sentinel, .sentinel, .pinned], laidTests := true, laidLooks := .later }
def HttpBackUptoCardSaid : Prop := Claim7.holds Tryd.pinned (.plain (OpenSpec.upto httpBackSpec)) httpBackUptoCard

/-- THE SECOND FORM's CARD OF 'bollardlaw16.HttpRows'. -/
def httpRowsUptoCard : Claim7 := { stood := { row := httpRowsUptoRow, standIns := [], harness := (true, "9ba64d4cd5ec703fbbd33f6d9ea20115991bc00ffd11f9579cb5ae884d746b7d"), looks := true }, kinds := [], alts := [], laidByText := true, laidKinds := [.data, .data, .data, .data, .sentinel, .sentinel, .sentinel, .sentinel, .pinned], laidTests := true, laidLooks := .later }
def HttpRowsUptoCardSaid : Prop := Claim7.holds Tryd.pinned (.plain (OpenSpec.upto httpRowsSpec)) httpRowsUptoCard

/-- THE SECOND FORM's CARD OF 'bollardlaw16.HttpAnswers'. -/
def httpAnswersUptoCard : Claim7 := { stood := { row := httpAnswersUptoRow, standIns := [], harness := (true, "9ba64d4cd5ec703fbbd33f6d9ea20115991bc00ffd11f9579cb5ae884d746b7d"), looks := true }, kinds := [], alts := [], laidByText := true, laidKinds := [.data, .data, .data, .data, .sentinel, .sentinel, .sentinel, .sentinel, .pinned], laidTests := true, laidLooks := .later }
def HttpAnswersUptoCardSaid : Prop := Claim7.holds Tryd.pinned (.plain (OpenSpec.upto httpAnswersSpec)) httpAnswersUptoCard
end Rows
end Go.Proofs.YtnhjbcjeeilicaaDoor
