/-
  DERIVED. GIVEN WITH THE SEED: THE CARDS: each row of YtecnnlppinhmgaaGreatDoorRows.lean that lists a variable, with what it lists TIED to the program's text (the seventh form; the later family's looks); each row that meets fmt, with fmt's text TOLD by the authors' own Lean function (tested against real Go, not proved from fmt's source: count such statements apart). THE CARD IS WHAT COUNTS. Prove the row's statement (the work); the ties are given (YtecnnlppinhmgaaGreatDoorTie.lean); close each card by the builder's one call (the guide's Derived/Test/ToyasCard.lean, 'card_holds'). Laid BY PROGRAM, IN A SANDBOX (cutbox-door.mjs). By AI agents, Wed Nov 11 2026. No macro, syntax, notation, axiom, sorry.
-/
import Derived.Test.YtecnnlppinhmgaaGreatDoorRows
import GoSem.ClaimSeven
namespace Go.Proofs.YtecnnlppinhmgaaGreatDoor
namespace Rows

/-- THE TIED CARD OF 'bollardlaw08.ShelfHarm'. -/
def shelfHarmCard : Claim7 := { stood := { row := shelfHarmRow, standIns := [], harness := (true, "ae1e3e6e5bbc1b522deb51697fcf4911c1c75a6269ae810f51c652ab68844aa6"), looks := true }, kinds := [], alts := [], laidByText := true, laidKinds := [.data, .data, .data, .sentinel, .sentinel, .sentinel, .sentinel, .sentinel, .sentinel, .sentinel], laidTests := true, laidLooks := .later }
def ShelfHarmCardSaid : Prop := Claim7.holds Tryz.pinned (.plain (OpenSpec.ofChange shelfHarmSpec)) shelfHarmCard

/-- THE TIED CARD OF 'bollardlaw08.ShelfOrders'. -/
def shelfOrdersCard : Claim7 := { stood := { row := shelfOrdersRow, standIns := [], harness := (true, "ae1e3e6e5bbc1b522deb51697fcf4911c1c75a6269ae810f51c652ab68844aa6"), looks := true }, kinds := [], alts := [], laidByText := true, laidKinds := [.data, .data, .data, .sentinel, .sentinel, .sentinel, .sentinel, .sentinel, .sentinel, .sentinel], laidTests := true, laidLooks := .later }
def ShelfOrdersCardSaid : Prop := Claim7.holds Tryz.pinned (.plain (OpenSpec.ofChange shelfOrdersSpec)) shelfOrdersCard

/-- THE TIED CARD OF 'bollardlaw08.ShelfCuts'. -/
def shelfCutsCard : Claim7 := { stood := { row := shelfCutsRow, standIns := [], harness := (true, "ae1e3e6e5bbc1b522deb51697fcf4911c1c75a6269ae810f51c652ab68844aa6"), looks := true }, kinds := [], alts := [], laidByText := true, laidKinds := [.data, .data, .data, .data, .sentinel, .sentinel, .sentinel, .sentinel, .sentinel, .sentinel, .sentinel, .sentinel, .sentinel, .pinned], laidTests := true, laidLooks := .later }
def ShelfCutsCardSaid : Prop := Claim7.holds Tryz.pinned (.plain (OpenSpec.ofChange shelfCutsSpec)) shelfCutsCard

/-- THE TIED CARD OF 'bollardlaw08.ShelfLists'. -/
def shelfListsCard : Claim7 := { stood := { row := shelfListsRow, standIns := [], harness := (true, "ae1e3e6e5bbc1b522deb51697fcf4911c1c75a6269ae810f51c652ab68844aa6"), looks := true }, kinds := [], alts := [], laidByText := true, laidKinds := [.data, .data, .data, .data, .sentinel, .sentinel, .sentinel, .sentinel, .sentinel, .sentinel, .sentinel, .sentinel, .sentinel, .pinned], laidTests := true, laidLooks := .later }
def ShelfListsCardSaid : Prop := Claim7.holds Tryz.pinned (.plain (OpenSpec.ofChange shelfListsSpec)) shelfListsCard

/-- THE SECOND FORM's CARD OF 'bollardlaw08.ShelfHarm'. -/
def shelfHarmUptoCard : Claim7 := { stood := { row := shelfHarmUptoRow, standIns := [], harness := (true, "ae1e3e6e5bbc1b522deb51697fcf4911c1c75a6269ae810f51c652ab68844aa6"), looks := true }, kinds := [], alts := [], laidByText := true, laidKinds := [.data, .data, .data, .sentinel, .sentinel, .sentinel, .sentinel, .sentinel, .sentinel, .sentinel], laidTests := true, laidLooks := .later }
def ShelfHarmUptoCardSaid : Prop := Claim7.holds Tryz.pinned (.plain (OpenSpec.upto shelfHarmSpec)) shelfHarmUptoCard

/-- THE SECOND FORM's CARD OF 'bollardlaw08.ShelfOrders'. -/
def shelfOrdersUptoCard : Claim7 := { stood := { row := shelfOrdersUptoRow, standIns := [], harness := (true, "ae1e3e6e5bbc1b522deb51697fcf4911c1c75a6269ae810f51c652ab68844aa6"), looks := true }, kinds := [], alts := [], laidByText := true, laidKinds := [.data, .data, .data, .sentinel, .sentinel, .sentinel, .sentinel, .sentinel, .sentinel, .sentinel], laidTests := true, laidLooks := .later }
def ShelfOrdersUptoCardSaid : Prop := Claim7.holds Tryz.pinned (.plain (OpenSpec.upto shelfOrdersSpec)) shelfOrdersUptoCard

/-- THE SECOND FORM's CARD OF 'bollardlaw08.ShelfCuts'. -/
def shelfCutsUptoCard : Claim7 := { stood := { row := shelfCutsUptoRow, standIns := [], harness := (true, "ae1e3e6e5bbc1b522deb51697fcf4911c1c75a6269ae810f51c652ab68844aa6"), looks := true }, kinds := [], alts := [], laidByText := true, laidKinds := [.data, .data, .data, .data, .sentinel, .sentinel, .sentinel, .sentinel, .sentinel, .sentinel, .sentinel, .sentinel, .sentinel, .pinned], laidTests := true, laidLooks := .later }
def ShelfCutsUptoCardSaid : Prop := Claim7.holds Tryz.pinned (.plain (OpenSpec.upto shelfCutsSpec)) shelfCutsUptoCard

/-- THE SECOND FORM's CARD OF 'bollardlaw08.ShelfLists'. -/
def shelfListsUptoCard : Claim7 := { stood := { row := shelfListsUptoRow, standIns := [], harness := (true, "ae1e3e6e5bbc1b522deb51697fcf4911c1c75a6269ae810f51c652ab68844aa6"), looks := true }, kinds := [], alts := [], laidByText := true, laidKinds := [.data, .data, .data, .data, .sentinel, .sentinel, .sentinel, .sentinel, .sentinel, .sentinel, .sentinel, .sentinel, .sentinel, .pinned], laidTests := true, laidLooks := .later }
def ShelfListsUptoCardSaid : Prop := Claim7.holds Tryz.pinned (.plain (OpenSpec.upto shelfListsSpec)) shelfListsUptoCard
end Rows
end Go.Proofs.YtecnnlppinhmgaaGreatDoor
