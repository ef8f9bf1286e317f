/-
  DERIVED. GIVEN WITH THE SEED: THE CARDS: each row of YtidflagmdabfaaaGreatDoorRows.lean that lists a variable, with what it lists TIED to the program's text (the seventh form; the later family's looks); each row that meets fmt, with fmt's text TOLD by the authors' own Lean function (tested against real Go, not proved from fmt's source: count such statements apart). THE CARD IS WHAT COUNTS. Prove the row's statement (the work); the ties are given (YtidflagmdabfaaaGreatDoorTie.lean); close each card by the builder's one call (the guide's Derived/Test/ToyasCard.lean, 'card_holds'). Laid BY PROGRAM, IN A SANDBOX (cutbox-door.mjs). By AI agents, Wed Nov 11 2026. No macro, syntax, notation, axiom, sorry.
-/
import Derived.Test.YtidflagmdabfaaaGreatDoorRows
import GoSem.ClaimSeven
namespace Go.Proofs.YtidflagmdabfaaaGreatDoor
namespace Rows

/-- THE TIED CARD OF 'bollardlaw21.RouteParses'. -/
def routeParsesCard : Claim7 := { stood := { row := routeParsesRow, standIns := [], harness := (true, "d583e37882a29a39b8353743e6ff7d7063c70b0a8409a139603ff870fecd9e12"), looks := true }, kinds := [], alts := [], laidByText := true, laidKinds := [.data, .data, .data, .data, .sentinel, .sentinel, .sentinel, .sentinel, .sentinel, .sentinel, .sentinel, .sentinel, .sentinel, .sentinel, .sentinel, .sentinel, .sentinel, .sentinel, .sentinel, .sentinel, .sentinel, .sentinel, .sentinel, .sentinel, .pinned], laidTests := true, laidLooks := .later }
def RouteParsesCardSaid : Prop := Claim7.holds Tryz.pinned (.plain (OpenSpec.ofChange routeParsesSpec)) routeParsesCard

/-- THE TIED CARD OF 'bollardlaw21.RouteGives'. -/
def routeGivesCard : Claim7 := { stood := { row := routeGivesRow, standIns := [], harness := (true, "d583e37882a29a39b8353743e6ff7d7063c70b0a8409a139603ff870fecd9e12"), looks := true }, kinds := [], alts := [], laidByText := true, laidKinds := [.data, .data, .data, .data, .sentinel, .sentinel, .sentinel, .sentinel, .sentinel, .sentinel, .sentinel, .sentinel, .sentinel, .sentinel, .sentinel, .sentinel, .sentinel, .pinned], laidTests := true, laidLooks := .later }
def RouteGivesCardSaid : Prop := Claim7.holds Tryz.pinned (.plain (OpenSpec.ofChange routeGivesSpec)) routeGivesCard

/-- THE TIED CARD OF 'bollardlaw21.RouteRanges'. -/
def routeRangesCard : Claim7 := { stood := { row := routeRangesRow, standIns := [], harness := (true, "d583e37882a29a39b8353743e6ff7d7063c70b0a8409a139603ff870fecd9e12"), looks := true }, kinds := [], alts := [], laidByText := true, laidKinds := [.data, .data, .data, .data, .sentinel, .sentinel, .sentinel, .sentinel, .sentinel, .sentinel, .sentinel, .sentinel, .sentinel, .sentinel, .sentinel, .sentinel, .sentinel, .pinned], laidTests := true, laidLooks := .later }
def RouteRangesCardSaid : Prop := Claim7.holds Tryz.pinned (.plain (OpenSpec.ofChange routeRangesSpec)) routeRangesCard

/-- THE TIED CARD OF 'bollardlaw21.RouteRefuses'. -/
def routeRefusesCard : Claim7 := { stood := { row := routeRefusesRow, standIns := [], harness := (true, "d583e37882a29a39b8353743e6ff7d7063c70b0a8409a139603ff870fecd9e12"), looks := true }, kinds := [], alts := [], laidByText := true, laidKinds := [.data, .data, .data, .data, .sentinel, .sentinel, .sentinel, .sentinel, .sentinel, .sentinel, .sentinel, .sentinel, .sentinel, .sentinel, .sentinel, .sentinel, .sentinel, .sentinel, .sentinel, .sentinel, .sentinel, .sentinel, .sentinel, .sentinel, .pinned], laidTests := true, laidLooks := .later }
def RouteRefusesCardSaid : Prop := Claim7.holds Tryz.pinned (.plain (OpenSpec.ofChange routeRefusesSpec)) routeRefusesCard

/-- THE TIED CARD OF 'bollardlaw21.RouteBodies'. -/
def routeBodiesCard : Claim7 := { stood := { row := routeBodiesRow, standIns := [], harness := (true, "d583e37882a29a39b8353743e6ff7d7063c70b0a8409a139603ff870fecd9e12"), looks := true }, kinds := [], alts := [], laidByText := true, laidKinds := [.data, .data, .data, .data, .sentinel, .sentinel, .sentinel, .sentinel, .sentinel, .sentinel, .sentinel, .sentinel, .sentinel, .sentinel, .sentinel, .sentinel, .sentinel, .pinned], laidTests := true, laidLooks := .later }
def RouteBodiesCardSaid : Prop := Claim7.holds Tryz.pinned (.plain (OpenSpec.ofChange routeBodiesSpec)) routeBodiesCard

/-- THE TIED CARD OF 'bollardlaw18.SigSigns'. -/
def sigSignsCard : Claim7 := { stood := { row := sigSignsRow, standIns := [], harness := (true, "d583e37882a29a39b8353743e6ff7d7063c70b0a8409a139603ff870fecd9e12"), looks := true }, kinds := [], alts := [], laidByText := true, laidKinds := [.data, .data, .data, .data, .sentinel, .sentinel, .sentinel, .sentinel, .sentinel, .sentinel, .sentinel, .sentinel, .sentinel, .sentinel, .sentinel, .sentinel, .sentinel, .sentinel, .sentinel, .sentinel, .sentinel, .sentinel, .sentinel, .sentinel, .pinned], laidTests := true, laidLooks := .later }
def SigSignsCardSaid : Prop := Claim7.holds Tryz.pinned (.plain (OpenSpec.ofChange sigSignsSpec)) sigSignsCard

/-- THE TIED CARD OF 'bollardlaw18.SigChecks'. -/
def sigChecksCard : Claim7 := { stood := { row := sigChecksRow, standIns := [], harness := (true, "d583e37882a29a39b8353743e6ff7d7063c70b0a8409a139603ff870fecd9e12"), looks := true }, kinds := [], alts := [], laidByText := true, laidKinds := [.data, .data, .data, .data, .sentinel, .sentinel, .sentinel, .sentinel, .sentinel, .sentinel, .sentinel, .sentinel, .sentinel, .sentinel, .sentinel, .sentinel, .sentinel, .sentinel, .sentinel, .sentinel, .sentinel, .sentinel, .sentinel, .sentinel, .pinned], laidTests := true, laidLooks := .later }
def SigChecksCardSaid : Prop := Claim7.holds Tryz.pinned (.plain (OpenSpec.ofChange sigChecksSpec)) sigChecksCard

/-- THE TIED CARD OF 'bollardlaw18.SigSkews'. -/
def sigSkewsCard : Claim7 := { stood := { row := sigSkewsRow, standIns := [], harness := (true, "d583e37882a29a39b8353743e6ff7d7063c70b0a8409a139603ff870fecd9e12"), looks := true }, kinds := [], alts := [], laidByText := true, laidKinds := [.data, .data, .data, .data, .sentinel, .sentinel, .sentinel, .sentinel, .sentinel, .sentinel, .pinned], laidTests := true, laidLooks := .later }
def SigSkewsCardSaid : Prop := Claim7.holds Tryz.pinned (.plain (OpenSpec.ofChange sigSkewsSpec)) sigSkewsCard

/-- THE TIED CARD OF 'bollardlaw18.SigForged'. -/
def sigForgedCard : Claim7 := { stood := { row := sigForgedRow, standIns := [], harness := (true, "d583e37882a29a39b8353743e6ff7d7063c70b0a8409a139603ff870fecd9e12"), looks := true }, kinds := [], alts := [], laidByText := true, laidKinds := [.data, .data, .data, .data, .sentinel, .sentinel, .sentinel, .sentinel, .sentinel, .sentinel, .pinned], laidTests := true, laidLooks := .later }
def SigForgedCardSaid : Prop := Claim7.holds Tryz.pinned (.plain (OpenSpec.ofChange sigForgedSpec)) sigForgedCard

/-- THE TIED CARD OF 'bollardlaw18.SigTwice'. -/
def sigTwiceCard : Claim7 := { stood := { row := sigTwiceRow, standIns := [], harness := (true, "d583e37882a29a39b8353743e6ff7d7063c70b0a8409a139603ff870fecd9e12"), looks := true }, kinds := [], alts := [], laidByText := true, laidKinds := [.data, .data, .data, .data, .sentinel, .sentinel, .sentinel, .sentinel, .sentinel, .sentinel, .pinned], laidTests := true, laidLooks := .later }
def SigTwiceCardSaid : Prop := Claim7.holds Tryz.pinned (.plain (OpenSpec.ofChange sigTwiceSpec)) sigTwiceCard

/-- THE TIED CARD OF 'bollardlaw18.SigBodies'. -/
def sigBodiesCard : Claim7 := { stood := { row := sigBodiesRow, standIns := [], harness := (true, "d583e37882a29a39b8353743e6ff7d7063c70b0a8409a139603ff870fecd9e12"), looks := true }, kinds := [], alts := [], laidByText := true, laidKinds := [.data, .data, .data, .data, .sentinel, .sentinel, .sentinel, .sentinel, .sentinel, .sentinel, .pinned], laidTests := true, laidLooks := .later }
def SigBodiesCardSaid : Prop := Claim7.holds Tryz.pinned (.plain (OpenSpec.ofChange sigBodiesSpec)) sigBodiesCard

/-- THE SECOND FORM's CARD OF 'bollardlaw21.RouteParses'. -/
def routeParsesUptoCard : Claim7 := { stood := { row := routeParsesUptoRow, standIns := [], harness := (true, "d583e37882a29a39b8353743e6ff7d7063c70b0a8409a139603ff870fecd9e12"), looks := true }, kinds := [], alts := [], laidByText := true, laidKinds := [.data, .data, .data, .data, .sentinel, .sentinel, .sentinel, .sentinel, .sentinel, .sentinel, .sentinel, .sentinel, .sentinel, .sentinel, .sentinel, .sentinel, .sentinel, .sentinel, .sentinel, .sentinel, .sentinel, .sentinel, .sentinel, .sentinel, .pinned], laidTests := true, laidLooks := .later }
def RouteParsesUptoCardSaid : Prop := Claim7.holds Tryz.pinned (.plain (OpenSpec.upto routeParsesSpec)) routeParsesUptoCard

/-- THE SECOND FORM's CARD OF 'bollardlaw21.RouteGives'. -/
def routeGivesUptoCard : Claim7 := { stood := { row := routeGivesUptoRow, standIns := [], harness := (true, "d583e37882a29a39b8353743e6ff7d7063c70b0a8409a139603ff870fecd9e12"), looks := true }, kinds := [], alts := [], laidByText := true, laidKinds := [.data, .data, .data, .data, .sentinel, .sentinel, .sentinel, .sentinel, .sentinel, .sentinel, .sentinel, .sentinel, .sentinel, .sentinel, .sentinel, .sentinel, .sentinel, .pinned], laidTests := true, laidLooks := .later }
def RouteGivesUptoCardSaid : Prop := Claim7.holds Tryz.pinned (.plain (OpenSpec.upto routeGivesSpec)) routeGivesUptoCard

/-- THE SECOND FORM's CARD OF 'bollardlaw21.RouteRanges'. -/
def routeRangesUptoCard : Claim7 := { stood := { row := routeRangesUptoRow, standIns := [], harness := (true, "d583e37882a29a39b8353743e6ff7d7063c70b0a8409a139603ff870fecd9e12"), looks := true }, kinds := [], alts := [], laidByText := true, laidKinds := [.data, .data, .data, .data, .sentinel, .sentinel, .sentinel, .sentinel, .sentinel, .sentinel, .sentinel, .sentinel, .sentinel, .sentinel, .sentinel, .sentinel, .sentinel, .pinned], laidTests := true, laidLooks := .later }
def RouteRangesUptoCardSaid : Prop := Claim7.holds Tryz.pinned (.plain (OpenSpec.upto routeRangesSpec)) routeRangesUptoCard

/-- THE SECOND FORM's CARD OF 'bollardlaw21.RouteRefuses'. -/
def routeRefusesUptoCard : Claim7 := { stood := { row := routeRefusesUptoRow, standIns := [], harness := (true, "d583e37882a29a39b8353743e6ff7d7063c70b0a8409a139603ff870fecd9e12"), looks := true }, kinds := [], alts := [], laidByText := true, laidKinds := [.data, .data, .data, .data, .sentinel, .sentinel, .sentinel, .sentinel, .sentinel, .sentinel, .sentinel, .sentinel, .sentinel, .sentinel, .sentinel, .sentinel, .sentinel, .sentinel, .sentinel, .sentinel, .sentinel, .sentinel, .sentinel, .sentinel, .pinned], laidTests := true, laidLooks := .later }
def RouteRefusesUptoCardSaid : Prop := Claim7.holds Tryz.pinned (.plain (OpenSpec.upto routeRefusesSpec)) routeRefusesUptoCard

/-- THE SECOND FORM's CARD OF 'bollardlaw21.RouteBodies'. -/
def routeBodiesUptoCard : Claim7 := { stood := { row := routeBodiesUptoRow, standIns := [], harness := (true, "d583e37882a29a39b8353743e6ff7d7063c70b0a8409a139603ff870fecd9e12"), looks := true }, kinds := [], alts := [], laidByText := true, laidKinds := [.data, .data, .data, .data, .sentinel, .sentinel, .sentinel, .sentinel, .sentinel, .sentinel, .sentinel, .sentinel, .sentinel, .sentinel, .sentinel, .sentinel, .sentinel, .pinned], laidTests := true, laidLooks := .later }
def RouteBodiesUptoCardSaid : Prop := Claim7.holds Tryz.pinned (.plain (OpenSpec.upto routeBodiesSpec)) routeBodiesUptoCard

/-- THE SECOND FORM's CARD OF 'bollardlaw18.SigSigns'. -/
def sigSignsUptoCard : Claim7 := { stood := { row := sigSignsUptoRow, standIns := [], harness := (true, "d583e37882a29a39b8353743e6ff7d7063c70b0a8409a139603ff870fecd9e12"), looks := true }, kinds := [], alts := [], laidByText := true, laidKinds := [.data, .data, .data, .data, .sentinel, .sentinel, .sentinel, .sentinel, .sentinel, .sentinel, .sentinel, .sentinel, .sentinel, .sentinel, .sentinel, .sentinel, .sentinel, .sentinel, .sentinel, .sentinel, .sentinel, .sentinel, .sentinel, .sentinel, .pinned], laidTests := true, laidLooks := .later }
def SigSignsUptoCardSaid : Prop := Claim7.holds Tryz.pinned (.plain (OpenSpec.upto sigSignsSpec)) sigSignsUptoCard

/-- THE SECOND FORM's CARD OF 'bollardlaw18.SigChecks'. -/
def sigChecksUptoCard : Claim7 := { stood := { row := sigChecksUptoRow, standIns := [], harness := (true, "d583e37882a29a39b8353743e6ff7d7063c70b0a8409a139603ff870fecd9e12"), looks := true }, kinds := [], alts := [], laidByText := true, laidKinds := [.data, .data, .data, .data, .sentinel, .sentinel, .sentinel, .sentinel, .sentinel, .sentinel, .sentinel, .sentinel, .sentinel, .sentinel, .sentinel, .sentinel, .sentinel, .sentinel, .sentinel, .sentinel, .sentinel, .sentinel, .sentinel, .sentinel, .pinned], laidTests := true, laidLooks := .later }
def SigChecksUptoCardSaid : Prop := Claim7.holds Tryz.pinned (.plain (OpenSpec.upto sigChecksSpec)) sigChecksUptoCard

/-- THE SECOND FORM's CARD OF 'bollardlaw18.SigSkews'. -/
def sigSkewsUptoCard : Claim7 := { stood := { row := sigSkewsUptoRow, standIns := [], harness := (true, "d583e37882a29a39b8353743e6ff7d7063c70b0a8409a139603ff870fecd9e12"), looks := true }, kinds := [], alts := [], laidByText := true, laidKinds := [.data, .data, .data, .data, .sentinel, .sentinel, .sentinel, .sentinel, .sentinel, .sentinel, .pinned], laidTests := true, laidLooks := .later }
def SigSkewsUptoCardSaid : Prop := Claim7.holds Tryz.pinned (.plain (OpenSpec.upto sigSkewsSpec)) sigSkewsUptoCard

/-- THE SECOND FORM's CARD OF 'bollardlaw18.SigForged'. -/
def sigForgedUptoCard : Claim7 := { stood := { row := sigForgedUptoRow, standIns := [], harness := (true, "d583e37882a29a39b8353743e6ff7d7063c70b0a8409a139603ff870fecd9e12"), looks := true }, kinds := [], alts := [], laidByText := true, laidKinds := [.data, .data, .data, .data, .sentinel, .sentinel, .sentinel, .sentinel, .sentinel, .sentinel, .pinned], laidTests := true, laidLooks := .later }
def SigForgedUptoCardSaid : Prop := Claim7.holds Tryz.pinned (.plain (OpenSpec.upto sigForgedSpec)) sigForgedUptoCard

/-- THE SECOND FORM's CARD OF 'bollardlaw18.SigTwice'. -/
def sigTwiceUptoCard : Claim7 := { stood := { row := sigTwiceUptoRow, standIns := [], harness := (true, "d583e37882a29a39b8353743e6ff7d7063c70b0a8409a139603ff870fecd9e12"), looks := true }, kinds := [], alts := [], laidByText := true, laidKinds := [.data, .data, .data, .data, .sentinel, .sentinel, .sentinel, .sentinel, .sentinel, .sentinel, .pinned], laidTests := true, laidLooks := .later }
def SigTwiceUptoCardSaid : Prop := Claim7.holds Tryz.pinned (.plain (OpenSpec.upto sigTwiceSpec)) sigTwiceUptoCard

/-- THE SECOND FORM's CARD OF 'bollardlaw18.SigBodies'. -/
def sigBodiesUptoCard : Claim7 := { stood := { row := sigBodiesUptoRow, standIns := [], harness := (true, "d583e37882a29a39b8353743e6ff7d7063c70b0a8409a139603ff870fecd9e12"), looks := true }, kinds := [], alts := [], laidByText := true, laidKinds := [.data, .data, .data, .data, .sentinel, .sentinel, .sentinel, .sentinel, .sentinel, .sentinel, .pinned], laidTests := true, laidLooks := .later }
def SigBodiesUptoCardSaid : Prop := Claim7.holds Tryz.pinned (.plain (OpenSpec.upto sigBodiesSpec)) sigBodiesUptoCard
end Rows
end Go.Proofs.YtidflagmdabfaaaGreatDoor
