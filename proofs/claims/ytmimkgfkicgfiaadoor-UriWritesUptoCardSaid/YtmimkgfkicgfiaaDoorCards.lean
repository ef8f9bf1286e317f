/-
  DERIVED. GIVEN WITH THE SEED: THE CARDS: each row of YtmimkgfkicgfiaaDoorRows.lean that lists a variable, with what it lists TIED to the program's text (the seventh form; the later family's looks); each row that meets fmt, with fmt's text TOLD by the authors' own Lean function (tested against real Go, not proved from fmt's source: count such statements apart). THE CARD IS WHAT COUNTS. Prove the row's statement (the work); the ties are given (YtmimkgfkicgfiaaDoorTie.lean); close each card by the builder's one call (the guide's Derived/Test/ToyasCard.lean, 'card_holds'). Laid BY PROGRAM, IN A SANDBOX (cutbox-door.mjs). By AI agents, Wed Nov 11 2026. No macro, syntax, notation, axiom, sorry.
-/
import Derived.Test.YtmimkgfkicgfiaaDoorRows
import GoSem.ClaimSeven
namespace Go.Proofs.YtmimkgfkicgfiaaDoor
namespace Rows

/-- THE TIED CARD OF 'bollardlaw17.UriParses'. -/
def uriParsesCard : Claim7 := { stood := { row := uriParsesRow, standIns := [], harness := (true, "4b4051c261bc7ad2fabe055ddd8bc9ca4390e9de434604fc17d82aee30af75d0"), looks := true }, kinds := [], alts := [], laidByText := true, laidKinds := [.data, .sentinel, .pinned], laidTests := true, laidLooks := .later }
def UriParsesCardSaid : Prop := Claim7.holds Tryd.pinned (.plain (OpenSpec.ofChange uriParsesSpec)) uriParsesCard

/-- THE TIED CARD OF 'bollardlaw17.UriPlain'. -/
def uriPlainCard : Claim7 := { stood := { row := uriPlainRow, standIns := [], harness := (true, "4b4051c261bc7ad2fabe055ddd8bc9ca4390e9de434604fc17d82aee30af75d0"), looks := true }, kinds := [], alts := [], laidByText := true, laidKinds := [.data, .sentinel, .pinned], laidTests := true, laidLooks := .later }
def UriPlainCardSaid : Prop := Claim7.holds Tryd.pinned (.plain (OpenSpec.ofChange uriPlainSpec)) uriPlainCard

/-- THE TIED CARD OF 'bollardlaw19.XmlTells'. -/
def xmlTellsCard : Claim7 := { stood := { row := xmlTellsRow, standIns := [], harness := (true, "4b4051c261bc7ad2fabe055ddd8bc9ca4390e9de434604fc17d82aee30af75d0"), looks := true }, kinds := [], alts := [], laidByText := true, laidKinds := [.data, .data, .data], laidTests := true, laidLooks := .later }
def XmlTellsCardSaid : Prop := Claim7.holds Tryd.pinned (.plain (OpenSpec.ofChange xmlTellsSpec)) xmlTellsCard

/-- THE TIED CARD OF 'bollardlaw19.XmlDocuments'. -/
def xmlDocumentsCard : Claim7 := { stood := { row := xmlDocumentsRow, standIns := [], harness := (true, "4b4051c261bc7ad2fabe055ddd8bc9ca4390e9de434604fc17d82aee30af75d0"), looks := true }, kinds := [], alts := [], laidByText := true, laidKinds := [.data, .data, .data], laidTests := true, laidLooks := .later }
def XmlDocumentsCardSaid : Prop := Claim7.holds Tryd.pinned (.plain (OpenSpec.ofChange xmlDocumentsSpec)) xmlDocumentsCard

/-- THE TIED CARD OF 'bollardlaw07.DiskSafe'. -/
def diskSafeCard : Claim7 := { stood := { row := diskSafeRow, standIns := [], harness := (true, "4b4051c261bc7ad2fabe055ddd8bc9ca4390e9de434604fc17d82aee30af75d0"), looks := true }, kinds := [], alts := [], laidByText := true, laidKinds := [.sentinel, .sentinel, .sentinel], laidTests := true, laidLooks := .later }
def DiskSafeCardSaid : Prop := Claim7.holds Tryd.pinned (.plain (OpenSpec.ofChange diskSafeSpec)) diskSafeCard

/-- THE TIED CARD OF 'bollardlaw07.DiskRenames'. -/
def diskRenamesCard : Claim7 := { stood := { row := diskRenamesRow, standIns := [], harness := (true, "4b4051c261bc7ad2fabe055ddd8bc9ca4390e9de434604fc17d82aee30af75d0"), looks := true }, kinds := [], alts := [], laidByText := true, laidKinds := [.sentinel, .sentinel, .sentinel], laidTests := true, laidLooks := .later }
def DiskRenamesCardSaid : Prop := Claim7.holds Tryd.pinned (.plain (OpenSpec.ofChange diskRenamesSpec)) diskRenamesCard

/-- THE TIED CARD OF 'bollardlaw07.DiskApart'. -/
def diskApartCard : Claim7 := { stood := { row := diskApartRow, standIns := [], harness := (true, "4b4051c261bc7ad2fabe055ddd8bc9ca4390e9de434604fc17d82aee30af75d0"), looks := true }, kinds := [], alts := [], laidByText := true, laidKinds := [.sentinel, .sentinel, .sentinel], laidTests := true, laidLooks := .later }
def DiskApartCardSaid : Prop := Claim7.holds Tryd.pinned (.plain (OpenSpec.ofChange diskApartSpec)) diskApartCard

/-- THE TIED CARD OF 'bollardlaw07.DiskPlays'. -/
def diskPlaysCard : Claim7 := { stood := { row := diskPlaysRow, standIns := [], harness := (true, "4b4051c261bc7ad2fabe055ddd8bc9ca4390e9de434604fc17d82aee30af75d0"), looks := true }, kinds := [], alts := [], laidByText := true, laidKinds := [.sentinel, .sentinel, .sentinel, .sentinel, .sentinel, .sentinel, .sentinel, .sentinel, .sentinel, .sentinel, .sentinel, .sentinel, .sentinel, .sentinel, .sentinel, .sentinel, .sentinel, .sentinel], laidTests := true, laidLooks := .later }
def DiskPlaysCardSaid : Prop := Claim7.holds Tryd.pinned (.plain (OpenSpec.ofChange diskPlaysSpec)) diskPlaysCard

/-- THE TIED CARD OF 'bollardlaw17.UriBack'. -/
def uriBackCard : Claim7 := { stood := { row := uriBackRow, standIns := [], harness := (true, "4b4051c261bc7ad2fabe055ddd8bc9ca4390e9de434604fc17d82aee30af75d0"), looks := true }, kinds := [], alts := [], laidByText := true, laidKinds := [.data, .sentinel, .pinned], laidTests := true, laidLooks := .later }
def UriBackCardSaid : Prop := Claim7.holds Tryd.pinned (.plain (OpenSpec.ofChange uriBackSpec)) uriBackCard

/-- THE TIED CARD OF 'bollardlaw17.UriWrites'. -/
def uriWritesCard : Claim7 := { stood := { row := uriWritesRow, standIns := [], harness := (true, "4b4051c261bc7ad2fabe055ddd8bc9ca4390e9de434604fc17d82aee30af75d0"), looks := true }, kinds := [], alts := [], laidByText := true, laidKinds := [.data, .sentinel, .pinned], laidTests := true, laidLooks := .later }
def UriWritesCardSaid : Prop := Claim7.holds Tryd.pinned (.plain (OpenSpec.ofChange uriWritesSpec)) uriWritesCard

/-- THE TIED CARD OF 'bollardlaw17.UriTexts'. -/
def uriTextsCard : Claim7 := { stood := { row := uriTextsRow, standIns := [], harness := (true, "4b4051c261bc7ad2fabe055ddd8bc9ca4390e9de434604fc17d82aee30af75d0"), looks := true }, kinds := [], alts := [], laidByText := true, laidKinds := [.data, .sentinel, .pinned], laidTests := true, laidLooks := .later }
def UriTextsCardSaid : Prop := Claim7.holds Tryd.pinned (.plain (OpenSpec.ofChange uriTextsSpec)) uriTextsCard

/-- THE TIED CARD OF 'bollardlaw19.XmlIds'. -/
def xmlIdsCard : Claim7 := { stood := { row := xmlIdsRow, standIns := [], harness := (true, "4b4051c261bc7ad2fabe055ddd8bc9ca4390e9de434604fc17d82aee30af75d0"), looks := true }, kinds := [], alts := [], laidByText := true, laidKinds := [.data, .data, .data, .data, .sentinel, .sentinel, .pinned], laidTests := true, laidLooks := .later }
def XmlIdsCardSaid : Prop := Claim7.holds Tryd.pinned (.plain (OpenSpec.ofChange xmlIdsSpec)) xmlIdsCard

/-- THE SECOND FORM's CARD OF 'bollardlaw17.UriParses'. -/
def uriParsesUptoCard : Claim7 := { stood := { row := uriParsesUptoRow, standIns := [], harness := (true, "4b4051c261bc7ad2fabe055ddd8bc9ca4390e9de434604fc17d82aee30af75d0"), looks := true }, kinds := [], alts := [], laidByText := true, laidKinds := [.data, .sentinel, .pinned], laidTests := true, laidLooks := .later }
def UriParsesUptoCardSaid : Prop := Claim7.holds Tryd.pinned (.plain (OpenSpec.upto uriParsesSpec)) uriParsesUptoCard

/-- THE SECOND FORM's CARD OF 'bollardlaw17.UriPlain'. -/
def uriPlainUptoCard : Claim7 := { stood := { row := uriPlainUptoRow, standIns := [], harness := (true, "4b4051c261bc7ad2fabe055ddd8bc9ca4390e9de434604fc17d82aee30af75d0"), looks := true }, kinds := [], alts := [], laidByText := true, laidKinds := [.data, .sentinel, .pinned], laidTests := true, laidLooks := .later }
def UriPlainUptoCardSaid : Prop := Claim7.holds Tryd.pinned (.plain (OpenSpec.upto uriPlainSpec)) uriPlainUptoCard

/-- THE SECOND FORM's CARD OF 'bollardlaw19.XmlTells'. -/
def xmlTellsUptoCard : Claim7 := { stood := { row := xmlTellsUptoRow, standIns := [], harness := (true, "4b4051c261bc7ad2fabe055ddd8bc9ca4390e9de434604fc17d82aee30af75d0"), looks := true }, kinds := [], alts := [], laidByText := true, laidKinds := [.data, .data, .data], laidTests := true, laidLooks := .later }
def XmlTellsUptoCardSaid : Prop := Claim7.holds Tryd.pinned (.plain (OpenSpec.upto xmlTellsSpec)) xmlTellsUptoCard

/-- THE SECOND FORM's CARD OF 'bollardlaw19.XmlDocuments'. -/
def xmlDocumentsUptoCard : Claim7 := { stood := { row := xmlDocumentsUptoRow, standIns := [], harness := (true, "4b4051c261bc7ad2fabe055ddd8bc9ca4390e9de434604fc17d82aee30af75d0"), looks := true }, kinds := [], alts := [], laidByText := true, laidKinds := [.data, .data, .data], laidTests := true, laidLooks := .later }
def XmlDocumentsUptoCardSaid : Prop := Claim7.holds Tryd.pinned (.plain (OpenSpec.upto xmlDocumentsSpec)) xmlDocumentsUptoCard

/-- THE SECOND FORM's CARD OF 'bollardlaw07.DiskSafe'. -/
def diskSafeUptoCard : Claim7 := { stood := { row := diskSafeUptoRow, standIns := [], harness := (true, "4b4051c261bc7ad2fabe055ddd8bc9ca4390e9de434604fc17d82aee30af75d0"), looks := true }, kinds := [], alts := [], laidByText := true, laidKinds := [.sentinel, .sentinel, .sentinel], laidTests := true, laidLooks := .later }
def DiskSafeUptoCardSaid : Prop := Claim7.holds Tryd.pinned (.plain (OpenSpec.upto diskSafeSpec)) diskSafeUptoCard

/-- THE SECOND FORM's CARD OF 'bollardlaw07.DiskRenames'. -/
def diskRenamesUptoCard : Claim7 := { stood := { row := diskRenamesUptoRow, standIns := [], harness := (true, "4b4051c261bc7ad2fabe055ddd8bc9ca4390e9de434604fc17d82aee30af75d0"), looks := true }, kinds := [], alts := [], laidByText := true, laidKinds := [.sentinel, .sentinel, .sentinel], laidTests := true, laidLooks := .later }
def DiskRenamesUptoCardSaid : Prop := Claim7.holds Tryd.pinned (.plain (OpenSpec.upto diskRenamesSpec)) diskRenamesUptoCard

/-- THE SECOND FORM's CARD OF 'bollardlaw07.DiskApart'. -/
def diskApartUptoCard : Claim7 := { stood := { row := diskApartUptoRow, standIns := [], harness := (true, "4b4051c261bc7ad2fabe055ddd8bc9ca4390e9de434604fc17d82aee30af75d0"), looks := true }, kinds := [], alts := [], laidByText := true, laidKinds := [.sentinel, .sentinel, .sentinel], laidTests := true, laidLooks := .later }
def DiskApartUptoCardSaid : Prop := Claim7.holds Tryd.pinned (.plain (OpenSpec.upto diskApartSpec)) diskApartUptoCard

/-- THE SECOND FORM's CARD OF 'bollardlaw07.DiskPlays'. -/
def diskPlaysUptoCard : Claim7 := { stood := { row := diskPlaysUptoRow, standIns := [], harness := (true, "4b4051c261bc7ad2fabe055ddd8bc9ca4390e9de434604fc17d82aee30af75d0"), looks := true }, kinds := [], alts := [], laidByText := true, laidKinds := [.sentinel, .sentinel, .sentinel, .sentinel, .sentinel, .sentinel, .sentinel, .sentinel, .sentinel, .sentinel, .sentinel, .sentinel, .sentinel, .sentinel, .sentinel, .sentinel, .sentinel, .sentinel], laidTests := true, laidLooks := .later }
def DiskPlaysUptoCardSaid : Prop := Claim7.holds Tryd.pinned (.plain (OpenSpec.upto diskPlaysSpec)) diskPlaysUptoCard

/-- THE SECOND FORM's CARD OF 'bollardlaw17.UriBack'. -/
def uriBackUptoCard : Claim7 := { stood := { row := uriBackUptoRow, standIns := [], harness := (true, "4b4051c261bc7ad2fabe055ddd8bc9ca4390e9de434604fc17d82aee30af75d0"), looks := true }, kinds := [], alts := [], laidByText := true, laidKinds := [.data, .sentinel, .pinned], laidTests := true, laidLooks := .later }
def UriBackUptoCardSaid : Prop := Claim7.holds Tryd.pinned (.plain (OpenSpec.upto uriBackSpec)) uriBackUptoCard

/-- THE SECOND FORM's CARD OF 'bollardlaw17.UriWrites'. -/
def uriWritesUptoCard : Claim7 := { stood := { row := uriWritesUptoRow, standIns := [], harness := (true, "4b4051c261bc7ad2fabe055ddd8bc9ca4390e9de434604fc17d82aee30af75d0"), looks := true }, kinds := [], alts := [], laidByText := true, laidKinds := [.data, .sentinel, .pinned], laidTests := true, laidLooks := .later }
def UriWritesUptoCardSaid : Prop := Claim7.holds Tryd.pinned (.plain (OpenSpec.upto uriWritesSpec)) uriWritesUptoCard

/-- THE SECOND FORM's CARD OF 'bollardlaw17.UriTexts'. -/
def uriTextsUptoCard : Claim7 := { stood := { row := uriTextsUptoRow, standIns := [], harness := (true, "4b4051c261bc7ad2fabe055ddd8bc9ca4390e9de434604fc17d82aee30af75d0"), looks := true }, kinds := [], alts := [], laidByText := true, laidKinds := [.data, .sentinel, .pinned], laidTests := true, laidLooks := .later }
def UriTextsUptoCardSaid : Prop := Claim7.holds Tryd.pinned (.plain (OpenSpec.upto uriTextsSpec)) uriTextsUptoCard

/-- THE SECOND FORM's CARD OF 'bollardlaw19.XmlIds'. -/
def xmlIdsUptoCard : Claim7 := { stood := { row := xmlIdsUptoRow, standIns := [], harness := (true, "4b4051c261bc7ad2fabe055ddd8bc9ca4390e9de434604fc17d82aee30af75d0"), looks := true }, kinds := [], alts := [], laidByText := true, laidKinds := [.data, .data, .data, .data, .sentinel, .sentinel, .pinned], laidTests := true, laidLooks := .later }
def XmlIdsUptoCardSaid : Prop := Claim7.holds Tryd.pinned (.plain (OpenSpec.upto xmlIdsSpec)) xmlIdsUptoCard
end Rows
end Go.Proofs.YtmimkgfkicgfiaaDoor
