/-
  NARROWER THAN 'FOR EVERY INPUT', by the rows' own cells (each row's printed sentence says how): UriParses: laid · UriPlain: laid · XmlTells: laid · XmlDocuments: laid · DiskSafe: laid · DiskRenames: laid · DiskApart: laid · DiskPlays: laid · UriBack: laid · UriWrites: laid · UriTexts: laid · XmlIds: laid.
  DERIVED. THE GIVEN ROWS OF THIS SEAT. 12 by the template 'for every input the law returns true; each argument reads behind the call as it read before'; 0 by the template 'total and deterministic' (their statements: YtmimkgfkicgfiaaDoorTotals.lean).
  GIVEN WITH THE SEED: the statements are not yours to turn. If you find one false, say at which input.
  Laid BY PROGRAM, IN A SANDBOX (cutbox-rows.mjs): the forced cells as the released guide's own fill.sh prints them over the translation b96f82f685eb1c84… (all of the seat's roots in one cut). By AI agents, Wed Nov 11 2026. No macro, syntax, notation, axiom, sorry.
-/
import Derived.Test.YtmimkgfkicgfiaaDoorChecked
import GoSem.PinnedTables
import GoSem.Claim
import GoSem.ClaimJoined
import GoSem.ClaimMapViews
import Derived.JoinedTies
import Derived.KernelRfl
namespace Go.Proofs.YtmimkgfkicgfiaaDoor
/- THE CELL 'sum', in the pinned program and in every row, IS THE sha256 OF THE DUMP (.gsa) THAT YtmimkgfkicgfiaaDoorProg.lean LOADS. Nothing in Lean hashes anything: it is a label: what it is worth is what the hold of that sum in a sandbox is worth. -/
noncomputable def Tryd.pinned : Pinned := { name := "ytmimkgfkicgfiaadoor", sum := "b96f82f685eb1c840cc2c07fe38bde64e26052ee08a18469fb0c79e5d0c2a2e9", checked := Tryd.checked }
namespace Rows
def none {H : Type} : Left H := { results := [], args := [] }

/- WHAT THE LISTED PACKAGE-LEVEL VARIABLES READ AS WHEN THE CALL BEGINS. Each datum BY PROGRAM (the guide's laid-datum.mjs) off the statement by which the dump's own 'gosem.cut.vars' lays the variable. In a bare row this is a premise. The card (YtmimkgfkicgfiaaDoorCards.lean) ties it to the program's text. -/
def laid_unicode_utf8_acceptRanges {H : Type} : DataW H := .agg [.agg [.lit (.int .u8 128), .lit (.int .u8 191)], .agg [.lit (.int .u8 160), .lit (.int .u8 191)], .agg [.lit (.int .u8 128), .lit (.int .u8 159)], .agg [.lit (.int .u8 144), .lit (.int .u8 191)], .agg [.lit (.int .u8 128), .lit (.int .u8 143)], .agg [.lit (.int .u8 0), .lit (.int .u8 0)], .agg [.lit (.int .u8 0), .lit (.int .u8 0)], .agg [.lit (.int .u8 0), .lit (.int .u8 0)], .agg [.lit (.int .u8 0), .lit (.int .u8 0)], .agg [.lit (.int .u8 0), .lit (.int .u8 0)], .agg [.lit (.int .u8 0), .lit (.int .u8 0)], .agg [.lit (.int .u8 0), .lit (.int .u8 0)], .agg [.lit (.int .u8 0), .lit (.int .u8 0)], .agg [.lit (.int .u8 0), .lit (.int .u8 0)], .agg [.lit (.int .u8 0), .lit (.int .u8 0)], .agg [.lit (.int .u8 0), .lit (.int .u8 0)]]
def laid_bollard_api_ErrUri {H : Type} : DataW H := .iface "*errors.errorString" (.ptr (.agg [.lit (.string [98, 111, 108, 108, 97, 114, 100, 58, 32, 117, 114, 105])]))
/-- One of Go's own tables, pinned by name: the form's constant. -/
def laid_unicode_utf8_first : DataW Unit := Go.Pinned.utf8First
def laid_math_bits_deBruijn32tab {H : Type} : DataW H := .agg [.lit (.int .u8 0), .lit (.int .u8 1), .lit (.int .u8 28), .lit (.int .u8 2), .lit (.int .u8 29), .lit (.int .u8 14), .lit (.int .u8 24), .lit (.int .u8 3), .lit (.int .u8 30), .lit (.int .u8 22), .lit (.int .u8 20), .lit (.int .u8 15), .lit (.int .u8 25), .lit (.int .u8 17), .lit (.int .u8 4), .lit (.int .u8 8), .lit (.int .u8 31), .lit (.int .u8 27), .lit (.int .u8 13), .lit (.int .u8 23), .lit (.int .u8 21), .lit (.int .u8 19), .lit (.int .u8 16), .lit (.int .u8 7), .lit (.int .u8 26), .lit (.int .u8 12), .lit (.int .u8 18), .lit (.int .u8 6), .lit (.int .u8 11), .lit (.int .u8 5), .lit (.int .u8 10), .lit (.int .u8 9)]
def laid_math_bits_deBruijn64tab {H : Type} : DataW H := .agg [.lit (.int .u8 0), .lit (.int .u8 1), .lit (.int .u8 56), .lit (.int .u8 2), .lit (.int .u8 57), .lit (.int .u8 49), .lit (.int .u8 28), .lit (.int .u8 3), .lit (.int .u8 61), .lit (.int .u8 58), .lit (.int .u8 42), .lit (.int .u8 50), .lit (.int .u8 38), .lit (.int .u8 29), .lit (.int .u8 17), .lit (.int .u8 4), .lit (.int .u8 62), .lit (.int .u8 47), .lit (.int .u8 59), .lit (.int .u8 36), .lit (.int .u8 45), .lit (.int .u8 43), .lit (.int .u8 51), .lit (.int .u8 22), .lit (.int .u8 53), .lit (.int .u8 39), .lit (.int .u8 33), .lit (.int .u8 30), .lit (.int .u8 24), .lit (.int .u8 18), .lit (.int .u8 12), .lit (.int .u8 5), .lit (.int .u8 63), .lit (.int .u8 55), .lit (.int .u8 48), .lit (.int .u8 27), .lit (.int .u8 60), .lit (.int .u8 41), .lit (.int .u8 37), .lit (.int .u8 16), .lit (.int .u8 46), .lit (.int .u8 35), .lit (.int .u8 44), .lit (.int .u8 21), .lit (.int .u8 52), .lit (.int .u8 32), .lit (.int .u8 23), .lit (.int .u8 11), .lit (.int .u8 54), .lit (.int .u8 26), .lit (.int .u8 40), .lit (.int .u8 15), .lit (.int .u8 34), .lit (.int .u8 20), .lit (.int .u8 31), .lit (.int .u8 10), .lit (.int .u8 25), .lit (.int .u8 14), .lit (.int .u8 19), .lit (.int .u8 9), .lit (.int .u8 13), .lit (.int .u8 8), .lit (.int .u8 7), .lit (.int .u8 6)]
def laid_internal_strconv_uint64pow10 {H : Type} : DataW H := .agg [.lit (.int .u64 1), .lit (.int .u64 10), .lit (.int .u64 100), .lit (.int .u64 1000), .lit (.int .u64 10000), .lit (.int .u64 100000), .lit (.int .u64 1000000), .lit (.int .u64 10000000), .lit (.int .u64 100000000), .lit (.int .u64 1000000000), .lit (.int .u64 10000000000), .lit (.int .u64 100000000000), .lit (.int .u64 1000000000000), .lit (.int .u64 10000000000000), .lit (.int .u64 100000000000000), .lit (.int .u64 1000000000000000), .lit (.int .u64 10000000000000000), .lit (.int .u64 100000000000000000), .lit (.int .u64 1000000000000000000), .lit (.int .u64 10000000000000000000)]
def laid_bollard_api_ErrName {H : Type} : DataW H := .iface "*errors.errorString" (.ptr (.agg [.lit (.string [98, 111, 108, 108, 97, 114, 100, 58, 32, 110, 97, 109, 101])]))
def laid_bollard_api_ErrGone {H : Type} : DataW H := .iface "*errors.errorString" (.ptr (.agg [.lit (.string [98, 111, 108, 108, 97, 114, 100, 58, 32, 103, 111, 110, 101])]))
def laid_bollard_api_ErrFull {H : Type} : DataW H := .iface "*errors.errorString" (.ptr (.agg [.lit (.string [98, 111, 108, 108, 97, 114, 100, 58, 32, 102, 117, 108, 108])]))
def laid_bollard_api_ErrParams {H : Type} : DataW H := .iface "*errors.errorString" (.ptr (.agg [.lit (.string [98, 111, 108, 108, 97, 114, 100, 58, 32, 112, 97, 114, 97, 109, 115])]))
def laid_bollard_api_ErrNumber {H : Type} : DataW H := .iface "*errors.errorString" (.ptr (.agg [.lit (.string [98, 111, 108, 108, 97, 114, 100, 58, 32, 110, 117, 109, 98, 101, 114])]))
def laid_bollard_api_ErrData {H : Type} : DataW H := .iface "*errors.errorString" (.ptr (.agg [.lit (.string [98, 111, 108, 108, 97, 114, 100, 58, 32, 100, 97, 116, 97])]))
def laid_bollard_api_ErrLost {H : Type} : DataW H := .iface "*errors.errorString" (.ptr (.agg [.lit (.string [98, 111, 108, 108, 97, 114, 100, 58, 32, 108, 111, 115, 116])]))
def laid_bollard_api_ErrBytes {H : Type} : DataW H := .iface "*errors.errorString" (.ptr (.agg [.lit (.string [98, 111, 108, 108, 97, 114, 100, 58, 32, 98, 121, 116, 101, 115])]))
def laid_bollard_api_ErrDigest {H : Type} : DataW H := .iface "*errors.errorString" (.ptr (.agg [.lit (.string [98, 111, 108, 108, 97, 114, 100, 58, 32, 100, 105, 103, 101, 115, 116])]))
def laid_bollard_api_ErrThere {H : Type} : DataW H := .iface "*errors.errorString" (.ptr (.agg [.lit (.string [98, 111, 108, 108, 97, 114, 100, 58, 32, 116, 104, 101, 114, 101])]))
def laid_bollard_api_ErrLarge {H : Type} : DataW H := .iface "*errors.errorString" (.ptr (.agg [.lit (.string [98, 111, 108, 108, 97, 114, 100, 58, 32, 108, 97, 114, 103, 101])]))
def laid_bollard_api_ErrBallot {H : Type} : DataW H := .iface "*errors.errorString" (.ptr (.agg [.lit (.string [98, 111, 108, 108, 97, 114, 100, 58, 32, 98, 97, 108, 108, 111, 116])]))
def laid_bollard_api_ErrRequest {H : Type} : DataW H := .iface "*errors.errorString" (.ptr (.agg [.lit (.string [98, 111, 108, 108, 97, 114, 100, 58, 32, 114, 101, 113, 117, 101, 115, 116])]))
def laid_bollard_api_ErrDenied {H : Type} : DataW H := .iface "*errors.errorString" (.ptr (.agg [.lit (.string [98, 111, 108, 108, 97, 114, 100, 58, 32, 100, 101, 110, 105, 101, 100])]))
def laid_bollard_api_ErrSkew {H : Type} : DataW H := .iface "*errors.errorString" (.ptr (.agg [.lit (.string [98, 111, 108, 108, 97, 114, 100, 58, 32, 115, 107, 101, 119])]))
def laid_bollard_api_ErrMethod {H : Type} : DataW H := .iface "*errors.errorString" (.ptr (.agg [.lit (.string [98, 111, 108, 108, 97, 114, 100, 58, 32, 109, 101, 116, 104, 111, 100])]))
def laid_bollard_api_ErrState {H : Type} : DataW H := .iface "*errors.errorString" (.ptr (.agg [.lit (.string [98, 111, 108, 108, 97, 114, 100, 58, 32, 115, 116, 97, 116, 101])]))
def laid_strconv_ErrRange {H : Type} : DataW H := .iface "*errors.errorString" (.ptr (.agg [.lit (.string [118, 97, 108, 117, 101, 32, 111, 117, 116, 32, 111, 102, 32, 114, 97, 110, 103, 101])]))
def laid_strconv_ErrSyntax {H : Type} : DataW H := .iface "*errors.errorString" (.ptr (.agg [.lit (.string [105, 110, 118, 97, 108, 105, 100, 32, 115, 121, 110, 116, 97, 120])]))

/-- 'bollardlaw17.UriParses': WHATEVER THE INPUT: true; the input reads as it did. -/
def uriParsesSpec : ChangeSpec := { name := "uriParses", fn := fun _ => fun
  | [d] => { results := [.lit (.bool true)], args := [d] }
  | _ => none }
def uriParsesRow : OpenClaim := { program := "ytmimkgfkicgfiaadoor", sum := "b96f82f685eb1c840cc2c07fe38bde64e26052ee08a18469fb0c79e5d0c2a2e9", func := "bollard/bollardlaw17.UriParses", spec := "uriParses", inPlace := ["internal/bytealg.IndexByteString", "internal/bytealg.IndexString", "internal/abi.NoEscape"], unfollowed := true, recurses := true, named := ["bollard/api.ErrUri", "internal/bytealg.MaxLen", "unicode/utf8.first", "unicode/utf8.acceptRanges"], apart := false, laid := [("unicode/utf8.acceptRanges", laid_unicode_utf8_acceptRanges), ("bollard/api.ErrUri", laid_bollard_api_ErrUri), ("unicode/utf8.first", laid_unicode_utf8_first)] }
def UriParsesSaid : Prop := uriParsesRow.holds Tryd.pinned (OpenSpec.ofChange uriParsesSpec)

/-- ITS FALSE NEIGHBOUR: 'it returns false'. Refute it at one input. -/
def uriParsesWrong : ChangeSpec := { name := "uriParses", fn := fun _ => fun
  | [d] => { results := [.lit (.bool false)], args := [d] }
  | _ => none }
def UriParsesWrongFalsely : Prop := uriParsesRow.holds Tryd.pinned (OpenSpec.ofChange uriParsesWrong)

/-- 'bollardlaw17.UriPlain': WHATEVER THE INPUT: true; the input reads as it did. -/
def uriPlainSpec : ChangeSpec := { name := "uriPlain", fn := fun _ => fun
  | [d1, d2] => { results := [.lit (.bool true)], args := [d1, d2] }
  | _ => none }
def uriPlainRow : OpenClaim := { program := "ytmimkgfkicgfiaadoor", sum := "b96f82f685eb1c840cc2c07fe38bde64e26052ee08a18469fb0c79e5d0c2a2e9", func := "bollard/bollardlaw17.UriPlain", spec := "uriPlain", inPlace := ["internal/bytealg.IndexByteString", "internal/bytealg.IndexString", "internal/abi.NoEscape"], unfollowed := true, recurses := true, named := ["bollard/api.ErrUri", "internal/bytealg.MaxLen", "unicode/utf8.first", "unicode/utf8.acceptRanges"], apart := false, laid := [("unicode/utf8.acceptRanges", laid_unicode_utf8_acceptRanges), ("bollard/api.ErrUri", laid_bollard_api_ErrUri), ("unicode/utf8.first", laid_unicode_utf8_first)] }
def UriPlainSaid : Prop := uriPlainRow.holds Tryd.pinned (OpenSpec.ofChange uriPlainSpec)

/-- ITS FALSE NEIGHBOUR: 'it returns false'. Refute it at one input. -/
def uriPlainWrong : ChangeSpec := { name := "uriPlain", fn := fun _ => fun
  | [d1, d2] => { results := [.lit (.bool false)], args := [d1, d2] }
  | _ => none }
def UriPlainWrongFalsely : Prop := uriPlainRow.holds Tryd.pinned (OpenSpec.ofChange uriPlainWrong)

/-- 'bollardlaw19.XmlTells': WHATEVER THE INPUT: true; the input reads as it did. -/
def xmlTellsSpec : ChangeSpec := { name := "xmlTells", fn := fun _ => fun
  | [d] => { results := [.lit (.bool true)], args := [d] }
  | _ => none }
def xmlTellsRow : OpenClaim := { program := "ytmimkgfkicgfiaadoor", sum := "b96f82f685eb1c840cc2c07fe38bde64e26052ee08a18469fb0c79e5d0c2a2e9", func := "bollard/bollardlaw19.XmlTells", spec := "xmlTells", inPlace := ["internal/abi.NoEscape", "internal/bytealg.MakeNoZero"], named := ["internal/strconv.uint64pow10", "math/bits.deBruijn32tab", "math/bits.deBruijn64tab"], apart := false, laid := [("math/bits.deBruijn32tab", laid_math_bits_deBruijn32tab), ("math/bits.deBruijn64tab", laid_math_bits_deBruijn64tab), ("internal/strconv.uint64pow10", laid_internal_strconv_uint64pow10)] }
def XmlTellsSaid : Prop := xmlTellsRow.holds Tryd.pinned (OpenSpec.ofChange xmlTellsSpec)

/-- ITS FALSE NEIGHBOUR: 'it returns false'. Refute it at one input. -/
def xmlTellsWrong : ChangeSpec := { name := "xmlTells", fn := fun _ => fun
  | [d] => { results := [.lit (.bool false)], args := [d] }
  | _ => none }
def XmlTellsWrongFalsely : Prop := xmlTellsRow.holds Tryd.pinned (OpenSpec.ofChange xmlTellsWrong)

/-- 'bollardlaw19.XmlDocuments': WHATEVER THE INPUT: true; the input reads as it did. -/
def xmlDocumentsSpec : ChangeSpec := { name := "xmlDocuments", fn := fun _ => fun
  | [d1, d2, d3] => { results := [.lit (.bool true)], args := [d1, d2, d3] }
  | _ => none }
def xmlDocumentsRow : OpenClaim := { program := "ytmimkgfkicgfiaadoor", sum := "b96f82f685eb1c840cc2c07fe38bde64e26052ee08a18469fb0c79e5d0c2a2e9", func := "bollard/bollardlaw19.XmlDocuments", spec := "xmlDocuments", inPlace := ["internal/abi.NoEscape", "internal/bytealg.MakeNoZero"], named := ["internal/strconv.uint64pow10", "math/bits.deBruijn32tab", "math/bits.deBruijn64tab"], apart := false, laid := [("math/bits.deBruijn32tab", laid_math_bits_deBruijn32tab), ("math/bits.deBruijn64tab", laid_math_bits_deBruijn64tab), ("internal/strconv.uint64pow10", laid_internal_strconv_uint64pow10)] }
def XmlDocumentsSaid : Prop := xmlDocumentsRow.holds Tryd.pinned (OpenSpec.ofChange xmlDocumentsSpec)

/-- ITS FALSE NEIGHBOUR: 'it returns false'. Refute it at one input. -/
def xmlDocumentsWrong : ChangeSpec := { name := "xmlDocuments", fn := fun _ => fun
  | [d1, d2, d3] => { results := [.lit (.bool false)], args := [d1, d2, d3] }
  | _ => none }
def XmlDocumentsWrongFalsely : Prop := xmlDocumentsRow.holds Tryd.pinned (OpenSpec.ofChange xmlDocumentsWrong)

/-- 'bollardlaw07.DiskSafe': WHATEVER THE INPUT: true; the input reads as it did. -/
def diskSafeSpec : ChangeSpec := { name := "diskSafe", fn := fun _ => fun
  | [d1, d2] => { results := [.lit (.bool true)], args := [d1, d2] }
  | _ => none }
def diskSafeRow : OpenClaim := { program := "ytmimkgfkicgfiaadoor", sum := "b96f82f685eb1c840cc2c07fe38bde64e26052ee08a18469fb0c79e5d0c2a2e9", func := "bollard/bollardlaw07.DiskSafe", spec := "diskSafe", unfollowed := true, recurses := true, named := ["bollard/api.ErrName", "bollard/api.ErrFull", "bollard/api.ErrGone"], apart := false, laid := [("bollard/api.ErrName", laid_bollard_api_ErrName), ("bollard/api.ErrGone", laid_bollard_api_ErrGone), ("bollard/api.ErrFull", laid_bollard_api_ErrFull)] }
def DiskSafeSaid : Prop := diskSafeRow.holds Tryd.pinned (OpenSpec.ofChange diskSafeSpec)

/-- ITS FALSE NEIGHBOUR: 'it returns false'. Refute it at one input. -/
def diskSafeWrong : ChangeSpec := { name := "diskSafe", fn := fun _ => fun
  | [d1, d2] => { results := [.lit (.bool false)], args := [d1, d2] }
  | _ => none }
def DiskSafeWrongFalsely : Prop := diskSafeRow.holds Tryd.pinned (OpenSpec.ofChange diskSafeWrong)

/-- 'bollardlaw07.DiskRenames': WHATEVER THE INPUT: true; the input reads as it did. -/
def diskRenamesSpec : ChangeSpec := { name := "diskRenames", fn := fun _ => fun
  | [d1, d2, d3] => { results := [.lit (.bool true)], args := [d1, d2, d3] }
  | _ => none }
def diskRenamesRow : OpenClaim := { program := "ytmimkgfkicgfiaadoor", sum := "b96f82f685eb1c840cc2c07fe38bde64e26052ee08a18469fb0c79e5d0c2a2e9", func := "bollard/bollardlaw07.DiskRenames", spec := "diskRenames", unfollowed := true, recurses := true, named := ["bollard/api.ErrName", "bollard/api.ErrFull", "bollard/api.ErrGone"], apart := false, laid := [("bollard/api.ErrName", laid_bollard_api_ErrName), ("bollard/api.ErrGone", laid_bollard_api_ErrGone), ("bollard/api.ErrFull", laid_bollard_api_ErrFull)] }
def DiskRenamesSaid : Prop := diskRenamesRow.holds Tryd.pinned (OpenSpec.ofChange diskRenamesSpec)

/-- ITS FALSE NEIGHBOUR: 'it returns false'. Refute it at one input. -/
def diskRenamesWrong : ChangeSpec := { name := "diskRenames", fn := fun _ => fun
  | [d1, d2, d3] => { results := [.lit (.bool false)], args := [d1, d2, d3] }
  | _ => none }
def DiskRenamesWrongFalsely : Prop := diskRenamesRow.holds Tryd.pinned (OpenSpec.ofChange diskRenamesWrong)

/-- 'bollardlaw07.DiskApart': WHATEVER THE INPUT: true; the input reads as it did. -/
def diskApartSpec : ChangeSpec := { name := "diskApart", fn := fun _ => fun
  | [d] => { results := [.lit (.bool true)], args := [d] }
  | _ => none }
def diskApartRow : OpenClaim := { program := "ytmimkgfkicgfiaadoor", sum := "b96f82f685eb1c840cc2c07fe38bde64e26052ee08a18469fb0c79e5d0c2a2e9", func := "bollard/bollardlaw07.DiskApart", spec := "diskApart", unfollowed := true, recurses := true, named := ["bollard/api.ErrName", "bollard/api.ErrFull", "bollard/api.ErrGone"], apart := false, laid := [("bollard/api.ErrName", laid_bollard_api_ErrName), ("bollard/api.ErrGone", laid_bollard_api_ErrGone), ("bollard/api.ErrFull", laid_bollard_api_ErrFull)] }
def DiskApartSaid : Prop := diskApartRow.holds Tryd.pinned (OpenSpec.ofChange diskApartSpec)

/-- ITS FALSE NEIGHBOUR: 'it returns false'. Refute it at one input. -/
def diskApartWrong : ChangeSpec := { name := "diskApart", fn := fun _ => fun
  | [d] => { results := [.lit (.bool false)], args := [d] }
  | _ => none }
def DiskApartWrongFalsely : Prop := diskApartRow.holds Tryd.pinned (OpenSpec.ofChange diskApartWrong)

/-- 'bollardlaw07.DiskPlays': WHATEVER THE INPUT: true; the input reads as it did. -/
def diskPlaysSpec : ChangeSpec := { name := "diskPlays", fn := fun _ => fun
  | [d] => { results := [.lit (.bool true)], args := [d] }
  | _ => none }
def diskPlaysRow : OpenClaim := { program := "ytmimkgfkicgfiaadoor", sum := "b96f82f685eb1c840cc2c07fe38bde64e26052ee08a18469fb0c79e5d0c2a2e9", func := "bollard/bollardlaw07.DiskPlays", spec := "diskPlays", unfollowed := true, recurses := true, named := ["bollard/api.ErrName", "bollard/api.ErrFull", "bollard/api.ErrGone", "bollard/api.ErrParams", "bollard/api.ErrNumber", "bollard/api.ErrData", "bollard/api.ErrLost", "bollard/api.ErrBytes", "bollard/api.ErrDigest", "bollard/api.ErrThere", "bollard/api.ErrLarge", "bollard/api.ErrBallot", "bollard/api.ErrRequest", "bollard/api.ErrUri", "bollard/api.ErrDenied", "bollard/api.ErrSkew", "bollard/api.ErrMethod", "bollard/api.ErrState"], apart := false, laid := [("bollard/api.ErrParams", laid_bollard_api_ErrParams), ("bollard/api.ErrNumber", laid_bollard_api_ErrNumber), ("bollard/api.ErrData", laid_bollard_api_ErrData), ("bollard/api.ErrLost", laid_bollard_api_ErrLost), ("bollard/api.ErrBytes", laid_bollard_api_ErrBytes), ("bollard/api.ErrDigest", laid_bollard_api_ErrDigest), ("bollard/api.ErrName", laid_bollard_api_ErrName), ("bollard/api.ErrGone", laid_bollard_api_ErrGone), ("bollard/api.ErrThere", laid_bollard_api_ErrThere), ("bollard/api.ErrFull", laid_bollard_api_ErrFull), ("bollard/api.ErrLarge", laid_bollard_api_ErrLarge), ("bollard/api.ErrBallot", laid_bollard_api_ErrBallot), ("bollard/api.ErrRequest", laid_bollard_api_ErrRequest), ("bollard/api.ErrUri", laid_bollard_api_ErrUri), ("bollard/api.ErrDenied", laid_bollard_api_ErrDenied), ("bollard/api.ErrSkew", laid_bollard_api_ErrSkew), ("bollard/api.ErrMethod", laid_bollard_api_ErrMethod), ("bollard/api.ErrState", laid_bollard_api_ErrState)] }
def DiskPlaysSaid : Prop := diskPlaysRow.holds Tryd.pinned (OpenSpec.ofChange diskPlaysSpec)

/-- ITS FALSE NEIGHBOUR: 'it returns false'. Refute it at one input. -/
def diskPlaysWrong : ChangeSpec := { name := "diskPlays", fn := fun _ => fun
  | [d] => { results := [.lit (.bool false)], args := [d] }
  | _ => none }
def DiskPlaysWrongFalsely : Prop := diskPlaysRow.holds Tryd.pinned (OpenSpec.ofChange diskPlaysWrong)

/-- 'bollardlaw17.UriBack': WHATEVER THE INPUT: true; the input reads as it did. -/
def uriBackSpec : ChangeSpec := { name := "uriBack", fn := fun _ => fun
  | [d] => { results := [.lit (.bool true)], args := [d] }
  | _ => none }
def uriBackRow : OpenClaim := { program := "ytmimkgfkicgfiaadoor", sum := "b96f82f685eb1c840cc2c07fe38bde64e26052ee08a18469fb0c79e5d0c2a2e9", func := "bollard/bollardlaw17.UriBack", spec := "uriBack", inPlace := ["internal/bytealg.IndexByteString", "internal/bytealg.IndexString", "internal/abi.NoEscape", "internal/bytealg.MakeNoZero"], unfollowed := true, recurses := true, named := ["bollard/api.ErrUri", "internal/bytealg.MaxLen", "unicode/utf8.first", "unicode/utf8.acceptRanges"], apart := false, laid := [("unicode/utf8.acceptRanges", laid_unicode_utf8_acceptRanges), ("bollard/api.ErrUri", laid_bollard_api_ErrUri), ("unicode/utf8.first", laid_unicode_utf8_first)] }
def UriBackSaid : Prop := uriBackRow.holds Tryd.pinned (OpenSpec.ofChange uriBackSpec)

/-- ITS FALSE NEIGHBOUR: 'it returns false'. Refute it at one input. -/
def uriBackWrong : ChangeSpec := { name := "uriBack", fn := fun _ => fun
  | [d] => { results := [.lit (.bool false)], args := [d] }
  | _ => none }
def UriBackWrongFalsely : Prop := uriBackRow.holds Tryd.pinned (OpenSpec.ofChange uriBackWrong)

/-- 'bollardlaw17.UriWrites': WHATEVER THE INPUT: true; the input reads as it did. -/
def uriWritesSpec : ChangeSpec := { name := "uriWrites", fn := fun _ => fun
  | [d1, d2, d3] => { results := [.lit (.bool true)], args := [d1, d2, d3] }
  | _ => none }
def uriWritesRow : OpenClaim := { program := "ytmimkgfkicgfiaadoor", sum := "b96f82f685eb1c840cc2c07fe38bde64e26052ee08a18469fb0c79e5d0c2a2e9", func := "bollard/bollardlaw17.UriWrites", spec := "uriWrites", inPlace := ["internal/bytealg.IndexByteString", "internal/bytealg.IndexString", "internal/abi.NoEscape", "internal/bytealg.MakeNoZero"], unfollowed := true, recurses := true, named := ["bollard/api.ErrUri", "internal/bytealg.MaxLen", "unicode/utf8.first", "unicode/utf8.acceptRanges"], apart := false, laid := [("unicode/utf8.acceptRanges", laid_unicode_utf8_acceptRanges), ("bollard/api.ErrUri", laid_bollard_api_ErrUri), ("unicode/utf8.first", laid_unicode_utf8_first)] }
def UriWritesSaid : Prop := uriWritesRow.holds Tryd.pinned (OpenSpec.ofChange uriWritesSpec)

/-- ITS FALSE NEIGHBOUR: 'it returns false'. Refute it at one input. -/
def uriWritesWrong : ChangeSpec := { name := "uriWrites", fn := fun _ => fun
  | [d1, d2, d3] => { results := [.lit (.bool false)], args := [d1, d2, d3] }
  | _ => none }
def UriWritesWrongFalsely : Prop := uriWritesRow.holds Tryd.pinned (OpenSpec.ofChange uriWritesWrong)

/-- 'bollardlaw17.UriTexts': WHATEVER THE INPUT: true; the input reads as it did. -/
def uriTextsSpec : ChangeSpec := { name := "uriTexts", fn := fun _ => fun
  | [d1, d2, d3] => { results := [.lit (.bool true)], args := [d1, d2, d3] }
  | _ => none }
def uriTextsRow : OpenClaim := { program := "ytmimkgfkicgfiaadoor", sum := "b96f82f685eb1c840cc2c07fe38bde64e26052ee08a18469fb0c79e5d0c2a2e9", func := "bollard/bollardlaw17.UriTexts", spec := "uriTexts", inPlace := ["internal/bytealg.IndexByteString", "internal/bytealg.IndexString", "internal/abi.NoEscape", "internal/bytealg.MakeNoZero"], unfollowed := true, recurses := true, named := ["bollard/api.ErrUri", "internal/bytealg.MaxLen", "unicode/utf8.first", "unicode/utf8.acceptRanges"], apart := false, laid := [("unicode/utf8.acceptRanges", laid_unicode_utf8_acceptRanges), ("bollard/api.ErrUri", laid_bollard_api_ErrUri), ("unicode/utf8.first", laid_unicode_utf8_first)] }
def UriTextsSaid : Prop := uriTextsRow.holds Tryd.pinned (OpenSpec.ofChange uriTextsSpec)

/-- ITS FALSE NEIGHBOUR: 'it returns false'. Refute it at one input. -/
def uriTextsWrong : ChangeSpec := { name := "uriTexts", fn := fun _ => fun
  | [d1, d2, d3] => { results := [.lit (.bool false)], args := [d1, d2, d3] }
  | _ => none }
def UriTextsWrongFalsely : Prop := uriTextsRow.holds Tryd.pinned (OpenSpec.ofChange uriTextsWrong)

/-- 'bollardlaw19.XmlIds': WHATEVER THE INPUT: true; the input reads as it did. -/
def xmlIdsSpec : ChangeSpec := { name := "xmlIds", fn := fun _ => fun
  | [d1, d2] => { results := [.lit (.bool true)], args := [d1, d2] }
  | _ => none }
def xmlIdsRow : OpenClaim := { program := "ytmimkgfkicgfiaadoor", sum := "b96f82f685eb1c840cc2c07fe38bde64e26052ee08a18469fb0c79e5d0c2a2e9", func := "bollard/bollardlaw19.XmlIds", spec := "xmlIds", inPlace := ["internal/abi.NoEscape", "internal/bytealg.MakeNoZero", "internal/bytealg.CountString", "internal/bytealg.IndexByteString", "internal/bytealg.IndexString"], named := ["internal/strconv.uint64pow10", "math/bits.deBruijn32tab", "math/bits.deBruijn64tab", "unicode/utf8.first", "unicode/utf8.acceptRanges", "internal/bytealg.MaxLen", "strconv.ErrSyntax", "strconv.ErrRange"], apart := false, laid := [("math/bits.deBruijn32tab", laid_math_bits_deBruijn32tab), ("math/bits.deBruijn64tab", laid_math_bits_deBruijn64tab), ("internal/strconv.uint64pow10", laid_internal_strconv_uint64pow10), ("unicode/utf8.acceptRanges", laid_unicode_utf8_acceptRanges), ("strconv.ErrRange", laid_strconv_ErrRange), ("strconv.ErrSyntax", laid_strconv_ErrSyntax), ("unicode/utf8.first", laid_unicode_utf8_first)] }
def XmlIdsSaid : Prop := xmlIdsRow.holds Tryd.pinned (OpenSpec.ofChange xmlIdsSpec)

/-- ITS FALSE NEIGHBOUR: 'it returns false'. Refute it at one input. -/
def xmlIdsWrong : ChangeSpec := { name := "xmlIds", fn := fun _ => fun
  | [d1, d2] => { results := [.lit (.bool false)], args := [d1, d2] }
  | _ => none }
def XmlIdsWrongFalsely : Prop := xmlIdsRow.holds Tryd.pinned (OpenSpec.ofChange xmlIdsWrong)

/- THE SECOND FORM. 'bulk': how many values and letters a reading holds, each counted each time it is reached (what is shared counts as often as it is met; a slice's spare places count too). A statement '..UptoSaid' is the law's where the arguments, and the package variables that the reading takes, are together of bulk at most 1048576: NARROWER than '..Said'. Prove '..Said' where nothing that the law and all that it calls make is longer than what came in: it says more and counts as full. Else prove '..UptoSaid'. A law counts once. -/
mutual
def uptoBulk {H : Type} : DataW H → Nat
  | .lit (.string bytes) => bytes.length + 1
  | .lit _ => 1
  | .nil => 1
  | .ptr d => uptoBulk d + 1
  | .slice elems spare => uptoBulkAll elems + uptoBulkAll spare + 1
  | .agg parts => uptoBulkAll parts + 1
  | .iface _ d => uptoBulk d + 1
  | .map entries => uptoBulkEntries entries + 1
  | .held _ => 1
def uptoBulkAll {H : Type} : List (DataW H) → Nat
  | [] => 0
  | d :: r => uptoBulk d + uptoBulkAll r
def uptoBulkEntries {H : Type} : List (Lit × DataW H) → Nat
  | [] => 0
  | x :: r => uptoBulkEntry x + uptoBulkEntries r
def uptoBulkEntry {H : Type} : Lit × DataW H → Nat
  | (.string bytes, d) => bytes.length + uptoBulk d + 1
  | (_, d) => uptoBulk d + 1
 end
def uptoSmall : (H : Type) → List (DataW H) → Bool := fun _ ds => decide (uptoBulkAll ds ≤ 1048576)
def OpenSpec.upto (s : _root_.Go.ChangeSpec) : _root_.Go.OpenSpec := { _root_.Go.OpenSpec.ofChange s with cond := some uptoSmall }

/-- 'bollardlaw17.UriParses', WHERE WHAT IT READS IS OF BULK AT MOST 1048576: true; the input reads as it did. -/
def uriParsesUptoRow : OpenClaim := { program := "ytmimkgfkicgfiaadoor", sum := "b96f82f685eb1c840cc2c07fe38bde64e26052ee08a18469fb0c79e5d0c2a2e9", func := "bollard/bollardlaw17.UriParses", spec := "uriParses", inPlace := ["internal/bytealg.IndexByteString", "internal/bytealg.IndexString", "internal/abi.NoEscape"], unfollowed := true, recurses := true, named := ["bollard/api.ErrUri", "internal/bytealg.MaxLen", "unicode/utf8.first", "unicode/utf8.acceptRanges"], apart := false, laid := [("unicode/utf8.acceptRanges", laid_unicode_utf8_acceptRanges), ("bollard/api.ErrUri", laid_bollard_api_ErrUri), ("unicode/utf8.first", laid_unicode_utf8_first)], narrowed := true }
def UriParsesUptoSaid : Prop := uriParsesUptoRow.holds Tryd.pinned (OpenSpec.upto uriParsesSpec)

/-- 'bollardlaw17.UriPlain', WHERE WHAT IT READS IS OF BULK AT MOST 1048576: true; the input reads as it did. -/
def uriPlainUptoRow : OpenClaim := { program := "ytmimkgfkicgfiaadoor", sum := "b96f82f685eb1c840cc2c07fe38bde64e26052ee08a18469fb0c79e5d0c2a2e9", func := "bollard/bollardlaw17.UriPlain", spec := "uriPlain", inPlace := ["internal/bytealg.IndexByteString", "internal/bytealg.IndexString", "internal/abi.NoEscape"], unfollowed := true, recurses := true, named := ["bollard/api.ErrUri", "internal/bytealg.MaxLen", "unicode/utf8.first", "unicode/utf8.acceptRanges"], apart := false, laid := [("unicode/utf8.acceptRanges", laid_unicode_utf8_acceptRanges), ("bollard/api.ErrUri", laid_bollard_api_ErrUri), ("unicode/utf8.first", laid_unicode_utf8_first)], narrowed := true }
def UriPlainUptoSaid : Prop := uriPlainUptoRow.holds Tryd.pinned (OpenSpec.upto uriPlainSpec)

/-- 'bollardlaw19.XmlTells', WHERE WHAT IT READS IS OF BULK AT MOST 1048576: true; the input reads as it did. -/
def xmlTellsUptoRow : OpenClaim := { program := "ytmimkgfkicgfiaadoor", sum := "b96f82f685eb1c840cc2c07fe38bde64e26052ee08a18469fb0c79e5d0c2a2e9", func := "bollard/bollardlaw19.XmlTells", spec := "xmlTells", inPlace := ["internal/abi.NoEscape", "internal/bytealg.MakeNoZero"], named := ["internal/strconv.uint64pow10", "math/bits.deBruijn32tab", "math/bits.deBruijn64tab"], apart := false, laid := [("math/bits.deBruijn32tab", laid_math_bits_deBruijn32tab), ("math/bits.deBruijn64tab", laid_math_bits_deBruijn64tab), ("internal/strconv.uint64pow10", laid_internal_strconv_uint64pow10)], narrowed := true }
def XmlTellsUptoSaid : Prop := xmlTellsUptoRow.holds Tryd.pinned (OpenSpec.upto xmlTellsSpec)

/-- 'bollardlaw19.XmlDocuments', WHERE WHAT IT READS IS OF BULK AT MOST 1048576: true; the input reads as it did. -/
def xmlDocumentsUptoRow : OpenClaim := { program := "ytmimkgfkicgfiaadoor", sum := "b96f82f685eb1c840cc2c07fe38bde64e26052ee08a18469fb0c79e5d0c2a2e9", func := "bollard/bollardlaw19.XmlDocuments", spec := "xmlDocuments", inPlace := ["internal/abi.NoEscape", "internal/bytealg.MakeNoZero"], named := ["internal/strconv.uint64pow10", "math/bits.deBruijn32tab", "math/bits.deBruijn64tab"], apart := false, laid := [("math/bits.deBruijn32tab", laid_math_bits_deBruijn32tab), ("math/bits.deBruijn64tab", laid_math_bits_deBruijn64tab), ("internal/strconv.uint64pow10", laid_internal_strconv_uint64pow10)], narrowed := true }
def XmlDocumentsUptoSaid : Prop := xmlDocumentsUptoRow.holds Tryd.pinned (OpenSpec.upto xmlDocumentsSpec)

/-- 'bollardlaw07.DiskSafe', WHERE WHAT IT READS IS OF BULK AT MOST 1048576: true; the input reads as it did. -/
def diskSafeUptoRow : OpenClaim := { program := "ytmimkgfkicgfiaadoor", sum := "b96f82f685eb1c840cc2c07fe38bde64e26052ee08a18469fb0c79e5d0c2a2e9", func := "bollard/bollardlaw07.DiskSafe", spec := "diskSafe", unfollowed := true, recurses := true, named := ["bollard/api.ErrName", "bollard/api.ErrFull", "bollard/api.ErrGone"], apart := false, laid := [("bollard/api.ErrName", laid_bollard_api_ErrName), ("bollard/api.ErrGone", laid_bollard_api_ErrGone), ("bollard/api.ErrFull", laid_bollard_api_ErrFull)], narrowed := true }
def DiskSafeUptoSaid : Prop := diskSafeUptoRow.holds Tryd.pinned (OpenSpec.upto diskSafeSpec)

/-- 'bollardlaw07.DiskRenames', WHERE WHAT IT READS IS OF BULK AT MOST 1048576: true; the input reads as it did. -/
def diskRenamesUptoRow : OpenClaim := { program := "ytmimkgfkicgfiaadoor", sum := "b96f82f685eb1c840cc2c07fe38bde64e26052ee08a18469fb0c79e5d0c2a2e9", func := "bollard/bollardlaw07.DiskRenames", spec := "diskRenames", unfollowed := true, recurses := true, named := ["bollard/api.ErrName", "bollard/api.ErrFull", "bollard/api.ErrGone"], apart := false, laid := [("bollard/api.ErrName", laid_bollard_api_ErrName), ("bollard/api.ErrGone", laid_bollard_api_ErrGone), ("bollard/api.ErrFull", laid_bollard_api_ErrFull)], narrowed := true }
def DiskRenamesUptoSaid : Prop := diskRenamesUptoRow.holds Tryd.pinned (OpenSpec.upto diskRenamesSpec)

/-- 'bollardlaw07.DiskApart', WHERE WHAT IT READS IS OF BULK AT MOST 1048576: true; the input reads as it did. -/
def diskApartUptoRow : OpenClaim := { program := "ytmimkgfkicgfiaadoor", sum := "b96f82f685eb1c840cc2c07fe38bde64e26052ee08a18469fb0c79e5d0c2a2e9", func := "bollard/bollardlaw07.DiskApart", spec := "diskApart", unfollowed := true, recurses := true, named := ["bollard/api.ErrName", "bollard/api.ErrFull", "bollard/api.ErrGone"], apart := false, laid := [("bollard/api.ErrName", laid_bollard_api_ErrName), ("bollard/api.ErrGone", laid_bollard_api_ErrGone), ("bollard/api.ErrFull", laid_bollard_api_ErrFull)], narrowed := true }
def DiskApartUptoSaid : Prop := diskApartUptoRow.holds Tryd.pinned (OpenSpec.upto diskApartSpec)

/-- 'bollardlaw07.DiskPlays', WHERE WHAT IT READS IS OF BULK AT MOST 1048576: true; the input reads as it did. -/
def diskPlaysUptoRow : OpenClaim := { program := "ytmimkgfkicgfiaadoor", sum := "b96f82f685eb1c840cc2c07fe38bde64e26052ee08a18469fb0c79e5d0c2a2e9", func := "bollard/bollardlaw07.DiskPlays", spec := "diskPlays", unfollowed := true, recurses := true, named := ["bollard/api.ErrName", "bollard/api.ErrFull", "bollard/api.ErrGone", "bollard/api.ErrParams", "bollard/api.ErrNumber", "bollard/api.ErrData", "bollard/api.ErrLost", "bollard/api.ErrBytes", "bollard/api.ErrDigest", "bollard/api.ErrThere", "bollard/api.ErrLarge", "bollard/api.ErrBallot", "bollard/api.ErrRequest", "bollard/api.ErrUri", "bollard/api.ErrDenied", "bollard/api.ErrSkew", "bollard/api.ErrMethod", "bollard/api.ErrState"], apart := false, laid := [("bollard/api.ErrParams", laid_bollard_api_ErrParams), ("bollard/api.ErrNumber", laid_bollard_api_ErrNumber), ("bollard/api.ErrData", laid_bollard_api_ErrData), ("bollard/api.ErrLost", laid_bollard_api_ErrLost), ("bollard/api.ErrBytes", laid_bollard_api_ErrBytes), ("bollard/api.ErrDigest", laid_bollard_api_ErrDigest), ("bollard/api.ErrName", laid_bollard_api_ErrName), ("bollard/api.ErrGone", laid_bollard_api_ErrGone), ("bollard/api.ErrThere", laid_bollard_api_ErrThere), ("bollard/api.ErrFull", laid_bollard_api_ErrFull), ("bollard/api.ErrLarge", laid_bollard_api_ErrLarge), ("bollard/api.ErrBallot", laid_bollard_api_ErrBallot), ("bollard/api.ErrRequest", laid_bollard_api_ErrRequest), ("bollard/api.ErrUri", laid_bollard_api_ErrUri), ("bollard/api.ErrDenied", laid_bollard_api_ErrDenied), ("bollard/api.ErrSkew", laid_bollard_api_ErrSkew), ("bollard/api.ErrMethod", laid_bollard_api_ErrMethod), ("bollard/api.ErrState", laid_bollard_api_ErrState)], narrowed := true }
def DiskPlaysUptoSaid : Prop := diskPlaysUptoRow.holds Tryd.pinned (OpenSpec.upto diskPlaysSpec)

/-- 'bollardlaw17.UriBack', WHERE WHAT IT READS IS OF BULK AT MOST 1048576: true; the input reads as it did. -/
def uriBackUptoRow : OpenClaim := { program := "ytmimkgfkicgfiaadoor", sum := "b96f82f685eb1c840cc2c07fe38bde64e26052ee08a18469fb0c79e5d0c2a2e9", func := "bollard/bollardlaw17.UriBack", spec := "uriBack", inPlace := ["internal/bytealg.IndexByteString", "internal/bytealg.IndexString", "internal/abi.NoEscape", "internal/bytealg.MakeNoZero"], unfollowed := true, recurses := true, named := ["bollard/api.ErrUri", "internal/bytealg.MaxLen", "unicode/utf8.first", "unicode/utf8.acceptRanges"], apart := false, laid := [("unicode/utf8.acceptRanges", laid_unicode_utf8_acceptRanges), ("bollard/api.ErrUri", laid_bollard_api_ErrUri), ("unicode/utf8.first", laid_unicode_utf8_first)], narrowed := true }
def UriBackUptoSaid : Prop := uriBackUptoRow.holds Tryd.pinned (OpenSpec.upto uriBackSpec)

/-- 'bollardlaw17.UriWrites', WHERE WHAT IT READS IS OF BULK AT MOST 1048576: true; the input reads as it did. -/
def uriWritesUptoRow : OpenClaim := { program := "ytmimkgfkicgfiaadoor", sum := "b96f82f685eb1c840cc2c07fe38bde64e26052ee08a18469fb0c79e5d0c2a2e9", func := "bollard/bollardlaw17.UriWrites", spec := "uriWrites", inPlace := ["internal/bytealg.IndexByteString", "internal/bytealg.IndexString", "internal/abi.NoEscape", "internal/bytealg.MakeNoZero"], unfollowed := true, recurses := true, named := ["bollard/api.ErrUri", "internal/bytealg.MaxLen", "unicode/utf8.first", "unicode/utf8.acceptRanges"], apart := false, laid := [("unicode/utf8.acceptRanges", laid_unicode_utf8_acceptRanges), ("bollard/api.ErrUri", laid_bollard_api_ErrUri), ("unicode/utf8.first", laid_unicode_utf8_first)], narrowed := true }
def UriWritesUptoSaid : Prop := uriWritesUptoRow.holds Tryd.pinned (OpenSpec.upto uriWritesSpec)

/-- 'bollardlaw17.UriTexts', WHERE WHAT IT READS IS OF BULK AT MOST 1048576: true; the input reads as it did. -/
def uriTextsUptoRow : OpenClaim := { program := "ytmimkgfkicgfiaadoor", sum := "b96f82f685eb1c840cc2c07fe38bde64e26052ee08a18469fb0c79e5d0c2a2e9", func := "bollard/bollardlaw17.UriTexts", spec := "uriTexts", inPlace := ["internal/bytealg.IndexByteString", "internal/bytealg.IndexString", "internal/abi.NoEscape", "internal/bytealg.MakeNoZero"], unfollowed := true, recurses := true, named := ["bollard/api.ErrUri", "internal/bytealg.MaxLen", "unicode/utf8.first", "unicode/utf8.acceptRanges"], apart := false, laid := [("unicode/utf8.acceptRanges", laid_unicode_utf8_acceptRanges), ("bollard/api.ErrUri", laid_bollard_api_ErrUri), ("unicode/utf8.first", laid_unicode_utf8_first)], narrowed := true }
def UriTextsUptoSaid : Prop := uriTextsUptoRow.holds Tryd.pinned (OpenSpec.upto uriTextsSpec)

/-- 'bollardlaw19.XmlIds', WHERE WHAT IT READS IS OF BULK AT MOST 1048576: true; the input reads as it did. -/
def xmlIdsUptoRow : OpenClaim := { program := "ytmimkgfkicgfiaadoor", sum := "b96f82f685eb1c840cc2c07fe38bde64e26052ee08a18469fb0c79e5d0c2a2e9", func := "bollard/bollardlaw19.XmlIds", spec := "xmlIds", inPlace := ["internal/abi.NoEscape", "internal/bytealg.MakeNoZero", "internal/bytealg.CountString", "internal/bytealg.IndexByteString", "internal/bytealg.IndexString"], named := ["internal/strconv.uint64pow10", "math/bits.deBruijn32tab", "math/bits.deBruijn64tab", "unicode/utf8.first", "unicode/utf8.acceptRanges", "internal/bytealg.MaxLen", "strconv.ErrSyntax", "strconv.ErrRange"], apart := false, laid := [("math/bits.deBruijn32tab", laid_math_bits_deBruijn32tab), ("math/bits.deBruijn64tab", laid_math_bits_deBruijn64tab), ("internal/strconv.uint64pow10", laid_internal_strconv_uint64pow10), ("unicode/utf8.acceptRanges", laid_unicode_utf8_acceptRanges), ("strconv.ErrRange", laid_strconv_ErrRange), ("strconv.ErrSyntax", laid_strconv_ErrSyntax), ("unicode/utf8.first", laid_unicode_utf8_first)], narrowed := true }
def XmlIdsUptoSaid : Prop := xmlIdsUptoRow.holds Tryd.pinned (OpenSpec.upto xmlIdsSpec)

end Rows
end Go.Proofs.YtmimkgfkicgfiaaDoor
