/-
  DERIVED. GIVEN WITH THE SEED: THE PROGRAM's TIES (one call each: nine closed facts by the kernel) AND EACH ROW's TIE, after the 31st guide's Derived/Test/Toyas{Tie, Card}.lean. No idea stands in it: it is a product of the set-up. Laid BY PROGRAM, IN A SANDBOX (cutbox-door.mjs). By AI agents, Wed Nov 11 2026. No macro, syntax, notation, axiom, sorry.
-/
import Derived.Test.YtnhjbcjeeilicaaGreatDoorRows
import Derived.LaidByTextLater
import Derived.SevenTiedAt
import Derived.LaidSub
import Derived.LaidOnce
namespace Go.Proofs.YtnhjbcjeeilicaaGreatDoor
open Go
set_option maxRecDepth 100000
theorem seatTie1 : Tryz.prog.laidByTextLater [("math/bits.deBruijn32tab", Rows.laid_math_bits_deBruijn32tab), ("math/bits.deBruijn64tab", Rows.laid_math_bits_deBruijn64tab), ("internal/strconv.uint64pow10", Rows.laid_internal_strconv_uint64pow10), ("unicode/utf8.acceptRanges", Rows.laid_unicode_utf8_acceptRanges), ("bollard/api.ErrParams", Rows.laid_bollard_api_ErrParams), ("bollard/api.ErrNumber", Rows.laid_bollard_api_ErrNumber), ("bollard/api.ErrData", Rows.laid_bollard_api_ErrData), ("bollard/api.ErrLost", Rows.laid_bollard_api_ErrLost), ("bollard/api.ErrBytes", Rows.laid_bollard_api_ErrBytes), ("bollard/api.ErrDigest", Rows.laid_bollard_api_ErrDigest), ("bollard/api.ErrName", Rows.laid_bollard_api_ErrName), ("bollard/api.ErrGone", Rows.laid_bollard_api_ErrGone), ("bollard/api.ErrThere", Rows.laid_bollard_api_ErrThere), ("bollard/api.ErrFull", Rows.laid_bollard_api_ErrFull), ("bollard/api.ErrLarge", Rows.laid_bollard_api_ErrLarge), ("bollard/api.ErrBallot", Rows.laid_bollard_api_ErrBallot), ("bollard/api.ErrRequest", Rows.laid_bollard_api_ErrRequest), ("bollard/api.ErrUri", Rows.laid_bollard_api_ErrUri), ("bollard/api.ErrDenied", Rows.laid_bollard_api_ErrDenied), ("bollard/api.ErrSkew", Rows.laid_bollard_api_ErrSkew), ("bollard/api.ErrMethod", Rows.laid_bollard_api_ErrMethod), ("bollard/api.ErrState", Rows.laid_bollard_api_ErrState), ("strconv.ErrRange", Rows.laid_strconv_ErrRange), ("strconv.ErrSyntax", Rows.laid_strconv_ErrSyntax)] [.data, .data, .data, .data, .sentinel, .sentinel, .sentinel, .sentinel, .sentinel, .sentinel, .sentinel, .sentinel, .sentinel, .sentinel, .sentinel, .sentinel, .sentinel, .sentinel, .sentinel, .sentinel, .sentinel, .sentinel, .sentinel, .sentinel] true :=
  Program.laidByTextLater_by_one 414 8 65 (by kernel_rfl) (by kernel_rfl) (by kernel_rfl) (by kernel_rfl) (by kernel_rfl) (by kernel_rfl) (fun _ _ => by kernel_rfl)
theorem pin_laid_unicode_utf8_first : Tryz.pinned.checked.prog.pinnedFits "unicode/utf8.first" = true := by kernel_rfl
theorem noOwnUnsafe : Tryz.pinned.checked.prog.headLifts.contains "ownunsafe" = false := by kernel_rfl
theorem fits1 : Tryz.pinned.checked.prog.listedFits [("math/bits.deBruijn32tab", Rows.laid_math_bits_deBruijn32tab), ("math/bits.deBruijn64tab", Rows.laid_math_bits_deBruijn64tab), ("internal/strconv.uint64pow10", Rows.laid_internal_strconv_uint64pow10), ("unicode/utf8.acceptRanges", Rows.laid_unicode_utf8_acceptRanges), ("bollard/api.ErrParams", Rows.laid_bollard_api_ErrParams), ("bollard/api.ErrNumber", Rows.laid_bollard_api_ErrNumber), ("bollard/api.ErrData", Rows.laid_bollard_api_ErrData), ("bollard/api.ErrLost", Rows.laid_bollard_api_ErrLost), ("bollard/api.ErrBytes", Rows.laid_bollard_api_ErrBytes), ("bollard/api.ErrDigest", Rows.laid_bollard_api_ErrDigest), ("bollard/api.ErrName", Rows.laid_bollard_api_ErrName), ("bollard/api.ErrGone", Rows.laid_bollard_api_ErrGone), ("bollard/api.ErrThere", Rows.laid_bollard_api_ErrThere), ("bollard/api.ErrFull", Rows.laid_bollard_api_ErrFull), ("bollard/api.ErrLarge", Rows.laid_bollard_api_ErrLarge), ("bollard/api.ErrBallot", Rows.laid_bollard_api_ErrBallot), ("bollard/api.ErrRequest", Rows.laid_bollard_api_ErrRequest), ("bollard/api.ErrUri", Rows.laid_bollard_api_ErrUri), ("bollard/api.ErrDenied", Rows.laid_bollard_api_ErrDenied), ("bollard/api.ErrSkew", Rows.laid_bollard_api_ErrSkew), ("bollard/api.ErrMethod", Rows.laid_bollard_api_ErrMethod), ("bollard/api.ErrState", Rows.laid_bollard_api_ErrState), ("strconv.ErrRange", Rows.laid_strconv_ErrRange), ("strconv.ErrSyntax", Rows.laid_strconv_ErrSyntax), ("unicode/utf8.first", Rows.laid_unicode_utf8_first)] = true := by
  unfold Program.listedFits
  rw [noOwnUnsafe]
  kernel_rfl
theorem tie : Tryz.prog.laidByTextLater [("math/bits.deBruijn32tab", Rows.laid_math_bits_deBruijn32tab), ("math/bits.deBruijn64tab", Rows.laid_math_bits_deBruijn64tab), ("internal/strconv.uint64pow10", Rows.laid_internal_strconv_uint64pow10), ("unicode/utf8.acceptRanges", Rows.laid_unicode_utf8_acceptRanges), ("bollard/api.ErrParams", Rows.laid_bollard_api_ErrParams), ("bollard/api.ErrNumber", Rows.laid_bollard_api_ErrNumber), ("bollard/api.ErrData", Rows.laid_bollard_api_ErrData), ("bollard/api.ErrLost", Rows.laid_bollard_api_ErrLost), ("bollard/api.ErrBytes", Rows.laid_bollard_api_ErrBytes), ("bollard/api.ErrDigest", Rows.laid_bollard_api_ErrDigest), ("bollard/api.ErrName", Rows.laid_bollard_api_ErrName), ("bollard/api.ErrGone", Rows.laid_bollard_api_ErrGone), ("bollard/api.ErrThere", Rows.laid_bollard_api_ErrThere), ("bollard/api.ErrFull", Rows.laid_bollard_api_ErrFull), ("bollard/api.ErrLarge", Rows.laid_bollard_api_ErrLarge), ("bollard/api.ErrBallot", Rows.laid_bollard_api_ErrBallot), ("bollard/api.ErrRequest", Rows.laid_bollard_api_ErrRequest), ("bollard/api.ErrUri", Rows.laid_bollard_api_ErrUri), ("bollard/api.ErrDenied", Rows.laid_bollard_api_ErrDenied), ("bollard/api.ErrSkew", Rows.laid_bollard_api_ErrSkew), ("bollard/api.ErrMethod", Rows.laid_bollard_api_ErrMethod), ("bollard/api.ErrState", Rows.laid_bollard_api_ErrState), ("strconv.ErrRange", Rows.laid_strconv_ErrRange), ("strconv.ErrSyntax", Rows.laid_strconv_ErrSyntax)] [.data, .data, .data, .data, .sentinel, .sentinel, .sentinel, .sentinel, .sentinel, .sentinel, .sentinel, .sentinel, .sentinel, .sentinel, .sentinel, .sentinel, .sentinel, .sentinel, .sentinel, .sentinel, .sentinel, .sentinel, .sentinel, .sentinel] true :=
  Program.laidByTextLater.sub seatTie1 ["math/bits.deBruijn32tab", "math/bits.deBruijn64tab", "internal/strconv.uint64pow10", "unicode/utf8.acceptRanges", "bollard/api.ErrParams", "bollard/api.ErrNumber", "bollard/api.ErrData", "bollard/api.ErrLost", "bollard/api.ErrBytes", "bollard/api.ErrDigest", "bollard/api.ErrName", "bollard/api.ErrGone", "bollard/api.ErrThere", "bollard/api.ErrFull", "bollard/api.ErrLarge", "bollard/api.ErrBallot", "bollard/api.ErrRequest", "bollard/api.ErrUri", "bollard/api.ErrDenied", "bollard/api.ErrSkew", "bollard/api.ErrMethod", "bollard/api.ErrState", "strconv.ErrRange", "strconv.ErrSyntax"] (by kernel_rfl) (by kernel_rfl)
theorem httpParses_row_tie : Rows.httpParsesRow.laidByTextAt .later Tryz.pinned [.data, .data, .data, .data, .sentinel, .sentinel, .sentinel, .sentinel, .sentinel, .sentinel, .sentinel, .sentinel, .sentinel, .sentinel, .sentinel, .sentinel, .sentinel, .sentinel, .sentinel, .sentinel, .sentinel, .sentinel, .sentinel, .sentinel, .pinned] true :=
  OpenClaim.laidByTextAt_pinned rfl rfl tie rfl rfl rfl rfl (fun y hy _e => by
    simp only [Rows.httpParsesRow, List.zip_cons_cons, List.zip_nil_right, List.mem_cons, List.mem_nil_iff, or_false] at hy
    rcases hy with rfl | rfl | rfl | rfl | rfl | rfl | rfl | rfl | rfl | rfl | rfl | rfl | rfl | rfl | rfl | rfl | rfl | rfl | rfl | rfl | rfl | rfl | rfl | rfl | rfl
    · cases _e
    · cases _e
    · cases _e
    · cases _e
    · cases _e
    · cases _e
    · cases _e
    · cases _e
    · cases _e
    · cases _e
    · cases _e
    · cases _e
    · cases _e
    · cases _e
    · cases _e
    · cases _e
    · cases _e
    · cases _e
    · cases _e
    · cases _e
    · cases _e
    · cases _e
    · cases _e
    · cases _e
    · exact ⟨pin_laid_unicode_utf8_first, by kernel_rfl⟩) fits1
theorem httpParsesUpto_row_tie : Rows.httpParsesUptoRow.laidByTextAt .later Tryz.pinned [.data, .data, .data, .data, .sentinel, .sentinel, .sentinel, .sentinel, .sentinel, .sentinel, .sentinel, .sentinel, .sentinel, .sentinel, .sentinel, .sentinel, .sentinel, .sentinel, .sentinel, .sentinel, .sentinel, .sentinel, .sentinel, .sentinel, .pinned] true :=
  OpenClaim.laidByTextAt_pinned rfl rfl tie rfl rfl rfl rfl (fun y hy _e => by
    simp only [Rows.httpParsesUptoRow, List.zip_cons_cons, List.zip_nil_right, List.mem_cons, List.mem_nil_iff, or_false] at hy
    rcases hy with rfl | rfl | rfl | rfl | rfl | rfl | rfl | rfl | rfl | rfl | rfl | rfl | rfl | rfl | rfl | rfl | rfl | rfl | rfl | rfl | rfl | rfl | rfl | rfl | rfl
    · cases _e
    · cases _e
    · cases _e
    · cases _e
    · cases _e
    · cases _e
    · cases _e
    · cases _e
    · cases _e
    · cases _e
    · cases _e
    · cases _e
    · cases _e
    · cases _e
    · cases _e
    · cases _e
    · cases _e
    · cases _e
    · cases _e
    · cases _e
    · cases _e
    · cases _e
    · cases _e
    · cases _e
    · exact ⟨pin_laid_unicode_utf8_first, by kernel_rfl⟩) fits1
end Go.Proofs.YtnhjbcjeeilicaaGreatDoor
