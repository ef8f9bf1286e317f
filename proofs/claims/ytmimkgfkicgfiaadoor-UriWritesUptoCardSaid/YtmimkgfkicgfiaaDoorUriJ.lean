/-
  What the rows on targets share: the listed error; a world in which all that is listed lies.
-/
import Derived.Test.YtmimkgfkicgfiaaDoorRowKit
import Derived.Test.YtmimkgfkicgfiaaDoorUriC
import Derived.Test.YtmimkgfkicgfiaaDoorCards
import Derived.Test.YtmimkgfkicgfiaaDoorTie
import Derived.Deep.DeepHandedRow
import Derived.Stop.LaidErr
import Derived.Deep.DeepWitnessRowRef
import Derived.LaidMore
import Derived.Lay
namespace Go.Proofs.YtmimkgfkicgfiaaDoor.UriJ
open Go.ChangeShapes Go.WideShapes Go.ChangeAt Go.RowKit Go.Proofs.YtmimkgfkicgfiaaDoor

theorem okWide_bool {P : Program} {w : World} {r : Reach} {base : Nat} {t : TypeId} {v : Value} (ht : P.underlying t = some .bool) (h : Value.okWide P w r base t v) : ∃ b, v = .bool b := by
  simp only [Value.okWide, ht, Cell.okWide] at h
  cases v <;> simp_all [Cell.ok]
theorem star : "*" ++ "errors.errorString" = "*errors.errorString" := by decide
theorem row (u : TypeId) (h : Tryd.prog.typeName? 3 u = some "*errors.errorString") : u = 233 :=
  typeName_ptr_named (nm := "errors.errorString") (by rw [star]; kernel_rfl) (by kernel_rfl) (by decide) u (by rw [star]; exact h)
theorem gU : Tryd.prog.globalNamed "bollard/api.ErrUri" = some 0 := by kernel_rfl
theorem tU : (Tryd.prog.globals[0]?).map (·.type) = some 27 := by kernel_rfl
theorem cS : Tryd.prog.cellsOf 235 = 1 := by kernel_rfl
theorem cT : Tryd.prog.cellsOf 9 = 1 := by kernel_rfl
theorem eu {W : World} (h : laidMetH Tryd.prog Rows.uriPlainRow.laid W) : ∃ aU, UriC.EU W aU := by
  rw [MakeChecks.laidMetH_plain _ _ _ (by kernel_rfl)] at h
  obtain ⟨a0, s0, h0, _⟩ := laid_sentinel (laidMet.tail h) gU tU Tryd.underlying27 row Tryd.underlying233 Tryd.underlying235 rfl rfl Tryd.underlying9 cS cT
  exact ⟨a0, by unfold UriC.EU; simpa using World.var?_cell gU h0 0⟩

/-- a world in which all that is listed lies -/
noncomputable def w0 (os : Os) : World := World.laidAll Tryd.prog os Rows.uriPlainRow.laid
theorem w0_os (os : Os) : (w0 os).os = os := World.laidAll_os _ _ _
theorem w0_met (os : Os) (args : Array Value) : laidMetH Tryd.prog Rows.uriPlainRow.laid ((w0 os).forCall (fun _ _ => 0) ⟨#[], args, []⟩).memory := by
  rw [MakeChecks.laidMetH_plain _ _ _ (by kernel_rfl)]
  exact laidMet_laidAll _ (by kernel_rfl) (by kernel_rfl)
end Go.Proofs.YtmimkgfkicgfiaaDoor.UriJ
