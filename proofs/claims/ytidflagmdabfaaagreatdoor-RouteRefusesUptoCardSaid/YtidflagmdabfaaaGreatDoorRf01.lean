/-
  The listed variables of rows that list all eighteen errors. (Printed by mksgz.py.)
-/
import Derived.Test.YtidflagmdabfaaaGreatDoorSg23
namespace Go.Proofs.YtidflagmdabfaaaGreatDoor.SgZ
open Go.ChangeShapes Go.WideShapes Go.ChangeAt Go.RowKit Go.Proofs.YtidflagmdabfaaaGreatDoor Go.Proofs.YtidflagmdabfaaaGreatDoor.Ht Go.Proofs.YtidflagmdabfaaaGreatDoor.HtW

theorem tab {W : World} (h : laidMetH Tryz.prog Rows.sigSignsRow.laid W) : Itoa.Tab W := by
  rw [MakeChecks.laidMetH_plain _ _ _ (by kernel_rfl)] at h
  refine Lib.tabIs_of_head (rest := Rows.sigSignsRow.laid.drop 3) Itoa.tabNum SgR.tabType Tryz.underlying262 Tryz.underlying221 SgR.cellsU64 SgR.cellsTab ?_
  exact laidMet.tail (laidMet.tail h)
theorem er0 {W : World} (h : laidMet Tryz.prog Rows.sigSignsRow.laid W) : ∃ a, Err.Er W 0 (Err.texts[0]'(by decide)) a := by
  obtain ⟨r, hr⟩ := SgR.laid_at 4 _ _ h rfl
  exact SgR.laid_sentinel2 hr (by kernel_rfl) (by kernel_rfl)
theorem er1 {W : World} (h : laidMet Tryz.prog Rows.sigSignsRow.laid W) : ∃ a, Err.Er W 1 (Err.texts[1]'(by decide)) a := by
  obtain ⟨r, hr⟩ := SgR.laid_at 5 _ _ h rfl
  exact SgR.laid_sentinel2 hr (by kernel_rfl) (by kernel_rfl)
theorem er2 {W : World} (h : laidMet Tryz.prog Rows.sigSignsRow.laid W) : ∃ a, Err.Er W 2 (Err.texts[2]'(by decide)) a := by
  obtain ⟨r, hr⟩ := SgR.laid_at 6 _ _ h rfl
  exact SgR.laid_sentinel2 hr (by kernel_rfl) (by kernel_rfl)
theorem er3 {W : World} (h : laidMet Tryz.prog Rows.sigSignsRow.laid W) : ∃ a, Err.Er W 3 (Err.texts[3]'(by decide)) a := by
  obtain ⟨r, hr⟩ := SgR.laid_at 7 _ _ h rfl
  exact SgR.laid_sentinel2 hr (by kernel_rfl) (by kernel_rfl)
theorem er4 {W : World} (h : laidMet Tryz.prog Rows.sigSignsRow.laid W) : ∃ a, Err.Er W 4 (Err.texts[4]'(by decide)) a := by
  obtain ⟨r, hr⟩ := SgR.laid_at 8 _ _ h rfl
  exact SgR.laid_sentinel2 hr (by kernel_rfl) (by kernel_rfl)
theorem er5 {W : World} (h : laidMet Tryz.prog Rows.sigSignsRow.laid W) : ∃ a, Err.Er W 5 (Err.texts[5]'(by decide)) a := by
  obtain ⟨r, hr⟩ := SgR.laid_at 9 _ _ h rfl
  exact SgR.laid_sentinel2 hr (by kernel_rfl) (by kernel_rfl)
theorem er6 {W : World} (h : laidMet Tryz.prog Rows.sigSignsRow.laid W) : ∃ a, Err.Er W 6 (Err.texts[6]'(by decide)) a := by
  obtain ⟨r, hr⟩ := SgR.laid_at 10 _ _ h rfl
  exact SgR.laid_sentinel2 hr (by kernel_rfl) (by kernel_rfl)
theorem er7 {W : World} (h : laidMet Tryz.prog Rows.sigSignsRow.laid W) : ∃ a, Err.Er W 7 (Err.texts[7]'(by decide)) a := by
  obtain ⟨r, hr⟩ := SgR.laid_at 11 _ _ h rfl
  exact SgR.laid_sentinel2 hr (by kernel_rfl) (by kernel_rfl)
theorem er8 {W : World} (h : laidMet Tryz.prog Rows.sigSignsRow.laid W) : ∃ a, Err.Er W 8 (Err.texts[8]'(by decide)) a := by
  obtain ⟨r, hr⟩ := SgR.laid_at 12 _ _ h rfl
  exact SgR.laid_sentinel2 hr (by kernel_rfl) (by kernel_rfl)
theorem er9 {W : World} (h : laidMet Tryz.prog Rows.sigSignsRow.laid W) : ∃ a, Err.Er W 9 (Err.texts[9]'(by decide)) a := by
  obtain ⟨r, hr⟩ := SgR.laid_at 13 _ _ h rfl
  exact SgR.laid_sentinel2 hr (by kernel_rfl) (by kernel_rfl)
theorem er10 {W : World} (h : laidMet Tryz.prog Rows.sigSignsRow.laid W) : ∃ a, Err.Er W 10 (Err.texts[10]'(by decide)) a := by
  obtain ⟨r, hr⟩ := SgR.laid_at 14 _ _ h rfl
  exact SgR.laid_sentinel2 hr (by kernel_rfl) (by kernel_rfl)
theorem er11 {W : World} (h : laidMet Tryz.prog Rows.sigSignsRow.laid W) : ∃ a, Err.Er W 11 (Err.texts[11]'(by decide)) a := by
  obtain ⟨r, hr⟩ := SgR.laid_at 15 _ _ h rfl
  exact SgR.laid_sentinel2 hr (by kernel_rfl) (by kernel_rfl)
theorem er12 {W : World} (h : laidMet Tryz.prog Rows.sigSignsRow.laid W) : ∃ a, Err.Er W 12 (Err.texts[12]'(by decide)) a := by
  obtain ⟨r, hr⟩ := SgR.laid_at 16 _ _ h rfl
  exact SgR.laid_sentinel2 hr (by kernel_rfl) (by kernel_rfl)
theorem er13 {W : World} (h : laidMet Tryz.prog Rows.sigSignsRow.laid W) : ∃ a, Err.Er W 13 (Err.texts[13]'(by decide)) a := by
  obtain ⟨r, hr⟩ := SgR.laid_at 17 _ _ h rfl
  exact SgR.laid_sentinel2 hr (by kernel_rfl) (by kernel_rfl)
theorem er14 {W : World} (h : laidMet Tryz.prog Rows.sigSignsRow.laid W) : ∃ a, Err.Er W 14 (Err.texts[14]'(by decide)) a := by
  obtain ⟨r, hr⟩ := SgR.laid_at 18 _ _ h rfl
  exact SgR.laid_sentinel2 hr (by kernel_rfl) (by kernel_rfl)
theorem er15 {W : World} (h : laidMet Tryz.prog Rows.sigSignsRow.laid W) : ∃ a, Err.Er W 15 (Err.texts[15]'(by decide)) a := by
  obtain ⟨r, hr⟩ := SgR.laid_at 19 _ _ h rfl
  exact SgR.laid_sentinel2 hr (by kernel_rfl) (by kernel_rfl)
theorem er16 {W : World} (h : laidMet Tryz.prog Rows.sigSignsRow.laid W) : ∃ a, Err.Er W 16 (Err.texts[16]'(by decide)) a := by
  obtain ⟨r, hr⟩ := SgR.laid_at 20 _ _ h rfl
  exact SgR.laid_sentinel2 hr (by kernel_rfl) (by kernel_rfl)
theorem er17 {W : World} (h : laidMet Tryz.prog Rows.sigSignsRow.laid W) : ∃ a, Err.Er W 17 (Err.texts[17]'(by decide)) a := by
  obtain ⟨r, hr⟩ := SgR.laid_at 21 _ _ h rfl
  exact SgR.laid_sentinel2 hr (by kernel_rfl) (by kernel_rfl)
theorem all {W : World} (h : laidMetH Tryz.prog Rows.sigSignsRow.laid W) : ∃ es, Err.All W es := by
  rw [MakeChecks.laidMetH_plain _ _ _ (by kernel_rfl)] at h
  obtain ⟨a0, k0⟩ := er0 h
  obtain ⟨a1, k1⟩ := er1 h
  obtain ⟨a2, k2⟩ := er2 h
  obtain ⟨a3, k3⟩ := er3 h
  obtain ⟨a4, k4⟩ := er4 h
  obtain ⟨a5, k5⟩ := er5 h
  obtain ⟨a6, k6⟩ := er6 h
  obtain ⟨a7, k7⟩ := er7 h
  obtain ⟨a8, k8⟩ := er8 h
  obtain ⟨a9, k9⟩ := er9 h
  obtain ⟨a10, k10⟩ := er10 h
  obtain ⟨a11, k11⟩ := er11 h
  obtain ⟨a12, k12⟩ := er12 h
  obtain ⟨a13, k13⟩ := er13 h
  obtain ⟨a14, k14⟩ := er14 h
  obtain ⟨a15, k15⟩ := er15 h
  obtain ⟨a16, k16⟩ := er16 h
  obtain ⟨a17, k17⟩ := er17 h
  refine ⟨[a0, a1, a2, a3, a4, a5, a6, a7, a8, a9, a10, a11, a12, a13, a14, a15, a16, a17], rfl, fun i t g a h1 h2 h3 => ?_⟩
  match i, h1, h2, h3 with
  | 0, h1, h2, h3 => cases h1; cases h2; cases h3; exact k0
  | 1, h1, h2, h3 => cases h1; cases h2; cases h3; exact k1
  | 2, h1, h2, h3 => cases h1; cases h2; cases h3; exact k2
  | 3, h1, h2, h3 => cases h1; cases h2; cases h3; exact k3
  | 4, h1, h2, h3 => cases h1; cases h2; cases h3; exact k4
  | 5, h1, h2, h3 => cases h1; cases h2; cases h3; exact k5
  | 6, h1, h2, h3 => cases h1; cases h2; cases h3; exact k6
  | 7, h1, h2, h3 => cases h1; cases h2; cases h3; exact k7
  | 8, h1, h2, h3 => cases h1; cases h2; cases h3; exact k8
  | 9, h1, h2, h3 => cases h1; cases h2; cases h3; exact k9
  | 10, h1, h2, h3 => cases h1; cases h2; cases h3; exact k10
  | 11, h1, h2, h3 => cases h1; cases h2; cases h3; exact k11
  | 12, h1, h2, h3 => cases h1; cases h2; cases h3; exact k12
  | 13, h1, h2, h3 => cases h1; cases h2; cases h3; exact k13
  | 14, h1, h2, h3 => cases h1; cases h2; cases h3; exact k14
  | 15, h1, h2, h3 => cases h1; cases h2; cases h3; exact k15
  | 16, h1, h2, h3 => cases h1; cases h2; cases h3; exact k16
  | 17, h1, h2, h3 => cases h1; cases h2; cases h3; exact k17
  | i + 18, h1, _, _ => simp [Err.texts] at h1


theorem env {W : World} (hl : laidMetH Tryz.prog Rows.sigSignsRow.laid W) (hs : W.ShapedOpen Tryz.prog) : ∃ es aU aR aD aK, Err.All W es ∧ es[12]? = some aR ∧ es[13]? = some aU ∧ es[14]? = some aD ∧ es[15]? = some aK ∧ SgB.Env W aU aR aD aK := by
  obtain ⟨es, h⟩ := all hl
  obtain ⟨t1, g1, aR, x1, y1, z1, k1⟩ := h.at (i := 12) (by decide)
  obtain ⟨t2, g2, aU, x2, y2, z2, k2⟩ := h.at (i := 13) (by decide)
  obtain ⟨t3, g3, aD, x3, y3, z3, k3⟩ := h.at (i := 14) (by decide)
  obtain ⟨t4, g4, aK, x4, y4, z4, k4⟩ := h.at (i := 15) (by decide)
  cases y1; cases y2; cases y3; cases y4
  exact ⟨es, aU, aR, aD, aK, h, z1, z2, z3, z4, k2.cell, k1.cell, k3.cell, k4.cell, SgR.mx hs, tab hl⟩
theorem ne {W : World} (hl : laidMetH Tryz.prog Rows.sigSignsRow.laid W) : Ato.Ne W := by
  rw [MakeChecks.laidMetH_plain _ _ _ (by kernel_rfl)] at hl
  obtain ⟨r8, h8⟩ := SgR.laid_at 22 _ _ hl rfl
  obtain ⟨r9, h9⟩ := SgR.laid_at 23 _ _ hl rfl
  obtain ⟨aG, k8⟩ := SgR.laid_sentinel2 (g := 21) h8 (by kernel_rfl) (by kernel_rfl)
  obtain ⟨aS, k9⟩ := SgR.laid_sentinel2 (g := 20) h9 (by kernel_rfl) (by kernel_rfl)
  exact ⟨⟨_, _, k9.cell⟩, ⟨_, _, k8.cell⟩⟩
/-- a world in which all that is listed lies -/
noncomputable def w0 (os : Os) : World := World.laidAll Tryz.prog os Rows.sigSignsRow.laid
theorem w0_os (os : Os) : (w0 os).os = os := World.laidAll_os _ _ _
theorem w0_met (os : Os) (args : Array Value) : laidMetH Tryz.prog Rows.sigSignsRow.laid ((w0 os).forCall (fun _ _ => 0) ⟨#[], args, []⟩).memory := by
  rw [MakeChecks.laidMetH_plain _ _ _ (by kernel_rfl)]
  exact laidMet_laidAll _ (by kernel_rfl) (by kernel_rfl)
end Go.Proofs.YtidflagmdabfaaaGreatDoor.SgZ
