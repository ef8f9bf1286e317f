/-
  The laws on routes: alive. (Printed by mkalive21.py.) The listed variables of rows that list the eleven errors of the route. (Printed by mkrtz.py.)
-/
import Derived.Test.YtidflagmdabfaaaGreatDoorSg23
import Derived.Test.YtidflagmdabfaaaGreatDoorRo04
import Derived.Test.YtidflagmdabfaaaGreatDoorRo05
namespace Go.Proofs.YtidflagmdabfaaaGreatDoor.RtI
open Go.RowKit Go.Proofs.YtidflagmdabfaaaGreatDoor Go.Proofs.YtidflagmdabfaaaGreatDoor.HtW Go.Proofs.YtidflagmdabfaaaGreatDoor.IsE Go.Proofs.YtidflagmdabfaaaGreatDoor.RtB

/-- what package route's calls ask of a world -/
structure Env (w : World) (aU : Addr) (es : List Addr) : Prop where
  uri : UriC.EU w aU
  mx : UriB.Mx w
  tab : Itoa.Tab w
  sm : Sm R11 w es
theorem Env.below {w w' : World} {aU : Addr} {es : List Addr} (h : Env w aU es) (hb : Below w.heap.size w w') : Env w' aU es :=
  ⟨h.uri.below hb, h.mx.below hb, h.tab.below hb, h.sm.below hb⟩
theorem parse_aaa : Up.parse [47, 97, 97, 97] = some ⟨47 :: [97, 97, 97], []⟩ := by kernel_rfl
theorem good_aaa : RtC.goodB [97, 97, 97] = true := by decide +kernel

theorem status_of (z : Int) (b c : Value) (w : World) : (Instr.field 56 (.agg #[.int .i64 z, b, c]) 0).run Tryz.prog w = .ok (.int .i64 z) w := by kernel_rfl

set_option maxHeartbeats 4000000 in
set_option maxRecDepth 100000 in
theorem alive (w : World) {aU : Addr} {es : List Addr} (hE : Env w aU es) :
    Calls Tryz.prog 14 #[] w fun e w' => e = .returned (.bool true) ∧ Below w.heap.size w w' := by
  have E := Lib.hid hE; clear hE
  have KP := Lib.hid (RtH.parseMake [47, 97, 97, 97] [97, 97, 97] [] 0 0 1 7 none none 0 0 0 0 w E.out.uri E.out.mx (by decide) parse_aaa good_aaa (by decide) rfl (by decide))
  have h1c : (#[.int .i64 1, .int .i64 1, .int .i64 0, .int .i64 0, .int .i64 1, .string ⟨#[97, 97, 97]⟩, .string ⟨#[]⟩, .int .i64 0, .int .i64 0, .int .i64 0, .int .i64 0, .int .i64 0, .int .i64 0, .int .i64 0, .string ⟨#[]⟩, .int .i64 0, .slice none 0 0, .int .i64 7, .int .i64 0, .string ⟨#[]⟩, .string ⟨#[]⟩, .string ⟨#[]⟩, .string ⟨#[]⟩, .string ⟨#[]⟩, .int .i64 0, .int .i64 0, .int .i64 0, .bool false, .int .i64 0, .int .i64 0, .int .i64 0] : Array Value).all (·.oneCell') = true := by simp [Value.oneCell']
  have his : (Tryz.prog.info? 37).map (·.size) = some (#[.int .i64 1, .int .i64 1, .int .i64 0, .int .i64 0, .int .i64 1, .string ⟨#[97, 97, 97]⟩, .string ⟨#[]⟩, .int .i64 0, .int .i64 0, .int .i64 0, .int .i64 0, .int .i64 0, .int .i64 0, .int .i64 0, .string ⟨#[]⟩, .int .i64 0, .slice none 0 0, .int .i64 7, .int .i64 0, .string ⟨#[]⟩, .string ⟨#[]⟩, .string ⟨#[]⟩, .string ⟨#[]⟩, .string ⟨#[]⟩, .int .i64 0, .int .i64 0, .int .i64 0, .bool false, .int .i64 0, .int .i64 0, .int .i64 0] : Array Value).size := by kernel_rfl
  go_enter Tryz.func14, Tryz.ntmps14
  go_wp2_with fail
  refine KP.out.mono ?_
  rintro e w1 ⟨rfl, hb1⟩
  go_upto_region 2 with (guard_target =~ wpList _ _ _ ({ dst := _, op := Op.store 37 _ _, type := _, pos := _, after := _, guard := none } :: _) _ _; refine wpList_store_row rfl 37 (.tmp 1) (.tmp 7) rfl w1.heap.size #[.int .i64 1, .int .i64 1, .int .i64 0, .int .i64 0, .int .i64 1, .string ⟨#[97, 97, 97]⟩, .string ⟨#[]⟩, .int .i64 0, .int .i64 0, .int .i64 0, .int .i64 0, .int .i64 0, .int .i64 0, .int .i64 0, .string ⟨#[]⟩, .int .i64 0, .slice none 0 0, .int .i64 7, .int .i64 0, .string ⟨#[]⟩, .string ⟨#[]⟩, .string ⟨#[]⟩, .string ⟨#[]⟩, .string ⟨#[]⟩, .int .i64 0, .int .i64 0, .int .i64 0, .bool false, .int .i64 0, .int .i64 0, .int .i64 0] rfl rfl _ _ (heap_alloc_new _ _) his rfl h1c ?_)
  obtain ⟨w2, hw2, hq2, hb2⟩ : ∃ w2, w2 = (w1.alloc (.cells #[.int .i64 0, .int .i64 0, .int .i64 0, .int .i64 0, .int .i64 0, .string ⟨#[]⟩, .string ⟨#[]⟩, .int .i64 0, .int .i64 0, .int .i64 0, .int .i64 0, .int .i64 0, .int .i64 0, .int .i64 0, .string ⟨#[]⟩, .int .i64 0, .slice none 0 0, .int .i64 0, .int .i64 0, .string ⟨#[]⟩, .string ⟨#[]⟩, .string ⟨#[]⟩, .string ⟨#[]⟩, .string ⟨#[]⟩, .int .i64 0, .int .i64 0, .int .i64 0, .bool false, .int .i64 0, .int .i64 0, .int .i64 0] 37)).setRow w1.heap.size #[.int .i64 1, .int .i64 1, .int .i64 0, .int .i64 0, .int .i64 1, .string ⟨#[97, 97, 97]⟩, .string ⟨#[]⟩, .int .i64 0, .int .i64 0, .int .i64 0, .int .i64 0, .int .i64 0, .int .i64 0, .int .i64 0, .string ⟨#[]⟩, .int .i64 0, .slice none 0 0, .int .i64 7, .int .i64 0, .string ⟨#[]⟩, .string ⟨#[]⟩, .string ⟨#[]⟩, .string ⟨#[]⟩, .string ⟨#[]⟩, .int .i64 0, .int .i64 0, .int .i64 0, .bool false, .int .i64 0, .int .i64 0, .int .i64 0] ∧ w2.heap[w1.heap.size]? = some (.cells #[.int .i64 1, .int .i64 1, .int .i64 0, .int .i64 0, .int .i64 1, .string ⟨#[97, 97, 97]⟩, .string ⟨#[]⟩, .int .i64 0, .int .i64 0, .int .i64 0, .int .i64 0, .int .i64 0, .int .i64 0, .int .i64 0, .string ⟨#[]⟩, .int .i64 0, .slice none 0 0, .int .i64 7, .int .i64 0, .string ⟨#[]⟩, .string ⟨#[]⟩, .string ⟨#[]⟩, .string ⟨#[]⟩, .string ⟨#[]⟩, .int .i64 0, .int .i64 0, .int .i64 0, .bool false, .int .i64 0, .int .i64 0, .int .i64 0] 37 (0, 0)) ∧ Below w1.heap.size w1 w2 := ⟨_, rfl, ShaB.heap_setRow _ (heap_alloc_new _ _), ShaB.below_row ((Below.refl _ _).alloc (Nat.le_refl _) _) (Nat.le_refl _) _⟩
  rw [← hw2]
  have HB2 := Lib.hid (hb1.trans (hb2.mono hb1.size))
  clear hw2 hb2 h1c his KP
  obtain ⟨N1, hN1⟩ : ∃ N1, N1 = w1.heap.size := ⟨_, rfl⟩
  rw [← hN1] at hq2 ⊢
  clear hN1
  have x0 : w2.cell? ⟨N1, 0, none⟩ = some (.int .i64 1) := by rw [Lib.cell_of_heap hq2]; rfl
  have x1 : w2.cell? ⟨N1, 1, none⟩ = some (.int .i64 1) := by rw [Lib.cell_of_heap hq2]; rfl
  have x5 : w2.cell? ⟨N1, 5, none⟩ = some (.string ⟨#[97, 97, 97]⟩) := by rw [Lib.cell_of_heap hq2]; rfl
  have x17 : w2.cell? ⟨N1, 17, none⟩ = some (.int .i64 7) := by rw [Lib.cell_of_heap hq2]; rfl
  clear hq2
  obtain ⟨t15, g15, a15, k1, k2, k3, k4⟩ := (E.out.below HB2.out).sm.at (i := 15) (by decide) (by decide)
  cases k1
  cases k2
  have c15 := k4.cell
  have KR := Lib.hid (refuse15 (E.out.below HB2.out).sm k3)
  clear k3 k4
  go_wp2_with fail
  refine KR.out.mono ?_
  rintro e w3 ⟨⟨aF, cF, rfl, -, -⟩, hb3⟩
  have hst := status_of 403
  go_wp2_with fail
  go_ret
  exact ⟨rfl, HB2.out.trans (hb3.mono HB2.out.size)⟩
end Go.Proofs.YtidflagmdabfaaaGreatDoor.RtI
namespace Go.Proofs.YtidflagmdabfaaaGreatDoor.RtZ
open Go.ChangeShapes Go.WideShapes Go.ChangeAt Go.RowKit Go.Proofs.YtidflagmdabfaaaGreatDoor Go.Proofs.YtidflagmdabfaaaGreatDoor.Ht Go.Proofs.YtidflagmdabfaaaGreatDoor.HtW

theorem tab {W : World} (h : laidMetH Tryz.prog Rows.routeRangesRow.laid W) : Itoa.Tab W := by
  rw [MakeChecks.laidMetH_plain _ _ _ (by kernel_rfl)] at h
  refine Lib.tabIs_of_head (rest := Rows.routeRangesRow.laid.drop 3) Itoa.tabNum SgR.tabType Tryz.underlying262 Tryz.underlying221 SgR.cellsU64 SgR.cellsTab ?_
  exact laidMet.tail (laidMet.tail h)
theorem er1 {W : World} (h : laidMet Tryz.prog Rows.routeRangesRow.laid W) : ∃ a, Err.Er W 1 (Err.texts[1]'(by decide)) a := by
  obtain ⟨r, hr⟩ := SgR.laid_at 4 _ _ h rfl
  exact SgR.laid_sentinel2 hr (by kernel_rfl) (by kernel_rfl)
theorem er2 {W : World} (h : laidMet Tryz.prog Rows.routeRangesRow.laid W) : ∃ a, Err.Er W 2 (Err.texts[2]'(by decide)) a := by
  obtain ⟨r, hr⟩ := SgR.laid_at 5 _ _ h rfl
  exact SgR.laid_sentinel2 hr (by kernel_rfl) (by kernel_rfl)
theorem er3 {W : World} (h : laidMet Tryz.prog Rows.routeRangesRow.laid W) : ∃ a, Err.Er W 3 (Err.texts[3]'(by decide)) a := by
  obtain ⟨r, hr⟩ := SgR.laid_at 6 _ _ h rfl
  exact SgR.laid_sentinel2 hr (by kernel_rfl) (by kernel_rfl)
theorem er6 {W : World} (h : laidMet Tryz.prog Rows.routeRangesRow.laid W) : ∃ a, Err.Er W 6 (Err.texts[6]'(by decide)) a := by
  obtain ⟨r, hr⟩ := SgR.laid_at 7 _ _ h rfl
  exact SgR.laid_sentinel2 hr (by kernel_rfl) (by kernel_rfl)
theorem er9 {W : World} (h : laidMet Tryz.prog Rows.routeRangesRow.laid W) : ∃ a, Err.Er W 9 (Err.texts[9]'(by decide)) a := by
  obtain ⟨r, hr⟩ := SgR.laid_at 8 _ _ h rfl
  exact SgR.laid_sentinel2 hr (by kernel_rfl) (by kernel_rfl)
theorem er10 {W : World} (h : laidMet Tryz.prog Rows.routeRangesRow.laid W) : ∃ a, Err.Er W 10 (Err.texts[10]'(by decide)) a := by
  obtain ⟨r, hr⟩ := SgR.laid_at 9 _ _ h rfl
  exact SgR.laid_sentinel2 hr (by kernel_rfl) (by kernel_rfl)
theorem er12 {W : World} (h : laidMet Tryz.prog Rows.routeRangesRow.laid W) : ∃ a, Err.Er W 12 (Err.texts[12]'(by decide)) a := by
  obtain ⟨r, hr⟩ := SgR.laid_at 10 _ _ h rfl
  exact SgR.laid_sentinel2 hr (by kernel_rfl) (by kernel_rfl)
theorem er13 {W : World} (h : laidMet Tryz.prog Rows.routeRangesRow.laid W) : ∃ a, Err.Er W 13 (Err.texts[13]'(by decide)) a := by
  obtain ⟨r, hr⟩ := SgR.laid_at 11 _ _ h rfl
  exact SgR.laid_sentinel2 hr (by kernel_rfl) (by kernel_rfl)
theorem er14 {W : World} (h : laidMet Tryz.prog Rows.routeRangesRow.laid W) : ∃ a, Err.Er W 14 (Err.texts[14]'(by decide)) a := by
  obtain ⟨r, hr⟩ := SgR.laid_at 12 _ _ h rfl
  exact SgR.laid_sentinel2 hr (by kernel_rfl) (by kernel_rfl)
theorem er15 {W : World} (h : laidMet Tryz.prog Rows.routeRangesRow.laid W) : ∃ a, Err.Er W 15 (Err.texts[15]'(by decide)) a := by
  obtain ⟨r, hr⟩ := SgR.laid_at 13 _ _ h rfl
  exact SgR.laid_sentinel2 hr (by kernel_rfl) (by kernel_rfl)
theorem er16 {W : World} (h : laidMet Tryz.prog Rows.routeRangesRow.laid W) : ∃ a, Err.Er W 16 (Err.texts[16]'(by decide)) a := by
  obtain ⟨r, hr⟩ := SgR.laid_at 14 _ _ h rfl
  exact SgR.laid_sentinel2 hr (by kernel_rfl) (by kernel_rfl)
theorem sm {W : World} (h : laidMetH Tryz.prog Rows.routeRangesRow.laid W) : ∃ es aU, es[13]? = some aU ∧ IsE.Sm RtB.R11 W es := by
  rw [MakeChecks.laidMetH_plain _ _ _ (by kernel_rfl)] at h
  obtain ⟨a1, k1⟩ := er1 h
  obtain ⟨a2, k2⟩ := er2 h
  obtain ⟨a3, k3⟩ := er3 h
  obtain ⟨a6, k6⟩ := er6 h
  obtain ⟨a9, k9⟩ := er9 h
  obtain ⟨a10, k10⟩ := er10 h
  obtain ⟨a12, k12⟩ := er12 h
  obtain ⟨a13, k13⟩ := er13 h
  obtain ⟨a14, k14⟩ := er14 h
  obtain ⟨a15, k15⟩ := er15 h
  obtain ⟨a16, k16⟩ := er16 h
  refine ⟨[a1, a1, a2, a3, a1, a1, a6, a1, a1, a9, a10, a1, a12, a13, a14, a15, a16, a1], a13, rfl, rfl, fun i hi t g a h1 h2 h3 => ?_⟩
  match i, hi, h1, h2, h3 with
  | 0, hi, _, _, _ => simp [RtB.R11] at hi
  | 1, _, h1, h2, h3 => cases h1; cases h2; cases h3; exact k1
  | 2, _, h1, h2, h3 => cases h1; cases h2; cases h3; exact k2
  | 3, _, h1, h2, h3 => cases h1; cases h2; cases h3; exact k3
  | 4, hi, _, _, _ => simp [RtB.R11] at hi
  | 5, hi, _, _, _ => simp [RtB.R11] at hi
  | 6, _, h1, h2, h3 => cases h1; cases h2; cases h3; exact k6
  | 7, hi, _, _, _ => simp [RtB.R11] at hi
  | 8, hi, _, _, _ => simp [RtB.R11] at hi
  | 9, _, h1, h2, h3 => cases h1; cases h2; cases h3; exact k9
  | 10, _, h1, h2, h3 => cases h1; cases h2; cases h3; exact k10
  | 11, hi, _, _, _ => simp [RtB.R11] at hi
  | 12, _, h1, h2, h3 => cases h1; cases h2; cases h3; exact k12
  | 13, _, h1, h2, h3 => cases h1; cases h2; cases h3; exact k13
  | 14, _, h1, h2, h3 => cases h1; cases h2; cases h3; exact k14
  | 15, _, h1, h2, h3 => cases h1; cases h2; cases h3; exact k15
  | 16, _, h1, h2, h3 => cases h1; cases h2; cases h3; exact k16
  | 17, hi, _, _, _ => simp [RtB.R11] at hi
  | i + 18, _, h1, _, _ => simp [Err.texts] at h1
theorem env {W : World} (hl : laidMetH Tryz.prog Rows.routeRangesRow.laid W) (hs : W.ShapedOpen Tryz.prog) : ∃ es aU, es[13]? = some aU ∧ RtI.Env W aU es := by
  obtain ⟨es, aU, h13, h⟩ := sm hl
  obtain ⟨t, g, a, x1, x2, x3, k⟩ := h.at (i := 13) (by decide) (by decide)
  obtain rfl : a = aU := Option.some.inj (x3.symm.trans h13)
  cases x2
  exact ⟨es, a, h13, k.cell, SgR.mx hs, tab hl, h⟩
/-- a world in which all that is listed lies -/
noncomputable def w0 (os : Os) : World := World.laidAll Tryz.prog os Rows.routeRangesRow.laid
theorem w0_os (os : Os) : (w0 os).os = os := World.laidAll_os _ _ _
theorem w0_met (os : Os) (args : Array Value) : laidMetH Tryz.prog Rows.routeRangesRow.laid ((w0 os).forCall (fun _ _ => 0) ⟨#[], args, []⟩).memory := by
  rw [MakeChecks.laidMetH_plain _ _ _ (by kernel_rfl)]
  exact laidMet_laidAll _ (by kernel_rfl) (by kernel_rfl)
end Go.Proofs.YtidflagmdabfaaaGreatDoor.RtZ
