/-
  The walk of package route's Parse where a bucket is made. (Printed by mkaskd.py.)
-/
import Derived.Test.YtidflagmdabfaaaGreatDoorSg02
import Derived.Test.YtidflagmdabfaaaGreatDoorSg14
import Derived.Test.YtidflagmdabfaaaGreatDoorSg16
import Derived.Test.YtidflagmdabfaaaGreatDoorRo03
import Derived.Deep.MidRow
namespace Go.Proofs.YtidflagmdabfaaaGreatDoor.RtH
open Go.RowKit Go.Proofs.YtidflagmdabfaaaGreatDoor Go.Proofs.YtidflagmdabfaaaGreatDoor.RtD Go.Proofs.YtidflagmdabfaaaGreatDoor.RtE Go.Proofs.YtidflagmdabfaaaGreatDoor.RtF Go.Proofs.YtidflagmdabfaaaGreatDoor.HtC

/-- what is asked: that a bucket be made -/
abbrev askMake (i0 i1 i2 now : Int) (nm : List UInt8) : Value := .agg #[.int .i64 1, .int .i64 1, .int .i64 i0, .int .i64 i1, .int .i64 i2, .string ⟨nm.toArray⟩, .string ⟨#[]⟩, .int .i64 0, .int .i64 0, .int .i64 0, .int .i64 0, .int .i64 0, .int .i64 0, .int .i64 0, .string ⟨#[]⟩, .int .i64 0, .slice none 0 0, .int .i64 now, .int .i64 0, .string ⟨#[]⟩, .string ⟨#[]⟩, .string ⟨#[]⟩, .string ⟨#[]⟩, .string ⟨#[]⟩, .int .i64 0, .int .i64 0, .int .i64 0, .bool false, .int .i64 0, .int .i64 0, .int .i64 0]
theorem heap_at1 (w : World) (o : Obj) {o' : Obj} : ((w.alloc o').alloc o).heap[w.heap.size + 1]? = some o := by
  have := heap_alloc_new (w.alloc o') o
  rwa [World.size_alloc] at this
theorem ak_range {B : Nat} {w : World} {C : List Value} (h : Ak B w C) (i : Nat) : w.rangeAt B i (C.drop i) := fun j v hv => h.at (i + j) (by rwa [List.getElem?_drop] at hv)
theorem res_ask {w : World} {g : Nat} {C : Array Value} {fr : Nat × Nat} {er : Value} {fn : Func} {tmps : Array Value} (hg : w.heap[g]? = some (.cells C 37 fr)) (hs : C.size = 31) (e : fn.results = #[.cell 6 37, .tmp 7]) (h2 : tmps.getD 6 undef = .pointer (some ⟨g, 0, none⟩)) (h3 : tmps.getD 7 undef = er) :
    (results fn tmps).run Tryz.prog w = .ok (.tuple #[.agg C, er]) w := by
  rw [results_cell_tmp e, h2, h3]
  simp [asAddr, Result.andThen, run_loadVar_row w g 37 37 C fr _ hg Tryz.underlying37 rfl ((show (Tryz.prog.info? 37).map (·.size) = some 31 by kernel_rfl).trans (congrArg some hs.symm))]
theorem clip (w : World) : Calls Tryz.prog 45 #[.slice none 0 0] w fun e w' => e = .returned (.slice none 0 0) ∧ w = w' := by
  go_enter Tryz.func45, Tryz.ntmps45
  go_wp2_with fail
  go_ret
  exact ⟨rfl, rfl⟩
theorem way_put : Maps.has dBucket (.string [80, 85, 84]) = true ∧ dBucket.atKey (.string [80, 85, 84]) (.held .nilFunc) = .held (fnv 148) := by
  constructor <;> rfl

set_option maxHeartbeats 8000000 in
set_option maxRecDepth 100000 in
theorem parseMake (t nm : List UInt8) (ps : List (List UInt8 × List UInt8)) (i0 i1 i2 now : Int) (af ab : Option Addr) (fl cf bl cb : Nat) (w : World) {aU : Addr} (he : UriC.EU w aU) (hm : UriB.Mx w) (ht : t.length ≤ 16777216) (hP : Up.parse t = some ⟨47 :: nm, ps⟩) (hg : RtC.goodB nm = true) (h47 : (47 : UInt8) ∉ nm) (hd : UriQ.gt ps [100, 97, 121, 115] = none) (hl : ps.length ≤ 4294967296) :
    Calls Tryz.prog 17 #[.agg #[.string ⟨#[80, 85, 84]⟩, .string ⟨t.toArray⟩, .slice af fl cf, .slice ab bl cb], .agg #[.int .i64 i0, .int .i64 i1, .int .i64 i2], .int .i64 now] w fun e w' => e = .returned (.tuple #[askMake i0 i1 i2 now nm, .nilIface]) ∧ Below w.heap.size w w' := by
  obtain ⟨w3, hw3, hb3, hz3, hR3, hI3, hQ3⟩ : ∃ w3 : World, w3 = (((w.alloc (.cells #[.string ⟨#[80, 85, 84]⟩, .string ⟨t.toArray⟩, .slice af fl cf, .slice ab bl cb] 25)).alloc (.cells #[.int .i64 i0, .int .i64 i1, .int .i64 i2] 27)).alloc (.cells #[.int .i64 0, .int .i64 0, .int .i64 0, .int .i64 0, .int .i64 0, .string ⟨#[]⟩, .string ⟨#[]⟩, .int .i64 0, .int .i64 0, .int .i64 0, .int .i64 0, .int .i64 0, .int .i64 0, .int .i64 0, .string ⟨#[]⟩, .int .i64 0, .slice none 0 0, .int .i64 0, .int .i64 0, .string ⟨#[]⟩, .string ⟨#[]⟩, .string ⟨#[]⟩, .string ⟨#[]⟩, .string ⟨#[]⟩, .int .i64 0, .int .i64 0, .int .i64 0, .bool false, .int .i64 0, .int .i64 0, .int .i64 0] 37)) ∧ Below w.heap.size w w3 ∧ w3.heap.size = w.heap.size + 3 ∧ Rq w.heap.size w3 (.string ⟨#[80, 85, 84]⟩) (.string ⟨t.toArray⟩) (.slice af fl cf) (.slice ab bl cb) ∧ w3.heap[w.heap.size + 1]? = some (.cells #[.int .i64 i0, .int .i64 i1, .int .i64 i2] 27 (0, 0)) ∧ w3.heap[w.heap.size + 1 + 1]? = some (.cells #[.int .i64 0, .int .i64 0, .int .i64 0, .int .i64 0, .int .i64 0, .string ⟨#[]⟩, .string ⟨#[]⟩, .int .i64 0, .int .i64 0, .int .i64 0, .int .i64 0, .int .i64 0, .int .i64 0, .int .i64 0, .string ⟨#[]⟩, .int .i64 0, .slice none 0 0, .int .i64 0, .int .i64 0, .string ⟨#[]⟩, .string ⟨#[]⟩, .string ⟨#[]⟩, .string ⟨#[]⟩, .string ⟨#[]⟩, .int .i64 0, .int .i64 0, .int .i64 0, .bool false, .int .i64 0, .int .i64 0, .int .i64 0] 37 (0, 0)) := by
    refine ⟨_, rfl, (((Below.refl _ _).alloc (Nat.le_refl _) _).alloc (by simp) _).alloc (by simp; omega) _, by simp, (Below.heap_alloc _ _ _ (by simp; omega)).trans ((Below.heap_alloc _ _ _ (by simp)).trans (heap_alloc_new _ _)), (Below.heap_alloc _ _ _ (by simp)).trans (heap_at1 _ _), ?_⟩
    have := heap_alloc_new ((w.alloc (.cells #[.string ⟨#[80, 85, 84]⟩, .string ⟨t.toArray⟩, .slice af fl cf, .slice ab bl cb] 25)).alloc (.cells #[.int .i64 i0, .int .i64 i1, .int .i64 i2] 27)) (.cells #[.int .i64 0, .int .i64 0, .int .i64 0, .int .i64 0, .int .i64 0, .string ⟨#[]⟩, .string ⟨#[]⟩, .int .i64 0, .int .i64 0, .int .i64 0, .int .i64 0, .int .i64 0, .int .i64 0, .int .i64 0, .string ⟨#[]⟩, .int .i64 0, .slice none 0 0, .int .i64 0, .int .i64 0, .string ⟨#[]⟩, .string ⟨#[]⟩, .string ⟨#[]⟩, .string ⟨#[]⟩, .string ⟨#[]⟩, .int .i64 0, .int .i64 0, .int .i64 0, .bool false, .int .i64 0, .int .i64 0, .int .i64 0] 37)
    rwa [World.size_alloc, World.size_alloc] at this
  have HM := Lib.hid hm
  have KP := Lib.hid (UriG.parseS ⟨t.toArray⟩ w3 (he.below hb3) (hm.below hb3) (by rw [Com.size_mk]; exact ht) hP)
  obtain ⟨x0, x1, x2, x3, -, -, -, -⟩ := hR3.cells
  clear he hm hP
  go_enter Tryz.func17, Tryz.ntmps17
  go_upto_region 1 with fail
  rw [← hw3]
  clear hw3
  go_wp2_with fail
  refine KP.out.mono ?_
  rintro e w4 ⟨⟨aq, cq, rfl, -, hpr⟩, hb4⟩
  have hb5 := (Below.refl w4.heap.size w4).alloc (Nat.le_refl _) (.cells #[.string ⟨(47 :: nm).toArray⟩, .slice aq ps.length cq] 97)
  have hU5 : (w4.alloc (.cells #[.string ⟨(47 :: nm).toArray⟩, .slice aq ps.length cq] 97)).heap[w4.heap.size]? = some (.cells #[.string ⟨(47 :: nm).toArray⟩, .slice aq ps.length cq] 97 (0, 0)) := heap_alloc_new w4 _
  clear x0 x1 x2 x3 KP
  go_upto_region 2 with fail
  have hR5 := (hR3.below hb4).below hb5
  have hI5 : (w4.alloc (.cells #[.string ⟨(47 :: nm).toArray⟩, .slice aq ps.length cq] 97)).heap[w.heap.size + 1]? = some (.cells #[.int .i64 i0, .int .i64 i1, .int .i64 i2] 27 (0, 0)) := (hb5.block _ (by have := hb4.size; omega)).trans ((hb4.block _ (by omega)).trans hI3)
  have hQ5 : (w4.alloc (.cells #[.string ⟨(47 :: nm).toArray⟩, .slice aq ps.length cq] 97)).heap[w.heap.size + 1 + 1]? = _ := (hb5.block _ (by have := hb4.size; omega)).trans ((hb4.block _ (by omega)).trans hQ3)
  have hpr5 := SgB.pairs_below hpr hb5
  have hB4 := hb3.trans (hb4.mono hb3.size)
  have hB5 := hB4.trans (hb5.mono hB4.size)
  have hs5 : w.heap.size + 3 ≤ w4.heap.size := by have := hb4.size; omega
  have hz5 := hb5.size
  obtain ⟨N4, hN4⟩ : ∃ N4, N4 = w4.heap.size := ⟨_, rfl⟩
  rw [← hN4] at hU5 hs5 hz5 ⊢
  generalize w4.alloc _ = w5 at *
  clear hR3 hI3 hQ3 hpr hb4 hb5 hN4 hz3 hb3 hB4
  obtain ⟨x0, x1, x2, x3, -, -, -, -⟩ := hR5.cells
  have u0 : w5.cell? ⟨N4, 0, none⟩ = some (.string ⟨(47 :: nm).toArray⟩) := by rw [Lib.cell_of_heap hU5]; rfl
  have u1 : w5.cell? ⟨N4, 1, none⟩ = some (.slice aq ps.length cq) := by rw [Lib.cell_of_heap hU5]; rfl
  have v0 : w5.cell? ⟨w.heap.size + 1, 0, none⟩ = some (.int .i64 i0) := by rw [Lib.cell_of_heap hI5]; rfl
  have v1 : w5.cell? ⟨w.heap.size + 1, 1, none⟩ = some (.int .i64 i1) := by rw [Lib.cell_of_heap hI5]; rfl
  have v2 : w5.cell? ⟨w.heap.size + 1, 2, none⟩ = some (.int .i64 i2) := by rw [Lib.cell_of_heap hI5]; rfl
  have hA6 : Ak w5.heap.size (w5.alloc (.cells #[.string ⟨(47 :: nm).toArray⟩, .slice aq ps.length cq, .string ⟨#[80, 85, 84]⟩, .string ⟨t.toArray⟩, .slice af fl cf, .slice ab bl cb, .int .i64 i0, .int .i64 i1, .int .i64 i2, .int .i64 now, .int .i64 0, .int .i64 0, .int .i64 0, .int .i64 0, .int .i64 0, .string ⟨#[]⟩, .string ⟨#[]⟩, .int .i64 0, .int .i64 0, .int .i64 0, .int .i64 0, .int .i64 0, .int .i64 0, .int .i64 0, .string ⟨#[]⟩, .int .i64 0, .slice none 0 0, .int .i64 0, .int .i64 0, .string ⟨#[]⟩, .string ⟨#[]⟩, .string ⟨#[]⟩, .string ⟨#[]⟩, .string ⟨#[]⟩, .int .i64 0, .int .i64 0, .int .i64 0, .bool false, .int .i64 0, .int .i64 0, .int .i64 0] 102)) [.string ⟨(47 :: nm).toArray⟩, .slice aq ps.length cq, .string ⟨#[80, 85, 84]⟩, .string ⟨t.toArray⟩, .slice af fl cf, .slice ab bl cb, .int .i64 i0, .int .i64 i1, .int .i64 i2, .int .i64 now, .int .i64 0, .int .i64 0, .int .i64 0, .int .i64 0, .int .i64 0, .string ⟨#[]⟩, .string ⟨#[]⟩, .int .i64 0, .int .i64 0, .int .i64 0, .int .i64 0, .int .i64 0, .int .i64 0, .int .i64 0, .string ⟨#[]⟩, .int .i64 0, .slice none 0 0, .int .i64 0, .int .i64 0, .string ⟨#[]⟩, .string ⟨#[]⟩, .string ⟨#[]⟩, .string ⟨#[]⟩, .string ⟨#[]⟩, .int .i64 0, .int .i64 0, .int .i64 0, .bool false, .int .i64 0, .int .i64 0, .int .i64 0] := heap_alloc_new w5 _
  have hb6 := (Below.refl w5.heap.size w5).alloc (Nat.le_refl _) (.cells #[.string ⟨(47 :: nm).toArray⟩, .slice aq ps.length cq, .string ⟨#[80, 85, 84]⟩, .string ⟨t.toArray⟩, .slice af fl cf, .slice ab bl cb, .int .i64 i0, .int .i64 i1, .int .i64 i2, .int .i64 now, .int .i64 0, .int .i64 0, .int .i64 0, .int .i64 0, .int .i64 0, .string ⟨#[]⟩, .string ⟨#[]⟩, .int .i64 0, .int .i64 0, .int .i64 0, .int .i64 0, .int .i64 0, .int .i64 0, .int .i64 0, .string ⟨#[]⟩, .int .i64 0, .slice none 0 0, .int .i64 0, .int .i64 0, .string ⟨#[]⟩, .string ⟨#[]⟩, .string ⟨#[]⟩, .string ⟨#[]⟩, .string ⟨#[]⟩, .int .i64 0, .int .i64 0, .int .i64 0, .bool false, .int .i64 0, .int .i64 0, .int .i64 0] 102)
  go_upto_region 5 with fail
  obtain ⟨B, hB⟩ : ∃ B, B = w5.heap.size := ⟨_, rfl⟩
  have hR6 := hR5.below hb6
  have hQ6 := (hb6.block _ (Array.getElem?_eq_some_iff.1 hQ5).1).trans hQ5
  have hpr6 := SgB.pairs_below hpr5 hb6
  have HB6 := Lib.hid (hB5.trans (hb6.mono hB5.size))
  have HS6 := Lib.hid (show w.heap.size + 3 ≤ w5.heap.size from by have := hU5; have := (Array.getElem?_eq_some_iff.1 hU5).1; omega)
  have HPR := Lib.hid (show UriC.Pairs w5 aq ps ∧ Below w5.heap.size w5 (w5.alloc (.cells #[.string ⟨(47 :: nm).toArray⟩, .slice aq ps.length cq, .string ⟨#[80, 85, 84]⟩, .string ⟨t.toArray⟩, .slice af fl cf, .slice ab bl cb, .int .i64 i0, .int .i64 i1, .int .i64 i2, .int .i64 now, .int .i64 0, .int .i64 0, .int .i64 0, .int .i64 0, .int .i64 0, .string ⟨#[]⟩, .string ⟨#[]⟩, .int .i64 0, .int .i64 0, .int .i64 0, .int .i64 0, .int .i64 0, .int .i64 0, .int .i64 0, .string ⟨#[]⟩, .int .i64 0, .slice none 0 0, .int .i64 0, .int .i64 0, .string ⟨#[]⟩, .string ⟨#[]⟩, .string ⟨#[]⟩, .string ⟨#[]⟩, .string ⟨#[]⟩, .int .i64 0, .int .i64 0, .int .i64 0, .bool false, .int .i64 0, .int .i64 0, .int .i64 0] 102)) ∧ B = w5.heap.size from ⟨hpr5, hb6, hB⟩)
  rw [← hB] at hA6 HS6 ⊢
  generalize w5.alloc _ = w6 at *
  clear x0 x1 x2 x3 u0 u1 v0 v1 v2 hR5 hI5 hQ5 hU5 hpr5 hB5 hb6 hB hz5 hs5
  go_wp2_with fail
  refine (RtF.place hA6 (HM.out.below HB6.out) hg h47).mono ?_
  rintro e w7 ⟨N, rfl, hN, ho, hA7, hb7⟩
  have hR7 : Rq w.heap.size w7 _ _ _ _ := (hb7.block _ (by have := HS6.out; omega)).trans hR6
  have hQ7 : w7.heap[w.heap.size + 1 + 1]? = _ := (hb7.block _ (by have := HS6.out; omega)).trans hQ6
  have hpr7 : UriC.Pairs w7 aq ps := SgB.pairs_below HPR.out.1 (HPR.out.2.1.trans (by have := HPR.out.2.2; rw [← this]; exact hb7))
  obtain ⟨x0, x1, x2, x3, -, -, -, -⟩ := hR7.cells
  clear hA6 hR6 hQ6 hpr6 hN
  go_wp2_with (at_lookup; refine wpList_way rfl (.tmp 41) (.tmp 43) rfl rfl ho ⟨#[80, 85, 84]⟩ rfl (by decide) way_put ?_)
  refine (RtE.makeBucket hA7 hpr7 hl hd).mono ?_
  rintro e w8 ⟨rfl, hA8, hb8⟩
  have hQ8 : w8.heap[w.heap.size + 1 + 1]? = _ := (hb8.block _ (by have := HS6.out; omega)).trans hQ7
  have hB8 := (HB6.out.trans (hb7.mono (by have := HS6.out; omega))).trans (hb8.mono (by have := HS6.out; omega))
  have x26 := hA8.at 26 rfl
  have f26 := hA8.fr 26
  have hA9 := hA8.put 26 (.slice none 0 0)
  simp only [List.set_cons_zero, List.set_cons_succ] at hA9
  have hB9 := hB8.setCell (p := ⟨B, 26, none⟩) (by have := HS6.out; show w.heap.size ≤ B; omega) (.slice none 0 0)
  have hQ9 : (w8.setCell ⟨B, 26, none⟩ (.slice none 0 0)).heap[w.heap.size + 1 + 1]? = _ := (Below.heap_setCell _ _ _ _ (by have := HS6.out; show w.heap.size + 1 + 1 ≠ B; omega)).trans hQ8
  clear x0 x1 x2 x3 hA7 hR7 hQ7 hpr7 ho hA8 hQ8 hB8 hb7 hb8
  go_upto_region 15 with (go_at_call 45; refine (clip _).mono ?_; rintro e w9 ⟨rfl, hw9⟩; subst hw9)
  generalize World.setCell w8 _ _ = w9 at *
  clear x26 f26
  have hrg : w9.rangeAt B 10 [.int .i64 1, .int .i64 1, .int .i64 i0, .int .i64 i1, .int .i64 i2, .string ⟨nm.toArray⟩, .string ⟨#[]⟩, .int .i64 0, .int .i64 0, .int .i64 0, .int .i64 0, .int .i64 0, .int .i64 0, .int .i64 0, .string ⟨#[]⟩, .int .i64 0, .slice none 0 0, .int .i64 now, .int .i64 0, .string ⟨#[]⟩, .string ⟨#[]⟩, .string ⟨#[]⟩, .string ⟨#[]⟩, .string ⟨#[]⟩, .int .i64 0, .int .i64 0, .int .i64 0, .bool false, .int .i64 0, .int .i64 0, .int .i64 0] := ak_range hA9 10
  have h1c : (#[.int .i64 1, .int .i64 1, .int .i64 i0, .int .i64 i1, .int .i64 i2, .string ⟨nm.toArray⟩, .string ⟨#[]⟩, .int .i64 0, .int .i64 0, .int .i64 0, .int .i64 0, .int .i64 0, .int .i64 0, .int .i64 0, .string ⟨#[]⟩, .int .i64 0, .slice none 0 0, .int .i64 now, .int .i64 0, .string ⟨#[]⟩, .string ⟨#[]⟩, .string ⟨#[]⟩, .string ⟨#[]⟩, .string ⟨#[]⟩, .int .i64 0, .int .i64 0, .int .i64 0, .bool false, .int .i64 0, .int .i64 0, .int .i64 0] : Array Value).all (·.oneCell') = true := by simp [Value.oneCell']
  have his : (Tryz.prog.info? 37).map (·.size) = some (#[.int .i64 1, .int .i64 1, .int .i64 i0, .int .i64 i1, .int .i64 i2, .string ⟨nm.toArray⟩, .string ⟨#[]⟩, .int .i64 0, .int .i64 0, .int .i64 0, .int .i64 0, .int .i64 0, .int .i64 0, .int .i64 0, .string ⟨#[]⟩, .int .i64 0, .slice none 0 0, .int .i64 now, .int .i64 0, .string ⟨#[]⟩, .string ⟨#[]⟩, .string ⟨#[]⟩, .string ⟨#[]⟩, .string ⟨#[]⟩, .int .i64 0, .int .i64 0, .int .i64 0, .bool false, .int .i64 0, .int .i64 0, .int .i64 0] : Array Value).size := by kernel_rfl
  go_wp2_with (first
    | (guard_target =~ wpList _ _ _ ({ dst := _, op := Op.load 37 _, type := _, pos := _, after := _, guard := none } :: _) _ _; refine wpList_load_mid rfl 37 (.tmp 72) rfl B 10 rfl [.int .i64 1, .int .i64 1, .int .i64 i0, .int .i64 i1, .int .i64 i2, .string ⟨nm.toArray⟩, .string ⟨#[]⟩, .int .i64 0, .int .i64 0, .int .i64 0, .int .i64 0, .int .i64 0, .int .i64 0, .int .i64 0, .string ⟨#[]⟩, .int .i64 0, .slice none 0 0, .int .i64 now, .int .i64 0, .string ⟨#[]⟩, .string ⟨#[]⟩, .string ⟨#[]⟩, .string ⟨#[]⟩, .string ⟨#[]⟩, .int .i64 0, .int .i64 0, .int .i64 0, .bool false, .int .i64 0, .int .i64 0, .int .i64 0] _ hrg Tryz.underlying37 rfl (by kernel_rfl) ?_)
    | (guard_target =~ wpList _ _ _ ({ dst := _, op := Op.store 37 _ _, type := _, pos := _, after := _, guard := none } :: _) _ _; refine wpList_store_row rfl 37 (.tmp 6) (.tmp 73) rfl (w.heap.size + 1 + 1) #[.int .i64 1, .int .i64 1, .int .i64 i0, .int .i64 i1, .int .i64 i2, .string ⟨nm.toArray⟩, .string ⟨#[]⟩, .int .i64 0, .int .i64 0, .int .i64 0, .int .i64 0, .int .i64 0, .int .i64 0, .int .i64 0, .string ⟨#[]⟩, .int .i64 0, .slice none 0 0, .int .i64 now, .int .i64 0, .string ⟨#[]⟩, .string ⟨#[]⟩, .string ⟨#[]⟩, .string ⟨#[]⟩, .string ⟨#[]⟩, .int .i64 0, .int .i64 0, .int .i64 0, .bool false, .int .i64 0, .int .i64 0, .int .i64 0] rfl rfl _ _ hQ9 his rfl h1c ?_))
  refine bodyPost_ret (res_ask (ShaB.heap_setRow _ hQ9) rfl rfl rfl rfl) rfl ⟨rfl, ?_⟩
  exact ShaB.below_row hB9 (by omega) _
end Go.Proofs.YtidflagmdabfaaaGreatDoor.RtH
