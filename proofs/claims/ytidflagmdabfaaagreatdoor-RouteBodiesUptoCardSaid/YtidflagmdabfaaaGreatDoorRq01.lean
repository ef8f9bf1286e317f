/-
  The walk of package route's code. (Printed by mkcode.py.) The walk of package route's Command, where it writes no document. (Printed by mkcmd.py.) Plain Lean: the documents of buckets, of an upload, of an etag. The walks of the references' Decimal, Signed, num, and of their Id. The walk of package xml's number.
-/
import Derived.Test.YtidflagmdabfaaaGreatDoorSg07
import Derived.Test.YtidflagmdabfaaaGreatDoorRo01
import Derived.Test.YtidflagmdabfaaaGreatDoorRo02
import Derived.WalkKit
import Derived.WalkSpells
import Derived.WalkLawsBesides
import Derived.WalkSmall
import Derived.Outline
import Derived.Deep.LoopGhost
import Derived.Lib.Hide
import Derived.Lib.AppendIntMem
namespace Go.Proofs.YtidflagmdabfaaaGreatDoor.RtO
open Go.RowKit Go.Proofs.YtidflagmdabfaaaGreatDoor Go.Proofs.YtidflagmdabfaaaGreatDoor.HtW Go.Proofs.YtidflagmdabfaaaGreatDoor.RtA

/-- what a code says: its status and its name -/
def cst (v : Int) : Int := if v = 1 then 404 else if v = 2 then 404 else if v = 3 then 404 else if v = 4 then 409 else if v = 5 then 409 else if v = 6 then 400 else if v = 7 then 409 else 400
def cnm (v : Int) : List UInt8 := if v = 1 then [78, 111, 83, 117, 99, 104, 66, 117, 99, 107, 101, 116] else if v = 2 then [78, 111, 83, 117, 99, 104, 75, 101, 121] else if v = 3 then [78, 111, 83, 117, 99, 104, 85, 112, 108, 111, 97, 100] else if v = 4 then [66, 117, 99, 107, 101, 116, 69, 120, 105, 115, 116, 115] else if v = 5 then [66, 117, 99, 107, 101, 116, 78, 111, 116, 69, 109, 112, 116, 121] else if v = 6 then [78, 111, 83, 117, 99, 104, 80, 97, 114, 116] else if v = 7 then [84, 111, 111, 77, 97, 110, 121] else [66, 97, 100, 82, 101, 113, 117, 101, 115, 116]
set_option maxHeartbeats 4000000 in
set_option maxRecDepth 100000 in
theorem code1 (w : World) :
    Calls Tryz.prog 62 #[.int .i64 1] w fun e w' => FPost 404 (Xp.docError [78, 111, 83, 117, 99, 104, 66, 117, 99, 107, 101, 116]) w.heap.size w' e ∧ Below w.heap.size w w' := by
  have hb0 := (Below.refl w.heap.size w).alloc (Nat.le_refl _) (.cells #[.int .i64 0, .slice none 0 0, .slice none 0 0] 56)
  have hR0 : Rb w.heap.size (w.alloc (.cells #[.int .i64 0, .slice none 0 0, .slice none 0 0] 56)) _ _ _ := heap_alloc_new w _
  have hlt : w.heap.size < (w.alloc (.cells #[.int .i64 0, .slice none 0 0, .slice none 0 0] 56)).heap.size := by rw [World.size_alloc]; omega
  have KF := Lib.hid (failed 404 ⟨[78, 111, 83, 117, 99, 104, 66, 117, 99, 107, 101, 116].toArray⟩ (w.alloc (.cells #[.int .i64 0, .slice none 0 0, .slice none 0 0] 56)) (by decide))
  go_enter Tryz.func62, Tryz.ntmps62
  go_wp2_with (first
    | (go_at_call 60; refine KF.out.mono ?_; rintro e w2 ⟨⟨aF, cF, rfl, hF, hp⟩, hb2⟩; obtain ⟨r0, r1, r2, f0, f1, f2⟩ := (hR0.below hb2).cells))
  have hB2 := hb0.trans (hb2.mono hb0.size)
  refine bodyPost_ret (Rb.run 2 ((hR0.below hb2).put _ _ _) rfl rfl) rfl ⟨⟨_, _, rfl, bs_far hF (fun p h => by have := hp p h; omega) _ _ _, fun p h => by have := hp p h; omega⟩, below_st3 hB2 (Nat.le_refl _) _ _ _⟩
set_option maxHeartbeats 4000000 in
set_option maxRecDepth 100000 in
theorem code2 (w : World) :
    Calls Tryz.prog 62 #[.int .i64 2] w fun e w' => FPost 404 (Xp.docError [78, 111, 83, 117, 99, 104, 75, 101, 121]) w.heap.size w' e ∧ Below w.heap.size w w' := by
  have hb0 := (Below.refl w.heap.size w).alloc (Nat.le_refl _) (.cells #[.int .i64 0, .slice none 0 0, .slice none 0 0] 56)
  have hR0 : Rb w.heap.size (w.alloc (.cells #[.int .i64 0, .slice none 0 0, .slice none 0 0] 56)) _ _ _ := heap_alloc_new w _
  have hlt : w.heap.size < (w.alloc (.cells #[.int .i64 0, .slice none 0 0, .slice none 0 0] 56)).heap.size := by rw [World.size_alloc]; omega
  have KF := Lib.hid (failed 404 ⟨[78, 111, 83, 117, 99, 104, 75, 101, 121].toArray⟩ (w.alloc (.cells #[.int .i64 0, .slice none 0 0, .slice none 0 0] 56)) (by decide))
  go_enter Tryz.func62, Tryz.ntmps62
  go_wp2_with (first
    | (go_at_call 60; refine KF.out.mono ?_; rintro e w2 ⟨⟨aF, cF, rfl, hF, hp⟩, hb2⟩; obtain ⟨r0, r1, r2, f0, f1, f2⟩ := (hR0.below hb2).cells))
  have hB2 := hb0.trans (hb2.mono hb0.size)
  refine bodyPost_ret (Rb.run 2 ((hR0.below hb2).put _ _ _) rfl rfl) rfl ⟨⟨_, _, rfl, bs_far hF (fun p h => by have := hp p h; omega) _ _ _, fun p h => by have := hp p h; omega⟩, below_st3 hB2 (Nat.le_refl _) _ _ _⟩
set_option maxHeartbeats 4000000 in
set_option maxRecDepth 100000 in
theorem code3 (w : World) :
    Calls Tryz.prog 62 #[.int .i64 3] w fun e w' => FPost 404 (Xp.docError [78, 111, 83, 117, 99, 104, 85, 112, 108, 111, 97, 100]) w.heap.size w' e ∧ Below w.heap.size w w' := by
  have hb0 := (Below.refl w.heap.size w).alloc (Nat.le_refl _) (.cells #[.int .i64 0, .slice none 0 0, .slice none 0 0] 56)
  have hR0 : Rb w.heap.size (w.alloc (.cells #[.int .i64 0, .slice none 0 0, .slice none 0 0] 56)) _ _ _ := heap_alloc_new w _
  have hlt : w.heap.size < (w.alloc (.cells #[.int .i64 0, .slice none 0 0, .slice none 0 0] 56)).heap.size := by rw [World.size_alloc]; omega
  have KF := Lib.hid (failed 404 ⟨[78, 111, 83, 117, 99, 104, 85, 112, 108, 111, 97, 100].toArray⟩ (w.alloc (.cells #[.int .i64 0, .slice none 0 0, .slice none 0 0] 56)) (by decide))
  go_enter Tryz.func62, Tryz.ntmps62
  go_wp2_with (first
    | (go_at_call 60; refine KF.out.mono ?_; rintro e w2 ⟨⟨aF, cF, rfl, hF, hp⟩, hb2⟩; obtain ⟨r0, r1, r2, f0, f1, f2⟩ := (hR0.below hb2).cells))
  have hB2 := hb0.trans (hb2.mono hb0.size)
  refine bodyPost_ret (Rb.run 2 ((hR0.below hb2).put _ _ _) rfl rfl) rfl ⟨⟨_, _, rfl, bs_far hF (fun p h => by have := hp p h; omega) _ _ _, fun p h => by have := hp p h; omega⟩, below_st3 hB2 (Nat.le_refl _) _ _ _⟩
set_option maxHeartbeats 4000000 in
set_option maxRecDepth 100000 in
theorem code4 (w : World) :
    Calls Tryz.prog 62 #[.int .i64 4] w fun e w' => FPost 409 (Xp.docError [66, 117, 99, 107, 101, 116, 69, 120, 105, 115, 116, 115]) w.heap.size w' e ∧ Below w.heap.size w w' := by
  have hb0 := (Below.refl w.heap.size w).alloc (Nat.le_refl _) (.cells #[.int .i64 0, .slice none 0 0, .slice none 0 0] 56)
  have hR0 : Rb w.heap.size (w.alloc (.cells #[.int .i64 0, .slice none 0 0, .slice none 0 0] 56)) _ _ _ := heap_alloc_new w _
  have hlt : w.heap.size < (w.alloc (.cells #[.int .i64 0, .slice none 0 0, .slice none 0 0] 56)).heap.size := by rw [World.size_alloc]; omega
  have KF := Lib.hid (failed 409 ⟨[66, 117, 99, 107, 101, 116, 69, 120, 105, 115, 116, 115].toArray⟩ (w.alloc (.cells #[.int .i64 0, .slice none 0 0, .slice none 0 0] 56)) (by decide))
  go_enter Tryz.func62, Tryz.ntmps62
  go_wp2_with (first
    | (go_at_call 60; refine KF.out.mono ?_; rintro e w2 ⟨⟨aF, cF, rfl, hF, hp⟩, hb2⟩; obtain ⟨r0, r1, r2, f0, f1, f2⟩ := (hR0.below hb2).cells))
  have hB2 := hb0.trans (hb2.mono hb0.size)
  refine bodyPost_ret (Rb.run 2 ((hR0.below hb2).put _ _ _) rfl rfl) rfl ⟨⟨_, _, rfl, bs_far hF (fun p h => by have := hp p h; omega) _ _ _, fun p h => by have := hp p h; omega⟩, below_st3 hB2 (Nat.le_refl _) _ _ _⟩
set_option maxHeartbeats 4000000 in
set_option maxRecDepth 100000 in
theorem code5 (w : World) :
    Calls Tryz.prog 62 #[.int .i64 5] w fun e w' => FPost 409 (Xp.docError [66, 117, 99, 107, 101, 116, 78, 111, 116, 69, 109, 112, 116, 121]) w.heap.size w' e ∧ Below w.heap.size w w' := by
  have hb0 := (Below.refl w.heap.size w).alloc (Nat.le_refl _) (.cells #[.int .i64 0, .slice none 0 0, .slice none 0 0] 56)
  have hR0 : Rb w.heap.size (w.alloc (.cells #[.int .i64 0, .slice none 0 0, .slice none 0 0] 56)) _ _ _ := heap_alloc_new w _
  have hlt : w.heap.size < (w.alloc (.cells #[.int .i64 0, .slice none 0 0, .slice none 0 0] 56)).heap.size := by rw [World.size_alloc]; omega
  have KF := Lib.hid (failed 409 ⟨[66, 117, 99, 107, 101, 116, 78, 111, 116, 69, 109, 112, 116, 121].toArray⟩ (w.alloc (.cells #[.int .i64 0, .slice none 0 0, .slice none 0 0] 56)) (by decide))
  go_enter Tryz.func62, Tryz.ntmps62
  go_wp2_with (first
    | (go_at_call 60; refine KF.out.mono ?_; rintro e w2 ⟨⟨aF, cF, rfl, hF, hp⟩, hb2⟩; obtain ⟨r0, r1, r2, f0, f1, f2⟩ := (hR0.below hb2).cells))
  have hB2 := hb0.trans (hb2.mono hb0.size)
  refine bodyPost_ret (Rb.run 2 ((hR0.below hb2).put _ _ _) rfl rfl) rfl ⟨⟨_, _, rfl, bs_far hF (fun p h => by have := hp p h; omega) _ _ _, fun p h => by have := hp p h; omega⟩, below_st3 hB2 (Nat.le_refl _) _ _ _⟩
set_option maxHeartbeats 4000000 in
set_option maxRecDepth 100000 in
theorem code6 (w : World) :
    Calls Tryz.prog 62 #[.int .i64 6] w fun e w' => FPost 400 (Xp.docError [78, 111, 83, 117, 99, 104, 80, 97, 114, 116]) w.heap.size w' e ∧ Below w.heap.size w w' := by
  have hb0 := (Below.refl w.heap.size w).alloc (Nat.le_refl _) (.cells #[.int .i64 0, .slice none 0 0, .slice none 0 0] 56)
  have hR0 : Rb w.heap.size (w.alloc (.cells #[.int .i64 0, .slice none 0 0, .slice none 0 0] 56)) _ _ _ := heap_alloc_new w _
  have hlt : w.heap.size < (w.alloc (.cells #[.int .i64 0, .slice none 0 0, .slice none 0 0] 56)).heap.size := by rw [World.size_alloc]; omega
  have KF := Lib.hid (failed 400 ⟨[78, 111, 83, 117, 99, 104, 80, 97, 114, 116].toArray⟩ (w.alloc (.cells #[.int .i64 0, .slice none 0 0, .slice none 0 0] 56)) (by decide))
  go_enter Tryz.func62, Tryz.ntmps62
  go_wp2_with (first
    | (go_at_call 60; refine KF.out.mono ?_; rintro e w2 ⟨⟨aF, cF, rfl, hF, hp⟩, hb2⟩; obtain ⟨r0, r1, r2, f0, f1, f2⟩ := (hR0.below hb2).cells))
  have hB2 := hb0.trans (hb2.mono hb0.size)
  refine bodyPost_ret (Rb.run 2 ((hR0.below hb2).put _ _ _) rfl rfl) rfl ⟨⟨_, _, rfl, bs_far hF (fun p h => by have := hp p h; omega) _ _ _, fun p h => by have := hp p h; omega⟩, below_st3 hB2 (Nat.le_refl _) _ _ _⟩
set_option maxHeartbeats 4000000 in
set_option maxRecDepth 100000 in
theorem code7 (w : World) :
    Calls Tryz.prog 62 #[.int .i64 7] w fun e w' => FPost 409 (Xp.docError [84, 111, 111, 77, 97, 110, 121]) w.heap.size w' e ∧ Below w.heap.size w w' := by
  have hb0 := (Below.refl w.heap.size w).alloc (Nat.le_refl _) (.cells #[.int .i64 0, .slice none 0 0, .slice none 0 0] 56)
  have hR0 : Rb w.heap.size (w.alloc (.cells #[.int .i64 0, .slice none 0 0, .slice none 0 0] 56)) _ _ _ := heap_alloc_new w _
  have hlt : w.heap.size < (w.alloc (.cells #[.int .i64 0, .slice none 0 0, .slice none 0 0] 56)).heap.size := by rw [World.size_alloc]; omega
  have KF := Lib.hid (failed 409 ⟨[84, 111, 111, 77, 97, 110, 121].toArray⟩ (w.alloc (.cells #[.int .i64 0, .slice none 0 0, .slice none 0 0] 56)) (by decide))
  go_enter Tryz.func62, Tryz.ntmps62
  go_wp2_with (first
    | (go_at_call 60; refine KF.out.mono ?_; rintro e w2 ⟨⟨aF, cF, rfl, hF, hp⟩, hb2⟩; obtain ⟨r0, r1, r2, f0, f1, f2⟩ := (hR0.below hb2).cells))
  have hB2 := hb0.trans (hb2.mono hb0.size)
  refine bodyPost_ret (Rb.run 2 ((hR0.below hb2).put _ _ _) rfl rfl) rfl ⟨⟨_, _, rfl, bs_far hF (fun p h => by have := hp p h; omega) _ _ _, fun p h => by have := hp p h; omega⟩, below_st3 hB2 (Nat.le_refl _) _ _ _⟩
set_option maxHeartbeats 4000000 in
set_option maxRecDepth 100000 in
theorem code0 (v : Int) (h1 : ¬ v = 1) (h2 : ¬ v = 2) (h3 : ¬ v = 3) (h4 : ¬ v = 4) (h5 : ¬ v = 5) (h6 : ¬ v = 6) (h7 : ¬ v = 7) (w : World) :
    Calls Tryz.prog 62 #[.int .i64 v] w fun e w' => FPost 400 (Xp.docError [66, 97, 100, 82, 101, 113, 117, 101, 115, 116]) w.heap.size w' e ∧ Below w.heap.size w w' := by
  have hb0 := (Below.refl w.heap.size w).alloc (Nat.le_refl _) (.cells #[.int .i64 0, .slice none 0 0, .slice none 0 0] 56)
  have hR0 : Rb w.heap.size (w.alloc (.cells #[.int .i64 0, .slice none 0 0, .slice none 0 0] 56)) _ _ _ := heap_alloc_new w _
  have hlt : w.heap.size < (w.alloc (.cells #[.int .i64 0, .slice none 0 0, .slice none 0 0] 56)).heap.size := by rw [World.size_alloc]; omega
  have KF := Lib.hid (failed 400 ⟨[66, 97, 100, 82, 101, 113, 117, 101, 115, 116].toArray⟩ (w.alloc (.cells #[.int .i64 0, .slice none 0 0, .slice none 0 0] 56)) (by decide))
  go_enter Tryz.func62, Tryz.ntmps62
  go_wp2_with (first
    | (go_at_call 60; refine KF.out.mono ?_; rintro e w2 ⟨⟨aF, cF, rfl, hF, hp⟩, hb2⟩; obtain ⟨r0, r1, r2, f0, f1, f2⟩ := (hR0.below hb2).cells))
  have hB2 := hb0.trans (hb2.mono hb0.size)
  refine bodyPost_ret (Rb.run 2 ((hR0.below hb2).put _ _ _) rfl rfl) rfl ⟨⟨_, _, rfl, bs_far hF (fun p h => by have := hp p h; omega) _ _ _, fun p h => by have := hp p h; omega⟩, below_st3 hB2 (Nat.le_refl _) _ _ _⟩
theorem code (v : Int) (w : World) :
    Calls Tryz.prog 62 #[.int .i64 v] w fun e w' => FPost (cst v) (Xp.docError (cnm v)) w.heap.size w' e ∧ Below w.heap.size w w' := by
  by_cases h1 : v = 1
  · subst h1; exact code1 w
  by_cases h2 : v = 2
  · subst h2; exact code2 w
  by_cases h3 : v = 3
  · subst h3; exact code3 w
  by_cases h4 : v = 4
  · subst h4; exact code4 w
  by_cases h5 : v = 5
  · subst h5; exact code5 w
  by_cases h6 : v = 6
  · subst h6; exact code6 w
  by_cases h7 : v = 7
  · subst h7; exact code7 w
  have e1 : cst v = 400 := by simp [cst, h1, h2, h3, h4, h5, h6, h7]
  have e2 : cnm v = [66, 97, 100, 82, 101, 113, 117, 101, 115, 116] := by simp [cnm, h1, h2, h3, h4, h5, h6, h7]
  rw [e1, e2]
  exact code0 v h1 h2 h3 h4 h5 h6 h7 w
end Go.Proofs.YtidflagmdabfaaaGreatDoor.RtO
namespace Go.Proofs.YtidflagmdabfaaaGreatDoor.RtQ
open Go.RowKit Go.Proofs.YtidflagmdabfaaaGreatDoor Go.Proofs.YtidflagmdabfaaaGreatDoor.HtW Go.Proofs.YtidflagmdabfaaaGreatDoor.RtA Go.Proofs.YtidflagmdabfaaaGreatDoor.RtO

theorem hp1 (w : World) (o : Obj) {o' : Obj} : ((w.alloc o').alloc o).heap[w.heap.size + 1]? = some o := by
  have := heap_alloc_new (w.alloc o') o
  rwa [World.size_alloc] at this
/-- an answer that bears these fields and this body -/
def CPost (st : Int) (fs : List (List UInt8 × List UInt8)) (d : List UInt8) (w' : World) (e : Ending) : Prop := ∃ af cf ab cb, e = .returned (.agg #[.int .i64 st, .slice af fs.length cf, .slice ab d.length cb]) ∧ Fs w' af fs ∧ Bs w' ab d cb
set_option maxHeartbeats 4000000 in
set_option maxRecDepth 100000 in
theorem none2 (x4 x6 x7 x8 x9 x10 x11 x12 x13 x14 x15 x16 x17 : Value) (ky : ByteArray) (et : List UInt8) (i0 i1 i2 : Int) (w : World) :
    Calls Tryz.prog 31 #[.agg #[.int .i64 2, .int .i64 i0, .int .i64 i1, .int .i64 i2, x4, .string ky, x6, x7, x8, x9, x10, x11, x12, x13, x14, x15, x16, x17], .agg #[.int .i64 0, .string ⟨et.toArray⟩]] w fun e w' => CPost 204 [] [] w' e ∧ Below w.heap.size w w' := by
  obtain ⟨w3, hw3, hb3, hz3, hQ3, hO3, hR3⟩ : ∃ w3 : World, w3 = (((w.alloc (.cells #[.int .i64 2, .int .i64 i0, .int .i64 i1, .int .i64 i2, x4, .string ky, x6, x7, x8, x9, x10, x11, x12, x13, x14, x15, x16, x17] 35)).alloc (.cells #[.int .i64 0, .string ⟨et.toArray⟩] 63)).alloc (.cells #[.int .i64 0, .slice none 0 0, .slice none 0 0] 56)) ∧ Below w.heap.size w w3 ∧ w3.heap.size = w.heap.size + 3 ∧ w3.heap[w.heap.size]? = some (.cells #[.int .i64 2, .int .i64 i0, .int .i64 i1, .int .i64 i2, x4, .string ky, x6, x7, x8, x9, x10, x11, x12, x13, x14, x15, x16, x17] 35 (0, 0)) ∧ w3.heap[w.heap.size + 1]? = some (.cells #[.int .i64 0, .string ⟨et.toArray⟩] 63 (0, 0)) ∧ Rb (w.heap.size + 1 + 1) w3 (.int .i64 0) (.slice none 0 0) (.slice none 0 0) := by
    refine ⟨_, rfl, (((Below.refl _ _).alloc (Nat.le_refl _) _).alloc (by simp) _).alloc (by simp; omega) _, by simp, (Below.heap_alloc _ _ _ (by simp; omega)).trans ((Below.heap_alloc _ _ _ (by simp)).trans (heap_alloc_new _ _)), (Below.heap_alloc _ _ _ (by simp)).trans (hp1 _ _), ?_⟩
    have := heap_alloc_new ((w.alloc (.cells #[.int .i64 2, .int .i64 i0, .int .i64 i1, .int .i64 i2, x4, .string ky, x6, x7, x8, x9, x10, x11, x12, x13, x14, x15, x16, x17] 35)).alloc (.cells #[.int .i64 0, .string ⟨et.toArray⟩] 63)) (.cells #[.int .i64 0, .slice none 0 0, .slice none 0 0] 56)
    rwa [World.size_alloc, World.size_alloc] at this
  have q0 : w3.cell? ⟨w.heap.size, 0, none⟩ = some (.int .i64 2) := by rw [Lib.cell_of_heap hQ3]; rfl
  have y0 : w3.cell? ⟨w.heap.size + 1, 0, none⟩ = some (.int .i64 0) := by rw [Lib.cell_of_heap hO3]; rfl
  have y1 : w3.cell? ⟨w.heap.size + 1, 1, none⟩ = some (.string ⟨et.toArray⟩) := by rw [Lib.cell_of_heap hO3]; rfl
  clear hQ3 hO3
  go_enter Tryz.func31, Tryz.ntmps31
  go_upto_region 1 with fail
  rw [← hw3]
  clear hw3
  obtain ⟨r0, r1, r2, f0, f1, f2⟩ := hR3.cells
  go_wp2_with fail
  exact bodyPost_ret (Rb.run 4 (hR3.put _ _ _) rfl rfl) rfl ⟨⟨_, _, _, _, rfl, .inl rfl, ⟨Nat.le_refl _, fun _ => rfl, .inl rfl⟩⟩, below_st3 hb3 (by omega) _ _ _⟩
set_option maxHeartbeats 4000000 in
set_option maxRecDepth 100000 in
theorem none4 (x4 x6 x7 x8 x9 x10 x11 x12 x13 x14 x15 x16 x17 : Value) (ky : ByteArray) (et : List UInt8) (i0 i1 i2 : Int) (w : World) :
    Calls Tryz.prog 31 #[.agg #[.int .i64 4, .int .i64 i0, .int .i64 i1, .int .i64 i2, x4, .string ky, x6, x7, x8, x9, x10, x11, x12, x13, x14, x15, x16, x17], .agg #[.int .i64 0, .string ⟨et.toArray⟩]] w fun e w' => CPost 204 [] [] w' e ∧ Below w.heap.size w w' := by
  obtain ⟨w3, hw3, hb3, hz3, hQ3, hO3, hR3⟩ : ∃ w3 : World, w3 = (((w.alloc (.cells #[.int .i64 4, .int .i64 i0, .int .i64 i1, .int .i64 i2, x4, .string ky, x6, x7, x8, x9, x10, x11, x12, x13, x14, x15, x16, x17] 35)).alloc (.cells #[.int .i64 0, .string ⟨et.toArray⟩] 63)).alloc (.cells #[.int .i64 0, .slice none 0 0, .slice none 0 0] 56)) ∧ Below w.heap.size w w3 ∧ w3.heap.size = w.heap.size + 3 ∧ w3.heap[w.heap.size]? = some (.cells #[.int .i64 4, .int .i64 i0, .int .i64 i1, .int .i64 i2, x4, .string ky, x6, x7, x8, x9, x10, x11, x12, x13, x14, x15, x16, x17] 35 (0, 0)) ∧ w3.heap[w.heap.size + 1]? = some (.cells #[.int .i64 0, .string ⟨et.toArray⟩] 63 (0, 0)) ∧ Rb (w.heap.size + 1 + 1) w3 (.int .i64 0) (.slice none 0 0) (.slice none 0 0) := by
    refine ⟨_, rfl, (((Below.refl _ _).alloc (Nat.le_refl _) _).alloc (by simp) _).alloc (by simp; omega) _, by simp, (Below.heap_alloc _ _ _ (by simp; omega)).trans ((Below.heap_alloc _ _ _ (by simp)).trans (heap_alloc_new _ _)), (Below.heap_alloc _ _ _ (by simp)).trans (hp1 _ _), ?_⟩
    have := heap_alloc_new ((w.alloc (.cells #[.int .i64 4, .int .i64 i0, .int .i64 i1, .int .i64 i2, x4, .string ky, x6, x7, x8, x9, x10, x11, x12, x13, x14, x15, x16, x17] 35)).alloc (.cells #[.int .i64 0, .string ⟨et.toArray⟩] 63)) (.cells #[.int .i64 0, .slice none 0 0, .slice none 0 0] 56)
    rwa [World.size_alloc, World.size_alloc] at this
  have q0 : w3.cell? ⟨w.heap.size, 0, none⟩ = some (.int .i64 4) := by rw [Lib.cell_of_heap hQ3]; rfl
  have y0 : w3.cell? ⟨w.heap.size + 1, 0, none⟩ = some (.int .i64 0) := by rw [Lib.cell_of_heap hO3]; rfl
  have y1 : w3.cell? ⟨w.heap.size + 1, 1, none⟩ = some (.string ⟨et.toArray⟩) := by rw [Lib.cell_of_heap hO3]; rfl
  clear hQ3 hO3
  go_enter Tryz.func31, Tryz.ntmps31
  go_upto_region 1 with fail
  rw [← hw3]
  clear hw3
  obtain ⟨r0, r1, r2, f0, f1, f2⟩ := hR3.cells
  go_wp2_with fail
  exact bodyPost_ret (Rb.run 4 (hR3.put _ _ _) rfl rfl) rfl ⟨⟨_, _, _, _, rfl, .inl rfl, ⟨Nat.le_refl _, fun _ => rfl, .inl rfl⟩⟩, below_st3 hb3 (by omega) _ _ _⟩
set_option maxHeartbeats 4000000 in
set_option maxRecDepth 100000 in
theorem none8 (x4 x6 x7 x8 x9 x10 x11 x12 x13 x14 x15 x16 x17 : Value) (ky : ByteArray) (et : List UInt8) (i0 i1 i2 : Int) (w : World) :
    Calls Tryz.prog 31 #[.agg #[.int .i64 8, .int .i64 i0, .int .i64 i1, .int .i64 i2, x4, .string ky, x6, x7, x8, x9, x10, x11, x12, x13, x14, x15, x16, x17], .agg #[.int .i64 0, .string ⟨et.toArray⟩]] w fun e w' => CPost 204 [] [] w' e ∧ Below w.heap.size w w' := by
  obtain ⟨w3, hw3, hb3, hz3, hQ3, hO3, hR3⟩ : ∃ w3 : World, w3 = (((w.alloc (.cells #[.int .i64 8, .int .i64 i0, .int .i64 i1, .int .i64 i2, x4, .string ky, x6, x7, x8, x9, x10, x11, x12, x13, x14, x15, x16, x17] 35)).alloc (.cells #[.int .i64 0, .string ⟨et.toArray⟩] 63)).alloc (.cells #[.int .i64 0, .slice none 0 0, .slice none 0 0] 56)) ∧ Below w.heap.size w w3 ∧ w3.heap.size = w.heap.size + 3 ∧ w3.heap[w.heap.size]? = some (.cells #[.int .i64 8, .int .i64 i0, .int .i64 i1, .int .i64 i2, x4, .string ky, x6, x7, x8, x9, x10, x11, x12, x13, x14, x15, x16, x17] 35 (0, 0)) ∧ w3.heap[w.heap.size + 1]? = some (.cells #[.int .i64 0, .string ⟨et.toArray⟩] 63 (0, 0)) ∧ Rb (w.heap.size + 1 + 1) w3 (.int .i64 0) (.slice none 0 0) (.slice none 0 0) := by
    refine ⟨_, rfl, (((Below.refl _ _).alloc (Nat.le_refl _) _).alloc (by simp) _).alloc (by simp; omega) _, by simp, (Below.heap_alloc _ _ _ (by simp; omega)).trans ((Below.heap_alloc _ _ _ (by simp)).trans (heap_alloc_new _ _)), (Below.heap_alloc _ _ _ (by simp)).trans (hp1 _ _), ?_⟩
    have := heap_alloc_new ((w.alloc (.cells #[.int .i64 8, .int .i64 i0, .int .i64 i1, .int .i64 i2, x4, .string ky, x6, x7, x8, x9, x10, x11, x12, x13, x14, x15, x16, x17] 35)).alloc (.cells #[.int .i64 0, .string ⟨et.toArray⟩] 63)) (.cells #[.int .i64 0, .slice none 0 0, .slice none 0 0] 56)
    rwa [World.size_alloc, World.size_alloc] at this
  have q0 : w3.cell? ⟨w.heap.size, 0, none⟩ = some (.int .i64 8) := by rw [Lib.cell_of_heap hQ3]; rfl
  have y0 : w3.cell? ⟨w.heap.size + 1, 0, none⟩ = some (.int .i64 0) := by rw [Lib.cell_of_heap hO3]; rfl
  have y1 : w3.cell? ⟨w.heap.size + 1, 1, none⟩ = some (.string ⟨et.toArray⟩) := by rw [Lib.cell_of_heap hO3]; rfl
  clear hQ3 hO3
  go_enter Tryz.func31, Tryz.ntmps31
  go_upto_region 1 with fail
  rw [← hw3]
  clear hw3
  obtain ⟨r0, r1, r2, f0, f1, f2⟩ := hR3.cells
  go_wp2_with fail
  exact bodyPost_ret (Rb.run 4 (hR3.put _ _ _) rfl rfl) rfl ⟨⟨_, _, _, _, rfl, .inl rfl, ⟨Nat.le_refl _, fun _ => rfl, .inl rfl⟩⟩, below_st3 hb3 (by omega) _ _ _⟩
set_option maxHeartbeats 4000000 in
set_option maxRecDepth 100000 in
theorem plain (x4 x6 x7 x8 x9 x10 x11 x12 x13 x14 x15 x16 x17 : Value) (ky : ByteArray) (et : List UInt8) (i0 i1 i2 : Int) (v : Int) (h2 : ¬ v = 2) (h3 : ¬ v = 3) (h4 : ¬ v = 4) (h5 : ¬ v = 5) (h6 : ¬ v = 6) (h7 : ¬ v = 7) (h8 : ¬ v = 8) (w : World) :
    Calls Tryz.prog 31 #[.agg #[.int .i64 v, .int .i64 i0, .int .i64 i1, .int .i64 i2, x4, .string ky, x6, x7, x8, x9, x10, x11, x12, x13, x14, x15, x16, x17], .agg #[.int .i64 0, .string ⟨et.toArray⟩]] w fun e w' => CPost 200 [] [] w' e ∧ Below w.heap.size w w' := by
  obtain ⟨w3, hw3, hb3, hz3, hQ3, hO3, hR3⟩ : ∃ w3 : World, w3 = (((w.alloc (.cells #[.int .i64 v, .int .i64 i0, .int .i64 i1, .int .i64 i2, x4, .string ky, x6, x7, x8, x9, x10, x11, x12, x13, x14, x15, x16, x17] 35)).alloc (.cells #[.int .i64 0, .string ⟨et.toArray⟩] 63)).alloc (.cells #[.int .i64 0, .slice none 0 0, .slice none 0 0] 56)) ∧ Below w.heap.size w w3 ∧ w3.heap.size = w.heap.size + 3 ∧ w3.heap[w.heap.size]? = some (.cells #[.int .i64 v, .int .i64 i0, .int .i64 i1, .int .i64 i2, x4, .string ky, x6, x7, x8, x9, x10, x11, x12, x13, x14, x15, x16, x17] 35 (0, 0)) ∧ w3.heap[w.heap.size + 1]? = some (.cells #[.int .i64 0, .string ⟨et.toArray⟩] 63 (0, 0)) ∧ Rb (w.heap.size + 1 + 1) w3 (.int .i64 0) (.slice none 0 0) (.slice none 0 0) := by
    refine ⟨_, rfl, (((Below.refl _ _).alloc (Nat.le_refl _) _).alloc (by simp) _).alloc (by simp; omega) _, by simp, (Below.heap_alloc _ _ _ (by simp; omega)).trans ((Below.heap_alloc _ _ _ (by simp)).trans (heap_alloc_new _ _)), (Below.heap_alloc _ _ _ (by simp)).trans (hp1 _ _), ?_⟩
    have := heap_alloc_new ((w.alloc (.cells #[.int .i64 v, .int .i64 i0, .int .i64 i1, .int .i64 i2, x4, .string ky, x6, x7, x8, x9, x10, x11, x12, x13, x14, x15, x16, x17] 35)).alloc (.cells #[.int .i64 0, .string ⟨et.toArray⟩] 63)) (.cells #[.int .i64 0, .slice none 0 0, .slice none 0 0] 56)
    rwa [World.size_alloc, World.size_alloc] at this
  have q0 : w3.cell? ⟨w.heap.size, 0, none⟩ = some (.int .i64 v) := by rw [Lib.cell_of_heap hQ3]; rfl
  have y0 : w3.cell? ⟨w.heap.size + 1, 0, none⟩ = some (.int .i64 0) := by rw [Lib.cell_of_heap hO3]; rfl
  have y1 : w3.cell? ⟨w.heap.size + 1, 1, none⟩ = some (.string ⟨et.toArray⟩) := by rw [Lib.cell_of_heap hO3]; rfl
  clear hQ3 hO3
  go_enter Tryz.func31, Tryz.ntmps31
  go_upto_region 1 with fail
  rw [← hw3]
  clear hw3
  obtain ⟨r0, r1, r2, f0, f1, f2⟩ := hR3.cells
  go_wp2_with fail
  exact bodyPost_ret (Rb.run 4 (hR3.put _ _ _) rfl rfl) rfl ⟨⟨_, _, _, _, rfl, .inl rfl, ⟨Nat.le_refl _, fun _ => rfl, .inl rfl⟩⟩, below_st3 hb3 (by omega) _ _ _⟩
set_option maxHeartbeats 4000000 in
set_option maxRecDepth 100000 in
theorem coded (x4 x6 x7 x8 x9 x10 x11 x12 x13 x14 x15 x16 x17 : Value) (ky : ByteArray) (et : List UInt8) (i0 i1 i2 : Int) (kd v : Int) (hv : ¬ v = 0) (w : World) :
    Calls Tryz.prog 31 #[.agg #[.int .i64 kd, .int .i64 i0, .int .i64 i1, .int .i64 i2, x4, .string ky, x6, x7, x8, x9, x10, x11, x12, x13, x14, x15, x16, x17], .agg #[.int .i64 v, .string ⟨et.toArray⟩]] w fun e w' => CPost (cst v) [] (Xp.docError (cnm v)) w' e ∧ Below w.heap.size w w' := by
  obtain ⟨w3, hw3, hb3, hz3, hQ3, hO3, hR3⟩ : ∃ w3 : World, w3 = (((w.alloc (.cells #[.int .i64 kd, .int .i64 i0, .int .i64 i1, .int .i64 i2, x4, .string ky, x6, x7, x8, x9, x10, x11, x12, x13, x14, x15, x16, x17] 35)).alloc (.cells #[.int .i64 v, .string ⟨et.toArray⟩] 63)).alloc (.cells #[.int .i64 0, .slice none 0 0, .slice none 0 0] 56)) ∧ Below w.heap.size w w3 ∧ w3.heap.size = w.heap.size + 3 ∧ w3.heap[w.heap.size]? = some (.cells #[.int .i64 kd, .int .i64 i0, .int .i64 i1, .int .i64 i2, x4, .string ky, x6, x7, x8, x9, x10, x11, x12, x13, x14, x15, x16, x17] 35 (0, 0)) ∧ w3.heap[w.heap.size + 1]? = some (.cells #[.int .i64 v, .string ⟨et.toArray⟩] 63 (0, 0)) ∧ Rb (w.heap.size + 1 + 1) w3 (.int .i64 0) (.slice none 0 0) (.slice none 0 0) := by
    refine ⟨_, rfl, (((Below.refl _ _).alloc (Nat.le_refl _) _).alloc (by simp) _).alloc (by simp; omega) _, by simp, (Below.heap_alloc _ _ _ (by simp; omega)).trans ((Below.heap_alloc _ _ _ (by simp)).trans (heap_alloc_new _ _)), (Below.heap_alloc _ _ _ (by simp)).trans (hp1 _ _), ?_⟩
    have := heap_alloc_new ((w.alloc (.cells #[.int .i64 kd, .int .i64 i0, .int .i64 i1, .int .i64 i2, x4, .string ky, x6, x7, x8, x9, x10, x11, x12, x13, x14, x15, x16, x17] 35)).alloc (.cells #[.int .i64 v, .string ⟨et.toArray⟩] 63)) (.cells #[.int .i64 0, .slice none 0 0, .slice none 0 0] 56)
    rwa [World.size_alloc, World.size_alloc] at this
  have q0 : w3.cell? ⟨w.heap.size, 0, none⟩ = some (.int .i64 kd) := by rw [Lib.cell_of_heap hQ3]; rfl
  have y0 : w3.cell? ⟨w.heap.size + 1, 0, none⟩ = some (.int .i64 v) := by rw [Lib.cell_of_heap hO3]; rfl
  have y1 : w3.cell? ⟨w.heap.size + 1, 1, none⟩ = some (.string ⟨et.toArray⟩) := by rw [Lib.cell_of_heap hO3]; rfl
  clear hQ3 hO3
  go_enter Tryz.func31, Tryz.ntmps31
  go_upto_region 1 with fail
  rw [← hw3]
  clear hw3
  have KC := Lib.hid (code v w3)
  go_wp2_with (first
    | (go_at_call 62; refine KC.out.mono ?_; rintro e w4 ⟨⟨aF, cF, rfl, hF, hp⟩, hb4⟩; obtain ⟨r0, r1, r2, f0, f1, f2⟩ := (hR3.below hb4).cells))
  exact bodyPost_ret (Rb.run 4 ((hR3.below hb4).put _ _ _) rfl rfl) rfl ⟨⟨_, _, _, _, rfl, .inl rfl, bs_far hF (fun p h => by have := hp p h; omega) _ _ _⟩, below_st3 (hb3.trans (hb4.mono (by omega))) (by omega) _ _ _⟩
end Go.Proofs.YtidflagmdabfaaaGreatDoor.RtQ
namespace Go.Proofs.YtidflagmdabfaaaGreatDoor.Xd
open Go

structure Bk where
  name : List UInt8
  time : Int
  days : Int
structure Pt where
  number : Int
  size : Int
  etag : List UInt8
def tDays : List UInt8 := [68, 97, 121, 115]
def tBuckets : List UInt8 := [66, 117, 99, 107, 101, 116, 115]
def tPart : List UInt8 := [80, 97, 114, 116]
def tNumber : List UInt8 := [78, 117, 109, 98, 101, 114]
def tUpload : List UInt8 := [85, 112, 108, 111, 97, 100]
def tId : List UInt8 := [73, 100]
def bkBody (b : Bk) : List UInt8 := Xp.tag Xp.tName (Xp.esc b.name) ++ (Xp.tag Xp.tTime (Lib.itoa b.time) ++ Xp.tag tDays (Lib.itoa b.days))
def bkDoc (b : Bk) : List UInt8 := Xp.tag Xp.tBucket (bkBody b)
def docBuckets (bs : List Bk) : List UInt8 := Xp.top ++ Xp.tag tBuckets (bs.map bkDoc).flatten
def ptBody (p : Pt) : List UInt8 := Xp.tag tNumber (Lib.itoa p.number) ++ (Xp.tag Xp.tSize (Lib.itoa p.size) ++ Xp.tag Xp.tEtag (Xp.esc p.etag))
def ptDoc (p : Pt) : List UInt8 := Xp.tag tPart (ptBody p)
def idText (a b c : Int) : List UInt8 := Lib.itoa a ++ ([45] ++ (Lib.itoa b ++ ([45] ++ Lib.itoa c)))
def upBody (key id : List UInt8) (ps : List Pt) : List UInt8 := Xp.tag Xp.tKey (Xp.esc key) ++ (Xp.tag tId id ++ (ps.map ptDoc).flatten)
def docUpload (key id : List UInt8) (ps : List Pt) : List UInt8 := Xp.top ++ Xp.tag tUpload (upBody key id ps)
def docEtag (s : List UInt8) : List UInt8 := Xp.top ++ Xp.tag Xp.tEtag (Xp.esc s)

def I64 (n : Int) : Prop := -9223372036854775808 ≤ n ∧ n ≤ 9223372036854775807
theorem I64.len {n : Int} (h : I64 n) : (Lib.itoa n).length ≤ 21 := Dec.itoa_len h.1 h.2
def BkFits (b : Bk) : Prop := b.name.length ≤ 1048576 ∧ I64 b.time ∧ I64 b.days
def PtFits (p : Pt) : Prop := p.etag.length ≤ 1048576 ∧ I64 p.number ∧ I64 p.size
theorem bk_len {b : Bk} (h : BkFits b) : (bkDoc b).length ≤ 12583300 := by
  have h1 := Xp.esc_len b.name
  have h2 := h.2.1.len
  have h3 := h.2.2.len
  have h4 := h.1
  simp only [bkDoc, bkBody, Xp.tag_len, Xp.tBucket, Xp.tName, Xp.tTime, tDays, List.length_append, List.length_cons, List.length_nil]; omega
theorem pt_len {p : Pt} (h : PtFits p) : (ptDoc p).length ≤ 12583300 := by
  have h1 := Xp.esc_len p.etag
  have h2 := h.2.1.len
  have h3 := h.2.2.len
  have h4 := h.1
  simp only [ptDoc, ptBody, Xp.tag_len, tPart, tNumber, Xp.tSize, Xp.tEtag, List.length_append, List.length_cons, List.length_nil]; omega
theorem bks_len : ∀ {bs : List Bk}, (∀ b ∈ bs, BkFits b) → ((bs.map bkDoc).flatten).length ≤ bs.length * 12583300
  | [], _ => by simp
  | b :: bs, h => by
    have h1 := bk_len (h b List.mem_cons_self)
    have h2 := bks_len (bs := bs) (fun x hx => h x (List.mem_cons_of_mem _ hx))
    simp only [List.map_cons, List.flatten_cons, List.length_append, List.length_cons]
    omega
theorem pts_len : ∀ {ps : List Pt}, (∀ p ∈ ps, PtFits p) → ((ps.map ptDoc).flatten).length ≤ ps.length * 12583300
  | [], _ => by simp
  | p :: ps, h => by
    have h1 := pt_len (h p List.mem_cons_self)
    have h2 := pts_len (ps := ps) (fun x hx => h x (List.mem_cons_of_mem _ hx))
    simp only [List.map_cons, List.flatten_cons, List.length_append, List.length_cons]
    omega
theorem id_len {a b c : Int} (ha : I64 a) (hb : I64 b) (hc : I64 c) : (idText a b c).length ≤ 100 := by
  have h1 := ha.len
  have h2 := hb.len
  have h3 := hc.len
  simp only [idText, List.length_append, List.length_cons, List.length_nil]; omega
theorem esc_id (a b c : Int) : Xp.esc (idText a b c) = idText a b c := by
  refine Dec.esc_plain fun x hx => ?_
  simp only [idText, List.mem_append, List.mem_singleton] at hx
  rcases hx with h | rfl | h | rfl | h
  · exact Dec.itoa_byte x h
  · exact .inl rfl
  · exact Dec.itoa_byte x h
  · exact .inl rfl
  · exact Dec.itoa_byte x h
theorem upBody_len {key : List UInt8} {a b c : Int} {ps : List Pt} (hk : key.length ≤ 1048576) (ha : I64 a) (hb : I64 b) (hc : I64 c) (hn : ps.length ≤ 1048576) (hf : ∀ p ∈ ps, PtFits p) : (upBody key (idText a b c) ps).length ≤ 20000000000000 := by
  have h1 := Xp.esc_len key
  have h2 := id_len ha hb hc
  have h3 := pts_len hf
  simp only [upBody, Xp.tag_len, Xp.tKey, tId, List.length_append, List.length_cons, List.length_nil]
  omega
end Go.Proofs.YtidflagmdabfaaaGreatDoor.Xd
namespace Go.Proofs.YtidflagmdabfaaaGreatDoor.XmlK
open Go.RowKit Go.Proofs.YtidflagmdabfaaaGreatDoor

/-- the digits that stand ahead of those that are written -/
def ahead (u : Nat) : List UInt8 := if u = 0 then [] else Lib.decDigits u
theorem ahead_step (u : Nat) (l : List UInt8) (h : u ≠ 0) : ahead (u / 10) ++ (UInt8.ofNat (48 + u % 10) :: l) = ahead u ++ l := by
  unfold ahead
  rw [if_neg h]
  conv => rhs; rw [Lib.decDigits]
  by_cases h2 : u < 10
  · rw [dif_pos h2, if_pos (by omega), show u % 10 = u by omega]
    rfl
  · rw [dif_neg h2, if_neg (by omega)]
    simp
theorem dec_first (n : Nat) : ahead (n / 10) ++ [UInt8.ofNat (48 + n % 10)] = Lib.decDigits n := by
  by_cases h : n = 0
  · subst h
    rw [Lib.decDigits, dif_pos (by omega)]
    rfl
  · have := ahead_step n [] h
    rw [List.append_nil] at this
    rw [this]
    unfold ahead
    rw [if_neg h]

theorem one (wr : World) (u : Nat) : ∃ d : UInt8, Hid (d = UInt8.ofNat (48 + u % 10)) ∧ (convert 23 9 (.slice (some ⟨wr.heap.size, 0, none⟩) 1 1)).run Tryz.prog (wr.alloc (.cells #[.int .u8 (48 + (u : Int) % 10)] 5)) = .ok (.string ⟨[d].toArray⟩) (wr.alloc (.cells #[.int .u8 (48 + (u : Int) % 10)] 5)) := by
  have h := Com.one_byte (P := Tryz.prog) wr 23 9 5 Tryz.underlying23 Tryz.underlying5 Tryz.underlying9 (48 + u % 10) (by omega)
  rw [show (48 + (u : Int) % 10) = ((48 + u % 10 : Nat) : Int) by omega]
  exact ⟨_, rfl, h⟩
theorem len_of {u m : Nat} {l : List UInt8} (h : ahead u ++ l = Lib.decDigits m) (hm : m ≤ 9223372036854775808) : l.length ≤ 20 := by
  have h1 := congrArg List.length h
  have h2 := Dec.dec_len 19 m (by have : (9223372036854775808 : Nat) < 10 ^ 20 := by decide
                                  omega)
  rw [List.length_append] at h1
  omega

set_option maxHeartbeats 1000000 in
set_option maxRecDepth 100000 in
theorem decimal (n : Nat) (hn : n ≤ 9223372036854775807) (w : World) :
    Calls Tryz.prog 58 #[.int .i64 n] w fun e w' => e = .returned (.string ⟨(Lib.decDigits n).toArray⟩) ∧ Below w.heap.size w w' := by
  go_enter Tryz.func58, Tryz.ntmps58
  go_wp2
  go_loopg [0, 3] (n + 1) (fun g t s wr => ∃ (u : Nat) (l : List UInt8), t = .int .i64 u ∧ s = .string ⟨l.toArray⟩ ∧ u ≤ 9223372036854775807 ∧ Below w.heap.size w wr ∧ ((l = [] ∧ u = n ∧ g = n + 1) ∨ (l ≠ [] ∧ u = g ∧ Hid (ahead u ++ l = Lib.decDigits n))))
  case atStart => exact ⟨n, [], rfl, rfl, hn, Below.refl _ _, .inl ⟨rfl, rfl, rfl⟩⟩
  case round =>
    obtain ⟨u, l, rfl, rfl, hu, hb, h⟩ := hrel
    have hsz := hb.size
    obtain ⟨d, HX, conv⟩ := one wr u
    rcases h with ⟨rfl, rfl, rfl⟩ | ⟨hl, rfl, H⟩
    · have HD := Lib.hid (dec_first u)
      rw [← HX.out] at HD
      go_wp2
      go_roundg (u / 10)
      case measure => omega
      case rel =>
        exact ⟨u / 10, [d], by go_num, Com.cat rfl, by omega, hb.alloc hsz _, .inr ⟨by simp, rfl, HD⟩⟩
    · have he : l.isEmpty = false := by cases l with
        | nil => exact absurd rfl hl
        | cons _ _ => rfl
      have hll := len_of H.out (by omega)
      clear hl
      by_cases h0 : u = 0
      · subst h0
        go_wp2
        go_ret
        exact ⟨Com.str_eq rfl (by rw [← H.out]; rfl), hb⟩
      · have HD := Lib.hid ((ahead_step u l h0).trans H.out)
        rw [← HX.out] at HD
        clear H
        go_wp2
        go_roundg (u / 10)
        case measure => omega
        case rel =>
          exact ⟨u / 10, d :: l, by go_num, Com.cat rfl, by omega, hb.alloc hsz _, .inr ⟨by simp, rfl, HD⟩⟩

set_option maxHeartbeats 1000000 in
set_option maxRecDepth 100000 in
theorem signed (n : Int) (h0 : -9223372036854775808 ≤ n) (h1 : n ≤ 9223372036854775807) (w : World) :
    Calls Tryz.prog 160 #[.int .i64 n] w fun e w' => e = .returned (.string ⟨(Lib.itoa n).toArray⟩) ∧ Below w.heap.size w w' := by
  by_cases hn : 0 ≤ n
  · obtain ⟨m, rfl⟩ : ∃ m : Nat, n = m := ⟨n.toNat, by omega⟩
    have HI := Lib.hid (show Lib.itoa (m : Int) = Lib.decDigits m by unfold Lib.itoa; rw [if_neg (by omega)]; rfl)
    have hm : m ≤ 9223372036854775807 := by omega
    clear h0 h1 hn
    go_enter Tryz.func160, Tryz.ntmps160
    go_wp2_with fail
    refine (decimal m hm w).mono ?_
    rintro e w1 ⟨rfl, b1⟩
    go_wp2
    go_ret
    exact ⟨Com.str_eq rfl HI.out.symm, b1⟩
  · obtain ⟨m, rfl⟩ : ∃ m : Nat, n = -(m : Int) := ⟨n.natAbs, by omega⟩
    have hm0 : m ≠ 0 := by omega
    have hm : m ≤ 9223372036854775808 := by omega
    have HI := Lib.hid (show Lib.itoa (-(m : Int)) = 45 :: Lib.decDigits m by unfold Lib.itoa; rw [if_pos (by omega), Int.natAbs_neg, Int.natAbs_natCast])
    clear h0 h1
    go_enter Tryz.func160, Tryz.ntmps160
    go_wp2
    go_loopg [0, 3] m (fun g t s wr => ∃ (l : List UInt8), t = .int .i64 (-(g : Int)) ∧ s = .string ⟨l.toArray⟩ ∧ g ≤ m ∧ Below w.heap.size w wr ∧ Hid (ahead g ++ l = Lib.decDigits m))
    case atStart => exact ⟨[], rfl, rfl, Nat.le_refl _, Below.refl _ _, (show Hid _ by unfold Hid ahead; rw [if_neg hm0, List.append_nil])⟩
    case round =>
      obtain ⟨l, rfl, rfl, hu, hb, H⟩ := hrel
      have hsz := hb.size
      obtain ⟨d, HX, conv⟩ := one wr gk
      have hll := len_of H.out hm
      by_cases h0 : gk = 0
      · subst h0
        go_wp2
        go_ret
        exact ⟨Com.str_eq rfl (by rw [HI.out, ← H.out]; rfl), hb⟩
      · have HD := Lib.hid ((ahead_step gk l h0).trans H.out)
        rw [← HX.out] at HD
        have hne : (-(gk : Int) != 0) = true := by simp only [bne_iff_ne, ne_eq]; omega
        clear H
        go_wp2
        go_roundg (gk / 10)
        case measure => omega
        case rel =>
          exact ⟨d :: l, by go_num, Com.cat rfl, by omega, hb.alloc hsz _, HD⟩

set_option maxHeartbeats 1000000 in
theorem num (name : ByteArray) (n : Int) (h0 : -9223372036854775808 ≤ n) (h1 : n ≤ 9223372036854775807) (w : World) (hn : name.size ≤ 4194304) :
    Calls Tryz.prog 114 #[.string name, .int .i64 n] w fun e w' => e = .returned (.string ⟨(Xp.tag name.data.toList (Lib.itoa n)).toArray⟩) ∧ Below w.heap.size w w' := by
  have hl : (Lib.itoa n).length ≤ 4194304 := by have := Dec.itoa_len h0 h1; omega
  go_enter Tryz.func114, Tryz.ntmps114
  go_wp2_with fail
  refine (signed n h0 h1 w).mono ?_
  rintro e w1 ⟨rfl, b1⟩
  go_wp2_with fail
  refine (XmlB.refTagS name _ w1 (by omega) (by rw [Com.size_mk]; omega)).mono ?_
  rintro e w2 ⟨rfl, rfl⟩
  go_wp2
  go_ret
  exact ⟨Com.str_eq rfl rfl, b1⟩
end Go.Proofs.YtidflagmdabfaaaGreatDoor.XmlK
namespace Go.Proofs.YtidflagmdabfaaaGreatDoor.XmlH
open Go.RowKit Go.Proofs.YtidflagmdabfaaaGreatDoor

/-- the table of powers that Itoa reads -/
def Tab (w : World) : Prop := Lib.TabIs Tryz.prog w "internal/strconv.uint64pow10" .u64 Lib.pow10Tab

theorem tabNum : Tryz.prog.globalNamed "internal/strconv.uint64pow10" = some 19 := by kernel_rfl
theorem Tab.below {w w' : World} (h : Tab w) (hb : Below w.heap.size w w') : Tab w' := by
  refine var?_below hb tabNum ?_ h
  unfold Tab Lib.TabIs World.var? at h
  simp only [tabNum, Option.bind_some] at h
  rcases Nat.lt_or_ge 19 w.heap.size with h1 | h1
  · exact h1
  · rw [Array.getElem?_eq_none h1] at h
    cases h

set_option maxHeartbeats 1000000 in
theorem number (name : ByteArray) (n : Int) (h0 : -9223372036854775808 ≤ n) (h1 : n ≤ 9223372036854775807) (w : World) (hn : name.size ≤ 4194304) (ht : Tab w) :
    Calls Tryz.prog 110 #[.string name, .int .i64 n] w fun e w' => e = .returned (.string ⟨(Xp.tag name.data.toList (Lib.itoa n)).toArray⟩) ∧ Below w.heap.size w w' := by
  have hl : (Lib.itoa n).length ≤ 4194304 := by have := Dec.itoa_len h0 h1; omega
  have ht' := Lib.hid ht
  clear ht
  go_enter Tryz.func110, Tryz.ntmps110
  go_wp2_with fail
  refine (Tryz.strconv_Itoa n h0 h1 _ ht'.out).mono ?_
  rintro e w1 ⟨rfl, k, os, rfl⟩
  have hb1 := Lib.below_grow w.heap.size w (Nat.le_refl _) k os
  generalize Sort.grow (w.drewN k) os = w1 at *
  go_wp2_with fail
  refine (XmlC.text name ⟨(Lib.itoa n).toArray⟩ _ hn (by rw [Com.size_mk]; exact hl)).mono ?_
  rintro e w2 ⟨rfl, hb2⟩
  go_wp2
  go_ret
  exact ⟨Com.str_eq rfl (by rw [Dec.esc_itoa]), hb1.trans (hb2.mono hb1.size)⟩
end Go.Proofs.YtidflagmdabfaaaGreatDoor.XmlH
