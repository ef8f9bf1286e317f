/-
  The walks of package bollardref21's Refuse and Code. (Printed by mkrefr.py.)
-/
import Derived.Test.YtidflagmdabfaaaGreatDoorRq01
import Derived.Test.YtidflagmdabfaaaGreatDoorRq04
import Derived.StillTailTactics
namespace Go.Proofs.YtidflagmdabfaaaGreatDoor.RtY
open Go.RowKit Go.Proofs.YtidflagmdabfaaaGreatDoor Go.Proofs.YtidflagmdabfaaaGreatDoor.HtW Go.Proofs.YtidflagmdabfaaaGreatDoor.RtA

theorem hp1 (w : World) (o : Obj) {o' : Obj} : ((w.alloc o').alloc o).heap[w.heap.size + 1]? = some o := by
  have := heap_alloc_new (w.alloc o') o
  rwa [World.size_alloc] at this

set_option maxHeartbeats 4000000 in
set_option maxRecDepth 100000 in
theorem ref0 (w : World) :
    Calls Tryz.prog 30 #[.int .i64 0] w fun e w' => FPost 500 (Xp.docError [73, 110, 116, 101, 114, 110, 97, 108]) w.heap.size w' e ∧ Below w.heap.size w w' := by
  have hb0 := (Below.refl w.heap.size w).alloc (Nat.le_refl _) (.cells #[.int .i64 0, .slice none 0 0, .slice none 0 0] 56)
  have hR0 : Rb w.heap.size (w.alloc (.cells #[.int .i64 0, .slice none 0 0, .slice none 0 0] 56)) _ _ _ := heap_alloc_new w _
  have hlt : w.heap.size < (w.alloc (.cells #[.int .i64 0, .slice none 0 0, .slice none 0 0] 56)).heap.size := by rw [World.size_alloc]; omega
  have KF := Lib.hid (RtV.failed 500 ⟨[73, 110, 116, 101, 114, 110, 97, 108].toArray⟩ (w.alloc (.cells #[.int .i64 0, .slice none 0 0, .slice none 0 0] 56)) (by decide))
  go_enter Tryz.func30, Tryz.ntmps30
  go_wp2_with (first
    | (go_at_call 61; refine KF.out.mono ?_; rintro e w2 ⟨⟨aF, cF, rfl, hF, hp⟩, hb2⟩; obtain ⟨r0, r1, r2, f0, f1, f2⟩ := (hR0.below hb2).cells))
  have hB2 := hb0.trans (hb2.mono hb0.size)
  refine bodyPost_ret (Rb.run 2 ((hR0.below hb2).put _ _ _) rfl rfl) rfl ⟨⟨_, _, rfl, bs_far hF (fun p h => by have := hp p h; omega) _ _ _, fun p h => by have := hp p h; omega⟩, below_st3 hB2 (Nat.le_refl _) _ _ _⟩
set_option maxHeartbeats 4000000 in
set_option maxRecDepth 100000 in
theorem ref1 (w : World) :
    Calls Tryz.prog 30 #[.int .i64 1] w fun e w' => FPost 500 (Xp.docError [73, 110, 116, 101, 114, 110, 97, 108]) w.heap.size w' e ∧ Below w.heap.size w w' := by
  have hb0 := (Below.refl w.heap.size w).alloc (Nat.le_refl _) (.cells #[.int .i64 0, .slice none 0 0, .slice none 0 0] 56)
  have hR0 : Rb w.heap.size (w.alloc (.cells #[.int .i64 0, .slice none 0 0, .slice none 0 0] 56)) _ _ _ := heap_alloc_new w _
  have hlt : w.heap.size < (w.alloc (.cells #[.int .i64 0, .slice none 0 0, .slice none 0 0] 56)).heap.size := by rw [World.size_alloc]; omega
  have KF := Lib.hid (RtV.failed 500 ⟨[73, 110, 116, 101, 114, 110, 97, 108].toArray⟩ (w.alloc (.cells #[.int .i64 0, .slice none 0 0, .slice none 0 0] 56)) (by decide))
  go_enter Tryz.func30, Tryz.ntmps30
  go_wp2_with (first
    | (go_at_call 61; refine KF.out.mono ?_; rintro e w2 ⟨⟨aF, cF, rfl, hF, hp⟩, hb2⟩; obtain ⟨r0, r1, r2, f0, f1, f2⟩ := (hR0.below hb2).cells))
  have hB2 := hb0.trans (hb2.mono hb0.size)
  refine bodyPost_ret (Rb.run 2 ((hR0.below hb2).put _ _ _) rfl rfl) rfl ⟨⟨_, _, rfl, bs_far hF (fun p h => by have := hp p h; omega) _ _ _, fun p h => by have := hp p h; omega⟩, below_st3 hB2 (Nat.le_refl _) _ _ _⟩
set_option maxHeartbeats 4000000 in
set_option maxRecDepth 100000 in
theorem ref2 (w : World) :
    Calls Tryz.prog 30 #[.int .i64 2] w fun e w' => FPost 400 (Xp.docError [66, 97, 100, 82, 101, 113, 117, 101, 115, 116]) w.heap.size w' e ∧ Below w.heap.size w w' := by
  have hb0 := (Below.refl w.heap.size w).alloc (Nat.le_refl _) (.cells #[.int .i64 0, .slice none 0 0, .slice none 0 0] 56)
  have hR0 : Rb w.heap.size (w.alloc (.cells #[.int .i64 0, .slice none 0 0, .slice none 0 0] 56)) _ _ _ := heap_alloc_new w _
  have hlt : w.heap.size < (w.alloc (.cells #[.int .i64 0, .slice none 0 0, .slice none 0 0] 56)).heap.size := by rw [World.size_alloc]; omega
  have KF := Lib.hid (RtV.failed 400 ⟨[66, 97, 100, 82, 101, 113, 117, 101, 115, 116].toArray⟩ (w.alloc (.cells #[.int .i64 0, .slice none 0 0, .slice none 0 0] 56)) (by decide))
  go_enter Tryz.func30, Tryz.ntmps30
  go_wp2_with (first
    | (go_at_call 61; refine KF.out.mono ?_; rintro e w2 ⟨⟨aF, cF, rfl, hF, hp⟩, hb2⟩; obtain ⟨r0, r1, r2, f0, f1, f2⟩ := (hR0.below hb2).cells))
  have hB2 := hb0.trans (hb2.mono hb0.size)
  refine bodyPost_ret (Rb.run 2 ((hR0.below hb2).put _ _ _) rfl rfl) rfl ⟨⟨_, _, rfl, bs_far hF (fun p h => by have := hp p h; omega) _ _ _, fun p h => by have := hp p h; omega⟩, below_st3 hB2 (Nat.le_refl _) _ _ _⟩
set_option maxHeartbeats 4000000 in
set_option maxRecDepth 100000 in
theorem ref3 (w : World) :
    Calls Tryz.prog 30 #[.int .i64 3] w fun e w' => FPost 400 (Xp.docError [66, 97, 100, 82, 101, 113, 117, 101, 115, 116]) w.heap.size w' e ∧ Below w.heap.size w w' := by
  have hb0 := (Below.refl w.heap.size w).alloc (Nat.le_refl _) (.cells #[.int .i64 0, .slice none 0 0, .slice none 0 0] 56)
  have hR0 : Rb w.heap.size (w.alloc (.cells #[.int .i64 0, .slice none 0 0, .slice none 0 0] 56)) _ _ _ := heap_alloc_new w _
  have hlt : w.heap.size < (w.alloc (.cells #[.int .i64 0, .slice none 0 0, .slice none 0 0] 56)).heap.size := by rw [World.size_alloc]; omega
  have KF := Lib.hid (RtV.failed 400 ⟨[66, 97, 100, 82, 101, 113, 117, 101, 115, 116].toArray⟩ (w.alloc (.cells #[.int .i64 0, .slice none 0 0, .slice none 0 0] 56)) (by decide))
  go_enter Tryz.func30, Tryz.ntmps30
  go_wp2_with (first
    | (go_at_call 61; refine KF.out.mono ?_; rintro e w2 ⟨⟨aF, cF, rfl, hF, hp⟩, hb2⟩; obtain ⟨r0, r1, r2, f0, f1, f2⟩ := (hR0.below hb2).cells))
  have hB2 := hb0.trans (hb2.mono hb0.size)
  refine bodyPost_ret (Rb.run 2 ((hR0.below hb2).put _ _ _) rfl rfl) rfl ⟨⟨_, _, rfl, bs_far hF (fun p h => by have := hp p h; omega) _ _ _, fun p h => by have := hp p h; omega⟩, below_st3 hB2 (Nat.le_refl _) _ _ _⟩
set_option maxHeartbeats 4000000 in
set_option maxRecDepth 100000 in
theorem ref4 (w : World) :
    Calls Tryz.prog 30 #[.int .i64 4] w fun e w' => FPost 503 (Xp.docError [85, 110, 97, 118, 97, 105, 108, 97, 98, 108, 101]) w.heap.size w' e ∧ Below w.heap.size w w' := by
  have hb0 := (Below.refl w.heap.size w).alloc (Nat.le_refl _) (.cells #[.int .i64 0, .slice none 0 0, .slice none 0 0] 56)
  have hR0 : Rb w.heap.size (w.alloc (.cells #[.int .i64 0, .slice none 0 0, .slice none 0 0] 56)) _ _ _ := heap_alloc_new w _
  have hlt : w.heap.size < (w.alloc (.cells #[.int .i64 0, .slice none 0 0, .slice none 0 0] 56)).heap.size := by rw [World.size_alloc]; omega
  have KF := Lib.hid (RtV.failed 503 ⟨[85, 110, 97, 118, 97, 105, 108, 97, 98, 108, 101].toArray⟩ (w.alloc (.cells #[.int .i64 0, .slice none 0 0, .slice none 0 0] 56)) (by decide))
  go_enter Tryz.func30, Tryz.ntmps30
  go_wp2_with (first
    | (go_at_call 61; refine KF.out.mono ?_; rintro e w2 ⟨⟨aF, cF, rfl, hF, hp⟩, hb2⟩; obtain ⟨r0, r1, r2, f0, f1, f2⟩ := (hR0.below hb2).cells))
  have hB2 := hb0.trans (hb2.mono hb0.size)
  refine bodyPost_ret (Rb.run 2 ((hR0.below hb2).put _ _ _) rfl rfl) rfl ⟨⟨_, _, rfl, bs_far hF (fun p h => by have := hp p h; omega) _ _ _, fun p h => by have := hp p h; omega⟩, below_st3 hB2 (Nat.le_refl _) _ _ _⟩
set_option maxHeartbeats 4000000 in
set_option maxRecDepth 100000 in
theorem ref5 (w : World) :
    Calls Tryz.prog 30 #[.int .i64 5] w fun e w' => FPost 500 (Xp.docError [73, 110, 116, 101, 114, 110, 97, 108]) w.heap.size w' e ∧ Below w.heap.size w w' := by
  have hb0 := (Below.refl w.heap.size w).alloc (Nat.le_refl _) (.cells #[.int .i64 0, .slice none 0 0, .slice none 0 0] 56)
  have hR0 : Rb w.heap.size (w.alloc (.cells #[.int .i64 0, .slice none 0 0, .slice none 0 0] 56)) _ _ _ := heap_alloc_new w _
  have hlt : w.heap.size < (w.alloc (.cells #[.int .i64 0, .slice none 0 0, .slice none 0 0] 56)).heap.size := by rw [World.size_alloc]; omega
  have KF := Lib.hid (RtV.failed 500 ⟨[73, 110, 116, 101, 114, 110, 97, 108].toArray⟩ (w.alloc (.cells #[.int .i64 0, .slice none 0 0, .slice none 0 0] 56)) (by decide))
  go_enter Tryz.func30, Tryz.ntmps30
  go_wp2_with (first
    | (go_at_call 61; refine KF.out.mono ?_; rintro e w2 ⟨⟨aF, cF, rfl, hF, hp⟩, hb2⟩; obtain ⟨r0, r1, r2, f0, f1, f2⟩ := (hR0.below hb2).cells))
  have hB2 := hb0.trans (hb2.mono hb0.size)
  refine bodyPost_ret (Rb.run 2 ((hR0.below hb2).put _ _ _) rfl rfl) rfl ⟨⟨_, _, rfl, bs_far hF (fun p h => by have := hp p h; omega) _ _ _, fun p h => by have := hp p h; omega⟩, below_st3 hB2 (Nat.le_refl _) _ _ _⟩
set_option maxHeartbeats 4000000 in
set_option maxRecDepth 100000 in
theorem ref6 (w : World) :
    Calls Tryz.prog 30 #[.int .i64 6] w fun e w' => FPost 500 (Xp.docError [73, 110, 116, 101, 114, 110, 97, 108]) w.heap.size w' e ∧ Below w.heap.size w w' := by
  have hb0 := (Below.refl w.heap.size w).alloc (Nat.le_refl _) (.cells #[.int .i64 0, .slice none 0 0, .slice none 0 0] 56)
  have hR0 : Rb w.heap.size (w.alloc (.cells #[.int .i64 0, .slice none 0 0, .slice none 0 0] 56)) _ _ _ := heap_alloc_new w _
  have hlt : w.heap.size < (w.alloc (.cells #[.int .i64 0, .slice none 0 0, .slice none 0 0] 56)).heap.size := by rw [World.size_alloc]; omega
  have KF := Lib.hid (RtV.failed 500 ⟨[73, 110, 116, 101, 114, 110, 97, 108].toArray⟩ (w.alloc (.cells #[.int .i64 0, .slice none 0 0, .slice none 0 0] 56)) (by decide))
  go_enter Tryz.func30, Tryz.ntmps30
  go_wp2_with (first
    | (go_at_call 61; refine KF.out.mono ?_; rintro e w2 ⟨⟨aF, cF, rfl, hF, hp⟩, hb2⟩; obtain ⟨r0, r1, r2, f0, f1, f2⟩ := (hR0.below hb2).cells))
  have hB2 := hb0.trans (hb2.mono hb0.size)
  refine bodyPost_ret (Rb.run 2 ((hR0.below hb2).put _ _ _) rfl rfl) rfl ⟨⟨_, _, rfl, bs_far hF (fun p h => by have := hp p h; omega) _ _ _, fun p h => by have := hp p h; omega⟩, below_st3 hB2 (Nat.le_refl _) _ _ _⟩
set_option maxHeartbeats 4000000 in
set_option maxRecDepth 100000 in
theorem ref7 (w : World) :
    Calls Tryz.prog 30 #[.int .i64 7] w fun e w' => FPost 400 (Xp.docError [66, 97, 100, 82, 101, 113, 117, 101, 115, 116]) w.heap.size w' e ∧ Below w.heap.size w w' := by
  have hb0 := (Below.refl w.heap.size w).alloc (Nat.le_refl _) (.cells #[.int .i64 0, .slice none 0 0, .slice none 0 0] 56)
  have hR0 : Rb w.heap.size (w.alloc (.cells #[.int .i64 0, .slice none 0 0, .slice none 0 0] 56)) _ _ _ := heap_alloc_new w _
  have hlt : w.heap.size < (w.alloc (.cells #[.int .i64 0, .slice none 0 0, .slice none 0 0] 56)).heap.size := by rw [World.size_alloc]; omega
  have KF := Lib.hid (RtV.failed 400 ⟨[66, 97, 100, 82, 101, 113, 117, 101, 115, 116].toArray⟩ (w.alloc (.cells #[.int .i64 0, .slice none 0 0, .slice none 0 0] 56)) (by decide))
  go_enter Tryz.func30, Tryz.ntmps30
  go_wp2_with (first
    | (go_at_call 61; refine KF.out.mono ?_; rintro e w2 ⟨⟨aF, cF, rfl, hF, hp⟩, hb2⟩; obtain ⟨r0, r1, r2, f0, f1, f2⟩ := (hR0.below hb2).cells))
  have hB2 := hb0.trans (hb2.mono hb0.size)
  refine bodyPost_ret (Rb.run 2 ((hR0.below hb2).put _ _ _) rfl rfl) rfl ⟨⟨_, _, rfl, bs_far hF (fun p h => by have := hp p h; omega) _ _ _, fun p h => by have := hp p h; omega⟩, below_st3 hB2 (Nat.le_refl _) _ _ _⟩
set_option maxHeartbeats 4000000 in
set_option maxRecDepth 100000 in
theorem ref8 (w : World) :
    Calls Tryz.prog 30 #[.int .i64 8] w fun e w' => FPost 500 (Xp.docError [73, 110, 116, 101, 114, 110, 97, 108]) w.heap.size w' e ∧ Below w.heap.size w w' := by
  have hb0 := (Below.refl w.heap.size w).alloc (Nat.le_refl _) (.cells #[.int .i64 0, .slice none 0 0, .slice none 0 0] 56)
  have hR0 : Rb w.heap.size (w.alloc (.cells #[.int .i64 0, .slice none 0 0, .slice none 0 0] 56)) _ _ _ := heap_alloc_new w _
  have hlt : w.heap.size < (w.alloc (.cells #[.int .i64 0, .slice none 0 0, .slice none 0 0] 56)).heap.size := by rw [World.size_alloc]; omega
  have KF := Lib.hid (RtV.failed 500 ⟨[73, 110, 116, 101, 114, 110, 97, 108].toArray⟩ (w.alloc (.cells #[.int .i64 0, .slice none 0 0, .slice none 0 0] 56)) (by decide))
  go_enter Tryz.func30, Tryz.ntmps30
  go_wp2_with (first
    | (go_at_call 61; refine KF.out.mono ?_; rintro e w2 ⟨⟨aF, cF, rfl, hF, hp⟩, hb2⟩; obtain ⟨r0, r1, r2, f0, f1, f2⟩ := (hR0.below hb2).cells))
  have hB2 := hb0.trans (hb2.mono hb0.size)
  refine bodyPost_ret (Rb.run 2 ((hR0.below hb2).put _ _ _) rfl rfl) rfl ⟨⟨_, _, rfl, bs_far hF (fun p h => by have := hp p h; omega) _ _ _, fun p h => by have := hp p h; omega⟩, below_st3 hB2 (Nat.le_refl _) _ _ _⟩
set_option maxHeartbeats 4000000 in
set_option maxRecDepth 100000 in
theorem ref9 (w : World) :
    Calls Tryz.prog 30 #[.int .i64 9] w fun e w' => FPost 500 (Xp.docError [73, 110, 116, 101, 114, 110, 97, 108]) w.heap.size w' e ∧ Below w.heap.size w w' := by
  have hb0 := (Below.refl w.heap.size w).alloc (Nat.le_refl _) (.cells #[.int .i64 0, .slice none 0 0, .slice none 0 0] 56)
  have hR0 : Rb w.heap.size (w.alloc (.cells #[.int .i64 0, .slice none 0 0, .slice none 0 0] 56)) _ _ _ := heap_alloc_new w _
  have hlt : w.heap.size < (w.alloc (.cells #[.int .i64 0, .slice none 0 0, .slice none 0 0] 56)).heap.size := by rw [World.size_alloc]; omega
  have KF := Lib.hid (RtV.failed 500 ⟨[73, 110, 116, 101, 114, 110, 97, 108].toArray⟩ (w.alloc (.cells #[.int .i64 0, .slice none 0 0, .slice none 0 0] 56)) (by decide))
  go_enter Tryz.func30, Tryz.ntmps30
  go_wp2_with (first
    | (go_at_call 61; refine KF.out.mono ?_; rintro e w2 ⟨⟨aF, cF, rfl, hF, hp⟩, hb2⟩; obtain ⟨r0, r1, r2, f0, f1, f2⟩ := (hR0.below hb2).cells))
  have hB2 := hb0.trans (hb2.mono hb0.size)
  refine bodyPost_ret (Rb.run 2 ((hR0.below hb2).put _ _ _) rfl rfl) rfl ⟨⟨_, _, rfl, bs_far hF (fun p h => by have := hp p h; omega) _ _ _, fun p h => by have := hp p h; omega⟩, below_st3 hB2 (Nat.le_refl _) _ _ _⟩
set_option maxHeartbeats 4000000 in
set_option maxRecDepth 100000 in
theorem ref10 (w : World) :
    Calls Tryz.prog 30 #[.int .i64 10] w fun e w' => FPost 507 (Xp.docError [70, 117, 108, 108]) w.heap.size w' e ∧ Below w.heap.size w w' := by
  have hb0 := (Below.refl w.heap.size w).alloc (Nat.le_refl _) (.cells #[.int .i64 0, .slice none 0 0, .slice none 0 0] 56)
  have hR0 : Rb w.heap.size (w.alloc (.cells #[.int .i64 0, .slice none 0 0, .slice none 0 0] 56)) _ _ _ := heap_alloc_new w _
  have hlt : w.heap.size < (w.alloc (.cells #[.int .i64 0, .slice none 0 0, .slice none 0 0] 56)).heap.size := by rw [World.size_alloc]; omega
  have KF := Lib.hid (RtV.failed 507 ⟨[70, 117, 108, 108].toArray⟩ (w.alloc (.cells #[.int .i64 0, .slice none 0 0, .slice none 0 0] 56)) (by decide))
  go_enter Tryz.func30, Tryz.ntmps30
  go_wp2_with (first
    | (go_at_call 61; refine KF.out.mono ?_; rintro e w2 ⟨⟨aF, cF, rfl, hF, hp⟩, hb2⟩; obtain ⟨r0, r1, r2, f0, f1, f2⟩ := (hR0.below hb2).cells))
  have hB2 := hb0.trans (hb2.mono hb0.size)
  refine bodyPost_ret (Rb.run 2 ((hR0.below hb2).put _ _ _) rfl rfl) rfl ⟨⟨_, _, rfl, bs_far hF (fun p h => by have := hp p h; omega) _ _ _, fun p h => by have := hp p h; omega⟩, below_st3 hB2 (Nat.le_refl _) _ _ _⟩
set_option maxHeartbeats 4000000 in
set_option maxRecDepth 100000 in
theorem ref11 (w : World) :
    Calls Tryz.prog 30 #[.int .i64 11] w fun e w' => FPost 413 (Xp.docError [84, 111, 111, 76, 97, 114, 103, 101]) w.heap.size w' e ∧ Below w.heap.size w w' := by
  have hb0 := (Below.refl w.heap.size w).alloc (Nat.le_refl _) (.cells #[.int .i64 0, .slice none 0 0, .slice none 0 0] 56)
  have hR0 : Rb w.heap.size (w.alloc (.cells #[.int .i64 0, .slice none 0 0, .slice none 0 0] 56)) _ _ _ := heap_alloc_new w _
  have hlt : w.heap.size < (w.alloc (.cells #[.int .i64 0, .slice none 0 0, .slice none 0 0] 56)).heap.size := by rw [World.size_alloc]; omega
  have KF := Lib.hid (RtV.failed 413 ⟨[84, 111, 111, 76, 97, 114, 103, 101].toArray⟩ (w.alloc (.cells #[.int .i64 0, .slice none 0 0, .slice none 0 0] 56)) (by decide))
  go_enter Tryz.func30, Tryz.ntmps30
  go_wp2_with (first
    | (go_at_call 61; refine KF.out.mono ?_; rintro e w2 ⟨⟨aF, cF, rfl, hF, hp⟩, hb2⟩; obtain ⟨r0, r1, r2, f0, f1, f2⟩ := (hR0.below hb2).cells))
  have hB2 := hb0.trans (hb2.mono hb0.size)
  refine bodyPost_ret (Rb.run 2 ((hR0.below hb2).put _ _ _) rfl rfl) rfl ⟨⟨_, _, rfl, bs_far hF (fun p h => by have := hp p h; omega) _ _ _, fun p h => by have := hp p h; omega⟩, below_st3 hB2 (Nat.le_refl _) _ _ _⟩
set_option maxHeartbeats 4000000 in
set_option maxRecDepth 100000 in
theorem ref12 (w : World) :
    Calls Tryz.prog 30 #[.int .i64 12] w fun e w' => FPost 500 (Xp.docError [73, 110, 116, 101, 114, 110, 97, 108]) w.heap.size w' e ∧ Below w.heap.size w w' := by
  have hb0 := (Below.refl w.heap.size w).alloc (Nat.le_refl _) (.cells #[.int .i64 0, .slice none 0 0, .slice none 0 0] 56)
  have hR0 : Rb w.heap.size (w.alloc (.cells #[.int .i64 0, .slice none 0 0, .slice none 0 0] 56)) _ _ _ := heap_alloc_new w _
  have hlt : w.heap.size < (w.alloc (.cells #[.int .i64 0, .slice none 0 0, .slice none 0 0] 56)).heap.size := by rw [World.size_alloc]; omega
  have KF := Lib.hid (RtV.failed 500 ⟨[73, 110, 116, 101, 114, 110, 97, 108].toArray⟩ (w.alloc (.cells #[.int .i64 0, .slice none 0 0, .slice none 0 0] 56)) (by decide))
  go_enter Tryz.func30, Tryz.ntmps30
  go_wp2_with (first
    | (go_at_call 61; refine KF.out.mono ?_; rintro e w2 ⟨⟨aF, cF, rfl, hF, hp⟩, hb2⟩; obtain ⟨r0, r1, r2, f0, f1, f2⟩ := (hR0.below hb2).cells))
  have hB2 := hb0.trans (hb2.mono hb0.size)
  refine bodyPost_ret (Rb.run 2 ((hR0.below hb2).put _ _ _) rfl rfl) rfl ⟨⟨_, _, rfl, bs_far hF (fun p h => by have := hp p h; omega) _ _ _, fun p h => by have := hp p h; omega⟩, below_st3 hB2 (Nat.le_refl _) _ _ _⟩
set_option maxHeartbeats 4000000 in
set_option maxRecDepth 100000 in
theorem ref13 (w : World) :
    Calls Tryz.prog 30 #[.int .i64 13] w fun e w' => FPost 400 (Xp.docError [66, 97, 100, 82, 101, 113, 117, 101, 115, 116]) w.heap.size w' e ∧ Below w.heap.size w w' := by
  have hb0 := (Below.refl w.heap.size w).alloc (Nat.le_refl _) (.cells #[.int .i64 0, .slice none 0 0, .slice none 0 0] 56)
  have hR0 : Rb w.heap.size (w.alloc (.cells #[.int .i64 0, .slice none 0 0, .slice none 0 0] 56)) _ _ _ := heap_alloc_new w _
  have hlt : w.heap.size < (w.alloc (.cells #[.int .i64 0, .slice none 0 0, .slice none 0 0] 56)).heap.size := by rw [World.size_alloc]; omega
  have KF := Lib.hid (RtV.failed 400 ⟨[66, 97, 100, 82, 101, 113, 117, 101, 115, 116].toArray⟩ (w.alloc (.cells #[.int .i64 0, .slice none 0 0, .slice none 0 0] 56)) (by decide))
  go_enter Tryz.func30, Tryz.ntmps30
  go_wp2_with (first
    | (go_at_call 61; refine KF.out.mono ?_; rintro e w2 ⟨⟨aF, cF, rfl, hF, hp⟩, hb2⟩; obtain ⟨r0, r1, r2, f0, f1, f2⟩ := (hR0.below hb2).cells))
  have hB2 := hb0.trans (hb2.mono hb0.size)
  refine bodyPost_ret (Rb.run 2 ((hR0.below hb2).put _ _ _) rfl rfl) rfl ⟨⟨_, _, rfl, bs_far hF (fun p h => by have := hp p h; omega) _ _ _, fun p h => by have := hp p h; omega⟩, below_st3 hB2 (Nat.le_refl _) _ _ _⟩
set_option maxHeartbeats 4000000 in
set_option maxRecDepth 100000 in
theorem ref14 (w : World) :
    Calls Tryz.prog 30 #[.int .i64 14] w fun e w' => FPost 400 (Xp.docError [66, 97, 100, 82, 101, 113, 117, 101, 115, 116]) w.heap.size w' e ∧ Below w.heap.size w w' := by
  have hb0 := (Below.refl w.heap.size w).alloc (Nat.le_refl _) (.cells #[.int .i64 0, .slice none 0 0, .slice none 0 0] 56)
  have hR0 : Rb w.heap.size (w.alloc (.cells #[.int .i64 0, .slice none 0 0, .slice none 0 0] 56)) _ _ _ := heap_alloc_new w _
  have hlt : w.heap.size < (w.alloc (.cells #[.int .i64 0, .slice none 0 0, .slice none 0 0] 56)).heap.size := by rw [World.size_alloc]; omega
  have KF := Lib.hid (RtV.failed 400 ⟨[66, 97, 100, 82, 101, 113, 117, 101, 115, 116].toArray⟩ (w.alloc (.cells #[.int .i64 0, .slice none 0 0, .slice none 0 0] 56)) (by decide))
  go_enter Tryz.func30, Tryz.ntmps30
  go_wp2_with (first
    | (go_at_call 61; refine KF.out.mono ?_; rintro e w2 ⟨⟨aF, cF, rfl, hF, hp⟩, hb2⟩; obtain ⟨r0, r1, r2, f0, f1, f2⟩ := (hR0.below hb2).cells))
  have hB2 := hb0.trans (hb2.mono hb0.size)
  refine bodyPost_ret (Rb.run 2 ((hR0.below hb2).put _ _ _) rfl rfl) rfl ⟨⟨_, _, rfl, bs_far hF (fun p h => by have := hp p h; omega) _ _ _, fun p h => by have := hp p h; omega⟩, below_st3 hB2 (Nat.le_refl _) _ _ _⟩
set_option maxHeartbeats 4000000 in
set_option maxRecDepth 100000 in
theorem ref15 (w : World) :
    Calls Tryz.prog 30 #[.int .i64 15] w fun e w' => FPost 403 (Xp.docError [65, 99, 99, 101, 115, 115, 68, 101, 110, 105, 101, 100]) w.heap.size w' e ∧ Below w.heap.size w w' := by
  have hb0 := (Below.refl w.heap.size w).alloc (Nat.le_refl _) (.cells #[.int .i64 0, .slice none 0 0, .slice none 0 0] 56)
  have hR0 : Rb w.heap.size (w.alloc (.cells #[.int .i64 0, .slice none 0 0, .slice none 0 0] 56)) _ _ _ := heap_alloc_new w _
  have hlt : w.heap.size < (w.alloc (.cells #[.int .i64 0, .slice none 0 0, .slice none 0 0] 56)).heap.size := by rw [World.size_alloc]; omega
  have KF := Lib.hid (RtV.failed 403 ⟨[65, 99, 99, 101, 115, 115, 68, 101, 110, 105, 101, 100].toArray⟩ (w.alloc (.cells #[.int .i64 0, .slice none 0 0, .slice none 0 0] 56)) (by decide))
  go_enter Tryz.func30, Tryz.ntmps30
  go_wp2_with (first
    | (go_at_call 61; refine KF.out.mono ?_; rintro e w2 ⟨⟨aF, cF, rfl, hF, hp⟩, hb2⟩; obtain ⟨r0, r1, r2, f0, f1, f2⟩ := (hR0.below hb2).cells))
  have hB2 := hb0.trans (hb2.mono hb0.size)
  refine bodyPost_ret (Rb.run 2 ((hR0.below hb2).put _ _ _) rfl rfl) rfl ⟨⟨_, _, rfl, bs_far hF (fun p h => by have := hp p h; omega) _ _ _, fun p h => by have := hp p h; omega⟩, below_st3 hB2 (Nat.le_refl _) _ _ _⟩
set_option maxHeartbeats 4000000 in
set_option maxRecDepth 100000 in
theorem ref16 (w : World) :
    Calls Tryz.prog 30 #[.int .i64 16] w fun e w' => FPost 403 (Xp.docError [65, 99, 99, 101, 115, 115, 68, 101, 110, 105, 101, 100]) w.heap.size w' e ∧ Below w.heap.size w w' := by
  have hb0 := (Below.refl w.heap.size w).alloc (Nat.le_refl _) (.cells #[.int .i64 0, .slice none 0 0, .slice none 0 0] 56)
  have hR0 : Rb w.heap.size (w.alloc (.cells #[.int .i64 0, .slice none 0 0, .slice none 0 0] 56)) _ _ _ := heap_alloc_new w _
  have hlt : w.heap.size < (w.alloc (.cells #[.int .i64 0, .slice none 0 0, .slice none 0 0] 56)).heap.size := by rw [World.size_alloc]; omega
  have KF := Lib.hid (RtV.failed 403 ⟨[65, 99, 99, 101, 115, 115, 68, 101, 110, 105, 101, 100].toArray⟩ (w.alloc (.cells #[.int .i64 0, .slice none 0 0, .slice none 0 0] 56)) (by decide))
  go_enter Tryz.func30, Tryz.ntmps30
  go_wp2_with (first
    | (go_at_call 61; refine KF.out.mono ?_; rintro e w2 ⟨⟨aF, cF, rfl, hF, hp⟩, hb2⟩; obtain ⟨r0, r1, r2, f0, f1, f2⟩ := (hR0.below hb2).cells))
  have hB2 := hb0.trans (hb2.mono hb0.size)
  refine bodyPost_ret (Rb.run 2 ((hR0.below hb2).put _ _ _) rfl rfl) rfl ⟨⟨_, _, rfl, bs_far hF (fun p h => by have := hp p h; omega) _ _ _, fun p h => by have := hp p h; omega⟩, below_st3 hB2 (Nat.le_refl _) _ _ _⟩
set_option maxHeartbeats 4000000 in
set_option maxRecDepth 100000 in
theorem ref17 (w : World) :
    Calls Tryz.prog 30 #[.int .i64 17] w fun e w' => FPost 405 (Xp.docError [77, 101, 116, 104, 111, 100, 78, 111, 116, 65, 108, 108, 111, 119, 101, 100]) w.heap.size w' e ∧ Below w.heap.size w w' := by
  have hb0 := (Below.refl w.heap.size w).alloc (Nat.le_refl _) (.cells #[.int .i64 0, .slice none 0 0, .slice none 0 0] 56)
  have hR0 : Rb w.heap.size (w.alloc (.cells #[.int .i64 0, .slice none 0 0, .slice none 0 0] 56)) _ _ _ := heap_alloc_new w _
  have hlt : w.heap.size < (w.alloc (.cells #[.int .i64 0, .slice none 0 0, .slice none 0 0] 56)).heap.size := by rw [World.size_alloc]; omega
  have KF := Lib.hid (RtV.failed 405 ⟨[77, 101, 116, 104, 111, 100, 78, 111, 116, 65, 108, 108, 111, 119, 101, 100].toArray⟩ (w.alloc (.cells #[.int .i64 0, .slice none 0 0, .slice none 0 0] 56)) (by decide))
  go_enter Tryz.func30, Tryz.ntmps30
  go_wp2_with (first
    | (go_at_call 61; refine KF.out.mono ?_; rintro e w2 ⟨⟨aF, cF, rfl, hF, hp⟩, hb2⟩; obtain ⟨r0, r1, r2, f0, f1, f2⟩ := (hR0.below hb2).cells))
  have hB2 := hb0.trans (hb2.mono hb0.size)
  refine bodyPost_ret (Rb.run 2 ((hR0.below hb2).put _ _ _) rfl rfl) rfl ⟨⟨_, _, rfl, bs_far hF (fun p h => by have := hp p h; omega) _ _ _, fun p h => by have := hp p h; omega⟩, below_st3 hB2 (Nat.le_refl _) _ _ _⟩
set_option maxHeartbeats 4000000 in
set_option maxRecDepth 100000 in
theorem ref18 (w : World) :
    Calls Tryz.prog 30 #[.int .i64 18] w fun e w' => FPost 500 (Xp.docError [73, 110, 116, 101, 114, 110, 97, 108]) w.heap.size w' e ∧ Below w.heap.size w w' := by
  have hb0 := (Below.refl w.heap.size w).alloc (Nat.le_refl _) (.cells #[.int .i64 0, .slice none 0 0, .slice none 0 0] 56)
  have hR0 : Rb w.heap.size (w.alloc (.cells #[.int .i64 0, .slice none 0 0, .slice none 0 0] 56)) _ _ _ := heap_alloc_new w _
  have hlt : w.heap.size < (w.alloc (.cells #[.int .i64 0, .slice none 0 0, .slice none 0 0] 56)).heap.size := by rw [World.size_alloc]; omega
  have KF := Lib.hid (RtV.failed 500 ⟨[73, 110, 116, 101, 114, 110, 97, 108].toArray⟩ (w.alloc (.cells #[.int .i64 0, .slice none 0 0, .slice none 0 0] 56)) (by decide))
  go_enter Tryz.func30, Tryz.ntmps30
  go_wp2_with (first
    | (go_at_call 61; refine KF.out.mono ?_; rintro e w2 ⟨⟨aF, cF, rfl, hF, hp⟩, hb2⟩; obtain ⟨r0, r1, r2, f0, f1, f2⟩ := (hR0.below hb2).cells))
  have hB2 := hb0.trans (hb2.mono hb0.size)
  refine bodyPost_ret (Rb.run 2 ((hR0.below hb2).put _ _ _) rfl rfl) rfl ⟨⟨_, _, rfl, bs_far hF (fun p h => by have := hp p h; omega) _ _ _, fun p h => by have := hp p h; omega⟩, below_st3 hB2 (Nat.le_refl _) _ _ _⟩
set_option maxHeartbeats 4000000 in
set_option maxRecDepth 100000 in
theorem code_at (k : Nat) (st : Int) (nm : List UInt8) (hk : k < 9) (hst : (#[.int .i64 0, .int .i64 404, .int .i64 404, .int .i64 404, .int .i64 409, .int .i64 409, .int .i64 400, .int .i64 409, .int .i64 400] : Array Value)[k]? = some (.int .i64 st)) (hnm : (#[.string ⟨#[]⟩, .string ⟨#[78, 111, 83, 117, 99, 104, 66, 117, 99, 107, 101, 116]⟩, .string ⟨#[78, 111, 83, 117, 99, 104, 75, 101, 121]⟩, .string ⟨#[78, 111, 83, 117, 99, 104, 85, 112, 108, 111, 97, 100]⟩, .string ⟨#[66, 117, 99, 107, 101, 116, 69, 120, 105, 115, 116, 115]⟩, .string ⟨#[66, 117, 99, 107, 101, 116, 78, 111, 116, 69, 109, 112, 116, 121]⟩, .string ⟨#[78, 111, 83, 117, 99, 104, 80, 97, 114, 116]⟩, .string ⟨#[84, 111, 111, 77, 97, 110, 121]⟩, .string ⟨#[66, 97, 100, 82, 101, 113, 117, 101, 115, 116]⟩] : Array Value)[k]? = some (.string ⟨nm.toArray⟩)) (hl : nm.length ≤ 1048576) (w : World) :
    Calls Tryz.prog 65 #[.int .i64 (k : Int)] w fun e w' => FPost st (Xp.docError nm) w.heap.size w' e ∧ Below w.heap.size w w' := by
  obtain ⟨w1, hw1, hb1, hz1, hA, hB, hR⟩ : ∃ w1, w1 = ((w.alloc (.cells #[.int .i64 0, .slice none 0 0, .slice none 0 0] 56)).alloc (.cells #[.int .i64 0, .int .i64 404, .int .i64 404, .int .i64 404, .int .i64 409, .int .i64 409, .int .i64 400, .int .i64 409, .int .i64 400] 3)).alloc (.cells #[.string ⟨#[]⟩, .string ⟨#[78, 111, 83, 117, 99, 104, 66, 117, 99, 107, 101, 116]⟩, .string ⟨#[78, 111, 83, 117, 99, 104, 75, 101, 121]⟩, .string ⟨#[78, 111, 83, 117, 99, 104, 85, 112, 108, 111, 97, 100]⟩, .string ⟨#[66, 117, 99, 107, 101, 116, 69, 120, 105, 115, 116, 115]⟩, .string ⟨#[66, 117, 99, 107, 101, 116, 78, 111, 116, 69, 109, 112, 116, 121]⟩, .string ⟨#[78, 111, 83, 117, 99, 104, 80, 97, 114, 116]⟩, .string ⟨#[84, 111, 111, 77, 97, 110, 121]⟩, .string ⟨#[66, 97, 100, 82, 101, 113, 117, 101, 115, 116]⟩] 9) ∧ Below w.heap.size w w1 ∧ w1.heap.size = w.heap.size + 3 ∧ w1.cell? ⟨w.heap.size + 1, k, none⟩ = some (.int .i64 st) ∧ w1.cell? ⟨w.heap.size + 1 + 1, k, none⟩ = some (.string ⟨nm.toArray⟩) ∧ Rb w.heap.size w1 (.int .i64 0) (.slice none 0 0) (.slice none 0 0) := by
    refine ⟨_, rfl, (((Below.refl _ _).alloc (Nat.le_refl _) _).alloc (by simp) _).alloc (by simp; omega) _, by simp, ?_, ?_, (Below.heap_alloc _ _ _ (by simp; omega)).trans ((Below.heap_alloc _ _ _ (by simp)).trans (heap_alloc_new _ _))⟩
    · rw [Lib.cell_of_heap ((Below.heap_alloc _ _ _ (by simp)).trans (hp1 w _))]; exact hst
    · have := heap_alloc_new ((w.alloc (.cells #[.int .i64 0, .slice none 0 0, .slice none 0 0] 56)).alloc (.cells #[.int .i64 0, .int .i64 404, .int .i64 404, .int .i64 404, .int .i64 409, .int .i64 409, .int .i64 400, .int .i64 409, .int .i64 400] 3)) (.cells #[.string ⟨#[]⟩, .string ⟨#[78, 111, 83, 117, 99, 104, 66, 117, 99, 107, 101, 116]⟩, .string ⟨#[78, 111, 83, 117, 99, 104, 75, 101, 121]⟩, .string ⟨#[78, 111, 83, 117, 99, 104, 85, 112, 108, 111, 97, 100]⟩, .string ⟨#[66, 117, 99, 107, 101, 116, 69, 120, 105, 115, 116, 115]⟩, .string ⟨#[66, 117, 99, 107, 101, 116, 78, 111, 116, 69, 109, 112, 116, 121]⟩, .string ⟨#[78, 111, 83, 117, 99, 104, 80, 97, 114, 116]⟩, .string ⟨#[84, 111, 111, 77, 97, 110, 121]⟩, .string ⟨#[66, 97, 100, 82, 101, 113, 117, 101, 115, 116]⟩] 9)
      rw [World.size_alloc, World.size_alloc] at this
      rw [Lib.cell_of_heap this]; exact hnm
  clear hst hnm
  have h0 : (0 : Int) ≤ (k : Int) := by omega
  have h9 : (k : Int) < 9 := by omega
  go_enter Tryz.func65, Tryz.ntmps65
  go_upto_region 3 with fail
  rw [← hw1]
  clear hw1
  have KF := Lib.hid (RtV.failed st ⟨nm.toArray⟩ w1.drew (by rw [Com.size_mk]; exact hl))
  have hR1 : Rb w.heap.size w1.drew (.int .i64 0) (.slice none 0 0) (.slice none 0 0) := hR
  have hz2 : w.heap.size < w1.drew.heap.size := by show w.heap.size < w1.heap.size; omega
  have hb2 : Below w.heap.size w w1.drew := hb1.drew
  go_still_tail 8, (by kernel_rfl)
  change wpList _ _ _ _ _ w1.drew
  generalize w1.drew = w2 at *
  clear hA hB hz1 hb1 hR
  go_wp2_with (first
    | (go_at_call 61; refine KF.out.mono ?_; rintro e w4 ⟨⟨aF, cF, rfl, hF, hp⟩, hb4⟩; obtain ⟨r0, r1, r2, f0, f1, f2⟩ := (hR1.below hb4).cells))
  refine bodyPost_ret (Rb.run 2 ((hR1.below hb4).put _ _ _) rfl rfl) rfl ⟨⟨_, _, rfl, bs_far hF (fun p h => by have := hp p h; omega) _ _ _, fun p h => by have := hp p h; omega⟩, below_st3 (hb2.trans (hb4.mono (by omega))) (Nat.le_refl _) _ _ _⟩
theorem code (v : Int) (h1 : 1 ≤ v) (h8 : v ≤ 8) (w : World) :
    Calls Tryz.prog 65 #[.int .i64 v] w fun e w' => FPost (RtO.cst v) (Xp.docError (RtO.cnm v)) w.heap.size w' e ∧ Below w.heap.size w w' := by
  obtain rfl | rfl | rfl | rfl | rfl | rfl | rfl | rfl : v = 1 ∨ v = 2 ∨ v = 3 ∨ v = 4 ∨ v = 5 ∨ v = 6 ∨ v = 7 ∨ v = 8 := by omega
  · rw [show RtO.cst 1 = 404 by decide, show RtO.cnm 1 = [78, 111, 83, 117, 99, 104, 66, 117, 99, 107, 101, 116] by decide]
    exact code_at 1 404 [78, 111, 83, 117, 99, 104, 66, 117, 99, 107, 101, 116] (by decide) rfl rfl (by decide) w
  · rw [show RtO.cst 2 = 404 by decide, show RtO.cnm 2 = [78, 111, 83, 117, 99, 104, 75, 101, 121] by decide]
    exact code_at 2 404 [78, 111, 83, 117, 99, 104, 75, 101, 121] (by decide) rfl rfl (by decide) w
  · rw [show RtO.cst 3 = 404 by decide, show RtO.cnm 3 = [78, 111, 83, 117, 99, 104, 85, 112, 108, 111, 97, 100] by decide]
    exact code_at 3 404 [78, 111, 83, 117, 99, 104, 85, 112, 108, 111, 97, 100] (by decide) rfl rfl (by decide) w
  · rw [show RtO.cst 4 = 409 by decide, show RtO.cnm 4 = [66, 117, 99, 107, 101, 116, 69, 120, 105, 115, 116, 115] by decide]
    exact code_at 4 409 [66, 117, 99, 107, 101, 116, 69, 120, 105, 115, 116, 115] (by decide) rfl rfl (by decide) w
  · rw [show RtO.cst 5 = 409 by decide, show RtO.cnm 5 = [66, 117, 99, 107, 101, 116, 78, 111, 116, 69, 109, 112, 116, 121] by decide]
    exact code_at 5 409 [66, 117, 99, 107, 101, 116, 78, 111, 116, 69, 109, 112, 116, 121] (by decide) rfl rfl (by decide) w
  · rw [show RtO.cst 6 = 400 by decide, show RtO.cnm 6 = [78, 111, 83, 117, 99, 104, 80, 97, 114, 116] by decide]
    exact code_at 6 400 [78, 111, 83, 117, 99, 104, 80, 97, 114, 116] (by decide) rfl rfl (by decide) w
  · rw [show RtO.cst 7 = 409 by decide, show RtO.cnm 7 = [84, 111, 111, 77, 97, 110, 121] by decide]
    exact code_at 7 409 [84, 111, 111, 77, 97, 110, 121] (by decide) rfl rfl (by decide) w
  · rw [show RtO.cst 8 = 400 by decide, show RtO.cnm 8 = [66, 97, 100, 82, 101, 113, 117, 101, 115, 116] by decide]
    exact code_at 8 400 [66, 97, 100, 82, 101, 113, 117, 101, 115, 116] (by decide) rfl rfl (by decide) w
end Go.Proofs.YtidflagmdabfaaaGreatDoor.RtY
