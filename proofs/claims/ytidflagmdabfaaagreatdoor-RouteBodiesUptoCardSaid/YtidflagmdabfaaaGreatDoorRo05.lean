/-
  The walk of package route's Refuse. (Printed by mkrefuse.py.)
-/
import Derived.Test.YtidflagmdabfaaaGreatDoorRo01
namespace Go.Proofs.YtidflagmdabfaaaGreatDoor.RtB
open Go.RowKit Go.Proofs.YtidflagmdabfaaaGreatDoor Go.Proofs.YtidflagmdabfaaaGreatDoor.HtW Go.Proofs.YtidflagmdabfaaaGreatDoor.RtA Go.Proofs.YtidflagmdabfaaaGreatDoor.IsE

/-- the errors that Refuse asks for -/
abbrev R11 : List Nat := [1, 2, 3, 6, 9, 10, 12, 13, 14, 15, 16]
/-- what a refusal says: its status and its code -/
def rst (k : Nat) : Int := if k = 12 ∨ k = 13 ∨ k = 6 ∨ k = 1 ∨ k = 2 then 400 else if k = 14 ∨ k = 15 then 403 else if k = 16 then 405 else if k = 10 then 413 else if k = 9 then 507 else if k = 3 then 503 else 500
def rcode (k : Nat) : List UInt8 := if k = 12 ∨ k = 13 ∨ k = 6 ∨ k = 1 ∨ k = 2 then [66, 97, 100, 82, 101, 113, 117, 101, 115, 116] else if k = 14 ∨ k = 15 then [65, 99, 99, 101, 115, 115, 68, 101, 110, 105, 101, 100] else if k = 16 then [77, 101, 116, 104, 111, 100, 78, 111, 116, 65, 108, 108, 111, 119, 101, 100] else if k = 10 then [84, 111, 111, 76, 97, 114, 103, 101] else if k = 9 then [70, 117, 108, 108] else if k = 3 then [85, 110, 97, 118, 97, 105, 108, 97, 98, 108, 101] else [73, 110, 116, 101, 114, 110, 97, 108]
set_option maxHeartbeats 4000000 in
set_option maxRecDepth 100000 in
theorem refuse12 {w : World} {es : List Addr} (h : Sm R11 w es) {a : Addr} (ha : es[12]? = some a) :
    Calls Tryz.prog 29 #[Err.ev a] w fun e w' => FPost 400 (Xp.docError [66, 97, 100, 82, 101, 113, 117, 101, 115, 116]) w.heap.size w' e ∧ Below w.heap.size w w' := by
  obtain ⟨tk, gk, ak, xk, yk, zk, hk⟩ := h.at (i := 12) (by decide) (by decide)
  obtain rfl : a = ak := Option.some.inj (ha.symm.trans zk)
  cases xk
  cases yk
  clear zk
  have hb0 := (Below.refl w.heap.size w).alloc (Nat.le_refl _) (.cells #[.int .i64 0, .slice none 0 0, .slice none 0 0] 56)
  have hR0 : Rb w.heap.size (w.alloc (.cells #[.int .i64 0, .slice none 0 0, .slice none 0 0] 56)) _ _ _ := heap_alloc_new w _
  obtain ⟨w0, hw0⟩ : ∃ w0, w0 = w.alloc (.cells #[.int .i64 0, .slice none 0 0, .slice none 0 0] 56) := ⟨_, rfl⟩
  rw [← hw0] at hb0 hR0
  obtain ⟨t12, g12, a12, x12, y12, z12, e12⟩ := h.at (i := 12) (by decide) (by decide)
  cases x12
  cases y12
  have c12 := (e12.below hb0).cell
  obtain rfl : a = a12 := Option.some.inj (ha.symm.trans z12)
  have K12 := Lib.hid (is_same a w0)
  clear e12 z12
  rw [hw0] at c12 K12
  have KF := Lib.hid (failed 400 ⟨[66, 97, 100, 82, 101, 113, 117, 101, 115, 116].toArray⟩ w0 (by decide))
  rw [hw0] at KF
  go_enter Tryz.func29, Tryz.ntmps29
  go_wp2_with fail
  refine K12.out.mono ?_
  rintro e w1 ⟨rfl, hw1⟩
  subst hw1
  clear c12 K12
  go_wp2_with fail
  refine KF.out.mono ?_
  rintro e w2 ⟨⟨aF, cF, rfl, hF, hp⟩, hb2⟩
  rw [← hw0] at hb2 hp
  obtain ⟨r0, r1, r2, f0, f1, f2⟩ := (hR0.below hb2).cells
  have hB2 := hb0.trans (hb2.mono hb0.size)
  go_wp2_with fail
  have hlt : w.heap.size < w0.heap.size := by rw [hw0, World.size_alloc]; omega
  refine bodyPost_ret (Rb.run 2 ((hR0.below hb2).put _ _ _) rfl rfl) rfl ⟨⟨_, _, rfl, bs_far hF (fun p h => by have := hp p h; omega) _ _ _, fun p h => by have := hp p h; omega⟩, below_st3 hB2 (Nat.le_refl _) _ _ _⟩
set_option maxHeartbeats 4000000 in
set_option maxRecDepth 100000 in
theorem refuse13 {w : World} {es : List Addr} (h : Sm R11 w es) {a : Addr} (ha : es[13]? = some a) :
    Calls Tryz.prog 29 #[Err.ev a] w fun e w' => FPost 400 (Xp.docError [66, 97, 100, 82, 101, 113, 117, 101, 115, 116]) w.heap.size w' e ∧ Below w.heap.size w w' := by
  obtain ⟨tk, gk, ak, xk, yk, zk, hk⟩ := h.at (i := 13) (by decide) (by decide)
  obtain rfl : a = ak := Option.some.inj (ha.symm.trans zk)
  cases xk
  cases yk
  clear zk
  have hb0 := (Below.refl w.heap.size w).alloc (Nat.le_refl _) (.cells #[.int .i64 0, .slice none 0 0, .slice none 0 0] 56)
  have hR0 : Rb w.heap.size (w.alloc (.cells #[.int .i64 0, .slice none 0 0, .slice none 0 0] 56)) _ _ _ := heap_alloc_new w _
  obtain ⟨w0, hw0⟩ : ∃ w0, w0 = w.alloc (.cells #[.int .i64 0, .slice none 0 0, .slice none 0 0] 56) := ⟨_, rfl⟩
  rw [← hw0] at hb0 hR0
  obtain ⟨t12, g12, a12, x12, y12, z12, e12⟩ := h.at (i := 12) (by decide) (by decide)
  cases x12
  cases y12
  have c12 := (e12.below hb0).cell
  have K12 := Lib.hid (is_er (hk.below hb0) (e12.below hb0) (by first | exact htn 12 (by decide) rfl | decide +kernel))
  clear e12 z12
  obtain ⟨t13, g13, a13, x13, y13, z13, e13⟩ := h.at (i := 13) (by decide) (by decide)
  cases x13
  cases y13
  have c13 := (e13.below hb0).cell
  obtain rfl : a = a13 := Option.some.inj (ha.symm.trans z13)
  have K13 := Lib.hid (is_same a w0)
  clear e13 z13
  rw [hw0] at c12 K12 c13 K13
  have KF := Lib.hid (failed 400 ⟨[66, 97, 100, 82, 101, 113, 117, 101, 115, 116].toArray⟩ w0 (by decide))
  rw [hw0] at KF
  go_enter Tryz.func29, Tryz.ntmps29
  go_wp2_with fail
  refine K12.out.mono ?_
  rintro e w1 ⟨rfl, hw1⟩
  subst hw1
  clear c12 K12
  go_wp2_with fail
  refine K13.out.mono ?_
  rintro e w1 ⟨rfl, hw1⟩
  subst hw1
  clear c13 K13
  go_wp2_with fail
  refine KF.out.mono ?_
  rintro e w2 ⟨⟨aF, cF, rfl, hF, hp⟩, hb2⟩
  rw [← hw0] at hb2 hp
  obtain ⟨r0, r1, r2, f0, f1, f2⟩ := (hR0.below hb2).cells
  have hB2 := hb0.trans (hb2.mono hb0.size)
  go_wp2_with fail
  have hlt : w.heap.size < w0.heap.size := by rw [hw0, World.size_alloc]; omega
  refine bodyPost_ret (Rb.run 2 ((hR0.below hb2).put _ _ _) rfl rfl) rfl ⟨⟨_, _, rfl, bs_far hF (fun p h => by have := hp p h; omega) _ _ _, fun p h => by have := hp p h; omega⟩, below_st3 hB2 (Nat.le_refl _) _ _ _⟩
set_option maxHeartbeats 4000000 in
set_option maxRecDepth 100000 in
theorem refuse6 {w : World} {es : List Addr} (h : Sm R11 w es) {a : Addr} (ha : es[6]? = some a) :
    Calls Tryz.prog 29 #[Err.ev a] w fun e w' => FPost 400 (Xp.docError [66, 97, 100, 82, 101, 113, 117, 101, 115, 116]) w.heap.size w' e ∧ Below w.heap.size w w' := by
  obtain ⟨tk, gk, ak, xk, yk, zk, hk⟩ := h.at (i := 6) (by decide) (by decide)
  obtain rfl : a = ak := Option.some.inj (ha.symm.trans zk)
  cases xk
  cases yk
  clear zk
  have hb0 := (Below.refl w.heap.size w).alloc (Nat.le_refl _) (.cells #[.int .i64 0, .slice none 0 0, .slice none 0 0] 56)
  have hR0 : Rb w.heap.size (w.alloc (.cells #[.int .i64 0, .slice none 0 0, .slice none 0 0] 56)) _ _ _ := heap_alloc_new w _
  obtain ⟨w0, hw0⟩ : ∃ w0, w0 = w.alloc (.cells #[.int .i64 0, .slice none 0 0, .slice none 0 0] 56) := ⟨_, rfl⟩
  rw [← hw0] at hb0 hR0
  obtain ⟨t12, g12, a12, x12, y12, z12, e12⟩ := h.at (i := 12) (by decide) (by decide)
  cases x12
  cases y12
  have c12 := (e12.below hb0).cell
  have K12 := Lib.hid (is_er (hk.below hb0) (e12.below hb0) (by first | exact htn 12 (by decide) rfl | decide +kernel))
  clear e12 z12
  obtain ⟨t13, g13, a13, x13, y13, z13, e13⟩ := h.at (i := 13) (by decide) (by decide)
  cases x13
  cases y13
  have c13 := (e13.below hb0).cell
  have K13 := Lib.hid (is_er (hk.below hb0) (e13.below hb0) (by first | exact htn 13 (by decide) rfl | decide +kernel))
  clear e13 z13
  obtain ⟨t6, g6, a6, x6, y6, z6, e6⟩ := h.at (i := 6) (by decide) (by decide)
  cases x6
  cases y6
  have c6 := (e6.below hb0).cell
  obtain rfl : a = a6 := Option.some.inj (ha.symm.trans z6)
  have K6 := Lib.hid (is_same a w0)
  clear e6 z6
  rw [hw0] at c12 K12 c13 K13 c6 K6
  have KF := Lib.hid (failed 400 ⟨[66, 97, 100, 82, 101, 113, 117, 101, 115, 116].toArray⟩ w0 (by decide))
  rw [hw0] at KF
  go_enter Tryz.func29, Tryz.ntmps29
  go_wp2_with fail
  refine K12.out.mono ?_
  rintro e w1 ⟨rfl, hw1⟩
  subst hw1
  clear c12 K12
  go_wp2_with fail
  refine K13.out.mono ?_
  rintro e w1 ⟨rfl, hw1⟩
  subst hw1
  clear c13 K13
  go_wp2_with fail
  refine K6.out.mono ?_
  rintro e w1 ⟨rfl, hw1⟩
  subst hw1
  clear c6 K6
  go_wp2_with fail
  refine KF.out.mono ?_
  rintro e w2 ⟨⟨aF, cF, rfl, hF, hp⟩, hb2⟩
  rw [← hw0] at hb2 hp
  obtain ⟨r0, r1, r2, f0, f1, f2⟩ := (hR0.below hb2).cells
  have hB2 := hb0.trans (hb2.mono hb0.size)
  go_wp2_with fail
  have hlt : w.heap.size < w0.heap.size := by rw [hw0, World.size_alloc]; omega
  refine bodyPost_ret (Rb.run 2 ((hR0.below hb2).put _ _ _) rfl rfl) rfl ⟨⟨_, _, rfl, bs_far hF (fun p h => by have := hp p h; omega) _ _ _, fun p h => by have := hp p h; omega⟩, below_st3 hB2 (Nat.le_refl _) _ _ _⟩
set_option maxHeartbeats 4000000 in
set_option maxRecDepth 100000 in
theorem refuse1 {w : World} {es : List Addr} (h : Sm R11 w es) {a : Addr} (ha : es[1]? = some a) :
    Calls Tryz.prog 29 #[Err.ev a] w fun e w' => FPost 400 (Xp.docError [66, 97, 100, 82, 101, 113, 117, 101, 115, 116]) w.heap.size w' e ∧ Below w.heap.size w w' := by
  obtain ⟨tk, gk, ak, xk, yk, zk, hk⟩ := h.at (i := 1) (by decide) (by decide)
  obtain rfl : a = ak := Option.some.inj (ha.symm.trans zk)
  cases xk
  cases yk
  clear zk
  have hb0 := (Below.refl w.heap.size w).alloc (Nat.le_refl _) (.cells #[.int .i64 0, .slice none 0 0, .slice none 0 0] 56)
  have hR0 : Rb w.heap.size (w.alloc (.cells #[.int .i64 0, .slice none 0 0, .slice none 0 0] 56)) _ _ _ := heap_alloc_new w _
  obtain ⟨w0, hw0⟩ : ∃ w0, w0 = w.alloc (.cells #[.int .i64 0, .slice none 0 0, .slice none 0 0] 56) := ⟨_, rfl⟩
  rw [← hw0] at hb0 hR0
  obtain ⟨t12, g12, a12, x12, y12, z12, e12⟩ := h.at (i := 12) (by decide) (by decide)
  cases x12
  cases y12
  have c12 := (e12.below hb0).cell
  have K12 := Lib.hid (is_er (hk.below hb0) (e12.below hb0) (by first | exact htn 12 (by decide) rfl | decide +kernel))
  clear e12 z12
  obtain ⟨t13, g13, a13, x13, y13, z13, e13⟩ := h.at (i := 13) (by decide) (by decide)
  cases x13
  cases y13
  have c13 := (e13.below hb0).cell
  have K13 := Lib.hid (is_er (hk.below hb0) (e13.below hb0) (by first | exact htn 13 (by decide) rfl | decide +kernel))
  clear e13 z13
  obtain ⟨t6, g6, a6, x6, y6, z6, e6⟩ := h.at (i := 6) (by decide) (by decide)
  cases x6
  cases y6
  have c6 := (e6.below hb0).cell
  have K6 := Lib.hid (is_er (hk.below hb0) (e6.below hb0) (by first | exact htn 6 (by decide) rfl | decide +kernel))
  clear e6 z6
  obtain ⟨t1, g1, a1, x1, y1, z1, e1⟩ := h.at (i := 1) (by decide) (by decide)
  cases x1
  cases y1
  have c1 := (e1.below hb0).cell
  obtain rfl : a = a1 := Option.some.inj (ha.symm.trans z1)
  have K1 := Lib.hid (is_same a w0)
  clear e1 z1
  rw [hw0] at c12 K12 c13 K13 c6 K6 c1 K1
  have KF := Lib.hid (failed 400 ⟨[66, 97, 100, 82, 101, 113, 117, 101, 115, 116].toArray⟩ w0 (by decide))
  rw [hw0] at KF
  go_enter Tryz.func29, Tryz.ntmps29
  go_wp2_with fail
  refine K12.out.mono ?_
  rintro e w1 ⟨rfl, hw1⟩
  subst hw1
  clear c12 K12
  go_wp2_with fail
  refine K13.out.mono ?_
  rintro e w1 ⟨rfl, hw1⟩
  subst hw1
  clear c13 K13
  go_wp2_with fail
  refine K6.out.mono ?_
  rintro e w1 ⟨rfl, hw1⟩
  subst hw1
  clear c6 K6
  go_wp2_with fail
  refine K1.out.mono ?_
  rintro e w1 ⟨rfl, hw1⟩
  subst hw1
  clear c1 K1
  go_wp2_with fail
  refine KF.out.mono ?_
  rintro e w2 ⟨⟨aF, cF, rfl, hF, hp⟩, hb2⟩
  rw [← hw0] at hb2 hp
  obtain ⟨r0, r1, r2, f0, f1, f2⟩ := (hR0.below hb2).cells
  have hB2 := hb0.trans (hb2.mono hb0.size)
  go_wp2_with fail
  have hlt : w.heap.size < w0.heap.size := by rw [hw0, World.size_alloc]; omega
  refine bodyPost_ret (Rb.run 2 ((hR0.below hb2).put _ _ _) rfl rfl) rfl ⟨⟨_, _, rfl, bs_far hF (fun p h => by have := hp p h; omega) _ _ _, fun p h => by have := hp p h; omega⟩, below_st3 hB2 (Nat.le_refl _) _ _ _⟩
set_option maxHeartbeats 4000000 in
set_option maxRecDepth 100000 in
theorem refuse2 {w : World} {es : List Addr} (h : Sm R11 w es) {a : Addr} (ha : es[2]? = some a) :
    Calls Tryz.prog 29 #[Err.ev a] w fun e w' => FPost 400 (Xp.docError [66, 97, 100, 82, 101, 113, 117, 101, 115, 116]) w.heap.size w' e ∧ Below w.heap.size w w' := by
  obtain ⟨tk, gk, ak, xk, yk, zk, hk⟩ := h.at (i := 2) (by decide) (by decide)
  obtain rfl : a = ak := Option.some.inj (ha.symm.trans zk)
  cases xk
  cases yk
  clear zk
  have hb0 := (Below.refl w.heap.size w).alloc (Nat.le_refl _) (.cells #[.int .i64 0, .slice none 0 0, .slice none 0 0] 56)
  have hR0 : Rb w.heap.size (w.alloc (.cells #[.int .i64 0, .slice none 0 0, .slice none 0 0] 56)) _ _ _ := heap_alloc_new w _
  obtain ⟨w0, hw0⟩ : ∃ w0, w0 = w.alloc (.cells #[.int .i64 0, .slice none 0 0, .slice none 0 0] 56) := ⟨_, rfl⟩
  rw [← hw0] at hb0 hR0
  obtain ⟨t12, g12, a12, x12, y12, z12, e12⟩ := h.at (i := 12) (by decide) (by decide)
  cases x12
  cases y12
  have c12 := (e12.below hb0).cell
  have K12 := Lib.hid (is_er (hk.below hb0) (e12.below hb0) (by first | exact htn 12 (by decide) rfl | decide +kernel))
  clear e12 z12
  obtain ⟨t13, g13, a13, x13, y13, z13, e13⟩ := h.at (i := 13) (by decide) (by decide)
  cases x13
  cases y13
  have c13 := (e13.below hb0).cell
  have K13 := Lib.hid (is_er (hk.below hb0) (e13.below hb0) (by first | exact htn 13 (by decide) rfl | decide +kernel))
  clear e13 z13
  obtain ⟨t6, g6, a6, x6, y6, z6, e6⟩ := h.at (i := 6) (by decide) (by decide)
  cases x6
  cases y6
  have c6 := (e6.below hb0).cell
  have K6 := Lib.hid (is_er (hk.below hb0) (e6.below hb0) (by first | exact htn 6 (by decide) rfl | decide +kernel))
  clear e6 z6
  obtain ⟨t1, g1, a1, x1, y1, z1, e1⟩ := h.at (i := 1) (by decide) (by decide)
  cases x1
  cases y1
  have c1 := (e1.below hb0).cell
  have K1 := Lib.hid (is_er (hk.below hb0) (e1.below hb0) (by first | exact htn 1 (by decide) rfl | decide +kernel))
  clear e1 z1
  obtain ⟨t2, g2, a2, x2, y2, z2, e2⟩ := h.at (i := 2) (by decide) (by decide)
  cases x2
  cases y2
  have c2 := (e2.below hb0).cell
  obtain rfl : a = a2 := Option.some.inj (ha.symm.trans z2)
  have K2 := Lib.hid (is_same a w0)
  clear e2 z2
  rw [hw0] at c12 K12 c13 K13 c6 K6 c1 K1 c2 K2
  have KF := Lib.hid (failed 400 ⟨[66, 97, 100, 82, 101, 113, 117, 101, 115, 116].toArray⟩ w0 (by decide))
  rw [hw0] at KF
  go_enter Tryz.func29, Tryz.ntmps29
  go_wp2_with fail
  refine K12.out.mono ?_
  rintro e w1 ⟨rfl, hw1⟩
  subst hw1
  clear c12 K12
  go_wp2_with fail
  refine K13.out.mono ?_
  rintro e w1 ⟨rfl, hw1⟩
  subst hw1
  clear c13 K13
  go_wp2_with fail
  refine K6.out.mono ?_
  rintro e w1 ⟨rfl, hw1⟩
  subst hw1
  clear c6 K6
  go_wp2_with fail
  refine K1.out.mono ?_
  rintro e w1 ⟨rfl, hw1⟩
  subst hw1
  clear c1 K1
  go_wp2_with fail
  refine K2.out.mono ?_
  rintro e w1 ⟨rfl, hw1⟩
  subst hw1
  clear c2 K2
  go_wp2_with fail
  refine KF.out.mono ?_
  rintro e w2 ⟨⟨aF, cF, rfl, hF, hp⟩, hb2⟩
  rw [← hw0] at hb2 hp
  obtain ⟨r0, r1, r2, f0, f1, f2⟩ := (hR0.below hb2).cells
  have hB2 := hb0.trans (hb2.mono hb0.size)
  go_wp2_with fail
  have hlt : w.heap.size < w0.heap.size := by rw [hw0, World.size_alloc]; omega
  refine bodyPost_ret (Rb.run 2 ((hR0.below hb2).put _ _ _) rfl rfl) rfl ⟨⟨_, _, rfl, bs_far hF (fun p h => by have := hp p h; omega) _ _ _, fun p h => by have := hp p h; omega⟩, below_st3 hB2 (Nat.le_refl _) _ _ _⟩
set_option maxHeartbeats 4000000 in
set_option maxRecDepth 100000 in
theorem refuse14 {w : World} {es : List Addr} (h : Sm R11 w es) {a : Addr} (ha : es[14]? = some a) :
    Calls Tryz.prog 29 #[Err.ev a] w fun e w' => FPost 403 (Xp.docError [65, 99, 99, 101, 115, 115, 68, 101, 110, 105, 101, 100]) w.heap.size w' e ∧ Below w.heap.size w w' := by
  obtain ⟨tk, gk, ak, xk, yk, zk, hk⟩ := h.at (i := 14) (by decide) (by decide)
  obtain rfl : a = ak := Option.some.inj (ha.symm.trans zk)
  cases xk
  cases yk
  clear zk
  have hb0 := (Below.refl w.heap.size w).alloc (Nat.le_refl _) (.cells #[.int .i64 0, .slice none 0 0, .slice none 0 0] 56)
  have hR0 : Rb w.heap.size (w.alloc (.cells #[.int .i64 0, .slice none 0 0, .slice none 0 0] 56)) _ _ _ := heap_alloc_new w _
  obtain ⟨w0, hw0⟩ : ∃ w0, w0 = w.alloc (.cells #[.int .i64 0, .slice none 0 0, .slice none 0 0] 56) := ⟨_, rfl⟩
  rw [← hw0] at hb0 hR0
  obtain ⟨t12, g12, a12, x12, y12, z12, e12⟩ := h.at (i := 12) (by decide) (by decide)
  cases x12
  cases y12
  have c12 := (e12.below hb0).cell
  have K12 := Lib.hid (is_er (hk.below hb0) (e12.below hb0) (by first | exact htn 12 (by decide) rfl | decide +kernel))
  clear e12 z12
  obtain ⟨t13, g13, a13, x13, y13, z13, e13⟩ := h.at (i := 13) (by decide) (by decide)
  cases x13
  cases y13
  have c13 := (e13.below hb0).cell
  have K13 := Lib.hid (is_er (hk.below hb0) (e13.below hb0) (by first | exact htn 13 (by decide) rfl | decide +kernel))
  clear e13 z13
  obtain ⟨t6, g6, a6, x6, y6, z6, e6⟩ := h.at (i := 6) (by decide) (by decide)
  cases x6
  cases y6
  have c6 := (e6.below hb0).cell
  have K6 := Lib.hid (is_er (hk.below hb0) (e6.below hb0) (by first | exact htn 6 (by decide) rfl | decide +kernel))
  clear e6 z6
  obtain ⟨t1, g1, a1, x1, y1, z1, e1⟩ := h.at (i := 1) (by decide) (by decide)
  cases x1
  cases y1
  have c1 := (e1.below hb0).cell
  have K1 := Lib.hid (is_er (hk.below hb0) (e1.below hb0) (by first | exact htn 1 (by decide) rfl | decide +kernel))
  clear e1 z1
  obtain ⟨t2, g2, a2, x2, y2, z2, e2⟩ := h.at (i := 2) (by decide) (by decide)
  cases x2
  cases y2
  have c2 := (e2.below hb0).cell
  have K2 := Lib.hid (is_er (hk.below hb0) (e2.below hb0) (by first | exact htn 2 (by decide) rfl | decide +kernel))
  clear e2 z2
  obtain ⟨t14, g14, a14, x14, y14, z14, e14⟩ := h.at (i := 14) (by decide) (by decide)
  cases x14
  cases y14
  have c14 := (e14.below hb0).cell
  obtain rfl : a = a14 := Option.some.inj (ha.symm.trans z14)
  have K14 := Lib.hid (is_same a w0)
  clear e14 z14
  rw [hw0] at c12 K12 c13 K13 c6 K6 c1 K1 c2 K2 c14 K14
  have KF := Lib.hid (failed 403 ⟨[65, 99, 99, 101, 115, 115, 68, 101, 110, 105, 101, 100].toArray⟩ w0 (by decide))
  rw [hw0] at KF
  go_enter Tryz.func29, Tryz.ntmps29
  go_wp2_with fail
  refine K12.out.mono ?_
  rintro e w1 ⟨rfl, hw1⟩
  subst hw1
  clear c12 K12
  go_wp2_with fail
  refine K13.out.mono ?_
  rintro e w1 ⟨rfl, hw1⟩
  subst hw1
  clear c13 K13
  go_wp2_with fail
  refine K6.out.mono ?_
  rintro e w1 ⟨rfl, hw1⟩
  subst hw1
  clear c6 K6
  go_wp2_with fail
  refine K1.out.mono ?_
  rintro e w1 ⟨rfl, hw1⟩
  subst hw1
  clear c1 K1
  go_wp2_with fail
  refine K2.out.mono ?_
  rintro e w1 ⟨rfl, hw1⟩
  subst hw1
  clear c2 K2
  go_wp2_with fail
  refine K14.out.mono ?_
  rintro e w1 ⟨rfl, hw1⟩
  subst hw1
  clear c14 K14
  go_wp2_with fail
  refine KF.out.mono ?_
  rintro e w2 ⟨⟨aF, cF, rfl, hF, hp⟩, hb2⟩
  rw [← hw0] at hb2 hp
  obtain ⟨r0, r1, r2, f0, f1, f2⟩ := (hR0.below hb2).cells
  have hB2 := hb0.trans (hb2.mono hb0.size)
  go_wp2_with fail
  have hlt : w.heap.size < w0.heap.size := by rw [hw0, World.size_alloc]; omega
  refine bodyPost_ret (Rb.run 2 ((hR0.below hb2).put _ _ _) rfl rfl) rfl ⟨⟨_, _, rfl, bs_far hF (fun p h => by have := hp p h; omega) _ _ _, fun p h => by have := hp p h; omega⟩, below_st3 hB2 (Nat.le_refl _) _ _ _⟩
set_option maxHeartbeats 4000000 in
set_option maxRecDepth 100000 in
theorem refuse15 {w : World} {es : List Addr} (h : Sm R11 w es) {a : Addr} (ha : es[15]? = some a) :
    Calls Tryz.prog 29 #[Err.ev a] w fun e w' => FPost 403 (Xp.docError [65, 99, 99, 101, 115, 115, 68, 101, 110, 105, 101, 100]) w.heap.size w' e ∧ Below w.heap.size w w' := by
  obtain ⟨tk, gk, ak, xk, yk, zk, hk⟩ := h.at (i := 15) (by decide) (by decide)
  obtain rfl : a = ak := Option.some.inj (ha.symm.trans zk)
  cases xk
  cases yk
  clear zk
  have hb0 := (Below.refl w.heap.size w).alloc (Nat.le_refl _) (.cells #[.int .i64 0, .slice none 0 0, .slice none 0 0] 56)
  have hR0 : Rb w.heap.size (w.alloc (.cells #[.int .i64 0, .slice none 0 0, .slice none 0 0] 56)) _ _ _ := heap_alloc_new w _
  obtain ⟨w0, hw0⟩ : ∃ w0, w0 = w.alloc (.cells #[.int .i64 0, .slice none 0 0, .slice none 0 0] 56) := ⟨_, rfl⟩
  rw [← hw0] at hb0 hR0
  obtain ⟨t12, g12, a12, x12, y12, z12, e12⟩ := h.at (i := 12) (by decide) (by decide)
  cases x12
  cases y12
  have c12 := (e12.below hb0).cell
  have K12 := Lib.hid (is_er (hk.below hb0) (e12.below hb0) (by first | exact htn 12 (by decide) rfl | decide +kernel))
  clear e12 z12
  obtain ⟨t13, g13, a13, x13, y13, z13, e13⟩ := h.at (i := 13) (by decide) (by decide)
  cases x13
  cases y13
  have c13 := (e13.below hb0).cell
  have K13 := Lib.hid (is_er (hk.below hb0) (e13.below hb0) (by first | exact htn 13 (by decide) rfl | decide +kernel))
  clear e13 z13
  obtain ⟨t6, g6, a6, x6, y6, z6, e6⟩ := h.at (i := 6) (by decide) (by decide)
  cases x6
  cases y6
  have c6 := (e6.below hb0).cell
  have K6 := Lib.hid (is_er (hk.below hb0) (e6.below hb0) (by first | exact htn 6 (by decide) rfl | decide +kernel))
  clear e6 z6
  obtain ⟨t1, g1, a1, x1, y1, z1, e1⟩ := h.at (i := 1) (by decide) (by decide)
  cases x1
  cases y1
  have c1 := (e1.below hb0).cell
  have K1 := Lib.hid (is_er (hk.below hb0) (e1.below hb0) (by first | exact htn 1 (by decide) rfl | decide +kernel))
  clear e1 z1
  obtain ⟨t2, g2, a2, x2, y2, z2, e2⟩ := h.at (i := 2) (by decide) (by decide)
  cases x2
  cases y2
  have c2 := (e2.below hb0).cell
  have K2 := Lib.hid (is_er (hk.below hb0) (e2.below hb0) (by first | exact htn 2 (by decide) rfl | decide +kernel))
  clear e2 z2
  obtain ⟨t14, g14, a14, x14, y14, z14, e14⟩ := h.at (i := 14) (by decide) (by decide)
  cases x14
  cases y14
  have c14 := (e14.below hb0).cell
  have K14 := Lib.hid (is_er (hk.below hb0) (e14.below hb0) (by first | exact htn 14 (by decide) rfl | decide +kernel))
  clear e14 z14
  obtain ⟨t15, g15, a15, x15, y15, z15, e15⟩ := h.at (i := 15) (by decide) (by decide)
  cases x15
  cases y15
  have c15 := (e15.below hb0).cell
  obtain rfl : a = a15 := Option.some.inj (ha.symm.trans z15)
  have K15 := Lib.hid (is_same a w0)
  clear e15 z15
  rw [hw0] at c12 K12 c13 K13 c6 K6 c1 K1 c2 K2 c14 K14 c15 K15
  have KF := Lib.hid (failed 403 ⟨[65, 99, 99, 101, 115, 115, 68, 101, 110, 105, 101, 100].toArray⟩ w0 (by decide))
  rw [hw0] at KF
  go_enter Tryz.func29, Tryz.ntmps29
  go_wp2_with fail
  refine K12.out.mono ?_
  rintro e w1 ⟨rfl, hw1⟩
  subst hw1
  clear c12 K12
  go_wp2_with fail
  refine K13.out.mono ?_
  rintro e w1 ⟨rfl, hw1⟩
  subst hw1
  clear c13 K13
  go_wp2_with fail
  refine K6.out.mono ?_
  rintro e w1 ⟨rfl, hw1⟩
  subst hw1
  clear c6 K6
  go_wp2_with fail
  refine K1.out.mono ?_
  rintro e w1 ⟨rfl, hw1⟩
  subst hw1
  clear c1 K1
  go_wp2_with fail
  refine K2.out.mono ?_
  rintro e w1 ⟨rfl, hw1⟩
  subst hw1
  clear c2 K2
  go_wp2_with fail
  refine K14.out.mono ?_
  rintro e w1 ⟨rfl, hw1⟩
  subst hw1
  clear c14 K14
  go_wp2_with fail
  refine K15.out.mono ?_
  rintro e w1 ⟨rfl, hw1⟩
  subst hw1
  clear c15 K15
  go_wp2_with fail
  refine KF.out.mono ?_
  rintro e w2 ⟨⟨aF, cF, rfl, hF, hp⟩, hb2⟩
  rw [← hw0] at hb2 hp
  obtain ⟨r0, r1, r2, f0, f1, f2⟩ := (hR0.below hb2).cells
  have hB2 := hb0.trans (hb2.mono hb0.size)
  go_wp2_with fail
  have hlt : w.heap.size < w0.heap.size := by rw [hw0, World.size_alloc]; omega
  refine bodyPost_ret (Rb.run 2 ((hR0.below hb2).put _ _ _) rfl rfl) rfl ⟨⟨_, _, rfl, bs_far hF (fun p h => by have := hp p h; omega) _ _ _, fun p h => by have := hp p h; omega⟩, below_st3 hB2 (Nat.le_refl _) _ _ _⟩
set_option maxHeartbeats 4000000 in
set_option maxRecDepth 100000 in
theorem refuse16 {w : World} {es : List Addr} (h : Sm R11 w es) {a : Addr} (ha : es[16]? = some a) :
    Calls Tryz.prog 29 #[Err.ev a] w fun e w' => FPost 405 (Xp.docError [77, 101, 116, 104, 111, 100, 78, 111, 116, 65, 108, 108, 111, 119, 101, 100]) w.heap.size w' e ∧ Below w.heap.size w w' := by
  obtain ⟨tk, gk, ak, xk, yk, zk, hk⟩ := h.at (i := 16) (by decide) (by decide)
  obtain rfl : a = ak := Option.some.inj (ha.symm.trans zk)
  cases xk
  cases yk
  clear zk
  have hb0 := (Below.refl w.heap.size w).alloc (Nat.le_refl _) (.cells #[.int .i64 0, .slice none 0 0, .slice none 0 0] 56)
  have hR0 : Rb w.heap.size (w.alloc (.cells #[.int .i64 0, .slice none 0 0, .slice none 0 0] 56)) _ _ _ := heap_alloc_new w _
  obtain ⟨w0, hw0⟩ : ∃ w0, w0 = w.alloc (.cells #[.int .i64 0, .slice none 0 0, .slice none 0 0] 56) := ⟨_, rfl⟩
  rw [← hw0] at hb0 hR0
  obtain ⟨t12, g12, a12, x12, y12, z12, e12⟩ := h.at (i := 12) (by decide) (by decide)
  cases x12
  cases y12
  have c12 := (e12.below hb0).cell
  have K12 := Lib.hid (is_er (hk.below hb0) (e12.below hb0) (by first | exact htn 12 (by decide) rfl | decide +kernel))
  clear e12 z12
  obtain ⟨t13, g13, a13, x13, y13, z13, e13⟩ := h.at (i := 13) (by decide) (by decide)
  cases x13
  cases y13
  have c13 := (e13.below hb0).cell
  have K13 := Lib.hid (is_er (hk.below hb0) (e13.below hb0) (by first | exact htn 13 (by decide) rfl | decide +kernel))
  clear e13 z13
  obtain ⟨t6, g6, a6, x6, y6, z6, e6⟩ := h.at (i := 6) (by decide) (by decide)
  cases x6
  cases y6
  have c6 := (e6.below hb0).cell
  have K6 := Lib.hid (is_er (hk.below hb0) (e6.below hb0) (by first | exact htn 6 (by decide) rfl | decide +kernel))
  clear e6 z6
  obtain ⟨t1, g1, a1, x1, y1, z1, e1⟩ := h.at (i := 1) (by decide) (by decide)
  cases x1
  cases y1
  have c1 := (e1.below hb0).cell
  have K1 := Lib.hid (is_er (hk.below hb0) (e1.below hb0) (by first | exact htn 1 (by decide) rfl | decide +kernel))
  clear e1 z1
  obtain ⟨t2, g2, a2, x2, y2, z2, e2⟩ := h.at (i := 2) (by decide) (by decide)
  cases x2
  cases y2
  have c2 := (e2.below hb0).cell
  have K2 := Lib.hid (is_er (hk.below hb0) (e2.below hb0) (by first | exact htn 2 (by decide) rfl | decide +kernel))
  clear e2 z2
  obtain ⟨t14, g14, a14, x14, y14, z14, e14⟩ := h.at (i := 14) (by decide) (by decide)
  cases x14
  cases y14
  have c14 := (e14.below hb0).cell
  have K14 := Lib.hid (is_er (hk.below hb0) (e14.below hb0) (by first | exact htn 14 (by decide) rfl | decide +kernel))
  clear e14 z14
  obtain ⟨t15, g15, a15, x15, y15, z15, e15⟩ := h.at (i := 15) (by decide) (by decide)
  cases x15
  cases y15
  have c15 := (e15.below hb0).cell
  have K15 := Lib.hid (is_er (hk.below hb0) (e15.below hb0) (by first | exact htn 15 (by decide) rfl | decide +kernel))
  clear e15 z15
  obtain ⟨t16, g16, a16, x16, y16, z16, e16⟩ := h.at (i := 16) (by decide) (by decide)
  cases x16
  cases y16
  have c16 := (e16.below hb0).cell
  obtain rfl : a = a16 := Option.some.inj (ha.symm.trans z16)
  have K16 := Lib.hid (is_same a w0)
  clear e16 z16
  rw [hw0] at c12 K12 c13 K13 c6 K6 c1 K1 c2 K2 c14 K14 c15 K15 c16 K16
  have KF := Lib.hid (failed 405 ⟨[77, 101, 116, 104, 111, 100, 78, 111, 116, 65, 108, 108, 111, 119, 101, 100].toArray⟩ w0 (by decide))
  rw [hw0] at KF
  go_enter Tryz.func29, Tryz.ntmps29
  go_wp2_with fail
  refine K12.out.mono ?_
  rintro e w1 ⟨rfl, hw1⟩
  subst hw1
  clear c12 K12
  go_wp2_with fail
  refine K13.out.mono ?_
  rintro e w1 ⟨rfl, hw1⟩
  subst hw1
  clear c13 K13
  go_wp2_with fail
  refine K6.out.mono ?_
  rintro e w1 ⟨rfl, hw1⟩
  subst hw1
  clear c6 K6
  go_wp2_with fail
  refine K1.out.mono ?_
  rintro e w1 ⟨rfl, hw1⟩
  subst hw1
  clear c1 K1
  go_wp2_with fail
  refine K2.out.mono ?_
  rintro e w1 ⟨rfl, hw1⟩
  subst hw1
  clear c2 K2
  go_wp2_with fail
  refine K14.out.mono ?_
  rintro e w1 ⟨rfl, hw1⟩
  subst hw1
  clear c14 K14
  go_wp2_with fail
  refine K15.out.mono ?_
  rintro e w1 ⟨rfl, hw1⟩
  subst hw1
  clear c15 K15
  go_wp2_with fail
  refine K16.out.mono ?_
  rintro e w1 ⟨rfl, hw1⟩
  subst hw1
  clear c16 K16
  go_wp2_with fail
  refine KF.out.mono ?_
  rintro e w2 ⟨⟨aF, cF, rfl, hF, hp⟩, hb2⟩
  rw [← hw0] at hb2 hp
  obtain ⟨r0, r1, r2, f0, f1, f2⟩ := (hR0.below hb2).cells
  have hB2 := hb0.trans (hb2.mono hb0.size)
  go_wp2_with fail
  have hlt : w.heap.size < w0.heap.size := by rw [hw0, World.size_alloc]; omega
  refine bodyPost_ret (Rb.run 2 ((hR0.below hb2).put _ _ _) rfl rfl) rfl ⟨⟨_, _, rfl, bs_far hF (fun p h => by have := hp p h; omega) _ _ _, fun p h => by have := hp p h; omega⟩, below_st3 hB2 (Nat.le_refl _) _ _ _⟩
set_option maxHeartbeats 4000000 in
set_option maxRecDepth 100000 in
theorem refuse10 {w : World} {es : List Addr} (h : Sm R11 w es) {a : Addr} (ha : es[10]? = some a) :
    Calls Tryz.prog 29 #[Err.ev a] w fun e w' => FPost 413 (Xp.docError [84, 111, 111, 76, 97, 114, 103, 101]) w.heap.size w' e ∧ Below w.heap.size w w' := by
  obtain ⟨tk, gk, ak, xk, yk, zk, hk⟩ := h.at (i := 10) (by decide) (by decide)
  obtain rfl : a = ak := Option.some.inj (ha.symm.trans zk)
  cases xk
  cases yk
  clear zk
  have hb0 := (Below.refl w.heap.size w).alloc (Nat.le_refl _) (.cells #[.int .i64 0, .slice none 0 0, .slice none 0 0] 56)
  have hR0 : Rb w.heap.size (w.alloc (.cells #[.int .i64 0, .slice none 0 0, .slice none 0 0] 56)) _ _ _ := heap_alloc_new w _
  obtain ⟨w0, hw0⟩ : ∃ w0, w0 = w.alloc (.cells #[.int .i64 0, .slice none 0 0, .slice none 0 0] 56) := ⟨_, rfl⟩
  rw [← hw0] at hb0 hR0
  obtain ⟨t12, g12, a12, x12, y12, z12, e12⟩ := h.at (i := 12) (by decide) (by decide)
  cases x12
  cases y12
  have c12 := (e12.below hb0).cell
  have K12 := Lib.hid (is_er (hk.below hb0) (e12.below hb0) (by first | exact htn 12 (by decide) rfl | decide +kernel))
  clear e12 z12
  obtain ⟨t13, g13, a13, x13, y13, z13, e13⟩ := h.at (i := 13) (by decide) (by decide)
  cases x13
  cases y13
  have c13 := (e13.below hb0).cell
  have K13 := Lib.hid (is_er (hk.below hb0) (e13.below hb0) (by first | exact htn 13 (by decide) rfl | decide +kernel))
  clear e13 z13
  obtain ⟨t6, g6, a6, x6, y6, z6, e6⟩ := h.at (i := 6) (by decide) (by decide)
  cases x6
  cases y6
  have c6 := (e6.below hb0).cell
  have K6 := Lib.hid (is_er (hk.below hb0) (e6.below hb0) (by first | exact htn 6 (by decide) rfl | decide +kernel))
  clear e6 z6
  obtain ⟨t1, g1, a1, x1, y1, z1, e1⟩ := h.at (i := 1) (by decide) (by decide)
  cases x1
  cases y1
  have c1 := (e1.below hb0).cell
  have K1 := Lib.hid (is_er (hk.below hb0) (e1.below hb0) (by first | exact htn 1 (by decide) rfl | decide +kernel))
  clear e1 z1
  obtain ⟨t2, g2, a2, x2, y2, z2, e2⟩ := h.at (i := 2) (by decide) (by decide)
  cases x2
  cases y2
  have c2 := (e2.below hb0).cell
  have K2 := Lib.hid (is_er (hk.below hb0) (e2.below hb0) (by first | exact htn 2 (by decide) rfl | decide +kernel))
  clear e2 z2
  obtain ⟨t14, g14, a14, x14, y14, z14, e14⟩ := h.at (i := 14) (by decide) (by decide)
  cases x14
  cases y14
  have c14 := (e14.below hb0).cell
  have K14 := Lib.hid (is_er (hk.below hb0) (e14.below hb0) (by first | exact htn 14 (by decide) rfl | decide +kernel))
  clear e14 z14
  obtain ⟨t15, g15, a15, x15, y15, z15, e15⟩ := h.at (i := 15) (by decide) (by decide)
  cases x15
  cases y15
  have c15 := (e15.below hb0).cell
  have K15 := Lib.hid (is_er (hk.below hb0) (e15.below hb0) (by first | exact htn 15 (by decide) rfl | decide +kernel))
  clear e15 z15
  obtain ⟨t16, g16, a16, x16, y16, z16, e16⟩ := h.at (i := 16) (by decide) (by decide)
  cases x16
  cases y16
  have c16 := (e16.below hb0).cell
  have K16 := Lib.hid (is_er (hk.below hb0) (e16.below hb0) (by first | exact htn 16 (by decide) rfl | decide +kernel))
  clear e16 z16
  obtain ⟨t10, g10, a10, x10, y10, z10, e10⟩ := h.at (i := 10) (by decide) (by decide)
  cases x10
  cases y10
  have c10 := (e10.below hb0).cell
  obtain rfl : a = a10 := Option.some.inj (ha.symm.trans z10)
  have K10 := Lib.hid (is_same a w0)
  clear e10 z10
  rw [hw0] at c12 K12 c13 K13 c6 K6 c1 K1 c2 K2 c14 K14 c15 K15 c16 K16 c10 K10
  have KF := Lib.hid (failed 413 ⟨[84, 111, 111, 76, 97, 114, 103, 101].toArray⟩ w0 (by decide))
  rw [hw0] at KF
  go_enter Tryz.func29, Tryz.ntmps29
  go_wp2_with fail
  refine K12.out.mono ?_
  rintro e w1 ⟨rfl, hw1⟩
  subst hw1
  clear c12 K12
  go_wp2_with fail
  refine K13.out.mono ?_
  rintro e w1 ⟨rfl, hw1⟩
  subst hw1
  clear c13 K13
  go_wp2_with fail
  refine K6.out.mono ?_
  rintro e w1 ⟨rfl, hw1⟩
  subst hw1
  clear c6 K6
  go_wp2_with fail
  refine K1.out.mono ?_
  rintro e w1 ⟨rfl, hw1⟩
  subst hw1
  clear c1 K1
  go_wp2_with fail
  refine K2.out.mono ?_
  rintro e w1 ⟨rfl, hw1⟩
  subst hw1
  clear c2 K2
  go_wp2_with fail
  refine K14.out.mono ?_
  rintro e w1 ⟨rfl, hw1⟩
  subst hw1
  clear c14 K14
  go_wp2_with fail
  refine K15.out.mono ?_
  rintro e w1 ⟨rfl, hw1⟩
  subst hw1
  clear c15 K15
  go_wp2_with fail
  refine K16.out.mono ?_
  rintro e w1 ⟨rfl, hw1⟩
  subst hw1
  clear c16 K16
  go_wp2_with fail
  refine K10.out.mono ?_
  rintro e w1 ⟨rfl, hw1⟩
  subst hw1
  clear c10 K10
  go_wp2_with fail
  refine KF.out.mono ?_
  rintro e w2 ⟨⟨aF, cF, rfl, hF, hp⟩, hb2⟩
  rw [← hw0] at hb2 hp
  obtain ⟨r0, r1, r2, f0, f1, f2⟩ := (hR0.below hb2).cells
  have hB2 := hb0.trans (hb2.mono hb0.size)
  go_wp2_with fail
  have hlt : w.heap.size < w0.heap.size := by rw [hw0, World.size_alloc]; omega
  refine bodyPost_ret (Rb.run 2 ((hR0.below hb2).put _ _ _) rfl rfl) rfl ⟨⟨_, _, rfl, bs_far hF (fun p h => by have := hp p h; omega) _ _ _, fun p h => by have := hp p h; omega⟩, below_st3 hB2 (Nat.le_refl _) _ _ _⟩
set_option maxHeartbeats 4000000 in
set_option maxRecDepth 100000 in
theorem refuse9 {w : World} {es : List Addr} (h : Sm R11 w es) {a : Addr} (ha : es[9]? = some a) :
    Calls Tryz.prog 29 #[Err.ev a] w fun e w' => FPost 507 (Xp.docError [70, 117, 108, 108]) w.heap.size w' e ∧ Below w.heap.size w w' := by
  obtain ⟨tk, gk, ak, xk, yk, zk, hk⟩ := h.at (i := 9) (by decide) (by decide)
  obtain rfl : a = ak := Option.some.inj (ha.symm.trans zk)
  cases xk
  cases yk
  clear zk
  have hb0 := (Below.refl w.heap.size w).alloc (Nat.le_refl _) (.cells #[.int .i64 0, .slice none 0 0, .slice none 0 0] 56)
  have hR0 : Rb w.heap.size (w.alloc (.cells #[.int .i64 0, .slice none 0 0, .slice none 0 0] 56)) _ _ _ := heap_alloc_new w _
  obtain ⟨w0, hw0⟩ : ∃ w0, w0 = w.alloc (.cells #[.int .i64 0, .slice none 0 0, .slice none 0 0] 56) := ⟨_, rfl⟩
  rw [← hw0] at hb0 hR0
  obtain ⟨t12, g12, a12, x12, y12, z12, e12⟩ := h.at (i := 12) (by decide) (by decide)
  cases x12
  cases y12
  have c12 := (e12.below hb0).cell
  have K12 := Lib.hid (is_er (hk.below hb0) (e12.below hb0) (by first | exact htn 12 (by decide) rfl | decide +kernel))
  clear e12 z12
  obtain ⟨t13, g13, a13, x13, y13, z13, e13⟩ := h.at (i := 13) (by decide) (by decide)
  cases x13
  cases y13
  have c13 := (e13.below hb0).cell
  have K13 := Lib.hid (is_er (hk.below hb0) (e13.below hb0) (by first | exact htn 13 (by decide) rfl | decide +kernel))
  clear e13 z13
  obtain ⟨t6, g6, a6, x6, y6, z6, e6⟩ := h.at (i := 6) (by decide) (by decide)
  cases x6
  cases y6
  have c6 := (e6.below hb0).cell
  have K6 := Lib.hid (is_er (hk.below hb0) (e6.below hb0) (by first | exact htn 6 (by decide) rfl | decide +kernel))
  clear e6 z6
  obtain ⟨t1, g1, a1, x1, y1, z1, e1⟩ := h.at (i := 1) (by decide) (by decide)
  cases x1
  cases y1
  have c1 := (e1.below hb0).cell
  have K1 := Lib.hid (is_er (hk.below hb0) (e1.below hb0) (by first | exact htn 1 (by decide) rfl | decide +kernel))
  clear e1 z1
  obtain ⟨t2, g2, a2, x2, y2, z2, e2⟩ := h.at (i := 2) (by decide) (by decide)
  cases x2
  cases y2
  have c2 := (e2.below hb0).cell
  have K2 := Lib.hid (is_er (hk.below hb0) (e2.below hb0) (by first | exact htn 2 (by decide) rfl | decide +kernel))
  clear e2 z2
  obtain ⟨t14, g14, a14, x14, y14, z14, e14⟩ := h.at (i := 14) (by decide) (by decide)
  cases x14
  cases y14
  have c14 := (e14.below hb0).cell
  have K14 := Lib.hid (is_er (hk.below hb0) (e14.below hb0) (by first | exact htn 14 (by decide) rfl | decide +kernel))
  clear e14 z14
  obtain ⟨t15, g15, a15, x15, y15, z15, e15⟩ := h.at (i := 15) (by decide) (by decide)
  cases x15
  cases y15
  have c15 := (e15.below hb0).cell
  have K15 := Lib.hid (is_er (hk.below hb0) (e15.below hb0) (by first | exact htn 15 (by decide) rfl | decide +kernel))
  clear e15 z15
  obtain ⟨t16, g16, a16, x16, y16, z16, e16⟩ := h.at (i := 16) (by decide) (by decide)
  cases x16
  cases y16
  have c16 := (e16.below hb0).cell
  have K16 := Lib.hid (is_er (hk.below hb0) (e16.below hb0) (by first | exact htn 16 (by decide) rfl | decide +kernel))
  clear e16 z16
  obtain ⟨t10, g10, a10, x10, y10, z10, e10⟩ := h.at (i := 10) (by decide) (by decide)
  cases x10
  cases y10
  have c10 := (e10.below hb0).cell
  have K10 := Lib.hid (is_er (hk.below hb0) (e10.below hb0) (by first | exact htn 10 (by decide) rfl | decide +kernel))
  clear e10 z10
  obtain ⟨t9, g9, a9, x9, y9, z9, e9⟩ := h.at (i := 9) (by decide) (by decide)
  cases x9
  cases y9
  have c9 := (e9.below hb0).cell
  obtain rfl : a = a9 := Option.some.inj (ha.symm.trans z9)
  have K9 := Lib.hid (is_same a w0)
  clear e9 z9
  rw [hw0] at c12 K12 c13 K13 c6 K6 c1 K1 c2 K2 c14 K14 c15 K15 c16 K16 c10 K10 c9 K9
  have KF := Lib.hid (failed 507 ⟨[70, 117, 108, 108].toArray⟩ w0 (by decide))
  rw [hw0] at KF
  go_enter Tryz.func29, Tryz.ntmps29
  go_wp2_with fail
  refine K12.out.mono ?_
  rintro e w1 ⟨rfl, hw1⟩
  subst hw1
  clear c12 K12
  go_wp2_with fail
  refine K13.out.mono ?_
  rintro e w1 ⟨rfl, hw1⟩
  subst hw1
  clear c13 K13
  go_wp2_with fail
  refine K6.out.mono ?_
  rintro e w1 ⟨rfl, hw1⟩
  subst hw1
  clear c6 K6
  go_wp2_with fail
  refine K1.out.mono ?_
  rintro e w1 ⟨rfl, hw1⟩
  subst hw1
  clear c1 K1
  go_wp2_with fail
  refine K2.out.mono ?_
  rintro e w1 ⟨rfl, hw1⟩
  subst hw1
  clear c2 K2
  go_wp2_with fail
  refine K14.out.mono ?_
  rintro e w1 ⟨rfl, hw1⟩
  subst hw1
  clear c14 K14
  go_wp2_with fail
  refine K15.out.mono ?_
  rintro e w1 ⟨rfl, hw1⟩
  subst hw1
  clear c15 K15
  go_wp2_with fail
  refine K16.out.mono ?_
  rintro e w1 ⟨rfl, hw1⟩
  subst hw1
  clear c16 K16
  go_wp2_with fail
  refine K10.out.mono ?_
  rintro e w1 ⟨rfl, hw1⟩
  subst hw1
  clear c10 K10
  go_wp2_with fail
  refine K9.out.mono ?_
  rintro e w1 ⟨rfl, hw1⟩
  subst hw1
  clear c9 K9
  go_wp2_with fail
  refine KF.out.mono ?_
  rintro e w2 ⟨⟨aF, cF, rfl, hF, hp⟩, hb2⟩
  rw [← hw0] at hb2 hp
  obtain ⟨r0, r1, r2, f0, f1, f2⟩ := (hR0.below hb2).cells
  have hB2 := hb0.trans (hb2.mono hb0.size)
  go_wp2_with fail
  have hlt : w.heap.size < w0.heap.size := by rw [hw0, World.size_alloc]; omega
  refine bodyPost_ret (Rb.run 2 ((hR0.below hb2).put _ _ _) rfl rfl) rfl ⟨⟨_, _, rfl, bs_far hF (fun p h => by have := hp p h; omega) _ _ _, fun p h => by have := hp p h; omega⟩, below_st3 hB2 (Nat.le_refl _) _ _ _⟩
set_option maxHeartbeats 4000000 in
set_option maxRecDepth 100000 in
theorem refuse3 {w : World} {es : List Addr} (h : Sm R11 w es) {a : Addr} (ha : es[3]? = some a) :
    Calls Tryz.prog 29 #[Err.ev a] w fun e w' => FPost 503 (Xp.docError [85, 110, 97, 118, 97, 105, 108, 97, 98, 108, 101]) w.heap.size w' e ∧ Below w.heap.size w w' := by
  obtain ⟨tk, gk, ak, xk, yk, zk, hk⟩ := h.at (i := 3) (by decide) (by decide)
  obtain rfl : a = ak := Option.some.inj (ha.symm.trans zk)
  cases xk
  cases yk
  clear zk
  have hb0 := (Below.refl w.heap.size w).alloc (Nat.le_refl _) (.cells #[.int .i64 0, .slice none 0 0, .slice none 0 0] 56)
  have hR0 : Rb w.heap.size (w.alloc (.cells #[.int .i64 0, .slice none 0 0, .slice none 0 0] 56)) _ _ _ := heap_alloc_new w _
  obtain ⟨w0, hw0⟩ : ∃ w0, w0 = w.alloc (.cells #[.int .i64 0, .slice none 0 0, .slice none 0 0] 56) := ⟨_, rfl⟩
  rw [← hw0] at hb0 hR0
  obtain ⟨t12, g12, a12, x12, y12, z12, e12⟩ := h.at (i := 12) (by decide) (by decide)
  cases x12
  cases y12
  have c12 := (e12.below hb0).cell
  have K12 := Lib.hid (is_er (hk.below hb0) (e12.below hb0) (by first | exact htn 12 (by decide) rfl | decide +kernel))
  clear e12 z12
  obtain ⟨t13, g13, a13, x13, y13, z13, e13⟩ := h.at (i := 13) (by decide) (by decide)
  cases x13
  cases y13
  have c13 := (e13.below hb0).cell
  have K13 := Lib.hid (is_er (hk.below hb0) (e13.below hb0) (by first | exact htn 13 (by decide) rfl | decide +kernel))
  clear e13 z13
  obtain ⟨t6, g6, a6, x6, y6, z6, e6⟩ := h.at (i := 6) (by decide) (by decide)
  cases x6
  cases y6
  have c6 := (e6.below hb0).cell
  have K6 := Lib.hid (is_er (hk.below hb0) (e6.below hb0) (by first | exact htn 6 (by decide) rfl | decide +kernel))
  clear e6 z6
  obtain ⟨t1, g1, a1, x1, y1, z1, e1⟩ := h.at (i := 1) (by decide) (by decide)
  cases x1
  cases y1
  have c1 := (e1.below hb0).cell
  have K1 := Lib.hid (is_er (hk.below hb0) (e1.below hb0) (by first | exact htn 1 (by decide) rfl | decide +kernel))
  clear e1 z1
  obtain ⟨t2, g2, a2, x2, y2, z2, e2⟩ := h.at (i := 2) (by decide) (by decide)
  cases x2
  cases y2
  have c2 := (e2.below hb0).cell
  have K2 := Lib.hid (is_er (hk.below hb0) (e2.below hb0) (by first | exact htn 2 (by decide) rfl | decide +kernel))
  clear e2 z2
  obtain ⟨t14, g14, a14, x14, y14, z14, e14⟩ := h.at (i := 14) (by decide) (by decide)
  cases x14
  cases y14
  have c14 := (e14.below hb0).cell
  have K14 := Lib.hid (is_er (hk.below hb0) (e14.below hb0) (by first | exact htn 14 (by decide) rfl | decide +kernel))
  clear e14 z14
  obtain ⟨t15, g15, a15, x15, y15, z15, e15⟩ := h.at (i := 15) (by decide) (by decide)
  cases x15
  cases y15
  have c15 := (e15.below hb0).cell
  have K15 := Lib.hid (is_er (hk.below hb0) (e15.below hb0) (by first | exact htn 15 (by decide) rfl | decide +kernel))
  clear e15 z15
  obtain ⟨t16, g16, a16, x16, y16, z16, e16⟩ := h.at (i := 16) (by decide) (by decide)
  cases x16
  cases y16
  have c16 := (e16.below hb0).cell
  have K16 := Lib.hid (is_er (hk.below hb0) (e16.below hb0) (by first | exact htn 16 (by decide) rfl | decide +kernel))
  clear e16 z16
  obtain ⟨t10, g10, a10, x10, y10, z10, e10⟩ := h.at (i := 10) (by decide) (by decide)
  cases x10
  cases y10
  have c10 := (e10.below hb0).cell
  have K10 := Lib.hid (is_er (hk.below hb0) (e10.below hb0) (by first | exact htn 10 (by decide) rfl | decide +kernel))
  clear e10 z10
  obtain ⟨t9, g9, a9, x9, y9, z9, e9⟩ := h.at (i := 9) (by decide) (by decide)
  cases x9
  cases y9
  have c9 := (e9.below hb0).cell
  have K9 := Lib.hid (is_er (hk.below hb0) (e9.below hb0) (by first | exact htn 9 (by decide) rfl | decide +kernel))
  clear e9 z9
  obtain ⟨t3, g3, a3, x3, y3, z3, e3⟩ := h.at (i := 3) (by decide) (by decide)
  cases x3
  cases y3
  have c3 := (e3.below hb0).cell
  obtain rfl : a = a3 := Option.some.inj (ha.symm.trans z3)
  have K3 := Lib.hid (is_same a w0)
  clear e3 z3
  rw [hw0] at c12 K12 c13 K13 c6 K6 c1 K1 c2 K2 c14 K14 c15 K15 c16 K16 c10 K10 c9 K9 c3 K3
  have KF := Lib.hid (failed 503 ⟨[85, 110, 97, 118, 97, 105, 108, 97, 98, 108, 101].toArray⟩ w0 (by decide))
  rw [hw0] at KF
  go_enter Tryz.func29, Tryz.ntmps29
  go_wp2_with fail
  refine K12.out.mono ?_
  rintro e w1 ⟨rfl, hw1⟩
  subst hw1
  clear c12 K12
  go_wp2_with fail
  refine K13.out.mono ?_
  rintro e w1 ⟨rfl, hw1⟩
  subst hw1
  clear c13 K13
  go_wp2_with fail
  refine K6.out.mono ?_
  rintro e w1 ⟨rfl, hw1⟩
  subst hw1
  clear c6 K6
  go_wp2_with fail
  refine K1.out.mono ?_
  rintro e w1 ⟨rfl, hw1⟩
  subst hw1
  clear c1 K1
  go_wp2_with fail
  refine K2.out.mono ?_
  rintro e w1 ⟨rfl, hw1⟩
  subst hw1
  clear c2 K2
  go_wp2_with fail
  refine K14.out.mono ?_
  rintro e w1 ⟨rfl, hw1⟩
  subst hw1
  clear c14 K14
  go_wp2_with fail
  refine K15.out.mono ?_
  rintro e w1 ⟨rfl, hw1⟩
  subst hw1
  clear c15 K15
  go_wp2_with fail
  refine K16.out.mono ?_
  rintro e w1 ⟨rfl, hw1⟩
  subst hw1
  clear c16 K16
  go_wp2_with fail
  refine K10.out.mono ?_
  rintro e w1 ⟨rfl, hw1⟩
  subst hw1
  clear c10 K10
  go_wp2_with fail
  refine K9.out.mono ?_
  rintro e w1 ⟨rfl, hw1⟩
  subst hw1
  clear c9 K9
  go_wp2_with fail
  refine K3.out.mono ?_
  rintro e w1 ⟨rfl, hw1⟩
  subst hw1
  clear c3 K3
  go_wp2_with fail
  refine KF.out.mono ?_
  rintro e w2 ⟨⟨aF, cF, rfl, hF, hp⟩, hb2⟩
  rw [← hw0] at hb2 hp
  obtain ⟨r0, r1, r2, f0, f1, f2⟩ := (hR0.below hb2).cells
  have hB2 := hb0.trans (hb2.mono hb0.size)
  go_wp2_with fail
  have hlt : w.heap.size < w0.heap.size := by rw [hw0, World.size_alloc]; omega
  refine bodyPost_ret (Rb.run 2 ((hR0.below hb2).put _ _ _) rfl rfl) rfl ⟨⟨_, _, rfl, bs_far hF (fun p h => by have := hp p h; omega) _ _ _, fun p h => by have := hp p h; omega⟩, below_st3 hB2 (Nat.le_refl _) _ _ _⟩
set_option maxHeartbeats 4000000 in
set_option maxRecDepth 100000 in
theorem refuse_x {w : World} {es : List Addr} (h : Sm R11 w es) {a : Addr} {k g : Nat} {t : List UInt8} (hk : Err.Er w g t a) (ht : Err.texts[k]? = some t) (hn : k ∉ R11) :
    Calls Tryz.prog 29 #[Err.ev a] w fun e w' => FPost 500 (Xp.docError [73, 110, 116, 101, 114, 110, 97, 108]) w.heap.size w' e ∧ Below w.heap.size w w' := by
  have htn : ∀ j, j ∈ R11 → ∀ {t' : List UInt8}, Err.texts[j]? = some t' → t ≠ t' := by
    rintro j hj t' hj' rfl
    have hk18 : k < 18 := (List.getElem?_eq_some_iff.1 ht).1
    have hj18 : j < 18 := (List.getElem?_eq_some_iff.1 hj').1
    exact hn (Err.texts_inj k hk18 j hj18 (ht.trans hj'.symm) ▸ hj)
  have hb0 := (Below.refl w.heap.size w).alloc (Nat.le_refl _) (.cells #[.int .i64 0, .slice none 0 0, .slice none 0 0] 56)
  have hR0 : Rb w.heap.size (w.alloc (.cells #[.int .i64 0, .slice none 0 0, .slice none 0 0] 56)) _ _ _ := heap_alloc_new w _
  obtain ⟨w0, hw0⟩ : ∃ w0, w0 = w.alloc (.cells #[.int .i64 0, .slice none 0 0, .slice none 0 0] 56) := ⟨_, rfl⟩
  rw [← hw0] at hb0 hR0
  obtain ⟨t12, g12, a12, x12, y12, z12, e12⟩ := h.at (i := 12) (by decide) (by decide)
  cases x12
  cases y12
  have c12 := (e12.below hb0).cell
  have K12 := Lib.hid (is_er (hk.below hb0) (e12.below hb0) (by first | exact htn 12 (by decide) rfl | decide +kernel))
  clear e12 z12
  obtain ⟨t13, g13, a13, x13, y13, z13, e13⟩ := h.at (i := 13) (by decide) (by decide)
  cases x13
  cases y13
  have c13 := (e13.below hb0).cell
  have K13 := Lib.hid (is_er (hk.below hb0) (e13.below hb0) (by first | exact htn 13 (by decide) rfl | decide +kernel))
  clear e13 z13
  obtain ⟨t6, g6, a6, x6, y6, z6, e6⟩ := h.at (i := 6) (by decide) (by decide)
  cases x6
  cases y6
  have c6 := (e6.below hb0).cell
  have K6 := Lib.hid (is_er (hk.below hb0) (e6.below hb0) (by first | exact htn 6 (by decide) rfl | decide +kernel))
  clear e6 z6
  obtain ⟨t1, g1, a1, x1, y1, z1, e1⟩ := h.at (i := 1) (by decide) (by decide)
  cases x1
  cases y1
  have c1 := (e1.below hb0).cell
  have K1 := Lib.hid (is_er (hk.below hb0) (e1.below hb0) (by first | exact htn 1 (by decide) rfl | decide +kernel))
  clear e1 z1
  obtain ⟨t2, g2, a2, x2, y2, z2, e2⟩ := h.at (i := 2) (by decide) (by decide)
  cases x2
  cases y2
  have c2 := (e2.below hb0).cell
  have K2 := Lib.hid (is_er (hk.below hb0) (e2.below hb0) (by first | exact htn 2 (by decide) rfl | decide +kernel))
  clear e2 z2
  obtain ⟨t14, g14, a14, x14, y14, z14, e14⟩ := h.at (i := 14) (by decide) (by decide)
  cases x14
  cases y14
  have c14 := (e14.below hb0).cell
  have K14 := Lib.hid (is_er (hk.below hb0) (e14.below hb0) (by first | exact htn 14 (by decide) rfl | decide +kernel))
  clear e14 z14
  obtain ⟨t15, g15, a15, x15, y15, z15, e15⟩ := h.at (i := 15) (by decide) (by decide)
  cases x15
  cases y15
  have c15 := (e15.below hb0).cell
  have K15 := Lib.hid (is_er (hk.below hb0) (e15.below hb0) (by first | exact htn 15 (by decide) rfl | decide +kernel))
  clear e15 z15
  obtain ⟨t16, g16, a16, x16, y16, z16, e16⟩ := h.at (i := 16) (by decide) (by decide)
  cases x16
  cases y16
  have c16 := (e16.below hb0).cell
  have K16 := Lib.hid (is_er (hk.below hb0) (e16.below hb0) (by first | exact htn 16 (by decide) rfl | decide +kernel))
  clear e16 z16
  obtain ⟨t10, g10, a10, x10, y10, z10, e10⟩ := h.at (i := 10) (by decide) (by decide)
  cases x10
  cases y10
  have c10 := (e10.below hb0).cell
  have K10 := Lib.hid (is_er (hk.below hb0) (e10.below hb0) (by first | exact htn 10 (by decide) rfl | decide +kernel))
  clear e10 z10
  obtain ⟨t9, g9, a9, x9, y9, z9, e9⟩ := h.at (i := 9) (by decide) (by decide)
  cases x9
  cases y9
  have c9 := (e9.below hb0).cell
  have K9 := Lib.hid (is_er (hk.below hb0) (e9.below hb0) (by first | exact htn 9 (by decide) rfl | decide +kernel))
  clear e9 z9
  obtain ⟨t3, g3, a3, x3, y3, z3, e3⟩ := h.at (i := 3) (by decide) (by decide)
  cases x3
  cases y3
  have c3 := (e3.below hb0).cell
  have K3 := Lib.hid (is_er (hk.below hb0) (e3.below hb0) (by first | exact htn 3 (by decide) rfl | decide +kernel))
  clear e3 z3
  rw [hw0] at c12 K12 c13 K13 c6 K6 c1 K1 c2 K2 c14 K14 c15 K15 c16 K16 c10 K10 c9 K9 c3 K3
  have KF := Lib.hid (failed 500 ⟨[73, 110, 116, 101, 114, 110, 97, 108].toArray⟩ w0 (by decide))
  rw [hw0] at KF
  go_enter Tryz.func29, Tryz.ntmps29
  go_wp2_with fail
  refine K12.out.mono ?_
  rintro e w1 ⟨rfl, hw1⟩
  subst hw1
  clear c12 K12
  go_wp2_with fail
  refine K13.out.mono ?_
  rintro e w1 ⟨rfl, hw1⟩
  subst hw1
  clear c13 K13
  go_wp2_with fail
  refine K6.out.mono ?_
  rintro e w1 ⟨rfl, hw1⟩
  subst hw1
  clear c6 K6
  go_wp2_with fail
  refine K1.out.mono ?_
  rintro e w1 ⟨rfl, hw1⟩
  subst hw1
  clear c1 K1
  go_wp2_with fail
  refine K2.out.mono ?_
  rintro e w1 ⟨rfl, hw1⟩
  subst hw1
  clear c2 K2
  go_wp2_with fail
  refine K14.out.mono ?_
  rintro e w1 ⟨rfl, hw1⟩
  subst hw1
  clear c14 K14
  go_wp2_with fail
  refine K15.out.mono ?_
  rintro e w1 ⟨rfl, hw1⟩
  subst hw1
  clear c15 K15
  go_wp2_with fail
  refine K16.out.mono ?_
  rintro e w1 ⟨rfl, hw1⟩
  subst hw1
  clear c16 K16
  go_wp2_with fail
  refine K10.out.mono ?_
  rintro e w1 ⟨rfl, hw1⟩
  subst hw1
  clear c10 K10
  go_wp2_with fail
  refine K9.out.mono ?_
  rintro e w1 ⟨rfl, hw1⟩
  subst hw1
  clear c9 K9
  go_wp2_with fail
  refine K3.out.mono ?_
  rintro e w1 ⟨rfl, hw1⟩
  subst hw1
  clear c3 K3
  go_wp2_with fail
  refine KF.out.mono ?_
  rintro e w2 ⟨⟨aF, cF, rfl, hF, hp⟩, hb2⟩
  rw [← hw0] at hb2 hp
  obtain ⟨r0, r1, r2, f0, f1, f2⟩ := (hR0.below hb2).cells
  have hB2 := hb0.trans (hb2.mono hb0.size)
  go_wp2_with fail
  have hlt : w.heap.size < w0.heap.size := by rw [hw0, World.size_alloc]; omega
  refine bodyPost_ret (Rb.run 2 ((hR0.below hb2).put _ _ _) rfl rfl) rfl ⟨⟨_, _, rfl, bs_far hF (fun p h => by have := hp p h; omega) _ _ _, fun p h => by have := hp p h; omega⟩, below_st3 hB2 (Nat.le_refl _) _ _ _⟩
set_option maxHeartbeats 4000000 in
set_option maxRecDepth 100000 in
theorem refuse_nil {w : World} {es : List Addr} (h : Sm R11 w es) :
    Calls Tryz.prog 29 #[.nilIface] w fun e w' => FPost 500 (Xp.docError [73, 110, 116, 101, 114, 110, 97, 108]) w.heap.size w' e ∧ Below w.heap.size w w' := by
  have hb0 := (Below.refl w.heap.size w).alloc (Nat.le_refl _) (.cells #[.int .i64 0, .slice none 0 0, .slice none 0 0] 56)
  have hR0 : Rb w.heap.size (w.alloc (.cells #[.int .i64 0, .slice none 0 0, .slice none 0 0] 56)) _ _ _ := heap_alloc_new w _
  obtain ⟨w0, hw0⟩ : ∃ w0, w0 = w.alloc (.cells #[.int .i64 0, .slice none 0 0, .slice none 0 0] 56) := ⟨_, rfl⟩
  rw [← hw0] at hb0 hR0
  obtain ⟨t12, g12, a12, x12, y12, z12, e12⟩ := h.at (i := 12) (by decide) (by decide)
  cases x12
  cases y12
  have c12 := (e12.below hb0).cell
  have K12 := Lib.hid (is_nil a12 w0)
  clear e12 z12
  obtain ⟨t13, g13, a13, x13, y13, z13, e13⟩ := h.at (i := 13) (by decide) (by decide)
  cases x13
  cases y13
  have c13 := (e13.below hb0).cell
  have K13 := Lib.hid (is_nil a13 w0)
  clear e13 z13
  obtain ⟨t6, g6, a6, x6, y6, z6, e6⟩ := h.at (i := 6) (by decide) (by decide)
  cases x6
  cases y6
  have c6 := (e6.below hb0).cell
  have K6 := Lib.hid (is_nil a6 w0)
  clear e6 z6
  obtain ⟨t1, g1, a1, x1, y1, z1, e1⟩ := h.at (i := 1) (by decide) (by decide)
  cases x1
  cases y1
  have c1 := (e1.below hb0).cell
  have K1 := Lib.hid (is_nil a1 w0)
  clear e1 z1
  obtain ⟨t2, g2, a2, x2, y2, z2, e2⟩ := h.at (i := 2) (by decide) (by decide)
  cases x2
  cases y2
  have c2 := (e2.below hb0).cell
  have K2 := Lib.hid (is_nil a2 w0)
  clear e2 z2
  obtain ⟨t14, g14, a14, x14, y14, z14, e14⟩ := h.at (i := 14) (by decide) (by decide)
  cases x14
  cases y14
  have c14 := (e14.below hb0).cell
  have K14 := Lib.hid (is_nil a14 w0)
  clear e14 z14
  obtain ⟨t15, g15, a15, x15, y15, z15, e15⟩ := h.at (i := 15) (by decide) (by decide)
  cases x15
  cases y15
  have c15 := (e15.below hb0).cell
  have K15 := Lib.hid (is_nil a15 w0)
  clear e15 z15
  obtain ⟨t16, g16, a16, x16, y16, z16, e16⟩ := h.at (i := 16) (by decide) (by decide)
  cases x16
  cases y16
  have c16 := (e16.below hb0).cell
  have K16 := Lib.hid (is_nil a16 w0)
  clear e16 z16
  obtain ⟨t10, g10, a10, x10, y10, z10, e10⟩ := h.at (i := 10) (by decide) (by decide)
  cases x10
  cases y10
  have c10 := (e10.below hb0).cell
  have K10 := Lib.hid (is_nil a10 w0)
  clear e10 z10
  obtain ⟨t9, g9, a9, x9, y9, z9, e9⟩ := h.at (i := 9) (by decide) (by decide)
  cases x9
  cases y9
  have c9 := (e9.below hb0).cell
  have K9 := Lib.hid (is_nil a9 w0)
  clear e9 z9
  obtain ⟨t3, g3, a3, x3, y3, z3, e3⟩ := h.at (i := 3) (by decide) (by decide)
  cases x3
  cases y3
  have c3 := (e3.below hb0).cell
  have K3 := Lib.hid (is_nil a3 w0)
  clear e3 z3
  rw [hw0] at c12 K12 c13 K13 c6 K6 c1 K1 c2 K2 c14 K14 c15 K15 c16 K16 c10 K10 c9 K9 c3 K3
  have KF := Lib.hid (failed 500 ⟨[73, 110, 116, 101, 114, 110, 97, 108].toArray⟩ w0 (by decide))
  rw [hw0] at KF
  go_enter Tryz.func29, Tryz.ntmps29
  go_wp2_with fail
  refine K12.out.mono ?_
  rintro e w1 ⟨rfl, hw1⟩
  subst hw1
  clear c12 K12
  go_wp2_with fail
  refine K13.out.mono ?_
  rintro e w1 ⟨rfl, hw1⟩
  subst hw1
  clear c13 K13
  go_wp2_with fail
  refine K6.out.mono ?_
  rintro e w1 ⟨rfl, hw1⟩
  subst hw1
  clear c6 K6
  go_wp2_with fail
  refine K1.out.mono ?_
  rintro e w1 ⟨rfl, hw1⟩
  subst hw1
  clear c1 K1
  go_wp2_with fail
  refine K2.out.mono ?_
  rintro e w1 ⟨rfl, hw1⟩
  subst hw1
  clear c2 K2
  go_wp2_with fail
  refine K14.out.mono ?_
  rintro e w1 ⟨rfl, hw1⟩
  subst hw1
  clear c14 K14
  go_wp2_with fail
  refine K15.out.mono ?_
  rintro e w1 ⟨rfl, hw1⟩
  subst hw1
  clear c15 K15
  go_wp2_with fail
  refine K16.out.mono ?_
  rintro e w1 ⟨rfl, hw1⟩
  subst hw1
  clear c16 K16
  go_wp2_with fail
  refine K10.out.mono ?_
  rintro e w1 ⟨rfl, hw1⟩
  subst hw1
  clear c10 K10
  go_wp2_with fail
  refine K9.out.mono ?_
  rintro e w1 ⟨rfl, hw1⟩
  subst hw1
  clear c9 K9
  go_wp2_with fail
  refine K3.out.mono ?_
  rintro e w1 ⟨rfl, hw1⟩
  subst hw1
  clear c3 K3
  go_wp2_with fail
  refine KF.out.mono ?_
  rintro e w2 ⟨⟨aF, cF, rfl, hF, hp⟩, hb2⟩
  rw [← hw0] at hb2 hp
  obtain ⟨r0, r1, r2, f0, f1, f2⟩ := (hR0.below hb2).cells
  have hB2 := hb0.trans (hb2.mono hb0.size)
  go_wp2_with fail
  have hlt : w.heap.size < w0.heap.size := by rw [hw0, World.size_alloc]; omega
  refine bodyPost_ret (Rb.run 2 ((hR0.below hb2).put _ _ _) rfl rfl) rfl ⟨⟨_, _, rfl, bs_far hF (fun p h => by have := hp p h; omega) _ _ _, fun p h => by have := hp p h; omega⟩, below_st3 hB2 (Nat.le_refl _) _ _ _⟩
end Go.Proofs.YtidflagmdabfaaaGreatDoor.RtB
