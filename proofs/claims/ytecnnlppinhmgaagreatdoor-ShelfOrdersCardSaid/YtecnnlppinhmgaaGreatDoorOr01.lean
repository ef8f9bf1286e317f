/-
  The order of ids: the walks of bollardref08.Less and of package shelf's Compare. The law ShelfOrders: Compare orders ids by node, then boot, then number.
-/
import Derived.Test.YtecnnlppinhmgaaGreatDoorSb03
import Derived.Test.YtecnnlppinhmgaaGreatDoorSb04
import Derived.Deep.RegionHeld3
import Derived.Deep.Cut
namespace Go.Proofs.YtecnnlppinhmgaaGreatDoor.SfE
open Go.RowKit Go.Proofs.YtecnnlppinhmgaaGreatDoor Go.Proofs.YtecnnlppinhmgaaGreatDoor.IdBox

/-- does an id stand ahead of another one? -/
def less (a b c x y z : Int) : Bool := if a != x then decide (a < x) else if b != y then decide (b < y) else decide (c < z)
def cmpI (a b : Int) : Int := if a < b then -1 else if a = b then 0 else 1

set_option maxHeartbeats 1000000 in
theorem lessW (a b c x y z : Int) (w : World) : Calls Tryz.prog 17 #[.agg #[.int .i64 a, .int .i64 b, .int .i64 c], .agg #[.int .i64 x, .int .i64 y, .int .i64 z]] w fun e w' => e = .returned (.bool (less a b c x y z)) ∧ Below w.heap.size w w' := by
  obtain ⟨w1, hw1, hb1, hx1⟩ : ∃ w1, w1 = w.alloc (.cells #[.int .i64 a, .int .i64 b, .int .i64 c] 23) ∧ Below w.heap.size w w1 ∧ Ix w1 w.heap.size a b c := ⟨_, rfl, (Below.refl _ _).alloc (Nat.le_refl _) _, heap_alloc_new _ _⟩
  obtain ⟨w2, hw2, hb2, hx2⟩ : ∃ w2, w2 = w1.alloc (.cells #[.int .i64 x, .int .i64 y, .int .i64 z] 23) ∧ Below w1.heap.size w1 w2 ∧ Ix w2 w1.heap.size x y z := ⟨_, rfl, (Below.refl _ _).alloc (Nat.le_refl _) _, heap_alloc_new _ _⟩
  have hx1 := hx1.below hb2
  have hs : w1.heap.size = w.heap.size + 1 := by rw [hw1]; simp
  have HB := Lib.hid (hb1.trans (hb2.mono hb1.size))
  rw [hs] at hx2
  obtain ⟨c0, c1, c2⟩ := hx1.cells
  obtain ⟨d0, d1, d2⟩ := hx2.cells
  clear hb1 hb2 hx1 hx2
  unfold less
  go_enter Tryz.func17, Tryz.ntmps17
  go_upto_region 1 with fail
  rw [← hw1, ← hw2]
  clear hw1 hw2 hs
  cases e1 : a != x
  · cases e2 : b != y
    · go_wp2
      go_ret
      exact ⟨rfl, HB.out⟩
    · go_wp2
      go_ret
      exact ⟨rfl, HB.out⟩
  · go_wp2
    go_ret
    exact ⟨rfl, HB.out⟩
/-- the first that is not 0 -/
def or3 (p q r : Int) : Int := if p != 0 then p else if q != 0 then q else r
set_option maxHeartbeats 1000000 in
/-- cmp.Or of three numbers -/
theorem orW (g : Nat) (p q r : Int) (w : World) (h : w.heap[g]? = some (.cells #[.int .i64 p, .int .i64 q, .int .i64 r] 3 (0, 0))) : Calls Tryz.prog 41 #[.slice (some ⟨g, 0, none⟩) 3 3] w fun e w' => e = .returned (.int .i64 (or3 p q r)) ∧ w = w' := by
  have c0 : w.cell? ⟨g, 0, none⟩ = some (.int .i64 p) := by rw [Lib.cell_of_heap h]; rfl
  have c1 : w.cell? ⟨g, 1, none⟩ = some (.int .i64 q) := by rw [Lib.cell_of_heap h]; rfl
  have c2 : w.cell? ⟨g, 2, none⟩ = some (.int .i64 r) := by rw [Lib.cell_of_heap h]; rfl
  clear h
  obtain ⟨v, hv⟩ : ∃ v, v = or3 p q r := ⟨_, rfl⟩
  rw [← hv]
  unfold or3 at hv
  have HV := Lib.hid hv
  clear hv
  go_enter Tryz.func41, Tryz.ntmps41
  go_wp2_with fail
  refine wp_loop_rounds 4 ?_
  cases e1 : p != 0
  · cases e2 : q != 0
    · cases e3 : r != 0
      · iterate 4
          rw [rounds_succ]
          go_wp2
        go_ret
        rw [HV.out, e1, e2]
        have : r = 0 := by simpa using e3
        subst this
        exact ⟨rfl, rfl⟩
      · iterate 3
          rw [rounds_succ]
          go_wp2
        go_ret
        rw [HV.out, e1, e2]
        exact ⟨rfl, rfl⟩
    · iterate 2
        rw [rounds_succ]
        go_wp2
      go_ret
      rw [HV.out, e1, e2]
      exact ⟨rfl, rfl⟩
  · rw [rounds_succ]
    go_wp2
    go_ret
    rw [HV.out, e1]
    exact ⟨rfl, rfl⟩
set_option maxHeartbeats 1000000 in
theorem nanW (a : Int) (w : World) : Calls Tryz.prog 65 #[.int .i64 a] w fun e w' => e = .returned (.bool false) ∧ w = w' := by
  have e1 : (a != a) = false := by simp
  go_enter Tryz.func65, Tryz.ntmps65
  go_wp2_with fail
  go_ret
  exact ⟨rfl, rfl⟩
set_option maxHeartbeats 1000000 in
theorem compareW (a b : Int) (w : World) : Calls Tryz.prog 42 #[.int .i64 a, .int .i64 b] w fun e w' => e = .returned (.int .i64 (cmpI a b)) ∧ w = w' := by
  unfold cmpI
  go_enter Tryz.func42, Tryz.ntmps42
  rcases Int.lt_trichotomy a b with h | h | h
  · rw [if_pos h]
    have e1 : decide (a < b) = true := decide_eq_true h
    clear h
    go_wp2_with (go_at_call 65; refine (nanW _ _).mono ?_; rintro e w1 ⟨rfl, hw1⟩; subst hw1)
    go_ret
    exact ⟨rfl, rfl⟩
  · subst h
    rw [if_neg (by omega), if_pos rfl]
    have e1 : decide (a < a) = false := decide_eq_false (by omega)
    have e2 : decide (a > a) = false := decide_eq_false (by omega)
    go_wp2_with (go_at_call 65; refine (nanW _ _).mono ?_; rintro e w1 ⟨rfl, hw1⟩; subst hw1)
    go_ret
    exact ⟨rfl, rfl⟩
  · rw [if_neg (by omega), if_neg (by omega)]
    have e1 : decide (a < b) = false := decide_eq_false (by omega)
    have e2 : decide (a > b) = true := decide_eq_true (by omega)
    have e3 : decide (b < a) = true := decide_eq_true (by omega)
    clear h
    go_wp2_with (go_at_call 65; refine (nanW _ _).mono ?_; rintro e w1 ⟨rfl, hw1⟩; subst hw1)
    go_ret
    exact ⟨rfl, rfl⟩
def cmpId (a b c x y z : Int) : Int := or3 (cmpI a x) (cmpI b y) (cmpI c z)
/-- two ids in their boxes -/
abbrev S6 (w : World) (n : Nat) (a b c x y z : Int) (W : World) : Prop := (W.cell? ⟨n, 0, none⟩ = some (.int .i64 a) ∧ W.cell? ⟨n, 1, none⟩ = some (.int .i64 b) ∧ W.cell? ⟨n, 2, none⟩ = some (.int .i64 c)) ∧ (W.cell? ⟨n + 1, 0, none⟩ = some (.int .i64 x) ∧ W.cell? ⟨n + 1, 1, none⟩ = some (.int .i64 y) ∧ W.cell? ⟨n + 1, 2, none⟩ = some (.int .i64 z)) ∧ Below n w W
theorem S6.below {w W W' : World} {n : Nat} {a b c x y z : Int} (h : S6 w n a b c x y z W) (hb : Below W.heap.size W W') : S6 w n a b c x y z W' := by
  obtain ⟨⟨h1, h2, h3⟩, ⟨k1, k2, k3⟩, h4⟩ := h
  have g1 : n < W.heap.size := World.block_lt_of_cell? _ _ h1
  have g2 : n + 1 < W.heap.size := World.block_lt_of_cell? _ _ k1
  exact ⟨⟨(hb.cell (p := ⟨n, 0, none⟩) g1).trans h1, (hb.cell (p := ⟨n, 1, none⟩) g1).trans h2, (hb.cell (p := ⟨n, 2, none⟩) g1).trans h3⟩, ⟨(hb.cell (p := ⟨n + 1, 0, none⟩) g2).trans k1, (hb.cell (p := ⟨n + 1, 1, none⟩) g2).trans k2, (hb.cell (p := ⟨n + 1, 2, none⟩) g2).trans k3⟩, h4.trans (hb.mono (Nat.le_of_lt g1))⟩
set_option maxHeartbeats 4000000 in
set_option maxRecDepth 100000 in
theorem compare (a b c x y z : Int) (w : World) : Calls Tryz.prog 18 #[.agg #[.int .i64 a, .int .i64 b, .int .i64 c], .agg #[.int .i64 x, .int .i64 y, .int .i64 z]] w fun e w' => e = .returned (.int .i64 (cmpId a b c x y z)) ∧ Below w.heap.size w w' := by
  obtain ⟨w1, hw1, hb1, hx1⟩ : ∃ w1, w1 = w.alloc (.cells #[.int .i64 a, .int .i64 b, .int .i64 c] 23) ∧ Below w.heap.size w w1 ∧ Ix w1 w.heap.size a b c := ⟨_, rfl, (Below.refl _ _).alloc (Nat.le_refl _) _, heap_alloc_new _ _⟩
  obtain ⟨w2, hw2, hb2, hx2⟩ : ∃ w2, w2 = w1.alloc (.cells #[.int .i64 x, .int .i64 y, .int .i64 z] 23) ∧ Below w1.heap.size w1 w2 ∧ Ix w2 w1.heap.size x y z := ⟨_, rfl, (Below.refl _ _).alloc (Nat.le_refl _) _, heap_alloc_new _ _⟩
  have hx1 := hx1.below hb2
  have hs : w1.heap.size = w.heap.size + 1 := by rw [hw1]; simp
  have HB := Lib.hid (hb1.trans (hb2.mono hb1.size))
  rw [hs] at hx2
  obtain ⟨c0, c1, c2⟩ := hx1.cells
  obtain ⟨d0, d1, d2⟩ := hx2.cells
  clear hb1 hb2 hx1 hx2
  have KC := Lib.hid (show ∀ (W : World) (p q : Int), S6 w w.heap.size a b c x y z W → Calls Tryz.prog 42 #[.int .i64 p, .int .i64 q] W fun e w' => e = .returned (.int .i64 (cmpI p q)) ∧ S6 w w.heap.size a b c x y z w' from
    fun W p q h => (compareW p q W).mono (by rintro e w' ⟨rfl, rfl⟩; exact ⟨rfl, h⟩))
  go_enter Tryz.func18, Tryz.ntmps18
  go_upto_region 1 with fail
  rw [← hw1, ← hw2]
  clear hw1 hw2 hs
  have hS0 := And.intro (And.intro c0 (And.intro c1 c2)) (And.intro (And.intro d0 (And.intro d1 d2)) (HB.out.drew))
  go_region_held3 (fun W => (W.cell? ⟨w.heap.size, 0, none⟩ = some (.int .i64 a) ∧ W.cell? ⟨w.heap.size, 1, none⟩ = some (.int .i64 b) ∧ W.cell? ⟨w.heap.size, 2, none⟩ = some (.int .i64 c)) ∧ (W.cell? ⟨w.heap.size + 1, 0, none⟩ = some (.int .i64 x) ∧ W.cell? ⟨w.heap.size + 1, 1, none⟩ = some (.int .i64 y) ∧ W.cell? ⟨w.heap.size + 1, 2, none⟩ = some (.int .i64 z)) ∧ Below w.heap.size w W)
    (first | exact hS0 | assumption | exact S6.below (by assumption) ((Below.refl _ _).alloc (Nat.le_refl _) _) | go_keep)
    (first
      | (go_at_call 42; refine (KC.out _ _ _ (by first | assumption | exact hS0)).mono ?_; rintro e w4 ⟨rfl, hS4⟩)
      | (go_at_call 41; refine (orW _ _ _ _ _ (heap_alloc_new _ _)).mono ?_; rintro e w5 ⟨rfl, hw5⟩; subst hw5))
  go_wp2
  go_ret
  exact ⟨rfl, hS4.2.2.alloc hS4.2.2.size _⟩
theorem cmp_less (a b c x y z : Int) : cmpId a b c x y z = if less x y z a b c = true then 1 else if less a b c x y z = true then -1 else 0 := by
  unfold cmpId less cmpI or3
  rcases Int.lt_trichotomy a x with h | h | h
  · have h1 : ¬ x < a := by omega
    have h2 : (a != x) = true := by rw [bne_iff_ne]; omega
    have h3 : (x != a) = true := by rw [bne_iff_ne]; omega
    simp [h, h1, h2, h3]
  · subst h
    rcases Int.lt_trichotomy b y with h | h | h
    · have h1 : ¬ y < b := by omega
      have h2 : (b != y) = true := by rw [bne_iff_ne]; omega
      have h3 : (y != b) = true := by rw [bne_iff_ne]; omega
      simp [h, h1, h2, h3]
    · subst h
      rcases Int.lt_trichotomy c z with h | h | h
      · have h1 : ¬ z < c := by omega
        simp [h, h1]
      · subst h
        simp
      · have h1 : ¬ c < z := by omega
        have h2 : ¬ c = z := by omega
        simp [h, h1, h2]
    · have h1 : ¬ b < y := by omega
      have h4 : ¬ b = y := by omega
      have h2 : (b != y) = true := by rw [bne_iff_ne]; omega
      have h3 : (y != b) = true := by rw [bne_iff_ne]; omega
      simp [h, h1, h3, h4]
  · have h1 : ¬ a < x := by omega
    have h4 : ¬ a = x := by omega
    have h2 : (a != x) = true := by rw [bne_iff_ne]; omega
    have h3 : (x != a) = true := by rw [bne_iff_ne]; omega
    simp [h, h1, h3, h4]
end Go.Proofs.YtecnnlppinhmgaaGreatDoor.SfE
namespace Go.Proofs.YtecnnlppinhmgaaGreatDoor.SfF
open Go.RowKit Go.Proofs.YtecnnlppinhmgaaGreatDoor Go.Proofs.YtecnnlppinhmgaaGreatDoor.IdBox Go.Proofs.YtecnnlppinhmgaaGreatDoor.SfB Go.Proofs.YtecnnlppinhmgaaGreatDoor.SfE

set_option maxHeartbeats 4000000 in
theorem orders (a b c x y z : Int) (w : World) {aL aB aD aN aF aG : Addr} (hE : Env w aL aB aD aN aF aG) :
    Calls Tryz.prog 4 #[.agg #[.int .i64 a, .int .i64 b, .int .i64 c], .agg #[.int .i64 x, .int .i64 y, .int .i64 z]] w fun e w' => e = .returned (.bool true) ∧ Below w.heap.size w w' := by
  obtain ⟨w1, hw1, hb1, hx1⟩ : ∃ w1, w1 = w.alloc (.cells #[.int .i64 a, .int .i64 b, .int .i64 c] 23) ∧ Below w.heap.size w w1 ∧ Ix w1 w.heap.size a b c := ⟨_, rfl, (Below.refl _ _).alloc (Nat.le_refl _) _, heap_alloc_new _ _⟩
  obtain ⟨w2, hw2, hb2, hx2⟩ : ∃ w2, w2 = w1.alloc (.cells #[.int .i64 x, .int .i64 y, .int .i64 z] 23) ∧ Below w1.heap.size w1 w2 ∧ Ix w2 w1.heap.size x y z := ⟨_, rfl, (Below.refl _ _).alloc (Nat.le_refl _) _, heap_alloc_new _ _⟩
  have hx1 := hx1.below hb2
  have hs : w1.heap.size = w.heap.size + 1 := by rw [hw1]; simp
  have HB := Lib.hid (hb1.trans (hb2.mono hb1.size))
  rw [hs] at hx2
  have KA := Lib.hid (SfD.alive w2 (hE.below HB.out))
  have HX1 := Lib.hid hx1
  have HX2 := Lib.hid hx2
  have HC := Lib.hid (cmp_less a b c x y z)
  clear hb1 hb2 hx1 hx2 hE
  go_enter Tryz.func4, Tryz.ntmps4
  go_upto_region 1 with fail
  rw [← hw1, ← hw2]
  clear hw1 hw2 hs
  go_upto_region 4 with (go_at_call 7; refine KA.out.mono ?_; rintro e w3 ⟨rfl, hb3⟩)
  have HX1 := Lib.hid (HX1.out.below hb3)
  have HX2 := Lib.hid (HX2.out.below hb3)
  have HB3 := Lib.hid (HB.out.trans (hb3.mono HB.out.size))
  obtain ⟨c0, c1, c2⟩ := HX1.out.cells
  obtain ⟨d0, d1, d2⟩ := HX2.out.cells
  clear hb3
  cases e1 : less a b c x y z
  all_goals
    have KL := Lib.hid (fun W => lessW a b c x y z W)
    rw [e1] at KL HC
    go_upto_region 6 with (go_at_call 17; refine (KL.out _).mono ?_; rintro e w4 ⟨rfl, hb4⟩)
    have HX1 := Lib.hid (HX1.out.below hb4)
    have HX2 := Lib.hid (HX2.out.below hb4)
    have HB4 := Lib.hid (HB3.out.trans (hb4.mono HB3.out.size))
    obtain ⟨c0, c1, c2⟩ := HX1.out.cells
    obtain ⟨d0, d1, d2⟩ := HX2.out.cells
    clear hb4
    cases e2 : less x y z a b c
    all_goals
      have KL := Lib.hid (fun W => lessW x y z a b c W)
      rw [e2] at KL HC
      have KC := Lib.hid (fun W => compare a b c x y z W)
      rw [HC.out] at KC
      go_upto_region 8 with (go_at_call 17; refine (KL.out _).mono ?_; rintro e w5 ⟨rfl, hb5⟩)
      have HX1 := Lib.hid (HX1.out.below hb5)
      have HX2 := Lib.hid (HX2.out.below hb5)
      have HB5 := Lib.hid (HB4.out.trans (hb5.mono HB4.out.size))
      obtain ⟨c0, c1, c2⟩ := HX1.out.cells
      obtain ⟨d0, d1, d2⟩ := HX2.out.cells
      clear hb5
      go_wp2_with (go_at_call 18; refine (KC.out _).mono ?_; rintro e w6 ⟨rfl, hb6⟩)
      go_ret
      exact ⟨rfl, HB5.out.trans (hb6.mono HB5.out.size)⟩
end Go.Proofs.YtecnnlppinhmgaaGreatDoor.SfF
