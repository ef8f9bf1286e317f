/-
  The order of ids: the walks of bollardref08.Less and of package shelf's Compare. package shelf's Compare makes memory, and nothing else; the sort of ids by it. Contracts of the library at this seat, laid by the kit's own two programs, in plain words; those that are used. Plain Lean, no program in sight: what the entities of a text are, what is read back of them, and that the two fit. Decimal numerals, plain Lean: their length and their bytes.
-/
import Derived.Test.YtecnnlppinhmgaaGreatDoorSe01
import Derived.Test.YtecnnlppinhmgaaGreatDoorSe03
import Derived.Deep.RegionHeld3
import Derived.Deep.Cut
import Derived.Sort.Grow
import Derived.Deep.Draws
import Derived.Shelf.Small.Bits
import Derived.Shelf.Small.Wraps
import Derived.Shelf.Utf8.RuneCount
import Derived.Shelf.Strconv.Atoi
import Derived.Shelf.Strconv.Itoa0
import Derived.Shelf.Strconv.Itoa1
import Derived.Shelf.LaysM
import Derived.Shelf.Strconv.Itoa2
import Derived.Shelf.Strconv.Itoa3
import Derived.Shelf.Strconv.AtoiErrFast
import Derived.Shelf.Strconv.ParseIntEmpty
import Derived.Shelf.Strconv.AtoiFail
import Derived.Shelf.Strconv.Clone
import Derived.Shelf.Strconv.SyntaxError
import Derived.Shelf.LaysC
import Derived.Shelf.Strconv.ToError
import Derived.Shelf.Strconv.Lower
import Derived.Shelf.Strconv.ParseUint10
import Derived.Shelf.Strconv.ParseUint10Empty
import Derived.Shelf.Strconv.ParseUint10Any
import Derived.Shelf.Strconv.ParseInt10
import Derived.Shelf.Strconv.AtoiLong
import Derived.Shelf.Strconv.AtoiInnerAll
import Derived.Shelf.Strconv.RangeError
import Derived.Shelf.Strconv.ToErrorRange
import Derived.Shelf.Strconv.AtoiAll
import Derived.Shelf.Strconv.ErrVarAll
import Derived.Shelf.Strings.Search1
import Derived.Shelf.Strings.Search2
import Derived.Shelf.Strings.Search3
import Derived.Shelf.Strings.Count
import Derived.Shelf.Strings.Shaped
import Derived.Shelf.Strings.Split
import Derived.Shelf.Strings.SplitShaped
import Derived.Shelf.Unicode.DecodeSlow
import Derived.Ground.SlgmProg
import Derived.Shelf.SortM.Plain
import Derived.Shelf.SortM.SortNone
import Derived.Test.YtecnnlppinhmgaaGreatDoorProg
import Derived.Lib.ItoaNum
namespace Go.Proofs.YtecnnlppinhmgaaGreatDoor.SfE
open Go.RowKit Go.Proofs.YtecnnlppinhmgaaGreatDoor Go.Proofs.YtecnnlppinhmgaaGreatDoor.IdBox

/-- does an id stand ahead of another one? -/
def less (a b c x y z : Int) : Bool := if a != x then decide (a < x) else if b != y then decide (b < y) else decide (c < z)
def cmpI (a b : Int) : Int := if a < b then -1 else if a = b then 0 else 1

set_option maxHeartbeats 1000000 in
theorem lessW (a b c x y z : Int) (w : World) : Calls Tryz.prog 17 #[.agg #[.int .i64 a, .int .i64 b, .int .i64 c], .agg #[.int .i64 x, .int .i64 y, .int .i64 z]] w fun e w' => e = .returned (.bool (less a b c x y z)) ∧ Below w.heap.size w w' := by
  obtain ⟨w1, hw1, hb1, hx1⟩ : ∃ w1, w1 = w.alloc (.cells #[.int .i64 a, .int .i64 b, .int .i64 c] 23) ∧ Below w.heap.size w w1 ∧ Ix w1 w.heap.size a b c := ⟨_, rfl, (Below.refl _ _).alloc (Nat.le_refl _) _, heap_alloc_new _ _⟩
  obtain ⟨w2, hw2, hb2, hx2⟩ : ∃ w2, w2 = w1.alloc (.cells #[.int .i64 x, .int .i64 y, .int .i64 z] 23) ∧ Below w1.heap.size w1 w2 ∧ Ix w2 w1.heap.size x y z := ⟨_, rfl, (Below.refl _ _).alloc (Nat.le_refl _) _, heap_alloc_new _ _⟩
  have hx1 := hx1.below hb2
  have hs : w1.heap.size = w.heap.size + 1 := by rw [hw1]; simp
  have HB := Lib.hid (hb1.trans (hb2.mono hb1.size))
  rw [hs] at hx2
  obtain ⟨c0, c1, c2⟩ := hx1.cells
  obtain ⟨d0, d1, d2⟩ := hx2.cells
  clear hb1 hb2 hx1 hx2
  unfold less
  go_enter Tryz.func17, Tryz.ntmps17
  go_upto_region 1 with fail
  rw [← hw1, ← hw2]
  clear hw1 hw2 hs
  cases e1 : a != x
  · cases e2 : b != y
    · go_wp2
      go_ret
      exact ⟨rfl, HB.out⟩
    · go_wp2
      go_ret
      exact ⟨rfl, HB.out⟩
  · go_wp2
    go_ret
    exact ⟨rfl, HB.out⟩
/-- the first that is not 0 -/
def or3 (p q r : Int) : Int := if p != 0 then p else if q != 0 then q else r
set_option maxHeartbeats 1000000 in
/-- cmp.Or of three numbers -/
theorem orW (g : Nat) (p q r : Int) (w : World) (h : w.heap[g]? = some (.cells #[.int .i64 p, .int .i64 q, .int .i64 r] 3 (0, 0))) : Calls Tryz.prog 41 #[.slice (some ⟨g, 0, none⟩) 3 3] w fun e w' => e = .returned (.int .i64 (or3 p q r)) ∧ w = w' := by
  have c0 : w.cell? ⟨g, 0, none⟩ = some (.int .i64 p) := by rw [Lib.cell_of_heap h]; rfl
  have c1 : w.cell? ⟨g, 1, none⟩ = some (.int .i64 q) := by rw [Lib.cell_of_heap h]; rfl
  have c2 : w.cell? ⟨g, 2, none⟩ = some (.int .i64 r) := by rw [Lib.cell_of_heap h]; rfl
  clear h
  obtain ⟨v, hv⟩ : ∃ v, v = or3 p q r := ⟨_, rfl⟩
  rw [← hv]
  unfold or3 at hv
  have HV := Lib.hid hv
  clear hv
  go_enter Tryz.func41, Tryz.ntmps41
  go_wp2_with fail
  refine wp_loop_rounds 4 ?_
  cases e1 : p != 0
  · cases e2 : q != 0
    · cases e3 : r != 0
      · iterate 4
          rw [rounds_succ]
          go_wp2
        go_ret
        rw [HV.out, e1, e2]
        have : r = 0 := by simpa using e3
        subst this
        exact ⟨rfl, rfl⟩
      · iterate 3
          rw [rounds_succ]
          go_wp2
        go_ret
        rw [HV.out, e1, e2]
        exact ⟨rfl, rfl⟩
    · iterate 2
        rw [rounds_succ]
        go_wp2
      go_ret
      rw [HV.out, e1, e2]
      exact ⟨rfl, rfl⟩
  · rw [rounds_succ]
    go_wp2
    go_ret
    rw [HV.out, e1]
    exact ⟨rfl, rfl⟩
set_option maxHeartbeats 1000000 in
theorem nanW (a : Int) (w : World) : Calls Tryz.prog 65 #[.int .i64 a] w fun e w' => e = .returned (.bool false) ∧ w = w' := by
  have e1 : (a != a) = false := by simp
  go_enter Tryz.func65, Tryz.ntmps65
  go_wp2_with fail
  go_ret
  exact ⟨rfl, rfl⟩
set_option maxHeartbeats 1000000 in
theorem compareW (a b : Int) (w : World) : Calls Tryz.prog 42 #[.int .i64 a, .int .i64 b] w fun e w' => e = .returned (.int .i64 (cmpI a b)) ∧ w = w' := by
  unfold cmpI
  go_enter Tryz.func42, Tryz.ntmps42
  rcases Int.lt_trichotomy a b with h | h | h
  · rw [if_pos h]
    have e1 : decide (a < b) = true := decide_eq_true h
    clear h
    go_wp2_with (go_at_call 65; refine (nanW _ _).mono ?_; rintro e w1 ⟨rfl, hw1⟩; subst hw1)
    go_ret
    exact ⟨rfl, rfl⟩
  · subst h
    rw [if_neg (by omega), if_pos rfl]
    have e1 : decide (a < a) = false := decide_eq_false (by omega)
    have e2 : decide (a > a) = false := decide_eq_false (by omega)
    go_wp2_with (go_at_call 65; refine (nanW _ _).mono ?_; rintro e w1 ⟨rfl, hw1⟩; subst hw1)
    go_ret
    exact ⟨rfl, rfl⟩
  · rw [if_neg (by omega), if_neg (by omega)]
    have e1 : decide (a < b) = false := decide_eq_false (by omega)
    have e2 : decide (a > b) = true := decide_eq_true (by omega)
    have e3 : decide (b < a) = true := decide_eq_true (by omega)
    clear h
    go_wp2_with (go_at_call 65; refine (nanW _ _).mono ?_; rintro e w1 ⟨rfl, hw1⟩; subst hw1)
    go_ret
    exact ⟨rfl, rfl⟩
def cmpId (a b c x y z : Int) : Int := or3 (cmpI a x) (cmpI b y) (cmpI c z)
/-- two ids in their boxes -/
abbrev S6 (w : World) (n : Nat) (a b c x y z : Int) (W : World) : Prop := (W.cell? ⟨n, 0, none⟩ = some (.int .i64 a) ∧ W.cell? ⟨n, 1, none⟩ = some (.int .i64 b) ∧ W.cell? ⟨n, 2, none⟩ = some (.int .i64 c)) ∧ (W.cell? ⟨n + 1, 0, none⟩ = some (.int .i64 x) ∧ W.cell? ⟨n + 1, 1, none⟩ = some (.int .i64 y) ∧ W.cell? ⟨n + 1, 2, none⟩ = some (.int .i64 z)) ∧ Below n w W
theorem S6.below {w W W' : World} {n : Nat} {a b c x y z : Int} (h : S6 w n a b c x y z W) (hb : Below W.heap.size W W') : S6 w n a b c x y z W' := by
  obtain ⟨⟨h1, h2, h3⟩, ⟨k1, k2, k3⟩, h4⟩ := h
  have g1 : n < W.heap.size := World.block_lt_of_cell? _ _ h1
  have g2 : n + 1 < W.heap.size := World.block_lt_of_cell? _ _ k1
  exact ⟨⟨(hb.cell (p := ⟨n, 0, none⟩) g1).trans h1, (hb.cell (p := ⟨n, 1, none⟩) g1).trans h2, (hb.cell (p := ⟨n, 2, none⟩) g1).trans h3⟩, ⟨(hb.cell (p := ⟨n + 1, 0, none⟩) g2).trans k1, (hb.cell (p := ⟨n + 1, 1, none⟩) g2).trans k2, (hb.cell (p := ⟨n + 1, 2, none⟩) g2).trans k3⟩, h4.trans (hb.mono (Nat.le_of_lt g1))⟩
set_option maxHeartbeats 4000000 in
set_option maxRecDepth 100000 in
theorem compare (a b c x y z : Int) (w : World) : Calls Tryz.prog 18 #[.agg #[.int .i64 a, .int .i64 b, .int .i64 c], .agg #[.int .i64 x, .int .i64 y, .int .i64 z]] w fun e w' => e = .returned (.int .i64 (cmpId a b c x y z)) ∧ Below w.heap.size w w' := by
  obtain ⟨w1, hw1, hb1, hx1⟩ : ∃ w1, w1 = w.alloc (.cells #[.int .i64 a, .int .i64 b, .int .i64 c] 23) ∧ Below w.heap.size w w1 ∧ Ix w1 w.heap.size a b c := ⟨_, rfl, (Below.refl _ _).alloc (Nat.le_refl _) _, heap_alloc_new _ _⟩
  obtain ⟨w2, hw2, hb2, hx2⟩ : ∃ w2, w2 = w1.alloc (.cells #[.int .i64 x, .int .i64 y, .int .i64 z] 23) ∧ Below w1.heap.size w1 w2 ∧ Ix w2 w1.heap.size x y z := ⟨_, rfl, (Below.refl _ _).alloc (Nat.le_refl _) _, heap_alloc_new _ _⟩
  have hx1 := hx1.below hb2
  have hs : w1.heap.size = w.heap.size + 1 := by rw [hw1]; simp
  have HB := Lib.hid (hb1.trans (hb2.mono hb1.size))
  rw [hs] at hx2
  obtain ⟨c0, c1, c2⟩ := hx1.cells
  obtain ⟨d0, d1, d2⟩ := hx2.cells
  clear hb1 hb2 hx1 hx2
  have KC := Lib.hid (show ∀ (W : World) (p q : Int), S6 w w.heap.size a b c x y z W → Calls Tryz.prog 42 #[.int .i64 p, .int .i64 q] W fun e w' => e = .returned (.int .i64 (cmpI p q)) ∧ S6 w w.heap.size a b c x y z w' from
    fun W p q h => (compareW p q W).mono (by rintro e w' ⟨rfl, rfl⟩; exact ⟨rfl, h⟩))
  go_enter Tryz.func18, Tryz.ntmps18
  go_upto_region 1 with fail
  rw [← hw1, ← hw2]
  clear hw1 hw2 hs
  have hS0 := And.intro (And.intro c0 (And.intro c1 c2)) (And.intro (And.intro d0 (And.intro d1 d2)) (HB.out.drew))
  go_region_held3 (fun W => (W.cell? ⟨w.heap.size, 0, none⟩ = some (.int .i64 a) ∧ W.cell? ⟨w.heap.size, 1, none⟩ = some (.int .i64 b) ∧ W.cell? ⟨w.heap.size, 2, none⟩ = some (.int .i64 c)) ∧ (W.cell? ⟨w.heap.size + 1, 0, none⟩ = some (.int .i64 x) ∧ W.cell? ⟨w.heap.size + 1, 1, none⟩ = some (.int .i64 y) ∧ W.cell? ⟨w.heap.size + 1, 2, none⟩ = some (.int .i64 z)) ∧ Below w.heap.size w W)
    (first | exact hS0 | assumption | exact S6.below (by assumption) ((Below.refl _ _).alloc (Nat.le_refl _) _) | go_keep)
    (first
      | (go_at_call 42; refine (KC.out _ _ _ (by first | assumption | exact hS0)).mono ?_; rintro e w4 ⟨rfl, hS4⟩)
      | (go_at_call 41; refine (orW _ _ _ _ _ (heap_alloc_new _ _)).mono ?_; rintro e w5 ⟨rfl, hw5⟩; subst hw5))
  go_wp2
  go_ret
  exact ⟨rfl, hS4.2.2.alloc hS4.2.2.size _⟩
theorem cmp_less (a b c x y z : Int) : cmpId a b c x y z = if less x y z a b c = true then 1 else if less a b c x y z = true then -1 else 0 := by
  unfold cmpId less cmpI or3
  rcases Int.lt_trichotomy a x with h | h | h
  · have h1 : ¬ x < a := by omega
    have h2 : (a != x) = true := by rw [bne_iff_ne]; omega
    have h3 : (x != a) = true := by rw [bne_iff_ne]; omega
    simp [h, h1, h2, h3]
  · subst h
    rcases Int.lt_trichotomy b y with h | h | h
    · have h1 : ¬ y < b := by omega
      have h2 : (b != y) = true := by rw [bne_iff_ne]; omega
      have h3 : (y != b) = true := by rw [bne_iff_ne]; omega
      simp [h, h1, h2, h3]
    · subst h
      rcases Int.lt_trichotomy c z with h | h | h
      · have h1 : ¬ z < c := by omega
        simp [h, h1]
      · subst h
        simp
      · have h1 : ¬ c < z := by omega
        have h2 : ¬ c = z := by omega
        simp [h, h1, h2]
    · have h1 : ¬ b < y := by omega
      have h4 : ¬ b = y := by omega
      have h2 : (b != y) = true := by rw [bne_iff_ne]; omega
      have h3 : (y != b) = true := by rw [bne_iff_ne]; omega
      simp [h, h1, h3, h4]
  · have h1 : ¬ a < x := by omega
    have h4 : ¬ a = x := by omega
    have h2 : (a != x) = true := by rw [bne_iff_ne]; omega
    have h3 : (x != a) = true := by rw [bne_iff_ne]; omega
    simp [h, h1, h3, h4]
end Go.Proofs.YtecnnlppinhmgaaGreatDoor.SfE
namespace Go.Proofs.YtecnnlppinhmgaaGreatDoor.SfL
open Go.RowKit Go.Sort Go.Proofs.YtecnnlppinhmgaaGreatDoor Go.Proofs.YtecnnlppinhmgaaGreatDoor.IdBox Go.Proofs.YtecnnlppinhmgaaGreatDoor.SfE

/-- a world with more blocks, and further draws -/
def Gw (w W : World) : Prop := ∃ q os, W = Sort.grow (w.drewN q) os
theorem Gw.refl (w : World) : Gw w w := ⟨0, #[], by rw [grow_empty]; rfl⟩
theorem Gw.alloc {w W : World} (h : Gw w W) (o : Obj) : Gw w (W.alloc o) := by
  obtain ⟨q, os, rfl⟩ := h
  exact ⟨q, os ++ #[o], by rw [alloc_eq_grow, grow_grow]⟩
theorem Gw.drew {w W : World} (h : Gw w W) : Gw w W.drew := by
  obtain ⟨q, os, rfl⟩ := h
  exact ⟨q + 1, os, rfl⟩
/-- two ids in their boxes -/
abbrev S7 (w : World) (n : Nat) (a b c x y z : Int) (W : World) : Prop := (W.cell? ⟨n, 0, none⟩ = some (.int .i64 a) ∧ W.cell? ⟨n, 1, none⟩ = some (.int .i64 b) ∧ W.cell? ⟨n, 2, none⟩ = some (.int .i64 c)) ∧ (W.cell? ⟨n + 1, 0, none⟩ = some (.int .i64 x) ∧ W.cell? ⟨n + 1, 1, none⟩ = some (.int .i64 y) ∧ W.cell? ⟨n + 1, 2, none⟩ = some (.int .i64 z)) ∧ Gw w W
theorem S7.alloc {w W : World} {n : Nat} {a b c x y z : Int} (h : S7 w n a b c x y z W) (o : Obj) : S7 w n a b c x y z (W.alloc o) := by
  obtain ⟨⟨h1, h2, h3⟩, ⟨k1, k2, k3⟩, h4⟩ := h
  have hb : Below W.heap.size W (W.alloc o) := (Below.refl _ _).alloc (Nat.le_refl _) _
  have g1 : n < W.heap.size := World.block_lt_of_cell? _ _ h1
  have g2 : n + 1 < W.heap.size := World.block_lt_of_cell? _ _ k1
  exact ⟨⟨(hb.cell (p := ⟨n, 0, none⟩) g1).trans h1, (hb.cell (p := ⟨n, 1, none⟩) g1).trans h2, (hb.cell (p := ⟨n, 2, none⟩) g1).trans h3⟩, ⟨(hb.cell (p := ⟨n + 1, 0, none⟩) g2).trans k1, (hb.cell (p := ⟨n + 1, 1, none⟩) g2).trans k2, (hb.cell (p := ⟨n + 1, 2, none⟩) g2).trans k3⟩, h4.alloc o⟩
theorem S7.drew {w W : World} {n : Nat} {a b c x y z : Int} (h : S7 w n a b c x y z W) : S7 w n a b c x y z W.drew := ⟨h.1, h.2.1, h.2.2.drew⟩
set_option maxHeartbeats 4000000 in
set_option maxRecDepth 100000 in
theorem compareG (a b c x y z : Int) (w : World) : Calls Tryz.prog 18 #[.agg #[.int .i64 a, .int .i64 b, .int .i64 c], .agg #[.int .i64 x, .int .i64 y, .int .i64 z]] w fun e w' => e = .returned (.int .i64 (cmpId a b c x y z)) ∧ Gw w w' := by
  obtain ⟨w1, hw1, hb1, hx1⟩ : ∃ w1, w1 = w.alloc (.cells #[.int .i64 a, .int .i64 b, .int .i64 c] 23) ∧ Below w.heap.size w w1 ∧ Ix w1 w.heap.size a b c := ⟨_, rfl, (Below.refl _ _).alloc (Nat.le_refl _) _, heap_alloc_new _ _⟩
  obtain ⟨w2, hw2, hb2, hx2⟩ : ∃ w2, w2 = w1.alloc (.cells #[.int .i64 x, .int .i64 y, .int .i64 z] 23) ∧ Below w1.heap.size w1 w2 ∧ Ix w2 w1.heap.size x y z := ⟨_, rfl, (Below.refl _ _).alloc (Nat.le_refl _) _, heap_alloc_new _ _⟩
  have hx1 := hx1.below hb2
  have hs : w1.heap.size = w.heap.size + 1 := by rw [hw1]; simp
  have HB := Lib.hid (show Gw w w2 by rw [hw2, hw1]; exact ((Gw.refl w).alloc _).alloc _)
  rw [hs] at hx2
  obtain ⟨c0, c1, c2⟩ := hx1.cells
  obtain ⟨d0, d1, d2⟩ := hx2.cells
  clear hb1 hb2 hx1 hx2
  have KC := Lib.hid (show ∀ (W : World) (p q : Int), S7 w w.heap.size a b c x y z W → Calls Tryz.prog 42 #[.int .i64 p, .int .i64 q] W fun e w' => e = .returned (.int .i64 (cmpI p q)) ∧ S7 w w.heap.size a b c x y z w' from
    fun W p q h => (compareW p q W).mono (by rintro e w' ⟨rfl, rfl⟩; exact ⟨rfl, h⟩))
  go_enter Tryz.func18, Tryz.ntmps18
  go_upto_region 1 with fail
  rw [← hw1, ← hw2]
  clear hw1 hw2 hs
  have hS0 := And.intro (And.intro c0 (And.intro c1 c2)) (And.intro (And.intro d0 (And.intro d1 d2)) (HB.out.drew))
  go_region_held3 (fun W => (W.cell? ⟨w.heap.size, 0, none⟩ = some (.int .i64 a) ∧ W.cell? ⟨w.heap.size, 1, none⟩ = some (.int .i64 b) ∧ W.cell? ⟨w.heap.size, 2, none⟩ = some (.int .i64 c)) ∧ (W.cell? ⟨w.heap.size + 1, 0, none⟩ = some (.int .i64 x) ∧ W.cell? ⟨w.heap.size + 1, 1, none⟩ = some (.int .i64 y) ∧ W.cell? ⟨w.heap.size + 1, 2, none⟩ = some (.int .i64 z)) ∧ Gw w W)
    (first | exact hS0 | assumption | exact S7.alloc (by assumption) _ | go_keep)
    (first
      | (go_at_call 42; refine (KC.out _ _ _ (by first | assumption | exact hS0)).mono ?_; rintro e w4 ⟨rfl, hS4⟩)
      | (go_at_call 41; refine (orW _ _ _ _ _ (heap_alloc_new _ _)).mono ?_; rintro e w5 ⟨rfl, hw5⟩; subst hw5))
  go_wp2
  go_ret
  exact ⟨rfl, hS4.2.2.alloc _⟩
end Go.Proofs.YtecnnlppinhmgaaGreatDoor.SfL
namespace Go.Proofs
open Go.Shelf
def Tryz.laysC172_ren : Go.Shelf.Ren := ⟨fun | 172 => 68 | 244 => 88 | 245 => 89 | 247 => 110 | 279 => 111 | 280 => 112 | 281 => 113 | 282 => 114 | 287 => 142 | 316 => 143 | 171 => 54 | 205 => 144 | 321 => 161 | 322 => 162 | 243 => 81 | 246 => 104 | 283 => 125 | 284 => 126 | 285 => 127 | 286 => 128 | 129 => 99 | 317 => 148 | 318 => 149 | 319 => 150 | 320 => 151 | 337 => 163 | 338 => 164 | n => n, fun | 9 => 9 | 3 => 3 | 75 => 28 | 76 => 123 | 4 => 4 | 5 => 5 | 167 => 177 | 37 => 24 | 0 => 0 | 85 => 178 | 2 => 2 | 168 => 180 | 53 => 127 | 175 => 208 | 46 => 92 | 210 => 212 | 127 => 223 | 145 => 226 | 143 => 224 | 21 => 21 | 171 => 194 | 173 => 196 | 212 => 218 | 51 => 90 | 20 => 20 | 213 => 219 | 232 => 63 | 233 => 234 | 80 => 235 | n => n, fun | 15 => 7 | 16 => 8 | 17 => 9 | 18 => 13 | 19 => 14 | n => n⟩
theorem Tryz.laysC172 : Go.Proofs.LaysC.n172 Tryz.prog Tryz.laysC172_ren := {
  mixed := by kernel_rfl
  f129 := Tryz.func99.trans (congrArg some (by kernel_rfl))
  f171 := Tryz.func54.trans (congrArg some (by kernel_rfl))
  f172 := Tryz.func68.trans (congrArg some (by kernel_rfl))
  f205 := Tryz.func144.trans (congrArg some (by kernel_rfl))
  f243 := Tryz.func81.trans (congrArg some (by kernel_rfl))
  f244 := Tryz.func88.trans (congrArg some (by kernel_rfl))
  f245 := Tryz.func89.trans (congrArg some (by kernel_rfl))
  f246 := Tryz.func104.trans (congrArg some (by kernel_rfl))
  f247 := Tryz.func110.trans (congrArg some (by kernel_rfl))
  f279 := Tryz.func111.trans (congrArg some (by kernel_rfl))
  f280 := Tryz.func112.trans (congrArg some (by kernel_rfl))
  f281 := Tryz.func113.trans (congrArg some (by kernel_rfl))
  f282 := Tryz.func114.trans (congrArg some (by kernel_rfl))
  f283 := Tryz.func125.trans (congrArg some (by kernel_rfl))
  f284 := Tryz.func126.trans (congrArg some (by kernel_rfl))
  f285 := Tryz.func127.trans (congrArg some (by kernel_rfl))
  f286 := Tryz.func128.trans (congrArg some (by kernel_rfl))
  f287 := Tryz.func142.trans (congrArg some (by kernel_rfl))
  f316 := Tryz.func143.trans (congrArg some (by kernel_rfl))
  f317 := Tryz.func148.trans (congrArg some (by kernel_rfl))
  f318 := Tryz.func149.trans (congrArg some (by kernel_rfl))
  f319 := Tryz.func150.trans (congrArg some (by kernel_rfl))
  f320 := Tryz.func151.trans (congrArg some (by kernel_rfl))
  f321 := Tryz.func161.trans (congrArg some (by kernel_rfl))
  f322 := Tryz.func162.trans (congrArg some (by kernel_rfl))
  f337 := Tryz.func163.trans (congrArg some (by kernel_rfl))
  f338 := Tryz.func164.trans (congrArg some (by kernel_rfl))
  t0 := Tryz.underlying0
  a0 := Tryz.isAgg0
  z0 := Tryz.sizeOf0
  v0 := Tryz.zeroValue0
  t2 := Tryz.underlying2
  a2 := Tryz.isAgg2
  z2 := Tryz.sizeOf2
  v2 := Tryz.zeroValue2
  t3 := Tryz.underlying3
  a3 := Tryz.isAgg3
  z3 := Tryz.sizeOf3
  v3 := Tryz.zeroValue3
  t4 := Tryz.underlying4
  a4 := Tryz.isAgg4
  z4 := Tryz.sizeOf4
  v4 := Tryz.zeroValue4
  t5 := Tryz.underlying5
  a5 := Tryz.isAgg5
  z5 := Tryz.sizeOf5
  v5 := Tryz.zeroValue5
  t9 := Tryz.underlying9
  a9 := Tryz.isAgg9
  z9 := Tryz.sizeOf9
  v9 := Tryz.zeroValue9
  t20 := Tryz.underlying20
  a20 := Tryz.isAgg20
  z20 := Tryz.sizeOf20
  v20 := Tryz.zeroValue20
  t21 := Tryz.underlying21
  a21 := Tryz.isAgg21
  z21 := Tryz.sizeOf21
  v21 := Tryz.zeroValue21
  t37 := Tryz.underlying24
  a37 := Tryz.isAgg24
  z37 := Tryz.sizeOf24
  v37 := Tryz.zeroValue24
  t46 := Tryz.underlying92
  a46 := Tryz.isAgg92
  z46 := Tryz.sizeOf92
  v46 := Tryz.zeroValue92
  t51 := Tryz.underlying90
  a51 := Tryz.isAgg90
  z51 := Tryz.sizeOf90
  v51 := Tryz.zeroValue90
  t53 := Tryz.underlying127
  a53 := Tryz.isAgg127
  z53 := Tryz.sizeOf127
  v53 := Tryz.zeroValue127
  t75 := Tryz.underlying28
  a75 := Tryz.isAgg28
  z75 := Tryz.sizeOf28
  v75 := Tryz.zeroValue28
  t76 := Tryz.underlying123
  a76 := Tryz.isAgg123
  z76 := Tryz.sizeOf123
  v76 := Tryz.zeroValue123
  t85 := Tryz.underlying178
  a85 := Tryz.isAgg178
  z85 := Tryz.sizeOf178
  v85 := Tryz.zeroValue178
  t127 := Tryz.underlying223
  a127 := Tryz.isAgg223
  z127 := Tryz.sizeOf223
  v127 := Tryz.zeroValue223
  t143 := Tryz.underlying224
  a143 := Tryz.isAgg224
  z143 := Tryz.sizeOf224
  v143 := Tryz.zeroValue224
  t145 := Tryz.underlying226
  a145 := Tryz.isAgg226
  z145 := Tryz.sizeOf226
  v145 := Tryz.zeroValue226
  t167 := Tryz.underlying177
  a167 := Tryz.isAgg177
  z167 := Tryz.sizeOf177
  v167 := Tryz.zeroValue177
  t168 := Tryz.underlying180
  a168 := Tryz.isAgg180
  z168 := Tryz.sizeOf180
  v168 := Tryz.zeroValue180
  t171 := Tryz.underlying194
  a171 := Tryz.isAgg194
  z171 := Tryz.sizeOf194
  v171 := Tryz.zeroValue194
  t173 := Tryz.underlying196
  a173 := Tryz.isAgg196
  z173 := Tryz.sizeOf196
  v173 := Tryz.zeroValue196
  t175 := Tryz.underlying208
  a175 := Tryz.isAgg208
  z175 := Tryz.sizeOf208
  v175 := Tryz.zeroValue208
  t210 := Tryz.underlying212
  a210 := Tryz.isAgg212
  z210 := Tryz.sizeOf212
  v210 := Tryz.zeroValue212
  t212 := Tryz.underlying218
  a212 := Tryz.isAgg218
  z212 := Tryz.sizeOf218
  v212 := Tryz.zeroValue218
  t213 := Tryz.underlying219
  a213 := Tryz.isAgg219
  z213 := Tryz.sizeOf219
  t232 := Tryz.underlying63
  a232 := Tryz.isAgg63
  z232 := Tryz.sizeOf63
  v232 := Tryz.zeroValue63
  t233 := Tryz.underlying234
  a233 := Tryz.isAgg234
  z233 := Tryz.sizeOf234
  v233 := Tryz.zeroValue234
  g15 := by kernel_rfl
  g16 := by kernel_rfl
  g17 := by kernel_rfl
  g18 := by kernel_rfl
  g19 := by kernel_rfl
  t80 := Tryz.underlying235
  a80 := Tryz.isAgg235
  z80 := Tryz.sizeOf235
  v80 := Tryz.zeroValue235
  i0 := by kernel_rfl
  i2 := by kernel_rfl
  i3 := by kernel_rfl
  i4 := by kernel_rfl
  i5 := by kernel_rfl
  i9 := by kernel_rfl
  i20 := by kernel_rfl
  i21 := by kernel_rfl
  i37 := by kernel_rfl
  i46 := by kernel_rfl
  i51 := by kernel_rfl
  i53 := by kernel_rfl
  i75 := by kernel_rfl
  i76 := by kernel_rfl
  i80 := by kernel_rfl
  i85 := by kernel_rfl
  i127 := by kernel_rfl
  i143 := by kernel_rfl
  i145 := by kernel_rfl
  i167 := by kernel_rfl
  i168 := by kernel_rfl
  i171 := by kernel_rfl
  i173 := by kernel_rfl
  i175 := by kernel_rfl
  i210 := by kernel_rfl
  i212 := by kernel_rfl
  i232 := by kernel_rfl
  i233 := by kernel_rfl
  m15 := by kernel_rfl
  m16 := by kernel_rfl
  m17 := by kernel_rfl
  m18 := by kernel_rfl
  m19 := by kernel_rfl
  c0 := by kernel_rfl
  c2 := by kernel_rfl
  c3 := by kernel_rfl
  c4 := by kernel_rfl
  c5 := by kernel_rfl
  c9 := by kernel_rfl
  c20 := by kernel_rfl
  c21 := by kernel_rfl
  c37 := by kernel_rfl
  c46 := by kernel_rfl
  c51 := by kernel_rfl
  c53 := by kernel_rfl
  c75 := by kernel_rfl
  c76 := by kernel_rfl
  c80 := by kernel_rfl
  c85 := by kernel_rfl
  c127 := by kernel_rfl
  c143 := by kernel_rfl
  c145 := by kernel_rfl
  c167 := by kernel_rfl
  c168 := by kernel_rfl
  c171 := by kernel_rfl
  c173 := by kernel_rfl
  c175 := by kernel_rfl
  c210 := by kernel_rfl
  c212 := by kernel_rfl
  c213 := by kernel_rfl
  c232 := by kernel_rfl
  c233 := by kernel_rfl }
open Go.RowKit in
theorem Tryz.strconv_Atoi_ok (s : ByteArray) (hmax : s.size ≤ 9223372036854775806) (v : Int) (h : Lib.atoiAll s.data.toList = .ok v) (w : World) :
    Calls Tryz.prog 68 #[.string s] w fun e w' => e = .returned (.tuple #[.int .i64 v, .nilIface]) ∧ (w' = w ∨ ∃ t, w' = Lib.bytesWorld w 5 t) := Any.strconv_Atoi_ok Tryz.laysC172 s hmax v h w
def Tryz.lays146_ren : Go.Shelf.Ren := ⟨fun | 146 => 67 | 221 => 87 | 268 => 107 | 138 => 108 | 143 => 109 | 195 => 138 | 197 => 139 | 218 => 140 | 219 => 141 | 260 => 156 | 217 => 157 | 225 => 158 | 224 => 159 | 267 => 160 | 266 => 166 | 314 => 167 | n => n, fun | 9 => 9 | 31 => 76 | 3 => 3 | 4 => 4 | 0 => 0 | 105 => 205 | 21 => 21 | 5 => 5 | 46 => 92 | 119 => 228 | 139 => 231 | 138 => 230 | 146 => 232 | 51 => 90 | n => n, fun | 1 => 10 | 3 => 11 | 4 => 12 | n => n⟩
theorem Tryz.lays146 : Go.Proofs.Lays.n146 Tryz.prog Tryz.lays146_ren := {
  mixed := by kernel_rfl
  f138 := Tryz.func108.trans (congrArg some (by kernel_rfl))
  f143 := Tryz.func109.trans (congrArg some (by kernel_rfl))
  f146 := Tryz.func67.trans (congrArg some (by kernel_rfl))
  f195 := Tryz.func138.trans (congrArg some (by kernel_rfl))
  f197 := Tryz.func139.trans (congrArg some (by kernel_rfl))
  f217 := Tryz.func157.trans (congrArg some (by kernel_rfl))
  f218 := Tryz.func140.trans (congrArg some (by kernel_rfl))
  f219 := Tryz.func141.trans (congrArg some (by kernel_rfl))
  f221 := Tryz.func87.trans (congrArg some (by kernel_rfl))
  f224 := Tryz.func159.trans (congrArg some (by kernel_rfl))
  f225 := Tryz.func158.trans (congrArg some (by kernel_rfl))
  f260 := Tryz.func156.trans (congrArg some (by kernel_rfl))
  f266 := Tryz.func166.trans (congrArg some (by kernel_rfl))
  f267 := Tryz.func160.trans (congrArg some (by kernel_rfl))
  f268 := Tryz.func107.trans (congrArg some (by kernel_rfl))
  f314 := Tryz.func167.trans (congrArg some (by kernel_rfl))
  t0 := Tryz.underlying0
  a0 := Tryz.isAgg0
  z0 := Tryz.sizeOf0
  v0 := Tryz.zeroValue0
  t3 := Tryz.underlying3
  a3 := Tryz.isAgg3
  z3 := Tryz.sizeOf3
  v3 := Tryz.zeroValue3
  t4 := Tryz.underlying4
  a4 := Tryz.isAgg4
  z4 := Tryz.sizeOf4
  v4 := Tryz.zeroValue4
  t5 := Tryz.underlying5
  a5 := Tryz.isAgg5
  z5 := Tryz.sizeOf5
  v5 := Tryz.zeroValue5
  t9 := Tryz.underlying9
  a9 := Tryz.isAgg9
  z9 := Tryz.sizeOf9
  v9 := Tryz.zeroValue9
  t21 := Tryz.underlying21
  a21 := Tryz.isAgg21
  z21 := Tryz.sizeOf21
  v21 := Tryz.zeroValue21
  t31 := Tryz.underlying76
  a31 := Tryz.isAgg76
  z31 := Tryz.sizeOf76
  v31 := Tryz.zeroValue76
  t46 := Tryz.underlying92
  a46 := Tryz.isAgg92
  z46 := Tryz.sizeOf92
  v46 := Tryz.zeroValue92
  t51 := Tryz.underlying90
  a51 := Tryz.isAgg90
  z51 := Tryz.sizeOf90
  v51 := Tryz.zeroValue90
  t105 := Tryz.underlying205
  a105 := Tryz.isAgg205
  z105 := Tryz.sizeOf205
  v105 := Tryz.zeroValue205
  t119 := Tryz.underlying228
  a119 := Tryz.isAgg228
  z119 := Tryz.sizeOf228
  t138 := Tryz.underlying230
  a138 := Tryz.isAgg230
  z138 := Tryz.sizeOf230
  v138 := Tryz.zeroValue230
  t139 := Tryz.underlying231
  a139 := Tryz.isAgg231
  z139 := Tryz.sizeOf231
  v139 := Tryz.zeroValue231
  t146 := Tryz.underlying232
  a146 := Tryz.isAgg232
  z146 := Tryz.sizeOf232
  v146 := Tryz.zeroValue232
  g1 := by kernel_rfl
  g3 := by kernel_rfl
  g4 := by kernel_rfl }
open Go.RowKit Go.Lib in
theorem Tryz.strings_Split (s sep : ByteArray) (m : Int) (w : World) (hs : s.size < 4294967281) (hm : w.cell? ⟨10, 0, none⟩ = some (.int .i64 m)) (h1 : 1 ≤ sep.size) :
    Calls Tryz.prog 67 #[.string s, .string sep] w fun e w' =>
      e = .returned (.slice (some ⟨w.heap.size, 0, none⟩) (Lib.countB s sep + 1) (Lib.countB s sep + 1)) ∧ w' = w.alloc (.cells ((Lib.splitB sep 0 (Lib.countB s sep) s).map Value.string).toArray 9) := Any.strings_Split Tryz.lays146 (by kernel_rfl) s sep m w hs hm h1
end Go.Proofs
namespace Go.Proofs.YtecnnlppinhmgaaGreatDoor.Xp

/-- how a byte is written; the empty list: as it is -/
def ent (c : UInt8) : List UInt8 :=
  if c = 38 then [38, 97, 109, 112, 59] else if c = 60 then [38, 108, 116, 59] else if c = 62 then [38, 103, 116, 59] else
  if c = 34 then [38, 113, 117, 111, 116, 59] else if c = 39 then [38, 97, 112, 111, 115, 59] else []
def escB (c : UInt8) : List UInt8 := if ent c = [] then [c] else ent c
def esc (l : List UInt8) : List UInt8 := l.flatMap escB
def cand : List UInt8 := [38, 60, 62, 34, 39]
/-- one byte read back -/
def un1 (s : List UInt8) : Option (UInt8 × List UInt8) := match s with
  | [] => none
  | c :: t => if c ≠ 38 then (if ent c ≠ [] then none else some (c, t)) else
      cand.findSome? fun d => if (ent d).isPrefixOf (c :: t) then some (d, (c :: t).drop (ent d).length) else none
def unF : Nat → List UInt8 → List UInt8 → Option (List UInt8)
  | _, [], acc => some acc
  | 0, _ :: _, _ => none
  | n + 1, c :: t, acc => match un1 (c :: t) with
    | none => none
    | some (d, r) => unF n r (acc ++ [d])
def unesc (s : List UInt8) : Option (List UInt8) := unF s.length s []

theorem ent_cases (d : UInt8) : (d = 38 ∧ ent d = [38, 97, 109, 112, 59]) ∨ (d = 60 ∧ ent d = [38, 108, 116, 59]) ∨ (d = 62 ∧ ent d = [38, 103, 116, 59]) ∨
    (d = 34 ∧ ent d = [38, 113, 117, 111, 116, 59]) ∨ (d = 39 ∧ ent d = [38, 97, 112, 111, 115, 59]) ∨ (d ≠ 38 ∧ d ≠ 60 ∧ d ≠ 62 ∧ d ≠ 34 ∧ d ≠ 39 ∧ ent d = []) := by
  by_cases h1 : d = 38
  · subst h1; exact .inl ⟨rfl, rfl⟩
  by_cases h2 : d = 60
  · subst h2; exact .inr (.inl ⟨rfl, rfl⟩)
  by_cases h3 : d = 62
  · subst h3; exact .inr (.inr (.inl ⟨rfl, rfl⟩))
  by_cases h4 : d = 34
  · subst h4; exact .inr (.inr (.inr (.inl ⟨rfl, rfl⟩)))
  by_cases h5 : d = 39
  · subst h5; exact .inr (.inr (.inr (.inr (.inl ⟨rfl, rfl⟩))))
  · exact .inr (.inr (.inr (.inr (.inr ⟨h1, h2, h3, h4, h5, by simp [ent, h1, h2, h3, h4, h5]⟩))))

theorem escB_plain {d : UInt8} (h : ent d = []) : escB d = [d] := by simp [escB, h]
theorem escB_ent {d : UInt8} (h : ent d ≠ []) : escB d = ent d := by simp [escB, h]
theorem escB_len (d : UInt8) : 1 ≤ (escB d).length ∧ (escB d).length ≤ 6 := by
  rcases ent_cases d with ⟨rfl, e⟩ | ⟨rfl, e⟩ | ⟨rfl, e⟩ | ⟨rfl, e⟩ | ⟨rfl, e⟩ | ⟨_, _, _, _, _, e⟩ <;> simp [escB, e]
theorem esc_nil : esc [] = [] := rfl
theorem esc_append (a b : List UInt8) : esc (a ++ b) = esc a ++ esc b := by simp [esc]
theorem esc_snoc (a : List UInt8) (c : UInt8) : esc (a ++ [c]) = esc a ++ escB c := by simp [esc]
theorem esc_cons (c : UInt8) (a : List UInt8) : esc (c :: a) = escB c ++ esc a := by simp [esc]
theorem esc_len (l : List UInt8) : (esc l).length ≤ 6 * l.length := by
  induction l with
  | nil => simp [esc]
  | cons c t ih => have := (escB_len c).2; rw [esc_cons]; simp; omega

theorem un1_hit {s : List UInt8} {d : UInt8} (h : (escB d).isPrefixOf s = true) : un1 s = some (d, s.drop (escB d).length) := by
  rw [List.isPrefixOf_iff_prefix] at h
  obtain ⟨r, rfl⟩ := h
  rcases ent_cases d with ⟨rfl, e⟩ | ⟨rfl, e⟩ | ⟨rfl, e⟩ | ⟨rfl, e⟩ | ⟨rfl, e⟩ | ⟨h1, _, _, _, _, e⟩
  · rfl
  · rfl
  · rfl
  · rfl
  · rfl
  · simp [escB_plain e, un1, h1, e]
theorem un1_miss {s : List UInt8} (h : ∀ d, (escB d).isPrefixOf s = false) : un1 s = none := by
  match s with
  | [] => rfl
  | c :: t =>
    by_cases h38 : c = 38
    · subst h38
      have e1 := h 38; have e2 := h 60; have e3 := h 62; have e4 := h 34; have e5 := h 39
      rw [escB_ent (by decide)] at e1 e2 e3 e4 e5
      simp only [un1, ne_eq, not_true_eq_false, if_false, cand, List.findSome?, e1, e2, e3, e4, e5]
      rfl
    · by_cases he : ent c = []
      · have := h c
        rw [escB_plain he] at this
        simp at this
      · simp [un1, h38, he]
theorem un1_lt {s : List UInt8} {d : UInt8} {r : List UInt8} (h : un1 s = some (d, r)) : r.length < s.length := by
  by_cases hx : ∃ x, (escB x).isPrefixOf s = true
  · obtain ⟨x, hx⟩ := hx
    rw [un1_hit hx] at h
    injection h with h
    injection h with _ h
    subst h
    have := (escB_len x).1
    rw [List.isPrefixOf_iff_prefix] at hx
    have := hx.length_le
    simp; omega
  · rw [un1_miss (fun d => Bool.eq_false_iff.2 fun h => hx ⟨d, h⟩)] at h
    cases h

theorem unF_step {n : Nat} {s acc : List UInt8} {d : UInt8} {r : List UInt8} (h : un1 s = some (d, r)) : unF (n + 1) s acc = unF n r (acc ++ [d]) := by
  cases s with
  | nil => cases h
  | cons c t => simp [unF, h]
theorem unF_stop {n : Nat} {s acc : List UInt8} (hs : s ≠ []) (h : un1 s = none) : unF n s acc = none := by
  cases s with
  | nil => exact absurd rfl hs
  | cons c t => cases n <;> simp [unF, h]
theorem unF_nil (n : Nat) (acc : List UInt8) : unF n [] acc = some acc := by cases n <;> rfl

theorem unF_esc (l : List UInt8) : ∀ (n : Nat) (acc : List UInt8), l.length ≤ n → unF n (esc l) acc = some (acc ++ l) := by
  induction l with
  | nil => intro n acc _; simp [esc, unF_nil]
  | cons c t ih =>
    intro n acc hn
    obtain ⟨m, rfl⟩ : ∃ m, n = m + 1 := ⟨n - 1, by simp at hn; omega⟩
    rw [esc_cons, unF_step (un1_hit (by rw [List.isPrefixOf_iff_prefix]; exact ⟨_, rfl⟩)), List.drop_left, ih m _ (by simp at hn; omega)]
    simp
theorem esc_len_ge (l : List UInt8) : l.length ≤ (esc l).length := by
  induction l with
  | nil => simp
  | cons c t ih => have := (escB_len c).1; rw [esc_cons]; simp; omega
theorem unesc_esc (l : List UInt8) : unesc (esc l) = some l := by
  simpa [unesc] using unF_esc l (esc l).length [] (esc_len_ge l)
theorem unF_len : ∀ (n : Nat) (s acc x : List UInt8), unF n s acc = some x → x.length ≤ acc.length + s.length := by
  intro n
  induction n with
  | zero => intro s acc x h; cases s <;> simp [unF] at h; subst h; simp
  | succ n ih =>
    intro s acc x h
    cases s with
    | nil => simp [unF] at h; subst h; simp
    | cons c t =>
      cases hu : un1 (c :: t) with
      | none => simp [unF, hu] at h
      | some p =>
        obtain ⟨d, r⟩ := p
        rw [unF_step hu] at h
        have := ih _ _ _ h
        have := un1_lt hu
        simp at *; omega

/-- no byte of an escaped text is one of < > and the two quotes -/
theorem esc_clean (l : List UInt8) : ∀ c ∈ esc l, c ≠ 60 ∧ c ≠ 62 ∧ c ≠ 34 ∧ c ≠ 39 := by
  intro c hc
  simp only [esc, List.mem_flatMap] at hc
  obtain ⟨d, _, hd⟩ := hc
  rcases ent_cases d with ⟨rfl, e⟩ | ⟨rfl, e⟩ | ⟨rfl, e⟩ | ⟨rfl, e⟩ | ⟨rfl, e⟩ | ⟨h1, h2, h3, h4, h5, e⟩
  all_goals (simp [escB, e] at hd)
  all_goals first | (rcases hd with rfl | rfl | rfl | rfl | rfl | rfl <;> decide) | (rcases hd with rfl | rfl | rfl | rfl | rfl <;> decide) | (rcases hd with rfl | rfl | rfl | rfl <;> decide) | (subst hd; exact ⟨h2, h3, h4, h5⟩)

/-- an element -/
def tag (name s : List UInt8) : List UInt8 := [60] ++ name ++ [62] ++ s ++ [60, 47] ++ name ++ [62]
theorem un1_38 {t : List UInt8} (h : ∀ j, j < 5 → (ent (cand.getD j 0)).isPrefixOf (38 :: t) = false) : un1 (38 :: t) = none := by
  have e1 := h 0 (by omega); have e2 := h 1 (by omega); have e3 := h 2 (by omega); have e4 := h 3 (by omega); have e5 := h 4 (by omega)
  simp only [cand, List.getD_cons_zero, List.getD_cons_succ] at e1 e2 e3 e4 e5
  simp only [un1, ne_eq, not_true_eq_false, if_false, cand, List.findSome?, e1, e2, e3, e4, e5]
  rfl
theorem cand_ent {j : Nat} (h : j < 5) : ent (cand.getD j 0) ≠ [] := by
  match j, h with
  | 0, _ => decide
  | 1, _ => decide
  | 2, _ => decide
  | 3, _ => decide
  | 4, _ => decide
theorem esc_one (d : UInt8) : esc [d] = escB d := by simp [esc]
theorem prefix_at {s e : List UInt8} {a : Nat} (h : e.isPrefixOf (s.drop a) = true) (ha : a ≤ s.length) : a + e.length ≤ s.length ∧ (s.take (a + e.length)).drop a = e := by
  rw [List.isPrefixOf_iff_prefix] at h
  have hl := h.length_le
  rw [List.length_drop] at hl
  refine ⟨by omega, ?_⟩
  rw [List.drop_take, Nat.add_sub_cancel_left]
  exact (List.prefix_iff_eq_take.1 h).symm
theorem prefix_of {s e : List UInt8} {a : Nat} (h : (s.take (a + e.length)).drop a = e) : e.isPrefixOf (s.drop a) = true := by
  rw [List.isPrefixOf_iff_prefix, List.prefix_iff_eq_take]
  rw [List.drop_take, Nat.add_sub_cancel_left] at h
  exact h.symm
def top : List UInt8 := [60, 63, 120, 109, 108, 32, 118, 101, 114, 115, 105, 111, 110, 61, 34, 49, 46, 48, 34, 63, 62, 10]
def docError (code : List UInt8) : List UInt8 := top ++ tag [69, 114, 114, 111, 114] (tag [67, 111, 100, 101] (esc code))
theorem tag_len (name s : List UInt8) : (tag name s).length = 2 * name.length + s.length + 5 := by simp [tag]; omega
theorem docError_alive : docError [97, 60, 98] = [60, 63, 120, 109, 108, 32, 118, 101, 114, 115, 105, 111, 110, 61, 34, 49, 46, 48, 34, 63, 62, 10, 60, 69, 114, 114, 111, 114, 62, 60, 67, 111, 100, 101, 62, 97, 38, 108, 116, 59, 98, 60, 47, 67, 111, 100, 101, 62, 60, 47, 69, 114, 114, 111, 114, 62] := rfl
/-- an entry of a page -/
structure Ent where
  name : List UInt8
  pre : Bool
  size : Int
  etag : List UInt8
  time : Int
def tName : List UInt8 := [78, 97, 109, 101]
def tPrefix : List UInt8 := [80, 114, 101, 102, 105, 120]
def tKey : List UInt8 := [75, 101, 121]
def tSize : List UInt8 := [83, 105, 122, 101]
def tEtag : List UInt8 := [69, 116, 97, 103]
def tTime : List UInt8 := [84, 105, 109, 101]
def tNext : List UInt8 := [78, 101, 120, 116]
def tList : List UInt8 := [76, 105, 115, 116]
def tBucket : List UInt8 := [66, 117, 99, 107, 101, 116]
def entKey (num : Int → List UInt8) (e : Ent) : List UInt8 := tag tName (esc e.name) ++ (tag tSize (num e.size) ++ (tag tEtag (esc e.etag) ++ tag tTime (num e.time)))
def entDoc (num : Int → List UInt8) (e : Ent) : List UInt8 := if e.pre then tag tPrefix (tag tName (esc e.name)) else tag tKey (entKey num e)
def listBody (num : Int → List UInt8) (bucket : List UInt8) (es : List Ent) (next : List UInt8) : List UInt8 :=
  tag tBucket (esc bucket) ++ ((es.map (entDoc num)).flatten ++ (if next = [] then [] else tag tNext (esc next)))
def docList (num : Int → List UInt8) (bucket : List UInt8) (es : List Ent) (next : List UInt8) : List UInt8 := top ++ tag tList (listBody num bucket es next)
end Go.Proofs.YtecnnlppinhmgaaGreatDoor.Xp
namespace Go.Proofs.YtecnnlppinhmgaaGreatDoor.Dec

theorem dec_len : ∀ (k u : Nat), u < 10 ^ (k + 1) → (Lib.decDigits u).length ≤ k + 1
  | 0, u, h => by
    rw [Lib.decDigits, dif_pos (by simpa using h)]
    simp
  | k + 1, u, h => by
    rw [Lib.decDigits]
    split
    · simp
    · have h2 : u / 10 < 10 ^ (k + 1) := by rw [Nat.pow_succ] at h; omega
      have := dec_len k (u / 10) h2
      simp; omega
theorem dec_pos (u : Nat) : 1 ≤ (Lib.decDigits u).length := by
  rw [Lib.decDigits]; split <;> simp
theorem dec_digit : ∀ (n u : Nat), u ≤ n → ∀ c ∈ Lib.decDigits u, 48 ≤ c.toNat ∧ c.toNat ≤ 57
  | n, u, hn, c, hc => by
    rw [Lib.decDigits] at hc
    split at hc
    · rename_i h
      rw [List.mem_singleton] at hc
      subst hc
      have : (UInt8.ofNat (48 + u)).toNat = 48 + u := by rw [UInt8.toNat_ofNat']; omega
      omega
    · rename_i h
      rw [List.mem_append] at hc
      rcases hc with hc | hc
      · cases n with
        | zero => omega
        | succ n => exact dec_digit n (u / 10) (by omega) c hc
      · rw [List.mem_singleton] at hc
        subst hc
        have : (UInt8.ofNat (48 + u % 10)).toNat = 48 + u % 10 := by rw [UInt8.toNat_ofNat']; omega
        omega
theorem itoa_len {n : Int} (h0 : -9223372036854775808 ≤ n) (h1 : n ≤ 9223372036854775807) : (Lib.itoa n).length ≤ 21 := by
  unfold Lib.itoa
  split
  · have := dec_len 19 n.natAbs (by have : n.natAbs ≤ 9223372036854775808 := by omega
                                    have : (9223372036854775808 : Nat) < 10 ^ 20 := by decide
                                    omega)
    simp; omega
  · have := dec_len 19 n.toNat (by have : n.toNat ≤ 9223372036854775807 := by omega
                                   have : (9223372036854775807 : Nat) < 10 ^ 20 := by decide
                                   omega)
    omega
theorem itoa_byte {n : Int} : ∀ c ∈ Lib.itoa n, c.toNat = 45 ∨ 48 ≤ c.toNat ∧ c.toNat ≤ 57 := by
  intro c hc
  unfold Lib.itoa at hc
  split at hc
  · rcases List.mem_cons.1 hc with rfl | hc
    · exact .inl rfl
    · exact .inr (dec_digit _ _ (Nat.le_refl _) c hc)
  · exact .inr (dec_digit _ _ (Nat.le_refl _) c hc)
theorem esc_plain {l : List UInt8} (h : ∀ c ∈ l, c.toNat = 45 ∨ 48 ≤ c.toNat ∧ c.toNat ≤ 57) : Xp.esc l = l := by
  induction l with
  | nil => rfl
  | cons c t ih =>
    rw [Xp.esc_cons, ih fun d hd => h d (List.mem_cons_of_mem _ hd)]
    have hc := h c List.mem_cons_self
    rcases Xp.ent_cases c with ⟨rfl, e⟩ | ⟨rfl, e⟩ | ⟨rfl, e⟩ | ⟨rfl, e⟩ | ⟨rfl, e⟩ | ⟨_, _, _, _, _, e⟩
    · exact absurd hc (by decide)
    · exact absurd hc (by decide)
    · exact absurd hc (by decide)
    · exact absurd hc (by decide)
    · exact absurd hc (by decide)
    · rw [Xp.escB_plain e]; rfl
theorem esc_itoa (n : Int) : Xp.esc (Lib.itoa n) = Lib.itoa n := esc_plain itoa_byte
end Go.Proofs.YtecnnlppinhmgaaGreatDoor.Dec
