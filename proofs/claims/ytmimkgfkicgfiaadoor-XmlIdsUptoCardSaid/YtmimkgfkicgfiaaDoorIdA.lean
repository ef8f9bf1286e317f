/-
  The walks of the two GoodId, and of bollardref08.number.
-/
import Derived.Test.YtmimkgfkicgfiaaDoorProg
import Derived.Test.YtmimkgfkicgfiaaDoorIdPlain
import Derived.Test.YtmimkgfkicgfiaaDoorCom
import Derived.WalkKit
import Derived.WalkSmall
import Derived.Outline
import Derived.Deep.LoopGhost
import Derived.Lib.Hide
import Derived.BigQuiet
namespace Go.Proofs.YtmimkgfkicgfiaaDoor.IdA
open Go.RowKit Go.Proofs.YtmimkgfkicgfiaaDoor Go.Proofs.YtmimkgfkicgfiaaDoor.Ip

def gd (x y z : Int) : Bool := decide (0 ≤ x) && decide (x ≤ 15) && decide (0 ≤ y) && decide (y ≤ 1099511627776) && decide (0 ≤ z) && decide (z ≤ 1099511627776)
theorem ret_bool {a b : Bool} (h : a = b) : Ending.returned (.bool a) = .returned (.bool b) := by rw [h]
def tm (y : Int) : Bool := decide (0 ≤ y) && decide (y ≤ 1099511627776)
set_option maxHeartbeats 1000000 in
theorem time (y : Int) (w : World) : Calls Tryd.prog 127 #[.int .i64 y] w fun e w' => e = .returned (.bool (tm y)) ∧ w = w' := by
  rcases Int.lt_or_le y 0 with a | a
  · have HE := Lib.hid (show tm y = false by simp [tm]; omega)
    go_enter Tryd.func127, Tryd.ntmps127
    go_wp2
    go_ret
    exact ⟨ret_bool (by rw [HE.out]; try (first | rfl | (simp; done) | (simp; omega))), rfl⟩
  · rcases Int.lt_or_le 1099511627776 y with b | b
    · have HE := Lib.hid (show tm y = false by simp [tm]; omega)
      go_enter Tryd.func127, Tryd.ntmps127
      go_wp2
      go_ret
      exact ⟨ret_bool (by rw [HE.out]; try (first | rfl | (simp; done) | (simp; omega))), rfl⟩
    · have HE := Lib.hid (show tm y = true by simp [tm]; omega)
      go_enter Tryd.func127, Tryd.ntmps127
      go_wp2
      go_ret
      exact ⟨ret_bool (by rw [HE.out]; try (first | rfl | (simp; done) | (simp; omega))), rfl⟩

set_option maxHeartbeats 1000000 in
set_option maxRecDepth 100000 in
theorem refGood (x y z : Int) (hx : -9223372036854775808 ≤ x ∧ x ≤ 9223372036854775807) (hy : -9223372036854775808 ≤ y ∧ y ≤ 9223372036854775807) (hz : -9223372036854775808 ≤ z ∧ z ≤ 9223372036854775807) (w : World) :
    Calls Tryd.prog 56 #[.agg #[.int .i64 x, .int .i64 y, .int .i64 z]] w fun e w' => e = .returned (.bool (gd x y z)) ∧ Below w.heap.size w w' := by
  rcases Int.lt_or_le x 0 with a0 | a0
  · have HE := Lib.hid (show gd x y z = false by simp [gd]; try omega)
    go_enter Tryd.func56, Tryd.ntmps56
    go_wp2_with (fail)
    go_ret
    exact ⟨ret_bool (by rw [HE.out]; try (first | rfl | (simp; done) | (simp; omega))), (Below.refl _ w).alloc (Nat.le_refl _) _⟩
  ·
    rcases Int.lt_or_le 15 x with a1 | a1
    · have HE := Lib.hid (show gd x y z = false by simp [gd]; try omega)
      go_enter Tryd.func56, Tryd.ntmps56
      go_wp2_with (fail)
      go_ret
      exact ⟨ret_bool (by rw [HE.out]; try (first | rfl | (simp; done) | (simp; omega))), (Below.refl _ w).alloc (Nat.le_refl _) _⟩
    ·
      rcases Int.lt_or_le y 0 with a2 | a2
      · have HE := Lib.hid (show gd x y z = false by simp [gd]; try omega)
        go_enter Tryd.func56, Tryd.ntmps56
        go_wp2_with (fail)
        go_ret
        exact ⟨ret_bool (by rw [HE.out]; try (first | rfl | (simp; done) | (simp; omega))), (Below.refl _ w).alloc (Nat.le_refl _) _⟩
      ·
        rcases Int.lt_or_le 1099511627776 y with a3 | a3
        · have HE := Lib.hid (show gd x y z = false by simp [gd]; try omega)
          go_enter Tryd.func56, Tryd.ntmps56
          go_wp2_with (fail)
          go_ret
          exact ⟨ret_bool (by rw [HE.out]; try (first | rfl | (simp; done) | (simp; omega))), (Below.refl _ w).alloc (Nat.le_refl _) _⟩
        ·
          rcases Int.lt_or_le z 0 with a4 | a4
          · have HE := Lib.hid (show gd x y z = false by simp [gd]; try omega)
            go_enter Tryd.func56, Tryd.ntmps56
            go_wp2_with (fail)
            go_ret
            exact ⟨ret_bool (by rw [HE.out]; try (first | rfl | (simp; done) | (simp; omega))), (Below.refl _ w).alloc (Nat.le_refl _) _⟩
          ·
            rcases Int.lt_or_le 1099511627776 z with a5 | a5
            · have HE := Lib.hid (show gd x y z = false by simp [gd]; try omega)
              go_enter Tryd.func56, Tryd.ntmps56
              go_wp2_with (fail)
              go_ret
              exact ⟨ret_bool (by rw [HE.out]; try (first | rfl | (simp; done) | (simp; omega))), (Below.refl _ w).alloc (Nat.le_refl _) _⟩
            · have HE := Lib.hid (show gd x y z = true by simp [gd]; try omega)
              go_enter Tryd.func56, Tryd.ntmps56
              go_wp2_with (fail)
              go_ret
              exact ⟨ret_bool (by rw [HE.out]; try (first | rfl | (simp; done) | (simp; omega))), (Below.refl _ w).alloc (Nat.le_refl _) _⟩

set_option maxHeartbeats 1000000 in
set_option maxRecDepth 100000 in
theorem good (x y z : Int) (hx : -9223372036854775808 ≤ x ∧ x ≤ 9223372036854775807) (hy : -9223372036854775808 ≤ y ∧ y ≤ 9223372036854775807) (hz : -9223372036854775808 ≤ z ∧ z ≤ 9223372036854775807) (w : World) :
    Calls Tryd.prog 100 #[.agg #[.int .i64 x, .int .i64 y, .int .i64 z]] w fun e w' => e = .returned (.bool (gd x y z)) ∧ Below w.heap.size w w' := by
  rcases Int.lt_or_le x 0 with a0 | a0
  · have HE := Lib.hid (show gd x y z = false by simp [gd]; try omega)
    go_enter Tryd.func100, Tryd.ntmps100
    go_wp2_with (go_at_call 127; refine (time _ _).mono ?_; rintro e w' ⟨rfl, rfl⟩)
    go_ret
    exact ⟨ret_bool (by rw [HE.out]; try (first | rfl | (simp; done) | (simp; omega))), (Below.refl _ w).alloc (Nat.le_refl _) _⟩
  ·
    rcases Int.lt_or_le 15 x with a1 | a1
    · have HE := Lib.hid (show gd x y z = false by simp [gd]; try omega)
      go_enter Tryd.func100, Tryd.ntmps100
      go_wp2_with (go_at_call 127; refine (time _ _).mono ?_; rintro e w' ⟨rfl, rfl⟩)
      go_ret
      exact ⟨ret_bool (by rw [HE.out]; try (first | rfl | (simp; done) | (simp; omega))), (Below.refl _ w).alloc (Nat.le_refl _) _⟩
    ·
      rcases Int.lt_or_le y 0 with a2 | a2
      · have ty : tm y = false := by simp [tm]; try omega
        have HE := Lib.hid (show gd x y z = false by simp [gd]; try omega)
        go_enter Tryd.func100, Tryd.ntmps100
        go_wp2_with (go_at_call 127; refine (time _ _).mono ?_; rintro e w' ⟨rfl, rfl⟩)
        go_ret
        exact ⟨ret_bool (by rw [HE.out]; try (first | rfl | (simp; done) | (simp; omega))), (Below.refl _ w).alloc (Nat.le_refl _) _⟩
      ·
        rcases Int.lt_or_le 1099511627776 y with a3 | a3
        · have ty : tm y = false := by simp [tm]; try omega
          have HE := Lib.hid (show gd x y z = false by simp [gd]; try omega)
          go_enter Tryd.func100, Tryd.ntmps100
          go_wp2_with (go_at_call 127; refine (time _ _).mono ?_; rintro e w' ⟨rfl, rfl⟩)
          go_ret
          exact ⟨ret_bool (by rw [HE.out]; try (first | rfl | (simp; done) | (simp; omega))), (Below.refl _ w).alloc (Nat.le_refl _) _⟩
        ·
          rcases Int.lt_or_le z 0 with a4 | a4
          · have ty : tm y = true := by simp [tm]; try omega
            have tz : tm z = false := by simp [tm]; try omega
            have HE := Lib.hid (show gd x y z = false by simp [gd]; try omega)
            go_enter Tryd.func100, Tryd.ntmps100
            go_wp2_with (go_at_call 127; refine (time _ _).mono ?_; rintro e w' ⟨rfl, rfl⟩)
            go_ret
            exact ⟨ret_bool (by rw [HE.out]; try (first | rfl | (simp; done) | (simp; omega))), (Below.refl _ w).alloc (Nat.le_refl _) _⟩
          ·
            rcases Int.lt_or_le 1099511627776 z with a5 | a5
            · have ty : tm y = true := by simp [tm]; try omega
              have tz : tm z = false := by simp [tm]; try omega
              have HE := Lib.hid (show gd x y z = false by simp [gd]; try omega)
              go_enter Tryd.func100, Tryd.ntmps100
              go_wp2_with (go_at_call 127; refine (time _ _).mono ?_; rintro e w' ⟨rfl, rfl⟩)
              go_ret
              exact ⟨ret_bool (by rw [HE.out]; try (first | rfl | (simp; done) | (simp; omega))), (Below.refl _ w).alloc (Nat.le_refl _) _⟩
            · have ty : tm y = true := by simp [tm]; try omega
              have tz : tm z = true := by simp [tm]; try omega
              have HE := Lib.hid (show gd x y z = true by simp [gd]; try omega)
              go_enter Tryd.func100, Tryd.ntmps100
              go_wp2_with (go_at_call 127; refine (time _ _).mono ?_; rintro e w' ⟨rfl, rfl⟩)
              go_ret
              exact ⟨ret_bool (by rw [HE.out]; try (first | rfl | (simp; done) | (simp; omega))), (Below.refl _ w).alloc (Nat.le_refl _) _⟩

end Go.Proofs.YtmimkgfkicgfiaaDoor.IdA
