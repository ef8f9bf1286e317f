/-
  The order of pairs by name, then value: the closure that Canonical hands to slices.SortFunc.
-/
import Derived.Test.YtmimkgfkicgfiaaDoorUriL
import Derived.Sort.Grow
import Derived.BigRegion
import Derived.StillTailTactics
namespace Go.Proofs.YtmimkgfkicgfiaaDoor.UriN
open Go.RowKit Go.Lib Go.Sort Go.Proofs.YtmimkgfkicgfiaaDoor Go.Proofs.YtmimkgfkicgfiaaDoor.UriC

abbrev Pr := List UInt8 × List UInt8
def enc (x : Pr) : List Value := [.string ⟨x.1.toArray⟩, .string ⟨x.2.toArray⟩]
/-- the order of two texts -/
def cs (a b : List UInt8) : Int := if Op.bytesLess a b = true then -1 else if (a == b) = true then 0 else 1
def cf (x y : Pr) : Int := if cs x.1 y.1 ≠ 0 then cs x.1 y.1 else cs x.2 y.2

theorem region_tail {id : Nat} {Q : Exit → Act → World → Prop} {a : Act} {w : World} {l : List Oper} (n : Nat) (hB : Region.lexTailB .any l.toArray n = true)
    (h : wpStill Tryd.prog l.toArray w.drew (fun a' => wpList Tryd.prog l.toArray Q (l.drop n) a' w.drew) (l.take n) a) : (Code.region id l.toArray true).wp Tryd.prog Q a w :=
  wp_region_still_tail n (by kernel_rfl) hB h

set_option maxHeartbeats 1000000 in
theorem isNaN (a : ByteArray) (w : World) : Calls Tryd.prog 120 #[.string a] w fun e w' => e = .returned (.bool false) ∧ w' = w := by
  go_enter Tryd.func120, Tryd.ntmps120
  go_wp2_with fail
  go_ret
  exact ⟨rfl, rfl⟩
set_option maxHeartbeats 1000000 in
theorem compare (a b : List UInt8) (w : World) : Calls Tryd.prog 95 #[.string ⟨a.toArray⟩, .string ⟨b.toArray⟩] w fun e w' => e = .returned (.int .i64 (cs a b)) ∧ w' = w := by
  go_enter Tryd.func95, Tryd.ntmps95
  go_wp2_with (go_at_call 120; refine (isNaN _ _).mono ?_; rintro e w' ⟨rfl, rfl⟩)
  all_goals
    go_ret
    refine ⟨?_, rfl⟩
    simp_all [cs]
set_option maxHeartbeats 1000000 in
theorem cmpOr (a b r : Int) (hr : r = if a ≠ 0 then a else b) (bk c : Nat) (w : World) (h0 : w.cell? ⟨bk, 0, none⟩ = some (.int .i64 a)) (h1 : w.cell? ⟨bk, 1, none⟩ = some (.int .i64 b)) : Calls Tryd.prog 94 #[.slice (some ⟨bk, 0, none⟩) 2 c] w fun e w' => e = .returned (.int .i64 r) ∧ w' = w := by
  have HR := Lib.hid hr; clear hr
  go_enter Tryd.func94, Tryd.ntmps94
  go_wp2_with fail
  refine wp_loop_rounds 3 ?_
  rw [rounds_succ]
  by_cases ha : a = 0
  · have HE := Lib.hid (show r = b by rw [HR.out]; simp [ha])
    subst ha
    go_wp2_with fail
    rw [rounds_succ]
    by_cases hb : b = 0
    · have HB := Lib.hid hb
      subst hb
      go_wp2_with fail
      rw [rounds_succ]
      go_wp2_with fail
      go_ret
      exact ⟨by rw [HE.out]; rfl, rfl⟩
    · have t2 : (b != 0) = true := by simp [hb]
      clear hb
      go_wp2_with fail
      go_ret
      exact ⟨by rw [HE.out]; rfl, rfl⟩
  · have t1 : (a != 0) = true := by simp [ha]
    have HE := Lib.hid (show r = a by rw [HR.out]; simp [ha])
    clear ha
    go_wp2_with fail
    go_ret
    exact ⟨by rw [HE.out]; rfl, rfl⟩

set_option maxRecDepth 100000 in
set_option maxHeartbeats 1000000 in
theorem closure (x y : Pr) (W : World) : Calls Tryd.prog 93 #[.agg (enc x).toArray, .agg (enc y).toArray] W fun e w' => e = .returned (.int .i64 (cf x y)) ∧ ∃ q os', w' = Sort.grow (W.drewN q) os' := by
  obtain ⟨x1, x2⟩ := x
  obtain ⟨y1, y2⟩ := y
  unfold enc
  show Calls Tryd.prog 93 #[.agg #[.string ⟨x1.toArray⟩, .string ⟨x2.toArray⟩], .agg #[.string ⟨y1.toArray⟩, .string ⟨y2.toArray⟩]] W _
  have hcf : cf (x1, x2) (y1, y2) = if cs x1 y1 ≠ 0 then cs x1 y1 else cs x2 y2 := rfl
  generalize cf (x1, x2) (y1, y2) = r at hcf ⊢
  have HC := Lib.hid hcf
  clear hcf
  go_enter Tryd.func93, Tryd.ntmps93
  go_wp2_with fail
  refine region_tail 10 (by kernel_rfl) ?_
  simp only [List.take_succ_cons, List.take_zero, List.drop_succ_cons, List.drop_zero]
  repeat still_step
  still_call (compare x1 y1 _)
  repeat still_step
  still_call (compare x2 y2 _)
  refine wpStill_nil ?_
  have hsz : W.heap.size + 1 + 1 = ((W.alloc (.cells #[Value.string ⟨x1.toArray⟩, Value.string ⟨x2.toArray⟩] 93)).alloc (.cells #[Value.string ⟨y1.toArray⟩, Value.string ⟨y2.toArray⟩] 93)).heap.size := by simp
  have HSZ := Lib.hid hsz; clear hsz
  go_wp2_with (go_at_call 94; refine (cmpOr _ _ r HC.out _ _ _ (by rw [HSZ.out]; exact cells_two _ _ _ _ 0 _ rfl) (by rw [HSZ.out]; exact cells_two _ _ _ _ 1 _ rfl)).mono ?_; rintro e w' ⟨rfl, rfl⟩)
  go_ret
  exact ⟨rfl, 1, _, by rw [alloc_eq_grow, alloc_eq_grow, alloc_eq_grow, grow_grow, grow_grow]; rfl⟩
end Go.Proofs.YtmimkgfkicgfiaaDoor.UriN
