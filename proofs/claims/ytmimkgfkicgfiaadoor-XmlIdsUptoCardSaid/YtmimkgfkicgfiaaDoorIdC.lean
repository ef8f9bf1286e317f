/-
  The walks of bollardref08.Parse and bollardref19.ParseId.
-/
import Derived.Test.YtmimkgfkicgfiaaDoorIdB
import Derived.RegionTactic
import Derived.BigRegion
import Derived.Deep.RegionHeld3
import Derived.Laws.ResultCell
import Derived.Below
namespace Go.Proofs.YtmimkgfkicgfiaaDoor.IdC
open Go.RowKit Go.Proofs.YtmimkgfkicgfiaaDoor Go.Proofs.YtmimkgfkicgfiaaDoor.Ip

abbrev idV (a b c : Int) : Value := .agg #[.int .i64 a, .int .i64 b, .int .i64 c]
/-- an id's block -/
def Ib (B : Nat) (w : World) (x y z : Value) : Prop := w.heap[B]? = some (.cells #[x, y, z] 51 (0, 0))
theorem Ib.below {B : Nat} {w w' : World} {x y z : Value} (h : Ib B w x y z) (hb : Below w.heap.size w w') : Ib B w' x y z := (hb.block _ (Array.getElem?_eq_some_iff.1 h).1).trans h
theorem Ib.lt {B : Nat} {w : World} {x y z : Value} (h : Ib B w x y z) : B < w.heap.size := (Array.getElem?_eq_some_iff.1 h).1
theorem Ib.cells {B : Nat} {w : World} {x y z : Value} (h : Ib B w x y z) : w.cell? ⟨B, 0, none⟩ = some x ∧ w.cell? ⟨B, 1, none⟩ = some y ∧ w.cell? ⟨B, 2, none⟩ = some z ∧ w.frozen? ⟨B, 0, none⟩ = false ∧ w.frozen? ⟨B, 1, none⟩ = false ∧ w.frozen? ⟨B, 2, none⟩ = false := by
  unfold Ib at h
  refine ⟨?_, ?_, ?_, Lib.frozen_of_heap h 0, Lib.frozen_of_heap h 1, Lib.frozen_of_heap h 2⟩
  all_goals (rw [Lib.cell_of_heap h]; rfl)
theorem Ib.put {B : Nat} {w : World} {x y z : Value} (h : Ib B w x y z) (a b c : Value) : Ib B (((w.setCell ⟨B, 0, none⟩ a).setCell ⟨B, 1, none⟩ b).setCell ⟨B, 2, none⟩ c) a b c := by
  unfold Ib at h ⊢
  simp only [World.setCell, Array.getElem?_modify, if_true, h]
  rfl
theorem Ib.drew {B : Nat} {w : World} {x y z : Value} (h : Ib B w x y z) : Ib B w.drew x y z := h
theorem below_put {B : Nat} {w w2 : World} (h : Below B w w2) (a b c : Value) : Below B w (((w2.setCell ⟨B, 0, none⟩ a).setCell ⟨B, 1, none⟩ b).setCell ⟨B, 2, none⟩ c) :=
  ((h.setCell (p := ⟨B, 0, none⟩) (Nat.le_refl _) _).setCell (p := ⟨B, 1, none⟩) (Nat.le_refl _) _).setCell (p := ⟨B, 2, none⟩) (Nat.le_refl _) _
set_option maxRecDepth 100000 in
theorem Ib.run8 {B : Nat} {w : World} {x y z er : Value} (h : Ib B w x y z) {tmps : Array Value} (h2 : tmps.getD 2 undef = .pointer (some ⟨B, 0, none⟩)) (h3 : tmps.getD 3 undef = er) :
    (results Tryd.f102 tmps).run Tryd.prog w = .ok (.tuple #[.agg #[x, y, z], er]) w := by
  obtain ⟨r0, r1, r2, _⟩ := h.cells
  have e : Tryd.f102.results = #[.cell 2 51, .tmp 3] := Tryd.results102
  rw [results_cell_tmp e, h2, h3]
  simp [go_sem, r0, r1, r2, Result.andThen]
set_option maxRecDepth 100000 in
theorem Ib.run19 {B : Nat} {w : World} {x y z er : Value} (h : Ib B w x y z) {tmps : Array Value} (h2 : tmps.getD 2 undef = .pointer (some ⟨B, 0, none⟩)) (h3 : tmps.getD 3 undef = er) :
    (results Tryd.f57 tmps).run Tryd.prog w = .ok (.tuple #[.agg #[x, y, z], er]) w := by
  obtain ⟨r0, r1, r2, _⟩ := h.cells
  have e : Tryd.f57.results = #[.cell 2 51, .tmp 3] := Tryd.results57
  rw [results_cell_tmp e, h2, h3]
  simp [go_sem, r0, r1, r2, Result.andThen]
set_option maxRecDepth 100000 in
theorem Ib.runX {B : Nat} {w : World} {x y z er : Value} (h : Ib B w x y z) {tmps : Array Value} (h2 : tmps.getD 2 undef = .pointer (some ⟨B, 0, none⟩)) (h3 : tmps.getD 3 undef = er) :
    (results Tryd.f54 tmps).run Tryd.prog w = .ok (.tuple #[.agg #[x, y, z], er]) w := by
  obtain ⟨r0, r1, r2, _⟩ := h.cells
  have e : Tryd.f54.results = #[.cell 2 51, .tmp 3] := Tryd.results54
  rw [results_cell_tmp e, h2, h3]
  simp [go_sem, r0, r1, r2, Result.andThen]

theorem goodK (W : World) (B : Nat) (v1 v2 v3 : Nat) (w : World) (b1 : v1 < 100000000000000) (b2 : v2 < 100000000000000) (b3 : v3 < 100000000000000) (hJ : Ib B W (.int .i64 0) (.int .i64 0) (.int .i64 0)) (hK : Ib (B + 1) W (.int .i64 v1) (.int .i64 v2) (.int .i64 v3)) (ht : Below W.heap.size W w) :
    Calls Tryd.prog 56 #[idV v1 v2 v3] w fun e w' => e = .returned (.bool (IdA.gd v1 v2 v3)) ∧ (w'.cell? ⟨B + 1, 0, none⟩ = some (.int .i64 v1) ∧ w'.cell? ⟨B + 1, 1, none⟩ = some (.int .i64 v2) ∧ w'.cell? ⟨B + 1, 2, none⟩ = some (.int .i64 v3)) ∧ (Ib B w' (.int .i64 0) (.int .i64 0) (.int .i64 0) ∧ w'.cell? ⟨B, 0, none⟩ = some (.int .i64 0) ∧ w'.cell? ⟨B, 1, none⟩ = some (.int .i64 0) ∧ w'.cell? ⟨B, 2, none⟩ = some (.int .i64 0) ∧ w'.frozen? ⟨B, 0, none⟩ = false ∧ w'.frozen? ⟨B, 1, none⟩ = false ∧ w'.frozen? ⟨B, 2, none⟩ = false) ∧ Below W.heap.size W w' := by
  refine (IdA.refGood v1 v2 v3 ⟨by omega, by omega⟩ ⟨by omega, by omega⟩ ⟨by omega, by omega⟩ w).mono ?_
  rintro e w' ⟨rfl, hb⟩
  have hb' := ht.trans (hb.mono ht.size)
  obtain ⟨j0, j1, j2, g0, g1, g2⟩ := (hJ.below hb').cells
  obtain ⟨k0, k1, k2, _⟩ := (hK.below hb').cells
  exact ⟨rfl, ⟨k0, k1, k2⟩, ⟨hJ.below hb', j0, j1, j2, g0, g1, g2⟩, hb'⟩

set_option maxHeartbeats 2000000 in
set_option maxRecDepth 100000 in
theorem no_ok1 (f : ByteArray) (v1 p1 : Nat) (w : World) (h2 : (2 : Int) ≤ f.size) (hex : f.extract 0 2 = ⟨#[98, 45]⟩)   (N1 : Hid (∀ w, Calls Tryd.prog 129 #[.string f, .int .i64 2] w fun e w' => e = .returned (.tuple #[.int .i64 (v1 : Nat), .int .i64 (p1 : Nat), .bool false]) ∧ w = w')) (hfs : (f.size : Int) ≤ 70368744177664) :
    Calls Tryd.prog 102 #[.string f] w fun e w' => e = .returned (.tuple #[idV 0 0 0, .bool false]) ∧ Below w.heap.size w w' := by
  have hI : Ib w.heap.size (w.alloc (.cells #[.int .i64 0, .int .i64 0, .int .i64 0] 51)) (.int .i64 0) (.int .i64 0) (.int .i64 0) := heap_alloc_new _ _
  have hB : Below w.heap.size w (w.alloc (.cells #[.int .i64 0, .int .i64 0, .int .i64 0] 51)) := (Below.refl _ _).alloc (Nat.le_refl _) _
  obtain ⟨i0, i1, i2, f0, f1, f2⟩ := hI.cells
  have HI := Lib.hid hI; have HBE := Lib.hid hB
  clear hI hB
  go_enter Tryd.func102, Tryd.ntmps102
  go_wp2_with fail
  refine (N1.out _).mono ?_
  rintro e w' ⟨rfl, rfl⟩
  go_wp2_with fail
  exact bodyPost_ret (HI.out.run8 rfl rfl) rfl ⟨rfl, HBE.out⟩

set_option maxHeartbeats 2000000 in
set_option maxRecDepth 100000 in
theorem no_end1 (f : ByteArray) (v1 p1 : Nat) (w : World) (h2 : (2 : Int) ≤ f.size) (hex : f.extract 0 2 = ⟨#[98, 45]⟩)  (hq : ¬ (p1 : Int) < f.size) (N1 : Hid (∀ w, Calls Tryd.prog 129 #[.string f, .int .i64 2] w fun e w' => e = .returned (.tuple #[.int .i64 (v1 : Nat), .int .i64 (p1 : Nat), .bool true]) ∧ w = w')) (hfs : (f.size : Int) ≤ 70368744177664) :
    Calls Tryd.prog 102 #[.string f] w fun e w' => e = .returned (.tuple #[idV 0 0 0, .bool false]) ∧ Below w.heap.size w w' := by
  have hI : Ib w.heap.size (w.alloc (.cells #[.int .i64 0, .int .i64 0, .int .i64 0] 51)) (.int .i64 0) (.int .i64 0) (.int .i64 0) := heap_alloc_new _ _
  have hB : Below w.heap.size w (w.alloc (.cells #[.int .i64 0, .int .i64 0, .int .i64 0] 51)) := (Below.refl _ _).alloc (Nat.le_refl _) _
  obtain ⟨i0, i1, i2, f0, f1, f2⟩ := hI.cells
  have HI := Lib.hid hI; have HBE := Lib.hid hB
  clear hI hB
  go_enter Tryd.func102, Tryd.ntmps102
  go_wp2_with fail
  refine (N1.out _).mono ?_
  rintro e w' ⟨rfl, rfl⟩
  go_wp2_with fail
  exact bodyPost_ret (HI.out.run8 rfl rfl) rfl ⟨rfl, HBE.out⟩

set_option maxHeartbeats 2000000 in
set_option maxRecDepth 100000 in
theorem no_at1 (f : ByteArray) (v1 p1 : Nat) (w : World) (h2 : (2 : Int) ≤ f.size) (hex : f.extract 0 2 = ⟨#[98, 45]⟩)  (q1 : p1 < f.size) (t1 : (((f[p1]'q1).toNat : Int) != 45) = true) (N1 : Hid (∀ w, Calls Tryd.prog 129 #[.string f, .int .i64 2] w fun e w' => e = .returned (.tuple #[.int .i64 (v1 : Nat), .int .i64 (p1 : Nat), .bool true]) ∧ w = w')) (hfs : (f.size : Int) ≤ 70368744177664) :
    Calls Tryd.prog 102 #[.string f] w fun e w' => e = .returned (.tuple #[idV 0 0 0, .bool false]) ∧ Below w.heap.size w w' := by
  have hI : Ib w.heap.size (w.alloc (.cells #[.int .i64 0, .int .i64 0, .int .i64 0] 51)) (.int .i64 0) (.int .i64 0) (.int .i64 0) := heap_alloc_new _ _
  have hB : Below w.heap.size w (w.alloc (.cells #[.int .i64 0, .int .i64 0, .int .i64 0] 51)) := (Below.refl _ _).alloc (Nat.le_refl _) _
  obtain ⟨i0, i1, i2, f0, f1, f2⟩ := hI.cells
  have HI := Lib.hid hI; have HBE := Lib.hid hB
  clear hI hB
  go_enter Tryd.func102, Tryd.ntmps102
  go_wp2_with fail
  refine (N1.out _).mono ?_
  rintro e w' ⟨rfl, rfl⟩
  go_wp2_with fail
  exact bodyPost_ret (HI.out.run8 rfl rfl) rfl ⟨rfl, HBE.out⟩

set_option maxHeartbeats 2000000 in
set_option maxRecDepth 100000 in
theorem no_ok2 (f : ByteArray) (v1 v2 p1 p2 : Nat) (w : World) (h2 : (2 : Int) ≤ f.size) (hex : f.extract 0 2 = ⟨#[98, 45]⟩)  (q1 : p1 < f.size) (t1 : (((f[p1]'q1).toNat : Int) != 45) = false)  (N1 : Hid (∀ w, Calls Tryd.prog 129 #[.string f, .int .i64 2] w fun e w' => e = .returned (.tuple #[.int .i64 (v1 : Nat), .int .i64 (p1 : Nat), .bool true]) ∧ w = w')) (N2 : Hid (∀ w, Calls Tryd.prog 129 #[.string f, .int .i64 ((p1 : Int) + 1)] w fun e w' => e = .returned (.tuple #[.int .i64 (v2 : Nat), .int .i64 (p2 : Nat), .bool false]) ∧ w = w')) (hfs : (f.size : Int) ≤ 70368744177664) :
    Calls Tryd.prog 102 #[.string f] w fun e w' => e = .returned (.tuple #[idV 0 0 0, .bool false]) ∧ Below w.heap.size w w' := by
  have hI : Ib w.heap.size (w.alloc (.cells #[.int .i64 0, .int .i64 0, .int .i64 0] 51)) (.int .i64 0) (.int .i64 0) (.int .i64 0) := heap_alloc_new _ _
  have hB : Below w.heap.size w (w.alloc (.cells #[.int .i64 0, .int .i64 0, .int .i64 0] 51)) := (Below.refl _ _).alloc (Nat.le_refl _) _
  obtain ⟨i0, i1, i2, f0, f1, f2⟩ := hI.cells
  have HI := Lib.hid hI; have HBE := Lib.hid hB
  clear hI hB
  have hw1 : IntKind.i64.wrap ((p1 : Int) + 1) = (p1 : Int) + 1 := IntWalk.i64_in _ ⟨by omega, by omega⟩
  go_enter Tryd.func102, Tryd.ntmps102
  go_wp2_with fail
  refine (N1.out _).mono ?_
  rintro e w' ⟨rfl, rfl⟩
  go_wp2_with fail
  refine (N2.out _).mono ?_
  rintro e w' ⟨rfl, rfl⟩
  go_wp2_with fail
  exact bodyPost_ret (HI.out.run8 rfl rfl) rfl ⟨rfl, HBE.out⟩

set_option maxHeartbeats 2000000 in
set_option maxRecDepth 100000 in
theorem no_end2 (f : ByteArray) (v1 v2 p1 p2 : Nat) (w : World) (h2 : (2 : Int) ≤ f.size) (hex : f.extract 0 2 = ⟨#[98, 45]⟩)  (q1 : p1 < f.size) (t1 : (((f[p1]'q1).toNat : Int) != 45) = false) (hq : ¬ (p2 : Int) < f.size) (N1 : Hid (∀ w, Calls Tryd.prog 129 #[.string f, .int .i64 2] w fun e w' => e = .returned (.tuple #[.int .i64 (v1 : Nat), .int .i64 (p1 : Nat), .bool true]) ∧ w = w')) (N2 : Hid (∀ w, Calls Tryd.prog 129 #[.string f, .int .i64 ((p1 : Int) + 1)] w fun e w' => e = .returned (.tuple #[.int .i64 (v2 : Nat), .int .i64 (p2 : Nat), .bool true]) ∧ w = w')) (hfs : (f.size : Int) ≤ 70368744177664) :
    Calls Tryd.prog 102 #[.string f] w fun e w' => e = .returned (.tuple #[idV 0 0 0, .bool false]) ∧ Below w.heap.size w w' := by
  have hI : Ib w.heap.size (w.alloc (.cells #[.int .i64 0, .int .i64 0, .int .i64 0] 51)) (.int .i64 0) (.int .i64 0) (.int .i64 0) := heap_alloc_new _ _
  have hB : Below w.heap.size w (w.alloc (.cells #[.int .i64 0, .int .i64 0, .int .i64 0] 51)) := (Below.refl _ _).alloc (Nat.le_refl _) _
  obtain ⟨i0, i1, i2, f0, f1, f2⟩ := hI.cells
  have HI := Lib.hid hI; have HBE := Lib.hid hB
  clear hI hB
  have hw1 : IntKind.i64.wrap ((p1 : Int) + 1) = (p1 : Int) + 1 := IntWalk.i64_in _ ⟨by omega, by omega⟩
  go_enter Tryd.func102, Tryd.ntmps102
  go_wp2_with fail
  refine (N1.out _).mono ?_
  rintro e w' ⟨rfl, rfl⟩
  go_wp2_with fail
  refine (N2.out _).mono ?_
  rintro e w' ⟨rfl, rfl⟩
  go_wp2_with fail
  exact bodyPost_ret (HI.out.run8 rfl rfl) rfl ⟨rfl, HBE.out⟩

set_option maxHeartbeats 2000000 in
set_option maxRecDepth 100000 in
theorem no_at2 (f : ByteArray) (v1 v2 p1 p2 : Nat) (w : World) (h2 : (2 : Int) ≤ f.size) (hex : f.extract 0 2 = ⟨#[98, 45]⟩)  (q1 : p1 < f.size) (t1 : (((f[p1]'q1).toNat : Int) != 45) = false) (q2 : p2 < f.size) (t2 : (((f[p2]'q2).toNat : Int) != 45) = true) (N1 : Hid (∀ w, Calls Tryd.prog 129 #[.string f, .int .i64 2] w fun e w' => e = .returned (.tuple #[.int .i64 (v1 : Nat), .int .i64 (p1 : Nat), .bool true]) ∧ w = w')) (N2 : Hid (∀ w, Calls Tryd.prog 129 #[.string f, .int .i64 ((p1 : Int) + 1)] w fun e w' => e = .returned (.tuple #[.int .i64 (v2 : Nat), .int .i64 (p2 : Nat), .bool true]) ∧ w = w')) (hfs : (f.size : Int) ≤ 70368744177664) :
    Calls Tryd.prog 102 #[.string f] w fun e w' => e = .returned (.tuple #[idV 0 0 0, .bool false]) ∧ Below w.heap.size w w' := by
  have hI : Ib w.heap.size (w.alloc (.cells #[.int .i64 0, .int .i64 0, .int .i64 0] 51)) (.int .i64 0) (.int .i64 0) (.int .i64 0) := heap_alloc_new _ _
  have hB : Below w.heap.size w (w.alloc (.cells #[.int .i64 0, .int .i64 0, .int .i64 0] 51)) := (Below.refl _ _).alloc (Nat.le_refl _) _
  obtain ⟨i0, i1, i2, f0, f1, f2⟩ := hI.cells
  have HI := Lib.hid hI; have HBE := Lib.hid hB
  clear hI hB
  have hw1 : IntKind.i64.wrap ((p1 : Int) + 1) = (p1 : Int) + 1 := IntWalk.i64_in _ ⟨by omega, by omega⟩
  go_enter Tryd.func102, Tryd.ntmps102
  go_wp2_with fail
  refine (N1.out _).mono ?_
  rintro e w' ⟨rfl, rfl⟩
  go_wp2_with fail
  refine (N2.out _).mono ?_
  rintro e w' ⟨rfl, rfl⟩
  go_wp2_with fail
  exact bodyPost_ret (HI.out.run8 rfl rfl) rfl ⟨rfl, HBE.out⟩

set_option maxHeartbeats 2000000 in
set_option maxRecDepth 100000 in
theorem fin_no (f : ByteArray) (v1 v2 v3 p1 p2 p3 : Nat) (w : World) (h2 : (2 : Int) ≤ f.size) (hex : f.extract 0 2 = ⟨#[98, 45]⟩)  (q1 : p1 < f.size) (t1 : (((f[p1]'q1).toNat : Int) != 45) = false) (q2 : p2 < f.size) (t2 : (((f[p2]'q2).toNat : Int) != 45) = false)  (N1 : Hid (∀ w, Calls Tryd.prog 129 #[.string f, .int .i64 2] w fun e w' => e = .returned (.tuple #[.int .i64 (v1 : Nat), .int .i64 (p1 : Nat), .bool true]) ∧ w = w')) (N2 : Hid (∀ w, Calls Tryd.prog 129 #[.string f, .int .i64 ((p1 : Int) + 1)] w fun e w' => e = .returned (.tuple #[.int .i64 (v2 : Nat), .int .i64 (p2 : Nat), .bool true]) ∧ w = w')) (N3 : Hid (∀ w, Calls Tryd.prog 129 #[.string f, .int .i64 ((p2 : Int) + 1)] w fun e w' => e = .returned (.tuple #[.int .i64 (v3 : Nat), .int .i64 (p3 : Nat), .bool false]) ∧ w = w')) (hfs : (f.size : Int) ≤ 70368744177664) :
    Calls Tryd.prog 102 #[.string f] w fun e w' => e = .returned (.tuple #[idV v1 v2 v3, .bool false]) ∧ Below w.heap.size w w' := by
  have hI : Ib w.heap.size (w.alloc (.cells #[.int .i64 0, .int .i64 0, .int .i64 0] 51)) (.int .i64 0) (.int .i64 0) (.int .i64 0) := heap_alloc_new _ _
  have hB : Below w.heap.size w (w.alloc (.cells #[.int .i64 0, .int .i64 0, .int .i64 0] 51)) := (Below.refl _ _).alloc (Nat.le_refl _) _
  obtain ⟨i0, i1, i2, f0, f1, f2⟩ := hI.cells
  have HI := Lib.hid hI; have HBE := Lib.hid hB
  clear hI hB
  have hw1 : IntKind.i64.wrap ((p1 : Int) + 1) = (p1 : Int) + 1 := IntWalk.i64_in _ ⟨by omega, by omega⟩
  have hw2 : IntKind.i64.wrap ((p2 : Int) + 1) = (p2 : Int) + 1 := IntWalk.i64_in _ ⟨by omega, by omega⟩
  go_enter Tryd.func102, Tryd.ntmps102
  go_wp2_with fail
  refine (N1.out _).mono ?_
  rintro e w' ⟨rfl, rfl⟩
  go_wp2_with fail
  refine (N2.out _).mono ?_
  rintro e w' ⟨rfl, rfl⟩
  go_wp2_with fail
  refine (N3.out _).mono ?_
  rintro e w' ⟨rfl, rfl⟩
  go_wp2_with fail
  go_region
  go_wp2
  have hf : Ib w.heap.size (((w.alloc (.cells #[.int .i64 v1, .int .i64 v2, .int .i64 v3] 51)).alloc (.cells #[.int .i64 v1, .int .i64 v2, .int .i64 v3] 51)).drew) (.int .i64 v1) (.int .i64 v2) (.int .i64 v3) := (Below.heap_alloc _ _ _ (by simp)).trans (heap_alloc_new _ _)
  exact bodyPost_ret (hf.run8 rfl rfl) rfl ⟨rfl, (((Below.refl _ w).alloc (Nat.le_refl _) _).alloc (by simp) _).drew⟩

set_option maxHeartbeats 2000000 in
set_option maxRecDepth 100000 in
theorem fin_more (f : ByteArray) (v1 v2 v3 p1 p2 p3 : Nat) (w : World) (h2 : (2 : Int) ≤ f.size) (hex : f.extract 0 2 = ⟨#[98, 45]⟩)  (q1 : p1 < f.size) (t1 : (((f[p1]'q1).toNat : Int) != 45) = false) (q2 : p2 < f.size) (t2 : (((f[p2]'q2).toNat : Int) != 45) = false) (hq : ((p3 : Int) == f.size) = false) (N1 : Hid (∀ w, Calls Tryd.prog 129 #[.string f, .int .i64 2] w fun e w' => e = .returned (.tuple #[.int .i64 (v1 : Nat), .int .i64 (p1 : Nat), .bool true]) ∧ w = w')) (N2 : Hid (∀ w, Calls Tryd.prog 129 #[.string f, .int .i64 ((p1 : Int) + 1)] w fun e w' => e = .returned (.tuple #[.int .i64 (v2 : Nat), .int .i64 (p2 : Nat), .bool true]) ∧ w = w')) (N3 : Hid (∀ w, Calls Tryd.prog 129 #[.string f, .int .i64 ((p2 : Int) + 1)] w fun e w' => e = .returned (.tuple #[.int .i64 (v3 : Nat), .int .i64 (p3 : Nat), .bool true]) ∧ w = w')) (hfs : (f.size : Int) ≤ 70368744177664) :
    Calls Tryd.prog 102 #[.string f] w fun e w' => e = .returned (.tuple #[idV v1 v2 v3, .bool false]) ∧ Below w.heap.size w w' := by
  have hI : Ib w.heap.size (w.alloc (.cells #[.int .i64 0, .int .i64 0, .int .i64 0] 51)) (.int .i64 0) (.int .i64 0) (.int .i64 0) := heap_alloc_new _ _
  have hB : Below w.heap.size w (w.alloc (.cells #[.int .i64 0, .int .i64 0, .int .i64 0] 51)) := (Below.refl _ _).alloc (Nat.le_refl _) _
  obtain ⟨i0, i1, i2, f0, f1, f2⟩ := hI.cells
  have HI := Lib.hid hI; have HBE := Lib.hid hB
  clear hI hB
  have hw1 : IntKind.i64.wrap ((p1 : Int) + 1) = (p1 : Int) + 1 := IntWalk.i64_in _ ⟨by omega, by omega⟩
  have hw2 : IntKind.i64.wrap ((p2 : Int) + 1) = (p2 : Int) + 1 := IntWalk.i64_in _ ⟨by omega, by omega⟩
  go_enter Tryd.func102, Tryd.ntmps102
  go_wp2_with fail
  refine (N1.out _).mono ?_
  rintro e w' ⟨rfl, rfl⟩
  go_wp2_with fail
  refine (N2.out _).mono ?_
  rintro e w' ⟨rfl, rfl⟩
  go_wp2_with fail
  refine (N3.out _).mono ?_
  rintro e w' ⟨rfl, rfl⟩
  go_wp2_with fail
  go_region
  go_wp2
  have hf : Ib w.heap.size (((w.alloc (.cells #[.int .i64 v1, .int .i64 v2, .int .i64 v3] 51)).alloc (.cells #[.int .i64 v1, .int .i64 v2, .int .i64 v3] 51)).drew) (.int .i64 v1) (.int .i64 v2) (.int .i64 v3) := (Below.heap_alloc _ _ _ (by simp)).trans (heap_alloc_new _ _)
  exact bodyPost_ret (hf.run8 rfl rfl) rfl ⟨rfl, (((Below.refl _ w).alloc (Nat.le_refl _) _).alloc (by simp) _).drew⟩

set_option maxHeartbeats 2000000 in
set_option maxRecDepth 100000 in
theorem fin_ok (f : ByteArray) (v1 v2 v3 p1 p2 p3 : Nat) (w : World) (h2 : (2 : Int) ≤ f.size) (hex : f.extract 0 2 = ⟨#[98, 45]⟩)  (q1 : p1 < f.size) (t1 : (((f[p1]'q1).toNat : Int) != 45) = false) (q2 : p2 < f.size) (t2 : (((f[p2]'q2).toNat : Int) != 45) = false) (hq : ((p3 : Int) == f.size) = true) (b1 : v1 < 100000000000000) (b2 : v2 < 100000000000000) (b3 : v3 < 100000000000000) (N1 : Hid (∀ w, Calls Tryd.prog 129 #[.string f, .int .i64 2] w fun e w' => e = .returned (.tuple #[.int .i64 (v1 : Nat), .int .i64 (p1 : Nat), .bool true]) ∧ w = w')) (N2 : Hid (∀ w, Calls Tryd.prog 129 #[.string f, .int .i64 ((p1 : Int) + 1)] w fun e w' => e = .returned (.tuple #[.int .i64 (v2 : Nat), .int .i64 (p2 : Nat), .bool true]) ∧ w = w')) (N3 : Hid (∀ w, Calls Tryd.prog 129 #[.string f, .int .i64 ((p2 : Int) + 1)] w fun e w' => e = .returned (.tuple #[.int .i64 (v3 : Nat), .int .i64 (p3 : Nat), .bool true]) ∧ w = w')) (hfs : (f.size : Int) ≤ 70368744177664) :
    Calls Tryd.prog 102 #[.string f] w fun e w' => e = .returned (.tuple #[idV v1 v2 v3, .bool (IdA.gd v1 v2 v3)]) ∧ Below w.heap.size w w' := by
  have hI : Ib w.heap.size (w.alloc (.cells #[.int .i64 0, .int .i64 0, .int .i64 0] 51)) (.int .i64 0) (.int .i64 0) (.int .i64 0) := heap_alloc_new _ _
  have hB : Below w.heap.size w (w.alloc (.cells #[.int .i64 0, .int .i64 0, .int .i64 0] 51)) := (Below.refl _ _).alloc (Nat.le_refl _) _
  obtain ⟨i0, i1, i2, f0, f1, f2⟩ := hI.cells
  have HI := Lib.hid hI; have HBE := Lib.hid hB
  clear hI hB
  have hw1 : IntKind.i64.wrap ((p1 : Int) + 1) = (p1 : Int) + 1 := IntWalk.i64_in _ ⟨by omega, by omega⟩
  have hw2 : IntKind.i64.wrap ((p2 : Int) + 1) = (p2 : Int) + 1 := IntWalk.i64_in _ ⟨by omega, by omega⟩
  go_enter Tryd.func102, Tryd.ntmps102
  go_wp2_with fail
  refine (N1.out _).mono ?_
  rintro e w' ⟨rfl, rfl⟩
  go_wp2_with fail
  refine (N2.out _).mono ?_
  rintro e w' ⟨rfl, rfl⟩
  go_wp2_with fail
  refine (N3.out _).mono ?_
  rintro e w' ⟨rfl, rfl⟩
  go_wp2_with fail
  have hJ : Ib w.heap.size ((w.alloc (.cells #[.int .i64 0, .int .i64 0, .int .i64 0] 51)).alloc (.cells #[.int .i64 v1, .int .i64 v2, .int .i64 v3] 51)) (.int .i64 0) (.int .i64 0) (.int .i64 0) := (Below.heap_alloc _ _ _ (by simp)).trans (heap_alloc_new _ _)
  have hK : Ib (w.heap.size + 1) ((w.alloc (.cells #[.int .i64 0, .int .i64 0, .int .i64 0] 51)).alloc (.cells #[.int .i64 v1, .int .i64 v2, .int .i64 v3] 51)) (.int .i64 v1) (.int .i64 v2) (.int .i64 v3) := by
    have := heap_alloc_new (w.alloc (.cells #[.int .i64 0, .int .i64 0, .int .i64 0] 51)) (.cells #[.int .i64 v1, .int .i64 v2, .int .i64 v3] 51)
    rwa [World.size_alloc] at this
  have hBW : Below w.heap.size w ((w.alloc (.cells #[.int .i64 0, .int .i64 0, .int .i64 0] 51)).alloc (.cells #[.int .i64 v1, .int .i64 v2, .int .i64 v3] 51)) := ((Below.refl _ w).alloc (Nat.le_refl _) _).alloc (by simp) _
  generalize hW : (w.alloc (.cells #[.int .i64 0, .int .i64 0, .int .i64 0] 51)).alloc (.cells #[.int .i64 v1, .int .i64 v2, .int .i64 v3] 51) = W at *
  obtain ⟨j0, j1, j2, g0, g1, g2⟩ := hJ.cells
  obtain ⟨k0, k1, k2, _, _, _⟩ := hK.cells
  have HJ := Lib.hid hJ; have HK := Lib.hid hK; have HBW := Lib.hid hBW
  have hne : ¬ w.heap.size = w.heap.size + 1 := by omega
  have hne2 : ¬ w.heap.size + 1 = w.heap.size := by omega
  clear hJ hK hBW hW j0 j1 j2 g0 g1 g2 i0 i1 i2 f0 f1 f2 HI HBE
  go_region_held3 (fun w' => w'.cell? ⟨w.heap.size + 1, 0, none⟩ = some (.int .i64 v1) ∧ w'.cell? ⟨w.heap.size + 1, 1, none⟩ = some (.int .i64 v2) ∧ w'.cell? ⟨w.heap.size + 1, 2, none⟩ = some (.int .i64 v3))
    (first | go_keep)
    (first
      | (go_at_call 56; refine (goodK W w.heap.size v1 v2 v3 _ b1 b2 b3 HJ.out HK.out ?_).mono ?_; (first | exact Below.refl _ _ | exact (Below.refl _ _).drew); rintro e w6 ⟨rfl, k6, ⟨mI, m0, m1, m2, o0, o1, o2⟩, t6⟩))
  have mI' := mI.put (.int .i64 v1) (.int .i64 v2) (.int .i64 v3)
  have mB := below_put (HBW.out.trans (t6.mono HBW.out.size)) (.int .i64 v1) (.int .i64 v2) (.int .i64 v3)
  go_wp2
  exact bodyPost_ret (mI'.run8 rfl rfl) rfl ⟨rfl, mB⟩

end Go.Proofs.YtmimkgfkicgfiaaDoor.IdC
