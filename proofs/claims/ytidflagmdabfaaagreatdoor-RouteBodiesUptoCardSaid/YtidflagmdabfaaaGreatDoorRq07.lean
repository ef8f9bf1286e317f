/-
  The walk of package bollardref10's InForm: it answers at every command.
-/
import Derived.Test.YtidflagmdabfaaaGreatDoorRq06
import Derived.Deep.MidRow
import Derived.Deep.CutRange
namespace Go.Proofs.YtidflagmdabfaaaGreatDoor.RtT
open Go.RowKit Go.Proofs.YtidflagmdabfaaaGreatDoor Go.Proofs.YtidflagmdabfaaaGreatDoor.RtX

/-- what lies in a command's cell -/
def fits : Nat → Value → Prop
  | 4, v => ∃ s, v = .string s
  | 5, v => ∃ s, v = .string s
  | 13, v => ∃ s, v = .string s
  | 15, v => ∃ a n c, v = .slice a n c
  | _, v => ∃ n, v = .int .i64 n
/-- some command's box -/
def Ty (B : Nat) (w : World) : Prop := ∃ vs : Array Value, (∀ j, j < 18 → ∃ v, vs[j]? = some v ∧ fits j v) ∧ w.heap[B]? = some (.cells vs 35 (0, 0))
theorem Ty.at {B : Nat} {w : World} (h : Ty B w) (j : Nat) (hj : j < 18) : ∃ v, fits j v ∧ w.cell? ⟨B, j, none⟩ = some v ∧ w.frozen? ⟨B, j, none⟩ = false := by
  obtain ⟨vs, h1, h2⟩ := h
  obtain ⟨v, h3, h4⟩ := h1 j hj
  exact ⟨v, h4, by rw [Lib.cell_of_heap h2]; exact h3, Lib.frozen_of_heap h2 j⟩
theorem Ty.set {B : Nat} {w : World} (h : Ty B w) (j : Nat) (v : Value) (hv : fits j v) : Ty B (w.setCell ⟨B, j, none⟩ v) := by
  obtain ⟨vs, h1, h2⟩ := h
  refine ⟨vs.setIfInBounds j v, fun i hi => ?_, ?_⟩
  · obtain ⟨u, h3, h4⟩ := h1 i hi
    by_cases hij : j = i
    · subst hij
      exact ⟨v, by rw [Array.getElem?_setIfInBounds_self_of_lt (Array.getElem?_eq_some_iff.1 h3).1], hv⟩
    · exact ⟨u, by rw [Array.getElem?_setIfInBounds_ne hij]; exact h3, h4⟩
  · simp only [World.setCell, Array.getElem?_modify, if_true, h2]; rfl
theorem Ty.below {B : Nat} {w w' : World} (h : Ty B w) (hb : Below w.heap.size w w') : Ty B w' := by
  obtain ⟨vs, h1, h2⟩ := h
  exact ⟨vs, h1, (hb.block _ (Array.getElem?_eq_some_iff.1 h2).1).trans h2⟩

/-- where the walk stands: the command's box, another command's box -/
structure St (w : World) (X : Array Value) (N : Nat) (W : World) : Prop where
  bel : Below w.heap.size w W
  x : W.heap[w.heap.size]? = some (.cells X 35 (0, 0))
  z : Ty N W
  lt : w.heap.size < N
theorem St.below {w : World} {X : Array Value} {N : Nat} {W W' : World} (h : St w X N W) (hb : Below W.heap.size W W') : St w X N W' :=
  ⟨h.bel.trans (hb.mono h.bel.size), (hb.block _ (Array.getElem?_eq_some_iff.1 h.x).1).trans h.x, h.z.below hb, h.lt⟩
theorem St.drew {w : World} {X : Array Value} {N : Nat} {W : World} (h : St w X N W) : St w X N W.drew := h.below (Below.refl _ _).drew
theorem St.set {w : World} {X : Array Value} {N : Nat} {W : World} (h : St w X N W) (j : Nat) (v : Value) (hv : fits j v) : St w X N (W.setCell ⟨N, j, none⟩ v) :=
  ⟨h.bel.setCell (p := ⟨N, j, none⟩) (Nat.le_of_lt h.lt) _, by rw [Below.heap_setCell _ _ _ _ (fun e => absurd e (Nat.ne_of_lt h.lt))]; exact h.x, h.z.set j v hv, h.lt⟩
theorem St.cell {w : World} {X : Array Value} {N : Nat} {W : World} (h : St w X N W) (j : Nat) {v : Value} (hv : X[j]? = some v) : W.cell? ⟨w.heap.size, j, none⟩ = some v := by
  rw [Lib.cell_of_heap h.x]; exact hv

abbrev X (kd i0 i1 i2 : Int) (bk ky : ByteArray) (p0 p1 p2 b0 b1 b2 sz : Int) (et : ByteArray) (pt : Int) (pa : Option Addr) (pn pc : Nat) (tm dy : Int) : Array Value :=
  #[.int .i64 kd, .int .i64 i0, .int .i64 i1, .int .i64 i2, .string bk, .string ky, .int .i64 p0, .int .i64 p1, .int .i64 p2, .int .i64 b0, .int .i64 b1, .int .i64 b2, .int .i64 sz, .string et, .int .i64 pt, .slice pa pn pc, .int .i64 tm, .int .i64 dy]
abbrev Z (kd i0 i1 i2 : Int) : Array Value :=
  #[.int .i64 kd, .int .i64 i0, .int .i64 i1, .int .i64 i2, .string ⟨#[]⟩, .string ⟨#[]⟩, .int .i64 0, .int .i64 0, .int .i64 0, .int .i64 0, .int .i64 0, .int .i64 0, .int .i64 0, .string ⟨#[]⟩, .int .i64 0, .slice none 0 0, .int .i64 0, .int .i64 0]
theorem Z_ty (kd i0 i1 i2 : Int) (j : Nat) (hj : j < 18) : ∃ v, (Z kd i0 i1 i2)[j]? = some v ∧ fits j v := by
  match j, hj with
  | 0, _ => exact ⟨_, rfl, _, rfl⟩
  | 1, _ => exact ⟨_, rfl, _, rfl⟩
  | 2, _ => exact ⟨_, rfl, _, rfl⟩
  | 3, _ => exact ⟨_, rfl, _, rfl⟩
  | 4, _ => exact ⟨_, rfl, _, rfl⟩
  | 5, _ => exact ⟨_, rfl, _, rfl⟩
  | 6, _ => exact ⟨_, rfl, _, rfl⟩
  | 7, _ => exact ⟨_, rfl, _, rfl⟩
  | 8, _ => exact ⟨_, rfl, _, rfl⟩
  | 9, _ => exact ⟨_, rfl, _, rfl⟩
  | 10, _ => exact ⟨_, rfl, _, rfl⟩
  | 11, _ => exact ⟨_, rfl, _, rfl⟩
  | 12, _ => exact ⟨_, rfl, _, rfl⟩
  | 13, _ => exact ⟨_, rfl, _, rfl⟩
  | 14, _ => exact ⟨_, rfl, _, rfl⟩
  | 15, _ => exact ⟨_, rfl, _, _, _, rfl⟩
  | 16, _ => exact ⟨_, rfl, _, rfl⟩
  | 17, _ => exact ⟨_, rfl, _, rfl⟩
  | j + 18, h => omega

theorem heap_setRow {w : World} {g : Nat} {old : Array Value} {t : TypeId} {fr : Nat × Nat} (cs : Array Value) (h : w.heap[g]? = some (.cells old t fr)) : (w.setRow g cs).heap[g]? = some (.cells cs t fr) := by
  simp [World.setRow, Array.getElem?_modify, h]
theorem below_row {B g : Nat} {w0 w : World} (hb : Below B w0 w) (hBg : B ≤ g) (cs : Array Value) : Below B w0 (w.setRow g cs) :=
  hb.trans ⟨rfl, rfl, rfl, by simp [World.setRow], fun k hk => by simp [World.setRow, Array.getElem?_modify, show ¬ g = k by omega]⟩
theorem cmd_size : (Tryz.prog.info? 35).map (·.size) = some 18 := by kernel_rfl
theorem zone (kd i0 i1 i2 : Int) : (Z kd i0 i1 i2).all (·.oneCell') = true := by simp [Z, Value.oneCell']

set_option maxRecDepth 100000 in
set_option maxHeartbeats 8000000 in
theorem inForm (kd i0 i1 i2 : Int) (bk ky : ByteArray) (p0 p1 p2 b0 b1 b2 sz : Int) (et : ByteArray) (pt : Int) (pa : Option Addr) (ps : List Int) (pc : Nat) (tm dy : Int) (w : World)
    (hP : Is w pa ps) (hbl : bk.size ≤ 1048576) (hkl : ky.size ≤ 1048576) (hel : et.size ≤ 1048576) (hpl : ps.length ≤ 1048576) :
    Calls Tryz.prog 23 #[.agg (X kd i0 i1 i2 bk ky p0 p1 p2 b0 b1 b2 sz et pt pa ps.length pc tm dy)] w fun e w' => Bo e ∧ Below w.heap.size w w' := by
  obtain ⟨w1, hw1, hb1, hx1⟩ : ∃ w1, w1 = w.alloc (.cells (X kd i0 i1 i2 bk ky p0 p1 p2 b0 b1 b2 sz et pt pa ps.length pc tm dy) 35) ∧ Below w.heap.size w w1 ∧ w1.heap[w.heap.size]? = some (.cells (X kd i0 i1 i2 bk ky p0 p1 p2 b0 b1 b2 sz et pt pa ps.length pc tm dy) 35 (0, 0)) := ⟨_, rfl, (Below.refl _ _).alloc (Nat.le_refl _) _, heap_alloc_new _ _⟩
  have HP := Lib.hid hP
  clear hP
  have q1 : w1.cell? ⟨w.heap.size, 1, none⟩ = some (.int .i64 i0) := by rw [Lib.cell_of_heap hx1]; rfl
  have q2 : w1.cell? ⟨w.heap.size, 2, none⟩ = some (.int .i64 i1) := by rw [Lib.cell_of_heap hx1]; rfl
  have q3 : w1.cell? ⟨w.heap.size, 3, none⟩ = some (.int .i64 i2) := by rw [Lib.cell_of_heap hx1]; rfl
  go_enter Tryz.func23, Tryz.ntmps23
  go_upto_region 1 with fail
  rw [← hw1]
  clear hw1
  have hx1b := (Array.getElem?_eq_some_iff.1 hx1).1
  go_upto_region 4 with (first
    | (go_at_call 15; refine (goodId _ _ _ _).mono ?_; rintro e w2 ⟨⟨b1, rfl⟩, hb2⟩; have hx2 := (hb2.block _ hx1b).trans hx1; have hB2 := hb1.trans (hb2.mono hb1.size); clear q1 q2 q3; have q0 : w2.cell? ⟨w.heap.size, 0, none⟩ = some (.int .i64 kd) := (by rw [Lib.cell_of_heap hx2]; rfl); have q1 : w2.cell? ⟨w.heap.size, 1, none⟩ = some (.int .i64 i0) := (by rw [Lib.cell_of_heap hx2]; rfl); have q2 : w2.cell? ⟨w.heap.size, 2, none⟩ = some (.int .i64 i1) := (by rw [Lib.cell_of_heap hx2]; rfl); have q3 : w2.cell? ⟨w.heap.size, 3, none⟩ = some (.int .i64 i2) := (by rw [Lib.cell_of_heap hx2]; rfl); cases b1)
    | (guard_target =~ wpList _ _ _ ({ dst := _, op := Op.store 35 _ _, type := _, pos := _, after := _, guard := none } :: _) _ _; refine wpList_store_row rfl 35 (.tmp 3) (.tmp 17) rfl w2.heap.size (Z kd i0 i1 i2) rfl rfl _ _ (heap_alloc_new _ _) (show _ = some (Z kd i0 i1 i2).size from cmd_size) rfl (zone kd i0 i1 i2) ?_))
  · go_ret
    exact ⟨bo, hB2⟩
  have hlt2 : w.heap.size < w2.heap.size := (Array.getElem?_eq_some_iff.1 hx2).1
  obtain ⟨w3, hw3, hS⟩ : ∃ w3, w3 = (w2.alloc (.cells #[.int .i64 0, .int .i64 0, .int .i64 0, .int .i64 0, .string ⟨#[]⟩, .string ⟨#[]⟩, .int .i64 0, .int .i64 0, .int .i64 0, .int .i64 0, .int .i64 0, .int .i64 0, .int .i64 0, .string ⟨#[]⟩, .int .i64 0, .slice none 0 0, .int .i64 0, .int .i64 0] 35)).setRow w2.heap.size (Z kd i0 i1 i2) ∧ St w (X kd i0 i1 i2 bk ky p0 p1 p2 b0 b1 b2 sz et pt pa ps.length pc tm dy) w2.heap.size w3 := by
    have hr := below_row ((Below.refl w2.heap.size w2).alloc (Nat.le_refl _) (.cells #[.int .i64 0, .int .i64 0, .int .i64 0, .int .i64 0, .string ⟨#[]⟩, .string ⟨#[]⟩, .int .i64 0, .int .i64 0, .int .i64 0, .int .i64 0, .int .i64 0, .int .i64 0, .int .i64 0, .string ⟨#[]⟩, .int .i64 0, .slice none 0 0, .int .i64 0, .int .i64 0] 35)) (Nat.le_refl _) (Z kd i0 i1 i2)
    exact ⟨_, rfl, hB2.trans (hr.mono hB2.size), (hr.block _ hlt2).trans hx2, ⟨_, Z_ty kd i0 i1 i2, heap_setRow _ (heap_alloc_new _ _)⟩, hlt2⟩
  rw [← hw3]
  obtain ⟨N, hN⟩ : ∃ N, N = w2.heap.size := ⟨_, rfl⟩
  rw [← hN] at hS ⊢
  have HB1 := hb1
  clear hw3 hN q0 q1 q2 q3 hx1 hx2 hb1 hb2 hB2 hlt2 hx1b
  have hne : ¬ N = w.heap.size := fun e => absurd e (Nat.ne_of_gt hS.lt)
  have hne' : ¬ w.heap.size = N := fun e => absurd e (Nat.ne_of_lt hS.lt)
  have q0 := hS.cell 0 (v := .int .i64 kd) rfl
  go_upto_region 5 with fail
  go_cut [5] from 18 to 25 (fun v wx => (∃ b, v = .bool b) ∧ wx = w3)
  case first =>
    by_cases h10 : kd = 10
    · have e10 : (kd != 10) = false := by simp [h10]
      have H10 := Lib.hid h10
      clear h10
      go_wp2_with fail
      go_meet
      exact ⟨⟨_, rfl⟩, rfl⟩
    · have e10 : (kd != 10) = true := by simp [h10]
      have H10 := Lib.hid h10
      clear h10
      by_cases h11 : kd = 11
      · have e11 : (kd != 11) = false := by simp [h11]
        have H11 := Lib.hid h11
        clear h11
        go_wp2_with fail
        go_meet
        exact ⟨⟨_, rfl⟩, rfl⟩
      · have e11 : (kd != 11) = true := by simp [h11]
        have H11 := Lib.hid h11
        clear h11
        go_wp2_with fail
        go_meet
        exact ⟨⟨_, rfl⟩, rfl⟩
  case rest =>
  obtain ⟨⟨nd, rfl⟩, rfl⟩ := hcut
  go_upto_if 26 with fail
  go_cut [4] from 27 to 32 (fun v wx => (∃ b, v = .bool b) ∧ St w (X kd i0 i1 i2 bk ky p0 p1 p2 b0 b1 b2 sz et pt pa ps.length pc tm dy) N wx)
  case first =>
    have q4 := hS.cell 4 (v := .string bk) rfl
    obtain ⟨z4, -, y4, f4⟩ := hS.z.at 4 (by decide)
    cases nd
    all_goals
      go_wp2_with (first
        | (go_at_call 48; refine (goodBucket bk _ (by omega)).mono ?_; rintro e w4 ⟨⟨b4, rfl⟩, hw4⟩; obtain rfl := hw4.symm))
    all_goals
      go_meet
      first | exact ⟨⟨_, rfl⟩, hS⟩ | exact ⟨⟨_, rfl⟩, hS.set 4 _ ⟨_, rfl⟩⟩
  case rest =>
  clear hS q0
  obtain ⟨⟨ok, rfl⟩, hS⟩ := hcut
  have q0 := hS.cell 0 (v := .int .i64 kd) rfl
  go_upto_region 9 with fail
  go_cut [6] from 33 to 40 (fun v wx => (∃ b, v = .bool b) ∧ wx = wc)
  case first =>
    go_wp2_with fail
    all_goals
      go_meet
      exact ⟨⟨_, rfl⟩, rfl⟩
  case rest =>
  obtain ⟨⟨kd2, rfl⟩, rfl⟩ := hcut
  go_upto_if 41 with fail
  go_cut [4] from 42 to 50 (fun v wx => (∃ b, v = .bool b) ∧ St w (X kd i0 i1 i2 bk ky p0 p1 p2 b0 b1 b2 sz et pt pa ps.length pc tm dy) N wx)
  case first =>
    have q5 := hS.cell 5 (v := .string ky) rfl
    obtain ⟨z5, -, y5, f5⟩ := hS.z.at 5 (by decide)
    cases kd2 <;> cases ok
    all_goals
      go_wp2_with (first
        | (go_at_call 49; refine (goodKey ky _ (by omega)).mono ?_; rintro e w4 ⟨⟨b4, rfl⟩, hw4⟩; obtain rfl := hw4.symm))
    all_goals
      go_meet
      first | exact ⟨⟨_, rfl⟩, hS⟩ | exact ⟨⟨_, rfl⟩, hS.set 5 _ ⟨_, rfl⟩⟩
  case rest =>
  clear hS q0
  obtain ⟨⟨ok, rfl⟩, hS⟩ := hcut
  have q0 := hS.cell 0 (v := .int .i64 kd) rfl
  go_upto_block 0 with fail
  go_cut [4] from 53 to 180 (fun v wx => (∃ b, v = .bool b) ∧ St w (X kd i0 i1 i2 bk ky p0 p1 p2 b0 b1 b2 sz et pt pa ps.length pc tm dy) N wx)
  case first =>
    by_cases h1 : kd = 1
    · have e1 : (kd == 1) = true := by simp [h1]
      have H1 := Lib.hid h1
      clear h1
      have q16 := hS.cell 16 (v := .int .i64 tm) rfl
      obtain ⟨z16, -, y16, f16⟩ := hS.z.at 16 (by decide)
      go_wp2_with fail
      go_meet
      exact ⟨⟨_, rfl⟩, (hS.set 16 _ ⟨_, rfl⟩)⟩
    have e1 : (kd == 1) = false := by simp [h1]
    have H1 := Lib.hid h1
    clear h1
    by_cases h10 : kd = 10
    · have e10 : (kd == 10) = true := by simp [h10]
      have H10 := Lib.hid h10
      clear h10
      have q16 := hS.cell 16 (v := .int .i64 tm) rfl
      obtain ⟨z16, -, y16, f16⟩ := hS.z.at 16 (by decide)
      go_wp2_with fail
      go_meet
      exact ⟨⟨_, rfl⟩, (hS.set 16 _ ⟨_, rfl⟩)⟩
    have e10 : (kd == 10) = false := by simp [h10]
    have H10 := Lib.hid h10
    clear h10
    by_cases h2 : kd = 2
    · have e2 : (kd == 2) = true := by simp [h2]
      have H2 := Lib.hid h2
      clear h2
      go_wp2_with fail
      go_meet
      exact ⟨⟨_, rfl⟩, hS⟩
    have e2 : (kd == 2) = false := by simp [h2]
    have H2 := Lib.hid h2
    clear h2
    by_cases h4 : kd = 4
    · have e4 : (kd == 4) = true := by simp [h4]
      have H4 := Lib.hid h4
      clear h4
      go_wp2_with fail
      go_meet
      exact ⟨⟨_, rfl⟩, hS⟩
    have e4 : (kd == 4) = false := by simp [h4]
    have H4 := Lib.hid h4
    clear h4
    by_cases h5 : kd = 5
    · have e5 : (kd == 5) = true := by simp [h5]
      have H5 := Lib.hid h5
      clear h5
      go_wp2_with fail
      go_meet
      exact ⟨⟨_, rfl⟩, hS⟩
    have e5 : (kd == 5) = false := by simp [h5]
    have H5 := Lib.hid h5
    clear h5
    by_cases h11 : kd = 11
    · have e11 : (kd == 11) = true := by simp [h11]
      have H11 := Lib.hid h11
      clear h11
      go_wp2_with fail
      go_meet
      exact ⟨⟨_, rfl⟩, hS⟩
    have e11 : (kd == 11) = false := by simp [h11]
    have H11 := Lib.hid h11
    clear h11
    by_cases h3 : kd = 3
    · have e3 : (kd == 3) = true := by simp [h3]
      have H3 := Lib.hid h3
      clear h3
      have q9 := hS.cell 9 (v := .int .i64 b0) rfl
      obtain ⟨z9, -, y9, f9⟩ := hS.z.at 9 (by decide)
      have q10 := hS.cell 10 (v := .int .i64 b1) rfl
      obtain ⟨z10, -, y10, f10⟩ := hS.z.at 10 (by decide)
      have q11 := hS.cell 11 (v := .int .i64 b2) rfl
      obtain ⟨z11, -, y11, f11⟩ := hS.z.at 11 (by decide)
      have q12 := hS.cell 12 (v := .int .i64 sz) rfl
      obtain ⟨z12, -, y12, f12⟩ := hS.z.at 12 (by decide)
      have q13 := hS.cell 13 (v := .string et) rfl
      obtain ⟨z13, -, y13, f13⟩ := hS.z.at 13 (by decide)
      have q16 := hS.cell 16 (v := .int .i64 tm) rfl
      obtain ⟨z16, -, y16, f16⟩ := hS.z.at 16 (by decide)
      go_upto_region 23 with fail
      go_region
      have hS5 := ((((((hS.set 9 (.int .i64 b0) ⟨_, rfl⟩).set 10 (.int .i64 b1) ⟨_, rfl⟩).set 11 (.int .i64 b2) ⟨_, rfl⟩).set 12 (.int .i64 sz) ⟨_, rfl⟩).set 13 (.string et) ⟨_, rfl⟩).set 16 (.int .i64 tm) ⟨_, rfl⟩).drew
      generalize World.drew _ = w5 at hS5 ⊢
      clear hS q0 q9 q10 q11 q12 q13 q16 y9 y10 y11 y12 y13 y16 f9 f10 f11 f12 f13 f16 z9 z10 z11 z12 z13 z16
      have q9 := hS5.cell 9 (v := .int .i64 b0) rfl
      have q10 := hS5.cell 10 (v := .int .i64 b1) rfl
      have q11 := hS5.cell 11 (v := .int .i64 b2) rfl
      have q12 := hS5.cell 12 (v := .int .i64 sz) rfl
      have q13 := hS5.cell 13 (v := .string et) rfl
      obtain ⟨t0, ht0⟩ : ∃ t, (b0 == i0) = t := ⟨_, rfl⟩
      obtain ⟨t1, ht1⟩ : ∃ t, (b1 == i1) = t := ⟨_, rfl⟩
      obtain ⟨t2, ht2⟩ : ∃ t, (b2 == i2) = t := ⟨_, rfl⟩
      cases ok
      · go_wp2_with fail
        go_meet
        exact ⟨⟨_, rfl⟩, hS5⟩
      · go_wp2_with (first
          | (go_at_call 53; refine (piece _ _ _ _ _ _ (by omega)).mono ?_; rintro e w6 ⟨⟨b6, rfl⟩, hb6⟩; have hS6 := hS5.below hb6; clear q9 q10 q11 q12 q13; have q9 := hS6.cell 9 (v := .int .i64 b0) rfl; have q10 := hS6.cell 10 (v := .int .i64 b1) rfl; have q11 := hS6.cell 11 (v := .int .i64 b2) rfl; have q1 := hS6.cell 1 (v := .int .i64 i0) rfl; have q2 := hS6.cell 2 (v := .int .i64 i1) rfl; have q3 := hS6.cell 3 (v := .int .i64 i2) rfl; have q14 := hS6.cell 14 (v := .int .i64 pt) rfl; cases b6; rotate_left; rcases t0 with _ | _; rotate_left; rcases t1 with _ | _; rotate_left; rcases t2 with _ | _; rotate_left))
        all_goals
          go_meet
          exact ⟨⟨_, rfl⟩, hS6⟩
    have e3 : (kd == 3) = false := by simp [h3]
    have H3 := Lib.hid h3
    clear h3
    by_cases h6 : kd = 6
    · have e6 : (kd == 6) = true := by simp [h6]
      have H6 := Lib.hid h6
      clear h6
      have q9 := hS.cell 9 (v := .int .i64 b0) rfl
      obtain ⟨z9, -, y9, f9⟩ := hS.z.at 9 (by decide)
      have q10 := hS.cell 10 (v := .int .i64 b1) rfl
      obtain ⟨z10, -, y10, f10⟩ := hS.z.at 10 (by decide)
      have q11 := hS.cell 11 (v := .int .i64 b2) rfl
      obtain ⟨z11, -, y11, f11⟩ := hS.z.at 11 (by decide)
      have q12 := hS.cell 12 (v := .int .i64 sz) rfl
      obtain ⟨z12, -, y12, f12⟩ := hS.z.at 12 (by decide)
      have q13 := hS.cell 13 (v := .string et) rfl
      obtain ⟨z13, -, y13, f13⟩ := hS.z.at 13 (by decide)
      have q14 := hS.cell 14 (v := .int .i64 pt) rfl
      obtain ⟨z14, -, y14, f14⟩ := hS.z.at 14 (by decide)
      have q6 := hS.cell 6 (v := .int .i64 p0) rfl
      obtain ⟨z6, -, y6, f6⟩ := hS.z.at 6 (by decide)
      have q7 := hS.cell 7 (v := .int .i64 p1) rfl
      obtain ⟨z7, -, y7, f7⟩ := hS.z.at 7 (by decide)
      have q8 := hS.cell 8 (v := .int .i64 p2) rfl
      obtain ⟨z8, -, y8, f8⟩ := hS.z.at 8 (by decide)
      go_upto_region 26 with fail
      go_region
      have hS5 := (((((((((hS.set 9 (.int .i64 b0) ⟨_, rfl⟩).set 10 (.int .i64 b1) ⟨_, rfl⟩).set 11 (.int .i64 b2) ⟨_, rfl⟩).set 12 (.int .i64 sz) ⟨_, rfl⟩).set 13 (.string et) ⟨_, rfl⟩).set 14 (.int .i64 pt) ⟨_, rfl⟩).set 6 (.int .i64 p0) ⟨_, rfl⟩).set 7 (.int .i64 p1) ⟨_, rfl⟩).set 8 (.int .i64 p2) ⟨_, rfl⟩).drew
      generalize World.drew _ = w5 at hS5 ⊢
      clear hS q0 q9 q10 q11 q12 q13 q14 q6 q7 q8 y9 y10 y11 y12 y13 y14 y6 y7 y8 f9 f10 f11 f12 f13 f14 f6 f7 f8 z9 z10 z11 z12 z13 z14 z6 z7 z8
      have q9 := hS5.cell 9 (v := .int .i64 b0) rfl
      have q10 := hS5.cell 10 (v := .int .i64 b1) rfl
      have q11 := hS5.cell 11 (v := .int .i64 b2) rfl
      have q12 := hS5.cell 12 (v := .int .i64 sz) rfl
      have q13 := hS5.cell 13 (v := .string et) rfl
      obtain ⟨t0, ht0⟩ : ∃ t, (b0 == i0) = t := ⟨_, rfl⟩
      obtain ⟨t1, ht1⟩ : ∃ t, (b1 == i1) = t := ⟨_, rfl⟩
      obtain ⟨t2, ht2⟩ : ∃ t, (b2 == i2) = t := ⟨_, rfl⟩
      cases ok
      · go_wp2_with fail
        go_meet
        exact ⟨⟨_, rfl⟩, hS5⟩
      · go_wp2_with (first
          | (go_at_call 53; refine (piece _ _ _ _ _ _ (by omega)).mono ?_; rintro e w6 ⟨⟨b6, rfl⟩, hb6⟩; have hS6 := hS5.below hb6; clear q9 q10 q11 q12 q13; have q9 := hS6.cell 9 (v := .int .i64 b0) rfl; have q10 := hS6.cell 10 (v := .int .i64 b1) rfl; have q11 := hS6.cell 11 (v := .int .i64 b2) rfl; have q1 := hS6.cell 1 (v := .int .i64 i0) rfl; have q2 := hS6.cell 2 (v := .int .i64 i1) rfl; have q3 := hS6.cell 3 (v := .int .i64 i2) rfl; have q14 := hS6.cell 14 (v := .int .i64 pt) rfl; cases b6; rotate_left; rcases t0 with _ | _; rotate_left; rcases t1 with _ | _; rotate_left; rcases t2 with _ | _; rotate_left))
        all_goals
          go_meet
          exact ⟨⟨_, rfl⟩, hS6⟩
    have e6 : (kd == 6) = false := by simp [h6]
    have H6 := Lib.hid h6
    clear h6
    by_cases h7 : kd = 7
    · have e7 : (kd == 7) = true := by simp [h7]
      have H7 := Lib.hid h7
      clear h7
      have q6 := hS.cell 6 (v := .int .i64 p0) rfl
      obtain ⟨z6, -, y6, f6⟩ := hS.z.at 6 (by decide)
      have q7 := hS.cell 7 (v := .int .i64 p1) rfl
      obtain ⟨z7, -, y7, f7⟩ := hS.z.at 7 (by decide)
      have q8 := hS.cell 8 (v := .int .i64 p2) rfl
      obtain ⟨z8, -, y8, f8⟩ := hS.z.at 8 (by decide)
      have q16 := hS.cell 16 (v := .int .i64 tm) rfl
      obtain ⟨z16, -, y16, f16⟩ := hS.z.at 16 (by decide)
      have q15 := hS.cell 15 (v := .slice pa ps.length pc) rfl
      obtain ⟨z15, -, y15, f15⟩ := hS.z.at 15 (by decide)
      go_upto_region 29 with fail
      go_region
      have hS5 := (((((hS.set 6 (.int .i64 p0) ⟨_, rfl⟩).set 7 (.int .i64 p1) ⟨_, rfl⟩).set 8 (.int .i64 p2) ⟨_, rfl⟩).set 16 (.int .i64 tm) ⟨_, rfl⟩).set 15 (.slice pa ps.length pc) ⟨_, _, _, rfl⟩).drew
      generalize World.drew _ = w5 at hS5 ⊢
      clear hS q0 q6 q7 q8 q15 q16 y6 y7 y8 y15 y16 f6 f7 f8 f15 f16 z6 z7 z8 z15 z16
      have q15 := hS5.cell 15 (v := .slice pa ps.length pc) rfl
      have HQ := Lib.hid (HP.out.below hS5.bel)
      have HS5 := Lib.hid hS5
      clear hS5
      go_upto_region 30 with fail
      go_cut [4] from 132 to 138 (fun v wx => (∃ b, v = .bool b) ∧ wx = w5)
      case first =>
        cases ok
        all_goals
          go_wp2_with fail
        all_goals
          go_meet
          exact ⟨⟨_, rfl⟩, rfl⟩
      case rest =>
      obtain ⟨⟨ok, rfl⟩, rfl⟩ := hcut
      go_wp2_with fail
      go_loopg [4, 142] ps.length (fun g v4 v wr => ∃ (k : Nat) (b : Bool), k + g = ps.length ∧ v = .int .i64 k ∧ v4 = .bool b ∧ wc = wr)
      case atStart => exact ⟨0, ok, by omega, rfl, rfl, rfl⟩
      case round =>
        obtain ⟨k, b, hkg, rfl, rfl, rfl⟩ := hrel
        have HG := Lib.hid hkg; clear hkg
        by_cases hlt : k < ps.length
        · obtain ⟨z, hz⟩ : ∃ z, ps[k]? = some z := ⟨ps[k], List.getElem?_eq_getElem hlt⟩
          rcases HQ.out with hnil | ⟨bz, oz, rfl, hbz, hcz⟩
          · rw [hnil] at hlt; simp at hlt
          have c0 := hcz k z hz
          clear hz
          by_cases hk0 : k = 0
          · have ek : ((k : Int) == 0) = true := by simp [hk0]
            have HK0 := Lib.hid hk0
            clear hk0 hcz
            cases b
            all_goals
              go_wp2_with fail
            all_goals
              go_roundg (ps.length - (k + 1))
              case measure => have := HG.out; omega
              case rel => exact ⟨k + 1, _, by have := HG.out; omega, by go_num, rfl, rfl⟩
          · obtain ⟨y, hy⟩ : ∃ y, ps[k - 1]? = some y := ⟨ps[k - 1], List.getElem?_eq_getElem (by omega)⟩
            have c1 := hcz (k - 1) y hy
            have ek : ((k : Int) == 0) = false := by simp [hk0]
            have ew : IntKind.i64.wrap ((k : Int) - 1) = (k : Int) - 1 := IntWalk.i64_in _ ⟨by omega, by omega⟩
            have en : ((k : Int) - 1).toNat = k - 1 := by omega
            have e0 : (0 : Int) ≤ (k : Int) - 1 := by omega
            have e9 : (k : Int) - 1 < (ps.length : Int) := by omega
            have HK0 := Lib.hid hk0
            clear hk0 hcz hy
            cases b
            all_goals
              go_wp2_with fail
            all_goals
              go_roundg (ps.length - (k + 1))
              case measure => have := HG.out; omega
              case rel => exact ⟨k + 1, _, by have := HG.out; omega, by go_num, rfl, rfl⟩
        · have hk : ps.length ≤ k := by omega
          go_wp2_with fail
          go_meet
          exact ⟨⟨_, rfl⟩, HS5.out⟩
    have e7 : (kd == 7) = false := by simp [h7]
    have H7 := Lib.hid h7
    clear h7
    by_cases h8 : kd = 8
    · have e8 : (kd == 8) = true := by simp [h8]
      have H8 := Lib.hid h8
      clear h8
      have q6 := hS.cell 6 (v := .int .i64 p0) rfl
      obtain ⟨z6, -, y6, f6⟩ := hS.z.at 6 (by decide)
      have q7 := hS.cell 7 (v := .int .i64 p1) rfl
      obtain ⟨z7, -, y7, f7⟩ := hS.z.at 7 (by decide)
      have q8 := hS.cell 8 (v := .int .i64 p2) rfl
      obtain ⟨z8, -, y8, f8⟩ := hS.z.at 8 (by decide)
      go_wp2_with fail
      go_meet
      exact ⟨⟨_, rfl⟩, (((hS.set 6 _ ⟨_, rfl⟩).set 7 _ ⟨_, rfl⟩).set 8 _ ⟨_, rfl⟩)⟩
    have e8 : (kd == 8) = false := by simp [h8]
    have H8 := Lib.hid h8
    clear h8
    by_cases h9 : kd = 9
    · have e9 : (kd == 9) = true := by simp [h9]
      have H9 := Lib.hid h9
      clear h9
      have q17 := hS.cell 17 (v := .int .i64 dy) rfl
      obtain ⟨z17, -, y17, f17⟩ := hS.z.at 17 (by decide)
      go_wp2_with fail
      go_meet
      exact ⟨⟨_, rfl⟩, (hS.set 17 _ ⟨_, rfl⟩)⟩
    have e9 : (kd == 9) = false := by simp [h9]
    have H9 := Lib.hid h9
    clear h9
    go_wp2_with fail
    go_ret
    exact ⟨bo, hS.bel⟩
  case rest =>
  clear hS q0
  obtain ⟨⟨ok, rfl⟩, hS⟩ := hcut
  have q6 := hS.cell 6 (v := .int .i64 p0) rfl
  have q7 := hS.cell 7 (v := .int .i64 p1) rfl
  have q8 := hS.cell 8 (v := .int .i64 p2) rfl
  have q16 := hS.cell 16 (v := .int .i64 tm) rfl
  have q17 := hS.cell 17 (v := .int .i64 dy) rfl
  go_upto_region 40 with fail
  dsimp only [List.append]
  cases ok
  · go_wp2_with fail
    go_ret
    exact ⟨bo, hS.bel⟩
  · go_wp2_with (first
      | (go_at_call 54; refine (ticks _ _).mono ?_; rintro e w4 ⟨⟨b4, rfl⟩, hw4⟩; obtain rfl := hw4.symm; cases b4)
      | (go_at_call 15; refine (goodId _ _ _ _).mono ?_; rintro e w6 ⟨⟨b6, rfl⟩, hb6⟩; have hS6 := hS.below hb6; clear q6 q7 q8 q16 q17; have q4 := hS6.cell 4 (v := .string bk) rfl; have q5 := hS6.cell 5 (v := .string ky) rfl; have q6 := hS6.cell 6 (v := .int .i64 p0) rfl; have q7 := hS6.cell 7 (v := .int .i64 p1) rfl; have q8 := hS6.cell 8 (v := .int .i64 p2) rfl; have q9 := hS6.cell 9 (v := .int .i64 b0) rfl; have q10 := hS6.cell 10 (v := .int .i64 b1) rfl; have q11 := hS6.cell 11 (v := .int .i64 b2) rfl; have q12 := hS6.cell 12 (v := .int .i64 sz) rfl; have q13 := hS6.cell 13 (v := .string et) rfl; have q14 := hS6.cell 14 (v := .int .i64 pt) rfl; have q16 := hS6.cell 16 (v := .int .i64 tm) rfl; have q17 := hS6.cell 17 (v := .int .i64 dy) rfl; have q15 := hS6.cell 15 (v := .slice pa ps.length pc) rfl; obtain ⟨_, ⟨z4, rfl⟩, y4, -⟩ := hS6.z.at 4 (by decide); obtain ⟨_, ⟨z5, rfl⟩, y5, -⟩ := hS6.z.at 5 (by decide); obtain ⟨_, ⟨z6, rfl⟩, y6, -⟩ := hS6.z.at 6 (by decide); obtain ⟨_, ⟨z7, rfl⟩, y7, -⟩ := hS6.z.at 7 (by decide); obtain ⟨_, ⟨z8, rfl⟩, y8, -⟩ := hS6.z.at 8 (by decide); obtain ⟨_, ⟨z9, rfl⟩, y9, -⟩ := hS6.z.at 9 (by decide); obtain ⟨_, ⟨z10, rfl⟩, y10, -⟩ := hS6.z.at 10 (by decide); obtain ⟨_, ⟨z11, rfl⟩, y11, -⟩ := hS6.z.at 11 (by decide); obtain ⟨_, ⟨z12, rfl⟩, y12, -⟩ := hS6.z.at 12 (by decide); obtain ⟨_, ⟨z13, rfl⟩, y13, -⟩ := hS6.z.at 13 (by decide); obtain ⟨_, ⟨z14, rfl⟩, y14, -⟩ := hS6.z.at 14 (by decide); obtain ⟨_, ⟨z16, rfl⟩, y16, -⟩ := hS6.z.at 16 (by decide); obtain ⟨_, ⟨z17, rfl⟩, y17, -⟩ := hS6.z.at 17 (by decide); obtain ⟨_, ⟨za, zn, zc, rfl⟩, y15, -⟩ := hS6.z.at 15 (by decide); obtain ⟨t4, ht4⟩ : ∃ t, (z4 == bk) = t := ⟨_, rfl⟩; obtain ⟨t5, ht5⟩ : ∃ t, (z5 == ky) = t := ⟨_, rfl⟩; obtain ⟨t6, ht6⟩ : ∃ t, (z6 == p0) = t := ⟨_, rfl⟩; obtain ⟨t7, ht7⟩ : ∃ t, (z7 == p1) = t := ⟨_, rfl⟩; obtain ⟨t8, ht8⟩ : ∃ t, (z8 == p2) = t := ⟨_, rfl⟩; obtain ⟨t9, ht9⟩ : ∃ t, (z9 == b0) = t := ⟨_, rfl⟩; obtain ⟨t10, ht10⟩ : ∃ t, (z10 == b1) = t := ⟨_, rfl⟩; obtain ⟨t11, ht11⟩ : ∃ t, (z11 == b2) = t := ⟨_, rfl⟩; obtain ⟨t12, ht12⟩ : ∃ t, (z12 == sz) = t := ⟨_, rfl⟩; obtain ⟨t13, ht13⟩ : ∃ t, (z13 == et) = t := ⟨_, rfl⟩; obtain ⟨t14, ht14⟩ : ∃ t, (z14 == pt) = t := ⟨_, rfl⟩; obtain ⟨t16, ht16⟩ : ∃ t, (z16 == tm) = t := ⟨_, rfl⟩; obtain ⟨t17, ht17⟩ : ∃ t, (z17 == dy) = t := ⟨_, rfl⟩; cases b6; (go_wp2_with fail; go_ret; exact ⟨bo, hS6.bel⟩); repeat' (first | go_values | go_skip | (guard_target =~ wpList _ _ _ ({ dst := some 203, op := Op.pick _ _ _, type := _, pos := _, after := _, guard := _ } :: _) _ _; cases t4) | (guard_target =~ wpList _ _ _ ({ dst := some 210, op := Op.pick _ _ _, type := _, pos := _, after := _, guard := _ } :: _) _ _; cases t5) | (guard_target =~ wpList _ _ _ ({ dst := some 217, op := Op.pick _ _ _, type := _, pos := _, after := _, guard := _ } :: _) _ _; cases t6; rotate_left; cases t7; rotate_left; cases t8) | (guard_target =~ wpList _ _ _ ({ dst := some 224, op := Op.pick _ _ _, type := _, pos := _, after := _, guard := _ } :: _) _ _; cases t9; rotate_left; cases t10; rotate_left; cases t11; rotate_left; cases t12; rotate_left; cases t13) | (guard_target =~ wpList _ _ _ ({ dst := some 231, op := Op.pick _ _ _, type := _, pos := _, after := _, guard := _ } :: _) _ _; cases t14) | (guard_target =~ wpList _ _ _ ({ dst := some 238, op := Op.pick _ _ _, type := _, pos := _, after := _, guard := _ } :: _) _ _; cases t16) | (guard_target =~ wpList _ _ _ ({ dst := some 245, op := Op.pick _ _ _, type := _, pos := _, after := _, guard := _ } :: _) _ _; cases t17) | go_guarded | go_step)))
    all_goals
      go_ret
      first | exact ⟨bo, hS6.bel⟩ | exact ⟨bo, hS.bel⟩
end Go.Proofs.YtidflagmdabfaaaGreatDoor.RtT
