/-
  The walks of Command with the upload's document, on both sides. (Printed by mkcmd3.py.) What a command's answer is, on both sides beside each other. The walks of package bollardref10's InForm and of what it calls: they answer at every command.
-/
import Derived.Test.YtidflagmdabfaaaGreatDoorSg01
import Derived.Test.YtidflagmdabfaaaGreatDoorRq03
import Derived.Test.YtidflagmdabfaaaGreatDoorRq04
import Derived.Test.YtidflagmdabfaaaGreatDoorRq05
import Derived.Test.YtidflagmdabfaaaGreatDoorProg
import Derived.WalkKit
import Derived.Below
import Derived.BigQuiet
import Derived.Deep.RegionHeld3
import Derived.IntWalk
import Derived.Deep.LoopGhost
import Derived.Deep.CutBlock
import Derived.Lib.Hide
namespace Go.Proofs.YtidflagmdabfaaaGreatDoor.RtR
open Go.RowKit Go.Proofs.YtidflagmdabfaaaGreatDoor Go.Proofs.YtidflagmdabfaaaGreatDoor.HtW Go.Proofs.YtidflagmdabfaaaGreatDoor.RtA Go.Proofs.YtidflagmdabfaaaGreatDoor.RtO Go.Proofs.YtidflagmdabfaaaGreatDoor.RtQ Go.Proofs.YtidflagmdabfaaaGreatDoor.RtG Go.Proofs.YtidflagmdabfaaaGreatDoor.RtU

set_option maxHeartbeats 4000000 in
set_option maxRecDepth 100000 in
theorem doc5 (x4 x6 x7 x8 x9 x10 x11 x12 x13 x14 x15 x16 x17 : Value) (ky : ByteArray) (et : List UInt8) (i0 i1 i2 : Int) (hkl : ky.size ≤ 1048576) (g0 : Xd.I64 i0) (g1 : Xd.I64 i1) (g2 : Xd.I64 i2) (w : World) (hT : XmlH.Tab w) :
    Calls Tryz.prog 31 #[.agg #[.int .i64 5, .int .i64 i0, .int .i64 i1, .int .i64 i2, x4, .string ky, x6, x7, x8, x9, x10, x11, x12, x13, x14, x15, x16, x17], .agg #[.int .i64 0, .string ⟨et.toArray⟩]] w fun e w' => CPost 200 [] (Xd.docUpload ky.data.toList (Xd.idText i0 i1 i2) []) w' e ∧ Below w.heap.size w w' := by
  obtain ⟨w3, hw3, hb3, hz3, hQ3, hO3, hR3⟩ : ∃ w3 : World, w3 = (((w.alloc (.cells #[.int .i64 5, .int .i64 i0, .int .i64 i1, .int .i64 i2, x4, .string ky, x6, x7, x8, x9, x10, x11, x12, x13, x14, x15, x16, x17] 35)).alloc (.cells #[.int .i64 0, .string ⟨et.toArray⟩] 63)).alloc (.cells #[.int .i64 0, .slice none 0 0, .slice none 0 0] 56)) ∧ Below w.heap.size w w3 ∧ w3.heap.size = w.heap.size + 3 ∧ w3.heap[w.heap.size]? = some (.cells #[.int .i64 5, .int .i64 i0, .int .i64 i1, .int .i64 i2, x4, .string ky, x6, x7, x8, x9, x10, x11, x12, x13, x14, x15, x16, x17] 35 (0, 0)) ∧ w3.heap[w.heap.size + 1]? = some (.cells #[.int .i64 0, .string ⟨et.toArray⟩] 63 (0, 0)) ∧ Rb (w.heap.size + 1 + 1) w3 (.int .i64 0) (.slice none 0 0) (.slice none 0 0) := by
    refine ⟨_, rfl, (((Below.refl _ _).alloc (Nat.le_refl _) _).alloc (by simp) _).alloc (by simp; omega) _, by simp, (Below.heap_alloc _ _ _ (by simp; omega)).trans ((Below.heap_alloc _ _ _ (by simp)).trans (heap_alloc_new _ _)), (Below.heap_alloc _ _ _ (by simp)).trans (hp1 _ _), ?_⟩
    have := heap_alloc_new ((w.alloc (.cells #[.int .i64 5, .int .i64 i0, .int .i64 i1, .int .i64 i2, x4, .string ky, x6, x7, x8, x9, x10, x11, x12, x13, x14, x15, x16, x17] 35)).alloc (.cells #[.int .i64 0, .string ⟨et.toArray⟩] 63)) (.cells #[.int .i64 0, .slice none 0 0, .slice none 0 0] 56)
    rwa [World.size_alloc, World.size_alloc] at this
  have q0 : w3.cell? ⟨w.heap.size, 0, none⟩ = some (.int .i64 5) := by rw [Lib.cell_of_heap hQ3]; rfl
  have q1 : w3.cell? ⟨w.heap.size, 1, none⟩ = some (.int .i64 i0) := by rw [Lib.cell_of_heap hQ3]; rfl
  have q2 : w3.cell? ⟨w.heap.size, 2, none⟩ = some (.int .i64 i1) := by rw [Lib.cell_of_heap hQ3]; rfl
  have q3 : w3.cell? ⟨w.heap.size, 3, none⟩ = some (.int .i64 i2) := by rw [Lib.cell_of_heap hQ3]; rfl
  have q5 : w3.cell? ⟨w.heap.size, 5, none⟩ = some (.string ky) := by rw [Lib.cell_of_heap hQ3]; rfl
  have y0 : w3.cell? ⟨w.heap.size + 1, 0, none⟩ = some (.int .i64 0) := by rw [Lib.cell_of_heap hO3]; rfl
  have y1 : w3.cell? ⟨w.heap.size + 1, 1, none⟩ = some (.string ⟨et.toArray⟩) := by rw [Lib.cell_of_heap hO3]; rfl
  clear hQ3 hO3
  go_enter Tryz.func31, Tryz.ntmps31
  go_upto_region 1 with fail
  rw [← hw3]
  clear hw3
  have kc := fun w s => Lib.run_convert_string_bytes (P := Tryz.prog) w 9 23 5 s Tryz.underlying9 Tryz.underlying23 Tryz.underlying5
  have KE := Lib.hid (XmlP.upload i0 i1 i2 ky none 0 [] w3 g0 g1 g2 hkl (by simp) (fun _ h => by cases h) (hT.below hb3) (.inl rfl))
  go_wp2_with fail
  refine KE.out.mono ?_
  rintro e w4 ⟨rfl, hb4⟩
  obtain ⟨d, hd⟩ : ∃ d, d = Xd.docUpload ky.data.toList (Xd.idText i0 i1 i2) [] := ⟨_, rfl⟩
  have HD := Lib.hid hd
  rw [← hd]
  clear hd KE
  have hz4 := hb4.size
  have hxc := ShaJ.conv_bs w4 d
  have hxb := Lib.bytesWorld_below w4 5 ⟨d.toArray⟩
  have hR5 := (hR3.below hb4).below hxb
  obtain ⟨r0, r1, r2, f0, f1, f2⟩ := hR5.cells
  go_wp2_with fail
  refine bodyPost_ret (Rb.run 4 (hR5.put _ _ _) rfl rfl) rfl ⟨?_, below_st3 (hb3.trans ((hb4.trans (hxb.mono hz4)).mono (by omega))) (by omega) _ _ _⟩
  rw [show Xd.docUpload ky.data.toList (Xd.idText i0 i1 i2) [] = d from HD.out.symm]
  exact ⟨_, _, _, _, rfl, .inl rfl, bs_far hxc (by rintro p hp; cases hp; simp; omega) _ _ _⟩
set_option maxHeartbeats 4000000 in
set_option maxRecDepth 100000 in
theorem refDoc5 (x4 x6 x7 x8 x9 x10 x11 x12 x13 x14 x15 x16 x17 : Value) (ky : ByteArray) (et : List UInt8) (i0 i1 i2 : Int) (hkl : ky.size ≤ 1048576) (g0 : Xd.I64 i0) (g1 : Xd.I64 i1) (g2 : Xd.I64 i2) (w : World) (hT : XmlH.Tab w) :
    Calls Tryz.prog 32 #[.agg #[.int .i64 5, .int .i64 i0, .int .i64 i1, .int .i64 i2, x4, .string ky, x6, x7, x8, x9, x10, x11, x12, x13, x14, x15, x16, x17], .agg #[.int .i64 0, .string ⟨et.toArray⟩]] w fun e w' => CPost 200 [] (Xd.docUpload ky.data.toList (Xd.idText i0 i1 i2) []) w' e ∧ Below w.heap.size w w' := by
  obtain ⟨w3, hw3, hb3, hz3, hQ3, hO3, hR3⟩ : ∃ w3 : World, w3 = (((w.alloc (.cells #[.int .i64 5, .int .i64 i0, .int .i64 i1, .int .i64 i2, x4, .string ky, x6, x7, x8, x9, x10, x11, x12, x13, x14, x15, x16, x17] 35)).alloc (.cells #[.int .i64 0, .string ⟨et.toArray⟩] 63)).alloc (.cells #[.int .i64 0, .slice none 0 0, .slice none 0 0] 56)) ∧ Below w.heap.size w w3 ∧ w3.heap.size = w.heap.size + 3 ∧ w3.heap[w.heap.size]? = some (.cells #[.int .i64 5, .int .i64 i0, .int .i64 i1, .int .i64 i2, x4, .string ky, x6, x7, x8, x9, x10, x11, x12, x13, x14, x15, x16, x17] 35 (0, 0)) ∧ w3.heap[w.heap.size + 1]? = some (.cells #[.int .i64 0, .string ⟨et.toArray⟩] 63 (0, 0)) ∧ Rb (w.heap.size + 1 + 1) w3 (.int .i64 0) (.slice none 0 0) (.slice none 0 0) := by
    refine ⟨_, rfl, (((Below.refl _ _).alloc (Nat.le_refl _) _).alloc (by simp) _).alloc (by simp; omega) _, by simp, (Below.heap_alloc _ _ _ (by simp; omega)).trans ((Below.heap_alloc _ _ _ (by simp)).trans (heap_alloc_new _ _)), (Below.heap_alloc _ _ _ (by simp)).trans (hp1 _ _), ?_⟩
    have := heap_alloc_new ((w.alloc (.cells #[.int .i64 5, .int .i64 i0, .int .i64 i1, .int .i64 i2, x4, .string ky, x6, x7, x8, x9, x10, x11, x12, x13, x14, x15, x16, x17] 35)).alloc (.cells #[.int .i64 0, .string ⟨et.toArray⟩] 63)) (.cells #[.int .i64 0, .slice none 0 0, .slice none 0 0] 56)
    rwa [World.size_alloc, World.size_alloc] at this
  have q0 : w3.cell? ⟨w.heap.size, 0, none⟩ = some (.int .i64 5) := by rw [Lib.cell_of_heap hQ3]; rfl
  have q1 : w3.cell? ⟨w.heap.size, 1, none⟩ = some (.int .i64 i0) := by rw [Lib.cell_of_heap hQ3]; rfl
  have q2 : w3.cell? ⟨w.heap.size, 2, none⟩ = some (.int .i64 i1) := by rw [Lib.cell_of_heap hQ3]; rfl
  have q3 : w3.cell? ⟨w.heap.size, 3, none⟩ = some (.int .i64 i2) := by rw [Lib.cell_of_heap hQ3]; rfl
  have q5 : w3.cell? ⟨w.heap.size, 5, none⟩ = some (.string ky) := by rw [Lib.cell_of_heap hQ3]; rfl
  have y0 : w3.cell? ⟨w.heap.size + 1, 0, none⟩ = some (.int .i64 0) := by rw [Lib.cell_of_heap hO3]; rfl
  have y1 : w3.cell? ⟨w.heap.size + 1, 1, none⟩ = some (.string ⟨et.toArray⟩) := by rw [Lib.cell_of_heap hO3]; rfl
  clear hQ3 hO3
  go_enter Tryz.func32, Tryz.ntmps32
  go_upto_region 1 with fail
  rw [← hw3]
  clear hw3
  have kc := fun w s => Lib.run_convert_string_bytes (P := Tryz.prog) w 9 23 5 s Tryz.underlying9 Tryz.underlying23 Tryz.underlying5
  have KE := Lib.hid (XmlQ.refUpload i0 i1 i2 ky none 0 [] w3 g0 g1 g2 hkl (by simp) (fun _ h => by cases h) (hT.below hb3) (.inl rfl))
  go_wp2_with fail
  refine KE.out.mono ?_
  rintro e w4 ⟨rfl, hb4⟩
  obtain ⟨d, hd⟩ : ∃ d, d = Xd.docUpload ky.data.toList (Xd.idText i0 i1 i2) [] := ⟨_, rfl⟩
  have HD := Lib.hid hd
  rw [← hd]
  clear hd KE
  have hz4 := hb4.size
  have hxc := ShaJ.conv_bs w4 d
  have hxb := Lib.bytesWorld_below w4 5 ⟨d.toArray⟩
  have hR5 := (hR3.below hb4).below hxb
  obtain ⟨r0, r1, r2, f0, f1, f2⟩ := hR5.cells
  go_wp2_with fail
  refine bodyPost_ret (Rb.run 4 (hR5.put _ _ _) rfl rfl) rfl ⟨?_, below_st3 (hb3.trans ((hb4.trans (hxb.mono hz4)).mono (by omega))) (by omega) _ _ _⟩
  rw [show Xd.docUpload ky.data.toList (Xd.idText i0 i1 i2) [] = d from HD.out.symm]
  exact ⟨_, _, _, _, rfl, .inl rfl, bs_far hxc (by rintro p hp; cases hp; simp; omega) _ _ _⟩
set_option maxHeartbeats 4000000 in
set_option maxRecDepth 100000 in
theorem refCoded (x4 x6 x7 x8 x9 x10 x11 x12 x13 x14 x15 x16 x17 : Value) (ky : ByteArray) (et : List UInt8) (i0 i1 i2 : Int) (kd v : Int) (hv1 : 1 ≤ v) (hv8 : v ≤ 8) (w : World) :
    Calls Tryz.prog 32 #[.agg #[.int .i64 kd, .int .i64 i0, .int .i64 i1, .int .i64 i2, x4, .string ky, x6, x7, x8, x9, x10, x11, x12, x13, x14, x15, x16, x17], .agg #[.int .i64 v, .string ⟨et.toArray⟩]] w fun e w' => CPost (cst v) [] (Xp.docError (cnm v)) w' e ∧ Below w.heap.size w w' := by
  obtain ⟨w3, hw3, hb3, hz3, hQ3, hO3, hR3⟩ : ∃ w3 : World, w3 = (((w.alloc (.cells #[.int .i64 kd, .int .i64 i0, .int .i64 i1, .int .i64 i2, x4, .string ky, x6, x7, x8, x9, x10, x11, x12, x13, x14, x15, x16, x17] 35)).alloc (.cells #[.int .i64 v, .string ⟨et.toArray⟩] 63)).alloc (.cells #[.int .i64 0, .slice none 0 0, .slice none 0 0] 56)) ∧ Below w.heap.size w w3 ∧ w3.heap.size = w.heap.size + 3 ∧ w3.heap[w.heap.size]? = some (.cells #[.int .i64 kd, .int .i64 i0, .int .i64 i1, .int .i64 i2, x4, .string ky, x6, x7, x8, x9, x10, x11, x12, x13, x14, x15, x16, x17] 35 (0, 0)) ∧ w3.heap[w.heap.size + 1]? = some (.cells #[.int .i64 v, .string ⟨et.toArray⟩] 63 (0, 0)) ∧ Rb (w.heap.size + 1 + 1) w3 (.int .i64 0) (.slice none 0 0) (.slice none 0 0) := by
    refine ⟨_, rfl, (((Below.refl _ _).alloc (Nat.le_refl _) _).alloc (by simp) _).alloc (by simp; omega) _, by simp, (Below.heap_alloc _ _ _ (by simp; omega)).trans ((Below.heap_alloc _ _ _ (by simp)).trans (heap_alloc_new _ _)), (Below.heap_alloc _ _ _ (by simp)).trans (hp1 _ _), ?_⟩
    have := heap_alloc_new ((w.alloc (.cells #[.int .i64 kd, .int .i64 i0, .int .i64 i1, .int .i64 i2, x4, .string ky, x6, x7, x8, x9, x10, x11, x12, x13, x14, x15, x16, x17] 35)).alloc (.cells #[.int .i64 v, .string ⟨et.toArray⟩] 63)) (.cells #[.int .i64 0, .slice none 0 0, .slice none 0 0] 56)
    rwa [World.size_alloc, World.size_alloc] at this
  have q0 : w3.cell? ⟨w.heap.size, 0, none⟩ = some (.int .i64 kd) := by rw [Lib.cell_of_heap hQ3]; rfl
  have y0 : w3.cell? ⟨w.heap.size + 1, 0, none⟩ = some (.int .i64 v) := by rw [Lib.cell_of_heap hO3]; rfl
  have y1 : w3.cell? ⟨w.heap.size + 1, 1, none⟩ = some (.string ⟨et.toArray⟩) := by rw [Lib.cell_of_heap hO3]; rfl
  clear hQ3 hO3
  have hv : ¬ v = 0 := by omega
  go_enter Tryz.func32, Tryz.ntmps32
  go_upto_region 1 with fail
  rw [← hw3]
  clear hw3
  have KC := Lib.hid (RtY.code v hv1 hv8 w3)
  go_wp2_with (first
    | (go_at_call 65; refine KC.out.mono ?_; rintro e w4 ⟨⟨aF, cF, rfl, hF, hp⟩, hb4⟩; obtain ⟨r0, r1, r2, f0, f1, f2⟩ := (hR3.below hb4).cells))
  exact bodyPost_ret (Rb.run 4 ((hR3.below hb4).put _ _ _) rfl rfl) rfl ⟨⟨_, _, _, _, rfl, .inl rfl, bs_far hF (fun p h => by have := hp p h; omega) _ _ _⟩, below_st3 (hb3.trans (hb4.mono (by omega))) (by omega) _ _ _⟩
end Go.Proofs.YtidflagmdabfaaaGreatDoor.RtR
namespace Go.Proofs.YtidflagmdabfaaaGreatDoor.RtS
open Go.RowKit Go.Proofs.YtidflagmdabfaaaGreatDoor Go.Proofs.YtidflagmdabfaaaGreatDoor.HtW Go.Proofs.YtidflagmdabfaaaGreatDoor.RtA Go.Proofs.YtidflagmdabfaaaGreatDoor.RtQ

/-- the first bytes of an error's document -/
abbrev head : List UInt8 := Xp.top ++ [60, 69, 114, 114, 111, 114, 62]
/-- a body that is an error's document -/
def bad (d : List UInt8) : Bool := decide (29 < d.length) && (d.take 29 == head)
/-- what is said of an answer -/
structure Vw (c st : Int) (fs : List (List UInt8 × List UInt8)) (d : List UInt8) : Prop where
  yes : c = 0 → 0 ≤ st ∧ st < 300 ∧ bad d = false ∧ (st = 204 → d = [])
  no : c ≠ 0 → 400 ≤ st ∧ st < 500 ∧ bad d = true
  few : fs.length ≤ 1
  len : d.length ≤ 70368744177664
/-- a command and its outcome, as arguments -/
abbrev args (v i0 i1 i2 c : Int) (x4 x6 x7 x8 x9 x10 x11 x12 x13 x14 x15 x16 x17 : Value) (ky : ByteArray) (et : List UInt8) : Array Value := #[.agg #[.int .i64 v, .int .i64 i0, .int .i64 i1, .int .i64 i2, x4, .string ky, x6, x7, x8, x9, x10, x11, x12, x13, x14, x15, x16, x17], .agg #[.int .i64 c, .string ⟨et.toArray⟩]]

theorem bad_nil : bad [] = false := rfl
theorem bad_ne {d : List UInt8} (h : d[24]? ≠ some 114) : bad d = false := by
  unfold bad
  rw [Bool.and_eq_false_iff]
  refine .inr (beq_eq_false_iff_ne.2 fun e => h ?_)
  have e2 : (d.take 29)[24]? = d[24]? := List.getElem?_take_of_lt (by decide)
  rw [← e2, e]
  rfl
theorem bad_etag {s : List UInt8} : bad (Xd.docEtag s) = false := bad_ne (show some (116 : UInt8) ≠ some 114 by decide)
theorem bad_upload {k i : List UInt8} : bad (Xd.docUpload k i []) = false := bad_ne (show some (112 : UInt8) ≠ some 114 by decide)
theorem bad_err {s : List UInt8} : bad (Xp.docError s) = true := by
  unfold bad
  rw [Bool.and_eq_true]
  refine ⟨decide_eq_true ?_, ?_⟩
  · unfold Xp.docError
    rw [List.length_append, Xp.tag_len]; simp [Xp.top]; omega
  · rw [show (Xp.docError s).take 29 = head from rfl]; exact beq_self_eq_true _
theorem cst_bound (c : Int) : 400 ≤ RtO.cst c ∧ RtO.cst c < 500 := by
  unfold RtO.cst
  repeat' split
  all_goals omega
theorem cnm_len (c : Int) : (RtO.cnm c).length ≤ 20 := by
  unfold RtO.cnm
  repeat' split
  all_goals decide
theorem err_len {s : List UInt8} (h : s.length ≤ 20) : (Xp.docError s).length ≤ 70368744177664 := by
  have := Xp.esc_len s
  simp only [Xp.docError, List.length_append, Xp.tag_len, Xp.top, List.length_cons, List.length_nil]; omega
theorem etag_len {s : List UInt8} (h : s.length ≤ 1048576) : (Xd.docEtag s).length ≤ 70368744177664 := by
  have := Xp.esc_len s
  simp only [Xd.docEtag, List.length_append, Xp.tag_len, Xp.top, Xp.tEtag, List.length_cons, List.length_nil]; omega
theorem upload_len {k : List UInt8} {a b c : Int} (hk : k.length ≤ 1048576) (ha : Xd.I64 a) (hb : Xd.I64 b) (hc : Xd.I64 c) : (Xd.docUpload k (Xd.idText a b c) []).length ≤ 70368744177664 := by
  have := Xd.upBody_len (key := k) hk ha hb hc (ps := []) (by simp) (fun _ h => by cases h)
  simp only [Xd.docUpload, List.length_append, Xp.tag_len, Xp.top, Xd.tUpload, List.length_cons, List.length_nil]; omega

theorem view (v i0 i1 i2 c : Int) (x4 x6 x7 x8 x9 x10 x11 x12 x13 x14 x15 x16 x17 : Value) (ky : ByteArray) (et : List UInt8) (c0 : 0 ≤ c) (c8 : c ≤ 8) (hk : ky.size ≤ 1048576) (he : et.length ≤ 1048576) (g0 : Xd.I64 i0) (g1 : Xd.I64 i1) (g2 : Xd.I64 i2) :
    ∃ st fs d, Vw c st fs d ∧ (∀ W, XmlH.Tab W → Calls Tryz.prog 31 (args v i0 i1 i2 c x4 x6 x7 x8 x9 x10 x11 x12 x13 x14 x15 x16 x17 ky et) W fun e w' => CPost st fs d w' e ∧ Below W.heap.size W w') ∧ (∀ W, XmlH.Tab W → Calls Tryz.prog 32 (args v i0 i1 i2 c x4 x6 x7 x8 x9 x10 x11 x12 x13 x14 x15 x16 x17 ky et) W fun e w' => CPost st fs d w' e ∧ Below W.heap.size W w') := by
  by_cases hc : c = 0
  · subst hc
    have two : ∀ {fs d}, fs.length ≤ 1 → d.length ≤ 70368744177664 → bad d = false → Vw 0 200 fs d := fun h1 h2 h3 => ⟨fun _ => ⟨by decide, by decide, h3, fun h => absurd h (by decide)⟩, fun h => absurd rfl h, h1, h2⟩
    have four : Vw 0 204 [] [] := ⟨fun _ => ⟨by decide, by decide, rfl, fun _ => rfl⟩, fun h => absurd rfl h, by decide, by decide⟩
    by_cases h2 : v = 2
    · subst h2; exact ⟨204, [], [], four, fun W _ => RtQ.none2 x4 x6 x7 x8 x9 x10 x11 x12 x13 x14 x15 x16 x17 ky et i0 i1 i2 W, fun W _ => RtW.none2 x4 x6 x7 x8 x9 x10 x11 x12 x13 x14 x15 x16 x17 ky et i0 i1 i2 W⟩
    by_cases h4 : v = 4
    · subst h4; exact ⟨204, [], [], four, fun W _ => RtQ.none4 x4 x6 x7 x8 x9 x10 x11 x12 x13 x14 x15 x16 x17 ky et i0 i1 i2 W, fun W _ => RtW.none4 x4 x6 x7 x8 x9 x10 x11 x12 x13 x14 x15 x16 x17 ky et i0 i1 i2 W⟩
    by_cases h8 : v = 8
    · subst h8; exact ⟨204, [], [], four, fun W _ => RtQ.none8 x4 x6 x7 x8 x9 x10 x11 x12 x13 x14 x15 x16 x17 ky et i0 i1 i2 W, fun W _ => RtW.none8 x4 x6 x7 x8 x9 x10 x11 x12 x13 x14 x15 x16 x17 ky et i0 i1 i2 W⟩
    by_cases h3 : v = 3
    · subst h3; exact ⟨200, [(RtG.nEtag, et)], [], two (Nat.le_refl _) (by decide) rfl, fun W _ => RtU.etag3 x4 x6 x7 x8 x9 x10 x11 x12 x13 x14 x15 x16 x17 ky et i0 i1 i2 W, fun W _ => RtW.etag3 x4 x6 x7 x8 x9 x10 x11 x12 x13 x14 x15 x16 x17 ky et i0 i1 i2 W⟩
    by_cases h6 : v = 6
    · subst h6; exact ⟨200, [(RtG.nEtag, et)], [], two (Nat.le_refl _) (by decide) rfl, fun W _ => RtU.etag6 x4 x6 x7 x8 x9 x10 x11 x12 x13 x14 x15 x16 x17 ky et i0 i1 i2 W, fun W _ => RtW.etag6 x4 x6 x7 x8 x9 x10 x11 x12 x13 x14 x15 x16 x17 ky et i0 i1 i2 W⟩
    by_cases h7 : v = 7
    · subst h7; exact ⟨200, [], Xd.docEtag et, two (by decide) (etag_len he) bad_etag, fun W _ => RtU.doc7 x4 x6 x7 x8 x9 x10 x11 x12 x13 x14 x15 x16 x17 ky et i0 i1 i2 he W, fun W _ => RtW.doc7 x4 x6 x7 x8 x9 x10 x11 x12 x13 x14 x15 x16 x17 ky et i0 i1 i2 he W⟩
    by_cases h5 : v = 5
    · subst h5; exact ⟨200, [], Xd.docUpload ky.data.toList (Xd.idText i0 i1 i2) [], two (by decide) (upload_len (by rw [Com.toList_length]; exact hk) g0 g1 g2) bad_upload, fun W hT => RtR.doc5 x4 x6 x7 x8 x9 x10 x11 x12 x13 x14 x15 x16 x17 ky et i0 i1 i2 hk g0 g1 g2 W hT, fun W hT => RtR.refDoc5 x4 x6 x7 x8 x9 x10 x11 x12 x13 x14 x15 x16 x17 ky et i0 i1 i2 hk g0 g1 g2 W hT⟩
    exact ⟨200, [], [], two (by decide) (by decide) rfl, fun W _ => RtQ.plain x4 x6 x7 x8 x9 x10 x11 x12 x13 x14 x15 x16 x17 ky et i0 i1 i2 v h2 h3 h4 h5 h6 h7 h8 W, fun W _ => RtW.plain x4 x6 x7 x8 x9 x10 x11 x12 x13 x14 x15 x16 x17 ky et i0 i1 i2 v h2 h3 h4 h5 h6 h7 h8 W⟩
  · obtain ⟨b1, b2⟩ := cst_bound c
    exact ⟨RtO.cst c, [], Xp.docError (RtO.cnm c), ⟨fun h => absurd h hc, fun _ => ⟨b1, b2, bad_err⟩, by decide, err_len (cnm_len c)⟩, fun W _ => RtQ.coded x4 x6 x7 x8 x9 x10 x11 x12 x13 x14 x15 x16 x17 ky et i0 i1 i2 v c hc W, fun W _ => RtR.refCoded x4 x6 x7 x8 x9 x10 x11 x12 x13 x14 x15 x16 x17 ky et i0 i1 i2 v c (by omega) c8 W⟩
end Go.Proofs.YtidflagmdabfaaaGreatDoor.RtS
namespace Go.Proofs.YtidflagmdabfaaaGreatDoor.RtX
open Go.RowKit Go.Proofs.YtidflagmdabfaaaGreatDoor

/-- numbers that came in -/
def Is (w : World) (a : Option Addr) (zs : List Int) : Prop := zs = [] ∨ ∃ b o, a = some ⟨b, o, none⟩ ∧ b < w.heap.size ∧ ∀ (j : Nat) z, zs[j]? = some z → w.cell? ⟨b, o + j, none⟩ = some (.int .i64 z)
theorem Is.at {w : World} {a : Option Addr} {zs : List Int} (h : Is w a zs) {k : Nat} {z : Int} (hk : zs[k]? = some z) : ∃ b o, a = some ⟨b, o, none⟩ ∧ b < w.heap.size ∧ w.cell? ⟨b, o + k, none⟩ = some (.int .i64 z) := by
  rcases h with h | ⟨b, o, h1, h2, h3⟩
  · rw [h] at hk; simp at hk
  · exact ⟨b, o, h1, h2, h3 k z hk⟩
theorem Is.below {w w' : World} {a : Option Addr} {zs : List Int} (h : Is w a zs) (hb : Below w.heap.size w w') : Is w' a zs :=
  h.imp id fun ⟨b, o, h1, h2, h3⟩ => ⟨b, o, h1, Nat.lt_of_lt_of_le h2 hb.size, fun j z hj => (hb.cell (p := ⟨b, o + j, none⟩) h2).trans (h3 j z hj)⟩
/-- some answer -/
def Bo (e : Ending) : Prop := ∃ b, e = .returned (.bool b)
theorem bo {b : Bool} : Bo (.returned (.bool b)) := ⟨b, rfl⟩

set_option maxHeartbeats 1000000 in
theorem ticks (y : Int) (w : World) : Calls Tryz.prog 54 #[.int .i64 y] w fun e w' => Bo e ∧ w = w' := by
  rcases Int.lt_or_le y 0 with a | a
  · go_enter Tryz.func54, Tryz.ntmps54
    go_wp2_with fail
    go_ret
    exact ⟨bo, rfl⟩
  · go_enter Tryz.func54, Tryz.ntmps54
    go_wp2_with fail
    go_ret
    exact ⟨bo, rfl⟩

set_option maxHeartbeats 1000000 in
theorem plain (y : Int) (w : World) : Calls Tryz.prog 96 #[.int .u8 y] w fun e w' => Bo e ∧ w = w' := by
  go_enter Tryz.func96, Tryz.ntmps96
  go_wp2_with fail
  all_goals
    go_ret
    exact ⟨bo, rfl⟩

set_option maxHeartbeats 1000000 in
set_option maxRecDepth 100000 in
theorem goodId (x y z : Int) (w : World) :
    Calls Tryz.prog 15 #[.agg #[.int .i64 x, .int .i64 y, .int .i64 z]] w fun e w' => Bo e ∧ Below w.heap.size w w' := by
  go_enter Tryz.func15, Tryz.ntmps15
  go_wp2_with fail
  all_goals
    go_ret
    exact ⟨bo, (Below.refl _ w).alloc (Nat.le_refl _) _⟩

set_option maxHeartbeats 1000000 in
set_option maxRecDepth 100000 in
theorem goodKey (s : ByteArray) (w : World) (hs : s.size ≤ 4611686018427387904) :
    Calls Tryz.prog 49 #[.string s] w fun e w' => Bo e ∧ w = w' := by
  go_enter Tryz.func49, Tryz.ntmps49
  go_upto_region 1 with fail
  go_cut [3] from 5 to 12 (fun v wx => (∃ b, v = .bool b) ∧ wx = w)
  case first =>
    go_wp2_with fail
    all_goals
      go_meet
      exact ⟨⟨_, rfl⟩, rfl⟩
  case rest =>
    obtain ⟨⟨b, rfl⟩, rfl⟩ := hcut
    go_wp2_with fail
    go_loopg [3, 4] s.size (fun g v3 v4 wr => ∃ (k : Nat) (b : Bool), k + g = s.size ∧ v4 = .int .i64 k ∧ v3 = .bool b ∧ wc = wr)
    case atStart => exact ⟨0, b, by omega, rfl, rfl, rfl⟩
    case round =>
      obtain ⟨k, b, hkg, rfl, rfl, rfl⟩ := hrel
      have HG := Lib.hid hkg; clear hkg
      by_cases hlt : k < s.size
      · cases b
        all_goals
          go_wp2_with fail
        all_goals
          go_roundg (s.size - (k + 1))
          case measure => have := HG.out; omega
          case rel => exact ⟨k + 1, _, by have := HG.out; omega, by go_num, rfl, rfl⟩
      · have hk : s.size ≤ k := by omega
        go_wp2_with fail
        go_ret
        exact ⟨bo, rfl⟩

set_option maxHeartbeats 2000000 in
set_option maxRecDepth 100000 in
theorem goodBucket (s : ByteArray) (w : World) (hs : s.size ≤ 4611686018427387904) :
    Calls Tryz.prog 48 #[.string s] w fun e w' => Bo e ∧ w = w' := by
  go_enter Tryz.func48, Tryz.ntmps48
  go_upto_region 1 with fail
  go_cut [3] from 5 to 12 (fun v wx => (∃ b, v = .bool b) ∧ wx = w)
  case first =>
    go_wp2_with fail
    all_goals
      go_meet
      exact ⟨⟨_, rfl⟩, rfl⟩
  case rest =>
    obtain ⟨⟨b, rfl⟩, rfl⟩ := hcut
    go_wp2_with fail
    go_loopg [3, 4] s.size (fun g v3 v4 wr => ∃ (k : Nat) (b : Bool), k + g = s.size ∧ v4 = .int .i64 k ∧ v3 = .bool b ∧ wc = wr)
    case atStart => exact ⟨0, b, by omega, rfl, rfl, rfl⟩
    case round =>
      obtain ⟨k, b, hkg, rfl, rfl, rfl⟩ := hrel
      have HG := Lib.hid hkg; clear hkg
      by_cases hlt : k < s.size
      · have hwz : IntKind.i64.wrap ((s.size : Int) - 1) = (s.size : Int) - 1 := IntWalk.i64_in _ ⟨by omega, by omega⟩
        cases b
        all_goals
          go_wp2_with (first
            | (go_at_call 96; refine (plain _ _).mono ?_; rintro e w1 ⟨⟨b1, rfl⟩, hw1⟩; obtain rfl := hw1.symm; cases b1))
        all_goals
          go_roundg (s.size - (k + 1))
          case measure => have := HG.out; omega
          case rel => exact ⟨k + 1, _, by have := HG.out; omega, by go_num, rfl, rfl⟩
      · have hk : s.size ≤ k := by omega
        go_wp2_with fail
        go_ret
        exact ⟨bo, rfl⟩

set_option maxHeartbeats 2000000 in
set_option maxRecDepth 100000 in
theorem piece (x y z sz : Int) (s : ByteArray) (w : World) (hs : s.size ≤ 4611686018427387904) :
    Calls Tryz.prog 53 #[.agg #[.int .i64 x, .int .i64 y, .int .i64 z, .int .i64 sz, .string s]] w fun e w' => Bo e ∧ Below w.heap.size w w' := by
  obtain ⟨w1, hw1, hb1, hc1⟩ : ∃ w1, w1 = w.alloc (.cells #[.int .i64 x, .int .i64 y, .int .i64 z, .int .i64 sz, .string s] 32) ∧ Below w.heap.size w w1 ∧ w1.heap[w.heap.size]? = some (.cells #[.int .i64 x, .int .i64 y, .int .i64 z, .int .i64 sz, .string s] 32 (0, 0)) := ⟨_, rfl, (Below.refl _ _).alloc (Nat.le_refl _) _, heap_alloc_new _ _⟩
  have HC := Lib.hid hc1
  have hlt := (Array.getElem?_eq_some_iff.1 hc1).1
  have c0 : w1.cell? ⟨w.heap.size, 0, none⟩ = some (.int .i64 x) := by rw [Lib.cell_of_heap hc1]; rfl
  have c1 : w1.cell? ⟨w.heap.size, 1, none⟩ = some (.int .i64 y) := by rw [Lib.cell_of_heap hc1]; rfl
  have c2 : w1.cell? ⟨w.heap.size, 2, none⟩ = some (.int .i64 z) := by rw [Lib.cell_of_heap hc1]; rfl
  clear hc1
  go_enter Tryz.func53, Tryz.ntmps53
  go_upto_region 1 with fail
  rw [← hw1]
  clear hw1
  go_cut [3] from 6 to 24 (fun v wx => (∃ b, v = .bool b) ∧ Below w1.heap.size w1 wx)
  case first =>
    go_wp2_with (first
      | (go_at_call 15; refine (goodId _ _ _ _).mono ?_; rintro e w2 ⟨⟨b1, rfl⟩, hb2⟩; have c3 : w2.cell? ⟨w.heap.size, 3, none⟩ = some (.int .i64 sz) := (by rw [hb2.cell (p := ⟨w.heap.size, 3, none⟩) hlt, Lib.cell_of_heap HC.out]; rfl); have c4 : w2.cell? ⟨w.heap.size, 4, none⟩ = some (.string s) := (by rw [hb2.cell (p := ⟨w.heap.size, 4, none⟩) hlt, Lib.cell_of_heap HC.out]; rfl); cases b1))
    all_goals
      go_meet
      exact ⟨⟨_, rfl⟩, hb2⟩
  case rest =>
    obtain ⟨⟨b, rfl⟩, hb2⟩ := hcut
    have c4 : wc.cell? ⟨w.heap.size, 4, none⟩ = some (.string s) := (by rw [hb2.cell (p := ⟨w.heap.size, 4, none⟩) hlt, Lib.cell_of_heap HC.out]; rfl)
    have HB := Lib.hid (hb1.trans (hb2.mono hb1.size))
    clear hb1 hb2 c0 c1 c2 HC
    go_wp2_with fail
    go_loopg [3, 4] s.size (fun g v3 v4 wr => ∃ (k : Nat) (b : Bool), k + g = s.size ∧ v4 = .int .i64 k ∧ v3 = .bool b ∧ wc = wr)
    case atStart => exact ⟨0, b, by omega, rfl, rfl, rfl⟩
    case round =>
      obtain ⟨k, b, hkg, rfl, rfl, rfl⟩ := hrel
      have HG := Lib.hid hkg; clear hkg
      by_cases hlt : k < s.size
      · cases b
        all_goals
          go_wp2_with fail
        all_goals
          go_roundg (s.size - (k + 1))
          case measure => have := HG.out; omega
          case rel => exact ⟨k + 1, _, by have := HG.out; omega, by go_num, rfl, rfl⟩
      · have hk : s.size ≤ k := by omega
        go_wp2_with fail
        go_ret
        exact ⟨bo, HB.out⟩
end Go.Proofs.YtidflagmdabfaaaGreatDoor.RtX
