/-
  The walk of package bollardref21's Command, but for the codes and the upload's document (out of XRtQ and XRtU). The walks of package xml's Buckets and of the reference's. The walk of the reference's Buckets. The walk of the reference's List.
-/
import Derived.Test.YtidflagmdabfaaaGreatDoorRq02
namespace Go.Proofs.YtidflagmdabfaaaGreatDoor.RtW
open Go.RowKit Go.Proofs.YtidflagmdabfaaaGreatDoor Go.Proofs.YtidflagmdabfaaaGreatDoor.HtW Go.Proofs.YtidflagmdabfaaaGreatDoor.RtA Go.Proofs.YtidflagmdabfaaaGreatDoor.RtQ Go.Proofs.YtidflagmdabfaaaGreatDoor.RtG Go.Proofs.YtidflagmdabfaaaGreatDoor.RtU

theorem refEtag (s : ByteArray) (w : World) (hs : s.size ≤ 1048576) :
    Calls Tryz.prog 66 #[.string s] w fun e w' => e = .returned (.string ⟨(Xd.docEtag s.data.toList).toArray⟩) ∧ Below w.heap.size w w' :=
  (XmlL.refEtag s w hs).mono fun _ _ ⟨h1, h2⟩ => ⟨h1, h2 ▸ Below.refl _ _⟩
set_option maxHeartbeats 4000000 in
set_option maxRecDepth 100000 in
theorem none2 (x4 x6 x7 x8 x9 x10 x11 x12 x13 x14 x15 x16 x17 : Value) (ky : ByteArray) (et : List UInt8) (i0 i1 i2 : Int) (w : World) :
    Calls Tryz.prog 32 #[.agg #[.int .i64 2, .int .i64 i0, .int .i64 i1, .int .i64 i2, x4, .string ky, x6, x7, x8, x9, x10, x11, x12, x13, x14, x15, x16, x17], .agg #[.int .i64 0, .string ⟨et.toArray⟩]] w fun e w' => CPost 204 [] [] w' e ∧ Below w.heap.size w w' := by
  obtain ⟨w3, hw3, hb3, hz3, hQ3, hO3, hR3⟩ : ∃ w3 : World, w3 = (((w.alloc (.cells #[.int .i64 2, .int .i64 i0, .int .i64 i1, .int .i64 i2, x4, .string ky, x6, x7, x8, x9, x10, x11, x12, x13, x14, x15, x16, x17] 35)).alloc (.cells #[.int .i64 0, .string ⟨et.toArray⟩] 63)).alloc (.cells #[.int .i64 0, .slice none 0 0, .slice none 0 0] 56)) ∧ Below w.heap.size w w3 ∧ w3.heap.size = w.heap.size + 3 ∧ w3.heap[w.heap.size]? = some (.cells #[.int .i64 2, .int .i64 i0, .int .i64 i1, .int .i64 i2, x4, .string ky, x6, x7, x8, x9, x10, x11, x12, x13, x14, x15, x16, x17] 35 (0, 0)) ∧ w3.heap[w.heap.size + 1]? = some (.cells #[.int .i64 0, .string ⟨et.toArray⟩] 63 (0, 0)) ∧ Rb (w.heap.size + 1 + 1) w3 (.int .i64 0) (.slice none 0 0) (.slice none 0 0) := by
    refine ⟨_, rfl, (((Below.refl _ _).alloc (Nat.le_refl _) _).alloc (by simp) _).alloc (by simp; omega) _, by simp, (Below.heap_alloc _ _ _ (by simp; omega)).trans ((Below.heap_alloc _ _ _ (by simp)).trans (heap_alloc_new _ _)), (Below.heap_alloc _ _ _ (by simp)).trans (hp1 _ _), ?_⟩
    have := heap_alloc_new ((w.alloc (.cells #[.int .i64 2, .int .i64 i0, .int .i64 i1, .int .i64 i2, x4, .string ky, x6, x7, x8, x9, x10, x11, x12, x13, x14, x15, x16, x17] 35)).alloc (.cells #[.int .i64 0, .string ⟨et.toArray⟩] 63)) (.cells #[.int .i64 0, .slice none 0 0, .slice none 0 0] 56)
    rwa [World.size_alloc, World.size_alloc] at this
  have q0 : w3.cell? ⟨w.heap.size, 0, none⟩ = some (.int .i64 2) := by rw [Lib.cell_of_heap hQ3]; rfl
  have y0 : w3.cell? ⟨w.heap.size + 1, 0, none⟩ = some (.int .i64 0) := by rw [Lib.cell_of_heap hO3]; rfl
  have y1 : w3.cell? ⟨w.heap.size + 1, 1, none⟩ = some (.string ⟨et.toArray⟩) := by rw [Lib.cell_of_heap hO3]; rfl
  clear hQ3 hO3
  go_enter Tryz.func32, Tryz.ntmps32
  go_upto_region 1 with fail
  rw [← hw3]
  clear hw3
  obtain ⟨r0, r1, r2, f0, f1, f2⟩ := hR3.cells
  go_wp2_with fail
  exact bodyPost_ret (Rb.run 4 (hR3.put _ _ _) rfl rfl) rfl ⟨⟨_, _, _, _, rfl, .inl rfl, ⟨Nat.le_refl _, fun _ => rfl, .inl rfl⟩⟩, below_st3 hb3 (by omega) _ _ _⟩
set_option maxHeartbeats 4000000 in
set_option maxRecDepth 100000 in
theorem none4 (x4 x6 x7 x8 x9 x10 x11 x12 x13 x14 x15 x16 x17 : Value) (ky : ByteArray) (et : List UInt8) (i0 i1 i2 : Int) (w : World) :
    Calls Tryz.prog 32 #[.agg #[.int .i64 4, .int .i64 i0, .int .i64 i1, .int .i64 i2, x4, .string ky, x6, x7, x8, x9, x10, x11, x12, x13, x14, x15, x16, x17], .agg #[.int .i64 0, .string ⟨et.toArray⟩]] w fun e w' => CPost 204 [] [] w' e ∧ Below w.heap.size w w' := by
  obtain ⟨w3, hw3, hb3, hz3, hQ3, hO3, hR3⟩ : ∃ w3 : World, w3 = (((w.alloc (.cells #[.int .i64 4, .int .i64 i0, .int .i64 i1, .int .i64 i2, x4, .string ky, x6, x7, x8, x9, x10, x11, x12, x13, x14, x15, x16, x17] 35)).alloc (.cells #[.int .i64 0, .string ⟨et.toArray⟩] 63)).alloc (.cells #[.int .i64 0, .slice none 0 0, .slice none 0 0] 56)) ∧ Below w.heap.size w w3 ∧ w3.heap.size = w.heap.size + 3 ∧ w3.heap[w.heap.size]? = some (.cells #[.int .i64 4, .int .i64 i0, .int .i64 i1, .int .i64 i2, x4, .string ky, x6, x7, x8, x9, x10, x11, x12, x13, x14, x15, x16, x17] 35 (0, 0)) ∧ w3.heap[w.heap.size + 1]? = some (.cells #[.int .i64 0, .string ⟨et.toArray⟩] 63 (0, 0)) ∧ Rb (w.heap.size + 1 + 1) w3 (.int .i64 0) (.slice none 0 0) (.slice none 0 0) := by
    refine ⟨_, rfl, (((Below.refl _ _).alloc (Nat.le_refl _) _).alloc (by simp) _).alloc (by simp; omega) _, by simp, (Below.heap_alloc _ _ _ (by simp; omega)).trans ((Below.heap_alloc _ _ _ (by simp)).trans (heap_alloc_new _ _)), (Below.heap_alloc _ _ _ (by simp)).trans (hp1 _ _), ?_⟩
    have := heap_alloc_new ((w.alloc (.cells #[.int .i64 4, .int .i64 i0, .int .i64 i1, .int .i64 i2, x4, .string ky, x6, x7, x8, x9, x10, x11, x12, x13, x14, x15, x16, x17] 35)).alloc (.cells #[.int .i64 0, .string ⟨et.toArray⟩] 63)) (.cells #[.int .i64 0, .slice none 0 0, .slice none 0 0] 56)
    rwa [World.size_alloc, World.size_alloc] at this
  have q0 : w3.cell? ⟨w.heap.size, 0, none⟩ = some (.int .i64 4) := by rw [Lib.cell_of_heap hQ3]; rfl
  have y0 : w3.cell? ⟨w.heap.size + 1, 0, none⟩ = some (.int .i64 0) := by rw [Lib.cell_of_heap hO3]; rfl
  have y1 : w3.cell? ⟨w.heap.size + 1, 1, none⟩ = some (.string ⟨et.toArray⟩) := by rw [Lib.cell_of_heap hO3]; rfl
  clear hQ3 hO3
  go_enter Tryz.func32, Tryz.ntmps32
  go_upto_region 1 with fail
  rw [← hw3]
  clear hw3
  obtain ⟨r0, r1, r2, f0, f1, f2⟩ := hR3.cells
  go_wp2_with fail
  exact bodyPost_ret (Rb.run 4 (hR3.put _ _ _) rfl rfl) rfl ⟨⟨_, _, _, _, rfl, .inl rfl, ⟨Nat.le_refl _, fun _ => rfl, .inl rfl⟩⟩, below_st3 hb3 (by omega) _ _ _⟩
set_option maxHeartbeats 4000000 in
set_option maxRecDepth 100000 in
theorem none8 (x4 x6 x7 x8 x9 x10 x11 x12 x13 x14 x15 x16 x17 : Value) (ky : ByteArray) (et : List UInt8) (i0 i1 i2 : Int) (w : World) :
    Calls Tryz.prog 32 #[.agg #[.int .i64 8, .int .i64 i0, .int .i64 i1, .int .i64 i2, x4, .string ky, x6, x7, x8, x9, x10, x11, x12, x13, x14, x15, x16, x17], .agg #[.int .i64 0, .string ⟨et.toArray⟩]] w fun e w' => CPost 204 [] [] w' e ∧ Below w.heap.size w w' := by
  obtain ⟨w3, hw3, hb3, hz3, hQ3, hO3, hR3⟩ : ∃ w3 : World, w3 = (((w.alloc (.cells #[.int .i64 8, .int .i64 i0, .int .i64 i1, .int .i64 i2, x4, .string ky, x6, x7, x8, x9, x10, x11, x12, x13, x14, x15, x16, x17] 35)).alloc (.cells #[.int .i64 0, .string ⟨et.toArray⟩] 63)).alloc (.cells #[.int .i64 0, .slice none 0 0, .slice none 0 0] 56)) ∧ Below w.heap.size w w3 ∧ w3.heap.size = w.heap.size + 3 ∧ w3.heap[w.heap.size]? = some (.cells #[.int .i64 8, .int .i64 i0, .int .i64 i1, .int .i64 i2, x4, .string ky, x6, x7, x8, x9, x10, x11, x12, x13, x14, x15, x16, x17] 35 (0, 0)) ∧ w3.heap[w.heap.size + 1]? = some (.cells #[.int .i64 0, .string ⟨et.toArray⟩] 63 (0, 0)) ∧ Rb (w.heap.size + 1 + 1) w3 (.int .i64 0) (.slice none 0 0) (.slice none 0 0) := by
    refine ⟨_, rfl, (((Below.refl _ _).alloc (Nat.le_refl _) _).alloc (by simp) _).alloc (by simp; omega) _, by simp, (Below.heap_alloc _ _ _ (by simp; omega)).trans ((Below.heap_alloc _ _ _ (by simp)).trans (heap_alloc_new _ _)), (Below.heap_alloc _ _ _ (by simp)).trans (hp1 _ _), ?_⟩
    have := heap_alloc_new ((w.alloc (.cells #[.int .i64 8, .int .i64 i0, .int .i64 i1, .int .i64 i2, x4, .string ky, x6, x7, x8, x9, x10, x11, x12, x13, x14, x15, x16, x17] 35)).alloc (.cells #[.int .i64 0, .string ⟨et.toArray⟩] 63)) (.cells #[.int .i64 0, .slice none 0 0, .slice none 0 0] 56)
    rwa [World.size_alloc, World.size_alloc] at this
  have q0 : w3.cell? ⟨w.heap.size, 0, none⟩ = some (.int .i64 8) := by rw [Lib.cell_of_heap hQ3]; rfl
  have y0 : w3.cell? ⟨w.heap.size + 1, 0, none⟩ = some (.int .i64 0) := by rw [Lib.cell_of_heap hO3]; rfl
  have y1 : w3.cell? ⟨w.heap.size + 1, 1, none⟩ = some (.string ⟨et.toArray⟩) := by rw [Lib.cell_of_heap hO3]; rfl
  clear hQ3 hO3
  go_enter Tryz.func32, Tryz.ntmps32
  go_upto_region 1 with fail
  rw [← hw3]
  clear hw3
  obtain ⟨r0, r1, r2, f0, f1, f2⟩ := hR3.cells
  go_wp2_with fail
  exact bodyPost_ret (Rb.run 4 (hR3.put _ _ _) rfl rfl) rfl ⟨⟨_, _, _, _, rfl, .inl rfl, ⟨Nat.le_refl _, fun _ => rfl, .inl rfl⟩⟩, below_st3 hb3 (by omega) _ _ _⟩
set_option maxHeartbeats 4000000 in
set_option maxRecDepth 100000 in
theorem plain (x4 x6 x7 x8 x9 x10 x11 x12 x13 x14 x15 x16 x17 : Value) (ky : ByteArray) (et : List UInt8) (i0 i1 i2 : Int) (v : Int) (h2 : ¬ v = 2) (h3 : ¬ v = 3) (h4 : ¬ v = 4) (h5 : ¬ v = 5) (h6 : ¬ v = 6) (h7 : ¬ v = 7) (h8 : ¬ v = 8) (w : World) :
    Calls Tryz.prog 32 #[.agg #[.int .i64 v, .int .i64 i0, .int .i64 i1, .int .i64 i2, x4, .string ky, x6, x7, x8, x9, x10, x11, x12, x13, x14, x15, x16, x17], .agg #[.int .i64 0, .string ⟨et.toArray⟩]] w fun e w' => CPost 200 [] [] w' e ∧ Below w.heap.size w w' := by
  obtain ⟨w3, hw3, hb3, hz3, hQ3, hO3, hR3⟩ : ∃ w3 : World, w3 = (((w.alloc (.cells #[.int .i64 v, .int .i64 i0, .int .i64 i1, .int .i64 i2, x4, .string ky, x6, x7, x8, x9, x10, x11, x12, x13, x14, x15, x16, x17] 35)).alloc (.cells #[.int .i64 0, .string ⟨et.toArray⟩] 63)).alloc (.cells #[.int .i64 0, .slice none 0 0, .slice none 0 0] 56)) ∧ Below w.heap.size w w3 ∧ w3.heap.size = w.heap.size + 3 ∧ w3.heap[w.heap.size]? = some (.cells #[.int .i64 v, .int .i64 i0, .int .i64 i1, .int .i64 i2, x4, .string ky, x6, x7, x8, x9, x10, x11, x12, x13, x14, x15, x16, x17] 35 (0, 0)) ∧ w3.heap[w.heap.size + 1]? = some (.cells #[.int .i64 0, .string ⟨et.toArray⟩] 63 (0, 0)) ∧ Rb (w.heap.size + 1 + 1) w3 (.int .i64 0) (.slice none 0 0) (.slice none 0 0) := by
    refine ⟨_, rfl, (((Below.refl _ _).alloc (Nat.le_refl _) _).alloc (by simp) _).alloc (by simp; omega) _, by simp, (Below.heap_alloc _ _ _ (by simp; omega)).trans ((Below.heap_alloc _ _ _ (by simp)).trans (heap_alloc_new _ _)), (Below.heap_alloc _ _ _ (by simp)).trans (hp1 _ _), ?_⟩
    have := heap_alloc_new ((w.alloc (.cells #[.int .i64 v, .int .i64 i0, .int .i64 i1, .int .i64 i2, x4, .string ky, x6, x7, x8, x9, x10, x11, x12, x13, x14, x15, x16, x17] 35)).alloc (.cells #[.int .i64 0, .string ⟨et.toArray⟩] 63)) (.cells #[.int .i64 0, .slice none 0 0, .slice none 0 0] 56)
    rwa [World.size_alloc, World.size_alloc] at this
  have q0 : w3.cell? ⟨w.heap.size, 0, none⟩ = some (.int .i64 v) := by rw [Lib.cell_of_heap hQ3]; rfl
  have y0 : w3.cell? ⟨w.heap.size + 1, 0, none⟩ = some (.int .i64 0) := by rw [Lib.cell_of_heap hO3]; rfl
  have y1 : w3.cell? ⟨w.heap.size + 1, 1, none⟩ = some (.string ⟨et.toArray⟩) := by rw [Lib.cell_of_heap hO3]; rfl
  clear hQ3 hO3
  go_enter Tryz.func32, Tryz.ntmps32
  go_upto_region 1 with fail
  rw [← hw3]
  clear hw3
  obtain ⟨r0, r1, r2, f0, f1, f2⟩ := hR3.cells
  go_wp2_with fail
  exact bodyPost_ret (Rb.run 4 (hR3.put _ _ _) rfl rfl) rfl ⟨⟨_, _, _, _, rfl, .inl rfl, ⟨Nat.le_refl _, fun _ => rfl, .inl rfl⟩⟩, below_st3 hb3 (by omega) _ _ _⟩
set_option maxHeartbeats 4000000 in
set_option maxRecDepth 100000 in
theorem etag3 (x4 x6 x7 x8 x9 x10 x11 x12 x13 x14 x15 x16 x17 : Value) (ky : ByteArray) (et : List UInt8) (i0 i1 i2 : Int) (w : World) :
    Calls Tryz.prog 32 #[.agg #[.int .i64 3, .int .i64 i0, .int .i64 i1, .int .i64 i2, x4, .string ky, x6, x7, x8, x9, x10, x11, x12, x13, x14, x15, x16, x17], .agg #[.int .i64 0, .string ⟨et.toArray⟩]] w fun e w' => CPost 200 [(nEtag, et)] [] w' e ∧ Below w.heap.size w w' := by
  obtain ⟨w3, hw3, hb3, hz3, hQ3, hO3, hR3⟩ : ∃ w3 : World, w3 = (((w.alloc (.cells #[.int .i64 3, .int .i64 i0, .int .i64 i1, .int .i64 i2, x4, .string ky, x6, x7, x8, x9, x10, x11, x12, x13, x14, x15, x16, x17] 35)).alloc (.cells #[.int .i64 0, .string ⟨et.toArray⟩] 63)).alloc (.cells #[.int .i64 0, .slice none 0 0, .slice none 0 0] 56)) ∧ Below w.heap.size w w3 ∧ w3.heap.size = w.heap.size + 3 ∧ w3.heap[w.heap.size]? = some (.cells #[.int .i64 3, .int .i64 i0, .int .i64 i1, .int .i64 i2, x4, .string ky, x6, x7, x8, x9, x10, x11, x12, x13, x14, x15, x16, x17] 35 (0, 0)) ∧ w3.heap[w.heap.size + 1]? = some (.cells #[.int .i64 0, .string ⟨et.toArray⟩] 63 (0, 0)) ∧ Rb (w.heap.size + 1 + 1) w3 (.int .i64 0) (.slice none 0 0) (.slice none 0 0) := by
    refine ⟨_, rfl, (((Below.refl _ _).alloc (Nat.le_refl _) _).alloc (by simp) _).alloc (by simp; omega) _, by simp, (Below.heap_alloc _ _ _ (by simp; omega)).trans ((Below.heap_alloc _ _ _ (by simp)).trans (heap_alloc_new _ _)), (Below.heap_alloc _ _ _ (by simp)).trans (hp1 _ _), ?_⟩
    have := heap_alloc_new ((w.alloc (.cells #[.int .i64 3, .int .i64 i0, .int .i64 i1, .int .i64 i2, x4, .string ky, x6, x7, x8, x9, x10, x11, x12, x13, x14, x15, x16, x17] 35)).alloc (.cells #[.int .i64 0, .string ⟨et.toArray⟩] 63)) (.cells #[.int .i64 0, .slice none 0 0, .slice none 0 0] 56)
    rwa [World.size_alloc, World.size_alloc] at this
  have q0 : w3.cell? ⟨w.heap.size, 0, none⟩ = some (.int .i64 3) := by rw [Lib.cell_of_heap hQ3]; rfl
  have y0 : w3.cell? ⟨w.heap.size + 1, 0, none⟩ = some (.int .i64 0) := by rw [Lib.cell_of_heap hO3]; rfl
  have y1 : w3.cell? ⟨w.heap.size + 1, 1, none⟩ = some (.string ⟨et.toArray⟩) := by rw [Lib.cell_of_heap hO3]; rfl
  clear hQ3 hO3
  go_enter Tryz.func32, Tryz.ntmps32
  go_upto_region 1 with fail
  rw [← hw3]
  clear hw3
  have hb4 := (Below.refl w3.heap.size w3).alloc (Nat.le_refl _) (.cells #[.string ⟨#[101, 116, 97, 103]⟩, .string ⟨et.toArray⟩] 91)
  have hF : Fs (w3.alloc (.cells #[.string ⟨#[101, 116, 97, 103]⟩, .string ⟨et.toArray⟩] 91)) (some ⟨w3.heap.size, 0, none⟩) [(nEtag, et)] := RtJ.one_fs w3 nEtag et
  have HZ := Lib.hid hz3
  clear hz3
  have hR4 := hR3.below hb4
  obtain ⟨r0, r1, r2, f0, f1, f2⟩ := hR4.cells
  go_wp2_with fail
  refine bodyPost_ret (Rb.run 4 (hR4.put _ _ _) rfl rfl) rfl ⟨⟨_, _, _, _, rfl, ?_, ⟨Nat.le_refl _, fun _ => rfl, .inl rfl⟩⟩, below_st3 (hb3.trans (hb4.mono (by have := HZ.out; omega))) (by omega) _ _ _⟩
  exact fs_far hF (fun p h => by cases h; have := HZ.out; show w3.heap.size ≠ _; omega) _ _ _
set_option maxHeartbeats 4000000 in
set_option maxRecDepth 100000 in
theorem etag6 (x4 x6 x7 x8 x9 x10 x11 x12 x13 x14 x15 x16 x17 : Value) (ky : ByteArray) (et : List UInt8) (i0 i1 i2 : Int) (w : World) :
    Calls Tryz.prog 32 #[.agg #[.int .i64 6, .int .i64 i0, .int .i64 i1, .int .i64 i2, x4, .string ky, x6, x7, x8, x9, x10, x11, x12, x13, x14, x15, x16, x17], .agg #[.int .i64 0, .string ⟨et.toArray⟩]] w fun e w' => CPost 200 [(nEtag, et)] [] w' e ∧ Below w.heap.size w w' := by
  obtain ⟨w3, hw3, hb3, hz3, hQ3, hO3, hR3⟩ : ∃ w3 : World, w3 = (((w.alloc (.cells #[.int .i64 6, .int .i64 i0, .int .i64 i1, .int .i64 i2, x4, .string ky, x6, x7, x8, x9, x10, x11, x12, x13, x14, x15, x16, x17] 35)).alloc (.cells #[.int .i64 0, .string ⟨et.toArray⟩] 63)).alloc (.cells #[.int .i64 0, .slice none 0 0, .slice none 0 0] 56)) ∧ Below w.heap.size w w3 ∧ w3.heap.size = w.heap.size + 3 ∧ w3.heap[w.heap.size]? = some (.cells #[.int .i64 6, .int .i64 i0, .int .i64 i1, .int .i64 i2, x4, .string ky, x6, x7, x8, x9, x10, x11, x12, x13, x14, x15, x16, x17] 35 (0, 0)) ∧ w3.heap[w.heap.size + 1]? = some (.cells #[.int .i64 0, .string ⟨et.toArray⟩] 63 (0, 0)) ∧ Rb (w.heap.size + 1 + 1) w3 (.int .i64 0) (.slice none 0 0) (.slice none 0 0) := by
    refine ⟨_, rfl, (((Below.refl _ _).alloc (Nat.le_refl _) _).alloc (by simp) _).alloc (by simp; omega) _, by simp, (Below.heap_alloc _ _ _ (by simp; omega)).trans ((Below.heap_alloc _ _ _ (by simp)).trans (heap_alloc_new _ _)), (Below.heap_alloc _ _ _ (by simp)).trans (hp1 _ _), ?_⟩
    have := heap_alloc_new ((w.alloc (.cells #[.int .i64 6, .int .i64 i0, .int .i64 i1, .int .i64 i2, x4, .string ky, x6, x7, x8, x9, x10, x11, x12, x13, x14, x15, x16, x17] 35)).alloc (.cells #[.int .i64 0, .string ⟨et.toArray⟩] 63)) (.cells #[.int .i64 0, .slice none 0 0, .slice none 0 0] 56)
    rwa [World.size_alloc, World.size_alloc] at this
  have q0 : w3.cell? ⟨w.heap.size, 0, none⟩ = some (.int .i64 6) := by rw [Lib.cell_of_heap hQ3]; rfl
  have y0 : w3.cell? ⟨w.heap.size + 1, 0, none⟩ = some (.int .i64 0) := by rw [Lib.cell_of_heap hO3]; rfl
  have y1 : w3.cell? ⟨w.heap.size + 1, 1, none⟩ = some (.string ⟨et.toArray⟩) := by rw [Lib.cell_of_heap hO3]; rfl
  clear hQ3 hO3
  go_enter Tryz.func32, Tryz.ntmps32
  go_upto_region 1 with fail
  rw [← hw3]
  clear hw3
  have hb4 := (Below.refl w3.heap.size w3).alloc (Nat.le_refl _) (.cells #[.string ⟨#[101, 116, 97, 103]⟩, .string ⟨et.toArray⟩] 91)
  have hF : Fs (w3.alloc (.cells #[.string ⟨#[101, 116, 97, 103]⟩, .string ⟨et.toArray⟩] 91)) (some ⟨w3.heap.size, 0, none⟩) [(nEtag, et)] := RtJ.one_fs w3 nEtag et
  have HZ := Lib.hid hz3
  clear hz3
  have hR4 := hR3.below hb4
  obtain ⟨r0, r1, r2, f0, f1, f2⟩ := hR4.cells
  go_wp2_with fail
  refine bodyPost_ret (Rb.run 4 (hR4.put _ _ _) rfl rfl) rfl ⟨⟨_, _, _, _, rfl, ?_, ⟨Nat.le_refl _, fun _ => rfl, .inl rfl⟩⟩, below_st3 (hb3.trans (hb4.mono (by have := HZ.out; omega))) (by omega) _ _ _⟩
  exact fs_far hF (fun p h => by cases h; have := HZ.out; show w3.heap.size ≠ _; omega) _ _ _
set_option maxHeartbeats 4000000 in
set_option maxRecDepth 100000 in
theorem doc7 (x4 x6 x7 x8 x9 x10 x11 x12 x13 x14 x15 x16 x17 : Value) (ky : ByteArray) (et : List UInt8) (i0 i1 i2 : Int) (hel : et.length ≤ 1048576) (w : World) :
    Calls Tryz.prog 32 #[.agg #[.int .i64 7, .int .i64 i0, .int .i64 i1, .int .i64 i2, x4, .string ky, x6, x7, x8, x9, x10, x11, x12, x13, x14, x15, x16, x17], .agg #[.int .i64 0, .string ⟨et.toArray⟩]] w fun e w' => CPost 200 [] (Xd.docEtag et) w' e ∧ Below w.heap.size w w' := by
  obtain ⟨w3, hw3, hb3, hz3, hQ3, hO3, hR3⟩ : ∃ w3 : World, w3 = (((w.alloc (.cells #[.int .i64 7, .int .i64 i0, .int .i64 i1, .int .i64 i2, x4, .string ky, x6, x7, x8, x9, x10, x11, x12, x13, x14, x15, x16, x17] 35)).alloc (.cells #[.int .i64 0, .string ⟨et.toArray⟩] 63)).alloc (.cells #[.int .i64 0, .slice none 0 0, .slice none 0 0] 56)) ∧ Below w.heap.size w w3 ∧ w3.heap.size = w.heap.size + 3 ∧ w3.heap[w.heap.size]? = some (.cells #[.int .i64 7, .int .i64 i0, .int .i64 i1, .int .i64 i2, x4, .string ky, x6, x7, x8, x9, x10, x11, x12, x13, x14, x15, x16, x17] 35 (0, 0)) ∧ w3.heap[w.heap.size + 1]? = some (.cells #[.int .i64 0, .string ⟨et.toArray⟩] 63 (0, 0)) ∧ Rb (w.heap.size + 1 + 1) w3 (.int .i64 0) (.slice none 0 0) (.slice none 0 0) := by
    refine ⟨_, rfl, (((Below.refl _ _).alloc (Nat.le_refl _) _).alloc (by simp) _).alloc (by simp; omega) _, by simp, (Below.heap_alloc _ _ _ (by simp; omega)).trans ((Below.heap_alloc _ _ _ (by simp)).trans (heap_alloc_new _ _)), (Below.heap_alloc _ _ _ (by simp)).trans (hp1 _ _), ?_⟩
    have := heap_alloc_new ((w.alloc (.cells #[.int .i64 7, .int .i64 i0, .int .i64 i1, .int .i64 i2, x4, .string ky, x6, x7, x8, x9, x10, x11, x12, x13, x14, x15, x16, x17] 35)).alloc (.cells #[.int .i64 0, .string ⟨et.toArray⟩] 63)) (.cells #[.int .i64 0, .slice none 0 0, .slice none 0 0] 56)
    rwa [World.size_alloc, World.size_alloc] at this
  have q0 : w3.cell? ⟨w.heap.size, 0, none⟩ = some (.int .i64 7) := by rw [Lib.cell_of_heap hQ3]; rfl
  have y0 : w3.cell? ⟨w.heap.size + 1, 0, none⟩ = some (.int .i64 0) := by rw [Lib.cell_of_heap hO3]; rfl
  have y1 : w3.cell? ⟨w.heap.size + 1, 1, none⟩ = some (.string ⟨et.toArray⟩) := by rw [Lib.cell_of_heap hO3]; rfl
  clear hQ3 hO3
  go_enter Tryz.func32, Tryz.ntmps32
  go_upto_region 1 with fail
  rw [← hw3]
  clear hw3
  have kc := fun w s => Lib.run_convert_string_bytes (P := Tryz.prog) w 9 23 5 s Tryz.underlying9 Tryz.underlying23 Tryz.underlying5
  have KE := Lib.hid (refEtag ⟨et.toArray⟩ w3 (by rw [Com.size_mk]; exact hel))
  go_wp2_with fail
  refine KE.out.mono ?_
  rintro e w4 ⟨rfl, hb4⟩
  obtain ⟨d, hd⟩ : ∃ d, d = Xd.docEtag (ByteArray.mk et.toArray).data.toList := ⟨_, rfl⟩
  have HD := Lib.hid hd
  rw [← hd]
  clear hd KE
  have hz4 := hb4.size
  have hxc := ShaJ.conv_bs w4 d
  have hxb := Lib.bytesWorld_below w4 5 ⟨d.toArray⟩
  have hR5 := (hR3.below hb4).below hxb
  obtain ⟨r0, r1, r2, f0, f1, f2⟩ := hR5.cells
  go_wp2_with fail
  refine bodyPost_ret (Rb.run 4 (hR5.put _ _ _) rfl rfl) rfl ⟨?_, below_st3 (hb3.trans ((hb4.trans (hxb.mono hz4)).mono (by omega))) (by omega) _ _ _⟩
  rw [show Xd.docEtag et = d from HD.out.symm]
  exact ⟨_, _, _, _, rfl, .inl rfl, bs_far hxc (by rintro p hp; cases hp; simp; omega) _ _ _⟩
end Go.Proofs.YtidflagmdabfaaaGreatDoor.RtW
namespace Go.Proofs.YtidflagmdabfaaaGreatDoor.XmlM
open Go.RowKit Go.Proofs.YtidflagmdabfaaaGreatDoor Go.Proofs.YtidflagmdabfaaaGreatDoor.XmlI

/-- four cells of one block -/
def H4 (g o0 o1 o2 o3 : Nat) (v0 v1 v2 v3 : Value) (w : World) : Prop :=
  w.cell? ⟨g, o0, none⟩ = some v0 ∧ w.cell? ⟨g, o1, none⟩ = some v1 ∧ w.cell? ⟨g, o2, none⟩ = some v2 ∧ w.cell? ⟨g, o3, none⟩ = some v3
theorem H4.below {g o0 o1 o2 o3 : Nat} {v0 v1 v2 v3 : Value} {w w' : World} (h : H4 g o0 o1 o2 o3 v0 v1 v2 v3 w) (hb : Below w.heap.size w w') : H4 g o0 o1 o2 o3 v0 v1 v2 v3 w' :=
  have hg := World.block_lt_of_cell? w _ h.1
  ⟨(hb.cell (p := ⟨g, o0, none⟩) hg).trans h.1, (hb.cell (p := ⟨g, o1, none⟩) hg).trans h.2.1, (hb.cell (p := ⟨g, o2, none⟩) hg).trans h.2.2.1, (hb.cell (p := ⟨g, o3, none⟩) hg).trans h.2.2.2⟩

section
variable (w0 : World) (g o0 o1 o2 o3 : Nat) (v0 v1 v2 v3 : Value) (w : World)
theorem textK (name s : ByteArray) (hn : name.size ≤ 4194304) (hs : s.size ≤ 4194304) (ht : Carry w0 w) (h0 : w.cell? ⟨g, o0, none⟩ = some v0) (h1 : w.cell? ⟨g, o1, none⟩ = some v1) (h2 : w.cell? ⟨g, o2, none⟩ = some v2) (h3 : w.cell? ⟨g, o3, none⟩ = some v3) :
    Calls Tryz.prog 107 #[.string name, .string s] w fun e w' => e = .returned (.string ⟨(Xp.tag name.data.toList (Xp.esc s.data.toList)).toArray⟩) ∧ (w'.cell? ⟨g, o0, none⟩ = some v0 ∧ w'.cell? ⟨g, o1, none⟩ = some v1 ∧ w'.cell? ⟨g, o2, none⟩ = some v2 ∧ w'.cell? ⟨g, o3, none⟩ = some v3) ∧ Carry w0 w' :=
  (XmlC.text name s w hn hs).mono fun _ _ ⟨he, hb⟩ => ⟨he, H4.below ⟨h0, h1, h2, h3⟩ hb, ht.below hb⟩
theorem numberK (name : ByteArray) (n : Int) (i0 : -9223372036854775808 ≤ n) (i1 : n ≤ 9223372036854775807) (hn : name.size ≤ 4194304) (ht : Carry w0 w) (h0 : w.cell? ⟨g, o0, none⟩ = some v0) (h1 : w.cell? ⟨g, o1, none⟩ = some v1) (h2 : w.cell? ⟨g, o2, none⟩ = some v2) (h3 : w.cell? ⟨g, o3, none⟩ = some v3) :
    Calls Tryz.prog 110 #[.string name, .int .i64 n] w fun e w' => e = .returned (.string ⟨(Xp.tag name.data.toList (Lib.itoa n)).toArray⟩) ∧ (w'.cell? ⟨g, o0, none⟩ = some v0 ∧ w'.cell? ⟨g, o1, none⟩ = some v1 ∧ w'.cell? ⟨g, o2, none⟩ = some v2 ∧ w'.cell? ⟨g, o3, none⟩ = some v3) ∧ Carry w0 w' :=
  (XmlH.number name n i0 i1 w hn ht.1).mono fun _ _ ⟨he, hb⟩ => ⟨he, H4.below ⟨h0, h1, h2, h3⟩ hb, ht.below hb⟩
theorem numK (name : ByteArray) (n : Int) (i0 : -9223372036854775808 ≤ n) (i1 : n ≤ 9223372036854775807) (hn : name.size ≤ 4194304) (ht : Carry w0 w) (h0 : w.cell? ⟨g, o0, none⟩ = some v0) (h1 : w.cell? ⟨g, o1, none⟩ = some v1) (h2 : w.cell? ⟨g, o2, none⟩ = some v2) (h3 : w.cell? ⟨g, o3, none⟩ = some v3) :
    Calls Tryz.prog 114 #[.string name, .int .i64 n] w fun e w' => e = .returned (.string ⟨(Xp.tag name.data.toList (Lib.itoa n)).toArray⟩) ∧ (w'.cell? ⟨g, o0, none⟩ = some v0 ∧ w'.cell? ⟨g, o1, none⟩ = some v1 ∧ w'.cell? ⟨g, o2, none⟩ = some v2 ∧ w'.cell? ⟨g, o3, none⟩ = some v3) ∧ Carry w0 w' :=
  (XmlK.num name n i0 i1 w hn).mono fun _ _ ⟨he, hb⟩ => ⟨he, H4.below ⟨h0, h1, h2, h3⟩ hb, ht.below hb⟩
theorem escK (s : ByteArray) (hs : s.size ≤ 4194304) (ht : Carry w0 w) (h0 : w.cell? ⟨g, o0, none⟩ = some v0) (h1 : w.cell? ⟨g, o1, none⟩ = some v1) (h2 : w.cell? ⟨g, o2, none⟩ = some v2) (h3 : w.cell? ⟨g, o3, none⟩ = some v3) :
    Calls Tryz.prog 112 #[.string s] w fun e w' => e = .returned (.string ⟨(Xp.esc s.data.toList).toArray⟩) ∧ (w'.cell? ⟨g, o0, none⟩ = some v0 ∧ w'.cell? ⟨g, o1, none⟩ = some v1 ∧ w'.cell? ⟨g, o2, none⟩ = some v2 ∧ w'.cell? ⟨g, o3, none⟩ = some v3) ∧ Carry w0 w' :=
  (XmlB.refEscape s w hs).mono fun _ _ ⟨he, hb⟩ => by subst hb; exact ⟨he, ⟨h0, h1, h2, h3⟩, ht⟩
theorem refTagK (name s : ByteArray) (hn : name.size ≤ 4194304) (hs : s.size ≤ 35184372088832) (ht : Carry w0 w) (h0 : w.cell? ⟨g, o0, none⟩ = some v0) (h1 : w.cell? ⟨g, o1, none⟩ = some v1) (h2 : w.cell? ⟨g, o2, none⟩ = some v2) (h3 : w.cell? ⟨g, o3, none⟩ = some v3) :
    Calls Tryz.prog 111 #[.string name, .string s] w fun e w' => e = .returned (.string ⟨(Xp.tag name.data.toList s.data.toList).toArray⟩) ∧ (w'.cell? ⟨g, o0, none⟩ = some v0 ∧ w'.cell? ⟨g, o1, none⟩ = some v1 ∧ w'.cell? ⟨g, o2, none⟩ = some v2 ∧ w'.cell? ⟨g, o3, none⟩ = some v3) ∧ Carry w0 w' :=
  (XmlB.refTagS name s w (by omega) hs).mono fun _ _ ⟨he, hb⟩ => by subst hb; exact ⟨he, ⟨h0, h1, h2, h3⟩, ht⟩
theorem strs_new3 (w : World) (x0 x1 x2 : ByteArray) (t : TypeId) : Com.Strs (w.alloc (.cells #[.string x0, .string x1, .string x2] t)) (some ⟨w.heap.size, 0, none⟩) [x0, x1, x2] := by
  refine .inr ⟨_, _, rfl, by simp, fun j y hy => ?_⟩
  match j, hy with
  | 0, hy => simp at hy; subst hy; simp
  | 1, hy => simp at hy; subst hy; simp
  | 2, hy => simp at hy; subst hy; simp
theorem tagK (name : ByteArray) (x0 x1 x2 : ByteArray) (t : TypeId) (hn : name.size ≤ 4194304) (hx : x0.size + x1.size + x2.size ≤ 35184372088832) (ht : Carry w0 w) (h0 : w.cell? ⟨g, o0, none⟩ = some v0) (h1 : w.cell? ⟨g, o1, none⟩ = some v1) (h2 : w.cell? ⟨g, o2, none⟩ = some v2) (h3 : w.cell? ⟨g, o3, none⟩ = some v3) :
    Calls Tryz.prog 109 #[.string name, .slice (some ⟨w.heap.size, 0, none⟩) 3 3] (w.alloc (.cells #[.string x0, .string x1, .string x2] t)) fun e w' => e = .returned (.string ⟨(Xp.tag name.data.toList (x0.data.toList ++ (x1.data.toList ++ x2.data.toList))).toArray⟩) ∧ (w'.cell? ⟨g, o0, none⟩ = some v0 ∧ w'.cell? ⟨g, o1, none⟩ = some v1 ∧ w'.cell? ⟨g, o2, none⟩ = some v2 ∧ w'.cell? ⟨g, o3, none⟩ = some v3) ∧ Carry w0 w' := by
  have hfl : Com.flat [x0, x1, x2] = x0.data.toList ++ (x1.data.toList ++ x2.data.toList) := by simp [Com.flat]
  have hfs : (Com.flat [x0, x1, x2]).length = x0.size + x1.size + x2.size := by rw [hfl]; simp only [List.length_append, Com.toList_length]; omega
  have R : Below w.heap.size w (w.alloc (.cells #[.string x0, .string x1, .string x2] t)) := (Below.refl _ _).alloc (Nat.le_refl _) _
  refine (XmlC.tag name _ 3 [x0, x1, x2] _ (by omega) (by omega) (by simp) (by simp) (strs_new3 w x0 x1 x2 t)).mono fun _ _ ⟨he, hb⟩ => ⟨by rw [he, hfl], H4.below ⟨h0, h1, h2, h3⟩ (R.trans (hb.mono R.size)), (ht.alloc _).below hb⟩
end

/-- buckets in memory -/
def Bks (w : World) (a : Option Addr) (bs : List Xd.Bk) : Prop :=
  bs = [] ∨ ∃ b o, a = some ⟨b, o, none⟩ ∧ b < w.heap.size ∧ ∀ j e, bs[j]? = some e →
    w.cell? ⟨b, o + j * 5, none⟩ = some (.string ⟨e.name.toArray⟩) ∧ w.cell? ⟨b, o + j * 5 + 1, none⟩ = some (.int .i64 e.time) ∧ w.cell? ⟨b, o + j * 5 + 2, none⟩ = some (.int .i64 e.days) ∧
    (∃ a3 l3 c3, w.cell? ⟨b, o + j * 5 + 3, none⟩ = some (.slice a3 l3 c3)) ∧ ∃ a4 l4 c4, w.cell? ⟨b, o + j * 5 + 4, none⟩ = some (.slice a4 l4 c4)
theorem Bks.below {w w' : World} {a : Option Addr} {bs : List Xd.Bk} (h : Bks w a bs) (hb : Below w.heap.size w w') : Bks w' a bs := by
  rcases h with h | ⟨b, o, h1, h2, h3⟩
  · exact .inl h
  · refine .inr ⟨b, o, h1, Nat.lt_of_lt_of_le h2 hb.size, fun j e he => ?_⟩
    obtain ⟨c0, c1, c2, ⟨a3, l3, d3, c3⟩, a4, l4, d4, c4⟩ := h3 j e he
    exact ⟨(hb.cell (p := ⟨b, _, none⟩) h2).trans c0, (hb.cell (p := ⟨b, _, none⟩) h2).trans c1, (hb.cell (p := ⟨b, _, none⟩) h2).trans c2, ⟨a3, l3, d3, (hb.cell (p := ⟨b, _, none⟩) h2).trans c3⟩, a4, l4, d4, (hb.cell (p := ⟨b, _, none⟩) h2).trans c4⟩

def parts (bs : List Xd.Bk) : List ByteArray := bs.map fun e => ⟨(Xd.bkDoc e).toArray⟩
theorem flat_parts (bs : List Xd.Bk) : Com.flat (parts bs) = (bs.map Xd.bkDoc).flatten := by
  simp only [parts, Com.flat, List.map_map]
  congr 1

end Go.Proofs.YtidflagmdabfaaaGreatDoor.XmlM
namespace Go.Proofs.YtidflagmdabfaaaGreatDoor.XmlN
open Go.RowKit Go.Proofs.YtidflagmdabfaaaGreatDoor Go.Proofs.YtidflagmdabfaaaGreatDoor.XmlI Go.Proofs.YtidflagmdabfaaaGreatDoor.XmlM

theorem three (a b c : List UInt8) : ((⟨a.toArray⟩ : ByteArray) ++ ⟨b.toArray⟩) ++ ⟨c.toArray⟩ = ⟨(a ++ (b ++ c)).toArray⟩ := by
  rw [Com.mk_append, Com.mk_append, List.append_assoc]

theorem bkv (nm : List UInt8) (tm dy : Int) : Xp.tag (ByteArray.mk #[66, 117, 99, 107, 101, 116]).data.toList ((((⟨(Xp.tag [78, 97, 109, 101] (Xp.esc nm)).toArray⟩ : ByteArray) ++ ⟨(Xp.tag [84, 105, 109, 101] (Lib.itoa tm)).toArray⟩) ++ ⟨(Xp.tag [68, 97, 121, 115] (Lib.itoa dy)).toArray⟩)).data.toList = Xd.bkDoc ⟨nm, tm, dy⟩ := by
  rw [three]
  rfl

end Go.Proofs.YtidflagmdabfaaaGreatDoor.XmlN
namespace Go.Proofs.YtidflagmdabfaaaGreatDoor.XmlO
open Go.RowKit Go.Proofs.YtidflagmdabfaaaGreatDoor Go.Proofs.YtidflagmdabfaaaGreatDoor.XmlI Go.Proofs.YtidflagmdabfaaaGreatDoor.XmlM

theorem four (a b c d : List UInt8) : (((⟨a.toArray⟩ : ByteArray) ++ ⟨b.toArray⟩) ++ ⟨c.toArray⟩) ++ ⟨d.toArray⟩ = ⟨(a ++ (b ++ (c ++ d))).toArray⟩ := by
  rw [Com.mk_append, Com.mk_append, Com.mk_append, List.append_assoc, List.append_assoc]
theorem entv (nm et : List UInt8) (sz tm : Int) : Xp.tag (ByteArray.mk #[75, 101, 121]).data.toList (((((⟨(Xp.tag [78, 97, 109, 101] (Xp.esc nm)).toArray⟩ : ByteArray) ++ ⟨(Xp.tag [83, 105, 122, 101] (Lib.itoa sz)).toArray⟩) ++ ⟨(Xp.tag [69, 116, 97, 103] (Xp.esc et)).toArray⟩) ++ ⟨(Xp.tag [84, 105, 109, 101] (Lib.itoa tm)).toArray⟩)).data.toList = Xp.entDoc Lib.itoa ⟨nm, false, sz, et, tm⟩ := by
  rw [four]
  rfl
theorem prev (nm et : List UInt8) (sz tm : Int) : Xp.tag (ByteArray.mk #[80, 114, 101, 102, 105, 120]).data.toList (⟨(Xp.tag (ByteArray.mk #[78, 97, 109, 101]).data.toList (Xp.esc nm)).toArray⟩ : ByteArray).data.toList = Xp.entDoc Lib.itoa ⟨nm, true, sz, et, tm⟩ := rfl

def body (bd : List UInt8) (es : List Xp.Ent) : List UInt8 := Xp.tag Xp.tBucket (Xp.esc bd) ++ (es.map (Xp.entDoc Lib.itoa)).flatten

end Go.Proofs.YtidflagmdabfaaaGreatDoor.XmlO
