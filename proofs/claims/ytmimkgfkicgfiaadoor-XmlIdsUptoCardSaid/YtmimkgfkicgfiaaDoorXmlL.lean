/-
  The walks of package xml's Etag and Id, and of the references' Etag, Error and Id.
-/
import Derived.Test.YtmimkgfkicgfiaaDoorXmlK
import Derived.Test.YtmimkgfkicgfiaaDoorXmlI
namespace Go.Proofs.YtmimkgfkicgfiaaDoor.XmlL
open Go.RowKit Go.Proofs.YtmimkgfkicgfiaaDoor Go.Proofs.YtmimkgfkicgfiaaDoor.XmlI

set_option maxHeartbeats 1000000 in
theorem etag (s : ByteArray) (w : World) (hs : s.size ≤ 1048576) :
    Calls Tryd.prog 29 #[.string s] w fun e w' => e = .returned (.string ⟨(Xd.docEtag s.data.toList).toArray⟩) ∧ Below w.heap.size w w' := by
  have hl := Xp.esc_len s.data.toList
  rw [Com.toList_length] at hl
  have hl2 := Xp.tag_len [69, 116, 97, 103] (Xp.esc s.data.toList)
  simp only [List.length_cons, List.length_nil] at hl2
  go_enter Tryd.func29, Tryd.ntmps29
  go_wp2_with (go_at_call 67; refine (XmlC.text _ s _ (by simp [Com.size_mk]) (by omega)).mono ?_; rintro e w1 ⟨rfl, hb1⟩)
  go_ret
  exact ⟨congrArg Ending.returned (Com.cat (a := Xp.top) rfl), hb1⟩

set_option maxHeartbeats 1000000 in
theorem refEtag (s : ByteArray) (w : World) (hs : s.size ≤ 1048576) :
    Calls Tryd.prog 30 #[.string s] w fun e w' => e = .returned (.string ⟨(Xd.docEtag s.data.toList).toArray⟩) ∧ w = w' := by
  have hl := Xp.esc_len s.data.toList
  rw [Com.toList_length] at hl
  have hl2 := Xp.tag_len [69, 116, 97, 103] (Xp.esc s.data.toList)
  simp only [List.length_cons, List.length_nil] at hl2
  go_enter Tryd.func30, Tryd.ntmps30
  go_wp2_with (first
    | (go_at_call 23; refine (XmlB.refEscape s _ (by omega)).mono ?_; rintro e w' ⟨rfl, rfl⟩)
    | (go_at_call 70; refine (XmlB.refTagS _ _ _ (by simp [Com.size_mk]) (by rw [Com.size_mk]; omega)).mono ?_; rintro e w' ⟨rfl, rfl⟩; rw [show (ByteArray.mk #[69, 116, 97, 103]).data.toList = [69, 116, 97, 103] from rfl]))
  go_ret
  exact ⟨congrArg Ending.returned (Com.cat (a := Xp.top) rfl), rfl⟩

set_option maxHeartbeats 1000000 in
theorem refError (s : ByteArray) (w : World) (hs : s.size ≤ 1048576) :
    Calls Tryd.prog 32 #[.string s] w fun e w' => e = .returned (.string ⟨(Xp.docError s.data.toList).toArray⟩) ∧ w = w' := by
  have hl := Xp.esc_len s.data.toList
  rw [Com.toList_length] at hl
  have hl2 := Xp.tag_len [67, 111, 100, 101] (Xp.esc s.data.toList)
  simp only [List.length_cons, List.length_nil] at hl2
  have hl4 := Xp.tag_len [69, 114, 114, 111, 114] (Xp.tag [67, 111, 100, 101] (Xp.esc s.data.toList))
  simp only [List.length_cons, List.length_nil] at hl4
  go_enter Tryd.func32, Tryd.ntmps32
  go_wp2_with fail
  refine (XmlB.refEscape s _ (by omega)).mono ?_
  rintro e w' ⟨rfl, rfl⟩
  go_wp2_with fail
  refine (XmlB.refTagS _ _ _ (by simp [Com.size_mk]) (by rw [Com.size_mk]; omega)).mono ?_
  rintro e w' ⟨rfl, rfl⟩
  rw [show (ByteArray.mk #[67, 111, 100, 101]).data.toList = [67, 111, 100, 101] from rfl]
  go_wp2_with fail
  refine (XmlB.refTagS _ _ _ (by simp [Com.size_mk]) (by rw [Com.size_mk]; omega)).mono ?_
  rintro e w' ⟨rfl, rfl⟩
  rw [show (ByteArray.mk #[69, 114, 114, 111, 114]).data.toList = [69, 114, 114, 111, 114] from rfl]
  go_wp2
  go_ret
  exact ⟨congrArg Ending.returned (Com.cat (a := Xp.top) rfl), rfl⟩

theorem itoaK (n : Int) (w0 : World) (g : Nat) (v0 v1 v2 : Value) (w : World) (i0 : -9223372036854775808 ≤ n) (i1 : n ≤ 9223372036854775807) (ht : Carry w0 w) (h0 : w.cell? ⟨g, 0, none⟩ = some v0) (h1 : w.cell? ⟨g, 1, none⟩ = some v1) (h2 : w.cell? ⟨g, 2, none⟩ = some v2) :
    Calls Tryd.prog 97 #[.int .i64 n] w fun e w' => e = .returned (.string ⟨(Lib.itoa n).toArray⟩) ∧ (w'.cell? ⟨g, 0, none⟩ = some v0 ∧ w'.cell? ⟨g, 1, none⟩ = some v1 ∧ w'.cell? ⟨g, 2, none⟩ = some v2) ∧ Carry w0 w' := by
  refine (Tryd.strconv_Itoa n i0 i1 _ ht.1).mono ?_
  rintro e w1 ⟨rfl, k, os, rfl⟩
  have hb1 := Lib.below_grow w.heap.size w (Nat.le_refl _) k os
  have hg := World.block_lt_of_cell? w _ h0
  exact ⟨rfl, ⟨(hb1.cell (p := ⟨g, 0, none⟩) hg).trans h0, (hb1.cell (p := ⟨g, 1, none⟩) hg).trans h1, (hb1.cell (p := ⟨g, 2, none⟩) hg).trans h2⟩, ht.below hb1⟩
theorem signedK (n : Int) (w0 : World) (g : Nat) (v0 v1 v2 : Value) (w : World) (i0 : -9223372036854775808 ≤ n) (i1 : n ≤ 9223372036854775807) (ht : Carry w0 w) (h0 : w.cell? ⟨g, 0, none⟩ = some v0) (h1 : w.cell? ⟨g, 1, none⟩ = some v1) (h2 : w.cell? ⟨g, 2, none⟩ = some v2) :
    Calls Tryd.prog 101 #[.int .i64 n] w fun e w' => e = .returned (.string ⟨(Lib.itoa n).toArray⟩) ∧ (w'.cell? ⟨g, 0, none⟩ = some v0 ∧ w'.cell? ⟨g, 1, none⟩ = some v1 ∧ w'.cell? ⟨g, 2, none⟩ = some v2) ∧ Carry w0 w' := by
  refine (XmlK.signed n i0 i1 w).mono ?_
  rintro e w1 ⟨rfl, hb1⟩
  have hg := World.block_lt_of_cell? w _ h0
  exact ⟨rfl, ⟨(hb1.cell (p := ⟨g, 0, none⟩) hg).trans h0, (hb1.cell (p := ⟨g, 1, none⟩) hg).trans h1, (hb1.cell (p := ⟨g, 2, none⟩) hg).trans h2⟩, ht.below hb1⟩

theorem idv (a b c : Int) : (((((⟨(Lib.itoa a).toArray⟩ : ByteArray) ++ ⟨#[45]⟩) ++ ⟨(Lib.itoa b).toArray⟩) ++ ⟨#[45]⟩) ++ ⟨(Lib.itoa c).toArray⟩) = ⟨(Xd.idText a b c).toArray⟩ := by
  unfold Xd.idText
  simp only [← Com.mk_append, ByteArray.append_assoc]

set_option maxHeartbeats 2000000 in
theorem id (a b c : Int) (w : World) (ha : Xd.I64 a) (hb : Xd.I64 b) (hc : Xd.I64 c) (ht : XmlH.Tab w) :
    Calls Tryd.prog 53 #[.agg #[.int .i64 a, .int .i64 b, .int .i64 c]] w fun e w' => e = .returned (.string ⟨(Xd.idText a b c).toArray⟩) ∧ Below w.heap.size w w' := by
  have la := ha.len
  have lb := hb.len
  have lc := hc.len
  obtain ⟨a0, a1⟩ := ha
  obtain ⟨b0, b1⟩ := hb
  obtain ⟨c0, c1⟩ := hc
  have HT : Carry w (w.alloc (.cells #[.int .i64 a, .int .i64 b, .int .i64 c] 51)) := Carry.alloc ⟨ht, Below.refl _ _⟩ _
  have s1 : ¬ 9223372036854775807 < (Lib.itoa a).length + 1 := by omega
  have s2 : ¬ 9223372036854775807 < (Lib.itoa a).length + 1 + (Lib.itoa b).length := by omega
  have s3 : ¬ 9223372036854775807 < (Lib.itoa a).length + 1 + (Lib.itoa b).length + 1 := by omega
  have s4 : ¬ 9223372036854775807 < (Lib.itoa a).length + 1 + (Lib.itoa b).length + 1 + (Lib.itoa c).length := by omega
  clear ht
  go_enter Tryd.func53, Tryd.ntmps53
  go_wp2_with fail
  go_region_held3 (fun w' => w'.cell? ⟨w.heap.size, 0, none⟩ = some (.int .i64 a) ∧ w'.cell? ⟨w.heap.size, 1, none⟩ = some (.int .i64 b) ∧ w'.cell? ⟨w.heap.size, 2, none⟩ = some (.int .i64 c))
    (first | go_keep)
    (first
      | (go_at_call 97; refine (itoaK _ w w.heap.size (.int .i64 a) (.int .i64 b) (.int .i64 c) _ ?_ ?_ ?_ ?_ ?_ ?_).mono ?_; omega; omega; (first | assumption | exact HT | exact HT.drew); (simp [*]); (simp [*]); (simp [*]); rintro e w' ⟨rfl, k0, t0⟩))
  go_wp2
  go_ret
  exact ⟨congrArg (fun x => Ending.returned (.string x)) (idv a b c), t0.2⟩

set_option maxHeartbeats 2000000 in
theorem refId (a b c : Int) (w : World) (ha : Xd.I64 a) (hb : Xd.I64 b) (hc : Xd.I64 c) (ht : XmlH.Tab w) :
    Calls Tryd.prog 55 #[.agg #[.int .i64 a, .int .i64 b, .int .i64 c]] w fun e w' => e = .returned (.string ⟨(Xd.idText a b c).toArray⟩) ∧ Below w.heap.size w w' := by
  have la := ha.len
  have lb := hb.len
  have lc := hc.len
  obtain ⟨a0, a1⟩ := ha
  obtain ⟨b0, b1⟩ := hb
  obtain ⟨c0, c1⟩ := hc
  have HT : Carry w (w.alloc (.cells #[.int .i64 a, .int .i64 b, .int .i64 c] 51)) := Carry.alloc ⟨ht, Below.refl _ _⟩ _
  have s1 : ¬ 9223372036854775807 < (Lib.itoa a).length + 1 := by omega
  have s2 : ¬ 9223372036854775807 < (Lib.itoa a).length + 1 + (Lib.itoa b).length := by omega
  have s3 : ¬ 9223372036854775807 < (Lib.itoa a).length + 1 + (Lib.itoa b).length + 1 := by omega
  have s4 : ¬ 9223372036854775807 < (Lib.itoa a).length + 1 + (Lib.itoa b).length + 1 + (Lib.itoa c).length := by omega
  clear ht
  go_enter Tryd.func55, Tryd.ntmps55
  go_wp2_with fail
  go_region_held3 (fun w' => w'.cell? ⟨w.heap.size, 0, none⟩ = some (.int .i64 a) ∧ w'.cell? ⟨w.heap.size, 1, none⟩ = some (.int .i64 b) ∧ w'.cell? ⟨w.heap.size, 2, none⟩ = some (.int .i64 c))
    (first | go_keep)
    (first
      | (go_at_call 101; refine (signedK _ w w.heap.size (.int .i64 a) (.int .i64 b) (.int .i64 c) _ ?_ ?_ ?_ ?_ ?_ ?_).mono ?_; omega; omega; (first | assumption | exact HT | exact HT.drew); (simp [*]); (simp [*]); (simp [*]); rintro e w' ⟨rfl, k0, t0⟩))
  go_wp2
  go_ret
  exact ⟨congrArg (fun x => Ending.returned (.string x)) (idv a b c), t0.2⟩
end Go.Proofs.YtmimkgfkicgfiaaDoor.XmlL
