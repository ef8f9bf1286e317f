/-
  The walks of package xml's Tag, Text, Error and of the law's alive.
-/
import Derived.Test.YtmimkgfkicgfiaaDoorXmlA
import Derived.Test.YtmimkgfkicgfiaaDoorXmlB
import Derived.WalkKit
import Derived.WalkSpells
import Derived.WalkLawsBesides
import Derived.Outline
import Derived.Lib.Hide
namespace Go.Proofs.YtmimkgfkicgfiaaDoor.XmlC
open Go.RowKit Go.Proofs.YtmimkgfkicgfiaaDoor

set_option maxHeartbeats 1000000 in
theorem tag (name : ByteArray) (a : Option Addr) (c : Nat) (xs : List ByteArray) (w : World) (hn : name.size ≤ 140737488355328) (hx : (Com.flat xs).length ≤ 35184372088832) (hm : xs.length ≤ 35184372088832) (hc : xs.length ≤ c) (hs : Com.Strs w a xs) :
    Calls Tryd.prog 68 #[.string name, .slice a xs.length c] w fun e w' => e = .returned (.string ⟨(Xp.tag name.data.toList (Com.flat xs)).toArray⟩) ∧ Below w.heap.size w w' := by
  have join : Calls Tryd.prog 96 #[.slice a xs.length c, .string ⟨#[]⟩] w fun e w' => e = .returned (.string ⟨(Com.flat xs).toArray⟩) ∧ Below w.heap.size w w' := by
    rcases hs with rfl | ⟨b, o, rfl, hb, hcell⟩
    · refine (Tryd.strings_Join_none a c _ w).mono ?_
      rintro e w' ⟨rfl, rfl⟩
      exact ⟨rfl, Below.refl _ _⟩
    · have he : Lib.join (xs.map (·.data.toList)) (ByteArray.mk #[]).data.toList = Com.flat xs := Com.intercalate_nil _
      refine (Tryd.strings_Join b o c xs _ w hcell hb (by omega) hc (by rw [he]; omega)).mono ?_
      rintro e w' ⟨rfl, hb⟩
      exact ⟨by rw [he], hb⟩
  have J := Lib.hid join; clear join
  go_enter Tryd.func68, Tryd.ntmps68
  go_wp2_with (go_at_call 96; refine J.out.mono ?_; rintro e w' ⟨rfl, hb⟩)
  go_ret
  exact ⟨congrArg (fun x => Ending.returned (.string x)) (XmlB.tagv name ⟨(Com.flat xs).toArray⟩), hb⟩

theorem strs_new (w : World) (x : ByteArray) (t : TypeId) : Com.Strs (w.alloc (.cells #[.string x] t)) (some ⟨w.heap.size, 0, none⟩) [x] := by
  refine .inr ⟨_, _, rfl, by simp, fun j y hy => ?_⟩
  match j, hy with
  | 0, hy => simp at hy; subst hy; simp

set_option maxHeartbeats 1000000 in
theorem text (name s : ByteArray) (w : World) (hn : name.size ≤ 4194304) (hs : s.size ≤ 4194304) :
    Calls Tryd.prog 67 #[.string name, .string s] w fun e w' => e = .returned (.string ⟨(Xp.tag name.data.toList (Xp.esc s.data.toList)).toArray⟩) ∧ Below w.heap.size w w' := by
  have hl := Xp.esc_len s.data.toList
  rw [Com.toList_length] at hl
  go_enter Tryd.func67, Tryd.ntmps67
  go_wp2_with (go_at_call 109; refine (XmlA.escape s _ hs).mono ?_; rintro e w1 ⟨rfl, hb1⟩)
  refine (tag name _ 1 [⟨(Xp.esc s.data.toList).toArray⟩] _ (by omega) (by rw [Com.flat_one]; simp; omega) (by simp) (by simp) (strs_new _ _ _)).mono ?_
  rintro e w2 ⟨rfl, hb2⟩
  go_wp2
  go_ret
  exact ⟨Com.str_eq rfl (by rw [Com.flat_one]), hb1.trans (((Below.refl _ _).alloc hb1.size _).trans (hb2.mono (by have := hb1.size; simp; omega)))⟩

set_option maxHeartbeats 1000000 in
theorem error (s : ByteArray) (w : World) (hs : s.size ≤ 4194304) :
    Calls Tryd.prog 31 #[.string s] w fun e w' => e = .returned (.string ⟨(Xp.docError s.data.toList).toArray⟩) ∧ Below w.heap.size w w' := by
  have hl := Xp.esc_len s.data.toList
  rw [Com.toList_length] at hl
  have hl2 := Xp.tag_len [67, 111, 100, 101] (Xp.esc s.data.toList)
  simp only [List.length_cons, List.length_nil] at hl2
  have hl3 : (Xp.tag [67, 111, 100, 101] (Xp.esc s.data.toList)).length ≤ 35184372088832 := by omega
  have hl4 := Xp.tag_len [69, 114, 114, 111, 114] (Xp.tag [67, 111, 100, 101] (Xp.esc s.data.toList))
  simp only [List.length_cons, List.length_nil] at hl4
  have hl5 : (Xp.tag [69, 114, 114, 111, 114] (Xp.tag [67, 111, 100, 101] (Xp.esc s.data.toList))).length ≤ 35184372088832 := by omega
  clear hl2 hl4
  go_enter Tryd.func31, Tryd.ntmps31
  go_wp2_with (go_at_call 67; refine (text _ s _ (by simp [Com.size_mk]) hs).mono ?_; rintro e w1 ⟨rfl, hb1⟩)
  refine (tag _ _ 1 [⟨(Xp.tag [67, 111, 100, 101] (Xp.esc s.data.toList)).toArray⟩] _ (by simp [Com.size_mk]) (by rw [Com.flat_one]; simp; omega) (by simp) (by simp) (strs_new _ _ _)).mono ?_
  rintro e w2 ⟨rfl, hb2⟩
  rw [Com.flat_one]
  go_wp2
  go_ret
  refine ⟨congrArg Ending.returned (Com.cat (a := Xp.top) (by rfl)), hb1.trans (((Below.refl _ _).alloc hb1.size _).trans (hb2.mono (by have := hb1.size; simp; omega)))⟩

set_option maxHeartbeats 1000000 in
theorem alive (w : World) : Calls Tryd.prog 21 #[] w fun e w' => e = .returned (.bool true) ∧ Below w.heap.size w w' := by
  go_enter Tryd.func21, Tryd.ntmps21
  go_wp2_with fail
  refine (error _ _ (by simp [Com.size_mk])).mono ?_
  rintro e w1 ⟨rfl, hb1⟩
  rw [show Xp.docError (ByteArray.mk #[97, 60, 98]).data.toList = _ from Xp.docError_alive]
  go_wp2
  go_ret
  exact ⟨rfl, hb1⟩
end Go.Proofs.YtmimkgfkicgfiaaDoor.XmlC
