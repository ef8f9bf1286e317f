/-
  The walks of the reference's Escape and tag.
-/
import Derived.Test.YtmimkgfkicgfiaaDoorBld
import Derived.Test.YtmimkgfkicgfiaaDoorShelf
import Derived.Test.YtmimkgfkicgfiaaDoorXmlPlain
import Derived.Test.YtmimkgfkicgfiaaDoorCom
import Derived.WalkKit
import Derived.WalkSpells
import Derived.WalkLawsBesides
import Derived.Outline
import Derived.Lib.Hide
namespace Go.Proofs.YtmimkgfkicgfiaaDoor.XmlB
open Go.RowKit Go.Proofs.YtmimkgfkicgfiaaDoor

set_option maxHeartbeats 1000000 in
theorem refEscape (s : ByteArray) (w : World) (hs : s.size ≤ 4194304) :
    Calls Tryd.prog 23 #[.string s] w fun e w' => e = .returned (.string ⟨(Xp.esc s.data.toList).toArray⟩) ∧ w = w' := by
  go_enter Tryd.func23, Tryd.ntmps23
  go_wp2
  go_loop [3, 4] (fun o i => ∃ k : Nat, k ≤ s.size ∧ i = .int .i64 k ∧ o = .string ⟨(Xp.esc (s.data.toList.take k)).toArray⟩) (fun _ i => s.size - (intOf i).toNat)
  case atStart => exact ⟨0, Nat.zero_le _, rfl, rfl⟩
  case round =>
    obtain ⟨k, hk, rfl, rfl⟩ := hrel
    by_cases hlt : k < s.size
    · have hts := Com.take_succ s k hlt
      have HN := Lib.hid (show Xp.esc (s.data.toList.take (k + 1)) = Xp.esc (s.data.toList.take k) ++ Xp.escB s[k] by rw [hts, Xp.esc_snoc])
      have hl : (Xp.esc (s.data.toList.take k)).length ≤ 6 * s.size := by
        have h1 := Xp.esc_len (s.data.toList.take k)
        have h2 : (s.data.toList.take k).length ≤ k := List.length_take_le _ _
        omega
      clear hts
      rcases Xp.ent_cases s[k] with ⟨h, e⟩ | ⟨h, e⟩ | ⟨h, e⟩ | ⟨h, e⟩ | ⟨h, e⟩ | ⟨h1, h2, h3, h4, h5, e⟩
      iterate 5
        · have HE := Lib.hid (show Xp.escB s[k] = _ from (Xp.escB_ent (by rw [e]; simp)).trans e)
          clear e
          go_wp2
          go_round
          case rel => exact ⟨k + 1, by omega, by go_num, Com.cat (by rw [HN.out, HE.out])⟩
          case measure => simp [intOf]; omega
      · have HE := Lib.hid (Xp.escB_plain e)
        clear e
        have g1 : ((s[k].toNat : Int) == 38) = false := Com.u8_ne h1 rfl
        have g2 : ((s[k].toNat : Int) == 60) = false := Com.u8_ne h2 rfl
        have g3 : ((s[k].toNat : Int) == 62) = false := Com.u8_ne h3 rfl
        have g4 : ((s[k].toNat : Int) == 34) = false := Com.u8_ne h4 rfl
        have g5 : ((s[k].toNat : Int) == 39) = false := Com.u8_ne h5 rfl
        clear h1 h2 h3 h4 h5
        go_wp2
        go_round
        case rel => exact ⟨k + 1, by omega, by go_num, by rw [Com.extract_one s k hlt]; exact Com.cat (by rw [HN.out, HE.out])⟩
        case measure => simp [intOf]; omega
    · have HK := Lib.hid (show k = s.size by omega)
      go_wp2
      go_ret
      exact ⟨Com.str_eq rfl (by rw [Com.take_all s k HK.out]), rfl⟩

theorem tagv (name s : ByteArray) : (((((⟨#[60]⟩ ++ name) ++ ⟨#[62]⟩) ++ s) ++ ⟨#[60, 47]⟩) ++ name) ++ ⟨#[62]⟩ = (⟨(Xp.tag name.data.toList s.data.toList).toArray⟩ : ByteArray) := by
  cases name; cases s
  rename_i a b
  obtain ⟨a⟩ := a
  obtain ⟨b⟩ := b
  show _ = (⟨(Xp.tag a b).toArray⟩ : ByteArray)
  unfold Xp.tag
  simp only [← Com.mk_append]

set_option maxHeartbeats 1000000 in
theorem refTagS (name s : ByteArray) (w : World) (hs : name.size ≤ 140737488355328) (hs : s.size ≤ 35184372088832) :
    Calls Tryd.prog 70 #[.string name, .string s] w fun e w' => e = .returned (.string ⟨(Xp.tag name.data.toList s.data.toList).toArray⟩) ∧ w = w' := by
  go_enter Tryd.func70, Tryd.ntmps70
  go_wp2
  go_ret
  exact ⟨congrArg (fun x => Ending.returned (.string x)) (tagv name s), rfl⟩

theorem tagv_size (name s : List UInt8) : (Xp.tag name s).length = 2 * name.length + s.length + 5 := by simp [Xp.tag]; omega

end Go.Proofs.YtmimkgfkicgfiaaDoor.XmlB
