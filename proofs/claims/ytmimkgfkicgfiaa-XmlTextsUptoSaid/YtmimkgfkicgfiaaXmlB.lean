/-
  The walks of the reference's Escape, tag, Tag.
-/
import Derived.Test.YtmimkgfkicgfiaaBld
import Derived.Test.YtmimkgfkicgfiaaShelf
import Derived.Test.YtmimkgfkicgfiaaXmlPlain
import Derived.Test.YtmimkgfkicgfiaaCom
import Derived.WalkKit
import Derived.WalkSpells
import Derived.WalkLawsBesides
import Derived.Outline
import Derived.Lib.Hide
namespace Go.Proofs.Ytmimkgfkicgfiaa.XmlB
open Go.RowKit Go.Proofs.Ytmimkgfkicgfiaa

set_option maxHeartbeats 1000000 in
theorem refEscape (s : ByteArray) (w : World) (hs : s.size ≤ 4194304) :
    Calls Try.prog 9 #[.string s] w fun e w' => e = .returned (.string ⟨(Xp.esc s.data.toList).toArray⟩) ∧ w = w' := by
  go_enter Try.func9, Try.ntmps9
  go_wp2
  go_loop [3, 4] (fun o i => ∃ k : Nat, k ≤ s.size ∧ i = .int .i64 k ∧ o = .string ⟨(Xp.esc (s.data.toList.take k)).toArray⟩) (fun _ i => s.size - (intOf i).toNat)
  case atStart => exact ⟨0, Nat.zero_le _, rfl, rfl⟩
  case round =>
    obtain ⟨k, hk, rfl, rfl⟩ := hrel
    by_cases hlt : k < s.size
    · have hts := Com.take_succ s k hlt
      have HN := Lib.hid (show Xp.esc (s.data.toList.take (k + 1)) = Xp.esc (s.data.toList.take k) ++ Xp.escB s[k] by rw [hts, Xp.esc_snoc])
      have hl : (Xp.esc (s.data.toList.take k)).length ≤ 6 * s.size := by
        have h1 := Xp.esc_len (s.data.toList.take k)
        have h2 : (s.data.toList.take k).length ≤ k := List.length_take_le _ _
        omega
      clear hts
      rcases Xp.ent_cases s[k] with ⟨h, e⟩ | ⟨h, e⟩ | ⟨h, e⟩ | ⟨h, e⟩ | ⟨h, e⟩ | ⟨h1, h2, h3, h4, h5, e⟩
      iterate 5
        · have HE := Lib.hid (show Xp.escB s[k] = _ from (Xp.escB_ent (by rw [e]; simp)).trans e)
          clear e
          go_wp2
          go_round
          case rel => exact ⟨k + 1, by omega, by go_num, Com.cat (by rw [HN.out, HE.out])⟩
          case measure => simp [intOf]; omega
      · have HE := Lib.hid (Xp.escB_plain e)
        clear e
        have g1 : ((s[k].toNat : Int) == 38) = false := Com.u8_ne h1 rfl
        have g2 : ((s[k].toNat : Int) == 60) = false := Com.u8_ne h2 rfl
        have g3 : ((s[k].toNat : Int) == 62) = false := Com.u8_ne h3 rfl
        have g4 : ((s[k].toNat : Int) == 34) = false := Com.u8_ne h4 rfl
        have g5 : ((s[k].toNat : Int) == 39) = false := Com.u8_ne h5 rfl
        clear h1 h2 h3 h4 h5
        go_wp2
        go_round
        case rel => exact ⟨k + 1, by omega, by go_num, by rw [Com.extract_one s k hlt]; exact Com.cat (by rw [HN.out, HE.out])⟩
        case measure => simp [intOf]; omega
    · have HK := Lib.hid (show k = s.size by omega)
      go_wp2
      go_ret
      exact ⟨Com.str_eq rfl (by rw [Com.take_all s k HK.out]), rfl⟩

theorem tagv (name s : ByteArray) : (((((⟨#[60]⟩ ++ name) ++ ⟨#[62]⟩) ++ s) ++ ⟨#[60, 47]⟩) ++ name) ++ ⟨#[62]⟩ = (⟨(Xp.tag name.data.toList s.data.toList).toArray⟩ : ByteArray) := by
  cases name; cases s
  rename_i a b
  obtain ⟨a⟩ := a
  obtain ⟨b⟩ := b
  show _ = (⟨(Xp.tag a b).toArray⟩ : ByteArray)
  unfold Xp.tag
  simp only [← Com.mk_append]

set_option maxHeartbeats 1000000 in
theorem refTagS (name s : ByteArray) (w : World) (hs : name.size ≤ 140737488355328) (hs : s.size ≤ 1099511627776) :
    Calls Try.prog 20 #[.string name, .string s] w fun e w' => e = .returned (.string ⟨(Xp.tag name.data.toList s.data.toList).toArray⟩) ∧ w = w' := by
  go_enter Try.func20, Try.ntmps20
  go_wp2
  go_ret
  exact ⟨congrArg (fun x => Ending.returned (.string x)) (tagv name s), rfl⟩

theorem tagv_size (name s : List UInt8) : (Xp.tag name s).length = 2 * name.length + s.length + 5 := by simp [Xp.tag]; omega

set_option maxHeartbeats 1000000 in
theorem refTag (name : ByteArray) (a : Option Addr) (c : Nat) (xs : List ByteArray) (w : World) (hn : name.size ≤ 140737488355328) (hx : (Com.flat xs).length ≤ 1099511627776) (hm : xs.length ≤ 1099511627776) (hs : Com.Strs w a xs) :
    Calls Try.prog 11 #[.string name, .slice a xs.length c] w fun e w' => e = .returned (.string ⟨(Xp.tag name.data.toList (Com.flat xs)).toArray⟩) ∧ w = w' := by
  go_enter Try.func11, Try.ntmps11
  go_wp2
  go_loop [5, 10] (fun o i => ∃ k : Nat, k ≤ xs.length ∧ i = .int .i64 k ∧ o = .string ⟨(Com.flat (xs.take k)).toArray⟩) (fun _ i => xs.length - (intOf i).toNat)
  case atStart => exact ⟨0, Nat.zero_le _, rfl, rfl⟩
  case round =>
    obtain ⟨k, hk, rfl, rfl⟩ := hrel
    have hfl := Com.flat_take_le xs k
    by_cases hlt : k < xs.length
    · rcases hs with hs | ⟨b, o, rfl, hb, hcell⟩
      · subst hs; simp at hlt
      obtain ⟨x, hxk⟩ : ∃ x, xs[k]? = some x := ⟨xs[k], List.getElem?_eq_getElem hlt⟩
      have hc := hcell k x hxk
      have HN := Lib.hid (show Com.flat (xs.take (k + 1)) = Com.flat (xs.take k) ++ x.data.toList by rw [List.take_add_one, hxk]; exact Com.flat_snoc _ _)
      have hsz : (Com.flat (xs.take k)).length + x.size ≤ 1099511627776 := by
        have h1 := Com.flat_take_le xs (k + 1)
        rw [HN.out, List.length_append, Com.toList_length] at h1
        omega
      clear hcell hxk
      go_wp2
      go_round
      case rel => exact ⟨k + 1, by omega, by go_num, by rw [← Com.mk_data x]; exact Com.cat HN.out⟩
      case measure => simp [intOf]; omega
    · have HK := Lib.hid (show k = xs.length by omega)
      go_wp2_with (go_at_call 20; refine (refTagS _ _ _ hn (by rw [Com.size_mk]; omega)).mono ?_; rintro e w' ⟨rfl, rfl⟩)
      go_ret
      exact ⟨Com.str_eq rfl (by rw [HK.out, List.take_length]), rfl⟩
end Go.Proofs.Ytmimkgfkicgfiaa.XmlB
