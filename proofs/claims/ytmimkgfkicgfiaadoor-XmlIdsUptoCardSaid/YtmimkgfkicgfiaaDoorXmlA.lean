/-
  The walks of package xml's entity, Escape, and of the reference's Escape.
-/
import Derived.Test.YtmimkgfkicgfiaaDoorBld
import Derived.Test.YtmimkgfkicgfiaaDoorShelf
import Derived.Test.YtmimkgfkicgfiaaDoorXmlPlain
import Derived.Test.YtmimkgfkicgfiaaDoorCom
import Derived.WalkKit
import Derived.Outline
import Derived.Lib.Hide
namespace Go.Proofs.YtmimkgfkicgfiaaDoor.XmlA
open Go.RowKit Go.Proofs.YtmimkgfkicgfiaaDoor

set_option maxHeartbeats 400000 in
theorem entity (c : UInt8) (w : World) : Calls Tryd.prog 136 #[.int .u8 c.toNat] w fun e w' => e = .returned (.string ⟨(Xp.ent c).toArray⟩) ∧ w = w' := by
  rcases Xp.ent_cases c with ⟨rfl, e⟩ | ⟨rfl, e⟩ | ⟨rfl, e⟩ | ⟨rfl, e⟩ | ⟨rfl, e⟩ | ⟨h1, h2, h3, h4, h5, e⟩
  all_goals (have E := Lib.hid e; clear e)
  iterate 5
    · go_enter Tryd.func136, Tryd.ntmps136
      go_wp2
      go_ret
      exact ⟨by rw [E.out]; rfl, rfl⟩
  · have g1 : ((c.toNat : Int) == 38) = false := Com.u8_ne h1 rfl
    have g2 : ((c.toNat : Int) == 60) = false := Com.u8_ne h2 rfl
    have g3 : ((c.toNat : Int) == 62) = false := Com.u8_ne h3 rfl
    have g4 : ((c.toNat : Int) == 34) = false := Com.u8_ne h4 rfl
    have g5 : ((c.toNat : Int) == 39) = false := Com.u8_ne h5 rfl
    clear h1 h2 h3 h4 h5
    go_enter Tryd.func136, Tryd.ntmps136
    go_wp2
    go_ret
    exact ⟨by rw [E.out]; rfl, rfl⟩

set_option maxHeartbeats 1000000 in
theorem escape (s : ByteArray) (w : World) (hs : s.size ≤ 4194304) :
    Calls Tryd.prog 109 #[.string s] w fun e w' => e = .returned (.string ⟨(Xp.esc s.data.toList).toArray⟩) ∧ Below w.heap.size w w' := by
  go_enter Tryd.func109, Tryd.ntmps109
  go_wp2
  go_loopw [5, 4, 8] (fun _ _ i wr => ∃ k : Nat, k ≤ s.size ∧ i = .int .i64 k ∧ Lib.IsBuilder 109 5 w.heap.size w.heap.size (Lib.byteCells (Xp.esc (s.data.toList.take k))) wr ∧ Below w.heap.size w wr) (fun _ _ i _ => s.size - (intOf i).toNat)
  case atStart => exact ⟨0, Nat.zero_le _, rfl, Lib.fresh_isBuilder _ _ _, (Below.refl _ w).alloc (Nat.le_refl _) _⟩
  case round =>
    obtain ⟨k, hk, rfl, hI, hb⟩ := hrel
    have hsz := hb.size
    by_cases hlt : k < s.size
    · have hts := Com.take_succ s k hlt
      have HN := Lib.hid (show Xp.esc (s.data.toList.take (k + 1)) = Xp.esc (s.data.toList.take k) ++ Xp.escB s[k] by rw [hts, Xp.esc_snoc])
      have hl : (Xp.esc (s.data.toList.take k)).length ≤ 6 * s.size := by
        have h1 := Xp.esc_len (s.data.toList.take k)
        have h2 : (s.data.toList.take k).length ≤ k := List.length_take_le _ _
        omega
      clear hts
      by_cases he : Xp.ent s[k] = []
      · go_wp2_with (first | (go_at_call 136; refine (entity _ _).mono ?_; rintro e w' ⟨rfl, rfl⟩) | (go_at_call 64; refine (Bld.writeByte _ _ _ _ _ hI (by rw [Com.byteCells_length]; omega) hsz).mono ?_; rintro e w1 ⟨rfl, h1, b1⟩))
        go_roundw
        case rel => exact ⟨k + 1, by omega, by go_num, by rw [HN.out, Xp.escB_plain he, Com.byteCells_snoc]; exact h1, hb.trans b1⟩
        case measure => simp [intOf]; omega
      · have he2 : Xp.escB s[k] = Xp.ent s[k] := Xp.escB_ent he
        have hl2 := (Xp.escB_len s[k]).2
        rw [he2] at hl2
        have HE := Lib.hid he2; clear he2
        generalize hent : Xp.ent s[k] = en at *
        have HENT := Lib.hid hent; clear hent
        have he0 : en.isEmpty = false := by simpa using he
        clear he
        go_wp2_with (first | (go_at_call 136; refine (entity _ _).mono ?_; rintro e w' ⟨rfl, rfl⟩; rw [HENT.out]) | (go_at_call 122; refine (Bld.writeString _ _ _ _ _ hI (by rw [Com.byteCells_length, Com.size_mk]; omega) hsz).mono ?_; rintro e w1 ⟨rfl, h1, b1⟩))
        go_roundw
        case rel => exact ⟨k + 1, by omega, by go_num, by rw [HN.out, HE.out, Com.byteCells_append]; rw [Com.strCells_mk] at h1; exact h1, hb.trans b1⟩
        case measure => simp [intOf]; omega
    · have hk2 : k = s.size := by omega
      have HK := Lib.hid hk2; clear hk2
      go_wp2_with (go_at_call 65; refine (Tryd.Builder_String_any _ _ _ _ hI hsz).mono ?_; rintro e w1 ⟨rfl, b1⟩)
      go_ret
      refine ⟨Com.str_eq rfl ?_, hb.trans b1⟩
      rw [List.take_of_length_le]
      rw [Com.toList_length, HK.out]
      exact Nat.le_refl _
end Go.Proofs.YtmimkgfkicgfiaaDoor.XmlA
