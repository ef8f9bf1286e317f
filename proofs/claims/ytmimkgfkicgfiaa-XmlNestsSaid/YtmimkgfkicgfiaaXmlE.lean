/-
  The walk of the reference's Unescape.
-/
import Derived.Test.YtmimkgfkicgfiaaXmlD
import Derived.WalkKit
import Derived.WalkSpells
import Derived.WalkLawsBesides
import Derived.Outline
import Derived.Deep.LoopGhost
import Derived.Lib.Hide
namespace Go.Proofs.Ytmimkgfkicgfiaa.XmlE
open Go.RowKit Go.Proofs.Ytmimkgfkicgfiaa

set_option maxHeartbeats 1000000 in
set_option maxRecDepth 100000 in
theorem refUnescape (s : List UInt8) (w : World) (hs : s.length ≤ 67108864) :
    Calls Try.prog 8 #[.string ⟨s.toArray⟩] w fun e w' => e = .returned (XmlD.ans (Xp.unesc s)) ∧ Below w.heap.size w w' := by
  have hsz0 : (ByteArray.mk s.toArray).size = s.length := Com.size_mk s
  go_enter Try.func8, Try.ntmps8
  go_wp2
  go_loopg [4, 5] s.length (fun k o p wr => ∃ (at' : Nat) (acc : List UInt8), o = .string ⟨acc.toArray⟩ ∧ p = .int .i64 at' ∧ at' ≤ s.length ∧ s.length ≤ k + at' ∧ acc.length ≤ at' ∧ Hid (Xp.unF k (s.drop at') acc = Xp.unesc s) ∧ Below w.heap.size w wr)
  case atStart => exact ⟨0, [], rfl, rfl, Nat.zero_le _, by omega, by simp, rfl, Below.refl _ _⟩
  case round =>
    obtain ⟨at', acc, rfl, rfl, ha, hk, hal, HU, hb⟩ := hrel
    have hsz := hb.size
    by_cases hlt : at' < s.length
    · obtain ⟨m, rfl⟩ : ∃ m, gk = m + 1 := ⟨gk - 1, by omega⟩
      go_wp2_with fail
      obtain ⟨wo, rfl⟩ : ∃ wo : World, wo = wr := ⟨_, rfl⟩
      go_loopg [4, 5, 6, 7] 256 (fun k o p f c wx => ∃ j : Nat, j + k = 256 ∧ c = .int .i64 j ∧ Below w.heap.size w wx ∧
        ((f = .bool false ∧ o = .string ⟨acc.toArray⟩ ∧ p = .int .i64 at' ∧ Hid (∀ i, i < j → (Xp.escB (UInt8.ofNat i)).isPrefixOf (s.drop at') = false)) ∨
         (f = .bool true ∧ ∃ d : UInt8, Hid ((Xp.escB d).isPrefixOf (s.drop at') = true) ∧ o = .string ⟨(acc ++ [d]).toArray⟩ ∧ p = .int .i64 (at' + (Xp.escB d).length : Nat))))
      case atStart => exact ⟨0, rfl, rfl, hb, .inl ⟨rfl, rfl, rfl, fun i hi => absurd hi (by omega)⟩⟩
      case round =>
        obtain ⟨wr0, rfl⟩ : ∃ wr0 : World, wr0 = wr := ⟨_, rfl⟩
        obtain ⟨j, hj, rfl, hbx, ⟨rfl, rfl, rfl, HNO⟩ | ⟨rfl, d, HP, rfl, rfl⟩⟩ := hrel
        · have HJ := Lib.hid hj; have hj5 : j ≤ 256 := by omega
          have hszx := hbx.size
          clear hj
          by_cases hlt2 : j < 256
          · have conv := Com.one_byte (P := Try.prog) wr0 33 9 5 Try.underlying33 Try.underlying5 Try.underlying9 j hlt2
            go_wp2_with fail
            refine (XmlB.refEscape _ _ (by simp [Com.size_mk])).mono ?_
            rintro e w' ⟨rfl, rfl⟩
            rw [show (ByteArray.mk [UInt8.ofNat j].toArray).data.toList = [UInt8.ofNat j] from rfl, Xp.esc_one]
            have hel := (Xp.escB_len (UInt8.ofNat j)).1
            have hel2 := (Xp.escB_len (UInt8.ofNat j)).2
            generalize hd : UInt8.ofNat j = d at *
            have HD := Lib.hid hd; clear hd
            clear conv
            by_cases hp : (Xp.escB d).isPrefixOf (s.drop at') = true
            · have HP := Lib.hid hp
              have hx := Xp.prefix_at hp ha
              clear hp
              generalize hen : Xp.escB d = en at *
              have HEN := Lib.hid hen; clear hen
              have hx1 := hx.1
              have hx2 : (((ByteArray.mk s.toArray).extract at' (at' + en.length)).toList == en) = true := by
                rw [Com.toList_data, Com.extract_data]
                exact beq_iff_eq.2 hx.2
              clear hx
              go_wp2
              go_roundg (gk - 1)
              case measure => have := HJ.out; omega
              case rel => exact ⟨j + 1, by have := HJ.out; omega, by go_num, hbx.alloc hszx _, .inr ⟨rfl, d, (show Hid _ by unfold Hid; rw [HEN.out]; exact HP.out), Com.cat rfl, by rw [HEN.out]; go_num⟩⟩
            · have HP := Lib.hid (show ∀ i, i < j + 1 → (Xp.escB (UInt8.ofNat i)).isPrefixOf (s.drop at') = false by
                intro i hi
                by_cases hij : i < j
                · exact HNO.out i hij
                · obtain rfl : i = j := by omega
                  rw [HD.out]
                  exact Bool.eq_false_iff.2 hp)
              by_cases hq : at' + (Xp.escB d).length ≤ s.length
              · have hx2 : (((ByteArray.mk s.toArray).extract at' (at' + (Xp.escB d).length)).toList == Xp.escB d) = false := by
                  rw [Com.toList_data, Com.extract_data]
                  exact beq_eq_false_iff_ne.2 fun h => hp (Xp.prefix_of h)
                clear hp
                go_wp2
                go_roundg (gk - 1)
                case measure => have := HJ.out; omega
                case rel => exact ⟨j + 1, by have := HJ.out; omega, by go_num, hbx.alloc hszx _, .inl ⟨rfl, rfl, rfl, HP⟩⟩
              · clear hp
                go_wp2
                go_roundg (gk - 1)
                case measure => have := HJ.out; omega
                case rel => exact ⟨j + 1, by have := HJ.out; omega, by go_num, hbx.alloc hszx _, .inl ⟨rfl, rfl, rfl, HP⟩⟩
          · have hun : Xp.un1 (s.drop at') = none := Xp.un1_miss fun d => by
              have := HNO.out d.toNat (by have := d.toNat_lt; omega)
              rwa [UInt8.ofNat_toNat] at this
            have HX := Lib.hid (HU.out.symm.trans (Xp.unF_stop (n := m + 1) (acc := acc) (by simp; omega) hun))
            clear hun
            go_wp2
            go_ret2
            exact ⟨by rw [HX.out]; rfl, hbx⟩
        · have hl := (Xp.escB_len d)
          have hx := (Xp.prefix_at HP.out ha).1
          have HX := Lib.hid (HU.out.symm.trans (Xp.unF_step (n := m) (acc := acc) (Xp.un1_hit HP.out)))
          clear hj
          go_wp2
          all_goals
            go_roundg m
            case measure => omega
            case rel => exact ⟨at' + (Xp.escB d).length, acc ++ [d], rfl, rfl, hx, by omega, by simp; omega, (show Hid _ by unfold Hid; rw [HX.out, List.drop_drop]), hbx⟩
    · have ha2 : s.drop at' = [] := List.drop_eq_nil_of_le (by omega)
      rw [ha2, Xp.unF_nil] at HU
      have HA := Lib.hid ha2; clear ha2
      go_wp2
      go_ret2
      exact ⟨by rw [← HU.out]; rfl, hb⟩
end Go.Proofs.Ytmimkgfkicgfiaa.XmlE
