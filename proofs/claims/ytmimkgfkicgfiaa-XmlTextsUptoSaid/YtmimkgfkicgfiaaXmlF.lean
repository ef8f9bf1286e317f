/-
  The walk of the law XmlTexts.
-/
import Derived.Test.YtmimkgfkicgfiaaXmlE
import Derived.WalkKit
import Derived.WalkSpells
import Derived.WalkLawsBesides
import Derived.Outline
import Derived.Deep.LoopGhost
import Derived.Lib.Hide
namespace Go.Proofs.Ytmimkgfkicgfiaa.XmlF
open Go.RowKit Go.Proofs.Ytmimkgfkicgfiaa

set_option maxHeartbeats 1000000 in
set_option maxRecDepth 100000 in
theorem texts (s name : ByteArray) (a : Option Addr) (c : Nat) (xs : List ByteArray) (w : World) (hsz : s.size ≤ 4194304) (hn : name.size ≤ 4194304) (hx : (Com.flat xs).length ≤ 4194304) (hm : xs.length ≤ 4194304) (hc : xs.length ≤ c) (hs : Com.Strs w a xs) :
    Calls Try.prog 3 #[.string s, .string name, .slice a xs.length c] w fun e w' => e = .returned (.bool true) ∧ Below w.heap.size w w' := by
  have hlen : (Xp.esc s.data.toList).length ≤ 6 * s.size := by have := Xp.esc_len s.data.toList; rw [Com.toList_length] at this; exact this
  by_cases h5 : 5000 < s.size
  · go_enter Try.func3, Try.ntmps3
    go_wp2_with (go_at_call 5; refine (XmlC.alive _).mono ?_; rintro e w1 ⟨rfl, b1⟩)
    go_ret
    exact ⟨rfl, b1⟩
  · have hclean := Xp.esc_clean s.data.toList
    have hback := Xp.unesc_esc s.data.toList
    have HB := Lib.hid hback; clear hback
    have HC := Lib.hid hclean; clear hclean
    obtain ⟨d, rfl⟩ : ∃ d : List UInt8, s = ⟨d.toArray⟩ := ⟨s.data.toList, (Com.mk_data s).symm⟩
    have hds : (ByteArray.mk d.toArray).size = d.length := Com.size_mk d
    rw [hds] at hsz h5 hlen
    simp only at hlen HB HC
    have HDS := Lib.hid hds
    go_enter Try.func3, Try.ntmps3
    go_wp2_with (go_at_call 5; refine (XmlC.alive _).mono ?_; rintro e w1 ⟨rfl, b1⟩)
    refine (XmlA.escape _ _ (by rw [hds]; omega)).mono ?_
    rintro e w2 ⟨rfl, b2⟩
    rw [show (ByteArray.mk d.toArray).data.toList = d from rfl]
    go_wp2_with fail
    refine (XmlD.unescape (Xp.esc d) _ (by omega)).mono ?_
    rintro e w3 ⟨rfl, b3⟩
    rw [HB.out, XmlD.ans]
    go_wp2_with fail
    refine (XmlD.unescape d _ (by omega)).mono ?_
    rintro e w4 ⟨rfl, b4⟩
    obtain ⟨t, o, ht⟩ : ∃ t o, XmlD.ans (Xp.unesc d) = .tuple #[.string ⟨(t : List UInt8).toArray⟩, .bool o] := by
      rcases Xp.unesc d with _ | x
      · exact ⟨[], false, rfl⟩
      · exact ⟨x, true, rfl⟩
    have HT := Lib.hid ht
    rw [ht]
    clear ht
    go_wp2_with fail
    refine (XmlE.refUnescape d _ (by omega)).mono ?_
    rintro e w5 ⟨rfl, b5⟩
    rw [HT.out]
    go_wp2_with fail
    generalize hE : Xp.esc d = E at *
    have HE := Lib.hid hE
    clear hE
    have hEs : (ByteArray.mk E.toArray).size = E.length := Com.size_mk E
    go_loop [14] (fun i => ∃ k : Nat, k ≤ E.length ∧ i = .int .i64 k) (fun i => E.length - (intOf i).toNat)
    case atStart => exact ⟨0, Nat.zero_le _, rfl⟩
    case round =>
      obtain ⟨k, hk, rfl⟩ := hrel
      by_cases hlt : k < E.length
      · have hc1 := HC.out E[k] (List.getElem_mem hlt)
        have g1 : ((((ByteArray.mk E.toArray)[k]'(by omega)).toNat : Int) == 60) = false := Com.u8_ne hc1.1 rfl
        have g2 : ((((ByteArray.mk E.toArray)[k]'(by omega)).toNat : Int) == 62) = false := Com.u8_ne hc1.2.1 rfl
        have g3 : ((((ByteArray.mk E.toArray)[k]'(by omega)).toNat : Int) == 34) = false := Com.u8_ne hc1.2.2.1 rfl
        have g4 : ((((ByteArray.mk E.toArray)[k]'(by omega)).toNat : Int) == 39) = false := Com.u8_ne hc1.2.2.2 rfl
        clear hc1
        go_wp2
        go_round
        case rel => exact ⟨k + 1, by omega, by go_num⟩
        case measure => simp [intOf]; omega
      · have HK := Lib.hid (show k = E.length by omega)
        go_wp2_with fail
        have B2 : Below w.heap.size w w2 := b1.trans (b2.mono b1.size)
        have B3 : Below w.heap.size w w3 := B2.trans (b3.mono B2.size)
        have B4 : Below w.heap.size w w4 := B3.trans (b4.mono B3.size)
        have B5 : Below w.heap.size w w5 := B4.trans (b5.mono B4.size)
        have hs5 := hs.below B5
        clear b1 b2 b3 b4 b5 B2 B3 B4
        refine (XmlB.refEscape _ _ (by rw [hds]; omega)).mono ?_
        rintro e w' ⟨rfl, rfl⟩
        rw [show (ByteArray.mk d.toArray).data.toList = d from rfl, HE.out]
        go_wp2_with fail
        refine (XmlC.tag name a c xs _ (by omega) (by omega) (by omega) hc hs5).mono ?_
        rintro e w6 ⟨rfl, b6⟩
        have B6 : Below w.heap.size w w6 := B5.trans (b6.mono B5.size)
        have hs6 := hs.below B6
        go_wp2_with fail
        refine (XmlB.refTag name a c xs _ (by omega) (by omega) (by omega) hs6).mono ?_
        rintro e w' ⟨rfl, rfl⟩
        go_wp2_with fail
        refine (XmlC.text name _ _ (by omega) (by rw [hds]; omega)).mono ?_
        rintro e w7 ⟨rfl, b7⟩
        rw [show (ByteArray.mk d.toArray).data.toList = d from rfl, HE.out]
        have B7 : Below w.heap.size w w7 := B6.trans (b7.mono B6.size)
        go_wp2_with fail
        refine (XmlB.refEscape _ _ (by rw [hds]; omega)).mono ?_
        rintro e w' ⟨rfl, rfl⟩
        rw [show (ByteArray.mk d.toArray).data.toList = d from rfl, HE.out]
        go_wp2_with fail
        refine (XmlB.refTag name _ 1 [⟨E.toArray⟩] _ (by omega) (by rw [Com.flat_one]; simp; omega) (by simp) (XmlC.strs_new _ _ _)).mono ?_
        rintro e w' ⟨rfl, rfl⟩
        rw [Com.flat_one]
        go_wp2_with fail
        go_ret
        exact ⟨rfl, B7.alloc B7.size _⟩
end Go.Proofs.Ytmimkgfkicgfiaa.XmlF
