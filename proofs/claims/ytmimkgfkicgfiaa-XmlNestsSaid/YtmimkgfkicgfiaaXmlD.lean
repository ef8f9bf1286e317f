/-
  The walks of package xml's Unescape and of the reference's Unescape.
-/
import Derived.Test.YtmimkgfkicgfiaaXmlC
import Derived.WalkKit
import Derived.WalkSpells
import Derived.WalkLawsBesides
import Derived.Outline
import Derived.Deep.LoopGhost
import Derived.Lib.SlBytesConst
import Derived.Lib.Hide
namespace Go.Proofs.Ytmimkgfkicgfiaa.XmlD
open Go.RowKit Go.Proofs.Ytmimkgfkicgfiaa

/-- what Unescape answers -/
def ans (o : Option (List UInt8)) : Value := match o with
  | some l => .tuple #[.string ⟨l.toArray⟩, .bool true]
  | none => .tuple #[.string ⟨#[]⟩, .bool false]

theorem cand_cell (w : World) (j : Nat) (h : j < 5) :
    (w.alloc (.cells #[.int .u8 38, .int .u8 60, .int .u8 62, .int .u8 34, .int .u8 39] 5 (5, 6))).cell? ⟨w.heap.size, j, none⟩ = some (.int .u8 (Xp.cand.getD j 0).toNat) := by
  match j, h with
  | 0, _ => rw [World.cell?_alloc_mark]; rfl
  | 1, _ => rw [World.cell?_alloc_mark]; rfl
  | 2, _ => rw [World.cell?_alloc_mark]; rfl
  | 3, _ => rw [World.cell?_alloc_mark]; rfl
  | 4, _ => rw [World.cell?_alloc_mark]; rfl

set_option maxHeartbeats 1000000 in
theorem unescape (s : List UInt8) (w : World) (hs : s.length ≤ 67108864) :
    Calls Try.prog 7 #[.string ⟨s.toArray⟩] w fun e w' => e = .returned (ans (Xp.unesc s)) ∧ Below w.heap.size w w' := by
  go_enter Try.func7, Try.ntmps7
  go_wp2; go_step3; go_wp2; go_step3; go_wp2
  go_loopg [0] s.length (fun k p wr => ∃ cur acc : List UInt8, p = .string ⟨cur.toArray⟩ ∧ cur.length ≤ k ∧ acc.length + cur.length ≤ s.length ∧ Hid (Xp.unF k cur acc = Xp.unesc s) ∧ Lib.IsBuilder 35 5 w.heap.size w.heap.size (Lib.byteCells acc) wr ∧ Below w.heap.size w wr)
  case atStart => exact ⟨s, [], rfl, Nat.le_refl _, by simp, rfl, Lib.fresh_isBuilder _ _ _, (Below.refl _ w).alloc (Nat.le_refl _) _⟩
  case round =>
    obtain ⟨cur, acc, rfl, hk, hlen, HU, hI, hb⟩ := hrel
    have hsz := hb.size
    rcases cur with _ | ⟨c, t⟩
    · rw [Xp.unF_nil] at HU
      go_wp2_with (go_at_call 17; refine (Try.Builder_String_any _ _ _ _ hI hsz).mono ?_; rintro e w1 ⟨rfl, b1⟩)
      rw [Exit.noGoto_ret]
      go_ret2
      exact ⟨by rw [← HU.out]; rfl, hb.trans b1⟩
    · obtain ⟨m, rfl⟩ : ∃ m, gk = m + 1 := ⟨gk - 1, by simp at hk; omega⟩
      simp only [List.length_cons] at hk hlen
      have i0 := Com.mk_get0 c t
      have hz : (ByteArray.mk (c :: t).toArray).size = t.length + 1 := by simp [Com.size_mk]
      have hd := Com.mk_drop1 c t (n := t.length + 1) rfl
      by_cases h38 : c = 38
      · subst h38
        have kc := fun (w : World) (C : Array Value) (n c : Nat) => Lib.run_convert_bytes_const (P := Try.prog) w 33 5 C n c Try.underlying33 Try.underlying5
        have hcell := cand_cell wr
        have hI1 := Com.isBuilder_alloc hI (.cells #[.int .u8 38, .int .u8 60, .int .u8 62, .int .u8 34, .int .u8 39] 5 (5, 6))
        have hb1 := hb.alloc hsz (.cells #[.int .u8 38, .int .u8 60, .int .u8 62, .int .u8 34, .int .u8 39] 5 (5, 6))
        have HC := Lib.hid hcell; clear hcell hd
        go_wp2_with fail
        generalize (wr.alloc (.cells #[.int .u8 38, .int .u8 60, .int .u8 62, .int .u8 34, .int .u8 39] 5 (5, 6))) = W1 at *
        have hsz1 := hb1.size
        go_loopg [0, 26] 5 (fun k p i wx => ∃ j : Nat, j + k = 5 ∧ p = .string ⟨(38 :: t).toArray⟩ ∧ i = .int .i64 j ∧ (∀ i, i < j → (Xp.ent (Xp.cand.getD i 0)).isPrefixOf (38 :: t) = false) ∧ W1 = wx)
        case atStart => exact ⟨0, rfl, rfl, rfl, fun i hi => absurd hi (by omega), rfl⟩
        case round =>
          obtain ⟨j, hj, rfl, rfl, hno, rfl⟩ := hrel
          have hno' := Lib.hid hno; clear hno
          have HJ := Lib.hid hj; have hj5 : j ≤ 5 := by omega
          clear hj
          by_cases hlt : j < 5
          · have hc := HC.out j hlt
            have hne := Xp.cand_ent hlt
            have hstep := fun (hp : (Xp.ent (Xp.cand.getD j 0)).isPrefixOf (38 :: t) = true) => HU.out.symm.trans (Xp.unF_step (n := m) (acc := acc) (Xp.un1_hit (by rw [Xp.escB_ent hne]; exact hp)))
            have hpl := fun (hp : (Xp.ent (Xp.cand.getD j 0)).isPrefixOf (38 :: t) = true) => (List.isPrefixOf_iff_prefix.1 hp).length_le
            rw [Xp.escB_ent hne] at hstep
            have hll : 1 ≤ (Xp.ent (Xp.cand.getD j 0)).length := by
              rcases h0 : Xp.ent (Xp.cand.getD j 0) with _ | ⟨x, y⟩
              · exact absurd h0 hne
              · simp
            clear hne
            have Hs := Lib.hid hstep; clear hstep
            have Hl := Lib.hid hpl; clear hpl
            have HNO := Lib.hid (show ∀ i, i < j → (Xp.ent (Xp.cand.getD i 0)).isPrefixOf (38 :: t) = false from hno'.out)
            generalize hd : Xp.cand.getD j 0 = d at *
            have HD := Lib.hid hd; clear hd hno'
            by_cases hp : (Xp.ent d).isPrefixOf (38 :: t) = true
            · have HN := Lib.hid (Hs.out hp)
              have hl2 := Hl.out hp
              have hp1 : Lib.hasPrefix (38 :: t) (Xp.ent d) = true := hp
              have hp2 : Lib.trimPrefix (38 :: t) (Xp.ent d) = (38 :: t).drop (Xp.ent d).length := by rw [Lib.trimPrefix, hp1]; rfl
              have HP2 := Lib.hid hp2
              have HP1 := Lib.hid hp1
              clear Hs hp hp1 hp2
              go_wp2_with (first | (go_at_call 14; refine (XmlA.entity _ _).mono ?_; rintro e w' ⟨rfl, rfl⟩) | (go_at_call 18; refine (Try.strings_CutPrefix ⟨(38 :: t).toArray⟩ ⟨(Xp.ent d).toArray⟩ _).mono ?_; rintro e w' ⟨rfl, rfl⟩; rw [show (ByteArray.mk (38 :: t).toArray).data.toList = 38 :: t from rfl, show (ByteArray.mk (Xp.ent d).toArray).data.toList = Xp.ent d from rfl, HP1.out, HP2.out]) | (go_at_call 16; refine (Bld.writeByte _ _ _ _ _ hI1 (by rw [Com.byteCells_length]; omega) hsz1).mono ?_; rintro e w1 ⟨rfl, h1, b1⟩))
              go_roundg m
              case measure => omega
              case rel =>
                simp only [List.length_cons] at hl2
                exact ⟨(38 :: t).drop (Xp.ent d).length, acc ++ [d], rfl, by rw [List.length_drop, List.length_cons]; omega, by simp only [List.length_append, List.length_drop, List.length_cons, List.length_nil]; omega, HN.out.symm, by rw [Com.byteCells_snoc]; exact h1, hb1.trans b1⟩
            · have hp1 : Lib.hasPrefix (38 :: t) (Xp.ent d) = false := Bool.eq_false_iff.2 hp
              have hp3 : (Xp.ent d).isPrefixOf (38 :: t) = false := hp1
              have HP1 := Lib.hid hp1
              have HP3 := Lib.hid hp3
              clear Hs hp hp1 hp3
              go_wp2_with (first | (go_at_call 14; refine (XmlA.entity _ _).mono ?_; rintro e w' ⟨rfl, rfl⟩) | (go_at_call 18; refine (Try.strings_CutPrefix ⟨(38 :: t).toArray⟩ ⟨(Xp.ent d).toArray⟩ _).mono ?_; rintro e w' ⟨rfl, rfl⟩; rw [show (ByteArray.mk (38 :: t).toArray).data.toList = 38 :: t from rfl, show (ByteArray.mk (Xp.ent d).toArray).data.toList = Xp.ent d from rfl, HP1.out]))
              go_roundg (gk - 1)
              case measure => have := HJ.out; omega
              case rel =>
                refine ⟨j + 1, by have := HJ.out; omega, rfl, by go_num, fun i hi => ?_, rfl⟩
                by_cases hij : i < j
                · exact HNO.out i hij
                · obtain rfl : i = j := by omega
                  rw [HD.out]
                  exact HP3.out
          · have hx := Xp.unF_stop (n := m + 1) (acc := acc) (by simp) (Xp.un1_38 (t := t) fun i hi => hno'.out i (by omega))
            have HX := Lib.hid (HU.out.symm.trans hx); clear hx
            go_wp2
            rw [Exit.noGoto_ret]
            go_ret2
            exact ⟨by rw [HX.out]; rfl, hb1⟩
      · have g1 : ((c.toNat : Int) != 38) = true := Com.u8_bne h38 rfl
        by_cases he : Xp.ent c = []
        · have HN := Lib.hid (HU.out.symm.trans (Xp.unF_step (show Xp.un1 (c :: t) = some (c, t) by simp [Xp.un1, h38, he])))
          clear HU h38
          go_wp2_with (first | (go_at_call 14; refine (XmlA.entity _ _).mono ?_; rintro e w' ⟨rfl, rfl⟩) | (go_at_call 16; refine (Bld.writeByte _ _ _ _ _ hI (by rw [Com.byteCells_length]; omega) hsz).mono ?_; rintro e w1 ⟨rfl, h1, b1⟩))
          go_roundg m
          case measure => omega
          case rel => exact ⟨t, acc ++ [c], rfl, by omega, by simp; omega, HN.out.symm, by rw [Com.byteCells_snoc]; exact h1, hb.trans b1⟩
        · have HN := Lib.hid (HU.out.symm.trans (Xp.unF_stop (by simp) (show Xp.un1 (c :: t) = none by simp [Xp.un1, h38, he])))
          clear HU h38
          generalize hen : Xp.ent c = en at he
          have HE := Lib.hid hen; clear hen
          have he0 : en.isEmpty = false := by simpa using he
          clear he
          go_wp2_with (go_at_call 14; refine (XmlA.entity _ _).mono ?_; rintro e w' ⟨rfl, rfl⟩; rw [HE.out])
          rw [Exit.noGoto_ret]
          go_ret2
          exact ⟨by rw [HN.out]; rfl, hb⟩
end Go.Proofs.Ytmimkgfkicgfiaa.XmlD
