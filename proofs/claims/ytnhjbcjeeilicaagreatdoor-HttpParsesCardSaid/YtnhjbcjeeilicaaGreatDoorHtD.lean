/-
  The walks of package http's lower and field.
-/
import Derived.Test.YtnhjbcjeeilicaaGreatDoorHtB
import Derived.Test.YtnhjbcjeeilicaaGreatDoorHtC
namespace Go.Proofs.YtnhjbcjeeilicaaGreatDoor.HtD
open Go.RowKit Go.Proofs.YtnhjbcjeeilicaaGreatDoor Go.Proofs.YtnhjbcjeeilicaaGreatDoor.Ht Go.Proofs.YtnhjbcjeeilicaaGreatDoor.HtW Go.Proofs.YtnhjbcjeeilicaaGreatDoor.HtA Go.Proofs.YtnhjbcjeeilicaaGreatDoor.HtB Go.Proofs.YtnhjbcjeeilicaaGreatDoor.HtC

theorem u8_wrap {z : Int} (h0 : 0 ≤ z) (h1 : z ≤ 255) : IntKind.u8.wrap z = z := by
  have : IntKind.u8.wrap z = z % 256 := by simp [IntKind.wrap, IntKind.bits, IntKind.signed]
  rw [this]; omega

set_option maxHeartbeats 8000000 in
set_option maxRecDepth 100000 in
theorem lower (n : ByteArray) (w : World) (hs : n.size ≤ 4294967296) :
    Calls Tryz.prog 44 #[.string n] w fun e w' => e = .returned (.tuple #[.string ⟨(Ht.lower n.data.toList).1.toArray⟩, .bool (Ht.lower n.data.toList).2]) ∧ Below w.heap.size w w' := by
  have kc := Lib.run_convert_string_bytes (P := Tryz.prog) w 9 22 5 n Tryz.underlying9 Tryz.underlying22 Tryz.underlying5
  have hR0 := Lib.hid (Row.start w n)
  have hB0 := Lib.hid (Lib.bytesWorld_below w 5 n)
  generalize hW : Lib.bytesWorld w 5 n = W0 at *
  generalize hC : grownCap w n.size 0 5 = cap at *
  clear hW hC
  go_enter Tryz.func44, Tryz.ntmps44
  go_wp2_with fail
  clear kc
  go_loopg [11] n.size (fun g v11 wr => ∃ k : Nat, k + g = n.size ∧ v11 = .int .i64 k ∧ Hid ((n.data.toList.take k).all nmc = true) ∧ Hid (Row wr w.heap.size (lpart n.data.toList k)) ∧ Hid (Below w.heap.size w wr))
  case atStart => exact ⟨0, by simp, rfl, rfl, by unfold Hid; simpa [lpart] using hR0.out, hB0⟩
  case round =>
    obtain ⟨k, hkg, rfl, HA, HR, HB⟩ := hrel
    have HG := Lib.hid hkg
    have hkx : k ≤ n.size := by omega
    clear hkg
    by_cases hlt : k < n.size
    · have hkl : k < n.data.toList.length := by rw [Com.toList_length]; exact hlt
      obtain ⟨c, hc⟩ : ∃ c, n.data.toList[k] = c := ⟨_, rfl⟩
      have hpa := lpart_at hkl
      rw [hc] at hpa
      have q0 := HR.out.cell hpa
      have f0 := HR.out.frozen (j := k) (by rw [lpart_length]; exact hkl)
      have HPA := Lib.hid hpa
      have hcl := UInt8.toNat_lt c
      clear hpa
      by_cases d0 : c.toNat < 45
      · have hn0 : nmc c = false := by
          cases h : nmc c
          · rfl
          · rw [nm_iff] at h; omega
        have HN := Lib.hid (lower_no hkl (by rw [hc]; exact hn0))
        clear hn0
        have b0 : ¬ (65 : Int) ≤ c.toNat := by omega
        have b1 : (c.toNat : Int) ≤ 90 := by omega
        have b2 : ¬ (97 : Int) ≤ c.toNat := by omega
        have b3 : (c.toNat : Int) ≤ 122 := by omega
        have b4 : ¬ (48 : Int) ≤ c.toNat := by omega
        have b5 : (c.toNat : Int) ≤ 57 := by omega
        have b6 : ((c.toNat : Int) == 45) = false := by simp; omega
        go_wp2_with fail
        go_ret2
        exact ⟨by rw [HN.out]; rfl, HB.out⟩
      · by_cases d1 : c.toNat = 45
        · have HS := Lib.hid (lpart_same hkl (by rw [hc]; exact lc_no (by omega)))
          have HM := Lib.hid (show nmc c = true by rw [nm_iff]; omega)
          have b0 : ¬ (65 : Int) ≤ c.toNat := by omega
          have b1 : (c.toNat : Int) ≤ 90 := by omega
          have b2 : ¬ (97 : Int) ≤ c.toNat := by omega
          have b3 : (c.toNat : Int) ≤ 122 := by omega
          have b4 : ¬ (48 : Int) ≤ c.toNat := by omega
          have b5 : (c.toNat : Int) ≤ 57 := by omega
          have b6 : ((c.toNat : Int) == 45) = true := by simp; omega
          go_wp2_with fail
          go_roundg (n.size - (k + 1))
          case measure => have := HG.out; omega
          case rel => exact ⟨k + 1, by omega, by go_num, by unfold Hid; rw [List.take_add_one, List.getElem?_eq_getElem hkl, List.all_append, HA.out, hc]; simp [HM.out], by unfold Hid; rw [← HS.out]; exact HR.out, HB.out⟩
        · by_cases d2 : c.toNat < 48
          · have hn0 : nmc c = false := by
              cases h : nmc c
              · rfl
              · rw [nm_iff] at h; omega
            have HN := Lib.hid (lower_no hkl (by rw [hc]; exact hn0))
            clear hn0
            have b0 : ¬ (65 : Int) ≤ c.toNat := by omega
            have b1 : (c.toNat : Int) ≤ 90 := by omega
            have b2 : ¬ (97 : Int) ≤ c.toNat := by omega
            have b3 : (c.toNat : Int) ≤ 122 := by omega
            have b4 : ¬ (48 : Int) ≤ c.toNat := by omega
            have b5 : (c.toNat : Int) ≤ 57 := by omega
            have b6 : ((c.toNat : Int) == 45) = false := by simp; omega
            go_wp2_with fail
            go_ret2
            exact ⟨by rw [HN.out]; rfl, HB.out⟩
          · by_cases d3 : c.toNat ≤ 57
            · have HS := Lib.hid (lpart_same hkl (by rw [hc]; exact lc_no (by omega)))
              have HM := Lib.hid (show nmc c = true by rw [nm_iff]; omega)
              have b0 : ¬ (65 : Int) ≤ c.toNat := by omega
              have b1 : (c.toNat : Int) ≤ 90 := by omega
              have b2 : ¬ (97 : Int) ≤ c.toNat := by omega
              have b3 : (c.toNat : Int) ≤ 122 := by omega
              have b4 : (48 : Int) ≤ c.toNat := by omega
              have b5 : (c.toNat : Int) ≤ 57 := by omega
              have b6 : ((c.toNat : Int) == 45) = false := by simp; omega
              go_wp2_with fail
              go_roundg (n.size - (k + 1))
              case measure => have := HG.out; omega
              case rel => exact ⟨k + 1, by omega, by go_num, by unfold Hid; rw [List.take_add_one, List.getElem?_eq_getElem hkl, List.all_append, HA.out, hc]; simp [HM.out], by unfold Hid; rw [← HS.out]; exact HR.out, HB.out⟩
            · by_cases d4 : c.toNat < 65
              · have hn0 : nmc c = false := by
                  cases h : nmc c
                  · rfl
                  · rw [nm_iff] at h; omega
                have HN := Lib.hid (lower_no hkl (by rw [hc]; exact hn0))
                clear hn0
                have b0 : ¬ (65 : Int) ≤ c.toNat := by omega
                have b1 : (c.toNat : Int) ≤ 90 := by omega
                have b2 : ¬ (97 : Int) ≤ c.toNat := by omega
                have b3 : (c.toNat : Int) ≤ 122 := by omega
                have b4 : (48 : Int) ≤ c.toNat := by omega
                have b5 : ¬ (c.toNat : Int) ≤ 57 := by omega
                have b6 : ((c.toNat : Int) == 45) = false := by simp; omega
                go_wp2_with fail
                go_ret2
                exact ⟨by rw [HN.out]; rfl, HB.out⟩
              · by_cases d5 : c.toNat ≤ 90
                · have HM := Lib.hid (show nmc c = true by rw [nm_iff]; omega)
                  have e1 : IntKind.u8.wrap ((c.toNat : Int) + 97) = (c.toNat : Int) + 97 := u8_wrap (by omega) (by omega)
                  have e2 : IntKind.u8.wrap ((c.toNat : Int) + 97 - 65) = (c.toNat : Int) + 97 - 65 := u8_wrap (by omega) (by omega)
                  have EV := Lib.hid (show (c.toNat : Int) + 97 - 65 = ((lc c).toNat : Int) by rw [lc_up (by omega)]; omega)
                  have HP := Lib.hid (HR.out.put (k := k) (by rw [lpart_length]; exact hkl) (lc c))
                  have HS := Lib.hid (lpart_set hkl)
                  have b0 : (65 : Int) ≤ c.toNat := by omega
                  have b1 : (c.toNat : Int) ≤ 90 := by omega
                  have b2 : ¬ (97 : Int) ≤ c.toNat := by omega
                  have b3 : (c.toNat : Int) ≤ 122 := by omega
                  have b4 : (48 : Int) ≤ c.toNat := by omega
                  have b5 : ¬ (c.toNat : Int) ≤ 57 := by omega
                  have b6 : ((c.toNat : Int) == 45) = false := by simp; omega
                  go_wp2_with fail
                  rw [EV.out]
                  go_roundg (n.size - (k + 1))
                  case measure => have := HG.out; omega
                  case rel => exact ⟨k + 1, by omega, by go_num, by unfold Hid; rw [List.take_add_one, List.getElem?_eq_getElem hkl, List.all_append, HA.out, hc]; simp [HM.out], by unfold Hid; rw [← HS.out, hc]; exact HP.out, HB.out.setCell (p := ⟨w.heap.size, k, none⟩) (Nat.le_refl _) _⟩
                · by_cases d6 : c.toNat < 97
                  · have hn0 : nmc c = false := by
                      cases h : nmc c
                      · rfl
                      · rw [nm_iff] at h; omega
                    have HN := Lib.hid (lower_no hkl (by rw [hc]; exact hn0))
                    clear hn0
                    have b0 : (65 : Int) ≤ c.toNat := by omega
                    have b1 : ¬ (c.toNat : Int) ≤ 90 := by omega
                    have b2 : ¬ (97 : Int) ≤ c.toNat := by omega
                    have b3 : (c.toNat : Int) ≤ 122 := by omega
                    have b4 : (48 : Int) ≤ c.toNat := by omega
                    have b5 : ¬ (c.toNat : Int) ≤ 57 := by omega
                    have b6 : ((c.toNat : Int) == 45) = false := by simp; omega
                    go_wp2_with fail
                    go_ret2
                    exact ⟨by rw [HN.out]; rfl, HB.out⟩
                  · by_cases d7 : c.toNat ≤ 122
                    · have HS := Lib.hid (lpart_same hkl (by rw [hc]; exact lc_no (by omega)))
                      have HM := Lib.hid (show nmc c = true by rw [nm_iff]; omega)
                      have b0 : (65 : Int) ≤ c.toNat := by omega
                      have b1 : ¬ (c.toNat : Int) ≤ 90 := by omega
                      have b2 : (97 : Int) ≤ c.toNat := by omega
                      have b3 : (c.toNat : Int) ≤ 122 := by omega
                      have b4 : (48 : Int) ≤ c.toNat := by omega
                      have b5 : ¬ (c.toNat : Int) ≤ 57 := by omega
                      have b6 : ((c.toNat : Int) == 45) = false := by simp; omega
                      go_wp2_with fail
                      go_roundg (n.size - (k + 1))
                      case measure => have := HG.out; omega
                      case rel => exact ⟨k + 1, by omega, by go_num, by unfold Hid; rw [List.take_add_one, List.getElem?_eq_getElem hkl, List.all_append, HA.out, hc]; simp [HM.out], by unfold Hid; rw [← HS.out]; exact HR.out, HB.out⟩
                    · have hn0 : nmc c = false := by
                        cases h : nmc c
                        · rfl
                        · rw [nm_iff] at h; omega
                      have HN := Lib.hid (lower_no hkl (by rw [hc]; exact hn0))
                      clear hn0
                      have b0 : (65 : Int) ≤ c.toNat := by omega
                      have b1 : ¬ (c.toNat : Int) ≤ 90 := by omega
                      have b2 : (97 : Int) ≤ c.toNat := by omega
                      have b3 : ¬ (c.toNat : Int) ≤ 122 := by omega
                      have b4 : (48 : Int) ≤ c.toNat := by omega
                      have b5 : ¬ (c.toNat : Int) ≤ 57 := by omega
                      have b6 : ((c.toNat : Int) == 45) = false := by simp; omega
                      go_wp2_with fail
                      go_ret2
                      exact ⟨by rw [HN.out]; rfl, HB.out⟩
    · have hk : k = n.size := by omega
      have hkn : n.data.toList.length ≤ k := by rw [Com.toList_length]; omega
      have hall : n.data.toList.all nmc = true := by have := HA.out; rwa [List.take_of_length_le hkn] at this
      have hpt : lpart n.data.toList k = n.data.toList.map lc := by unfold lpart; rw [List.take_of_length_le hkn, List.drop_of_length_le hkn, List.append_nil]
      have HL := Lib.hid (show Ht.lower n.data.toList = (n.data.toList.map lc, decide (0 < n.data.toList.length)) by unfold Ht.lower; rw [if_pos hall])
      have hrr := HR.out
      rw [hpt] at hrr
      have hml : (n.data.toList.map lc).length = n.size := by rw [List.length_map, Com.toList_length]
      have kb := run_convert_bytes_back wr 22 9 5 ⟨w.heap.size, 0, none⟩ cap (n.data.toList.map lc) Tryz.underlying22 Tryz.underlying5 Tryz.underlying9 (fun j hj => by rw [addr_add, Nat.zero_add]; exact hrr.cell (List.getElem?_eq_getElem hj))
      rw [hml] at kb
      clear hrr hpt hall hml
      go_wp2_with fail
      go_ret2
      refine ⟨?_, HB.out⟩
      rw [HL.out]
      simp only [Com.toList_length]
      congr 4
end Go.Proofs.YtnhjbcjeeilicaaGreatDoor.HtD
