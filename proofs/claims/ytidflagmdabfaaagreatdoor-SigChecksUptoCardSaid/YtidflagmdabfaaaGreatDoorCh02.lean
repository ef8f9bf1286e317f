/-
  The walks of the document's one and date. The walk of the document's Unhex.
-/
import Derived.Test.YtidflagmdabfaaaGreatDoorSg19
import Derived.Test.YtidflagmdabfaaaGreatDoorSc06
import Derived.Test.YtidflagmdabfaaaGreatDoorCh01
import Derived.IntWalk
namespace Go.Proofs.YtidflagmdabfaaaGreatDoor.RcA
open Go.RowKit Go.Proofs.YtidflagmdabfaaaGreatDoor Go.Proofs.YtidflagmdabfaaaGreatDoor.Ht Go.Proofs.YtidflagmdabfaaaGreatDoor.HtW Go.Proofs.YtidflagmdabfaaaGreatDoor.Ip Go.Proofs.YtidflagmdabfaaaGreatDoor.RcP

set_option maxHeartbeats 4000000 in
set_option maxRecDepth 100000 in
theorem one (m t : Value) (b : Value) {a : Option Addr} {fs : List Sg.Fld} (n : List UInt8) (c : Nat) (w : World) (hp : Fs w a fs) (hl : fs.length ≤ 9223372036854775807) :
    Calls Tryz.prog 80 #[.agg #[m, t, .slice a fs.length c, b], .string ⟨n.toArray⟩] w fun e w' => e = .returned (.tuple #[.string ⟨(lastOf fs n).toArray⟩, .bool (decide (cnt fs n = 1))]) ∧ Below w.heap.size w w' := by
  have HP := Lib.hid hp; clear hp
  go_enter Tryz.func80, Tryz.ntmps80
  go_wp2_with fail
  go_loopg [6, 7, 13] fs.length (fun g v6 v7 v13 wr => ∃ k : Nat, k + g = fs.length ∧ v13 = .int .i64 k ∧ v6 = .int .i64 (cnt (fs.take k) n : Int) ∧ v7 = .string ⟨(lastOf (fs.take k) n).toArray⟩ ∧ Below w.heap.size w wr)
  case atStart => exact ⟨0, by simp, rfl, rfl, rfl, (Below.refl _ w).alloc (Nat.le_refl _) _⟩
  case round =>
    obtain ⟨k, hkg, rfl, rfl, rfl, hb⟩ := hrel
    have HG := Lib.hid hkg; clear hkg
    have HBB := Lib.hid hb
    by_cases hlt : k < fs.length
    · obtain ⟨q, hqk⟩ : ∃ q, fs[k]? = some q := ⟨fs[k], List.getElem?_eq_getElem hlt⟩
      obtain ⟨b, o, rfl, hbb, d0, d1⟩ := Fs.at HP.out hqk
      have c0 := (hb.cell (p := ⟨b, o + k * 2, none⟩) hbb).trans d0
      have c1 := (hb.cell (p := ⟨b, o + k * 2 + 1, none⟩) hbb).trans d1
      have HD := Lib.hid (HtF.cnt_take n hqk)
      have HE := Lib.hid (last_take n hqk)
      have hcl := HtF.cnt_le (fs.take k) n
      rw [List.length_take] at hcl
      obtain ⟨nm, vl⟩ := q
      simp only at c0 c1
      clear d0 d1 hqk hb
      generalize cnt (fs.take k) n = m at *
      generalize lastOf (fs.take k) n = lv at *
      cases t1 : (nm == n)
      · have HV := Lib.hid (show cnt (fs.take (k + 1)) n = m by rw [HD.out]; simp [t1])
        have HW := Lib.hid (show lastOf (fs.take (k + 1)) n = lv by rw [HE.out, if_neg (by simpa using t1)])
        go_wp2_with fail
        go_roundg (fs.length - (k + 1))
        case rel => exact ⟨k + 1, by omega, by go_num, by rw [HV.out], by rw [HW.out], HBB.out.alloc HBB.out.size _⟩
        case measure => have := HG.out; omega
      · have HV := Lib.hid (show cnt (fs.take (k + 1)) n = m + 1 by rw [HD.out]; simp [t1])
        have HW := Lib.hid (show lastOf (fs.take (k + 1)) n = vl by rw [HE.out, if_pos (by simpa using t1)])
        go_wp2_with fail
        go_roundg (fs.length - (k + 1))
        case rel => exact ⟨k + 1, by omega, by go_num, by rw [HV.out]; go_num, by rw [HW.out], HBB.out.alloc HBB.out.size _⟩
        case measure => have := HG.out; omega
    · have HV := Lib.hid (show cnt (fs.take k) n = cnt fs n by rw [List.take_of_length_le (by omega)])
      have HW := Lib.hid (show lastOf (fs.take k) n = lastOf fs n by rw [List.take_of_length_le (by omega)])
      rw [HV.out, HW.out]
      obtain ⟨m, hm⟩ : ∃ m, m = cnt fs n := ⟨_, rfl⟩
      rw [← hm]
      have hml : m ≤ 9223372036854775807 := by rw [hm]; exact Nat.le_trans (HtF.cnt_le fs n) hl
      have HM := Lib.hid hm
      clear hm
      by_cases h1 : m = 1
      · have q1 : ((m : Int) == 1) = true := by rw [beq_iff_eq]; omega
        have HT := Lib.hid (decide_eq_true h1)
        clear h1
        go_wp2_with fail
        go_ret2
        exact ⟨by rw [← HM.out, HT.out]; rfl, hb⟩
      · have q1 : ((m : Int) == 1) = false := by rw [beq_eq_false_iff_ne]; omega
        have HT := Lib.hid (decide_eq_false h1)
        clear h1
        go_wp2_with fail
        go_ret2
        exact ⟨by rw [← HM.out, HT.out]; rfl, hb⟩

theorem ret2d {a a' : Int} {b b' : Bool} (h1 : a = a') (h2 : b = b') : Ending.returned (.tuple #[.int .i64 a, .bool b]) = .returned (.tuple #[.int .i64 a', .bool b']) := by rw [h1, h2]
/-- a number's text, read as the document reads it -/
def DPost (l : List UInt8) (e : Ending) : Prop := ∃ z : Int, e = .returned (.tuple #[.int .i64 z, .bool (Nm.numOf l).isSome]) ∧ ∀ n, Nm.numOf l = some n → z = (n : Int)
theorem dpost_no {l : List UInt8} (h : Nm.numOf l = none) (z : Int) : DPost l (.returned (.tuple #[.int .i64 z, .bool false])) := ⟨z, by rw [h]; rfl, fun n hn => by rw [h] at hn; cases hn⟩
theorem dpost_yes {l : List UInt8} {n : Nat} (h : Nm.numOf l = some n) {z : Int} (hz : z = n) : DPost l (.returned (.tuple #[.int .i64 z, .bool true])) := ⟨z, by rw [h]; rfl, fun k hk => by rw [h] at hk; cases hk; exact hz⟩

set_option maxHeartbeats 4000000 in
set_option maxRecDepth 100000 in
theorem date (s : ByteArray) (w : World) (hs : s.size ≤ 70368744177664) :
    Calls Tryz.prog 81 #[.string s] w fun e w' => DPost s.data.toList e ∧ w = w' := by
  go_enter Tryz.func81, Tryz.ntmps81
  go_wp2_with fail
  go_loopg [4, 5] s.size (fun g v4 v5 wr => ∃ (k : Nat), k + g = s.size ∧ v5 = .int .i64 k ∧ v4 = .int .i64 (val (s.data.toList.take k) : Int) ∧ Hid ((s.data.toList.take k).all isD = true) ∧ k ≤ 14 ∧ w = wr)
  case atStart => exact ⟨0, by omega, rfl, rfl, rfl, by omega, rfl⟩
  case round =>
    obtain ⟨k, hkg, rfl, rfl, HA, hk14, rfl⟩ := hrel
    have HG := Lib.hid hkg
    have hv := val_small HA.out (by rw [List.length_take]; omega)
    by_cases hlt : k < s.size
    · have HTS := Lib.hid (Com.take_succ s k hlt)
      have y0 : (0 : Int) ≤ (k : Int) := by omega
      have y1 : (k : Int) < (s.size : Int) := by omega
      have hcl := UInt8.toNat_lt s[k]
      by_cases hd : 48 ≤ s[k].toNat ∧ s[k].toNat ≤ 57
      · have q48 : decide ((s[k].toNat : Int) < 48) = false := decide_eq_false (by omega)
        have q57 : decide ((57 : Int) < (s[k].toNat : Int)) = false := decide_eq_false (by omega)
        by_cases h13 : 13 < k
        · have HN := Lib.hid (num_long (l := s.data.toList) (by rw [Com.toList_length]; omega))
          have q13 : decide ((13 : Int) < (k : Int)) = true := decide_eq_true (by omega)
          clear hkg
          go_wp2_with fail
          go_ret2
          exact ⟨dpost_no HN.out _, rfl⟩
        · have q13 : decide ((13 : Int) < (k : Int)) = false := decide_eq_false (by omega)
          have q1 : IntKind.u8.wrap ((s[k].toNat : Int) - 48) = (s[k].toNat : Int) - 48 := IntWalk.u8_in _ ⟨by omega, by omega⟩
          have HV := Lib.hid (show val (s.data.toList.take (k + 1)) = 10 * val (s.data.toList.take k) + (s[k].toNat - 48) by rw [HTS.out, val_snoc])
          have HA2 : Hid ((s.data.toList.take (k + 1)).all isD = true) := by
            unfold Hid
            rw [HTS.out, List.all_append, HA.out]
            simp [isD, hd.1, hd.2]
          obtain ⟨hd1, hd2⟩ := hd
          generalize val (s.data.toList.take k) = v at *
          clear hkg
          go_wp2_with fail
          go_roundg (s.size - (k + 1))
          case measure => have := HG.out; omega
          case rel => exact ⟨k + 1, by have := HG.out; omega, by go_num, by rw [HV.out]; go_num, HA2, by omega, rfl⟩
      · have HN := Lib.hid (num_all (l := s.data.toList) (by
          rw [Bool.eq_false_iff]
          intro h
          rw [List.all_eq_true] at h
          have := (isD_iff _).1 (h s[k] (by show s.data[k] ∈ s.data.toList; simp))
          omega))
        by_cases h48 : s[k].toNat < 48
        · have q48 : decide ((s[k].toNat : Int) < 48) = true := decide_eq_true (by omega)
          clear hkg
          go_wp2_with fail
          go_ret2
          exact ⟨dpost_no HN.out _, rfl⟩
        · have q48 : decide ((s[k].toNat : Int) < 48) = false := decide_eq_false (by omega)
          have q57 : decide ((57 : Int) < (s[k].toNat : Int)) = true := decide_eq_true (by omega)
          clear hkg
          go_wp2_with fail
          go_ret2
          exact ⟨dpost_no HN.out _, rfl⟩
    · have hkz : k = s.size := by omega
      have HT := Lib.hid (Com.take_all s k hkz)
      rw [HT.out] at hv HA ⊢
      have hw := num_ways HA.out
      rw [Com.toList_length] at hw
      obtain ⟨v, hvv⟩ : ∃ v, v = val s.data.toList := ⟨_, rfl⟩
      rw [← hvv] at hv hw ⊢
      clear hvv hkg
      rcases hw with ⟨h1, h2⟩ | ⟨h1, h2, h3⟩ | ⟨h1, h2, h3⟩ | ⟨h1, h2, h3⟩
      · have HN := Lib.hid h2
        clear h2
        have q0 : decide ((0 : Int) < (s.size : Int)) = false := decide_eq_false (by omega)
        go_wp2_with fail
        go_ret2
        exact ⟨dpost_no HN.out _, rfl⟩
      all_goals
        have g0 : 0 < s.size := by omega
        have q0 : decide ((0 : Int) < (s.size : Int)) = true := decide_eq_true (by omega)
        have e0 : s.data.toList[0]? = some s[0] := by
          rw [List.getElem?_eq_getElem (by rw [Com.toList_length]; exact g0)]; rfl
        rw [e0] at h2
      · have HN := Lib.hid h3
        have q1 : ((s[0].toNat : Int) != 48) = true := by
          have := Com.u8_bne (c := s[0]) (d := 48) (fun e => h2 (by rw [e])) (n := 48) rfl
          exact this
        clear h2 h3 e0
        by_cases hle : v ≤ 1099511627776
        · have q2 : decide ((v : Int) ≤ 1099511627776) = true := decide_eq_true (by omega)
          go_wp2_with fail
          go_ret2
          exact ⟨dpost_yes (by rw [HN.out, if_pos hle]) rfl, rfl⟩
        · have q2 : decide ((v : Int) ≤ 1099511627776) = false := decide_eq_false (by omega)
          go_wp2_with fail
          go_ret2
          exact ⟨dpost_no (by rw [HN.out, if_neg hle]) _, rfl⟩
      · have HN := Lib.hid h3
        have q1 : ((s[0].toNat : Int) != 48) = false := by
          rw [Option.some.inj h2]; rfl
        have q3 : ((s.size : Int) == 1) = true := by rw [beq_iff_eq]; omega
        clear h2 h3 e0
        by_cases hle : v ≤ 1099511627776
        · have q2 : decide ((v : Int) ≤ 1099511627776) = true := decide_eq_true (by omega)
          go_wp2_with fail
          go_ret2
          exact ⟨dpost_yes (by rw [HN.out, if_pos hle]) rfl, rfl⟩
        · have q2 : decide ((v : Int) ≤ 1099511627776) = false := decide_eq_false (by omega)
          go_wp2_with fail
          go_ret2
          exact ⟨dpost_no (by rw [HN.out, if_neg hle]) _, rfl⟩
      · have HN := Lib.hid h3
        have q1 : ((s[0].toNat : Int) != 48) = false := by
          rw [Option.some.inj h2]; rfl
        have q3 : ((s.size : Int) == 1) = false := by rw [beq_eq_false_iff_ne]; omega
        clear h2 h3 e0
        go_wp2_with fail
        go_ret2
        exact ⟨dpost_no HN.out _, rfl⟩
end Go.Proofs.YtidflagmdabfaaaGreatDoor.RcA
namespace Go.Proofs.YtidflagmdabfaaaGreatDoor.RcB
open Go.RowKit Go.Proofs.YtidflagmdabfaaaGreatDoor Go.Proofs.YtidflagmdabfaaaGreatDoor.HtW Go.Proofs.YtidflagmdabfaaaGreatDoor.App Go.Proofs.YtidflagmdabfaaaGreatDoor.RsS

/-- a digit's value -/
def dg (c : UInt8) : Int := if 48 ≤ c.toNat ∧ c.toNat ≤ 57 then (c.toNat : Int) - 48 else if 97 ≤ c.toNat ∧ c.toNat ≤ 102 then (c.toNat : Int) - 97 + 10 else -1
theorem isX_dg (c : UInt8) : Nm.isX c = decide (0 ≤ dg c) := by
  unfold dg
  rw [Bool.eq_iff_iff, Nm.isX_iff, decide_eq_true_iff]
  split
  · rename_i h; constructor
    · intro _; omega
    · intro _; exact .inl h
  · split
    · rename_i h; constructor
      · intro _; omega
      · intro _; exact .inr h
    · rename_i h1 h2; constructor
      · rintro (h | h)
        · exact absurd h h1
        · exact absurd h h2
      · intro h; omega
theorem dg_le (c : UInt8) : -1 ≤ dg c ∧ dg c ≤ 15 := by
  unfold dg
  split
  · omega
  · split <;> omega

set_option maxHeartbeats 2000000 in
set_option maxRecDepth 100000 in
theorem digit (c : UInt8) (w : World) : Calls Tryz.prog 140 #[.int .u8 (c.toNat : Int)] w fun e w' => e = .returned (.int .i64 (dg c)) ∧ w = w' := by
  have hcl := UInt8.toNat_lt c
  have HD := Lib.hid (show dg c = if 48 ≤ c.toNat ∧ c.toNat ≤ 57 then (c.toNat : Int) - 48 else if 97 ≤ c.toNat ∧ c.toNat ≤ 102 then (c.toNat : Int) - 97 + 10 else -1 from rfl)
  go_enter Tryz.func140, Tryz.ntmps140
  have hr : (103 ≤ c.toNat ∧ c.toNat ≤ 255) ∨ (97 ≤ c.toNat ∧ c.toNat ≤ 102) ∨ (58 ≤ c.toNat ∧ c.toNat ≤ 96) ∨ (48 ≤ c.toNat ∧ c.toNat ≤ 57) ∨ c.toNat ≤ 47 := by omega
  rcases hr with ⟨h1, h2⟩ | ⟨h1, h2⟩ | ⟨h1, h2⟩ | ⟨h1, h2⟩ | h1
  · have q48 : decide ((48 : Int) ≤ (c.toNat : Int)) = true := decide_eq_true (by omega)
    have q57 : decide ((c.toNat : Int) ≤ 57) = false := decide_eq_false (by omega)
    have q97 : decide ((97 : Int) ≤ (c.toNat : Int)) = true := decide_eq_true (by omega)
    have q102 : decide ((c.toNat : Int) ≤ 102) = false := decide_eq_false (by omega)
    go_wp2_with fail
    go_ret
    exact ⟨by rw [HD.out, if_neg (by omega), if_neg (by omega)]; rfl, rfl⟩
  · have q48 : decide ((48 : Int) ≤ (c.toNat : Int)) = true := decide_eq_true (by omega)
    have q57 : decide ((c.toNat : Int) ≤ 57) = false := decide_eq_false (by omega)
    have q97 : decide ((97 : Int) ≤ (c.toNat : Int)) = true := decide_eq_true (by omega)
    have q102 : decide ((c.toNat : Int) ≤ 102) = true := decide_eq_true (by omega)
    have q1 : IntKind.u8.wrap ((c.toNat : Int) - 97) = (c.toNat : Int) - 97 := IntWalk.u8_in _ ⟨by omega, by omega⟩
    have q2 : IntKind.i64.wrap ((c.toNat : Int) - 97 + 10) = (c.toNat : Int) - 97 + 10 := IntWalk.i64_in _ ⟨by omega, by omega⟩
    go_wp2_with fail
    go_ret
    exact ⟨by rw [HD.out, if_neg (by omega), if_pos (by omega)]; rfl, rfl⟩
  · have q48 : decide ((48 : Int) ≤ (c.toNat : Int)) = true := decide_eq_true (by omega)
    have q57 : decide ((c.toNat : Int) ≤ 57) = false := decide_eq_false (by omega)
    have q97 : decide ((97 : Int) ≤ (c.toNat : Int)) = false := decide_eq_false (by omega)
    go_wp2_with fail
    go_ret
    exact ⟨by rw [HD.out, if_neg (by omega), if_neg (by omega)]; rfl, rfl⟩
  · have q48 : decide ((48 : Int) ≤ (c.toNat : Int)) = true := decide_eq_true (by omega)
    have q57 : decide ((c.toNat : Int) ≤ 57) = true := decide_eq_true (by omega)
    have q1 : IntKind.u8.wrap ((c.toNat : Int) - 48) = (c.toNat : Int) - 48 := IntWalk.u8_in _ ⟨by omega, by omega⟩
    go_wp2_with fail
    go_ret
    exact ⟨by rw [HD.out, if_pos (by omega)]; rfl, rfl⟩
  · have q48 : decide ((48 : Int) ≤ (c.toNat : Int)) = false := decide_eq_false (by omega)
    have q97 : decide ((97 : Int) ≤ (c.toNat : Int)) = false := decide_eq_false (by omega)
    go_wp2_with fail
    go_ret
    exact ⟨by rw [HD.out, if_neg (by omega), if_neg (by omega)]; rfl, rfl⟩

theorem u8_range (z : Int) : 0 ≤ IntKind.u8.wrap z ∧ IntKind.u8.wrap z < 256 := by
  have h : IntKind.u8.wrap z = z % 256 := rfl
  rw [h]
  exact ⟨Int.emod_nonneg _ (by decide), Int.emod_lt_of_pos _ (by decide)⟩
theorem byte_bs (w : World) {z : Int} (hz : 0 ≤ z ∧ z < 256) : Bs (w.alloc (.cells #[.int .u8 z] 5)) (some ⟨w.heap.size, 0, none⟩) [UInt8.ofNat z.toNat] 1 := by
  refine ⟨by simp, (fun h => by cases h), .inr ⟨w.heap.size, 0, rfl, by simp, fun j x hj => ?_⟩⟩
  match j, hj with
  | 0, hj =>
    simp at hj
    subst hj
    rw [Lib.cell_of_heap (heap_alloc_new _ _)]
    have : ((UInt8.ofNat z.toNat).toNat : Int) = z := by rw [UInt8.toNat_ofNat']; omega
    rw [this]; rfl
  | j + 1, hj => simp at hj

set_option maxHeartbeats 4000000 in
set_option maxRecDepth 100000 in
theorem unhex (s : ByteArray) (w : World) (hs : s.size ≤ 1099511627776) :
    Calls Tryz.prog 82 #[.string s] w fun e w' => (∃ v, e = .returned (.tuple #[v, .bool (Nm.isHex s.data.toList)])) ∧ Below w.heap.size w w' := by
  have ho0 := Lib.hid (HtX.own_fresh w w.heap.size (Nat.le_refl _))
  go_enter Tryz.func82, Tryz.ntmps82
  go_wp2_with fail
  go_loopg [4, 5] ((s.size + 1) / 2) (fun g v4 v5 wr => ∃ (k : Nat) (D : List UInt8) (ar : Option Addr) (cr : Nat), k + g = (s.size + 1) / 2 ∧ v5 = .int .i64 ((2 * k : Nat) : Int) ∧ D.length = k ∧ (2 * k ≤ s.size) ∧ v4 = .slice ar D.length cr ∧ Hid (wr.ownsRow w.heap.size 5 1 (.slice ar D.length cr) D.length (Lib.byteCells D)) ∧ Hid ((s.data.toList.take (2 * k)).all Nm.isX = true) ∧ Hid (Below w.heap.size w wr))
  case atStart => exact ⟨0, [], some ⟨w.heap.size, 0, none⟩, 0, by omega, rfl, rfl, by omega, rfl, ho0.out, rfl, (Below.refl _ w).alloc (Nat.le_refl _) _⟩
  case round =>
    clear ho0
    obtain ⟨k, D, ar, cr, hkg, rfl, hDl, hk2s, rfl, HO, HA, HU⟩ := hrel
    subst hDl
    have HG := Lib.hid hkg
    have hz := HU.out.size
    by_cases hlt : 2 * D.length < s.size
    · obtain ⟨p, hp⟩ : ∃ p, p = 2 * D.length := ⟨_, rfl⟩
      rw [← hp]
      have HP := Lib.hid hp
      have hp1 : p < s.size := by omega
      have y0 : (0 : Int) ≤ (p : Int) := by omega
      have y1 : (p : Int) < (s.size : Int) := by omega
      have hwp : IntKind.i64.wrap ((p : Int) + 1) = (p : Int) + 1 := IntWalk.i64_in _ ⟨by omega, by omega⟩
      by_cases hodd : p + 1 = s.size
      · have HN := Lib.hid (show Nm.isHex s.data.toList = false by
          unfold Nm.isHex
          rw [decide_eq_false (by rw [Com.toList_length]; omega)]
          rfl)
        have q1 : ((p : Int) + 1 == (s.size : Int)) = true := by rw [beq_iff_eq]; omega
        clear hkg hp hwp
        go_wp2_with fail
        go_ret2
        exact ⟨⟨_, Unhex.ret2 HN.out.symm⟩, HU.out⟩
      · have hp2 : p + 1 < s.size := by omega
        have q1 : ((p : Int) + 1 == (s.size : Int)) = false := by rw [beq_eq_false_iff_ne]; omega
        have ht1 := Com.take_succ s p hp1
        have ht2 := Com.take_succ s (p + 1) hp2
        have hA' : (s.data.toList.take p).all Nm.isX = true := by rw [hp]; exact HA.out
        have HT := Lib.hid (show (s.data.toList.take (2 * (D.length + 1))).all Nm.isX = (Nm.isX s[p] && Nm.isX s[p + 1]) by
          rw [show 2 * (D.length + 1) = p + 1 + 1 by omega, ht2, ht1, List.all_append, List.all_append, hA']
          simp)
        have HF := Lib.hid (show (Nm.isX s[p] && Nm.isX s[p + 1]) = false → Nm.isHex s.data.toList = false from fun h => by
          unfold Nm.isHex
          rw [Bool.and_eq_false_iff]
          right
          rw [← List.take_append_drop (2 * (D.length + 1)) s.data.toList, List.all_append, HT.out, h, Bool.false_and])
        have y2 : (p : Int) + 1 < (s.size : Int) := by omega
        have y3 : (0 : Int) ≤ (p : Int) + 1 := by omega
        have u1 : ((p : Int) + 1).toNat = p + 1 := by omega
        have u2 : (0 ≤ (p : Int) + 1 ∧ (p : Int) + 1 < (s.size : Int)) = True := eq_true ⟨y3, y2⟩
        have HX := Lib.hid (isX_dg s[p])
        have HY := Lib.hid (isX_dg s[p + 1])
        have hl1 := dg_le s[p]
        have hl2 := dg_le s[p + 1]
        clear hkg hp ht1 ht2 hodd
        by_cases hx0 : 0 ≤ dg s[p]
        · by_cases hy0 : 0 ≤ dg s[p + 1]
          · have HQ := Lib.hid (show (Nm.isX s[p] && Nm.isX s[p + 1]) = true by rw [HX.out, HY.out, decide_eq_true hx0, decide_eq_true hy0]; rfl)
            have b1 : decide (dg s[p] < 0) = false := decide_eq_false (by omega)
            have b2 : decide (dg s[p + 1] < 0) = false := decide_eq_false (by omega)
            have hw8 := HO.out
            go_wp2_with (go_at_call 140; refine (digit _ _).mono ?_; rintro e w5 ⟨rfl, hw5⟩; subst hw5)
            go_region_held3 (fun _ => True)
              (first | trivial | go_keep)
              (first
                | (go_at_call 140; refine (digit _ _).mono ?_; rintro e w5 ⟨rfl, hw5⟩; subst hw5)
                | (refine step_append_bs (by rfl) (.tmp 33) (.tmp 46) (by rfl) w.heap.size D _ (some ⟨wr.heap.size, 0, none⟩) 1 (own_drew (own_alloc hw8 _)) (bs_drew (byte_bs wr (u8_range _))) (by show w.heap.size ≤ (World.alloc wr _).heap.size; rw [World.size_alloc]; omega) (by simp; omega) (by rfl) (by rfl) ?_; intro ar2 cr2 w2 h2 b2))
            all_goals
              have H2 := Lib.hid h2; clear h2
              go_wp2_with fail
              go_roundg ((s.size + 1) / 2 - (D.length + 1))
              case measure => have := HG.out; omega
              case rel =>
                have e2 := H2.out
                rw [← List.length_append] at e2
                refine ⟨D.length + 1, D ++ [_], ar2, cr2, by have := HG.out; omega, by have := HP.out; go_num, by rw [List.length_append]; rfl, by have := HP.out; omega, ?_, e2, by rw [HT.out]; exact HQ.out, ((HU.out.alloc hz _).drew).trans b2⟩
                rw [List.length_append]; rfl
          · have hno := HF.out (by rw [HX.out, HY.out, decide_eq_false hy0, Bool.and_false])
            have b1 : decide (dg s[p + 1] < 0) = true := decide_eq_true (by omega)
            have b2 : decide (dg s[p] < 0) = false := decide_eq_false (by omega)
            go_wp2_with (go_at_call 140; refine (digit _ _).mono ?_; rintro e w5 ⟨rfl, hw5⟩; subst hw5)
            go_ret2
            exact ⟨⟨_, by first | rfl | exact Unhex.ret2 hno.symm⟩, HU.out⟩
        · have hno := HF.out (by rw [HX.out, HY.out, decide_eq_false hx0, Bool.false_and])
          have b1 : decide (dg s[p] < 0) = true := decide_eq_true (by omega)
          go_wp2_with (go_at_call 140; refine (digit _ _).mono ?_; rintro e w5 ⟨rfl, hw5⟩; subst hw5)
          go_ret2
          exact ⟨⟨_, by first | rfl | exact Unhex.ret2 hno.symm⟩, HU.out⟩
    · have hk2 : 2 * D.length = s.size := by omega
      have HY := Lib.hid (show Nm.isHex s.data.toList = true by
        have h1 := HA.out
        rw [Com.take_all s _ hk2] at h1
        unfold Nm.isHex
        rw [h1, Com.toList_length, decide_eq_true (by omega)]
        rfl)
      rw [hk2]
      clear hkg hk2 hlt
      go_wp2_with fail
      go_ret2
      exact ⟨⟨_, Unhex.ret2 HY.out.symm⟩, HU.out⟩
end Go.Proofs.YtidflagmdabfaaaGreatDoor.RcB
