/-
  The walks of package http's Field and Count.
-/
import Derived.Test.YtnhjbcjeeilicaaGreatDoorHtC
namespace Go.Proofs.YtnhjbcjeeilicaaGreatDoor.HtF
open Go.RowKit Go.Proofs.YtnhjbcjeeilicaaGreatDoor Go.Proofs.YtnhjbcjeeilicaaGreatDoor.Ht Go.Proofs.YtnhjbcjeeilicaaGreatDoor.HtW

theorem get_drop {fs : List Fld} {k : Nat} {q : Fld} (n : List UInt8) (h : fs[k]? = some q) : get (fs.drop k) n = if q.1 = n then some q.2 else get (fs.drop (k + 1)) n := by
  obtain ⟨hk, rfl⟩ := List.getElem?_eq_some_iff.1 h
  rw [List.drop_eq_getElem_cons hk]
  unfold Ht.get
  rw [List.find?_cons]
  by_cases e : fs[k].1 = n
  · simp [e]
  · have : (fs[k].1 == n) = false := by simpa using e
    rw [this, if_neg e]
theorem cnt_take {fs : List Fld} {k : Nat} {q : Fld} (n : List UInt8) (h : fs[k]? = some q) : cnt (fs.take (k + 1)) n = cnt (fs.take k) n + (if (q.1 == n) = true then 1 else 0) := by
  unfold cnt
  rw [List.take_add_one, h, List.filter_append, List.length_append]
  cases e : (q.1 == n) <;> simp [e]
theorem cnt_le (fs : List Fld) (n : List UInt8) : cnt fs n ≤ fs.length := List.length_filter_le _ _

set_option maxHeartbeats 4000000 in
set_option maxRecDepth 100000 in
theorem fieldOf (m t : Value) (b : Value) {a : Option Addr} {fs : List Fld} (n : List UInt8) (c : Nat) (w : World) (hp : Fs w a fs) (hl : fs.length ≤ 9223372036854775807) :
    Calls Tryz.prog 33 #[.agg #[m, t, .slice a fs.length c, b], .string ⟨n.toArray⟩] w fun e w' => e = .returned (.tuple #[.string ⟨((get fs n).getD []).toArray⟩, .bool (get fs n).isSome]) ∧ Below w.heap.size w w' := by
  have HP := Lib.hid hp; clear hp
  go_enter Tryz.func33, Tryz.ntmps33
  go_wp2_with fail
  go_loopg [11] fs.length (fun g v11 wr => ∃ k : Nat, k + g = fs.length ∧ v11 = .int .i64 k ∧ Hid (get fs n = get (fs.drop k) n) ∧ Below w.heap.size w wr)
  case atStart => exact ⟨0, by simp, rfl, by unfold Hid; rfl, (Below.refl _ w).alloc (Nat.le_refl _) _⟩
  case round =>
    obtain ⟨k, hkg, rfl, HN, hb⟩ := hrel
    have HG := Lib.hid hkg; clear hkg
    have HBB := Lib.hid hb
    by_cases hlt : k < fs.length
    · obtain ⟨q, hqk⟩ : ∃ q, fs[k]? = some q := ⟨fs[k], List.getElem?_eq_getElem hlt⟩
      obtain ⟨b, o, rfl, hbb, d0, d1⟩ := Fs.at HP.out hqk
      have c0 := (hb.cell (p := ⟨b, o + k * 2, none⟩) hbb).trans d0
      have c1 := (hb.cell (p := ⟨b, o + k * 2 + 1, none⟩) hbb).trans d1
      have HD := Lib.hid (get_drop n hqk)
      obtain ⟨nm, vl⟩ := q
      simp only at c0 c1
      clear d0 d1 hqk hb
      by_cases e : nm = n
      · have HV := Lib.hid (show get fs n = some vl by rw [HN.out, HD.out, if_pos e])
        subst e
        go_wp2_with fail
        go_ret2
        exact ⟨by rw [HV.out]; rfl, HBB.out.alloc HBB.out.size _⟩
      · have HV : Hid (get fs n = get (fs.drop (k + 1)) n) := by unfold Hid; rw [HN.out, HD.out, if_neg e]
        have t1 : (nm == n) = false := by simpa using e
        clear e
        go_wp2_with fail
        go_roundg (fs.length - (k + 1))
        case rel => exact ⟨k + 1, by omega, by go_num, HV, HBB.out.alloc HBB.out.size _⟩
        case measure => have := HG.out; omega
    · have HV := Lib.hid (show get fs n = none by rw [HN.out, List.drop_eq_nil_of_le (by omega)]; rfl)
      go_wp2_with fail
      go_ret2
      exact ⟨by rw [HV.out]; rfl, hb⟩

set_option maxHeartbeats 4000000 in
set_option maxRecDepth 100000 in
theorem count (m t : Value) (b : Value) {a : Option Addr} {fs : List Fld} (n : List UInt8) (c : Nat) (w : World) (hp : Fs w a fs) (hl : fs.length ≤ 9223372036854775807) :
    Calls Tryz.prog 34 #[.agg #[m, t, .slice a fs.length c, b], .string ⟨n.toArray⟩] w fun e w' => e = .returned (.int .i64 (cnt fs n : Int)) ∧ Below w.heap.size w w' := by
  have HP := Lib.hid hp; clear hp
  go_enter Tryz.func34, Tryz.ntmps34
  go_wp2_with fail
  go_loopg [5, 11] fs.length (fun g v5 v11 wr => ∃ k : Nat, k + g = fs.length ∧ v11 = .int .i64 k ∧ v5 = .int .i64 (cnt (fs.take k) n : Int) ∧ Below w.heap.size w wr)
  case atStart => exact ⟨0, by simp, rfl, rfl, (Below.refl _ w).alloc (Nat.le_refl _) _⟩
  case round =>
    obtain ⟨k, hkg, rfl, rfl, hb⟩ := hrel
    have HG := Lib.hid hkg; clear hkg
    have HBB := Lib.hid hb
    by_cases hlt : k < fs.length
    · obtain ⟨q, hqk⟩ : ∃ q, fs[k]? = some q := ⟨fs[k], List.getElem?_eq_getElem hlt⟩
      obtain ⟨b, o, rfl, hbb, d0, d1⟩ := Fs.at HP.out hqk
      have c0 := (hb.cell (p := ⟨b, o + k * 2, none⟩) hbb).trans d0
      have c1 := (hb.cell (p := ⟨b, o + k * 2 + 1, none⟩) hbb).trans d1
      have HD := Lib.hid (cnt_take n hqk)
      have hcl := cnt_le (fs.take k) n
      rw [List.length_take] at hcl
      obtain ⟨nm, vl⟩ := q
      simp only at c0 c1
      clear d0 d1 hqk hb
      generalize cnt (fs.take k) n = m at *
      cases t1 : (nm == n)
      · have HV := Lib.hid (show cnt (fs.take (k + 1)) n = m by rw [HD.out]; simp [t1])
        go_wp2_with fail
        go_roundg (fs.length - (k + 1))
        case rel => exact ⟨k + 1, by omega, by go_num, by rw [HV.out], HBB.out.alloc HBB.out.size _⟩
        case measure => have := HG.out; omega
      · have HV := Lib.hid (show cnt (fs.take (k + 1)) n = m + 1 by rw [HD.out]; simp [t1])
        go_wp2_with fail
        go_roundg (fs.length - (k + 1))
        case rel => exact ⟨k + 1, by omega, by go_num, by rw [HV.out]; go_num, HBB.out.alloc HBB.out.size _⟩
        case measure => have := HG.out; omega
    · have HV := Lib.hid (show cnt (fs.take k) n = cnt fs n by rw [List.take_of_length_le (by omega)])
      rw [HV.out]
      go_wp2_with fail
      go_ret
      exact ⟨rfl, hb⟩
end Go.Proofs.YtnhjbcjeeilicaaGreatDoor.HtF
