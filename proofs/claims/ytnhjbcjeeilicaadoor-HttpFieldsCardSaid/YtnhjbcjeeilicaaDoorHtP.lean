/-
  The walk of the law HttpFields.
-/
import Derived.Test.YtnhjbcjeeilicaaDoorHtN
import Derived.Test.YtnhjbcjeeilicaaDoorHtO
import Derived.Test.YtnhjbcjeeilicaaDoorHtF
namespace Go.Proofs.YtnhjbcjeeilicaaDoor.HtP
open Go.RowKit Go.Proofs.YtnhjbcjeeilicaaDoor Go.Proofs.YtnhjbcjeeilicaaDoor.Ht Go.Proofs.YtnhjbcjeeilicaaDoor.HtW Go.Proofs.YtnhjbcjeeilicaaDoor.HtC Go.Proofs.YtnhjbcjeeilicaaDoor.HtF Go.Proofs.YtnhjbcjeeilicaaDoor.HtJ Go.Proofs.YtnhjbcjeeilicaaDoor.HtK Go.Proofs.YtnhjbcjeeilicaaDoor.HtN Go.Proofs.YtnhjbcjeeilicaaDoor.HtO

theorem get_take {fs : List Fld} {k : Nat} {q : Fld} (n : List UInt8) (h : fs[k]? = some q) : get (fs.take (k + 1)) n = (get (fs.take k) n).or (if q.1 = n then some q.2 else none) := by
  unfold Ht.get
  rw [List.take_add_one, h, List.find?_append]
  by_cases e : q.1 = n
  · cases (fs.take k).find? (fun f => f.1 == n) <;> simp [e]
  · cases (fs.take k).find? (fun f => f.1 == n) <;> simp [e]
theorem box_rq (w : World) (a b c d : Value) : Rq w.heap.size (w.alloc (.cells #[a, b, c, d] 25)) a b c d := heap_alloc_new _ _

set_option maxHeartbeats 4000000 in
set_option maxRecDepth 100000 in
theorem fields (m t b : Value) {a : Option Addr} {fs : List Fld} (n : List UInt8) (c : Nat) (st : Int) (w : World) {aR aL : Addr} (hp : Fs w a fs) (hl : fs.length ≤ 9223372036854775807) (hm : Mx w) (he : Errs w aR aL) (ht : Tab w) :
    Calls Tryd.prog 3 #[.agg #[m, t, .slice a fs.length c, b], .string ⟨n.toArray⟩, .int .i64 st] w fun e w' => e = .returned (.bool true) ∧ Below w.heap.size w w' := by
  have HP := Lib.hid hp; clear hp
  have HM := Lib.hid hm; clear hm
  have HE := Lib.hid he; clear he
  have HT := Lib.hid ht; clear ht
  go_enter Tryd.func3, Tryd.ntmps3
  have hal := (Below.refl w.heap.size w).alloc (Nat.le_refl _) (.cells #[m, t, .slice a fs.length c, b] 25)
  have hrq := box_rq w m t (.slice a fs.length c) b
  go_wp2_with (go_at_call 9; refine (alive _ (HM.out.below hal) (HE.out.below hal) (HT.out.below hal)).mono ?_; rintro e w1 ⟨rfl, hb1⟩; have hr1 := hrq.below hb1; have hB1 := hal.trans (hb1.mono (by simp)); obtain ⟨x0, x1, x2, x3, -, -, -, -⟩ := hr1.cells)
  go_wp2_with (go_at_call 10; refine (fieldOf m t b n c _ (HP.out.below hB1) hl).mono ?_; rintro e w2 ⟨rfl, hb2⟩; have hr2 := hr1.below hb2; have hB2 := hB1.trans (hb2.mono hB1.size); clear x0 x1 x2 x3 hr1 hb1 hb2 hal hrq; obtain ⟨x0, x1, x2, x3, -, -, -, -⟩ := hr2.cells)
  go_loopg [9, 10, 11, 25] fs.length (fun g v9 v10 v11 v25 wr => ∃ k : Nat, k + g = fs.length ∧ v25 = .int .i64 k ∧ v9 = .string ⟨((get (fs.take k) n).getD []).toArray⟩ ∧ v10 = .bool (get (fs.take k) n).isSome ∧ v11 = .int .i64 (cnt (fs.take k) n : Int) ∧ Rq w.heap.size wr m t (.slice a fs.length c) b ∧ Below w.heap.size w wr)
  case atStart => exact ⟨0, by simp, rfl, rfl, rfl, rfl, hr2, hB2⟩
  case round =>
    clear hr2 hB2 x0 x1 x2 x3
    obtain ⟨k, hkg, rfl, rfl, rfl, rfl, hr, hb⟩ := hrel
    have HG := Lib.hid hkg; clear hkg
    have HBB := Lib.hid hb
    by_cases hlt : k < fs.length
    · obtain ⟨q, hqk⟩ : ∃ q, fs[k]? = some q := ⟨fs[k], List.getElem?_eq_getElem hlt⟩
      obtain ⟨bb, o, rfl, hbb, d0, d1⟩ := Fs.at HP.out hqk
      have c0 := (hb.cell (p := ⟨bb, o + k * 2, none⟩) hbb).trans d0
      have c1 := (hb.cell (p := ⟨bb, o + k * 2 + 1, none⟩) hbb).trans d1
      have HD := Lib.hid (cnt_take n hqk)
      have HD2 := Lib.hid (get_take n hqk)
      have hcl := cnt_le (fs.take k) n
      rw [List.length_take] at hcl
      obtain ⟨nm, vl⟩ := q
      simp only at c0 c1
      have hr' := fun o : Obj => hr.below ((Below.refl wr.heap.size wr).alloc (Nat.le_refl _) o)
      clear d0 d1 hqk hb hr
      generalize cnt (fs.take k) n = cn at *
      cases t1 : (nm == n)
      · have e : ¬ nm = n := by simpa using t1
        have HV := Lib.hid (show cnt (fs.take (k + 1)) n = cn by rw [HD.out]; simp [t1])
        have HV2 := Lib.hid (show get (fs.take (k + 1)) n = get (fs.take k) n by rw [HD2.out, if_neg e]; simp)
        clear e
        generalize get (fs.take k) n = gt at *
        go_wp2_with fail
        go_roundg (fs.length - (k + 1))
        case rel => exact ⟨k + 1, by omega, by go_num, by rw [HV2.out], by rw [HV2.out], by rw [HV.out], hr' _, HBB.out.alloc HBB.out.size _⟩
        case measure => have := HG.out; omega
      · have e : nm = n := by simpa using t1
        have HV := Lib.hid (show cnt (fs.take (k + 1)) n = cn + 1 by rw [HD.out]; simp [t1])
        cases hgt : get (fs.take k) n with
        | none =>
          have HV2 := Lib.hid (show get (fs.take (k + 1)) n = some vl by rw [HD2.out, if_pos e, hgt]; rfl)
          clear e
          go_wp2_with fail
          go_roundg (fs.length - (k + 1))
          case rel => exact ⟨k + 1, by omega, by go_num, by rw [HV2.out]; rfl, by rw [HV2.out]; rfl, by rw [HV.out]; go_num, hr' _, HBB.out.alloc HBB.out.size _⟩
          case measure => have := HG.out; omega
        | some v =>
          have HV2 := Lib.hid (show get (fs.take (k + 1)) n = some v by rw [HD2.out, hgt]; rfl)
          clear e
          go_wp2_with fail
          go_roundg (fs.length - (k + 1))
          case rel => exact ⟨k + 1, by omega, by go_num, by rw [HV2.out]; rfl, by rw [HV2.out]; rfl, by rw [HV.out]; go_num, hr' _, HBB.out.alloc HBB.out.size _⟩
          case measure => have := HG.out; omega
    · have HV := Lib.hid (show fs.take k = fs by rw [List.take_of_length_le (by omega)])
      rw [HV.out]
      obtain ⟨x0, x1, x2, x3, -, -, -, -⟩ := hr.cells
      have hcl := cnt_le fs n
      generalize get fs n = gt at *
      go_wp2_with (go_at_call 11; refine (count m t b n c _ (HP.out.below hb) hl).mono ?_; rintro e w3 ⟨rfl, hb3⟩)
      go_wp2_with (first | (go_at_call 12; refine (reason st _).mono ?_; rintro e w4 ⟨rfl, rfl⟩) | (go_at_call 13; refine (refReason st _).mono ?_; rintro e w5 ⟨rfl, hb5⟩))
      go_ret
      exact ⟨rfl, hb.trans ((hb3.trans (hb5.mono hb3.size)).mono hb.size)⟩
end Go.Proofs.YtnhjbcjeeilicaaDoor.HtP
