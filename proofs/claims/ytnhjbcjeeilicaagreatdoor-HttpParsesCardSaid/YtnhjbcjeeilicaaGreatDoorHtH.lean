/-
  The walk of package http's length.
-/
import Derived.Test.YtnhjbcjeeilicaaGreatDoorHtG
namespace Go.Proofs.YtnhjbcjeeilicaaGreatDoor.HtH
open Go.RowKit Go.Proofs.YtnhjbcjeeilicaaGreatDoor Go.Proofs.YtnhjbcjeeilicaaGreatDoor.Ht Go.Proofs.YtnhjbcjeeilicaaGreatDoor.HtW Go.Proofs.YtnhjbcjeeilicaaGreatDoor.HtA Go.Proofs.YtnhjbcjeeilicaaGreatDoor.HtF

theorem dec_from : ∀ (l : List UInt8) (acc : Nat), l.all (rng 48 57) = true → Lib.decFrom acc l = some (l.foldl (fun n c => n * 10 + (c.toNat - 48)) acc)
  | [], acc, _ => rfl
  | c :: r, acc, h => by
    simp only [List.all_cons, Bool.and_eq_true] at h
    have hc : 48 ≤ c.toNat ∧ c.toNat ≤ 57 := by have := h.1; simp [rng] at this; omega
    unfold Lib.decFrom Lib.digitVal
    rw [if_pos hc]
    exact dec_from r _ h.2
theorem atoi_digits {l : List UInt8} (h : allR 48 57 l = true) (hn : l ≠ []) : Lib.atoi l = some (dec l : Int) := by
  cases l with
  | nil => exact absurd rfl hn
  | cons c r =>
    have h1 : (c :: r).all (rng 48 57) = true := h
    have hc : 48 ≤ c.toNat ∧ c.toNat ≤ 57 := by
      simp only [List.all_cons, Bool.and_eq_true] at h1
      have := h1.1; simp [rng] at this; omega
    have e1 : (c == 45) = false := by simp only [beq_eq_false_iff_ne]; rintro rfl; exact absurd hc.1 (by decide)
    have e2 : (c == 43) = false := by simp only [beq_eq_false_iff_ne]; rintro rfl; exact absurd hc.1 (by decide)
    simp only [Lib.atoi, Lib.decNat, e1, e2, dec_from _ 0 h1, List.isEmpty_cons, Bool.false_eq_true, if_false]
    rfl
theorem size_bad {fs : List Fld} (h : 0 < cnt fs te ∨ 1 < cnt fs cl) : Ht.size fs = .no .bad := by unfold Ht.size; rw [if_pos h]
theorem size_none {fs : List Fld} (h : ¬ (0 < cnt fs te ∨ 1 < cnt fs cl)) (h2 : Ht.get fs cl = none) : Ht.size fs = .ok 0 := by unfold Ht.size; rw [if_neg h, h2]
theorem size_some {fs : List Fld} (h : ¬ (0 < cnt fs te ∨ 1 < cnt fs cl)) {s : List UInt8} (h2 : Ht.get fs cl = some s) : Ht.size fs = if 1 ≤ s.length ∧ s.length ≤ 9 ∧ allR 48 57 s = true then (if 1024 < dec s then .no .large else .ok (dec s)) else .no .bad := by unfold Ht.size; rw [if_neg h, h2]

def SizePost (fs : List Fld) (aR aL : Addr) (e : Ending) : Prop := match Ht.size fs with
  | .ok n => e = .returned (.tuple #[.int .i64 (n : Int), .nilIface])
  | .no er => e = .returned (.tuple #[.int .i64 0, erv aR aL er])

set_option maxHeartbeats 4000000 in
set_option maxRecDepth 100000 in
theorem length (m t : ByteArray) (b : Value) {a : Option Addr} {fs : List Fld} (c : Nat) (w : World) {aR aL : Addr} (hp : Fs w a fs) (hl : fs.length ≤ 32) (he : Errs w aR aL) (hb : b = .slice none 0 0) :
    Calls Tryz.prog 15 #[.agg #[.string m, .string t, .slice a fs.length c, b]] w fun e w' => SizePost fs aR aL e ∧ Below w.heap.size w w' := by
  subst hb
  go_enter Tryz.func15, Tryz.ntmps15
  go_wp2_with fail
  have hb0 : Below w.heap.size w (w.alloc (.cells #[.string m, .string t, .slice a fs.length c, .slice none 0 0] 27)) := (Below.refl _ _).alloc (Nat.le_refl _) _
  have hR0 : HtC.Rq w.heap.size (w.alloc (.cells #[.string m, .string t, .slice a fs.length c, .slice none 0 0] 27)) (.string m) (.string t) (.slice a fs.length c) (.slice none 0 0) := heap_alloc_new _ _
  refine (fieldOf (.string m) (.string t) (.slice none 0 0) cl c _ (hp.below hb0) (by omega)).mono ?_
  rintro e w1 ⟨rfl, hb1⟩
  have hp1 := (hp.below hb0).below hb1
  have he1 := (he.below hb0).below hb1
  have hR1 := hR0.below hb1
  have hB1 := hb0.trans (hb1.mono hb0.size)
  obtain ⟨r0, r1, r2, r3, _⟩ := hR1.cells
  obtain ⟨gv, hgv⟩ : ∃ gv, gv = (Ht.get fs cl).getD [] := ⟨_, rfl⟩
  obtain ⟨gb, hgb⟩ : ∃ gb, gb = (Ht.get fs cl).isSome := ⟨_, rfl⟩
  rw [← hgv, ← hgb]
  have HGV := Lib.hid hgv
  have HGB := Lib.hid hgb
  have ct1 := cnt_le fs te
  have ct2 := cnt_le fs cl
  clear hgv hgb hb0 hR0 hb1 hp he
  go_wp2_with fail
  refine (count (.string m) (.string t) (.slice none 0 0) te c _ hp1 (by omega)).mono ?_
  rintro e w2 ⟨rfl, hb2⟩
  have hp2 := hp1.below hb2
  have he2 := he1.below hb2
  have hR2 := hR1.below hb2
  have hB2 := hB1.trans (hb2.mono hB1.size)
  clear r0 r1 r2 r3 hb2 hp1 he1 hR1 hB1
  obtain ⟨r0, r1, r2, r3, _⟩ := hR2.cells
  by_cases c1 : 0 < cnt fs te
  · have HS := Lib.hid (size_bad (.inl c1))
    have hq := he2.req
    have HB := Lib.hid hB2
    go_wp2_with fail
    go_quiet (fail)
    go_wp2
    go_ret2
    exact ⟨by unfold SizePost; rw [HS.out]; rfl, HtC.below_drewN HB.out nq⟩
  · go_wp2_with fail
    refine (count (.string m) (.string t) (.slice none 0 0) cl c _ hp2 (by omega)).mono ?_
    rintro e w3 ⟨rfl, hb3⟩
    have he3 := he2.below hb3
    have hq := he3.req
    have hql := he3.large
    have HB := Lib.hid (hB2.trans (hb3.mono hB2.size))
    clear hb3 hp2 he2 hR2 hB2 r0 r1 r2 r3 he3
    by_cases c2 : 1 < cnt fs cl
    · have HS := Lib.hid (size_bad (.inr c2))
      go_wp2_with fail
      go_quiet (fail)
      go_wp2
      go_ret2
      exact ⟨by unfold SizePost; rw [HS.out]; rfl, HtC.below_drewN HB.out nq⟩
    · have HNO := Lib.hid (show ¬ (0 < cnt fs te ∨ 1 < cnt fs cl) by omega)
      cases hg : Ht.get fs cl with
      | none =>
        have HS := Lib.hid (size_none HNO.out hg)
        have e1 := HGB.out
        rw [hg] at e1
        simp only [Option.isSome_none] at e1
        subst e1
        go_wp2_with fail
        go_ret2
        exact ⟨by unfold SizePost; rw [HS.out]; rfl, HB.out⟩
      | some s =>
        have HS := Lib.hid (size_some HNO.out hg)
        have e1 := HGB.out
        have e2 := HGV.out
        rw [hg] at e1 e2
        simp only [Option.isSome_some, Option.getD_some] at e1 e2
        subst e1 e2
        by_cases l1 : 1 ≤ gv.length
        · by_cases l2 : gv.length ≤ 9
          · cases l3 : allR 48 57 gv
            · go_wp2_with fail
              refine (between ⟨gv.toArray⟩ 48 57 _ (by rw [Com.size_mk]; omega)).mono ?_
              rintro e w' ⟨rfl, hw'⟩
              obtain rfl := hw'.symm
              rw [show allR 48 57 (ByteArray.mk gv.toArray).data.toList = false from l3]
              go_wp2_with fail
              go_quiet (fail)
              go_wp2
              go_ret2
              exact ⟨by unfold SizePost; rw [HS.out, if_neg (by rintro ⟨_, _, h⟩; rw [l3] at h; cases h)]; rfl, HtC.below_drewN HB.out nq⟩
            · have hat := atoi_digits l3 (by intro h; rw [h] at l1; simp at l1)
              go_wp2_with fail
              refine (between ⟨gv.toArray⟩ 48 57 _ (by rw [Com.size_mk]; omega)).mono ?_
              rintro e w' ⟨rfl, hw'⟩
              obtain rfl := hw'.symm
              rw [show allR 48 57 (ByteArray.mk gv.toArray).data.toList = true from l3]
              go_wp2_with fail
              refine (Tryz.strconv_Atoi ⟨gv.toArray⟩ (dec gv : Int) (by rw [Com.size_mk]; omega) hat _).mono ?_
              rintro e w4 ⟨rfl, t4, rfl⟩
              have hb4 := Lib.bytesWorld_below w' 5 t4
              have hql4 : (Lib.bytesWorld w' 5 t4).cell? ⟨0, 0, none⟩ = some (.iface 126 (.pointer (some aL))) := (hb4.cell (World.block_lt_of_cell? _ _ hql)).trans hql
              have HB4 := Lib.hid (HB.out.trans (hb4.mono HB.out.size))
              generalize hW : Lib.bytesWorld w' 5 t4 = W4 at *
              clear hW hb4 hat
              by_cases l4 : 1024 < dec gv
              · go_wp2_with fail
                go_quiet (fail)
                go_wp2
                go_ret2
                exact ⟨by unfold SizePost; rw [HS.out, if_pos ⟨l1, l2, l3⟩, if_pos l4]; rfl, HtC.below_drewN HB4.out nq⟩
              · go_wp2_with fail
                go_ret2
                exact ⟨by unfold SizePost; rw [HS.out, if_pos ⟨l1, l2, l3⟩, if_neg l4]; rfl, HB4.out⟩
          · go_wp2_with fail
            go_quiet (fail)
            go_wp2
            go_ret2
            exact ⟨by unfold SizePost; rw [HS.out, if_neg (by omega)]; rfl, HtC.below_drewN HB.out nq⟩
        · go_wp2_with fail
          go_quiet (fail)
          go_wp2
          go_ret2
          exact ⟨by unfold SizePost; rw [HS.out, if_neg (by omega)]; rfl, HtC.below_drewN HB.out nq⟩
end Go.Proofs.YtnhjbcjeeilicaaGreatDoor.HtH
