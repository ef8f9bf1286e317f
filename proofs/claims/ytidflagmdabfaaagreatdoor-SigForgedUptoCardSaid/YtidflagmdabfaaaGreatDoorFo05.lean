/-
  The walk of the law SigForged.
-/
import Derived.Test.YtidflagmdabfaaaGreatDoorFo04
import Derived.Deep.CutRange
namespace Go.Proofs.YtidflagmdabfaaaGreatDoor.SgV
open Go.RowKit Go.Proofs.YtidflagmdabfaaaGreatDoor Go.Proofs.YtidflagmdabfaaaGreatDoor.HtW Go.Proofs.YtidflagmdabfaaaGreatDoor.HtC Go.Proofs.YtidflagmdabfaaaGreatDoor.Ato Go.Proofs.YtidflagmdabfaaaGreatDoor.SgA Go.Proofs.YtidflagmdabfaaaGreatDoor.SgB Go.Proofs.YtidflagmdabfaaaGreatDoor.SgC Go.Proofs.YtidflagmdabfaaaGreatDoor.SgM Go.Proofs.YtidflagmdabfaaaGreatDoor.SgO Go.Proofs.YtidflagmdabfaaaGreatDoor.SgP

theorem sign_text {m t bd : List UInt8} {fs fa : List Sg.Fld} {n s : List UInt8} {d : Int} (h : Sg.sign m t bd fs n s d = .ok fa) : ∃ x, Sg.text m t bd d = .ok x := by
  unfold Sg.sign at h
  cases hx : Sg.text m t bd d with
  | no e => rw [hx] at h; cases h
  | ok x => exact ⟨x, rfl⟩
theorem sigD (x s : List UInt8) (d : Int) (w : World) (h0 : 0 ≤ d) (h1 : d ≤ 9223372036854775807) (hx : x.length ≤ 140737488340000) (hs : s.length ≤ 140737488340000) :
    Calls Tryz.prog 41 #[.string ⟨x.toArray⟩, .string ⟨s.toArray⟩, .int .i64 d] w fun e w' => e = .returned (.string ⟨(Sg.sigOf x s d).toArray⟩) ∧ Below w.heap.size w w' := by
  obtain ⟨k, rfl⟩ := Int.eq_ofNat_of_zero_le h0
  exact RsS.rsig x s k w hx hs (by omega)
/-- a row that is not empty has a block of its own -/
theorem own_at {w : World} {base : Nat} {e : TypeId} {size : Nat} {a : Option Addr} {n c : Nat} {xs : List Value} (h : w.ownsRow base e size (.slice a n c) n xs) (hn : n ≠ 0) : ∃ g cur, a = some ⟨g, 0, none⟩ ∧ base ≤ g ∧ w.heap[g]? = some (.cells cur e (0, 0)) := by
  rcases h.2 with ⟨_, h0⟩ | ⟨g, cap, cur, hv, hb, hg, _⟩
  · exact absurd h0 hn
  · simp only [Value.slice.injEq] at hv
    exact ⟨g, cur, hv.1, hb, hg⟩

set_option maxHeartbeats 4000000 in
set_option maxRecDepth 100000 in
theorem forged (m t bd n s oth : List UInt8) (fs : List Sg.Fld) {af ab : Option Addr} (cf cb : Nat) (date off : Int) (w : World) {aU aR aD aK : Addr} (hE : Env w aU aR aD aK) (hN : Ne w) (hf : Fs w af fs) (hb : Bs w ab bd cb)
    (ht : t.length ≤ 1048576) (hm : m.length ≤ 1048576) (hn : n.length ≤ 1048576) (hs : s.length ≤ 1048576) (hbl : bd.length ≤ 1048576) (hfl : fs.length ≤ 1048576) (hfv : ∀ q ∈ fs, q.2.length ≤ 1048576)
    (d0 : -9223372036854775808 ≤ date) (d1 : date ≤ 9223372036854775807) (ho : oth.length ≤ 1048576) (hbR : ∃ c t, w.heap[aR.block]? = some (.cells c t (0, 0))) (hbD : ∃ c t, w.heap[aD.block]? = some (.cells c t (0, 0))) :
    Calls Tryz.prog 11 #[.agg #[.string ⟨m.toArray⟩, .string ⟨t.toArray⟩, .slice af fs.length cf, .slice ab bd.length cb, .string ⟨n.toArray⟩, .string ⟨s.toArray⟩, .int .i64 date, .int .i64 off, .string ⟨oth.toArray⟩]] w fun e w' => e = .returned (.bool true) ∧ Below w.heap.size w w' := by
  have E := Lib.hid hE; clear hE
  have HN := Lib.hid hN; clear hN
  have HF := Lib.hid hf; clear hf
  have HB := Lib.hid hb; clear hb
  have hX0 : Sb w.heap.size (w.alloc (.cells #[.string ⟨m.toArray⟩, .string ⟨t.toArray⟩, .slice af fs.length cf, .slice ab bd.length cb, .string ⟨n.toArray⟩, .string ⟨s.toArray⟩, .int .i64 date, .int .i64 off, .string ⟨oth.toArray⟩] 87)) _ _ _ _ _ _ _ _ _ := heap_alloc_new w _
  have hB0 := (Below.refl w.heap.size w).alloc (Nat.le_refl _) (.cells #[.string ⟨m.toArray⟩, .string ⟨t.toArray⟩, .slice af fs.length cf, .slice ab bd.length cb, .string ⟨n.toArray⟩, .string ⟨s.toArray⟩, .int .i64 date, .int .i64 off, .string ⟨oth.toArray⟩] 87)
  go_enter Tryz.func11, Tryz.ntmps11
  go_upto_region 1 with fail
  obtain ⟨N, hN⟩ : ∃ N, N = w.heap.size := ⟨_, rfl⟩
  rw [← hN] at hX0 ⊢
  have hl0 := hX0.lt
  generalize w.alloc _ = w1 at *
  have HN1 := Lib.hid hN
  have HB1 := Lib.hid hB0
  clear hN hB0
  go_cut [3, 4, 5, 6] from 13 to 20 (fun v3 v4 v5 v6 wx => ∃ P Q : Nat, v3 = .pointer (some ⟨P, 0, none⟩) ∧ v4 = .pointer (some ⟨Q, 0, none⟩) ∧ v5 = .int .i64 date ∧ v6 = .string ⟨oth.toArray⟩ ∧ Hid (Rq P wx (.string ⟨m.toArray⟩) (.string ⟨t.toArray⟩) (.slice af fs.length cf) (.slice ab bd.length cb)) ∧ Hid (Ky Q wx (.string ⟨n.toArray⟩) (.string ⟨s.toArray⟩)) ∧ Hid (Below w1.heap.size w1 wx))
  case first =>
    have hX1 : Sb N w1.drew _ _ _ _ _ _ _ _ _ := hX0
    obtain ⟨x0, x1, x2, x3, x4, x5, x6, x7⟩ := hX1.cells
    obtain ⟨z0, z1, z2, z3, z4, z5, z6, z7⟩ := hX0.cells
    have x8 : w1.drew.cell? ⟨N, 8, none⟩ = some (.string ⟨oth.toArray⟩) := Lib.cell_of_heap (j := 8) hX1
    have z8 : w1.cell? ⟨N, 8, none⟩ = some (.string ⟨oth.toArray⟩) := Lib.cell_of_heap (j := 8) hX0
    have hne1 : ¬ (N = w1.heap.size) := by omega
    have hne2 : ¬ (w1.heap.size = N) := by omega
    have hne3 : ¬ (N = w1.heap.size + 1) := by omega
    have hne4 : ¬ (w1.heap.size + 1 = N) := by omega
    go_region
    all_goals
      go_wp2_with fail
      go_meet
    all_goals
      first
        | exact ⟨w1.heap.size, w1.heap.size + 1, rfl, rfl, rfl, rfl, heap_alloc2_old _ _ _, heap_alloc2_new _ _ _, (((Below.refl _ _).alloc (Nat.le_refl _) _).alloc (by simp) _).drew⟩
        | exact ⟨w1.heap.size + 1, w1.heap.size, rfl, rfl, rfl, rfl, heap_alloc2_new _ _ _, heap_alloc2_old _ _ _, (((Below.refl _ _).alloc (Nat.le_refl _) _).alloc (by simp) _).drew⟩
  case rest =>
    obtain ⟨P, Q, rfl, rfl, rfl, rfl, HR, HK, HU⟩ := hcut
    have HB2 := Lib.hid (HB1.out.trans (HU.out.mono HB1.out.size))
    clear HU HB1 hX0 hl0
    go_wp2_with fail
    refine (SgN.alive wc (E.out.below HB2.out) (HN.out.below HB2.out)).mono ?_
    rintro e w3 ⟨rfl, hb3⟩
    have HB3 := Lib.hid (HB2.out.trans (hb3.mono HB2.out.size))
    have HR3 := Lib.hid (HR.out.below hb3)
    have HK3 := Lib.hid (HK.out.below hb3)
    have hq3 := HK3.out.lt
    have hw3 := HB3.out.size
    clear HR HK HB2 hb3
    have HBS3 := Lib.hid (HB.out.below HB3.out)
    have HFS3 := Lib.hid (HF.out.below HB3.out)
    obtain ⟨x0, x1, x2, x3, -, -, -, -⟩ := HR3.out.cells
    obtain ⟨k0, k1⟩ := HK3.out.cells
    have KS1 := Lib.hid (SgW.sign2 m t bd fs n s cb cf date w3 (E.out.below HB3.out) HBS3.out HFS3.out (by omega) (by omega) (by omega) d0 d1 (by omega) (by omega) (by omega))
    go_wp2_with fail
    refine KS1.out.mono ?_
    rintro e w4 ⟨hS, hb4⟩
    have HB4 := Lib.hid (HB3.out.trans (hb4.mono HB3.out.size))
    have HK4 := Lib.hid (HK3.out.below hb4)
    clear HR3 HK3 HB3 hb4 x0 x1 x2 x3 k0 k1 KS1 HBS3 HFS3
    cases hS1 : Sg.sign m t bd fs n s date with
    | no er =>
      rw [hS1] at hS
      obtain rfl := hS
      go_wp2_with fail
      go_ret
      exact ⟨rfl, HB4.out.alloc HB4.out.size _⟩
    | ok fa =>
      rw [hS1] at hS
      obtain ⟨aA, cA, aD1, cD1, rfl, hFa, ⟨-, hOf⟩, hOa⟩ := hS
      have hB5 := (Below.refl w4.heap.size w4).alloc (Nat.le_refl _) (.cells #[.string ⟨m.toArray⟩, .string ⟨t.toArray⟩, .slice aA fa.length cA, .slice aD1 bd.length cD1] 25)
      have hQ5 : Rq w4.heap.size (w4.alloc (.cells #[.string ⟨m.toArray⟩, .string ⟨t.toArray⟩, .slice aA fa.length cA, .slice aD1 bd.length cD1] 25)) _ _ _ _ := heap_alloc_new w4 _
      go_upto_region 7 with fail
      obtain ⟨N4, hN4⟩ : ∃ N4, N4 = w4.heap.size := ⟨_, rfl⟩
      have HBA := Lib.hid ((SgK.own_bs hOa).below hB5)
      have HO5 := Lib.hid (Com.own_below hOa hB5)
      have HB5 := Lib.hid (HB4.out.trans (hB5.mono HB4.out.size))
      have HK5 := Lib.hid (HK4.out.below hB5)
      obtain ⟨u, hP, hgd, hgn, hfa⟩ := SgL.sign_ok hS1
      have hd0 : 0 ≤ date := by
        simp only [Sg.goodDate, Bool.and_eq_true, decide_eq_true_eq] at hgd
        exact hgd.1
      obtain ⟨L, hLd⟩ : ∃ L, L = Sg.others fs ++ [(Sg.xdate, Lib.itoa date)] := ⟨_, rfl⟩
      have hfL : fa = L ++ [(Sg.auth, Sg.mark n (Sg.sigOf (Sg.lines m u bd date) s date))] := by rw [hfa, hLd, List.append_assoc]; rfl
      have hfo : Sg.others fs ++ Sg.two date n oth = L ++ [(Sg.auth, Sg.mark n oth)] := by rw [hLd, List.append_assoc]; rfl
      have hLl : L.length ≤ 1048577 := by
        rw [hLd, List.length_append]
        have : (Sg.others fs).length ≤ fs.length := List.length_filter_le _ _
        simp only [List.length_singleton]
        omega
      have hfaL : fa.length = L.length + 1 := by rw [hfL, List.length_append]; rfl
      obtain ⟨g, cur, rfl, hgb, hgh⟩ := own_at hOf (by omega)
      have hgl : g < w4.heap.size := (Array.getElem?_eq_some_iff.1 hgh).1
      have hml : (Sg.mark n oth).length = 9 + n.length + 1 + oth.length := by
        unfold Sg.mark
        simp only [List.length_append, List.length_cons, List.length_nil]
        rfl
      have hfv2 : ∀ q ∈ L ++ [(Sg.auth, Sg.mark n oth)], q.2.length ≤ 16777216 := by
        intro q hq
        rw [List.mem_append] at hq
        rcases hq with hq | hq
        · have hq' : q ∈ fa := by rw [hfL]; exact List.mem_append_left _ hq
          rw [hfa] at hq'
          exact two_len fs n _ date (B := 16777216) (fun q hq => by have := hfv q hq; omega) (by rw [SgL.sig_len]; omega) q hq' (Dec.itoa_len d0 d1)
        · obtain rfl : q = (Sg.auth, Sg.mark n oth) := by simpa using hq
          show (Sg.mark n oth).length ≤ _
          omega
      obtain ⟨x, htx⟩ := sign_text hS1
      have hxl := SgK.text_len htx (by omega) (by omega) d0 d1
      have hck := SgU.check_forged hS1 htx oth
      rw [hfo] at hck
      have HCK := Lib.hid hck
      have HTX := Lib.hid htx
      have HFV := Lib.hid hfv2
      have HFA := Lib.hid (show Fs (w4.alloc (.cells #[.string ⟨m.toArray⟩, .string ⟨t.toArray⟩, .slice (some ⟨g, 0, none⟩) fa.length cA, .slice aD1 bd.length cD1] 25)) (some ⟨g, 0, none⟩) (L ++ [(Sg.auth, Sg.mark n (Sg.sigOf (Sg.lines m u bd date) s date))]) by rw [← hfL]; exact hFa.below hB5)
      have HGH := Lib.hid ((hB5.block g hgl).trans hgh)
      have hg4 : g < N4 := by omega
      have HGB := Lib.hid hgb
      rw [← hN4] at hQ5 ⊢
      rw [hfaL] at hQ5 ⊢
      rw [hfaL] at hB5 HBA HB5 HK5 HFA HGH HO5
      generalize w4.alloc _ = w5 at *
      have HQ5 := Lib.hid hQ5
      have hcl := HK5.out.lt
      clear hQ5 hN4 hB5 hFa hOf hOa HK4 HB4 hS1 hP hgd hgn hfa hLd hfL hfo hfv2 htx hck hgh hgl hgb hfaL hml
      obtain ⟨q0, q1, q2, q3, -, -, -, -⟩ := HQ5.out.cells
      have KT := RsT.rtext m t bd (.slice (some ⟨g, 0, none⟩) (L.length + 1) cA) cD1 date w5 HBA.out (by omega) (by omega) (by omega) d0 d1
      rw [HTX.out] at KT
      have KT := Lib.hid KT
      go_wp2_with fail
      refine KT.out.mono ?_
      rintro e w6 ⟨rfl, hb6⟩
      rw [show RsT.rv (.ok x) = .tuple #[.string ⟨x.toArray⟩, .int .i64 0] from rfl]
      have HB6 := Lib.hid (HB5.out.trans (hb6.mono HB5.out.size))
      have HK6 := Lib.hid (HK5.out.below hb6)
      have HQ6 := Lib.hid (HQ5.out.below hb6)
      have HBA6 := Lib.hid (HBA.out.below hb6)
      have HO6 := Lib.hid (Com.own_below HO5.out hb6)
      have HFA6 := Lib.hid (HFA.out.below hb6)
      have HGH6 := Lib.hid ((hb6.block g (Array.getElem?_eq_some_iff.1 HGH.out).1).trans HGH.out)
      clear q0 q1 q2 q3 KT hb6 HB5 HK5 HQ5 HBA HFA HGH
      obtain ⟨k0, k1⟩ := HK6.out.cells
      have KG := Lib.hid (sigD x s date w6 hd0 d1 (by omega) (by omega))
      go_wp2_with fail
      refine KG.out.mono ?_
      rintro e w7 ⟨rfl, hb7⟩
      have HB7 := Lib.hid (HB6.out.trans (hb7.mono HB6.out.size))
      have HK7 := Lib.hid (HK6.out.below hb7)
      have HQ7 := Lib.hid (HQ6.out.below hb7)
      have HO7 := Lib.hid (Com.own_below HO6.out hb7)
      have HH7 := Lib.hid ((hb7.block g (Array.getElem?_eq_some_iff.1 HGH6.out).1).trans HGH6.out)
      have HFA7 := Lib.hid (HFA6.out.below hb7)
      have hgh7 := (hb7.block g (Array.getElem?_eq_some_iff.1 HGH6.out).1).trans HGH6.out
      have HGF := Lib.hid (Lib.frozen_of_heap hgh7 (L.length * 2 + 1))
      have HGC := Lib.hid (SgU.fs_last HFA7.out)
      clear k0 k1 KG hb7 HB6 HK6 HQ6 HBA6 HO6 HO5 HFA6 HGH6 hgh7
      obtain ⟨R, hR⟩ : ∃ R, R = Sg.sigOf x s date := ⟨_, rfl⟩
      rw [← hR] at HCK ⊢
      have HR := Lib.hid hR
      clear hR
      have hw1 : IntKind.i64.wrap ((L.length : Int) + 1 - 1) = (L.length : Int) := by rw [show (L.length : Int) + 1 - 1 = L.length by omega]; exact IntWalk.i64_in _ ⟨by omega, by omega⟩
      have hw2 : IntKind.i64.wrap (L.length : Int) = (L.length : Int) := IntWalk.i64_in _ ⟨by omega, by omega⟩
      have y0 : (0 : Int) ≤ (L.length : Int) := by omega
      have y1 : (L.length : Int) < (L.length : Int) + 1 := by omega
      obtain ⟨q0, q1, q2, q3, -, -, -, -⟩ := HQ7.out.cells
      obtain ⟨k0, k1⟩ := HK7.out.cells
      have hgc := HGC.out
      have hgf := HGF.out
      have s1 : ¬ 9223372036854775807 < 9 + n.length := by omega
      have s2 : ¬ 9223372036854775807 < 9 + n.length + 1 := by omega
      have s3 : ¬ 9223372036854775807 < 9 + n.length + 1 + oth.length := by omega
      have hcat : (((⟨#[66, 79, 76, 76, 65, 82, 68, 49, 32]⟩ : ByteArray) ++ ⟨n.toArray⟩) ++ ⟨#[58]⟩) ++ ⟨oth.toArray⟩ = ⟨(Sg.mark n oth).toArray⟩ := by
        simp only [Com.mk_append]
        rfl
      go_upto_region 11 with fail
      have hB8 := HB7.out.setCell (p := ⟨g, L.length * 2 + 1, none⟩) (by have := HGB.out; show w.heap.size ≤ g; omega) (.string ⟨(Sg.mark n oth).toArray⟩)
      have hF8 := SgU.fs_put (b' := Sg.mark n oth) HFA7.out
      have hQ8 := HQ7.out.far (p := ⟨g, L.length * 2 + 1, none⟩) (by show N4 ≠ g; omega) (.string ⟨(Sg.mark n oth).toArray⟩)
      have hK8 : Ky Q (w7.setCell ⟨g, L.length * 2 + 1, none⟩ (.string ⟨(Sg.mark n oth).toArray⟩)) _ _ := (Below.heap_setCell _ _ _ _ (by have := HGB.out; show Q ≠ g; omega)).trans HK7.out
      have hO8 := SgD.own_keep HO7.out (w' := w7.setCell ⟨g, L.length * 2 + 1, none⟩ (.string ⟨(Sg.mark n oth).toArray⟩)) (fun b hb => Below.heap_setCell _ _ _ _ (fun e => SgD.own_ne HO7.out HH7.out (show 91 ≠ 5 by decide) (hb.trans (congrArg some e))))
      clear q0 q1 q2 q3 k0 k1 hgc hgf HGC HGF HFA7 HQ7 HK7 HO7 HH7 HB7 hw1 hw2 y0 y1 s1 s2 s3 hcat
      generalize w7.setCell ⟨g, L.length * 2 + 1, none⟩ (.string ⟨(Sg.mark n oth).toArray⟩) = w8 at *
      have HB8 := Lib.hid hB8
      have hbk := (Below.refl w8.heap.size w8).alloc (Nat.le_refl _) (.cells #[.string ⟨n.toArray⟩, .string ⟨s.toArray⟩] 71)
      have hLL : (L ++ [(Sg.auth, Sg.mark n oth)]).length = L.length + 1 := by rw [List.length_append]; rfl
      have KC := SgK.check m t bd (L ++ [(Sg.auth, Sg.mark n oth)]) [(n, s)] cD1 cA 1 date _ (E.out.below (HB8.out.trans (hbk.mono HB8.out.size))) ((SgK.own_bs hO8).below hbk) (hF8.below hbk) (one_key w8 n s) (HN.out.below (HB8.out.trans (hbk.mono HB8.out.size))) (by rw [hLL]; omega) (by simp) (by simp; omega) HFV.out (by omega) (by omega) (by omega) d0 d1
      rw [HCK.out, hLL] at KC
      have hlQ := hQ8.lt
      have hlK := hK8.lt
      have hne1 : ¬ (N4 = w8.heap.size) := by omega
      have hne2 : ¬ (w8.heap.size = N4) := by omega
      have hne3 : ¬ (Q = w8.heap.size) := by omega
      have hne4 : ¬ (w8.heap.size = Q) := by omega
      obtain ⟨q0, q1, q2, q3, -, -, -, -⟩ := hQ8.cells
      obtain ⟨k0, k1⟩ := hK8.cells
      have HbR := Lib.hid hbR
      have HbD := Lib.hid hbD
      clear hB8 hF8 hQ8 hK8 hO8 hLL hlQ hlK hbR hbD
      by_cases hoR : oth = R
      · subst hoR
        rw [if_pos rfl] at KC
        have KC := Lib.hid KC
        clear HCK
        go_wp2_with fail
        refine KC.out.mono ?_
        rintro e w11 ⟨rfl, hb11⟩
        rw [show tv aU aR aD aK (.ok n) = .tuple #[.string ⟨n.toArray⟩, .nilIface] from rfl]
        have HB11 := Lib.hid (HB8.out.trans ((hbk.trans (hb11.mono hbk.size)).mono HB8.out.size))
        clear KC hbk hb11 q0 q1 q2 q3 k0 k1
        go_wp2_with fail
        go_ret
        exact ⟨rfl, HB11.out⟩
      · have hod : decide (oth = R) = false := decide_eq_false hoR
        have hob : (oth == R) = false := beq_eq_false_iff_ne.2 hoR
        rw [if_neg hoR] at KC
        by_cases hv : oth.length = 64 ∧ Nm.isHex oth = true
        · skip
          rw [if_pos hv] at KC
          have KC := Lib.hid KC
          clear HCK
          go_wp2_with fail
          refine KC.out.mono ?_
          rintro e w11 ⟨rfl, hb11⟩
          rw [show tv aU aR aD aK (.no .denied) = .tuple #[.string ⟨#[]⟩, ev aD] from rfl]
          have HB11 := Lib.hid (HB8.out.trans ((hbk.trans (hb11.mono hbk.size)).mono HB8.out.size))
          have hden : w11.cell? ⟨14, 0, none⟩ = some (ev aD) := (E.out.below HB11.out).den
          have hreq : w11.cell? ⟨12, 0, none⟩ = some (ev aR) := (E.out.below HB11.out).req
          have he := fun W => Err.eqErr aD W
          clear KC hbk hb11 q0 q1 q2 q3 k0 k1
          go_wp2_with fail
          go_ret
          exact ⟨rfl, HB11.out⟩
        · by_cases hRD : aR = aD
          · subst hRD
            rw [if_neg hv] at KC
            have KC := Lib.hid KC
            clear HCK
            go_wp2_with fail
            refine KC.out.mono ?_
            rintro e w11 ⟨rfl, hb11⟩
            rw [show tv aU aR aR aK (.no .req) = .tuple #[.string ⟨#[]⟩, ev aR] from rfl]
            have HB11 := Lib.hid (HB8.out.trans ((hbk.trans (hb11.mono hbk.size)).mono HB8.out.size))
            have hden : w11.cell? ⟨14, 0, none⟩ = some (ev aR) := (E.out.below HB11.out).den
            have hreq : w11.cell? ⟨12, 0, none⟩ = some (ev aR) := (E.out.below HB11.out).req
            have he := fun W => Err.eqErr aR W
            clear KC hbk hb11 q0 q1 q2 q3 k0 k1
            go_wp2_with fail
            go_ret
            exact ⟨rfl, HB11.out⟩
          · obtain ⟨cR, tR, hcR⟩ := HbR.out
            obtain ⟨cD, tD, hcD⟩ := HbD.out
            rw [if_neg hv] at KC
            have KC := Lib.hid KC
            clear HCK
            go_wp2_with fail
            refine KC.out.mono ?_
            rintro e w11 ⟨rfl, hb11⟩
            rw [show tv aU aR aD aK (.no .req) = .tuple #[.string ⟨#[]⟩, ev aR] from rfl]
            have HB11 := Lib.hid (HB8.out.trans ((hbk.trans (hb11.mono hbk.size)).mono HB8.out.size))
            have hden : w11.cell? ⟨14, 0, none⟩ = some (ev aD) := (E.out.below HB11.out).den
            have hreq : w11.cell? ⟨12, 0, none⟩ = some (ev aR) := (E.out.below HB11.out).req
            have he := fun W => Err.eqErr aR W
            have hr1 := (HB11.out.block _ (Array.getElem?_eq_some_iff.1 hcR).1).trans hcR
            have hr2 := (HB11.out.block _ (Array.getElem?_eq_some_iff.1 hcD).1).trans hcD
            have hen := Err.neErr hRD hr1 hr2
            clear hcR hcD hr1 hr2
            clear KC hbk hb11 q0 q1 q2 q3 k0 k1
            go_wp2_with fail
            go_ret
            exact ⟨rfl, HB11.out⟩
end Go.Proofs.YtidflagmdabfaaaGreatDoor.SgV
