/-
  The walk of the law SigBodies.
-/
import Derived.Test.YtidflagmdabfaaaGreatDoorBo05
import Derived.Deep.CutRange
import Derived.Deep.RegionHeld3
namespace Go.Proofs.YtidflagmdabfaaaGreatDoor.SgS
open Go.RowKit Go.Proofs.YtidflagmdabfaaaGreatDoor Go.Proofs.YtidflagmdabfaaaGreatDoor.HtW Go.Proofs.YtidflagmdabfaaaGreatDoor.HtC Go.Proofs.YtidflagmdabfaaaGreatDoor.Ato Go.Proofs.YtidflagmdabfaaaGreatDoor.SgA Go.Proofs.YtidflagmdabfaaaGreatDoor.SgB Go.Proofs.YtidflagmdabfaaaGreatDoor.SgC Go.Proofs.YtidflagmdabfaaaGreatDoor.SgM Go.Proofs.YtidflagmdabfaaaGreatDoor.SgO

theorem text_no {m t bd : List UInt8} {d : Int} {er : Sg.Er} (hd : Sg.goodDate d = true) (h : Sg.text m t bd d = .no er) : Up.parse t = none ∧ er = .uri := by
  unfold Sg.text at h
  cases hP : Up.parse t with
  | none => rw [hP] at h; cases h; exact ⟨rfl, rfl⟩
  | some u => rw [hP] at h; simp only at h; rw [if_pos hd] at h; cases h
theorem text_yes {m t bd x : List UInt8} {d : Int} (h : Sg.text m t bd d = .ok x) : ∃ u, Up.parse t = some u ∧ x = Sg.lines m u bd d := by
  unfold Sg.text at h
  cases hP : Up.parse t with
  | none => rw [hP] at h; cases h
  | some u =>
    rw [hP] at h
    simp only at h
    split at h
    · cases h; exact ⟨u, rfl, rfl⟩
    · cases h
theorem check_uri {m t bd : List UInt8} {fs ks : List Sg.Fld} {now : Int} (hP : Up.parse t = none) : Sg.check m t bd fs ks now = .no .uri := by
  unfold Sg.check
  rw [hP]
theorem sign_text {m t bd : List UInt8} {fs fa : List Sg.Fld} {n s : List UInt8} {d : Int} (h : Sg.sign m t bd fs n s d = .ok fa) : ∃ x, Sg.text m t bd d = .ok x := by
  unfold Sg.sign at h
  cases hx : Sg.text m t bd d with
  | no e => rw [hx] at h; cases h
  | ok x => exact ⟨x, rfl⟩
/-- checked with other bodies -/
theorem check_bodies {m t bd m' t' bd' x y : List UInt8} {fs fa : List Sg.Fld} {n s : List UInt8} {d : Int} (h : Sg.sign m t bd fs n s d = .ok fa) (hx : Sg.text m t bd d = .ok x) (hy : Sg.text m' t' bd' d = .ok y) :
    Sg.check m' t' bd' fa [(n, s)] d = if Sg.sigOf y s d = Sg.sigOf x s d then .ok n else .no .denied := by
  obtain ⟨u, hP, hd, hg, rfl⟩ := SgL.sign_ok h
  obtain ⟨u1, hP1, rfl⟩ := text_yes hx
  obtain rfl : u = u1 := by rw [hP] at hP1; exact Option.some.inj hP1
  obtain ⟨u', hP', rfl⟩ := text_yes hy
  obtain ⟨k, rfl, hk⟩ := SgL.good_nat hd
  rw [SgL.check_signed hP' hk hg (SgL.sig_len _ _ _) (SgL.sig_hex _ _ _)]
  unfold Sg.among
  rw [if_pos rfl]
  split
  · rw [if_neg (by omega)]
  · rfl
/-- a signature beside two cells that stand -/
theorem sigC (X : World) (N : Nat) (v5 v6 : Value) (x s : List UInt8) (d : Int) (w : World) (h0 : 0 ≤ d) (h1 : d ≤ 9223372036854775807) (hx : x.length ≤ 140737488340000) (hs : s.length ≤ 140737488340000) (hX : Below X.heap.size X w) (c5 : w.cell? ⟨N, 5, none⟩ = some v5) (c6 : w.cell? ⟨N, 6, none⟩ = some v6) :
    Calls Tryz.prog 41 #[.string ⟨x.toArray⟩, .string ⟨s.toArray⟩, .int .i64 d] w fun e w' => e = .returned (.string ⟨(Sg.sigOf x s d).toArray⟩) ∧ (w'.cell? ⟨N, 5, none⟩ = some v5 ∧ w'.cell? ⟨N, 6, none⟩ = some v6) ∧ Below X.heap.size X w' := by
  obtain ⟨k, rfl⟩ := Int.eq_ofNat_of_zero_le h0
  refine (RsS.rsig x s k w hx hs (by omega)).mono ?_
  rintro e w' ⟨rfl, hb⟩
  exact ⟨rfl, ⟨(hb.cell (World.block_lt_of_cell? w _ c5)).trans c5, (hb.cell (World.block_lt_of_cell? w _ c6)).trans c6⟩, hX.trans (hb.mono hX.size)⟩
theorem ne_nil_of_two {fs : List Sg.Fld} {d : Int} {n h : List UInt8} : Sg.others fs ++ Sg.two d n h ≠ [] := by
  intro e
  have := congrArg List.length e
  rw [List.length_append, show (Sg.two d n h).length = 2 from rfl] at this
  simp at this

set_option maxHeartbeats 4000000 in
set_option maxRecDepth 100000 in
theorem bodies (m t bd n s oth m' t' bd' : List UInt8) (fs fs' : List Sg.Fld) {af ab af' ab' : Option Addr} (cf cb cf' cb' : Nat) (date off : Int) (w : World) {aU aR aD aK : Addr} (hE : Env w aU aR aD aK) (hN : Ne w) (hf : Fs w af fs) (hb : Bs w ab bd cb) (hb' : Bs w ab' bd' cb')
    (ht : t.length ≤ 1048576) (hm : m.length ≤ 1048576) (hn : n.length ≤ 1048576) (hs : s.length ≤ 1048576) (hbl : bd.length ≤ 1048576) (hfl : fs.length ≤ 1048576) (hfv : ∀ q ∈ fs, q.2.length ≤ 1048576) (ht' : t'.length ≤ 1048576) (hm' : m'.length ≤ 1048576) (hbl' : bd'.length ≤ 1048576)
    (d0 : -9223372036854775808 ≤ date) (d1 : date ≤ 9223372036854775807) :
    Calls Tryz.prog 13 #[.agg #[.string ⟨m.toArray⟩, .string ⟨t.toArray⟩, .slice af fs.length cf, .slice ab bd.length cb, .string ⟨n.toArray⟩, .string ⟨s.toArray⟩, .int .i64 date, .int .i64 off, .string ⟨oth.toArray⟩], .agg #[.string ⟨m'.toArray⟩, .string ⟨t'.toArray⟩, .slice af' fs'.length cf', .slice ab' bd'.length cb']] w fun e w' => e = .returned (.bool true) ∧ Below w.heap.size w w' := by
  have E := Lib.hid hE; clear hE
  have HN := Lib.hid hN; clear hN
  have HF := Lib.hid hf; clear hf
  have HB := Lib.hid hb; clear hb
  have HO := Lib.hid hb'; clear hb'
  have hX0 : Sb w.heap.size (w.alloc (.cells #[.string ⟨m.toArray⟩, .string ⟨t.toArray⟩, .slice af fs.length cf, .slice ab bd.length cb, .string ⟨n.toArray⟩, .string ⟨s.toArray⟩, .int .i64 date, .int .i64 off, .string ⟨oth.toArray⟩] 87)) _ _ _ _ _ _ _ _ _ := heap_alloc_new w _
  have hB0 := (Below.refl w.heap.size w).alloc (Nat.le_refl _) (.cells #[.string ⟨m.toArray⟩, .string ⟨t.toArray⟩, .slice af fs.length cf, .slice ab bd.length cb, .string ⟨n.toArray⟩, .string ⟨s.toArray⟩, .int .i64 date, .int .i64 off, .string ⟨oth.toArray⟩] 87)
  go_enter Tryz.func13, Tryz.ntmps13
  go_upto_region 1 with fail
  obtain ⟨w1, hw1⟩ : ∃ w1, w1 = w.alloc (.cells #[.string ⟨m.toArray⟩, .string ⟨t.toArray⟩, .slice af fs.length cf, .slice ab bd.length cb, .string ⟨n.toArray⟩, .string ⟨s.toArray⟩, .int .i64 date, .int .i64 off, .string ⟨oth.toArray⟩] 87) := ⟨_, rfl⟩
  rw [← hw1] at hX0 hB0 ⊢
  have hz1 : w1.heap.size = w.heap.size + 1 := by rw [hw1]; simp
  have hY1 : Rq w1.heap.size (w1.alloc (.cells #[.string ⟨m'.toArray⟩, .string ⟨t'.toArray⟩, .slice af' fs'.length cf', .slice ab' bd'.length cb'] 25)) _ _ _ _ := heap_alloc_new w1 _
  have hb1 := (Below.refl w1.heap.size w1).alloc (Nat.le_refl _) (.cells #[.string ⟨m'.toArray⟩, .string ⟨t'.toArray⟩, .slice af' fs'.length cf', .slice ab' bd'.length cb'] 25)
  have hX1 := hX0.below hb1
  have hB1 := hB0.trans (hb1.mono hB0.size)
  rw [hz1] at hY1
  generalize w1.alloc _ = w2 at *
  have HB2 := Lib.hid hB1
  have HX2 := Lib.hid hX1
  have HY2 := Lib.hid hY1
  clear hX0 hB0 hw1 hz1 hY1 hb1 hX1 hB1
  go_wp2_with fail
  refine (SgN.alive w2 (E.out.below HB2.out) (HN.out.below HB2.out)).mono ?_
  rintro e w3 ⟨rfl, hb3⟩
  have HB3 := Lib.hid (HB2.out.trans (hb3.mono HB2.out.size))
  have HX3 := Lib.hid (HX2.out.below hb3)
  have HY3 := Lib.hid (HY2.out.below hb3)
  clear HX2 HY2 HB2 hb3
  have HBS3 := Lib.hid (HB.out.below HB3.out)
  have HFS3 := Lib.hid (HF.out.below HB3.out)
  obtain ⟨x0, x1, x2, x3, x4, x5, x6, -⟩ := HX3.out.cells
  have KS1 := Lib.hid (SgK.sign m t bd fs n s cb cf date w3 (E.out.below HB3.out) HBS3.out HFS3.out (by omega) (by omega) (by omega) d0 d1 (by omega) (by omega) (by omega))
  go_wp2_with fail
  refine KS1.out.mono ?_
  rintro e w4 ⟨hS, hb4⟩
  have HB4 := Lib.hid (HB3.out.trans (hb4.mono HB3.out.size))
  have HX4 := Lib.hid (HX3.out.below hb4)
  have HY4 := Lib.hid (HY3.out.below hb4)
  clear HX3 HY3 HB3 hb4 x0 x1 x2 x3 x4 x5 x6 KS1 HBS3 HFS3
  cases hS1 : Sg.sign m t bd fs n s date with
  | no er =>
    rw [hS1] at hS
    obtain rfl := hS
    go_wp2_with fail
    go_ret
    exact ⟨rfl, HB4.out.alloc HB4.out.size _⟩
  | ok fa =>
    rw [hS1] at hS
    obtain ⟨aA, cA, aD1, cD1, rfl, hFa, -, hOa⟩ := hS
    have hB5 := (Below.refl w4.heap.size w4).alloc (Nat.le_refl _) (.cells #[.string ⟨m.toArray⟩, .string ⟨t.toArray⟩, .slice aA fa.length cA, .slice aD1 bd.length cD1] 25)
    have hQ5 : Rq w4.heap.size (w4.alloc (.cells #[.string ⟨m.toArray⟩, .string ⟨t.toArray⟩, .slice aA fa.length cA, .slice aD1 bd.length cD1] 25)) _ _ _ _ := heap_alloc_new w4 _
    go_upto_region 6 with fail
    obtain ⟨N4, hN4⟩ : ∃ N4, N4 = w4.heap.size := ⟨_, rfl⟩
    have HFA := Lib.hid (hFa.below hB5)
    have HBA := Lib.hid ((SgK.own_bs hOa).below hB5)
    have HB5 := Lib.hid (HB4.out.trans (hB5.mono HB4.out.size))
    have HX5 := Lib.hid (HX4.out.below hB5)
    have HY5 := Lib.hid (HY4.out.below hB5)
    have hNo : aA = none → fa.length = 0 ∧ cA = 0 := by
      rintro rfl
      obtain ⟨u, _, _, _, hfa⟩ := SgL.sign_ok hS1
      rcases hFa with h | ⟨b, o, h, _⟩
      · rw [hfa] at h; exact absurd h ne_nil_of_two
      · cases h
    rw [← hN4] at hQ5 ⊢
    generalize w4.alloc _ = w5 at *
    have HQ5 := Lib.hid hQ5
    clear hQ5 hN4 hB5 hFa hOa HX4 HY4 HB4
    obtain ⟨u, hP, hgd, hgn, hfa⟩ := SgL.sign_ok hS1
    have hd0 : 0 ≤ date := by
      simp only [Sg.goodDate, Bool.and_eq_true, decide_eq_true_eq] at hgd
      exact hgd.1
    have hfaL : fa.length ≤ 1048578 := by
      rw [hfa, List.length_append]
      have : (Sg.others fs).length ≤ fs.length := List.length_filter_le _ _
      have h2 : (Sg.two date n (Sg.sigOf (Sg.lines m u bd date) s date)).length = 2 := rfl
      omega
    have hfav : ∀ q ∈ fa, q.2.length ≤ 16777216 := by
      intro q hq
      rw [hfa] at hq
      exact two_len fs n _ date (B := 16777216) (fun q hq => by have := hfv q hq; omega) (by rw [SgL.sig_len]; omega) q hq (Dec.itoa_len d0 d1)
    have HFV := Lib.hid hfav
    have HGD := Lib.hid hgd
    obtain ⟨x, htx⟩ := sign_text hS1
    have hxl := SgK.text_len htx (by omega) (by omega) d0 d1
    have HS1 := Lib.hid hS1
    have HTX := Lib.hid htx
    clear hfa hgn hP hgd hfav hS1 htx
    obtain ⟨q0, q1, q2, q3, -, -, -, -⟩ := HQ5.out.cells
    have hcp := Lib.hid (SgQ.copied m t bd fa cA cD1 w5 HFA.out hNo HBA.out (by omega) (by omega))
    clear hNo
    go_wp2_with fail
    refine hcp.out.mono ?_
    rintro e w6 ⟨a2, c2, a3, c3, rfl, ho2, -, hb6⟩
    obtain ⟨aF, cF, hv, -, hFb⟩ := fs_of_own ho2
    simp only [Value.slice.injEq, true_and] at hv
    obtain ⟨rfl, rfl⟩ := hv
    have HB6 := Lib.hid (HB5.out.trans (hb6.mono HB5.out.size))
    have HX6 := Lib.hid (HX5.out.below hb6)
    have HY6 := Lib.hid (HY5.out.below hb6)
    have HQ6 := Lib.hid (HQ5.out.below hb6)
    have HBA6 := Lib.hid (HBA.out.below hb6)
    have HFB6 := Lib.hid hFb
    have hB7 := (Below.refl w6.heap.size w6).alloc (Nat.le_refl _) (.cells #[.string ⟨m.toArray⟩, .string ⟨t.toArray⟩, .slice a2 fa.length c2, .slice a3 bd.length c3] 25)
    have hQ7 : Rq w6.heap.size (w6.alloc (.cells #[.string ⟨m.toArray⟩, .string ⟨t.toArray⟩, .slice a2 fa.length c2, .slice a3 bd.length c3] 25)) _ _ _ _ := heap_alloc_new w6 _
    clear q0 q1 q2 q3 hcp ho2 hFb hb6 HX5 HY5 HQ5 HBA HFA HB5
    go_upto_region 7 with fail
    obtain ⟨N6, hN6⟩ : ∃ N6, N6 = w6.heap.size := ⟨_, rfl⟩
    have hY7 := HY6.out.below hB7
    have hlY := HY6.out.lt
    rw [← hN6] at hQ7 hB7 hlY ⊢
    generalize w6.alloc _ = w7 at *
    have HN6 := Lib.hid hN6
    clear hN6
    go_cut [] from 28 to 36 (fun wx => Hid (Rq N6 wx (.string ⟨m'.toArray⟩) (.string ⟨t'.toArray⟩) (.slice a2 fa.length c2) (.slice ab' bd'.length cb')) ∧ Hid (Below N6 w7 wx))
    case first =>
      have hQd : Rq N6 w7.drew _ _ _ _ := hQ7
      have hYd : Rq (w.heap.size + 1) w7.drew _ _ _ _ := hY7
      obtain ⟨y0, y1, y2, y3, -, -, -, -⟩ := hY7.cells
      obtain ⟨z0, z1, z2, z3, -, -, -, -⟩ := hYd.cells
      obtain ⟨q0, q1, q2, q3, g0, g1, g2, g3⟩ := hQ7.cells
      obtain ⟨r0, r1, r2, r3, k0, k1, k2, k3⟩ := hQd.cells
      have hne1 : ¬ (w.heap.size + 1 = N6) := by omega
      have hne2 : ¬ (N6 = w.heap.size + 1) := by omega
      go_region
      all_goals
        go_wp2_with fail
        go_meet
      all_goals
        refine ⟨?_, (((Below.refl N6 w7).drew.setCell (Nat.le_refl _) _).setCell (Nat.le_refl _) _).setCell (Nat.le_refl _) _⟩
        first
          | exact ((hQd.put4 _).put1 _).put2 _
          | exact ((hQd.put4 _).put2 _).put1 _
          | exact ((hQd.put1 _).put4 _).put2 _
          | exact ((hQd.put1 _).put2 _).put4 _
          | exact ((hQd.put2 _).put1 _).put4 _
          | exact ((hQd.put2 _).put4 _).put1 _
    case rest =>
      obtain ⟨HQ, HU⟩ := hcut
      have hbc : Below w6.heap.size w6 wc := HN6.out ▸ hB7.trans HU.out
      have HB8 := Lib.hid (HB6.out.trans (hbc.mono HB6.out.size))
      have HX8 := Lib.hid (HX6.out.below hbc)
      have HQ8 := Lib.hid (HQ6.out.below hbc)
      have HBA8 := Lib.hid (HBA6.out.below hbc)
      have HFB8 := Lib.hid (HFB6.out.below hbc)
      have HBO8 := Lib.hid (HO.out.below HB8.out)
      clear hbc HU hB7 hQ7 hY7 HY6 HX6 HQ6 HBA6 HFB6 HB6 HN6
      obtain ⟨-, -, -, -, -, -, x6, -⟩ := HX8.out.cells
      obtain ⟨q0, q1, q2, q3, -, -, -, -⟩ := HQ8.out.cells
      have KT1 := SgB.text m t bd (.slice aA fa.length cA) cD1 date wc (E.out.below HB8.out) HBA8.out (by omega) (by omega) (by omega) d0 d1
      rw [HTX.out] at KT1
      have KT1 := Lib.hid KT1
      go_wp2_with fail
      refine KT1.out.mono ?_
      rintro e w8 ⟨rfl, hb8⟩
      rw [show tv aU aR aD aK (.ok x) = .tuple #[.string ⟨x.toArray⟩, .nilIface] from rfl]
      have HB9 := Lib.hid (HB8.out.trans (hb8.mono HB8.out.size))
      have HX9 := Lib.hid (HX8.out.below hb8)
      have HR9 := Lib.hid (HQ.out.below hb8)
      have HFB9 := Lib.hid (HFB8.out.below hb8)
      have HBO9 := Lib.hid (HBO8.out.below hb8)
      clear q0 q1 q2 q3 x6 KT1 hb8 HX8 HQ8 HQ HFB8 HBO8 HBA8 HB8
      obtain ⟨-, -, -, -, -, -, x6, -⟩ := HX9.out.cells
      obtain ⟨q0, q1, q2, q3, -, -, -, -⟩ := HR9.out.cells
      have KT2 := Lib.hid (SgB.text m' t' bd' (.slice a2 fa.length c2) cb' date w8 (E.out.below HB9.out) HBO9.out (by omega) (by omega) (by omega) d0 d1)
      go_wp2_with fail
      refine KT2.out.mono ?_
      rintro e w9 ⟨hT, hb9⟩
      have HB10 := Lib.hid (HB9.out.trans (hb9.mono HB9.out.size))
      have HX10 := Lib.hid (HX9.out.below hb9)
      have HR10 := Lib.hid (HR9.out.below hb9)
      have HFB10 := Lib.hid (HFB9.out.below hb9)
      have HBO10 := Lib.hid (HBO9.out.below hb9)
      clear q0 q1 q2 q3 x6 KT2 hb9 HX9 HR9 HFB9 HBO9 HB9
      cases hty : Sg.text m' t' bd' date with
      | no er =>
        rw [hty] at hT
        obtain ⟨hP', rfl⟩ := text_no HGD.out hty
        rw [show tv aU aR aD aK (.no .uri) = .tuple #[.string ⟨#[]⟩, ev aU] from rfl] at hT
        obtain rfl := hT
        have hbk := (Below.refl w9.heap.size w9).alloc (Nat.le_refl _) (.cells #[.string ⟨n.toArray⟩, .string ⟨s.toArray⟩] 71)
        have KC := SgK.check m' t' bd' fa [(n, s)] cb' c2 1 date _ (E.out.below (HB10.out.trans (hbk.mono HB10.out.size))) (HBO10.out.below hbk) (HFB10.out.below hbk) (one_key w9 n s) (HN.out.below (HB10.out.trans (hbk.mono HB10.out.size))) (by omega) (by simp) (by simp; omega) HFV.out (by omega) (by omega) (by omega) d0 d1
        rw [check_uri hP'] at KC
        have KC := Lib.hid KC
        clear hty hP'
        have hlX := HX10.out.lt
        have hlR := HR10.out.lt
        have hne1 : ¬ (w.heap.size = w9.heap.size) := by omega
        have hne2 : ¬ (w9.heap.size = w.heap.size) := by omega
        obtain ⟨-, -, -, -, x4, x5, x6, -⟩ := HX10.out.cells
        obtain ⟨q0, q1, q2, q3, -, -, -, -⟩ := HR10.out.cells
        go_wp2_with fail
        refine KC.out.mono ?_
        rintro e w11 ⟨rfl, hb11⟩
        rw [show tv aU aR aD aK (.no .uri) = .tuple #[.string ⟨#[]⟩, ev aU] from rfl]
        have HB11 := Lib.hid (HB10.out.trans ((hbk.trans (hb11.mono hbk.size)).mono HB10.out.size))
        have hur : w11.cell? ⟨13, 0, none⟩ = some (ev aU) := (E.out.below HB11.out).uri
        have he := fun W => Err.eqErr aU W
        clear KC hbk hb11 q0 q1 q2 q3 x4 x5 x6
        go_wp2_with fail
        go_ret
        exact ⟨rfl, HB11.out⟩
      | ok y =>
        rw [hty] at hT
        rw [show tv aU aR aD aK (.ok y) = .tuple #[.string ⟨y.toArray⟩, .nilIface] from rfl] at hT
        obtain rfl := hT
        have hyl := SgK.text_len hty (by omega) (by omega) d0 d1
        have hck := check_bodies HS1.out HTX.out hty
        have HCK := Lib.hid hck
        clear hty hck
        by_cases hxy : x = y
        · subst hxy
          have hbd : Below w9.heap.size w9 w9.drew := (Below.refl _ _).drew
          go_wp2_with fail
          go_region
          have HBz := Lib.hid (HB10.out.trans (hbd.mono HB10.out.size))
          have hXz := HX10.out.below hbd
          have hRz := HR10.out.below hbd
          have HFz := HFB10.out.below hbd
          have HOz := HBO10.out.below hbd
          clear HX10 HR10 HFB10 HBO10 HB10
          generalize w9.drew = wz at *
          have hlX := hXz.lt
          have hne1 : ¬ (w.heap.size = wz.heap.size) := by omega
          have hne2 : ¬ (wz.heap.size = w.heap.size) := by omega
          have hbk := (Below.refl wz.heap.size wz).alloc (Nat.le_refl _) (.cells #[.string ⟨n.toArray⟩, .string ⟨s.toArray⟩] 71)
          have KC := SgK.check m' t' bd' fa [(n, s)] cb' c2 1 date _ (E.out.below (HBz.out.trans (hbk.mono HBz.out.size))) (HOz.below hbk) (HFz.below hbk) (one_key wz n s) (HN.out.below (HBz.out.trans (hbk.mono HBz.out.size))) (by omega) (by simp) (by simp; omega) HFV.out (by omega) (by omega) (by omega) d0 d1
          rw [HCK.out, if_pos trivial] at KC
          have KC := Lib.hid KC
          clear HCK HFz HOz
          obtain ⟨-, -, -, -, x4, x5, x6, -⟩ := hXz.cells
          obtain ⟨q0, q1, q2, q3, -, -, -, -⟩ := hRz.cells
          go_wp2_with fail
          refine KC.out.mono ?_
          rintro e w11 ⟨rfl, hb11⟩
          rw [show tv aU aR aD aK (.ok n) = .tuple #[.string ⟨n.toArray⟩, .nilIface] from rfl]
          have HB11 := Lib.hid (HBz.out.trans ((hbk.trans (hb11.mono hbk.size)).mono HBz.out.size))
          clear KC hbk hb11 q0 q1 q2 q3 x4 x5 x6 hXz hRz
          go_wp2_with fail
          go_ret
          exact ⟨rfl, HB11.out⟩
        · have HT0 : Below w9.heap.size w9 w9 := Below.refl _ _
          have hXd : Sb w.heap.size w9.drew _ _ _ _ _ _ _ _ _ := HX10.out
          obtain ⟨-, -, -, -, -, x5, x6, -⟩ := HX10.out.cells
          obtain ⟨-, -, -, -, -, z5, z6, -⟩ := hXd.cells
          have hyx : decide (x = y) = false := decide_eq_false hxy
          have hyq : (x == y) = false := beq_eq_false_iff_ne.2 hxy
          by_cases hsg : Sg.sigOf x s date = Sg.sigOf y s date
          · go_wp2_with fail
            go_cut [85] from 66 to 85 (fun v85 wx => v85 = .bool true ∧ Hid (Below w9.heap.size w9 wx))
            case first =>
              go_region_held3 (fun W => W.cell? ⟨w.heap.size, 5, none⟩ = some (.string ⟨s.toArray⟩) ∧ W.cell? ⟨w.heap.size, 6, none⟩ = some (.int .i64 date))
                (first | exact ⟨x5, x6⟩ | go_keep)
                (first
                | (go_at_call 41; refine (sigC w9 w.heap.size _ _ y s date wa hd0 d1 (by omega) (by omega) ta ka.1 ka.2).mono ?_; rintro e wb ⟨rfl, kb, tb⟩)
                | (go_at_call 41; refine (sigC w9 w.heap.size _ _ x s date _ hd0 d1 (by omega) (by omega) HT0.drew z5 z6).mono ?_; rintro e wa ⟨rfl, ka, ta⟩))
              all_goals
                go_wp2_with fail
                go_meet
              all_goals exact ⟨by first | rfl | simp [hsg], tb⟩ -- meets
            case rest =>
              obtain ⟨rfl, HU⟩ := hcut
              go_wp2_with fail
              go_ret
              exact ⟨rfl, HB10.out.trans (HU.out.mono HB10.out.size)⟩
          · have hsg' : ¬ Sg.sigOf y s date = Sg.sigOf x s date := fun h => hsg h.symm
            go_wp2_with fail
            go_cut [85] from 66 to 85 (fun v85 wx => v85 = .bool false ∧ Hid (Below w9.heap.size w9 wx))
            case first =>
              go_region_held3 (fun W => W.cell? ⟨w.heap.size, 5, none⟩ = some (.string ⟨s.toArray⟩) ∧ W.cell? ⟨w.heap.size, 6, none⟩ = some (.int .i64 date))
                (first | exact ⟨x5, x6⟩ | go_keep)
                (first
                | (go_at_call 41; refine (sigC w9 w.heap.size _ _ y s date wa hd0 d1 (by omega) (by omega) ta ka.1 ka.2).mono ?_; rintro e wb ⟨rfl, kb, tb⟩)
                | (go_at_call 41; refine (sigC w9 w.heap.size _ _ x s date _ hd0 d1 (by omega) (by omega) HT0.drew z5 z6).mono ?_; rintro e wa ⟨rfl, ka, ta⟩))
              all_goals
                go_wp2_with fail
                go_meet
              all_goals exact ⟨by first | rfl | simp [hsg], tb⟩ -- meets
            case rest =>
              obtain ⟨rfl, HU⟩ := hcut
              have tb := HU.out
              clear x5 x6 z5 z6 hXd HT0
              have HBz := Lib.hid (HB10.out.trans (tb.mono HB10.out.size))
              have hXz := HX10.out.below tb
              have hRz := HR10.out.below tb
              have HFz := HFB10.out.below tb
              have HOz := HBO10.out.below tb
              clear HX10 HR10 HFB10 HBO10 HB10
              have hlX := hXz.lt
              have hne1 : ¬ (w.heap.size = wc.heap.size) := by omega
              have hne2 : ¬ (wc.heap.size = w.heap.size) := by omega
              have hbk := (Below.refl wc.heap.size wc).alloc (Nat.le_refl _) (.cells #[.string ⟨n.toArray⟩, .string ⟨s.toArray⟩] 71)
              have KC := SgK.check m' t' bd' fa [(n, s)] cb' c2 1 date _ (E.out.below (HBz.out.trans (hbk.mono HBz.out.size))) (HOz.below hbk) (HFz.below hbk) (one_key wc n s) (HN.out.below (HBz.out.trans (hbk.mono HBz.out.size))) (by omega) (by simp) (by simp; omega) HFV.out (by omega) (by omega) (by omega) d0 d1
              rw [HCK.out, if_neg hsg'] at KC
              have KC := Lib.hid KC
              clear HCK HFz HOz
              obtain ⟨-, -, -, -, x4, x5, x6, -⟩ := hXz.cells
              obtain ⟨q0, q1, q2, q3, -, -, -, -⟩ := hRz.cells
              go_wp2_with fail
              refine KC.out.mono ?_
              rintro e w11 ⟨rfl, hb11⟩
              rw [show tv aU aR aD aK (.no .denied) = .tuple #[.string ⟨#[]⟩, ev aD] from rfl]
              have HB11 := Lib.hid (HBz.out.trans ((hbk.trans (hb11.mono hbk.size)).mono HBz.out.size))
              have hur : w11.cell? ⟨14, 0, none⟩ = some (ev aD) := (E.out.below HB11.out).den
              have he := fun W => Err.eqErr aD W
              clear KC hbk hb11 q0 q1 q2 q3 x4 x5 x6 hXz hRz
              go_wp2_with fail
              go_ret
              exact ⟨rfl, HB11.out⟩
end Go.Proofs.YtidflagmdabfaaaGreatDoor.SgS
