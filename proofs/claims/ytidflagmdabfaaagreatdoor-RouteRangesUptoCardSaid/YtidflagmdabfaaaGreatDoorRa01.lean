/-
  The walk of the law RouteRanges. (Printed by mkranges.py.)
-/
import Derived.Test.YtidflagmdabfaaaGreatDoorRo02
import Derived.Test.YtidflagmdabfaaaGreatDoorRo05
namespace Go.Proofs.YtidflagmdabfaaaGreatDoor.RtK
open Go.RowKit Go.Proofs.YtidflagmdabfaaaGreatDoor Go.Proofs.YtidflagmdabfaaaGreatDoor.HtW Go.Proofs.YtidflagmdabfaaaGreatDoor.RtA Go.Proofs.YtidflagmdabfaaaGreatDoor.RtG Go.Proofs.YtidflagmdabfaaaGreatDoor.RtI Go.Proofs.YtidflagmdabfaaaGreatDoor.RtJ Go.Proofs.YtidflagmdabfaaaGreatDoor.App

/-- numbers that came in -/
def Is (w : World) (a : Option Addr) (zs : List Int) : Prop := zs = [] ∨ ∃ b o, a = some ⟨b, o, none⟩ ∧ b < w.heap.size ∧ ∀ (j : Nat) z, zs[j]? = some z → w.cell? ⟨b, o + j, none⟩ = some (.int .i64 z)
theorem Is.at {w : World} {a : Option Addr} {zs : List Int} (h : Is w a zs) {k : Nat} {z : Int} (hk : zs[k]? = some z) : ∃ b o, a = some ⟨b, o, none⟩ ∧ b < w.heap.size ∧ w.cell? ⟨b, o + k, none⟩ = some (.int .i64 z) := by
  rcases h with h | ⟨b, o, h1, h2, h3⟩
  · rw [h] at hk; simp at hk
  · exact ⟨b, o, h1, h2, h3 k z hk⟩
theorem step7 (c : Int) : ∃ t : Nat, (c.tmod 7 + 7).tmod 7 = (t : Int) ∧ t ≤ 6 ∧ -6 ≤ c.tmod 7 ∧ c.tmod 7 ≤ 6 := by
  have h1 : -6 ≤ c.tmod 7 := by have := Int.lt_tmod_of_pos c (b := 7) (by decide); omega
  have h2 : c.tmod 7 ≤ 6 := by have := Int.tmod_lt_of_pos c (b := 7) (by decide); omega
  have h3 : 0 ≤ (c.tmod 7 + 7).tmod 7 := Int.tmod_nonneg _ (by omega)
  have h4 : (c.tmod 7 + 7).tmod 7 < 7 := Int.tmod_lt_of_pos _ (by decide)
  exact ⟨((c.tmod 7 + 7).tmod 7).toNat, by omega, by omega, h1, h2⟩
/-- the whole, of an object that bears its length alone -/
theorem gw (dt : List UInt8) (ad : Option Addr) (cd : Nat) (W : World) (hT : Itoa.Tab W) (hd : Bs W ad dt cd) (hl : dt.length ≤ 140737488350000) :
    Calls Tryz.prog 24 #[.agg #[.int .i64 0, .int .i64 0, .int .i64 0, .int .i64 0, .int .i64 0, .string ⟨#[]⟩, .string ⟨#[]⟩, .int .i64 0, .int .i64 0, .int .i64 0, .int .i64 0, .int .i64 0, .int .i64 0, .int .i64 0, .string ⟨#[]⟩, .int .i64 0, .slice none 0 0, .int .i64 0, .int .i64 0, .string ⟨#[]⟩, .string ⟨#[]⟩, .string ⟨#[]⟩, .string ⟨#[]⟩, .string ⟨#[]⟩, .int .i64 0, .int .i64 0, .int .i64 0, .bool false, .int .i64 0, .int .i64 0, .int .i64 0], .agg #[.string ⟨#[]⟩, .int .i64 (dt.length : Int), .string ⟨#[]⟩, .int .i64 0, .slice none 0 0], .slice ad dt.length cd] W fun e w' => ∃ af nf cf ab cb, e = .returned (.agg #[.int .i64 200, .slice af nf cf, .slice ab dt.length cb]) ∧ Bs w' ab dt cb ∧ Below W.heap.size W w' :=
  (give_whole (.int .i64 0) (.int .i64 0) (.int .i64 0) (.int .i64 0) (.int .i64 0) (.string ⟨#[]⟩) (.string ⟨#[]⟩) (.int .i64 0) (.int .i64 0) (.int .i64 0) (.int .i64 0) (.int .i64 0) (.int .i64 0) (.int .i64 0) (.string ⟨#[]⟩) (.int .i64 0) (.slice none 0 0) (.int .i64 0) (.int .i64 0) (.string ⟨#[]⟩) (.string ⟨#[]⟩) (.string ⟨#[]⟩) (.string ⟨#[]⟩) (.string ⟨#[]⟩) (.int .i64 0) (.int .i64 0) (.int .i64 0) (.int .i64 0) ⟨#[]⟩ [] dt dt.length 0 0 0 none ad 0 0 cd W hT hd hl (by decide) (by decide)).mono fun _ _ ⟨⟨af, cf, ab, cb, he, _, ho⟩, hb⟩ => ⟨af, _, cf, ab, cb, he, (HtX.bs_own ho).1, hb⟩
/-- a part of it -/
theorem gr (dt PT : List UInt8) (ad : Option Addr) (cd : Nat) (W : World) (hT : Itoa.Tab W) (hd : Bs W ad dt cd) (hl : dt.length ≤ 140737488350000) (p n : Nat) (tz : Int) (hPT : PT = (dt.drop p).take n) (hn0 : 0 < n) (hn : p + n ≤ dt.length)
    (hz : (tz < 0 ∧ p + n = dt.length) ∨ (0 ≤ tz ∧ tz < (dt.length : Int) - 1 ∧ (p : Int) + n = tz + 1) ∨ ((dt.length : Int) - 1 ≤ tz ∧ p + n = dt.length)) :
    Calls Tryz.prog 24 #[.agg #[.int .i64 0, .int .i64 0, .int .i64 0, .int .i64 0, .int .i64 0, .string ⟨#[]⟩, .string ⟨#[]⟩, .int .i64 0, .int .i64 0, .int .i64 0, .int .i64 0, .int .i64 0, .int .i64 0, .int .i64 0, .string ⟨#[]⟩, .int .i64 0, .slice none 0 0, .int .i64 0, .int .i64 0, .string ⟨#[]⟩, .string ⟨#[]⟩, .string ⟨#[]⟩, .string ⟨#[]⟩, .string ⟨#[]⟩, .int .i64 0, .int .i64 (p : Int), .int .i64 tz, .bool true, .int .i64 0, .int .i64 0, .int .i64 0], .agg #[.string ⟨#[]⟩, .int .i64 (dt.length : Int), .string ⟨#[]⟩, .int .i64 0, .slice none 0 0], .slice ad dt.length cd] W fun e w' => ∃ af nf cf ab cb, e = .returned (.agg #[.int .i64 206, .slice af nf cf, .slice ab n cb]) ∧ Bs w' ab PT cb ∧ Below W.heap.size W w' :=
  (give_range (.int .i64 0) (.int .i64 0) (.int .i64 0) (.int .i64 0) (.int .i64 0) (.string ⟨#[]⟩) (.string ⟨#[]⟩) (.int .i64 0) (.int .i64 0) (.int .i64 0) (.int .i64 0) (.int .i64 0) (.int .i64 0) (.int .i64 0) (.string ⟨#[]⟩) (.int .i64 0) (.slice none 0 0) (.int .i64 0) (.int .i64 0) (.string ⟨#[]⟩) (.string ⟨#[]⟩) (.string ⟨#[]⟩) (.string ⟨#[]⟩) (.string ⟨#[]⟩) (.int .i64 0) (.int .i64 0) (.int .i64 0) (.int .i64 0) ⟨#[]⟩ [] dt dt.length 0 tz none ad 0 0 cd W hT hd hl (by decide) (by decide) (by omega) (by omega) p (p + n - 1) (by omega) (by omega) (by omega)).mono fun e w' ⟨⟨af, cf, ab, cb, he, _, ho⟩, hb⟩ => by
    have h1 : p + n - 1 + 1 - p = n := by omega
    rw [h1, ← hPT] at ho he
    have h2 : PT.length = n := by rw [hPT, List.length_take, List.length_drop]; omega
    have h3 := (HtX.bs_own ho).1
    rw [h2] at he
    exact ⟨af, _, cf, ab, cb, he, h3, hb⟩
set_option maxHeartbeats 4000000 in
set_option maxRecDepth 100000 in
theorem ranges (dt : List UInt8) (zs : List Int) (ad ac : Option Addr) (cd cc : Nat) (w : World) {aU : Addr} {es : List Addr} (hE : Env w aU es) (hd : Bs w ad dt cd) (hz : Is w ac zs) (hl : dt.length ≤ 140737488350000) (hzl : zs.length ≤ 9223372036854775806) :
    Calls Tryz.prog 5 #[.slice ad dt.length cd, .slice ac zs.length cc] w fun e w' => e = .returned (.bool true) ∧ Below w.heap.size w w' := by
  have HE := Lib.hid hE; clear hE
  have HD := Lib.hid hd; clear hd
  have HI := Lib.hid hz; clear hz
  have KA := Lib.hid (alive w HE.out)
  go_enter Tryz.func5, Tryz.ntmps5
  go_wp2_with fail
  refine KA.out.mono ?_
  rintro e w1 ⟨rfl, hb1⟩
  have HB1 := Lib.hid hb1
  clear KA hb1
  go_upto_region 4 with fail
  obtain ⟨w2, hw2, hb2, hO2⟩ : ∃ w2, w2 = w1.alloc (.cells #[.string ⟨#[]⟩, .int .i64 (dt.length : Int), .string ⟨#[]⟩, .int .i64 0, .slice none 0 0] 54) ∧ Below w.heap.size w w2 ∧ Ob w1.heap.size w2 (.string ⟨#[]⟩) (.int .i64 (dt.length : Int)) (.string ⟨#[]⟩) (.int .i64 0) (.slice none 0 0) := ⟨_, rfl, HB1.out.alloc HB1.out.size _, heap_alloc_new _ _⟩
  rw [← hw2]
  clear hw2
  have HB2 := Lib.hid hb2
  have HO2 := Lib.hid hO2
  clear hb2 hO2
  obtain ⟨N, hN⟩ : ∃ N, N = w1.heap.size := ⟨_, rfl⟩
  rw [← hN] at HO2 ⊢
  clear hN HB1
  have hl1 : dt.length ≤ 9223372036854775807 := by omega
  go_wp2_with fail
  go_loopg [6, 7, 22] zs.length (fun g v6 v7 v22 wr => ∃ (k p : Nat) (av : Option Addr) (cv : Nat), k + g = zs.length ∧ v22 = .int .i64 (k : Int) ∧ v7 = .int .i64 (p : Int) ∧ v6 = .slice av p cv ∧ p ≤ dt.length ∧ Hid (wr.ownsRow w2.heap.size 5 1 (.slice av p cv) p (Lib.byteCells (dt.take p))) ∧ Hid (Below w2.heap.size w2 wr))
  case atStart => exact ⟨0, 0, _, _, by omega, rfl, rfl, rfl, by omega, HtX.own_fresh w2 w2.heap.size (Nat.le_refl _), (Below.refl _ _).alloc (Nat.le_refl _) _⟩
  case round =>
    obtain ⟨k, p, av, cv, hkg, rfl, rfl, rfl, hp, HO, HBr⟩ := hrel
    have HG := Lib.hid hkg
    have hk : k ≤ zs.length := by omega
    clear hkg
    have HBW := Lib.hid (HB2.out.trans (HBr.out.mono HB2.out.size))
    obtain ⟨x0, x1, x2, x3, x4⟩ := (HO2.out.below HBr.out).cells
    obtain ⟨AT, hAT⟩ : ∃ AT, AT = dt.take p := ⟨_, rfl⟩
    have HAL := Lib.hid (show AT.length = p by rw [hAT, List.length_take]; omega)
    rw [← hAT] at HO
    have HAT := Lib.hid hAT
    clear hAT
    have HO1 := Lib.hid (show wr.ownsRow w2.heap.size 5 1 (.slice av p cv) AT.length (Lib.byteCells AT) by rw [HAL.out]; exact HO.out)
    by_cases hpl : p < dt.length
    · by_cases hlt : k < zs.length
      · obtain ⟨c, hc⟩ : ∃ c, zs[k]? = some c := ⟨zs[k], List.getElem?_eq_getElem hlt⟩
        obtain ⟨bz, oz, rfl, hbz, hcz⟩ := HI.out.at hc
        have c0 := (HBW.out.cell (p := ⟨bz, oz + k, none⟩) hbz).trans hcz
        clear hc hcz
        obtain ⟨t, e7, t6, t1, t2⟩ := step7 c
        obtain ⟨n, hn0, hnl, hnt, hmin⟩ : ∃ n : Nat, 0 < n ∧ p + n ≤ dt.length ∧ ((0 ≤ (p : Int) + t ∧ (p : Int) + t < (dt.length : Int) - 1 ∧ (p : Int) + n = (p : Int) + t + 1) ∨ ((dt.length : Int) - 1 ≤ (p : Int) + t ∧ p + n = dt.length)) ∧ min ((p : Int) + t + 1) (dt.length : Int) = (p : Int) + n := ⟨min (p + t + 1) dt.length - p, by omega, by omega, by omega, by omega⟩
        obtain ⟨PT, hPT⟩ : ∃ PT, PT = (dt.drop p).take n := ⟨_, rfl⟩
        have HPL := Lib.hid (show PT.length = n by rw [hPT, List.length_take, List.length_drop]; omega)
        have HCT := Lib.hid (show AT ++ PT = dt.take (p + n) by rw [HAT.out, hPT, List.take_add])
        have KR := Lib.hid (gr dt PT ad cd wr (HE.out.tab.below HBW.out) (HD.out.below HBW.out) hl p n ((p : Int) + t) hPT hn0 hnl (.inr hnt))
        have HNL := Lib.hid hnl
        clear hPT hnt
        have hne : ((n : Int) != (p : Int) + (n : Int) - (p : Int)) = false := by rw [show (p : Int) + (n : Int) - (p : Int) = (n : Int) by omega]; simp
        go_upto_region 14 with (first
          | (go_at_call 24; refine KR.out.mono ?_; rintro e w3 ⟨a3, n3, c3, b3, d3, rfl, hB3, hb3⟩))
        have hal := (Below.refl w3.heap.size w3).alloc (Nat.le_refl _) (.cells #[.int .i64 206, .slice a3 n3 c3, .slice b3 n d3] 56)
        have hR4 : Rb w3.heap.size (w3.alloc (.cells #[.int .i64 206, .slice a3 n3 c3, .slice b3 n d3] 56)) (.int .i64 206) (.slice a3 n3 c3) (.slice b3 n d3) := heap_alloc_new _ _
        have hb4 := hb3.trans (hal.mono hb3.size)
        have HO4 := Lib.hid (Com.own_below HO1.out hb4)
        have HB4 := Lib.hid (hB3.below hal)
        have HZ4 := Lib.hid (show w2.heap.size ≤ (w3.alloc (.cells #[.int .i64 206, .slice a3 n3 c3, .slice b3 n d3] 56)).heap.size by have := HBr.out.size; have := hb4.size; omega)
        have HLT := Lib.hid (show ∀ b, (Value.slice av p cv).ownBlock = some b → b ≠ w3.heap.size from fun b hb => by have := (HO1.out.lt b hb).2; have := hb3.size; omega)
        have HBW4 := Lib.hid (HBr.out.trans (hb4.mono HBr.out.size))
        have HR4 := Lib.hid hR4
        obtain ⟨r0, r1, r2, -, -, -⟩ := hR4.cells
        clear hal hR4 hb4 hB3 hb3 c0 e7 t1 t2 hmin hne x0 x1 x2 x3 x4
        obtain ⟨B3, hB3⟩ : ∃ B3, B3 = w3.heap.size := ⟨_, rfl⟩
        rw [← hB3] at HR4 HLT r0 r1 r2 ⊢
        generalize w3.alloc _ = w4 at *
        clear hB3
        have HR4l := Lib.hid HR4.out.lt
        go_wp2_with (at_builtin; go_loud (refine HtX.wpList_append_bytes w4 rfl (.tmp 58) (.tmp 60) rfl w2.heap.size (.slice av p cv) AT PT HO4.out b3 d3 HB4.out HZ4.out (by have := HAL.out; have := HPL.out; have := HNL.out; omega) rfl (by rw [HPL.out]; rfl) ?_; intro a5 c5 w5 ho5 hg5 hb5; have r5 : w5.cell? ⟨B3, 2, none⟩ = some (.slice b3 n d3) := (World.cell?_of_block (w := w4) (hg5.block B3 HR4l.out (fun h => HLT.out B3 h.symm rfl))).trans r2; have hlen : AT.length + PT.length = p + n := (by rw [HAL.out, HPL.out]); rw [hlen] at ho5 ⊢; clear hlen r0 r1 r2))
        rw [HCT.out, List.length_take, Nat.min_eq_left HNL.out] at ho5
        go_roundg (gk - 1)
        case measure => have := HG.out; omega
        case rel => exact ⟨k + 1, p + n, _, _, by have := HG.out; omega, by go_num, by go_num, rfl, HNL.out, ho5, HBW4.out.trans hb5⟩
      · have hge : zs.length ≤ k := by omega
        clear hlt
        have hnl : p + (dt.length - p) ≤ dt.length := by omega
        obtain ⟨n, hn⟩ : ∃ n, n = dt.length - p := ⟨_, rfl⟩
        obtain ⟨PT, hPT⟩ : ∃ PT, PT = (dt.drop p).take n := ⟨_, rfl⟩
        have HPL := Lib.hid (show PT.length = n by rw [hPT, List.length_take, List.length_drop]; omega)
        have HCT := Lib.hid (show AT ++ PT = dt by rw [HAT.out, hPT, hn, ← List.take_add, List.take_of_length_le (by omega)])
        have KR := Lib.hid (gr dt PT ad cd wr (HE.out.tab.below HBW.out) (HD.out.below HBW.out) hl p n (-1) hPT (by omega) (by omega) (.inl ⟨by omega, by omega⟩))
        have HNL := Lib.hid (show p + n = dt.length by omega)
        clear hPT hnl hn
        go_upto_region 19 with (first
          | (go_at_call 24; refine KR.out.mono ?_; rintro e w3 ⟨a3, n3, c3, b3, d3, rfl, hB3, hb3⟩))
        have hal := (Below.refl w3.heap.size w3).alloc (Nat.le_refl _) (.cells #[.int .i64 206, .slice a3 n3 c3, .slice b3 n d3] 56)
        have hR4 : Rb w3.heap.size (w3.alloc (.cells #[.int .i64 206, .slice a3 n3 c3, .slice b3 n d3] 56)) (.int .i64 206) (.slice a3 n3 c3) (.slice b3 n d3) := heap_alloc_new _ _
        have hb4 := hb3.trans (hal.mono hb3.size)
        have HO4 := Lib.hid (Com.own_below HO1.out hb4)
        have HB4 := Lib.hid (hB3.below hal)
        have HZ4 := Lib.hid (show w2.heap.size ≤ (w3.alloc (.cells #[.int .i64 206, .slice a3 n3 c3, .slice b3 n d3] 56)).heap.size by have := HBr.out.size; have := hb4.size; omega)
        have HBW4 := Lib.hid (HBr.out.trans (hb4.mono HBr.out.size))
        obtain ⟨r0, r1, r2, -, -, -⟩ := hR4.cells
        clear hal hR4 hb4 hB3 hb3 x0 x1 x2 x3 x4
        obtain ⟨B3, hB3⟩ : ∃ B3, B3 = w3.heap.size := ⟨_, rfl⟩
        rw [← hB3] at r0 r1 r2 ⊢
        generalize w3.alloc _ = w4 at *
        clear hB3
        go_upto_region 20 with (at_builtin; refine HtX.wpList_append_bytes w4 rfl (.tmp 77) (.tmp 79) rfl w2.heap.size (.slice av p cv) AT PT HO4.out b3 d3 HB4.out HZ4.out (by have := HAL.out; have := HPL.out; have := HNL.out; omega) rfl (by rw [HPL.out]; rfl) ?_; intro a5 c5 w5 ho5 hg5 hb5; have hlen : AT.length + PT.length = dt.length := (by rw [HAL.out, HPL.out, HNL.out]); rw [hlen] at ho5 ⊢; clear hlen r0 r1 r2)
        rw [HCT.out] at ho5
        have HO5 := Lib.hid (HtX.bs_own ho5).1
        have HBW5 := Lib.hid (HBW4.out.trans hb5)
        have HBV := Lib.hid (HB2.out.trans (HBW5.out.mono HB2.out.size))
        obtain ⟨x0, x1, x2, x3, x4⟩ := (HO2.out.below HBW5.out).cells
        clear ho5 hg5 hb5
        have KW := Lib.hid (gw dt ad cd w5 (HE.out.tab.below HBV.out) (HD.out.below HBV.out) hl)
        go_wp2_with (first
          | (go_at_call 24; refine KW.out.mono ?_; rintro e w8 ⟨a8, n8, c8, b8, d8, rfl, hB8, hb8⟩; have hb9 := hb8.trans ((Below.refl w8.heap.size w8).alloc (Nat.le_refl _) (.cells #[.int .i64 200, .slice a8 n8 c8, .slice b8 dt.length d8] 56) |>.mono hb8.size); have z1 := to_string (HO5.out.below hb9); have z2 := to_string ((HD.out.below HBV.out).below hb9); have z3 := to_string (hB8.below ((Below.refl w8.heap.size w8).alloc (Nat.le_refl _) (.cells #[.int .i64 200, .slice a8 n8 c8, .slice b8 dt.length d8] 56))); skip))
        go_ret
        exact ⟨rfl, HBV.out.trans (hb9.mono HBV.out.size)⟩
    · obtain rfl : p = dt.length := by omega
      have HO5 := Lib.hid (show Bs wr av dt cv from (HtX.bs_own (l := dt) (by have := HO.out; rw [HAT.out, List.take_of_length_le (Nat.le_refl _)] at this; exact this)).1)
      by_cases hlt : k < zs.length
      · obtain ⟨c, hc⟩ : ∃ c, zs[k]? = some c := ⟨zs[k], List.getElem?_eq_getElem hlt⟩
        obtain ⟨bz, oz, rfl, hbz, hcz⟩ := HI.out.at hc
        have c0 := (HBW.out.cell (p := ⟨bz, oz + k, none⟩) hbz).trans hcz
        clear hc hcz
        have KW := Lib.hid (gw dt ad cd wr (HE.out.tab.below HBW.out) (HD.out.below HBW.out) hl)
        go_wp2_with (first
          | (go_at_call 24; refine KW.out.mono ?_; rintro e w8 ⟨a8, n8, c8, b8, d8, rfl, hB8, hb8⟩; have hb9 := hb8.trans ((Below.refl w8.heap.size w8).alloc (Nat.le_refl _) (.cells #[.int .i64 200, .slice a8 n8 c8, .slice b8 dt.length d8] 56) |>.mono hb8.size); have z1 := to_string (HO5.out.below hb9); have z2 := to_string ((HD.out.below HBW.out).below hb9); have z3 := to_string (hB8.below ((Below.refl w8.heap.size w8).alloc (Nat.le_refl _) (.cells #[.int .i64 200, .slice a8 n8 c8, .slice b8 dt.length d8] 56))); skip))
        go_ret
        exact ⟨rfl, HBW.out.trans (hb9.mono HBW.out.size)⟩
      · have hge : zs.length ≤ k := by omega
        clear hlt
        have KW := Lib.hid (gw dt ad cd wr (HE.out.tab.below HBW.out) (HD.out.below HBW.out) hl)
        go_wp2_with (first
          | (go_at_call 24; refine KW.out.mono ?_; rintro e w8 ⟨a8, n8, c8, b8, d8, rfl, hB8, hb8⟩; have hb9 := hb8.trans ((Below.refl w8.heap.size w8).alloc (Nat.le_refl _) (.cells #[.int .i64 200, .slice a8 n8 c8, .slice b8 dt.length d8] 56) |>.mono hb8.size); have z1 := to_string (HO5.out.below hb9); have z2 := to_string ((HD.out.below HBW.out).below hb9); have z3 := to_string (hB8.below ((Below.refl w8.heap.size w8).alloc (Nat.le_refl _) (.cells #[.int .i64 200, .slice a8 n8 c8, .slice b8 dt.length d8] 56))); skip))
        go_ret
        exact ⟨rfl, HBW.out.trans (hb9.mono HBW.out.size)⟩
end Go.Proofs.YtidflagmdabfaaaGreatDoor.RtK
