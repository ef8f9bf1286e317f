/-
  The walk of the law SigTwice. The walk of the law SigSkews. The walk of the law SigSigns.
-/
import Derived.Test.YtidflagmdabfaaaGreatDoorSg22
import Derived.Test.YtidflagmdabfaaaGreatDoorSg24
import Derived.Test.YtidflagmdabfaaaGreatDoorSc07
import Derived.Test.YtidflagmdabfaaaGreatDoorSc09
import Derived.Deep.CutRange
namespace Go.Proofs.YtidflagmdabfaaaGreatDoor.SgO
open Go.RowKit Go.Proofs.YtidflagmdabfaaaGreatDoor Go.Proofs.YtidflagmdabfaaaGreatDoor.HtW Go.Proofs.YtidflagmdabfaaaGreatDoor.HtC Go.Proofs.YtidflagmdabfaaaGreatDoor.Ato Go.Proofs.YtidflagmdabfaaaGreatDoor.SgA Go.Proofs.YtidflagmdabfaaaGreatDoor.SgB Go.Proofs.YtidflagmdabfaaaGreatDoor.SgC Go.Proofs.YtidflagmdabfaaaGreatDoor.SgM

/-- a box of what is signed, cell by cell -/
def Sb (B : Nat) (w : World) (c0 c1 c2 c3 c4 c5 c6 c7 c8 : Value) : Prop := w.heap[B]? = some (.cells #[c0, c1, c2, c3, c4, c5, c6, c7, c8] 87 (0, 0))
theorem Sb.lt {B : Nat} {w : World} {c0 c1 c2 c3 c4 c5 c6 c7 c8 : Value} (h : Sb B w c0 c1 c2 c3 c4 c5 c6 c7 c8) : B < w.heap.size := (Array.getElem?_eq_some_iff.1 h).1
theorem Sb.below {B : Nat} {w w' : World} {c0 c1 c2 c3 c4 c5 c6 c7 c8 : Value} (h : Sb B w c0 c1 c2 c3 c4 c5 c6 c7 c8) (hb : Below w.heap.size w w') : Sb B w' c0 c1 c2 c3 c4 c5 c6 c7 c8 := (hb.block _ h.lt).trans h
theorem Sb.cells {B : Nat} {w : World} {c0 c1 c2 c3 c4 c5 c6 c7 c8 : Value} (h : Sb B w c0 c1 c2 c3 c4 c5 c6 c7 c8) :
    w.cell? ⟨B, 0, none⟩ = some c0 ∧ w.cell? ⟨B, 1, none⟩ = some c1 ∧ w.cell? ⟨B, 2, none⟩ = some c2 ∧ w.cell? ⟨B, 3, none⟩ = some c3 ∧ w.cell? ⟨B, 4, none⟩ = some c4 ∧ w.cell? ⟨B, 5, none⟩ = some c5 ∧ w.cell? ⟨B, 6, none⟩ = some c6 ∧ w.cell? ⟨B, 7, none⟩ = some c7 :=
  ⟨Lib.cell_of_heap (j := 0) h, Lib.cell_of_heap (j := 1) h, Lib.cell_of_heap (j := 2) h, Lib.cell_of_heap (j := 3) h, Lib.cell_of_heap (j := 4) h, Lib.cell_of_heap (j := 5) h, Lib.cell_of_heap (j := 6) h, Lib.cell_of_heap (j := 7) h⟩
theorem err_run {aU aR aD aK : Addr} (e : Sg.Er) : ∃ a, erv aU aR aD aK e = ev a := ⟨_, rfl⟩

set_option maxHeartbeats 4000000 in
set_option maxRecDepth 100000 in
theorem twice (m t bd n s oth m2 t2 bd2 n2 s2 oth2 : List UInt8) (fs fs2 : List Sg.Fld) {af ab af2 ab2 : Option Addr} (cf cb cf2 cb2 : Nat) (date off date2 off2 : Int) (w : World) {aU aR aD aK : Addr} (hE : Env w aU aR aD aK) (hN : Ne w) (hf : Fs w af fs) (hb : Bs w ab bd cb)
    (ht : t.length ≤ 1048576) (hm : m.length ≤ 1048576) (hn : n.length ≤ 1048576) (hs : s.length ≤ 1048576) (hbl : bd.length ≤ 1048576) (hfl : fs.length ≤ 1048576) (hfv : ∀ q ∈ fs, q.2.length ≤ 1048576) (hn2 : n2.length ≤ 1048576) (hs2 : s2.length ≤ 1048576)
    (d0 : -9223372036854775808 ≤ date) (d1 : date ≤ 9223372036854775807) (e0 : -9223372036854775808 ≤ date2) (e1 : date2 ≤ 9223372036854775807) :
    Calls Tryz.prog 12 #[.agg #[.string ⟨m.toArray⟩, .string ⟨t.toArray⟩, .slice af fs.length cf, .slice ab bd.length cb, .string ⟨n.toArray⟩, .string ⟨s.toArray⟩, .int .i64 date, .int .i64 off, .string ⟨oth.toArray⟩], .agg #[.string ⟨m2.toArray⟩, .string ⟨t2.toArray⟩, .slice af2 fs2.length cf2, .slice ab2 bd2.length cb2, .string ⟨n2.toArray⟩, .string ⟨s2.toArray⟩, .int .i64 date2, .int .i64 off2, .string ⟨oth2.toArray⟩]] w fun e w' => e = .returned (.bool true) ∧ Below w.heap.size w w' := by
  have E := Lib.hid hE; clear hE
  have HN := Lib.hid hN; clear hN
  have HF := Lib.hid hf; clear hf
  have HB := Lib.hid hb; clear hb
  have hX0 : Sb w.heap.size (w.alloc (.cells #[.string ⟨m.toArray⟩, .string ⟨t.toArray⟩, .slice af fs.length cf, .slice ab bd.length cb, .string ⟨n.toArray⟩, .string ⟨s.toArray⟩, .int .i64 date, .int .i64 off, .string ⟨oth.toArray⟩] 87)) _ _ _ _ _ _ _ _ _ := heap_alloc_new w _
  have hB0 := (Below.refl w.heap.size w).alloc (Nat.le_refl _) (.cells #[.string ⟨m.toArray⟩, .string ⟨t.toArray⟩, .slice af fs.length cf, .slice ab bd.length cb, .string ⟨n.toArray⟩, .string ⟨s.toArray⟩, .int .i64 date, .int .i64 off, .string ⟨oth.toArray⟩] 87)
  go_enter Tryz.func12, Tryz.ntmps12
  go_upto_region 1 with fail
  obtain ⟨w1, hw1⟩ : ∃ w1, w1 = w.alloc (.cells #[.string ⟨m.toArray⟩, .string ⟨t.toArray⟩, .slice af fs.length cf, .slice ab bd.length cb, .string ⟨n.toArray⟩, .string ⟨s.toArray⟩, .int .i64 date, .int .i64 off, .string ⟨oth.toArray⟩] 87) := ⟨_, rfl⟩
  rw [← hw1] at hX0 hB0 ⊢
  have hz1 : w1.heap.size = w.heap.size + 1 := by rw [hw1]; simp
  have hY1 : Sb w1.heap.size (w1.alloc (.cells #[.string ⟨m2.toArray⟩, .string ⟨t2.toArray⟩, .slice af2 fs2.length cf2, .slice ab2 bd2.length cb2, .string ⟨n2.toArray⟩, .string ⟨s2.toArray⟩, .int .i64 date2, .int .i64 off2, .string ⟨oth2.toArray⟩] 87)) _ _ _ _ _ _ _ _ _ := heap_alloc_new w1 _
  have hb1 := (Below.refl w1.heap.size w1).alloc (Nat.le_refl _) (.cells #[.string ⟨m2.toArray⟩, .string ⟨t2.toArray⟩, .slice af2 fs2.length cf2, .slice ab2 bd2.length cb2, .string ⟨n2.toArray⟩, .string ⟨s2.toArray⟩, .int .i64 date2, .int .i64 off2, .string ⟨oth2.toArray⟩] 87)
  have hX1 := hX0.below hb1
  have hB1 := hB0.trans (hb1.mono hB0.size)
  rw [hz1] at hY1
  generalize w1.alloc _ = w2 at *
  have HB2 := Lib.hid hB1
  have HX2 := Lib.hid hX1
  have HY2 := Lib.hid hY1
  clear hX0 hB0 hw1 hz1 hY1 hb1 hX1 hB1
  go_wp2_with fail
  refine (SgN.alive w2 (E.out.below HB2.out) (HN.out.below HB2.out)).mono ?_
  rintro e w3 ⟨rfl, hb3⟩
  have HB3 := Lib.hid (HB2.out.trans (hb3.mono HB2.out.size))
  have HX3 := Lib.hid (HX2.out.below hb3)
  have HY3 := Lib.hid (HY2.out.below hb3)
  clear HX2 HY2 HB2 hb3
  have HBS3 := Lib.hid (HB.out.below HB3.out)
  have HFS3 := Lib.hid (HF.out.below HB3.out)
  obtain ⟨x0, x1, x2, x3, x4, x5, x6, -⟩ := HX3.out.cells
  have KS1 := Lib.hid (SgK.sign m t bd fs n s cb cf date w3 (E.out.below HB3.out) HBS3.out HFS3.out (by omega) (by omega) (by omega) d0 d1 (by omega) (by omega) (by omega))
  go_wp2_with fail
  refine KS1.out.mono ?_
  rintro e w4 ⟨hS, hb4⟩
  have HB4 := Lib.hid (HB3.out.trans (hb4.mono HB3.out.size))
  have HX4 := Lib.hid (HX3.out.below hb4)
  have HY4 := Lib.hid (HY3.out.below hb4)
  have HBS4 := Lib.hid (HBS3.out.below hb4)
  have HFS4 := Lib.hid (HFS3.out.below hb4)
  clear HX3 HY3 HB3 hb4 x0 x1 x2 x3 x4 x5 x6 KS1 HBS3 HFS3
  cases hS1 : Sg.sign m t bd fs n s date with
  | no er =>
    rw [hS1] at hS
    obtain rfl := hS
    go_wp2_with fail
    go_ret
    exact ⟨rfl, HB4.out.alloc HB4.out.size _⟩
  | ok fa =>
    rw [hS1] at hS
    obtain ⟨aA, cA, aD1, cD1, rfl, hFa, -, hOa⟩ := hS
    have hB5 := (Below.refl w4.heap.size w4).alloc (Nat.le_refl _) (.cells #[.string ⟨m.toArray⟩, .string ⟨t.toArray⟩, .slice aA fa.length cA, .slice aD1 bd.length cD1] 25)
    have hQ5 : Rq w4.heap.size (w4.alloc (.cells #[.string ⟨m.toArray⟩, .string ⟨t.toArray⟩, .slice aA fa.length cA, .slice aD1 bd.length cD1] 25)) _ _ _ _ := heap_alloc_new w4 _
    go_upto_region 6 with fail
    obtain ⟨N4, hN4⟩ : ∃ N4, N4 = w4.heap.size := ⟨_, rfl⟩
    have HFA := Lib.hid (hFa.below hB5)
    have HBA := Lib.hid ((SgK.own_bs hOa).below hB5)
    have HB5 := Lib.hid (HB4.out.trans (hB5.mono HB4.out.size))
    have HX5 := Lib.hid (HX4.out.below hB5)
    have HY5 := Lib.hid (HY4.out.below hB5)
    have HBS5 := Lib.hid (HBS4.out.below hB5)
    have HFS5 := Lib.hid (HFS4.out.below hB5)
    rw [← hN4] at hQ5 ⊢
    generalize w4.alloc _ = w5 at *
    have HQ5 := Lib.hid hQ5
    clear hQ5 hN4 hB5 hFa hOa HX4 HY4 HB4 HBS4 HFS4
    obtain ⟨u, hP, hgd, hgn, hfa⟩ := SgL.sign_ok hS1
    have hfaL : fa.length ≤ 1048578 := by
      rw [hfa, List.length_append]
      have : (Sg.others fs).length ≤ fs.length := List.length_filter_le _ _
      have h2 : (Sg.two date n (Sg.sigOf (Sg.lines m u bd date) s date)).length = 2 := rfl
      omega
    have hsg : Sg.sign m t bd fa n2 s2 date2 = Sg.sign m t bd fs n2 s2 date2 := by rw [hfa]; exact SgL.sign_again _ _ _ _ _ _ _ _ _ _
    have HSG := Lib.hid hsg
    clear hsg hfa hgn hgd
    obtain ⟨y0, y1, y2, y3, y4, y5, y6, -⟩ := HY5.out.cells
    obtain ⟨q0, q1, q2, q3, -, -, -, -⟩ := HQ5.out.cells
    have KS2 := Lib.hid (SgK.sign m t bd fa n2 s2 cD1 cA date2 w5 (E.out.below HB5.out) HBA.out HFA.out (by omega) (by omega) (by omega) e0 e1 (by omega) (by omega) (by omega))
    have HS1 := Lib.hid hS1; clear hS1
    have HPu := Lib.hid hP; clear hP
    go_wp2_with fail
    refine KS2.out.mono ?_
    rintro e w6 ⟨hS, hb6⟩
    rw [HSG.out] at hS
    have HB6 := Lib.hid (HB5.out.trans (hb6.mono HB5.out.size))
    have HX6 := Lib.hid (HX5.out.below hb6)
    have HY6 := Lib.hid (HY5.out.below hb6)
    have HBS6 := Lib.hid (HBS5.out.below hb6)
    have HFS6 := Lib.hid (HFS5.out.below hb6)
    clear HX5 HY5 HB5 hb6 y0 y1 y2 y3 y4 y5 y6 q0 q1 q2 q3 KS2 HBS5 HFS5
    cases hS2 : Sg.sign m t bd fs n2 s2 date2 with
    | no er =>
      rw [hS2] at hS
      obtain rfl := hS
      have hno := SgL.sign_no HPu.out hS2
      have HX7 := HY6.out.below ((Below.refl w6.heap.size w6).alloc (Nat.le_refl _) (.cells #[.string ⟨#[]⟩, .string ⟨#[]⟩, .slice none 0 0, .slice none 0 0] 25))
      obtain ⟨-, -, -, -, y4, -, y6, -⟩ := HX7.cells
      clear hS2
      obtain ⟨gq, hgq⟩ : ∃ gq, Sg.goodName n2 = gq := ⟨_, rfl⟩
      rw [hgq] at hno
      have HGQ := Lib.hid hgq
      clear hgq
      cases gq with
      | false =>
          clear hno
          go_wp2_with (go_at_call 42; refine (RgN.goodNameR ⟨n2.toArray⟩ _ (by rw [Com.size_mk]; omega)).mono ?_; rintro e w7 ⟨rfl, hw7⟩; subst hw7; rw [show (ByteArray.mk n2.toArray).data.toList = n2 from rfl, HGQ.out])
          go_ret
          exact ⟨rfl, HB6.out.alloc HB6.out.size _⟩
      | true =>
        by_cases h0 : date2 < 0
        · clear hno
          go_wp2_with (go_at_call 42; refine (RgN.goodNameR ⟨n2.toArray⟩ _ (by rw [Com.size_mk]; omega)).mono ?_; rintro e w7 ⟨rfl, hw7⟩; subst hw7; rw [show (ByteArray.mk n2.toArray).data.toList = n2 from rfl, HGQ.out])
          go_ret
          exact ⟨rfl, HB6.out.alloc HB6.out.size _⟩
        · have h1 : 1099511627776 < date2 := by
            rcases hno with h | h | h
            · cases h
            · exact absurd h h0
            · exact h
          have h0' : decide (date2 < 0) = false := decide_eq_false h0
          clear hno
          go_wp2_with (go_at_call 42; refine (RgN.goodNameR ⟨n2.toArray⟩ _ (by rw [Com.size_mk]; omega)).mono ?_; rintro e w7 ⟨rfl, hw7⟩; subst hw7; rw [show (ByteArray.mk n2.toArray).data.toList = n2 from rfl, HGQ.out])
          go_ret
          exact ⟨rfl, HB6.out.alloc HB6.out.size _⟩
    | ok fb =>
      rw [hS2] at hS
      obtain ⟨aB, cB, aD2, cD2, rfl, hFb, -, hOb⟩ := hS
      have hown := SgL.check_own hS2
      have hfbv : ∀ q ∈ fb, q.2.length ≤ 16777216 := by
        obtain ⟨_, _, _, _, hfb⟩ := SgL.sign_ok hS2
        intro q hq
        rw [hfb] at hq
        exact two_len fs n2 _ date2 (B := 16777216) (fun q hq => by have := hfv q hq; omega) (by rw [SgL.sig_len]; omega) q hq (Dec.itoa_len e0 e1)
      have hfbL : fb.length ≤ 1048578 := by
        obtain ⟨u', _, _, _, hfb⟩ := SgL.sign_ok hS2
        rw [hfb, List.length_append]
        have : (Sg.others fs).length ≤ fs.length := List.length_filter_le _ _
        have h2 : (Sg.two date2 n2 (Sg.sigOf (Sg.lines m u' bd date2) s2 date2)).length = 2 := rfl
        omega
      have hB7 := (Below.refl w6.heap.size w6).alloc (Nat.le_refl _) (.cells #[.string ⟨m.toArray⟩, .string ⟨t.toArray⟩, .slice aB fb.length cB, .slice aD2 bd.length cD2] 25)
      have hQ7 : Rq w6.heap.size (w6.alloc (.cells #[.string ⟨m.toArray⟩, .string ⟨t.toArray⟩, .slice aB fb.length cB, .slice aD2 bd.length cD2] 25)) _ _ _ _ := heap_alloc_new w6 _
      have HS2 := Lib.hid hS2; clear hS2
      go_upto_region 9 with fail
      obtain ⟨N6, hN6⟩ : ∃ N6, N6 = w6.heap.size := ⟨_, rfl⟩
      have HFB := Lib.hid (hFb.below hB7)
      have HBB := Lib.hid ((SgK.own_bs hOb).below hB7)
      have HB7 := Lib.hid (HB6.out.trans (hB7.mono HB6.out.size))
      have HX7 := Lib.hid (HX6.out.below hB7)
      have HY7 := Lib.hid (HY6.out.below hB7)
      have HBS7 := Lib.hid (HBS6.out.below hB7)
      have HFS7 := Lib.hid (HFS6.out.below hB7)
      rw [← hN6] at hQ7 ⊢
      generalize w6.alloc _ = w7 at *
      have HQ7 := Lib.hid hQ7
      clear hQ7 hN6 hB7 hFb hOb HX6 HY6 HB6 HBS6 HFS6
      obtain ⟨x0, x1, x2, x3, -, -, -, -⟩ := HX7.out.cells
      obtain ⟨-, -, -, -, y4, y5, y6, -⟩ := HY7.out.cells
      have KS3 := Lib.hid (SgK.sign m t bd fs n2 s2 cb cf date2 w7 (E.out.below HB7.out) HBS7.out HFS7.out (by omega) (by omega) (by omega) e0 e1 (by omega) (by omega) (by omega))
      go_wp2_with fail
      refine KS3.out.mono ?_
      rintro e w8 ⟨hS, hb8⟩
      rw [HS2.out] at hS
      obtain ⟨aC, cC, aD3, cD3, rfl, hFc, -, hOc⟩ := hS
      have HB8 := Lib.hid (HB7.out.trans (hb8.mono HB7.out.size))
      have HY8 := Lib.hid (HY7.out.below hb8)
      have HQ8 := Lib.hid (HQ7.out.below hb8)
      have HFB8 := Lib.hid (HFB.out.below hb8)
      have HBB8 := Lib.hid (HBB.out.below hb8)
      have hB9 := (Below.refl w8.heap.size w8).alloc (Nat.le_refl _) (.cells #[.string ⟨m.toArray⟩, .string ⟨t.toArray⟩, .slice aC fb.length cC, .slice aD3 bd.length cD3] 25)
      have hQ9 : Rq w8.heap.size (w8.alloc (.cells #[.string ⟨m.toArray⟩, .string ⟨t.toArray⟩, .slice aC fb.length cC, .slice aD3 bd.length cD3] 25)) _ _ _ _ := heap_alloc_new w8 _
      clear HX7 HY7 HB7 hb8 x0 x1 x2 x3 y4 y5 y6 KS3 HBS7 HFS7 HQ7 HFB HBB
      go_upto_region 10 with fail
      obtain ⟨N8, hN8⟩ : ∃ N8, N8 = w8.heap.size := ⟨_, rfl⟩
      have HFC := Lib.hid (hFc.below hB9)
      have HBC := Lib.hid ((SgK.own_bs hOc).below hB9)
      have HB9 := Lib.hid (HB8.out.trans (hB9.mono HB8.out.size))
      have HY9 := Lib.hid (HY8.out.below hB9)
      have HQ9 := Lib.hid (HQ8.out.below hB9)
      have HFB9 := Lib.hid (HFB8.out.below hB9)
      have HBB9 := Lib.hid (HBB8.out.below hB9)
      rw [← hN8] at hQ9 ⊢
      generalize w8.alloc _ = w9 at *
      have HR9 := Lib.hid hQ9
      clear hQ9 hN8 hB9 hFc hOc HY8 HQ8 HFB8 HBB8 HB8
      obtain ⟨-, -, -, -, y4, y5, y6, -⟩ := HY9.out.cells
      obtain ⟨q0, q1, q2, q3, -, -, -, -⟩ := HQ9.out.cells
      have hbk := (Below.refl w9.heap.size w9).alloc (Nat.le_refl _) (.cells #[.string ⟨n2.toArray⟩, .string ⟨s2.toArray⟩] 71)
      have KC := SgK.check m t bd fb [(n2, s2)] cD2 cB 1 date2 _ (E.out.below (HB9.out.trans (hbk.mono HB9.out.size))) (HBB9.out.below hbk) (HFB9.out.below hbk) (one_key w9 n2 s2) (HN.out.below (HB9.out.trans (hbk.mono HB9.out.size))) (by omega) (by simp) (by simp; omega) hfbv (by omega) (by omega) (by omega) e0 e1
      rw [hown] at KC
      have KC := Lib.hid KC
      have hyl := HY9.out.lt
      have hne1 : ¬ (w.heap.size + 1 = w9.heap.size) := by omega
      have hne2 : ¬ (w9.heap.size = w.heap.size + 1) := by omega
      clear hown hfbv
      go_wp2_with fail
      refine KC.out.mono ?_
      rintro e w10 ⟨rfl, hb10⟩
      rw [show tv aU aR aD aK (.ok n2) = .tuple #[.string ⟨n2.toArray⟩, .nilIface] from rfl]
      have hb10' := hbk.trans (hb10.mono hbk.size)
      have HB10 := Lib.hid (HB9.out.trans (hb10'.mono HB9.out.size))
      have HSM := Lib.hid (HtU.same m t m t bd bd fb fb cB cC cD2 cD3 w10 (HFB9.out.below hb10') (HFC.out.below hb10') (HBB9.out.below hb10') (HBC.out.below hb10') (by omega))
      have hY10 := HY9.out.below hb10'
      have hQ10 := HQ9.out.below hb10'
      have hR10 := HR9.out.below hb10'
      clear y4 y5 y6 q0 q1 q2 q3 hb10 hb10' hbk KC HY9 HQ9 HR9
      obtain ⟨-, -, -, -, y4, y5, y6, -⟩ := hY10.cells
      obtain ⟨q0, q1, q2, q3, -, -, -, -⟩ := hQ10.cells
      obtain ⟨r0, r1, r2, r3, -, -, -, -⟩ := hR10.cells
      have HY10 := Lib.hid hY10; clear hY10
      clear hQ10 hR10
      go_wp2_with fail
      refine HSM.out.mono ?_
      rintro e w11 ⟨rfl, hb11⟩
      rw [HtU.eqR_yes]
      obtain ⟨-, -, -, -, z4, -, -, -⟩ := (HY10.out.below hb11).cells
      have HB11 := Lib.hid (HB10.out.trans (hb11.mono HB10.out.size))
      clear y4 y5 y6 q0 q1 q2 q3 r0 r1 r2 r3 hb11
      go_wp2_with fail
      go_ret
      exact ⟨rfl, HB11.out⟩
end Go.Proofs.YtidflagmdabfaaaGreatDoor.SgO
namespace Go.Proofs.YtidflagmdabfaaaGreatDoor.SgP
open Go.RowKit Go.Proofs.YtidflagmdabfaaaGreatDoor Go.Proofs.YtidflagmdabfaaaGreatDoor.HtW Go.Proofs.YtidflagmdabfaaaGreatDoor.HtC Go.Proofs.YtidflagmdabfaaaGreatDoor.Ato Go.Proofs.YtidflagmdabfaaaGreatDoor.SgA Go.Proofs.YtidflagmdabfaaaGreatDoor.SgB Go.Proofs.YtidflagmdabfaaaGreatDoor.SgC Go.Proofs.YtidflagmdabfaaaGreatDoor.SgM Go.Proofs.YtidflagmdabfaaaGreatDoor.SgO

/-- a key's box -/
def Ky (B : Nat) (w : World) (a b : Value) : Prop := w.heap[B]? = some (.cells #[a, b] 71 (0, 0))
theorem Ky.lt {B : Nat} {w : World} {a b : Value} (h : Ky B w a b) : B < w.heap.size := (Array.getElem?_eq_some_iff.1 h).1
theorem Ky.below {B : Nat} {w w' : World} {a b : Value} (h : Ky B w a b) (hb : Below w.heap.size w w') : Ky B w' a b := (hb.block _ h.lt).trans h
theorem Ky.cells {B : Nat} {w : World} {a b : Value} (h : Ky B w a b) : w.cell? ⟨B, 0, none⟩ = some a ∧ w.cell? ⟨B, 1, none⟩ = some b :=
  ⟨Lib.cell_of_heap (j := 0) h, Lib.cell_of_heap (j := 1) h⟩

set_option maxHeartbeats 4000000 in
set_option maxRecDepth 100000 in
theorem skews (m t bd n s oth : List UInt8) (fs : List Sg.Fld) {af ab : Option Addr} (cf cb : Nat) (date off : Int) (w : World) {aU aR aD aK : Addr} (hE : Env w aU aR aD aK) (hN : Ne w) (hf : Fs w af fs) (hb : Bs w ab bd cb)
    (ht : t.length ≤ 1048576) (hm : m.length ≤ 1048576) (hn : n.length ≤ 1048576) (hs : s.length ≤ 1048576) (hbl : bd.length ≤ 1048576) (hfl : fs.length ≤ 1048576) (hfv : ∀ q ∈ fs, q.2.length ≤ 1048576)
    (d0 : -9223372036854775808 ≤ date) (d1 : date ≤ 9223372036854775807) (_e0 : -9223372036854775808 ≤ off) (_e1 : off ≤ 9223372036854775807) :
    Calls Tryz.prog 10 #[.agg #[.string ⟨m.toArray⟩, .string ⟨t.toArray⟩, .slice af fs.length cf, .slice ab bd.length cb, .string ⟨n.toArray⟩, .string ⟨s.toArray⟩, .int .i64 date, .int .i64 off, .string ⟨oth.toArray⟩]] w fun e w' => e = .returned (.bool true) ∧ Below w.heap.size w w' := by
  have E := Lib.hid hE; clear hE
  have HN := Lib.hid hN; clear hN
  have HF := Lib.hid hf; clear hf
  have HB := Lib.hid hb; clear hb
  have hX0 : Sb w.heap.size (w.alloc (.cells #[.string ⟨m.toArray⟩, .string ⟨t.toArray⟩, .slice af fs.length cf, .slice ab bd.length cb, .string ⟨n.toArray⟩, .string ⟨s.toArray⟩, .int .i64 date, .int .i64 off, .string ⟨oth.toArray⟩] 87)) _ _ _ _ _ _ _ _ _ := heap_alloc_new w _
  have hB0 := (Below.refl w.heap.size w).alloc (Nat.le_refl _) (.cells #[.string ⟨m.toArray⟩, .string ⟨t.toArray⟩, .slice af fs.length cf, .slice ab bd.length cb, .string ⟨n.toArray⟩, .string ⟨s.toArray⟩, .int .i64 date, .int .i64 off, .string ⟨oth.toArray⟩] 87)
  go_enter Tryz.func10, Tryz.ntmps10
  go_upto_region 1 with fail
  obtain ⟨N, hN⟩ : ∃ N, N = w.heap.size := ⟨_, rfl⟩
  rw [← hN] at hX0 ⊢
  have hl0 := hX0.lt
  generalize w.alloc _ = w1 at *
  have HN1 := Lib.hid hN
  have HB1 := Lib.hid hB0
  clear hN hB0
  go_cut [3, 4, 5, 6] from 10 to 17 (fun v3 v4 v5 v6 wx => ∃ P Q : Nat, v3 = .pointer (some ⟨P, 0, none⟩) ∧ v4 = .pointer (some ⟨Q, 0, none⟩) ∧ v5 = .int .i64 date ∧ v6 = .int .i64 off ∧ Hid (Rq P wx (.string ⟨m.toArray⟩) (.string ⟨t.toArray⟩) (.slice af fs.length cf) (.slice ab bd.length cb)) ∧ Hid (Ky Q wx (.string ⟨n.toArray⟩) (.string ⟨s.toArray⟩)) ∧ Hid (Below w1.heap.size w1 wx))
  case first =>
    have hX1 : Sb N w1.drew _ _ _ _ _ _ _ _ _ := hX0
    obtain ⟨x0, x1, x2, x3, x4, x5, x6, x7⟩ := hX1.cells
    obtain ⟨z0, z1, z2, z3, z4, z5, z6, z7⟩ := hX0.cells
    have hne1 : ¬ (N = w1.heap.size) := by omega
    have hne2 : ¬ (w1.heap.size = N) := by omega
    have hne3 : ¬ (N = w1.heap.size + 1) := by omega
    have hne4 : ¬ (w1.heap.size + 1 = N) := by omega
    go_region
    all_goals
      go_wp2_with fail
      go_meet
    all_goals
      first
        | exact ⟨w1.heap.size, w1.heap.size + 1, rfl, rfl, rfl, rfl, heap_alloc2_old _ _ _, heap_alloc2_new _ _ _, (((Below.refl _ _).alloc (Nat.le_refl _) _).alloc (by simp) _).drew⟩
        | exact ⟨w1.heap.size + 1, w1.heap.size, rfl, rfl, rfl, rfl, heap_alloc2_new _ _ _, heap_alloc2_old _ _ _, (((Below.refl _ _).alloc (Nat.le_refl _) _).alloc (by simp) _).drew⟩
  case rest =>
    obtain ⟨P, Q, rfl, rfl, rfl, rfl, HR, HK, HU⟩ := hcut
    have HB2 := Lib.hid (HB1.out.trans (HU.out.mono HB1.out.size))
    clear HU HB1 hX0 hl0
    go_wp2_with fail
    refine (SgN.alive wc (E.out.below HB2.out) (HN.out.below HB2.out)).mono ?_
    rintro e w3 ⟨rfl, hb3⟩
    have HB3 := Lib.hid (HB2.out.trans (hb3.mono HB2.out.size))
    have HR3 := Lib.hid (HR.out.below hb3)
    have HK3 := Lib.hid (HK.out.below hb3)
    clear HR HK HB2 hb3
    have HBS3 := Lib.hid (HB.out.below HB3.out)
    have HFS3 := Lib.hid (HF.out.below HB3.out)
    obtain ⟨x0, x1, x2, x3, -, -, -, -⟩ := HR3.out.cells
    obtain ⟨k0, k1⟩ := HK3.out.cells
    have KS1 := Lib.hid (SgK.sign m t bd fs n s cb cf date w3 (E.out.below HB3.out) HBS3.out HFS3.out (by omega) (by omega) (by omega) d0 d1 (by omega) (by omega) (by omega))
    go_wp2_with fail
    refine KS1.out.mono ?_
    rintro e w4 ⟨hS, hb4⟩
    have HB4 := Lib.hid (HB3.out.trans (hb4.mono HB3.out.size))
    have HK4 := Lib.hid (HK3.out.below hb4)
    clear HR3 HK3 HB3 hb4 x0 x1 x2 x3 k0 k1 KS1 HBS3 HFS3
    cases hS1 : Sg.sign m t bd fs n s date with
    | no er =>
      rw [hS1] at hS
      obtain rfl := hS
      go_wp2_with fail
      go_ret
      exact ⟨rfl, HB4.out.alloc HB4.out.size _⟩
    | ok fa =>
      rw [hS1] at hS
      obtain ⟨aA, cA, aD1, cD1, rfl, hFa, -, hOa⟩ := hS
      have hB5 := (Below.refl w4.heap.size w4).alloc (Nat.le_refl _) (.cells #[.string ⟨m.toArray⟩, .string ⟨t.toArray⟩, .slice aA fa.length cA, .slice aD1 bd.length cD1] 25)
      have hQ5 : Rq w4.heap.size (w4.alloc (.cells #[.string ⟨m.toArray⟩, .string ⟨t.toArray⟩, .slice aA fa.length cA, .slice aD1 bd.length cD1] 25)) _ _ _ _ := heap_alloc_new w4 _
      obtain ⟨o, ho⟩ : ∃ o, Int.tmod off 2199023255552 = o := ⟨_, rfl⟩
      have ho1 : -2199023255552 < o ∧ o < 2199023255552 := by
        rw [← ho]
        have h1 := Int.tmod_lt_of_pos off (show (0 : Int) < 2199023255552 by decide)
        have h2 := Int.tmod_lt_of_pos (-off) (show (0 : Int) < 2199023255552 by decide)
        rw [Int.neg_tmod] at h2
        exact ⟨by omega, h1⟩
      go_upto_region 8 with fail
      obtain ⟨N4, hN4⟩ : ∃ N4, N4 = w4.heap.size := ⟨_, rfl⟩
      have HFA := Lib.hid (hFa.below hB5)
      have HBA := Lib.hid ((SgK.own_bs hOa).below hB5)
      have HB5 := Lib.hid (HB4.out.trans (hB5.mono HB4.out.size))
      have HK5 := Lib.hid (HK4.out.below hB5)
      rw [← hN4] at hQ5 ⊢
      generalize w4.alloc _ = w5 at *
      have hcl := HK5.out.lt
      clear hN4 hB5 hFa hOa HK4 HB4 ho
      obtain ⟨u, hP, hgd, hgn, hfa⟩ := SgL.sign_ok hS1
      simp only [Sg.goodDate, Bool.and_eq_true, decide_eq_true_eq] at hgd
      have hfaL : fa.length ≤ 1048578 := by
        rw [hfa, List.length_append]
        have : (Sg.others fs).length ≤ fs.length := List.length_filter_le _ _
        have h2 : (Sg.two date n (Sg.sigOf (Sg.lines m u bd date) s date)).length = 2 := rfl
        omega
      have hfav : ∀ q ∈ fa, q.2.length ≤ 16777216 := by
        intro q hq
        rw [hfa] at hq
        exact two_len fs n _ date (B := 16777216) (fun q hq => by have := hfv q hq; omega) (by rw [SgL.sig_len]; omega) q hq (Dec.itoa_len d0 d1)
      have hchk := SgL.check_off (s' := [120]) (off := o) hS1
      have hcat : (⟨n.toArray⟩ : ByteArray) ++ ⟨#[45]⟩ = ⟨(n ++ [45]).toArray⟩ := Com.mk_append n [45]
      have hnl : ¬ 9223372036854775807 < n.length + 1 := by omega
      have hwd : IntKind.i64.wrap (date + o) = date + o := IntWalk.i64_in _ ⟨by omega, by omega⟩
      clear hfa hgn hP hS1
      obtain ⟨k0, k1⟩ := HK5.out.cells
      obtain ⟨q0, q1, q2, q3, -, -, -, -⟩ := hQ5.cells
      have hbk := (Below.refl w5.heap.size w5).alloc (Nat.le_refl _) (.cells #[.string ⟨(n ++ [45]).toArray⟩, .string ⟨[(120 : UInt8)].toArray⟩, .string ⟨n.toArray⟩, .string ⟨s.toArray⟩] 71)
      have KC := SgK.check m t bd fa [(n ++ [45], [120]), (n, s)] cD1 cA 2 (date + o) _ (E.out.below (HB5.out.trans (hbk.mono HB5.out.size))) (HBA.out.below hbk) (HFA.out.below hbk) (two_keys w5 (n ++ [45]) [120] n s) (HN.out.below (HB5.out.trans (hbk.mono HB5.out.size))) (by omega) (by simp) (by simp; omega) hfav (by omega) (by omega) (by omega) (by omega) (by omega)
      rw [hchk] at KC
      have KC := Lib.hid KC
      clear hchk hfav hQ5
      go_wp2_with fail
      refine KC.out.mono ?_
      rintro e w6 ⟨rfl, hb6⟩
      have hb6' := hbk.trans (hb6.mono hbk.size)
      have HB6 := Lib.hid (HB5.out.trans (hb6'.mono HB5.out.size))
      have hK6 := HK5.out.below hb6'
      have hsk := (E.out.below HB6.out).skw
      have he := fun W => Err.eqErr aK W
      clear q0 q1 q2 q3 k0 k1 hb6 hb6' hbk KC HK5 hwd hcat
      obtain ⟨k0, k1⟩ := hK6.cells
      by_cases hlo : o < -100
      · rw [if_pos (.inl hlo), show tv aU aR aD aK (.no .skew) = .tuple #[.string ⟨#[]⟩, ev aK] from rfl]
        go_wp2_with fail
        go_ret
        exact ⟨rfl, HB6.out⟩
      · by_cases hhi : 100 < o
        · rw [if_pos (.inr hhi), show tv aU aR aD aK (.no .skew) = .tuple #[.string ⟨#[]⟩, ev aK] from rfl]
          have hlo' : decide (o < -100) = false := decide_eq_false hlo
          go_wp2_with fail
          go_ret
          exact ⟨rfl, HB6.out⟩
        · rw [if_neg (by omega), show tv aU aR aD aK (.ok n) = .tuple #[.string ⟨n.toArray⟩, .nilIface] from rfl]
          have hlo' : decide (o < -100) = false := decide_eq_false hlo
          have hhi' : decide (100 < o) = false := decide_eq_false hhi
          go_wp2_with fail
          go_ret
          exact ⟨rfl, HB6.out⟩
end Go.Proofs.YtidflagmdabfaaaGreatDoor.SgP
namespace Go.Proofs.YtidflagmdabfaaaGreatDoor.SgX
open Go.RowKit Go.Proofs.YtidflagmdabfaaaGreatDoor Go.Proofs.YtidflagmdabfaaaGreatDoor.HtW Go.Proofs.YtidflagmdabfaaaGreatDoor.HtC Go.Proofs.YtidflagmdabfaaaGreatDoor.Ato Go.Proofs.YtidflagmdabfaaaGreatDoor.SgA Go.Proofs.YtidflagmdabfaaaGreatDoor.SgB Go.Proofs.YtidflagmdabfaaaGreatDoor.SgC Go.Proofs.YtidflagmdabfaaaGreatDoor.SgM Go.Proofs.YtidflagmdabfaaaGreatDoor.SgO Go.Proofs.YtidflagmdabfaaaGreatDoor.SgP

set_option maxHeartbeats 4000000 in
set_option maxRecDepth 100000 in
theorem signs (m t bd n s : List UInt8) (fs : List Sg.Fld) {af ab : Option Addr} (cf cb : Nat) (date : Int) (w : World) {aU aR aD aK : Addr} {es : List Addr} (hE : Env w aU aR aD aK) (hN : Ne w) (hA : Err.All w es) (hR : es[12]? = some aR) (hU : es[13]? = some aU) (hD : es[14]? = some aD) (hK : es[15]? = some aK) (hf : Fs w af fs) (hfn : af = none → fs.length = 0 ∧ cf = 0) (hb : Bs w ab bd cb)
    (ht : t.length ≤ 1048576) (hm : m.length ≤ 1048576) (hn : n.length ≤ 1048576) (hs : s.length ≤ 1048576) (hbl : bd.length ≤ 1048576) (hfl : fs.length ≤ 1048576)
    (d0 : -9223372036854775808 ≤ date) (d1 : date ≤ 9223372036854775807) :
    Calls Tryz.prog 8 #[.agg #[.string ⟨m.toArray⟩, .string ⟨t.toArray⟩, .slice af fs.length cf, .slice ab bd.length cb], .agg #[.string ⟨n.toArray⟩, .string ⟨s.toArray⟩], .int .i64 date] w fun e w' => e = .returned (.bool true) ∧ Below w.heap.size w w' := by
  have E := Lib.hid hE; clear hE
  have HN := Lib.hid hN; clear hN
  have HA := Lib.hid hA; clear hA
  have HF := Lib.hid hf; clear hf
  have HB := Lib.hid hb; clear hb
  have HFn := Lib.hid hfn; clear hfn
  have hX0 : Rq w.heap.size (w.alloc (.cells #[.string ⟨m.toArray⟩, .string ⟨t.toArray⟩, .slice af fs.length cf, .slice ab bd.length cb] 25)) _ _ _ _ := heap_alloc_new w _
  have hB0 := (Below.refl w.heap.size w).alloc (Nat.le_refl _) (.cells #[.string ⟨m.toArray⟩, .string ⟨t.toArray⟩, .slice af fs.length cf, .slice ab bd.length cb] 25)
  go_enter Tryz.func8, Tryz.ntmps8
  go_upto_region 1 with fail
  obtain ⟨w1, hw1⟩ : ∃ w1, w1 = w.alloc (.cells #[.string ⟨m.toArray⟩, .string ⟨t.toArray⟩, .slice af fs.length cf, .slice ab bd.length cb] 25) := ⟨_, rfl⟩
  rw [← hw1] at hX0 hB0 ⊢
  have hz1 : w1.heap.size = w.heap.size + 1 := by rw [hw1]; simp
  have hY1 : Ky w1.heap.size (w1.alloc (.cells #[.string ⟨n.toArray⟩, .string ⟨s.toArray⟩] 71)) _ _ := heap_alloc_new w1 _
  have hb1 := (Below.refl w1.heap.size w1).alloc (Nat.le_refl _) (.cells #[.string ⟨n.toArray⟩, .string ⟨s.toArray⟩] 71)
  have hX1 := hX0.below hb1
  have hB1 := hB0.trans (hb1.mono hB0.size)
  rw [hz1] at hY1
  generalize w1.alloc _ = w2 at *
  have HB2 := Lib.hid hB1
  have HX2 := Lib.hid hX1
  have HY2 := Lib.hid hY1
  clear hX0 hB0 hw1 hz1 hY1 hb1 hX1 hB1
  go_wp2_with fail
  refine (SgN.alive w2 (E.out.below HB2.out) (HN.out.below HB2.out)).mono ?_
  rintro e w3 ⟨rfl, hb3⟩
  have HB3 := Lib.hid (HB2.out.trans (hb3.mono HB2.out.size))
  have HX3 := Lib.hid (HX2.out.below hb3)
  have HY3 := Lib.hid (HY2.out.below hb3)
  clear HX2 HY2 HB2 hb3
  obtain ⟨x0, x1, x2, x3, -, -, -, -⟩ := HX3.out.cells
  have KC := Lib.hid (SgQ.copied m t bd fs cf cb w3 (HF.out.below HB3.out) HFn.out (HB.out.below HB3.out) (by omega) (by omega))
  go_wp2_with fail
  refine KC.out.mono ?_
  rintro e w4 ⟨a2, c2, a3, c3, rfl, ho2, ho3, hb4⟩
  have HB4 := Lib.hid (HB3.out.trans (hb4.mono HB3.out.size))
  have HX4 := Lib.hid (HX3.out.below hb4)
  have HY4 := Lib.hid (HY3.out.below hb4)
  have hb5 := (Below.refl w4.heap.size w4).alloc (Nat.le_refl _) (.cells #[.string ⟨m.toArray⟩, .string ⟨t.toArray⟩, .slice a2 fs.length c2, .slice a3 bd.length c3] 25)
  have hQ5 : Rq w4.heap.size (w4.alloc (.cells #[.string ⟨m.toArray⟩, .string ⟨t.toArray⟩, .slice a2 fs.length c2, .slice a3 bd.length c3] 25)) _ _ _ _ := heap_alloc_new w4 _
  clear x0 x1 x2 x3 KC hb4 HX3 HY3 HB3
  go_upto_region 4 with fail
  obtain ⟨N4, hN4⟩ : ∃ N4, N4 = w4.heap.size := ⟨_, rfl⟩
  have HB5 := Lib.hid (HB4.out.trans (hb5.mono HB4.out.size))
  have HX5 := Lib.hid (HX4.out.below hb5)
  have HY5 := Lib.hid (HY4.out.below hb5)
  have HO2 := Lib.hid (Com.own_below ho2 hb5)
  have HO3 := Lib.hid (Com.own_below ho3 hb5)
  rw [← hN4] at hQ5 ⊢
  generalize w4.alloc _ = w5 at *
  have HQ5 := Lib.hid hQ5
  clear hQ5 hN4 hb5 ho2 ho3 HX4 HY4 HB4
  obtain ⟨aF, cF, hv, -, hFs⟩ := fs_of_own HO2.out
  simp only [Value.slice.injEq, true_and] at hv
  obtain ⟨rfl, rfl⟩ := hv
  have HF5 := Lib.hid hFs
  have HC5 := Lib.hid (SgK.own_bs HO3.out)
  clear hFs
  obtain ⟨q0, q1, q2, q3, -, -, -, -⟩ := HQ5.out.cells
  obtain ⟨k0, k1⟩ := HY5.out.cells
  have KT := Lib.hid (SgB.text m t bd (.slice a2 fs.length c2) c3 date w5 (E.out.below HB5.out) HC5.out (by omega) (by omega) (by omega) d0 d1)
  go_wp2_with fail
  refine KT.out.mono ?_
  rintro e w6 ⟨hT, hb6⟩
  have HB6 := Lib.hid (HB5.out.trans (hb6.mono HB5.out.size))
  have HX6 := Lib.hid (HX5.out.below hb6)
  have HY6 := Lib.hid (HY5.out.below hb6)
  have HQ6 := Lib.hid (HQ5.out.below hb6)
  have HF6 := Lib.hid (HF5.out.below hb6)
  have HC6 := Lib.hid (HC5.out.below hb6)
  have HP6 := Lib.hid (Com.own_below HO3.out hb6)
  clear q0 q1 q2 q3 k0 k1 KT hb6 HX5 HY5 HQ5 HF5 HC5 HO2 HO3 HB5
  obtain ⟨q0, q1, q2, q3, -, -, -, -⟩ := HQ6.out.cells
  obtain ⟨k0, k1⟩ := HY6.out.cells
  obtain ⟨x, V1, nk1, hv1, hv2, hn1⟩ := SgY.text_view hR hU hD hK (Sg.text m t bd date)
  have HV2 := Lib.hid hv2
  have HN1 := Lib.hid hn1
  rw [hv1] at hT
  obtain rfl := hT
  clear hv1 hv2 hn1
  have KS := Lib.hid (SgK.sign m t bd fs n s (ab := a3) (af := a2) c3 c2 date w6 (E.out.below HB6.out) HC6.out HF6.out (by omega) (by omega) (by omega) d0 d1 (by omega) (by omega) (by omega))
  go_wp2_with fail
  refine KS.out.mono ?_
  rintro e w7 ⟨hS, hb7⟩
  obtain ⟨m', t', bd', fs', af', cf', abd, cbd, V2, nk2, rfl, hF', hO', hn2, hl', hbl', hRR⟩ := SgY.sign_view hR hU hD hK (fun fa h => SgY.sign_small hfl h) hbl hS
  have HN2 := Lib.hid hn2
  have HRR := Lib.hid hRR
  have HB7 := Lib.hid (HB6.out.trans (hb7.mono HB6.out.size))
  have HX7 := Lib.hid (HX6.out.below hb7)
  have HY7 := Lib.hid (HY6.out.below hb7)
  have HQ7 := Lib.hid (HQ6.out.below hb7)
  have HF7 := Lib.hid (HF6.out.below hb7)
  have HC7 := Lib.hid (HC6.out.below hb7)
  have HP7 := Lib.hid (Com.own_below HP6.out hb7)
  have hb8 := (Below.refl w7.heap.size w7).alloc (Nat.le_refl _) (.cells #[.string ⟨m'.toArray⟩, .string ⟨t'.toArray⟩, .slice af' fs'.length cf', .slice abd bd'.length cbd] 25)
  have hS8 : Rq w7.heap.size (w7.alloc (.cells #[.string ⟨m'.toArray⟩, .string ⟨t'.toArray⟩, .slice af' fs'.length cf', .slice abd bd'.length cbd] 25)) _ _ _ _ := heap_alloc_new w7 _
  have HZ7 := Lib.hid hb7.size
  clear q0 q1 q2 q3 k0 k1 KS hS hn2 hRR hb7 HX6 HY6 HQ6 HF6 HC6
  go_upto_region 6 with fail
  obtain ⟨N7, hN7⟩ : ∃ N7, N7 = w7.heap.size := ⟨_, rfl⟩
  have HB8 := Lib.hid (HB7.out.trans (hb8.mono HB7.out.size))
  have HX8 := Lib.hid (HX7.out.below hb8)
  have HY8 := Lib.hid (HY7.out.below hb8)
  have HQ8 := Lib.hid (HQ7.out.below hb8)
  have HF8 := Lib.hid (HF7.out.below hb8)
  have HC8 := Lib.hid (HC7.out.below hb8)
  have HG8 := Lib.hid (hF'.below hb8)
  have HO8 := Lib.hid (Com.own_below hO' hb8)
  rw [← hN7] at hS8 ⊢
  generalize w7.alloc _ = w8 at *
  have HS8 := Lib.hid hS8
  have HZ8 := Lib.hid (show w7.heap.size ≤ _ from hb8.size)
  clear hS8 hN7 hb8 hF' hO' HX7 HY7 HQ7 HF7 HC7 HB7
  obtain ⟨x0, x1, x2, x3, -, -, -, -⟩ := HX8.out.cells
  have KR := Lib.hid (RsT.rtext m t bd (.slice af fs.length cf) cb date w8 (HB.out.below HB8.out) (by omega) (by omega) (by omega) d0 d1)
  go_wp2_with fail
  refine KR.out.mono ?_
  rintro e w9 ⟨rfl, hb9⟩
  rw [HV2.out]
  have HB9 := Lib.hid (HB8.out.trans (hb9.mono HB8.out.size))
  have HX9 := Lib.hid (HX8.out.below hb9)
  have HY9 := Lib.hid (HY8.out.below hb9)
  have HQ9 := Lib.hid (HQ8.out.below hb9)
  have HF9 := Lib.hid (HF8.out.below hb9)
  have HC9 := Lib.hid (HC8.out.below hb9)
  have HG9 := Lib.hid (HG8.out.below hb9)
  have HO9 := Lib.hid (Com.own_below HO8.out hb9)
  have HS9 := Lib.hid (HS8.out.below hb9)
  have HZ9 := Lib.hid (show w8.heap.size ≤ w9.heap.size from hb9.size)
  clear x0 x1 x2 x3 KR hb9 HX8 HY8 HQ8 HF8 HC8 HG8 HO8 HS8
  obtain ⟨x0, x1, x2, x3, -, -, -, -⟩ := HX9.out.cells
  obtain ⟨k0, k1⟩ := HY9.out.cells
  have KR := Lib.hid (RsY.rsign m t bd fs n s cb cf date w9 (HB.out.below HB9.out) (HF.out.below HB9.out) (by omega) (by omega) (by omega) d0 d1 (by omega) (by omega) (by omega))
  go_wp2_with fail
  refine KR.out.mono ?_
  rintro e w10 ⟨hP, hb10⟩
  have HB10 := Lib.hid (HB9.out.trans (hb10.mono HB9.out.size))
  obtain ⟨af2, cf2, ab2, cb2, rfl, hF2, hB2⟩ := HRR.out ab cb w10 e (HB.out.below HB10.out) hP
  have hb11 := (Below.refl w10.heap.size w10).alloc (Nat.le_refl _) (.cells #[.string ⟨m'.toArray⟩, .string ⟨t'.toArray⟩, .slice af2 fs'.length cf2, .slice ab2 bd'.length cb2] 25)
  have hT11 : Rq w10.heap.size (w10.alloc (.cells #[.string ⟨m'.toArray⟩, .string ⟨t'.toArray⟩, .slice af2 fs'.length cf2, .slice ab2 bd'.length cb2] 25)) _ _ _ _ := heap_alloc_new w10 _
  clear x0 x1 x2 x3 k0 k1 KR hP
  go_upto_region 8 with fail
  obtain ⟨N10, hN10⟩ : ∃ N10, N10 = w10.heap.size := ⟨_, rfl⟩
  have HB11 := Lib.hid (HB10.out.trans (hb11.mono HB10.out.size))
  have hbb := hb10.trans (hb11.mono hb10.size)
  have HX11 := Lib.hid (HX9.out.below hbb)
  have HQ11 := Lib.hid (HQ9.out.below hbb)
  have HF11 := Lib.hid (HF9.out.below hbb)
  have HC11 := Lib.hid (HC9.out.below hbb)
  have HG11 := Lib.hid (HG9.out.below hbb)
  have HO11 := Lib.hid (Com.own_below HO9.out hbb)
  have HS11 := Lib.hid (HS9.out.below hbb)
  have HG2 := Lib.hid (hF2.below hb11)
  have HB2 := Lib.hid (hB2.below hb11)
  have HZ11 := Lib.hid (show w9.heap.size ≤ _ from hbb.size)
  rw [← hN10] at hT11 ⊢
  generalize w10.alloc _ = w11 at *
  have HT11 := Lib.hid hT11
  clear hT11 hN10 hb11 hb10 hbb hF2 hB2 HX9 HQ9 HF9 HC9 HG9 HO9 HS9
  go_wp2_with fail
  refine (HN1.out w11 (HA.out.below HB11.out)).mono ?_
  rintro e w12 ⟨rfl, hb12⟩
  obtain ⟨s0, s1, s2, s3, -, -, -, -⟩ := (HS11.out.below hb12).cells
  obtain ⟨t0, t1, t2, t3, -, -, -, -⟩ := (HT11.out.below hb12).cells
  go_wp2_with fail
  have HB12 := Lib.hid (HB11.out.trans (hb12.mono HB11.out.size))
  refine (HtU.same m' t' m' t' bd' bd' fs' fs' cf' cf2 cbd cb2 w12 (HG11.out.below hb12) (HG2.out.below hb12) (SgK.own_bs (Com.own_below HO11.out hb12)) (HB2.out.below hb12) (by omega)).mono ?_
  rintro e w13 ⟨rfl, hb13⟩
  rw [HtU.eqR_yes]
  clear s0 s1 s2 s3 t0 t1 t2 t3
  have hb1213 := hb12.trans (hb13.mono hb12.size)
  have HB13 := Lib.hid (HB11.out.trans (hb1213.mono HB11.out.size))
  go_wp2_with fail
  refine (HN2.out w13 (HA.out.below HB13.out)).mono ?_
  rintro e w14 ⟨rfl, hb14⟩
  have hb1214 := hb1213.trans (hb14.mono hb1213.size)
  have HZ14 := Lib.hid (show w11.heap.size ≤ w14.heap.size from hb1214.size)
  have HB14 := Lib.hid (HB11.out.trans (hb1214.mono HB11.out.size))
  have HX14 := Lib.hid (HX11.out.below hb1214)
  have HQ14 := Lib.hid (HQ11.out.below hb1214)
  have HS14 := Lib.hid (HS11.out.below hb1214)
  have HF14 := Lib.hid (HF11.out.below hb1214)
  have HC14 := Lib.hid (HC11.out.below hb1214)
  have HO14 := Lib.hid (Com.own_below HO11.out hb1214)
  clear hb12 hb13 hb14 hb1213 hb1214 HG11 HO11 HS11 HT11 HG2 HB2 HX11 HQ11 HF11 HC11 HB11 HB12 HB13
  obtain ⟨x0, x1, x2, x3, -, -, -, -⟩ := HX14.out.cells
  obtain ⟨q0, q1, q2, q3, -, -, -, -⟩ := HQ14.out.cells
  go_wp2_with fail
  refine (HtU.same m t m t bd bd fs fs c2 cf c3 cb w14 HF14.out (HF.out.below HB14.out) HC14.out (HB.out.below HB14.out) (by omega)).mono ?_
  rintro e w15 ⟨rfl, hb15⟩
  rw [HtU.eqR_yes]
  have HZ15 := Lib.hid (show w11.heap.size ≤ w15.heap.size from Nat.le_trans HZ14.out hb15.size)
  have HB15 := Lib.hid (HB14.out.trans (hb15.mono HB14.out.size))
  have HQ15 := Lib.hid (HQ14.out.below hb15)
  have HS15 := Lib.hid (HS14.out.below hb15)
  have HC15 := Lib.hid (HC14.out.below hb15)
  have HO15 := Lib.hid (Com.own_below HO14.out hb15)
  clear x0 x1 x2 x3 q0 q1 q2 q3 hb15 HX14 HQ14 HS14 HF14 HC14 HO14 HB14
  obtain ⟨q0, q1, q2, q3, -, -, -, -⟩ := HQ15.out.cells
  obtain ⟨s0, s1, s2, s3, -, -, -, -⟩ := HS15.out.cells
  go_wp2_with fail
  refine (NumA.apart bd bd' w6.heap.size w15 HC15.out HO15.out (SgY.own_apart HP6.out HO15.out (Nat.le_refl _)) (by omega) (Nat.le_trans HZ7.out (Nat.le_trans HZ8.out (Nat.le_trans HZ9.out (Nat.le_trans HZ11.out HZ15.out))))).mono ?_
  rintro e w16 ⟨rfl, hb16, -, -⟩
  go_wp2_with fail
  go_ret
  exact ⟨rfl, HB15.out.trans (hb16.mono HB6.out.size)⟩
end Go.Proofs.YtidflagmdabfaaaGreatDoor.SgX
