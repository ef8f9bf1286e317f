/-
  The walk of the law SigTwice. The walk of the law SigSkews. Append of keys onto keys. Plain: how the document reads a request's signing.
-/
import Derived.Test.YtidflagmdabfaaaGreatDoorSg07
import Derived.Test.YtidflagmdabfaaaGreatDoorSg10
import Derived.Test.YtidflagmdabfaaaGreatDoorSg19
import Derived.Test.YtidflagmdabfaaaGreatDoorSg22
import Derived.Test.YtidflagmdabfaaaGreatDoorSg24
import Derived.Test.YtidflagmdabfaaaGreatDoorSc07
import Derived.Deep.CutRange
namespace Go.Proofs.YtidflagmdabfaaaGreatDoor.SgO
open Go.RowKit Go.Proofs.YtidflagmdabfaaaGreatDoor Go.Proofs.YtidflagmdabfaaaGreatDoor.HtW Go.Proofs.YtidflagmdabfaaaGreatDoor.HtC Go.Proofs.YtidflagmdabfaaaGreatDoor.Ato Go.Proofs.YtidflagmdabfaaaGreatDoor.SgA Go.Proofs.YtidflagmdabfaaaGreatDoor.SgB Go.Proofs.YtidflagmdabfaaaGreatDoor.SgC Go.Proofs.YtidflagmdabfaaaGreatDoor.SgM

/-- a box of what is signed, cell by cell -/
def Sb (B : Nat) (w : World) (c0 c1 c2 c3 c4 c5 c6 c7 c8 : Value) : Prop := w.heap[B]? = some (.cells #[c0, c1, c2, c3, c4, c5, c6, c7, c8] 87 (0, 0))
theorem Sb.lt {B : Nat} {w : World} {c0 c1 c2 c3 c4 c5 c6 c7 c8 : Value} (h : Sb B w c0 c1 c2 c3 c4 c5 c6 c7 c8) : B < w.heap.size := (Array.getElem?_eq_some_iff.1 h).1
theorem Sb.below {B : Nat} {w w' : World} {c0 c1 c2 c3 c4 c5 c6 c7 c8 : Value} (h : Sb B w c0 c1 c2 c3 c4 c5 c6 c7 c8) (hb : Below w.heap.size w w') : Sb B w' c0 c1 c2 c3 c4 c5 c6 c7 c8 := (hb.block _ h.lt).trans h
theorem Sb.cells {B : Nat} {w : World} {c0 c1 c2 c3 c4 c5 c6 c7 c8 : Value} (h : Sb B w c0 c1 c2 c3 c4 c5 c6 c7 c8) :
    w.cell? ⟨B, 0, none⟩ = some c0 ∧ w.cell? ⟨B, 1, none⟩ = some c1 ∧ w.cell? ⟨B, 2, none⟩ = some c2 ∧ w.cell? ⟨B, 3, none⟩ = some c3 ∧ w.cell? ⟨B, 4, none⟩ = some c4 ∧ w.cell? ⟨B, 5, none⟩ = some c5 ∧ w.cell? ⟨B, 6, none⟩ = some c6 ∧ w.cell? ⟨B, 7, none⟩ = some c7 :=
  ⟨Lib.cell_of_heap (j := 0) h, Lib.cell_of_heap (j := 1) h, Lib.cell_of_heap (j := 2) h, Lib.cell_of_heap (j := 3) h, Lib.cell_of_heap (j := 4) h, Lib.cell_of_heap (j := 5) h, Lib.cell_of_heap (j := 6) h, Lib.cell_of_heap (j := 7) h⟩
theorem err_run {aU aR aD aK : Addr} (e : Sg.Er) : ∃ a, erv aU aR aD aK e = ev a := ⟨_, rfl⟩

set_option maxHeartbeats 4000000 in
set_option maxRecDepth 100000 in
theorem twice (m t bd n s oth m2 t2 bd2 n2 s2 oth2 : List UInt8) (fs fs2 : List Sg.Fld) {af ab af2 ab2 : Option Addr} (cf cb cf2 cb2 : Nat) (date off date2 off2 : Int) (w : World) {aU aR aD aK : Addr} (hE : Env w aU aR aD aK) (hN : Ne w) (hf : Fs w af fs) (hb : Bs w ab bd cb)
    (ht : t.length ≤ 1048576) (hm : m.length ≤ 1048576) (hn : n.length ≤ 1048576) (hs : s.length ≤ 1048576) (hbl : bd.length ≤ 1048576) (hfl : fs.length ≤ 1048576) (hfv : ∀ q ∈ fs, q.2.length ≤ 1048576) (hn2 : n2.length ≤ 1048576) (hs2 : s2.length ≤ 1048576)
    (d0 : -9223372036854775808 ≤ date) (d1 : date ≤ 9223372036854775807) (e0 : -9223372036854775808 ≤ date2) (e1 : date2 ≤ 9223372036854775807) :
    Calls Tryz.prog 12 #[.agg #[.string ⟨m.toArray⟩, .string ⟨t.toArray⟩, .slice af fs.length cf, .slice ab bd.length cb, .string ⟨n.toArray⟩, .string ⟨s.toArray⟩, .int .i64 date, .int .i64 off, .string ⟨oth.toArray⟩], .agg #[.string ⟨m2.toArray⟩, .string ⟨t2.toArray⟩, .slice af2 fs2.length cf2, .slice ab2 bd2.length cb2, .string ⟨n2.toArray⟩, .string ⟨s2.toArray⟩, .int .i64 date2, .int .i64 off2, .string ⟨oth2.toArray⟩]] w fun e w' => e = .returned (.bool true) ∧ Below w.heap.size w w' := by
  have E := Lib.hid hE; clear hE
  have HN := Lib.hid hN; clear hN
  have HF := Lib.hid hf; clear hf
  have HB := Lib.hid hb; clear hb
  have hX0 : Sb w.heap.size (w.alloc (.cells #[.string ⟨m.toArray⟩, .string ⟨t.toArray⟩, .slice af fs.length cf, .slice ab bd.length cb, .string ⟨n.toArray⟩, .string ⟨s.toArray⟩, .int .i64 date, .int .i64 off, .string ⟨oth.toArray⟩] 87)) _ _ _ _ _ _ _ _ _ := heap_alloc_new w _
  have hB0 := (Below.refl w.heap.size w).alloc (Nat.le_refl _) (.cells #[.string ⟨m.toArray⟩, .string ⟨t.toArray⟩, .slice af fs.length cf, .slice ab bd.length cb, .string ⟨n.toArray⟩, .string ⟨s.toArray⟩, .int .i64 date, .int .i64 off, .string ⟨oth.toArray⟩] 87)
  go_enter Tryz.func12, Tryz.ntmps12
  go_upto_region 1 with fail
  obtain ⟨w1, hw1⟩ : ∃ w1, w1 = w.alloc (.cells #[.string ⟨m.toArray⟩, .string ⟨t.toArray⟩, .slice af fs.length cf, .slice ab bd.length cb, .string ⟨n.toArray⟩, .string ⟨s.toArray⟩, .int .i64 date, .int .i64 off, .string ⟨oth.toArray⟩] 87) := ⟨_, rfl⟩
  rw [← hw1] at hX0 hB0 ⊢
  have hz1 : w1.heap.size = w.heap.size + 1 := by rw [hw1]; simp
  have hY1 : Sb w1.heap.size (w1.alloc (.cells #[.string ⟨m2.toArray⟩, .string ⟨t2.toArray⟩, .slice af2 fs2.length cf2, .slice ab2 bd2.length cb2, .string ⟨n2.toArray⟩, .string ⟨s2.toArray⟩, .int .i64 date2, .int .i64 off2, .string ⟨oth2.toArray⟩] 87)) _ _ _ _ _ _ _ _ _ := heap_alloc_new w1 _
  have hb1 := (Below.refl w1.heap.size w1).alloc (Nat.le_refl _) (.cells #[.string ⟨m2.toArray⟩, .string ⟨t2.toArray⟩, .slice af2 fs2.length cf2, .slice ab2 bd2.length cb2, .string ⟨n2.toArray⟩, .string ⟨s2.toArray⟩, .int .i64 date2, .int .i64 off2, .string ⟨oth2.toArray⟩] 87)
  have hX1 := hX0.below hb1
  have hB1 := hB0.trans (hb1.mono hB0.size)
  rw [hz1] at hY1
  generalize w1.alloc _ = w2 at *
  have HB2 := Lib.hid hB1
  have HX2 := Lib.hid hX1
  have HY2 := Lib.hid hY1
  clear hX0 hB0 hw1 hz1 hY1 hb1 hX1 hB1
  go_wp2_with fail
  refine (SgN.alive w2 (E.out.below HB2.out) (HN.out.below HB2.out)).mono ?_
  rintro e w3 ⟨rfl, hb3⟩
  have HB3 := Lib.hid (HB2.out.trans (hb3.mono HB2.out.size))
  have HX3 := Lib.hid (HX2.out.below hb3)
  have HY3 := Lib.hid (HY2.out.below hb3)
  clear HX2 HY2 HB2 hb3
  have HBS3 := Lib.hid (HB.out.below HB3.out)
  have HFS3 := Lib.hid (HF.out.below HB3.out)
  obtain ⟨x0, x1, x2, x3, x4, x5, x6, -⟩ := HX3.out.cells
  have KS1 := Lib.hid (SgK.sign m t bd fs n s cb cf date w3 (E.out.below HB3.out) HBS3.out HFS3.out (by omega) (by omega) (by omega) d0 d1 (by omega) (by omega) (by omega))
  go_wp2_with fail
  refine KS1.out.mono ?_
  rintro e w4 ⟨hS, hb4⟩
  have HB4 := Lib.hid (HB3.out.trans (hb4.mono HB3.out.size))
  have HX4 := Lib.hid (HX3.out.below hb4)
  have HY4 := Lib.hid (HY3.out.below hb4)
  have HBS4 := Lib.hid (HBS3.out.below hb4)
  have HFS4 := Lib.hid (HFS3.out.below hb4)
  clear HX3 HY3 HB3 hb4 x0 x1 x2 x3 x4 x5 x6 KS1 HBS3 HFS3
  cases hS1 : Sg.sign m t bd fs n s date with
  | no er =>
    rw [hS1] at hS
    obtain rfl := hS
    go_wp2_with fail
    go_ret
    exact ⟨rfl, HB4.out.alloc HB4.out.size _⟩
  | ok fa =>
    rw [hS1] at hS
    obtain ⟨aA, cA, aD1, cD1, rfl, hFa, -, hOa⟩ := hS
    have hB5 := (Below.refl w4.heap.size w4).alloc (Nat.le_refl _) (.cells #[.string ⟨m.toArray⟩, .string ⟨t.toArray⟩, .slice aA fa.length cA, .slice aD1 bd.length cD1] 25)
    have hQ5 : Rq w4.heap.size (w4.alloc (.cells #[.string ⟨m.toArray⟩, .string ⟨t.toArray⟩, .slice aA fa.length cA, .slice aD1 bd.length cD1] 25)) _ _ _ _ := heap_alloc_new w4 _
    go_upto_region 6 with fail
    obtain ⟨N4, hN4⟩ : ∃ N4, N4 = w4.heap.size := ⟨_, rfl⟩
    have HFA := Lib.hid (hFa.below hB5)
    have HBA := Lib.hid ((SgK.own_bs hOa).below hB5)
    have HB5 := Lib.hid (HB4.out.trans (hB5.mono HB4.out.size))
    have HX5 := Lib.hid (HX4.out.below hB5)
    have HY5 := Lib.hid (HY4.out.below hB5)
    have HBS5 := Lib.hid (HBS4.out.below hB5)
    have HFS5 := Lib.hid (HFS4.out.below hB5)
    rw [← hN4] at hQ5 ⊢
    generalize w4.alloc _ = w5 at *
    have HQ5 := Lib.hid hQ5
    clear hQ5 hN4 hB5 hFa hOa HX4 HY4 HB4 HBS4 HFS4
    obtain ⟨u, hP, hgd, hgn, hfa⟩ := SgL.sign_ok hS1
    have hfaL : fa.length ≤ 1048578 := by
      rw [hfa, List.length_append]
      have : (Sg.others fs).length ≤ fs.length := List.length_filter_le _ _
      have h2 : (Sg.two date n (Sg.sigOf (Sg.lines m u bd date) s date)).length = 2 := rfl
      omega
    have hsg : Sg.sign m t bd fa n2 s2 date2 = Sg.sign m t bd fs n2 s2 date2 := by rw [hfa]; exact SgL.sign_again _ _ _ _ _ _ _ _ _ _
    have HSG := Lib.hid hsg
    clear hsg hfa hgn hgd
    obtain ⟨y0, y1, y2, y3, y4, y5, y6, -⟩ := HY5.out.cells
    obtain ⟨q0, q1, q2, q3, -, -, -, -⟩ := HQ5.out.cells
    have KS2 := Lib.hid (SgK.sign m t bd fa n2 s2 cD1 cA date2 w5 (E.out.below HB5.out) HBA.out HFA.out (by omega) (by omega) (by omega) e0 e1 (by omega) (by omega) (by omega))
    have HS1 := Lib.hid hS1; clear hS1
    have HPu := Lib.hid hP; clear hP
    go_wp2_with fail
    refine KS2.out.mono ?_
    rintro e w6 ⟨hS, hb6⟩
    rw [HSG.out] at hS
    have HB6 := Lib.hid (HB5.out.trans (hb6.mono HB5.out.size))
    have HX6 := Lib.hid (HX5.out.below hb6)
    have HY6 := Lib.hid (HY5.out.below hb6)
    have HBS6 := Lib.hid (HBS5.out.below hb6)
    have HFS6 := Lib.hid (HFS5.out.below hb6)
    clear HX5 HY5 HB5 hb6 y0 y1 y2 y3 y4 y5 y6 q0 q1 q2 q3 KS2 HBS5 HFS5
    cases hS2 : Sg.sign m t bd fs n2 s2 date2 with
    | no er =>
      rw [hS2] at hS
      obtain rfl := hS
      have hno := SgL.sign_no HPu.out hS2
      have HX7 := HY6.out.below ((Below.refl w6.heap.size w6).alloc (Nat.le_refl _) (.cells #[.string ⟨#[]⟩, .string ⟨#[]⟩, .slice none 0 0, .slice none 0 0] 25))
      obtain ⟨-, -, -, -, y4, -, y6, -⟩ := HX7.cells
      clear hS2
      obtain ⟨gq, hgq⟩ : ∃ gq, Sg.goodName n2 = gq := ⟨_, rfl⟩
      rw [hgq] at hno
      have HGQ := Lib.hid hgq
      clear hgq
      cases gq with
      | false =>
          clear hno
          go_wp2_with (go_at_call 42; refine (RgN.goodNameR ⟨n2.toArray⟩ _ (by rw [Com.size_mk]; omega)).mono ?_; rintro e w7 ⟨rfl, hw7⟩; subst hw7; rw [show (ByteArray.mk n2.toArray).data.toList = n2 from rfl, HGQ.out])
          go_ret
          exact ⟨rfl, HB6.out.alloc HB6.out.size _⟩
      | true =>
        by_cases h0 : date2 < 0
        · clear hno
          go_wp2_with (go_at_call 42; refine (RgN.goodNameR ⟨n2.toArray⟩ _ (by rw [Com.size_mk]; omega)).mono ?_; rintro e w7 ⟨rfl, hw7⟩; subst hw7; rw [show (ByteArray.mk n2.toArray).data.toList = n2 from rfl, HGQ.out])
          go_ret
          exact ⟨rfl, HB6.out.alloc HB6.out.size _⟩
        · have h1 : 1099511627776 < date2 := by
            rcases hno with h | h | h
            · cases h
            · exact absurd h h0
            · exact h
          have h0' : decide (date2 < 0) = false := decide_eq_false h0
          clear hno
          go_wp2_with (go_at_call 42; refine (RgN.goodNameR ⟨n2.toArray⟩ _ (by rw [Com.size_mk]; omega)).mono ?_; rintro e w7 ⟨rfl, hw7⟩; subst hw7; rw [show (ByteArray.mk n2.toArray).data.toList = n2 from rfl, HGQ.out])
          go_ret
          exact ⟨rfl, HB6.out.alloc HB6.out.size _⟩
    | ok fb =>
      rw [hS2] at hS
      obtain ⟨aB, cB, aD2, cD2, rfl, hFb, -, hOb⟩ := hS
      have hown := SgL.check_own hS2
      have hfbv : ∀ q ∈ fb, q.2.length ≤ 16777216 := by
        obtain ⟨_, _, _, _, hfb⟩ := SgL.sign_ok hS2
        intro q hq
        rw [hfb] at hq
        exact two_len fs n2 _ date2 (B := 16777216) (fun q hq => by have := hfv q hq; omega) (by rw [SgL.sig_len]; omega) q hq (Dec.itoa_len e0 e1)
      have hfbL : fb.length ≤ 1048578 := by
        obtain ⟨u', _, _, _, hfb⟩ := SgL.sign_ok hS2
        rw [hfb, List.length_append]
        have : (Sg.others fs).length ≤ fs.length := List.length_filter_le _ _
        have h2 : (Sg.two date2 n2 (Sg.sigOf (Sg.lines m u' bd date2) s2 date2)).length = 2 := rfl
        omega
      have hB7 := (Below.refl w6.heap.size w6).alloc (Nat.le_refl _) (.cells #[.string ⟨m.toArray⟩, .string ⟨t.toArray⟩, .slice aB fb.length cB, .slice aD2 bd.length cD2] 25)
      have hQ7 : Rq w6.heap.size (w6.alloc (.cells #[.string ⟨m.toArray⟩, .string ⟨t.toArray⟩, .slice aB fb.length cB, .slice aD2 bd.length cD2] 25)) _ _ _ _ := heap_alloc_new w6 _
      have HS2 := Lib.hid hS2; clear hS2
      go_upto_region 9 with fail
      obtain ⟨N6, hN6⟩ : ∃ N6, N6 = w6.heap.size := ⟨_, rfl⟩
      have HFB := Lib.hid (hFb.below hB7)
      have HBB := Lib.hid ((SgK.own_bs hOb).below hB7)
      have HB7 := Lib.hid (HB6.out.trans (hB7.mono HB6.out.size))
      have HX7 := Lib.hid (HX6.out.below hB7)
      have HY7 := Lib.hid (HY6.out.below hB7)
      have HBS7 := Lib.hid (HBS6.out.below hB7)
      have HFS7 := Lib.hid (HFS6.out.below hB7)
      rw [← hN6] at hQ7 ⊢
      generalize w6.alloc _ = w7 at *
      have HQ7 := Lib.hid hQ7
      clear hQ7 hN6 hB7 hFb hOb HX6 HY6 HB6 HBS6 HFS6
      obtain ⟨x0, x1, x2, x3, -, -, -, -⟩ := HX7.out.cells
      obtain ⟨-, -, -, -, y4, y5, y6, -⟩ := HY7.out.cells
      have KS3 := Lib.hid (SgK.sign m t bd fs n2 s2 cb cf date2 w7 (E.out.below HB7.out) HBS7.out HFS7.out (by omega) (by omega) (by omega) e0 e1 (by omega) (by omega) (by omega))
      go_wp2_with fail
      refine KS3.out.mono ?_
      rintro e w8 ⟨hS, hb8⟩
      rw [HS2.out] at hS
      obtain ⟨aC, cC, aD3, cD3, rfl, hFc, -, hOc⟩ := hS
      have HB8 := Lib.hid (HB7.out.trans (hb8.mono HB7.out.size))
      have HY8 := Lib.hid (HY7.out.below hb8)
      have HQ8 := Lib.hid (HQ7.out.below hb8)
      have HFB8 := Lib.hid (HFB.out.below hb8)
      have HBB8 := Lib.hid (HBB.out.below hb8)
      have hB9 := (Below.refl w8.heap.size w8).alloc (Nat.le_refl _) (.cells #[.string ⟨m.toArray⟩, .string ⟨t.toArray⟩, .slice aC fb.length cC, .slice aD3 bd.length cD3] 25)
      have hQ9 : Rq w8.heap.size (w8.alloc (.cells #[.string ⟨m.toArray⟩, .string ⟨t.toArray⟩, .slice aC fb.length cC, .slice aD3 bd.length cD3] 25)) _ _ _ _ := heap_alloc_new w8 _
      clear HX7 HY7 HB7 hb8 x0 x1 x2 x3 y4 y5 y6 KS3 HBS7 HFS7 HQ7 HFB HBB
      go_upto_region 10 with fail
      obtain ⟨N8, hN8⟩ : ∃ N8, N8 = w8.heap.size := ⟨_, rfl⟩
      have HFC := Lib.hid (hFc.below hB9)
      have HBC := Lib.hid ((SgK.own_bs hOc).below hB9)
      have HB9 := Lib.hid (HB8.out.trans (hB9.mono HB8.out.size))
      have HY9 := Lib.hid (HY8.out.below hB9)
      have HQ9 := Lib.hid (HQ8.out.below hB9)
      have HFB9 := Lib.hid (HFB8.out.below hB9)
      have HBB9 := Lib.hid (HBB8.out.below hB9)
      rw [← hN8] at hQ9 ⊢
      generalize w8.alloc _ = w9 at *
      have HR9 := Lib.hid hQ9
      clear hQ9 hN8 hB9 hFc hOc HY8 HQ8 HFB8 HBB8 HB8
      obtain ⟨-, -, -, -, y4, y5, y6, -⟩ := HY9.out.cells
      obtain ⟨q0, q1, q2, q3, -, -, -, -⟩ := HQ9.out.cells
      have hbk := (Below.refl w9.heap.size w9).alloc (Nat.le_refl _) (.cells #[.string ⟨n2.toArray⟩, .string ⟨s2.toArray⟩] 71)
      have KC := SgK.check m t bd fb [(n2, s2)] cD2 cB 1 date2 _ (E.out.below (HB9.out.trans (hbk.mono HB9.out.size))) (HBB9.out.below hbk) (HFB9.out.below hbk) (one_key w9 n2 s2) (HN.out.below (HB9.out.trans (hbk.mono HB9.out.size))) (by omega) (by simp) (by simp; omega) hfbv (by omega) (by omega) (by omega) e0 e1
      rw [hown] at KC
      have KC := Lib.hid KC
      have hyl := HY9.out.lt
      have hne1 : ¬ (w.heap.size + 1 = w9.heap.size) := by omega
      have hne2 : ¬ (w9.heap.size = w.heap.size + 1) := by omega
      clear hown hfbv
      go_wp2_with fail
      refine KC.out.mono ?_
      rintro e w10 ⟨rfl, hb10⟩
      rw [show tv aU aR aD aK (.ok n2) = .tuple #[.string ⟨n2.toArray⟩, .nilIface] from rfl]
      have hb10' := hbk.trans (hb10.mono hbk.size)
      have HB10 := Lib.hid (HB9.out.trans (hb10'.mono HB9.out.size))
      have HSM := Lib.hid (HtU.same m t m t bd bd fb fb cB cC cD2 cD3 w10 (HFB9.out.below hb10') (HFC.out.below hb10') (HBB9.out.below hb10') (HBC.out.below hb10') (by omega))
      have hY10 := HY9.out.below hb10'
      have hQ10 := HQ9.out.below hb10'
      have hR10 := HR9.out.below hb10'
      clear y4 y5 y6 q0 q1 q2 q3 hb10 hb10' hbk KC HY9 HQ9 HR9
      obtain ⟨-, -, -, -, y4, y5, y6, -⟩ := hY10.cells
      obtain ⟨q0, q1, q2, q3, -, -, -, -⟩ := hQ10.cells
      obtain ⟨r0, r1, r2, r3, -, -, -, -⟩ := hR10.cells
      have HY10 := Lib.hid hY10; clear hY10
      clear hQ10 hR10
      go_wp2_with fail
      refine HSM.out.mono ?_
      rintro e w11 ⟨rfl, hb11⟩
      rw [HtU.eqR_yes]
      obtain ⟨-, -, -, -, z4, -, -, -⟩ := (HY10.out.below hb11).cells
      have HB11 := Lib.hid (HB10.out.trans (hb11.mono HB10.out.size))
      clear y4 y5 y6 q0 q1 q2 q3 r0 r1 r2 r3 hb11
      go_wp2_with fail
      go_ret
      exact ⟨rfl, HB11.out⟩
end Go.Proofs.YtidflagmdabfaaaGreatDoor.SgO
namespace Go.Proofs.YtidflagmdabfaaaGreatDoor.SgP
open Go.RowKit Go.Proofs.YtidflagmdabfaaaGreatDoor Go.Proofs.YtidflagmdabfaaaGreatDoor.HtW Go.Proofs.YtidflagmdabfaaaGreatDoor.HtC Go.Proofs.YtidflagmdabfaaaGreatDoor.Ato Go.Proofs.YtidflagmdabfaaaGreatDoor.SgA Go.Proofs.YtidflagmdabfaaaGreatDoor.SgB Go.Proofs.YtidflagmdabfaaaGreatDoor.SgC Go.Proofs.YtidflagmdabfaaaGreatDoor.SgM Go.Proofs.YtidflagmdabfaaaGreatDoor.SgO

/-- a key's box -/
def Ky (B : Nat) (w : World) (a b : Value) : Prop := w.heap[B]? = some (.cells #[a, b] 71 (0, 0))
theorem Ky.lt {B : Nat} {w : World} {a b : Value} (h : Ky B w a b) : B < w.heap.size := (Array.getElem?_eq_some_iff.1 h).1
theorem Ky.below {B : Nat} {w w' : World} {a b : Value} (h : Ky B w a b) (hb : Below w.heap.size w w') : Ky B w' a b := (hb.block _ h.lt).trans h
theorem Ky.cells {B : Nat} {w : World} {a b : Value} (h : Ky B w a b) : w.cell? ⟨B, 0, none⟩ = some a ∧ w.cell? ⟨B, 1, none⟩ = some b :=
  ⟨Lib.cell_of_heap (j := 0) h, Lib.cell_of_heap (j := 1) h⟩

set_option maxHeartbeats 4000000 in
set_option maxRecDepth 100000 in
theorem skews (m t bd n s oth : List UInt8) (fs : List Sg.Fld) {af ab : Option Addr} (cf cb : Nat) (date off : Int) (w : World) {aU aR aD aK : Addr} (hE : Env w aU aR aD aK) (hN : Ne w) (hf : Fs w af fs) (hb : Bs w ab bd cb)
    (ht : t.length ≤ 1048576) (hm : m.length ≤ 1048576) (hn : n.length ≤ 1048576) (hs : s.length ≤ 1048576) (hbl : bd.length ≤ 1048576) (hfl : fs.length ≤ 1048576) (hfv : ∀ q ∈ fs, q.2.length ≤ 1048576)
    (d0 : -9223372036854775808 ≤ date) (d1 : date ≤ 9223372036854775807) (_e0 : -9223372036854775808 ≤ off) (_e1 : off ≤ 9223372036854775807) :
    Calls Tryz.prog 10 #[.agg #[.string ⟨m.toArray⟩, .string ⟨t.toArray⟩, .slice af fs.length cf, .slice ab bd.length cb, .string ⟨n.toArray⟩, .string ⟨s.toArray⟩, .int .i64 date, .int .i64 off, .string ⟨oth.toArray⟩]] w fun e w' => e = .returned (.bool true) ∧ Below w.heap.size w w' := by
  have E := Lib.hid hE; clear hE
  have HN := Lib.hid hN; clear hN
  have HF := Lib.hid hf; clear hf
  have HB := Lib.hid hb; clear hb
  have hX0 : Sb w.heap.size (w.alloc (.cells #[.string ⟨m.toArray⟩, .string ⟨t.toArray⟩, .slice af fs.length cf, .slice ab bd.length cb, .string ⟨n.toArray⟩, .string ⟨s.toArray⟩, .int .i64 date, .int .i64 off, .string ⟨oth.toArray⟩] 87)) _ _ _ _ _ _ _ _ _ := heap_alloc_new w _
  have hB0 := (Below.refl w.heap.size w).alloc (Nat.le_refl _) (.cells #[.string ⟨m.toArray⟩, .string ⟨t.toArray⟩, .slice af fs.length cf, .slice ab bd.length cb, .string ⟨n.toArray⟩, .string ⟨s.toArray⟩, .int .i64 date, .int .i64 off, .string ⟨oth.toArray⟩] 87)
  go_enter Tryz.func10, Tryz.ntmps10
  go_upto_region 1 with fail
  obtain ⟨N, hN⟩ : ∃ N, N = w.heap.size := ⟨_, rfl⟩
  rw [← hN] at hX0 ⊢
  have hl0 := hX0.lt
  generalize w.alloc _ = w1 at *
  have HN1 := Lib.hid hN
  have HB1 := Lib.hid hB0
  clear hN hB0
  go_cut [3, 4, 5, 6] from 10 to 17 (fun v3 v4 v5 v6 wx => ∃ P Q : Nat, v3 = .pointer (some ⟨P, 0, none⟩) ∧ v4 = .pointer (some ⟨Q, 0, none⟩) ∧ v5 = .int .i64 date ∧ v6 = .int .i64 off ∧ Hid (Rq P wx (.string ⟨m.toArray⟩) (.string ⟨t.toArray⟩) (.slice af fs.length cf) (.slice ab bd.length cb)) ∧ Hid (Ky Q wx (.string ⟨n.toArray⟩) (.string ⟨s.toArray⟩)) ∧ Hid (Below w1.heap.size w1 wx))
  case first =>
    have hX1 : Sb N w1.drew _ _ _ _ _ _ _ _ _ := hX0
    obtain ⟨x0, x1, x2, x3, x4, x5, x6, x7⟩ := hX1.cells
    obtain ⟨z0, z1, z2, z3, z4, z5, z6, z7⟩ := hX0.cells
    have hne1 : ¬ (N = w1.heap.size) := by omega
    have hne2 : ¬ (w1.heap.size = N) := by omega
    have hne3 : ¬ (N = w1.heap.size + 1) := by omega
    have hne4 : ¬ (w1.heap.size + 1 = N) := by omega
    go_region
    all_goals
      go_wp2_with fail
      go_meet
    all_goals
      first
        | exact ⟨w1.heap.size, w1.heap.size + 1, rfl, rfl, rfl, rfl, heap_alloc2_old _ _ _, heap_alloc2_new _ _ _, (((Below.refl _ _).alloc (Nat.le_refl _) _).alloc (by simp) _).drew⟩
        | exact ⟨w1.heap.size + 1, w1.heap.size, rfl, rfl, rfl, rfl, heap_alloc2_new _ _ _, heap_alloc2_old _ _ _, (((Below.refl _ _).alloc (Nat.le_refl _) _).alloc (by simp) _).drew⟩
  case rest =>
    obtain ⟨P, Q, rfl, rfl, rfl, rfl, HR, HK, HU⟩ := hcut
    have HB2 := Lib.hid (HB1.out.trans (HU.out.mono HB1.out.size))
    clear HU HB1 hX0 hl0
    go_wp2_with fail
    refine (SgN.alive wc (E.out.below HB2.out) (HN.out.below HB2.out)).mono ?_
    rintro e w3 ⟨rfl, hb3⟩
    have HB3 := Lib.hid (HB2.out.trans (hb3.mono HB2.out.size))
    have HR3 := Lib.hid (HR.out.below hb3)
    have HK3 := Lib.hid (HK.out.below hb3)
    clear HR HK HB2 hb3
    have HBS3 := Lib.hid (HB.out.below HB3.out)
    have HFS3 := Lib.hid (HF.out.below HB3.out)
    obtain ⟨x0, x1, x2, x3, -, -, -, -⟩ := HR3.out.cells
    obtain ⟨k0, k1⟩ := HK3.out.cells
    have KS1 := Lib.hid (SgK.sign m t bd fs n s cb cf date w3 (E.out.below HB3.out) HBS3.out HFS3.out (by omega) (by omega) (by omega) d0 d1 (by omega) (by omega) (by omega))
    go_wp2_with fail
    refine KS1.out.mono ?_
    rintro e w4 ⟨hS, hb4⟩
    have HB4 := Lib.hid (HB3.out.trans (hb4.mono HB3.out.size))
    have HK4 := Lib.hid (HK3.out.below hb4)
    clear HR3 HK3 HB3 hb4 x0 x1 x2 x3 k0 k1 KS1 HBS3 HFS3
    cases hS1 : Sg.sign m t bd fs n s date with
    | no er =>
      rw [hS1] at hS
      obtain rfl := hS
      go_wp2_with fail
      go_ret
      exact ⟨rfl, HB4.out.alloc HB4.out.size _⟩
    | ok fa =>
      rw [hS1] at hS
      obtain ⟨aA, cA, aD1, cD1, rfl, hFa, -, hOa⟩ := hS
      have hB5 := (Below.refl w4.heap.size w4).alloc (Nat.le_refl _) (.cells #[.string ⟨m.toArray⟩, .string ⟨t.toArray⟩, .slice aA fa.length cA, .slice aD1 bd.length cD1] 25)
      have hQ5 : Rq w4.heap.size (w4.alloc (.cells #[.string ⟨m.toArray⟩, .string ⟨t.toArray⟩, .slice aA fa.length cA, .slice aD1 bd.length cD1] 25)) _ _ _ _ := heap_alloc_new w4 _
      obtain ⟨o, ho⟩ : ∃ o, Int.tmod off 2199023255552 = o := ⟨_, rfl⟩
      have ho1 : -2199023255552 < o ∧ o < 2199023255552 := by
        rw [← ho]
        have h1 := Int.tmod_lt_of_pos off (show (0 : Int) < 2199023255552 by decide)
        have h2 := Int.tmod_lt_of_pos (-off) (show (0 : Int) < 2199023255552 by decide)
        rw [Int.neg_tmod] at h2
        exact ⟨by omega, h1⟩
      go_upto_region 8 with fail
      obtain ⟨N4, hN4⟩ : ∃ N4, N4 = w4.heap.size := ⟨_, rfl⟩
      have HFA := Lib.hid (hFa.below hB5)
      have HBA := Lib.hid ((SgK.own_bs hOa).below hB5)
      have HB5 := Lib.hid (HB4.out.trans (hB5.mono HB4.out.size))
      have HK5 := Lib.hid (HK4.out.below hB5)
      rw [← hN4] at hQ5 ⊢
      generalize w4.alloc _ = w5 at *
      have hcl := HK5.out.lt
      clear hN4 hB5 hFa hOa HK4 HB4 ho
      obtain ⟨u, hP, hgd, hgn, hfa⟩ := SgL.sign_ok hS1
      simp only [Sg.goodDate, Bool.and_eq_true, decide_eq_true_eq] at hgd
      have hfaL : fa.length ≤ 1048578 := by
        rw [hfa, List.length_append]
        have : (Sg.others fs).length ≤ fs.length := List.length_filter_le _ _
        have h2 : (Sg.two date n (Sg.sigOf (Sg.lines m u bd date) s date)).length = 2 := rfl
        omega
      have hfav : ∀ q ∈ fa, q.2.length ≤ 16777216 := by
        intro q hq
        rw [hfa] at hq
        exact two_len fs n _ date (B := 16777216) (fun q hq => by have := hfv q hq; omega) (by rw [SgL.sig_len]; omega) q hq (Dec.itoa_len d0 d1)
      have hchk := SgL.check_off (s' := [120]) (off := o) hS1
      have hcat : (⟨n.toArray⟩ : ByteArray) ++ ⟨#[45]⟩ = ⟨(n ++ [45]).toArray⟩ := Com.mk_append n [45]
      have hnl : ¬ 9223372036854775807 < n.length + 1 := by omega
      have hwd : IntKind.i64.wrap (date + o) = date + o := IntWalk.i64_in _ ⟨by omega, by omega⟩
      clear hfa hgn hP hS1
      obtain ⟨k0, k1⟩ := HK5.out.cells
      obtain ⟨q0, q1, q2, q3, -, -, -, -⟩ := hQ5.cells
      have hbk := (Below.refl w5.heap.size w5).alloc (Nat.le_refl _) (.cells #[.string ⟨(n ++ [45]).toArray⟩, .string ⟨[(120 : UInt8)].toArray⟩, .string ⟨n.toArray⟩, .string ⟨s.toArray⟩] 71)
      have KC := SgK.check m t bd fa [(n ++ [45], [120]), (n, s)] cD1 cA 2 (date + o) _ (E.out.below (HB5.out.trans (hbk.mono HB5.out.size))) (HBA.out.below hbk) (HFA.out.below hbk) (two_keys w5 (n ++ [45]) [120] n s) (HN.out.below (HB5.out.trans (hbk.mono HB5.out.size))) (by omega) (by simp) (by simp; omega) hfav (by omega) (by omega) (by omega) (by omega) (by omega)
      rw [hchk] at KC
      have KC := Lib.hid KC
      clear hchk hfav hQ5
      go_wp2_with fail
      refine KC.out.mono ?_
      rintro e w6 ⟨rfl, hb6⟩
      have hb6' := hbk.trans (hb6.mono hbk.size)
      have HB6 := Lib.hid (HB5.out.trans (hb6'.mono HB5.out.size))
      have hK6 := HK5.out.below hb6'
      have hsk := (E.out.below HB6.out).skw
      have he := fun W => Err.eqErr aK W
      clear q0 q1 q2 q3 k0 k1 hb6 hb6' hbk KC HK5 hwd hcat
      obtain ⟨k0, k1⟩ := hK6.cells
      by_cases hlo : o < -100
      · rw [if_pos (.inl hlo), show tv aU aR aD aK (.no .skew) = .tuple #[.string ⟨#[]⟩, ev aK] from rfl]
        go_wp2_with fail
        go_ret
        exact ⟨rfl, HB6.out⟩
      · by_cases hhi : 100 < o
        · rw [if_pos (.inr hhi), show tv aU aR aD aK (.no .skew) = .tuple #[.string ⟨#[]⟩, ev aK] from rfl]
          have hlo' : decide (o < -100) = false := decide_eq_false hlo
          go_wp2_with fail
          go_ret
          exact ⟨rfl, HB6.out⟩
        · rw [if_neg (by omega), show tv aU aR aD aK (.ok n) = .tuple #[.string ⟨n.toArray⟩, .nilIface] from rfl]
          have hlo' : decide (o < -100) = false := decide_eq_false hlo
          have hhi' : decide (100 < o) = false := decide_eq_false hhi
          go_wp2_with fail
          go_ret
          exact ⟨rfl, HB6.out⟩
end Go.Proofs.YtidflagmdabfaaaGreatDoor.SgP
namespace Go.Proofs.YtidflagmdabfaaaGreatDoor.KyA
open Go.RowKit Go.Proofs.YtidflagmdabfaaaGreatDoor Go.Proofs.YtidflagmdabfaaaGreatDoor.Ht Go.Proofs.YtidflagmdabfaaaGreatDoor.HtW Go.Proofs.YtidflagmdabfaaaGreatDoor.HtC Go.Proofs.YtidflagmdabfaaaGreatDoor.SgQ

theorem infoKey : (Tryz.prog.info? 71).map (fun i => (i.zero, i.size, i.bytes)) = some (some (.agg #[.string ⟨#[]⟩, .string ⟨#[]⟩]), 2, 32) := by kernel_rfl
theorem ks_of_own {w : World} {base : Nat} {v : Value} {fs : List Fld} (h : w.ownsRow base 71 2 v fs.length (fcells fs)) :
    ∃ a c, v = .slice a fs.length c ∧ fs.length ≤ c ∧ Fs w a fs := by
  rcases h.2 with ⟨rfl, h0⟩ | ⟨g, cap, cur, hv, hb, hg, hn, hm, hcs, htk⟩
  · have h0 : fs = [] := List.eq_nil_of_length_eq_zero h0
    subst h0
    exact ⟨none, 0, rfl, Nat.le_refl _, .inl rfl⟩
  · refine ⟨some ⟨g, 0, none⟩, cap, hv, hn, .inr ⟨g, 0, rfl, (Array.getElem?_eq_some_iff.1 hg).1, fun j p hj => ?_⟩⟩
    obtain ⟨q1, q2⟩ := fcells_get hj
    have c1 := h.cells (g := g) (by rw [hv]; rfl) _ _ q1
    have c2 := h.cells (g := g) (by rw [hv]; rfl) _ _ q2
    rw [addr_add] at c1 c2
    exact ⟨c1, c2⟩
/-- append: keys onto keys -/
theorem run_append_keys (w : World) (base : Nat) (v : Value) (l r : List Fld) (hown : w.ownsRow base 71 2 v l.length (fcells l)) (aR : Option Addr) (cR : Nat) (hF : Fs w aR r) (hn : aR = none → r.length = 0 ∧ cR = 0) (hbase : base ≤ w.heap.size) (hlen : l.length + r.length ≤ 4294967300) (ty : TypeId) :
    ∃ ar cr w', (Builtin.append_ #[82, 82] ty #[v, .slice aR r.length cR]).run Tryz.prog w = .ok (.slice ar (l.length + r.length) cr) w' ∧ w'.ownsRow base 71 2 (.slice ar (l.length + r.length) cr) (l ++ r).length (fcells (l ++ r)) ∧ w.grownBy w' v.ownBlock ∧ Below base w w' := by
  obtain ⟨i0, hi, hz0, hz1, hz2⟩ := info_parts infoKey
  have happ : fcells (l ++ r) = fcells l ++ fcells r := by simp [fcells]
  cases aR with
  | none =>
    obtain ⟨h0, rfl⟩ := hn rfl
    have hr : r = [] := List.eq_nil_of_length_eq_zero h0
    subst hr
    have hrun := run_append_owned_none (P := Tryz.prog) w base 82 ty 71 i0 2 Tryz.underlying82 hi v l.length (fcells l) hown
    obtain ⟨a, c, rfl, _, _⟩ := ks_of_own hown
    exact ⟨a, c, w, hrun, by simpa using hown, ⟨rfl, rfl, rfl, Nat.le_refl _, fun _ _ _ => rfl⟩, Below.refl _ _⟩
  | some p =>
    obtain ⟨v', w', h1, h2, h3, _⟩ := run_append_own (P := Tryz.prog) w base 82 ty 71 i0 _ 2 32 Tryz.underlying82 hi hz0 hz1 hz2 rfl (by decide) v l.length (fcells l) hown p r.length cR (fcells r) (fcells_length r) (Fs.holds hF) (fcells_one r) (by unfold maxLen; omega) (by omega) hbase
    rw [← happ, ← List.length_append] at h2
    obtain ⟨a, c, rfl, _, _⟩ := ks_of_own h2
    rw [List.length_append] at h1
    refine ⟨a, c, w', h1, by rw [← List.length_append]; exact h2, h3, (Below.refl base w).grown h3 hbase fun k hk => ?_⟩
    exact (hown.lt k hk).1
theorem wpList_append_keys {ops : Array Oper} {rest : List Oper} {o : Oper} {a : Act} {Q : Exit → Act → World → Prop} (w : World) (hg : o.guard = none) (s x : Operand) (hop : o.op = Op.call { callee := Callee.builtin Builtin.append, args := #[s, x], argTypes := #[82, 82] })
    (base n : Nat) (v : Value) (l r : List Fld) (hown : w.ownsRow base 71 2 v l.length (fcells l)) (aR : Option Addr) (cR : Nat) (hF : Fs w aR r) (hn : aR = none → r.length = 0 ∧ cR = 0) (hbase : base ≤ w.heap.size) (hlen : l.length + r.length ≤ 4294967300)
    (hN : n = l.length + r.length) (hs : a.eval s = v) (hx : a.eval x = .slice aR r.length cR)
    (hK : ∀ ar cr w', w'.ownsRow base 71 2 (.slice ar n cr) (l ++ r).length (fcells (l ++ r)) → w.grownBy w' v.ownBlock → Below base w w' → wpList Tryz.prog ops Q rest (a.put o.dst (.slice ar n cr)) w') :
    wpList Tryz.prog ops Q (o :: rest) a w := by
  subst hN
  refine wpList_plain hg fun K hK' => ?_
  obtain ⟨ar, cr, w', hrun, h1, h2, h3⟩ := run_append_keys w base v l r hown aR cR hF hn hbase hlen o.type
  unfold Oper.wp
  simp [execOp, hop, resolve, invoke, builtin, hs, hx, hrun, Result.andThen]
  exact hK' _ _ (hK ar cr w' h1 h2 h3)
theorem own_fresh (w : World) : (w.alloc (.cells #[] 71)).ownsRow w.heap.size 71 2 (.slice (some ⟨w.heap.size, 0, none⟩) 0 0) 0 [] :=
  ⟨rfl, .inr ⟨w.heap.size, 0, #[], rfl, Nat.le_refl _, heap_alloc_new _ _, Nat.le_refl _, by unfold maxLen; omega, rfl, rfl⟩⟩
theorem step_append_keys {ops : Array Oper} {o : Oper} {a : Act} {w : World} {K : Act → World → Prop} {Q : Exit → Act → World → Prop} {E : Prop} (hg : o.guard = none) (s x : Operand) (hop : o.op = Op.call { callee := Callee.builtin Builtin.append, args := #[s, x], argTypes := #[82, 82] })
    (base : Nat) (v : Value) (l r : List Fld) (hown : w.ownsRow base 71 2 v l.length (fcells l)) (aR : Option Addr) (cR : Nat) (hF : Fs w aR r) (hn : aR = none → r.length = 0 ∧ cR = 0) (hbase : base ≤ w.heap.size) (hlen : l.length + r.length ≤ 4294967300)
    (hs : a.eval s = v) (hx : a.eval x = .slice aR r.length cR)
    (hK : ∀ ar cr w', w'.ownsRow base 71 2 (.slice ar (l.length + r.length) cr) (l ++ r).length (fcells (l ++ r)) → Below base w w' → K (a.put o.dst (.slice ar (l.length + r.length) cr)) w') :
    if Region.wanted o (yielded ops a.tmps) = true then Oper.wp Tryz.prog o a w K Q else E := by
  have hw : Region.wanted o (yielded ops a.tmps) = true := by simp [Region.wanted, hg]
  rw [if_pos hw]
  obtain ⟨ar, cr, w', hrun, h1, _, h3⟩ := run_append_keys w base v l r hown aR cR hF hn hbase hlen o.type
  unfold Oper.wp
  simp [execOp, hop, resolve, invoke, builtin, hs, hx, hrun, Result.andThen]
  exact hK ar cr w' h1 h3
end Go.Proofs.YtidflagmdabfaaaGreatDoor.KyA
namespace Go.Proofs.YtidflagmdabfaaaGreatDoor.RcP
open Go.Proofs.YtidflagmdabfaaaGreatDoor Go.Proofs.YtidflagmdabfaaaGreatDoor.Ip

abbrev Fld := Sg.Fld
/-- the last value under a name -/
def lastOf (fs : List Fld) (n : List UInt8) : List UInt8 := fs.foldl (fun v f => if f.1 = n then f.2 else v) []
theorem last_take {fs : List Fld} {k : Nat} {q : Fld} (n : List UInt8) (h : fs[k]? = some q) : lastOf (fs.take (k + 1)) n = if q.1 = n then q.2 else lastOf (fs.take k) n := by
  unfold lastOf
  rw [List.take_add_one, h, List.foldl_append]
  rfl
theorem last_none {fs : List Fld} {n v : List UInt8} (h : Ht.cnt fs n = 0) : fs.foldl (fun v f => if f.1 = n then f.2 else v) v = v := by
  induction fs generalizing v with
  | nil => rfl
  | cons f r ih =>
    unfold Ht.cnt at h
    rw [List.filter_cons] at h
    split at h
    · simp at h
    · rename_i hf
      rw [List.foldl_cons, if_neg (by simpa using hf)]
      exact ih h
theorem last_one {fs : List Fld} {n v : List UInt8} (h : Ht.cnt fs n = 1) : Ht.get fs n = some (fs.foldl (fun v f => if f.1 = n then f.2 else v) v) := by
  induction fs generalizing v with
  | nil => cases h
  | cons f r ih =>
    unfold Ht.cnt at h
    rw [List.filter_cons] at h
    split at h
    · rename_i hf
      have h0 : Ht.cnt r n = 0 := by unfold Ht.cnt; simpa using h
      have hf' : f.1 = n := by simpa using hf
      rw [List.foldl_cons, if_pos hf', last_none h0]
      unfold Ht.get
      rw [List.find?_cons, hf]
      rfl
    · rename_i hf
      have hf' : ¬ f.1 = n := by simpa using hf
      rw [List.foldl_cons, if_neg hf', ← ih (by unfold Ht.cnt; exact h)]
      unfold Ht.get
      rw [List.find?_cons]
      have : (f.1 == n) = false := by simpa using hf'
      rw [this]
theorem last_get {fs : List Fld} {n : List UInt8} (h : Ht.cnt fs n = 1) : Ht.get fs n = some (lastOf fs n) := last_one h

/-- a number's text, as the document asks it -/
theorem num_all {l : List UInt8} (h : l.all isD = false) : Nm.numOf l = none := by
  unfold Nm.numOf
  rw [if_neg (by rw [h]; simp)]
theorem num_long {l : List UInt8} (h : 14 < l.length) : Nm.numOf l = none := by
  cases e : Nm.numOf l with
  | none => rfl
  | some n =>
    obtain ⟨rfl, hn⟩ := (Nm.numOf_iff l n).1 e
    have := Dec.dec_len 13 n (by omega)
    omega
theorem num_nil : Nm.numOf [] = none := by decide
theorem num_lead {r : List UInt8} (h : r ≠ []) : Nm.numOf (48 :: r) = none := by
  unfold Nm.numOf
  rw [if_neg]
  rintro ⟨_, h2, _⟩
  rw [okd_iff] at h2
  rcases h2.2 with h3 | h3
  · exact h3 rfl
  · exact h (List.eq_nil_of_length_eq_zero (by simpa using h3))
theorem num_if {l : List UInt8} (h : l.all isD = true) (ho : okd l = true) : Nm.numOf l = if val l ≤ 1099511627776 then some (val l) else none := by
  unfold Nm.numOf
  by_cases e : val l ≤ 1099511627776
  · rw [if_pos ⟨h, ho, e⟩, if_pos e]
  · rw [if_neg (fun k => e k.2.2), if_neg e]
theorem val_small {l : List UInt8} (h : l.all isD = true) (hl : l.length ≤ 14) : val l < 100000000000000 := by
  have h1 : ∀ (n : Nat) (l : List UInt8), l.length = n → (∀ c ∈ l, isD c = true) → val l < 10 ^ n := by
    intro n
    induction n with
    | zero => intro l h _; rw [List.eq_nil_of_length_eq_zero h]; decide
    | succ n ih =>
      intro l hn h
      rcases List.eq_nil_or_concat l with rfl | ⟨t, c, rfl⟩
      · cases hn
      · rw [List.concat_eq_append] at *
        have h1 := ih t (by simpa using hn) fun d hd => h d (by simp [hd])
        have hc := (isD_iff c).1 (h c (by simp))
        rw [val_snoc, Nat.pow_succ]
        omega
  have h2 := h1 _ l rfl (List.all_eq_true.1 h)
  have h3 : 10 ^ l.length ≤ 10 ^ 14 := Nat.pow_le_pow_right (by omega) hl
  have h4 : (10 ^ 14 : Nat) = 100000000000000 := by decide
  omega
/-- how a text of digits stands -/
theorem num_ways {l : List UInt8} (h : l.all isD = true) : (l.length = 0 ∧ Nm.numOf l = none) ∨ (0 < l.length ∧ l[0]? ≠ some 48 ∧ Nm.numOf l = if val l ≤ 1099511627776 then some (val l) else none) ∨ (l.length = 1 ∧ l[0]? = some 48 ∧ Nm.numOf l = if val l ≤ 1099511627776 then some (val l) else none) ∨ (1 < l.length ∧ l[0]? = some 48 ∧ Nm.numOf l = none) := by
  cases l with
  | nil => exact .inl ⟨rfl, num_nil⟩
  | cons c r =>
    by_cases hc : c = 48
    · subst hc
      by_cases hr : r = []
      · subst hr
        exact .inr (.inr (.inl ⟨rfl, rfl, num_if h (by decide)⟩))
      · refine .inr (.inr (.inr ⟨?_, rfl, num_lead hr⟩))
        have : 0 < r.length := List.length_pos_iff.2 hr
        simp; omega
    · refine .inr (.inl ⟨by simp, by simpa using hc, num_if h ((okd_iff _).2 ⟨by simp, .inl (by simpa using hc)⟩)⟩)

/-- the parts of an authorization, as the document asks them -/
abbrev lead : List UInt8 := [66, 79, 76, 76, 65, 82, 68, 49, 32]
theorem parts_lead {a : List UInt8} (h : a.take 9 ≠ lead) : Sg.parts a = none := by
  unfold Sg.parts
  rw [if_neg (show ¬ a.take 9 = Sg.scheme ++ [32] from h)]
theorem parts_free {a : List UInt8} (h : (58 : UInt8) ∉ a.drop 9) : Sg.parts a = none := by
  unfold Sg.parts
  have e : Lib.cut (a.drop 9) [58] = (a.drop 9, [], false) := by
    unfold Lib.cut
    rw [Up.index_free h, if_neg (by omega)]
  rw [e]
  split
  · rw [if_neg]
    rintro ⟨k, _⟩
    cases k
  · rfl
theorem parts_at {a n h : List UInt8} (h9 : a.take 9 = lead) (hd : a.drop 9 = n ++ 58 :: h) (hn : (58 : UInt8) ∉ n) : Sg.parts a = if Sg.goodName n = true ∧ h.length = 64 ∧ Nm.isHex h = true then some (n, h) else none := by
  have e3 : Lib.cut (n ++ 58 :: h) [58] = (n, h, true) := by
    unfold Lib.cut
    rw [Up.index_at hn, if_pos (by omega), Int.toNat_natCast, List.take_left, show n.length + ([58] : List UInt8).length = n.length + 1 from rfl, List.drop_length_add_append]
    rfl
  unfold Sg.parts
  rw [if_pos (show a.take 9 = Sg.scheme ++ [32] from h9), hd, e3]
  simp only [true_and]
theorem parts_short {a : List UInt8} (h : a.length < 74) : Sg.parts a = none := by
  by_cases h9 : a.take 9 = lead
  · by_cases hm : (58 : UInt8) ∈ a.drop 9
    · obtain ⟨n, r, hd, hn⟩ := Up.parts hm
      rw [parts_at h9 hd hn, if_neg]
      rintro ⟨_, hl, _⟩
      have := congrArg List.length hd
      have h8 := congrArg List.length h9
      rw [List.length_drop, List.length_append, List.length_cons] at this
      rw [List.length_take] at h8
      have h7 : lead.length = 9 := rfl
      omega
    · exact parts_free hm
  · exact parts_lead h9
theorem claimed_no1 {fs : List Fld} (h : Ht.cnt fs Sg.xdate ≠ 1) : Sg.claimed fs = none := by
  unfold Sg.claimed
  rw [if_neg (fun k => h k.1)]
theorem claimed_no2 {fs : List Fld} (h : Ht.cnt fs Sg.auth ≠ 1) : Sg.claimed fs = none := by
  unfold Sg.claimed
  rw [if_neg (fun k => h k.2)]
theorem claimed_is {fs : List Fld} (h1 : Ht.cnt fs Sg.xdate = 1) (h2 : Ht.cnt fs Sg.auth = 1) : Sg.claimed fs = match Nm.numOf (lastOf fs Sg.xdate), Sg.parts (lastOf fs Sg.auth) with
    | some n, some (a, h) => some (n, a, h)
    | _, _ => none := by
  unfold Sg.claimed
  rw [if_pos ⟨h1, h2⟩, last_get h1, last_get h2]
  rfl
theorem claimed_no3 {fs : List Fld} (h1 : Ht.cnt fs Sg.xdate = 1) (h2 : Ht.cnt fs Sg.auth = 1) (h : Nm.numOf (lastOf fs Sg.xdate) = none) : Sg.claimed fs = none := by
  rw [claimed_is h1 h2, h]
theorem claimed_no4 {fs : List Fld} (h1 : Ht.cnt fs Sg.xdate = 1) (h2 : Ht.cnt fs Sg.auth = 1) (h : Sg.parts (lastOf fs Sg.auth) = none) : Sg.claimed fs = none := by
  rw [claimed_is h1 h2, h]
  cases Nm.numOf (lastOf fs Sg.xdate) <;> rfl
theorem claimed_yes {fs : List Fld} {n : Nat} {a h : List UInt8} (h1 : Ht.cnt fs Sg.xdate = 1) (h2 : Ht.cnt fs Sg.auth = 1) (h3 : Nm.numOf (lastOf fs Sg.xdate) = some n) (h4 : Sg.parts (lastOf fs Sg.auth) = some (a, h)) : Sg.claimed fs = some (n, a, h) := by
  rw [claimed_is h1 h2, h3, h4]
theorem last_len {fs : List Fld} {b : Nat} (h : ∀ q ∈ fs, q.2.length ≤ b) (n : List UInt8) : (lastOf fs n).length ≤ b := by
  have hg : ∀ (fs : List Fld) (v : List UInt8), (∀ q ∈ fs, q.2.length ≤ b) → v.length ≤ b → (fs.foldl (fun v f => if f.1 = n then f.2 else v) v).length ≤ b := by
    intro fs
    induction fs with
    | nil => intro v _ hv; exact hv
    | cons f r ih =>
      intro v h hv
      rw [List.foldl_cons]
      refine ih _ (fun q hq => h q (List.mem_cons_of_mem _ hq)) ?_
      split
      · exact h f (List.mem_cons_self ..)
      · exact hv
  exact hg fs [] h (Nat.zero_le _)
end Go.Proofs.YtidflagmdabfaaaGreatDoor.RcP
