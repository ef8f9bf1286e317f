/-
  The walk of the law SigTwice. Append of fields onto fields; the walk of the laws' copied. Plain: the document's way to a digest, step by step, is the program's.
-/
import Derived.Test.YtidflagmdabfaaaGreatDoorSg24
namespace Go.Proofs.YtidflagmdabfaaaGreatDoor.SgO
open Go.RowKit Go.Proofs.YtidflagmdabfaaaGreatDoor Go.Proofs.YtidflagmdabfaaaGreatDoor.HtW Go.Proofs.YtidflagmdabfaaaGreatDoor.HtC Go.Proofs.YtidflagmdabfaaaGreatDoor.Ato Go.Proofs.YtidflagmdabfaaaGreatDoor.SgA Go.Proofs.YtidflagmdabfaaaGreatDoor.SgB Go.Proofs.YtidflagmdabfaaaGreatDoor.SgC Go.Proofs.YtidflagmdabfaaaGreatDoor.SgM

/-- a box of what is signed, cell by cell -/
def Sb (B : Nat) (w : World) (c0 c1 c2 c3 c4 c5 c6 c7 c8 : Value) : Prop := w.heap[B]? = some (.cells #[c0, c1, c2, c3, c4, c5, c6, c7, c8] 87 (0, 0))
theorem Sb.lt {B : Nat} {w : World} {c0 c1 c2 c3 c4 c5 c6 c7 c8 : Value} (h : Sb B w c0 c1 c2 c3 c4 c5 c6 c7 c8) : B < w.heap.size := (Array.getElem?_eq_some_iff.1 h).1
theorem Sb.below {B : Nat} {w w' : World} {c0 c1 c2 c3 c4 c5 c6 c7 c8 : Value} (h : Sb B w c0 c1 c2 c3 c4 c5 c6 c7 c8) (hb : Below w.heap.size w w') : Sb B w' c0 c1 c2 c3 c4 c5 c6 c7 c8 := (hb.block _ h.lt).trans h
theorem Sb.cells {B : Nat} {w : World} {c0 c1 c2 c3 c4 c5 c6 c7 c8 : Value} (h : Sb B w c0 c1 c2 c3 c4 c5 c6 c7 c8) :
    w.cell? ⟨B, 0, none⟩ = some c0 ∧ w.cell? ⟨B, 1, none⟩ = some c1 ∧ w.cell? ⟨B, 2, none⟩ = some c2 ∧ w.cell? ⟨B, 3, none⟩ = some c3 ∧ w.cell? ⟨B, 4, none⟩ = some c4 ∧ w.cell? ⟨B, 5, none⟩ = some c5 ∧ w.cell? ⟨B, 6, none⟩ = some c6 ∧ w.cell? ⟨B, 7, none⟩ = some c7 :=
  ⟨Lib.cell_of_heap (j := 0) h, Lib.cell_of_heap (j := 1) h, Lib.cell_of_heap (j := 2) h, Lib.cell_of_heap (j := 3) h, Lib.cell_of_heap (j := 4) h, Lib.cell_of_heap (j := 5) h, Lib.cell_of_heap (j := 6) h, Lib.cell_of_heap (j := 7) h⟩
theorem err_run {aU aR aD aK : Addr} (e : Sg.Er) : ∃ a, erv aU aR aD aK e = ev a := ⟨_, rfl⟩

set_option maxHeartbeats 4000000 in
set_option maxRecDepth 100000 in
theorem twice (m t bd n s oth m2 t2 bd2 n2 s2 oth2 : List UInt8) (fs fs2 : List Sg.Fld) {af ab af2 ab2 : Option Addr} (cf cb cf2 cb2 : Nat) (date off date2 off2 : Int) (w : World) {aU aR aD aK : Addr} (hE : Env w aU aR aD aK) (hN : Ne w) (hf : Fs w af fs) (hb : Bs w ab bd cb)
    (ht : t.length ≤ 1048576) (hm : m.length ≤ 1048576) (hn : n.length ≤ 1048576) (hs : s.length ≤ 1048576) (hbl : bd.length ≤ 1048576) (hfl : fs.length ≤ 1048576) (hfv : ∀ q ∈ fs, q.2.length ≤ 1048576) (hn2 : n2.length ≤ 1048576) (hs2 : s2.length ≤ 1048576)
    (d0 : -9223372036854775808 ≤ date) (d1 : date ≤ 9223372036854775807) (e0 : -9223372036854775808 ≤ date2) (e1 : date2 ≤ 9223372036854775807) :
    Calls Tryz.prog 12 #[.agg #[.string ⟨m.toArray⟩, .string ⟨t.toArray⟩, .slice af fs.length cf, .slice ab bd.length cb, .string ⟨n.toArray⟩, .string ⟨s.toArray⟩, .int .i64 date, .int .i64 off, .string ⟨oth.toArray⟩], .agg #[.string ⟨m2.toArray⟩, .string ⟨t2.toArray⟩, .slice af2 fs2.length cf2, .slice ab2 bd2.length cb2, .string ⟨n2.toArray⟩, .string ⟨s2.toArray⟩, .int .i64 date2, .int .i64 off2, .string ⟨oth2.toArray⟩]] w fun e w' => e = .returned (.bool true) ∧ Below w.heap.size w w' := by
  have E := Lib.hid hE; clear hE
  have HN := Lib.hid hN; clear hN
  have HF := Lib.hid hf; clear hf
  have HB := Lib.hid hb; clear hb
  have hX0 : Sb w.heap.size (w.alloc (.cells #[.string ⟨m.toArray⟩, .string ⟨t.toArray⟩, .slice af fs.length cf, .slice ab bd.length cb, .string ⟨n.toArray⟩, .string ⟨s.toArray⟩, .int .i64 date, .int .i64 off, .string ⟨oth.toArray⟩] 87)) _ _ _ _ _ _ _ _ _ := heap_alloc_new w _
  have hB0 := (Below.refl w.heap.size w).alloc (Nat.le_refl _) (.cells #[.string ⟨m.toArray⟩, .string ⟨t.toArray⟩, .slice af fs.length cf, .slice ab bd.length cb, .string ⟨n.toArray⟩, .string ⟨s.toArray⟩, .int .i64 date, .int .i64 off, .string ⟨oth.toArray⟩] 87)
  go_enter Tryz.func12, Tryz.ntmps12
  go_upto_region 1 with fail
  obtain ⟨w1, hw1⟩ : ∃ w1, w1 = w.alloc (.cells #[.string ⟨m.toArray⟩, .string ⟨t.toArray⟩, .slice af fs.length cf, .slice ab bd.length cb, .string ⟨n.toArray⟩, .string ⟨s.toArray⟩, .int .i64 date, .int .i64 off, .string ⟨oth.toArray⟩] 87) := ⟨_, rfl⟩
  rw [← hw1] at hX0 hB0 ⊢
  have hz1 : w1.heap.size = w.heap.size + 1 := by rw [hw1]; simp
  have hY1 : Sb w1.heap.size (w1.alloc (.cells #[.string ⟨m2.toArray⟩, .string ⟨t2.toArray⟩, .slice af2 fs2.length cf2, .slice ab2 bd2.length cb2, .string ⟨n2.toArray⟩, .string ⟨s2.toArray⟩, .int .i64 date2, .int .i64 off2, .string ⟨oth2.toArray⟩] 87)) _ _ _ _ _ _ _ _ _ := heap_alloc_new w1 _
  have hb1 := (Below.refl w1.heap.size w1).alloc (Nat.le_refl _) (.cells #[.string ⟨m2.toArray⟩, .string ⟨t2.toArray⟩, .slice af2 fs2.length cf2, .slice ab2 bd2.length cb2, .string ⟨n2.toArray⟩, .string ⟨s2.toArray⟩, .int .i64 date2, .int .i64 off2, .string ⟨oth2.toArray⟩] 87)
  have hX1 := hX0.below hb1
  have hB1 := hB0.trans (hb1.mono hB0.size)
  rw [hz1] at hY1
  generalize w1.alloc _ = w2 at *
  have HB2 := Lib.hid hB1
  have HX2 := Lib.hid hX1
  have HY2 := Lib.hid hY1
  clear hX0 hB0 hw1 hz1 hY1 hb1 hX1 hB1
  go_wp2_with fail
  refine (SgN.alive w2 (E.out.below HB2.out) (HN.out.below HB2.out)).mono ?_
  rintro e w3 ⟨rfl, hb3⟩
  have HB3 := Lib.hid (HB2.out.trans (hb3.mono HB2.out.size))
  have HX3 := Lib.hid (HX2.out.below hb3)
  have HY3 := Lib.hid (HY2.out.below hb3)
  clear HX2 HY2 HB2 hb3
  have HBS3 := Lib.hid (HB.out.below HB3.out)
  have HFS3 := Lib.hid (HF.out.below HB3.out)
  obtain ⟨x0, x1, x2, x3, x4, x5, x6, -⟩ := HX3.out.cells
  have KS1 := Lib.hid (SgK.sign m t bd fs n s cb cf date w3 (E.out.below HB3.out) HBS3.out HFS3.out (by omega) (by omega) (by omega) d0 d1 (by omega) (by omega) (by omega))
  go_wp2_with fail
  refine KS1.out.mono ?_
  rintro e w4 ⟨hS, hb4⟩
  have HB4 := Lib.hid (HB3.out.trans (hb4.mono HB3.out.size))
  have HX4 := Lib.hid (HX3.out.below hb4)
  have HY4 := Lib.hid (HY3.out.below hb4)
  have HBS4 := Lib.hid (HBS3.out.below hb4)
  have HFS4 := Lib.hid (HFS3.out.below hb4)
  clear HX3 HY3 HB3 hb4 x0 x1 x2 x3 x4 x5 x6 KS1 HBS3 HFS3
  cases hS1 : Sg.sign m t bd fs n s date with
  | no er =>
    rw [hS1] at hS
    obtain rfl := hS
    go_wp2_with fail
    go_ret
    exact ⟨rfl, HB4.out.alloc HB4.out.size _⟩
  | ok fa =>
    rw [hS1] at hS
    obtain ⟨aA, cA, aD1, cD1, rfl, hFa, -, hOa⟩ := hS
    have hB5 := (Below.refl w4.heap.size w4).alloc (Nat.le_refl _) (.cells #[.string ⟨m.toArray⟩, .string ⟨t.toArray⟩, .slice aA fa.length cA, .slice aD1 bd.length cD1] 25)
    have hQ5 : Rq w4.heap.size (w4.alloc (.cells #[.string ⟨m.toArray⟩, .string ⟨t.toArray⟩, .slice aA fa.length cA, .slice aD1 bd.length cD1] 25)) _ _ _ _ := heap_alloc_new w4 _
    go_upto_region 6 with fail
    obtain ⟨N4, hN4⟩ : ∃ N4, N4 = w4.heap.size := ⟨_, rfl⟩
    have HFA := Lib.hid (hFa.below hB5)
    have HBA := Lib.hid ((SgK.own_bs hOa).below hB5)
    have HB5 := Lib.hid (HB4.out.trans (hB5.mono HB4.out.size))
    have HX5 := Lib.hid (HX4.out.below hB5)
    have HY5 := Lib.hid (HY4.out.below hB5)
    have HBS5 := Lib.hid (HBS4.out.below hB5)
    have HFS5 := Lib.hid (HFS4.out.below hB5)
    rw [← hN4] at hQ5 ⊢
    generalize w4.alloc _ = w5 at *
    have HQ5 := Lib.hid hQ5
    clear hQ5 hN4 hB5 hFa hOa HX4 HY4 HB4 HBS4 HFS4
    obtain ⟨u, hP, hgd, hgn, hfa⟩ := SgL.sign_ok hS1
    have hfaL : fa.length ≤ 1048578 := by
      rw [hfa, List.length_append]
      have : (Sg.others fs).length ≤ fs.length := List.length_filter_le _ _
      have h2 : (Sg.two date n (Sg.sigOf (Sg.lines m u bd date) s date)).length = 2 := rfl
      omega
    have hsg : Sg.sign m t bd fa n2 s2 date2 = Sg.sign m t bd fs n2 s2 date2 := by rw [hfa]; exact SgL.sign_again _ _ _ _ _ _ _ _ _ _
    have HSG := Lib.hid hsg
    clear hsg hfa hgn hgd
    obtain ⟨y0, y1, y2, y3, y4, y5, y6, -⟩ := HY5.out.cells
    obtain ⟨q0, q1, q2, q3, -, -, -, -⟩ := HQ5.out.cells
    have KS2 := Lib.hid (SgK.sign m t bd fa n2 s2 cD1 cA date2 w5 (E.out.below HB5.out) HBA.out HFA.out (by omega) (by omega) (by omega) e0 e1 (by omega) (by omega) (by omega))
    have HS1 := Lib.hid hS1; clear hS1
    have HPu := Lib.hid hP; clear hP
    go_wp2_with fail
    refine KS2.out.mono ?_
    rintro e w6 ⟨hS, hb6⟩
    rw [HSG.out] at hS
    have HB6 := Lib.hid (HB5.out.trans (hb6.mono HB5.out.size))
    have HX6 := Lib.hid (HX5.out.below hb6)
    have HY6 := Lib.hid (HY5.out.below hb6)
    have HBS6 := Lib.hid (HBS5.out.below hb6)
    have HFS6 := Lib.hid (HFS5.out.below hb6)
    clear HX5 HY5 HB5 hb6 y0 y1 y2 y3 y4 y5 y6 q0 q1 q2 q3 KS2 HBS5 HFS5
    cases hS2 : Sg.sign m t bd fs n2 s2 date2 with
    | no er =>
      rw [hS2] at hS
      obtain rfl := hS
      have hno := SgL.sign_no HPu.out hS2
      have HX7 := HY6.out.below ((Below.refl w6.heap.size w6).alloc (Nat.le_refl _) (.cells #[.string ⟨#[]⟩, .string ⟨#[]⟩, .slice none 0 0, .slice none 0 0] 25))
      obtain ⟨-, -, -, -, y4, -, y6, -⟩ := HX7.cells
      clear hS2
      obtain ⟨gq, hgq⟩ : ∃ gq, Sg.goodName n2 = gq := ⟨_, rfl⟩
      rw [hgq] at hno
      have HGQ := Lib.hid hgq
      clear hgq
      cases gq with
      | false =>
          clear hno
          go_wp2_with (go_at_call 42; refine (RgN.goodNameR ⟨n2.toArray⟩ _ (by rw [Com.size_mk]; omega)).mono ?_; rintro e w7 ⟨rfl, hw7⟩; subst hw7; rw [show (ByteArray.mk n2.toArray).data.toList = n2 from rfl, HGQ.out])
          go_ret
          exact ⟨rfl, HB6.out.alloc HB6.out.size _⟩
      | true =>
        by_cases h0 : date2 < 0
        · clear hno
          go_wp2_with (go_at_call 42; refine (RgN.goodNameR ⟨n2.toArray⟩ _ (by rw [Com.size_mk]; omega)).mono ?_; rintro e w7 ⟨rfl, hw7⟩; subst hw7; rw [show (ByteArray.mk n2.toArray).data.toList = n2 from rfl, HGQ.out])
          go_ret
          exact ⟨rfl, HB6.out.alloc HB6.out.size _⟩
        · have h1 : 1099511627776 < date2 := by
            rcases hno with h | h | h
            · cases h
            · exact absurd h h0
            · exact h
          have h0' : decide (date2 < 0) = false := decide_eq_false h0
          clear hno
          go_wp2_with (go_at_call 42; refine (RgN.goodNameR ⟨n2.toArray⟩ _ (by rw [Com.size_mk]; omega)).mono ?_; rintro e w7 ⟨rfl, hw7⟩; subst hw7; rw [show (ByteArray.mk n2.toArray).data.toList = n2 from rfl, HGQ.out])
          go_ret
          exact ⟨rfl, HB6.out.alloc HB6.out.size _⟩
    | ok fb =>
      rw [hS2] at hS
      obtain ⟨aB, cB, aD2, cD2, rfl, hFb, -, hOb⟩ := hS
      have hown := SgL.check_own hS2
      have hfbv : ∀ q ∈ fb, q.2.length ≤ 16777216 := by
        obtain ⟨_, _, _, _, hfb⟩ := SgL.sign_ok hS2
        intro q hq
        rw [hfb] at hq
        exact two_len fs n2 _ date2 (B := 16777216) (fun q hq => by have := hfv q hq; omega) (by rw [SgL.sig_len]; omega) q hq (Dec.itoa_len e0 e1)
      have hfbL : fb.length ≤ 1048578 := by
        obtain ⟨u', _, _, _, hfb⟩ := SgL.sign_ok hS2
        rw [hfb, List.length_append]
        have : (Sg.others fs).length ≤ fs.length := List.length_filter_le _ _
        have h2 : (Sg.two date2 n2 (Sg.sigOf (Sg.lines m u' bd date2) s2 date2)).length = 2 := rfl
        omega
      have hB7 := (Below.refl w6.heap.size w6).alloc (Nat.le_refl _) (.cells #[.string ⟨m.toArray⟩, .string ⟨t.toArray⟩, .slice aB fb.length cB, .slice aD2 bd.length cD2] 25)
      have hQ7 : Rq w6.heap.size (w6.alloc (.cells #[.string ⟨m.toArray⟩, .string ⟨t.toArray⟩, .slice aB fb.length cB, .slice aD2 bd.length cD2] 25)) _ _ _ _ := heap_alloc_new w6 _
      have HS2 := Lib.hid hS2; clear hS2
      go_upto_region 9 with fail
      obtain ⟨N6, hN6⟩ : ∃ N6, N6 = w6.heap.size := ⟨_, rfl⟩
      have HFB := Lib.hid (hFb.below hB7)
      have HBB := Lib.hid ((SgK.own_bs hOb).below hB7)
      have HB7 := Lib.hid (HB6.out.trans (hB7.mono HB6.out.size))
      have HX7 := Lib.hid (HX6.out.below hB7)
      have HY7 := Lib.hid (HY6.out.below hB7)
      have HBS7 := Lib.hid (HBS6.out.below hB7)
      have HFS7 := Lib.hid (HFS6.out.below hB7)
      rw [← hN6] at hQ7 ⊢
      generalize w6.alloc _ = w7 at *
      have HQ7 := Lib.hid hQ7
      clear hQ7 hN6 hB7 hFb hOb HX6 HY6 HB6 HBS6 HFS6
      obtain ⟨x0, x1, x2, x3, -, -, -, -⟩ := HX7.out.cells
      obtain ⟨-, -, -, -, y4, y5, y6, -⟩ := HY7.out.cells
      have KS3 := Lib.hid (SgK.sign m t bd fs n2 s2 cb cf date2 w7 (E.out.below HB7.out) HBS7.out HFS7.out (by omega) (by omega) (by omega) e0 e1 (by omega) (by omega) (by omega))
      go_wp2_with fail
      refine KS3.out.mono ?_
      rintro e w8 ⟨hS, hb8⟩
      rw [HS2.out] at hS
      obtain ⟨aC, cC, aD3, cD3, rfl, hFc, -, hOc⟩ := hS
      have HB8 := Lib.hid (HB7.out.trans (hb8.mono HB7.out.size))
      have HY8 := Lib.hid (HY7.out.below hb8)
      have HQ8 := Lib.hid (HQ7.out.below hb8)
      have HFB8 := Lib.hid (HFB.out.below hb8)
      have HBB8 := Lib.hid (HBB.out.below hb8)
      have hB9 := (Below.refl w8.heap.size w8).alloc (Nat.le_refl _) (.cells #[.string ⟨m.toArray⟩, .string ⟨t.toArray⟩, .slice aC fb.length cC, .slice aD3 bd.length cD3] 25)
      have hQ9 : Rq w8.heap.size (w8.alloc (.cells #[.string ⟨m.toArray⟩, .string ⟨t.toArray⟩, .slice aC fb.length cC, .slice aD3 bd.length cD3] 25)) _ _ _ _ := heap_alloc_new w8 _
      clear HX7 HY7 HB7 hb8 x0 x1 x2 x3 y4 y5 y6 KS3 HBS7 HFS7 HQ7 HFB HBB
      go_upto_region 10 with fail
      obtain ⟨N8, hN8⟩ : ∃ N8, N8 = w8.heap.size := ⟨_, rfl⟩
      have HFC := Lib.hid (hFc.below hB9)
      have HBC := Lib.hid ((SgK.own_bs hOc).below hB9)
      have HB9 := Lib.hid (HB8.out.trans (hB9.mono HB8.out.size))
      have HY9 := Lib.hid (HY8.out.below hB9)
      have HQ9 := Lib.hid (HQ8.out.below hB9)
      have HFB9 := Lib.hid (HFB8.out.below hB9)
      have HBB9 := Lib.hid (HBB8.out.below hB9)
      rw [← hN8] at hQ9 ⊢
      generalize w8.alloc _ = w9 at *
      have HR9 := Lib.hid hQ9
      clear hQ9 hN8 hB9 hFc hOc HY8 HQ8 HFB8 HBB8 HB8
      obtain ⟨-, -, -, -, y4, y5, y6, -⟩ := HY9.out.cells
      obtain ⟨q0, q1, q2, q3, -, -, -, -⟩ := HQ9.out.cells
      have hbk := (Below.refl w9.heap.size w9).alloc (Nat.le_refl _) (.cells #[.string ⟨n2.toArray⟩, .string ⟨s2.toArray⟩] 71)
      have KC := SgK.check m t bd fb [(n2, s2)] cD2 cB 1 date2 _ (E.out.below (HB9.out.trans (hbk.mono HB9.out.size))) (HBB9.out.below hbk) (HFB9.out.below hbk) (one_key w9 n2 s2) (HN.out.below (HB9.out.trans (hbk.mono HB9.out.size))) (by omega) (by simp) (by simp; omega) hfbv (by omega) (by omega) (by omega) e0 e1
      rw [hown] at KC
      have KC := Lib.hid KC
      have hyl := HY9.out.lt
      have hne1 : ¬ (w.heap.size + 1 = w9.heap.size) := by omega
      have hne2 : ¬ (w9.heap.size = w.heap.size + 1) := by omega
      clear hown hfbv
      go_wp2_with fail
      refine KC.out.mono ?_
      rintro e w10 ⟨rfl, hb10⟩
      rw [show tv aU aR aD aK (.ok n2) = .tuple #[.string ⟨n2.toArray⟩, .nilIface] from rfl]
      have hb10' := hbk.trans (hb10.mono hbk.size)
      have HB10 := Lib.hid (HB9.out.trans (hb10'.mono HB9.out.size))
      have HSM := Lib.hid (HtU.same m t m t bd bd fb fb cB cC cD2 cD3 w10 (HFB9.out.below hb10') (HFC.out.below hb10') (HBB9.out.below hb10') (HBC.out.below hb10') (by omega))
      have hY10 := HY9.out.below hb10'
      have hQ10 := HQ9.out.below hb10'
      have hR10 := HR9.out.below hb10'
      clear y4 y5 y6 q0 q1 q2 q3 hb10 hb10' hbk KC HY9 HQ9 HR9
      obtain ⟨-, -, -, -, y4, y5, y6, -⟩ := hY10.cells
      obtain ⟨q0, q1, q2, q3, -, -, -, -⟩ := hQ10.cells
      obtain ⟨r0, r1, r2, r3, -, -, -, -⟩ := hR10.cells
      have HY10 := Lib.hid hY10; clear hY10
      clear hQ10 hR10
      go_wp2_with fail
      refine HSM.out.mono ?_
      rintro e w11 ⟨rfl, hb11⟩
      rw [HtU.eqR_yes]
      obtain ⟨-, -, -, -, z4, -, -, -⟩ := (HY10.out.below hb11).cells
      have HB11 := Lib.hid (HB10.out.trans (hb11.mono HB10.out.size))
      clear y4 y5 y6 q0 q1 q2 q3 r0 r1 r2 r3 hb11
      go_wp2_with fail
      go_ret
      exact ⟨rfl, HB11.out⟩
end Go.Proofs.YtidflagmdabfaaaGreatDoor.SgO
namespace Go.Proofs.YtidflagmdabfaaaGreatDoor.SgQ
open Go.RowKit Go.Proofs.YtidflagmdabfaaaGreatDoor Go.Proofs.YtidflagmdabfaaaGreatDoor.Ht Go.Proofs.YtidflagmdabfaaaGreatDoor.HtW Go.Proofs.YtidflagmdabfaaaGreatDoor.HtC

theorem fcells_one (fs : List Fld) : ∀ u ∈ fcells fs, u.oneCell' = true := by
  intro u hu
  simp only [fcells, List.mem_flatMap] at hu
  obtain ⟨p, _, hu⟩ := hu
  simp at hu
  rcases hu with rfl | rfl <;> rfl
theorem Fs.holds {w : World} {p : Addr} {fs : List Fld} (h : Fs w (some p) fs) : ∀ (j : Nat) u, (fcells fs)[j]? = some u → w.cell? (p.add j) = some u := by
  intro j u hj
  rcases h with rfl | ⟨b, o, hp, hb, hc⟩
  · cases hj
  · cases hp
    rw [addr_add]
    have hjl : j < fs.length * 2 := by rw [← fcells_length]; exact (List.getElem?_eq_some_iff.1 hj).1
    have hq : j / 2 < fs.length := by omega
    have hq' := List.getElem?_eq_getElem hq
    obtain ⟨c1, c2⟩ := hc (j / 2) _ hq'
    obtain ⟨d1, d2⟩ := fcells_get hq'
    rcases Nat.mod_two_eq_zero_or_one j with e | e
    · have e2 : j = j / 2 * 2 := by omega
      rw [← e2] at c1 d1
      rw [c1, ← hj, d1]
    · have e2 : j = j / 2 * 2 + 1 := by omega
      rw [Nat.add_assoc, ← e2] at c2
      rw [← e2] at d2
      rw [c2, ← hj, d2]
/-- append: fields onto fields -/
theorem run_append_flds (w : World) (base : Nat) (v : Value) (l r : List Fld) (hown : w.ownsRow base 91 2 v l.length (fcells l)) (aR : Option Addr) (cR : Nat) (hF : Fs w aR r) (hn : aR = none → r.length = 0 ∧ cR = 0) (hbase : base ≤ w.heap.size) (hlen : l.length + r.length ≤ 4294967300) (ty : TypeId) :
    ∃ ar cr w', (Builtin.append_ #[22, 22] ty #[v, .slice aR r.length cR]).run Tryz.prog w = .ok (.slice ar (l.length + r.length) cr) w' ∧ w'.ownsRow base 91 2 (.slice ar (l.length + r.length) cr) (l ++ r).length (fcells (l ++ r)) ∧ w.grownBy w' v.ownBlock ∧ Below base w w' := by
  obtain ⟨i0, hi, hz0, hz1, hz2⟩ := info_parts infoField
  have happ : fcells (l ++ r) = fcells l ++ fcells r := by simp [fcells]
  cases aR with
  | none =>
    obtain ⟨h0, rfl⟩ := hn rfl
    have hr : r = [] := List.eq_nil_of_length_eq_zero h0
    subst hr
    have hrun := run_append_owned_none (P := Tryz.prog) w base 22 ty 91 i0 2 Tryz.underlying22 hi v l.length (fcells l) hown
    obtain ⟨a, c, rfl, _, _⟩ := fs_of_own hown
    exact ⟨a, c, w, hrun, by simpa using hown, ⟨rfl, rfl, rfl, Nat.le_refl _, fun _ _ _ => rfl⟩, Below.refl _ _⟩
  | some p =>
    obtain ⟨v', w', h1, h2, h3, _⟩ := run_append_own (P := Tryz.prog) w base 22 ty 91 i0 _ 2 32 Tryz.underlying22 hi hz0 hz1 hz2 rfl (by decide) v l.length (fcells l) hown p r.length cR (fcells r) (fcells_length r) (Fs.holds hF) (fcells_one r) (by unfold maxLen; omega) (by omega) hbase
    rw [← happ, ← List.length_append] at h2
    obtain ⟨a, c, rfl, _, _⟩ := fs_of_own h2
    rw [List.length_append] at h1
    refine ⟨a, c, w', h1, by rw [← List.length_append]; exact h2, h3, (Below.refl base w).grown h3 hbase fun k hk => ?_⟩
    exact (hown.lt k hk).1
theorem wpList_append_flds {ops : Array Oper} {rest : List Oper} {o : Oper} {a : Act} {Q : Exit → Act → World → Prop} (w : World) (hg : o.guard = none) (s x : Operand) (hop : o.op = Op.call { callee := Callee.builtin Builtin.append, args := #[s, x], argTypes := #[22, 22] })
    (base n : Nat) (v : Value) (l r : List Fld) (hown : w.ownsRow base 91 2 v l.length (fcells l)) (aR : Option Addr) (cR : Nat) (hF : Fs w aR r) (hn : aR = none → r.length = 0 ∧ cR = 0) (hbase : base ≤ w.heap.size) (hlen : l.length + r.length ≤ 4294967300)
    (hN : n = l.length + r.length) (hs : a.eval s = v) (hx : a.eval x = .slice aR r.length cR)
    (hK : ∀ ar cr w', w'.ownsRow base 91 2 (.slice ar n cr) (l ++ r).length (fcells (l ++ r)) → w.grownBy w' v.ownBlock → Below base w w' → wpList Tryz.prog ops Q rest (a.put o.dst (.slice ar n cr)) w') :
    wpList Tryz.prog ops Q (o :: rest) a w := by
  subst hN
  refine wpList_plain hg fun K hK' => ?_
  obtain ⟨ar, cr, w', hrun, h1, h2, h3⟩ := run_append_flds w base v l r hown aR cR hF hn hbase hlen o.type
  unfold Oper.wp
  simp [execOp, hop, resolve, invoke, builtin, hs, hx, hrun, Result.andThen]
  exact hK' _ _ (hK ar cr w' h1 h2 h3)
theorem own_fresh (w : World) : (w.alloc (.cells #[] 91)).ownsRow w.heap.size 91 2 (.slice (some ⟨w.heap.size, 0, none⟩) 0 0) 0 [] :=
  ⟨rfl, .inr ⟨w.heap.size, 0, #[], rfl, Nat.le_refl _, heap_alloc_new _ _, Nat.le_refl _, by unfold maxLen; omega, rfl, rfl⟩⟩
theorem own_keep {w w' : World} {base : Nat} {e : TypeId} {size : Nat} {v : Value} {n : Nat} {xs : List Value} (h : w.ownsRow base e size v n xs) (hk : ∀ g, v.ownBlock = some g → w'.heap[g]? = w.heap[g]?) : w'.ownsRow base e size v n xs :=
  ⟨h.1, h.2.imp id fun ⟨g, cap, cur, h1, h2, h3, h4⟩ => ⟨g, cap, cur, h1, h2, (hk g (by rw [h1]; rfl)).trans h3, h4⟩⟩
/-- a store below the base of a row -/
theorem own_set {w : World} {base : Nat} {e : TypeId} {size : Nat} {v : Value} {n : Nat} {xs : List Value} (h : w.ownsRow base e size v n xs) {p : Addr} (hp : p.block < base) (u : Value) : (w.setCell p u).ownsRow base e size v n xs :=
  ownsRow_setCell_below h hp u
theorem rq_low {B b : Nat} {w w' : World} {x y z v : Value} (h : Rq B w x y z v) (hb : Below b w w') (hlt : B < b) : Rq B w' x y z v := (hb.block _ hlt).trans h
theorem rq_run {B : Nat} {w : World} {a b c d : Value} (h : Rq B w a b c d) {fn : Func} (e : fn.results = #[.cell 2 25]) {tmps : Array Value} (h2 : tmps.getD 2 undef = .pointer (some ⟨B, 0, none⟩)) :
    (results fn tmps).run Tryz.prog w = .ok (.agg #[a, b, c, d]) w :=
  results_cell_row e tmps w B 25 _ _ _ h2 h Tryz.underlying25 rfl (by kernel_rfl)

set_option maxHeartbeats 4000000 in
set_option maxRecDepth 100000 in
theorem copied (m t bd : List UInt8) (fs : List Fld) {af ab : Option Addr} (cf cb : Nat) (w : World) (hf : Fs w af fs) (hn : af = none → fs.length = 0 ∧ cf = 0) (hb : Bs w ab bd cb) (hfl : fs.length ≤ 4294967296) (hbl : bd.length ≤ 140737488350000) :
    Calls Tryz.prog 34 #[.agg #[.string ⟨m.toArray⟩, .string ⟨t.toArray⟩, .slice af fs.length cf, .slice ab bd.length cb]] w fun e w' => ∃ a2 c2 a3 c3, e = .returned (.agg #[.string ⟨m.toArray⟩, .string ⟨t.toArray⟩, .slice a2 fs.length c2, .slice a3 bd.length c3]) ∧ w'.ownsRow w.heap.size 91 2 (.slice a2 fs.length c2) fs.length (fcells fs) ∧ w'.ownsRow w.heap.size 5 1 (.slice a3 bd.length c3) bd.length (Lib.byteCells bd) ∧ Below w.heap.size w w' := by
  have HF := Lib.hid hf; clear hf
  have HB := Lib.hid hb; clear hb
  have hb0 := ((Below.refl w.heap.size w).alloc (Nat.le_refl _) (.cells #[.string ⟨m.toArray⟩, .string ⟨t.toArray⟩, .slice af fs.length cf, .slice ab bd.length cb] 25)).alloc (by simp) (.cells #[.string ⟨#[]⟩, .string ⟨#[]⟩, .slice none 0 0, .slice none 0 0] 25)
  have hR0 : Rq w.heap.size ((w.alloc (.cells #[.string ⟨m.toArray⟩, .string ⟨t.toArray⟩, .slice af fs.length cf, .slice ab bd.length cb] 25)).alloc (.cells #[.string ⟨#[]⟩, .string ⟨#[]⟩, .slice none 0 0, .slice none 0 0] 25)) _ _ _ _ := heap_alloc2_old _ _ _
  have hQ0 : Rq (w.heap.size + 1) ((w.alloc (.cells #[.string ⟨m.toArray⟩, .string ⟨t.toArray⟩, .slice af fs.length cf, .slice ab bd.length cb] 25)).alloc (.cells #[.string ⟨#[]⟩, .string ⟨#[]⟩, .slice none 0 0, .slice none 0 0] 25)) _ _ _ _ := heap_alloc2_new _ _ _
  have hz0 : ((w.alloc (.cells #[.string ⟨m.toArray⟩, .string ⟨t.toArray⟩, .slice af fs.length cf, .slice ab bd.length cb] 25)).alloc (.cells #[.string ⟨#[]⟩, .string ⟨#[]⟩, .slice none 0 0, .slice none 0 0] 25)).heap.size = w.heap.size + 2 := by simp
  go_enter Tryz.func34, Tryz.ntmps34
  go_upto_region 1 with fail
  generalize (w.alloc (.cells #[.string ⟨m.toArray⟩, .string ⟨t.toArray⟩, .slice af fs.length cf, .slice ab bd.length cb] 25)).alloc (.cells #[.string ⟨#[]⟩, .string ⟨#[]⟩, .slice none 0 0, .slice none 0 0] 25) = w1 at *
  obtain ⟨N, hN⟩ : ∃ N, N = w.heap.size := ⟨_, rfl⟩
  have HF1 := Lib.hid (HF.out.below hb0)
  rw [← hN] at hR0 hQ0 hz0 hb0 ⊢
  have HN := Lib.hid hN
  have HZ := Lib.hid hz0
  have hb2 := (Below.refl w1.heap.size w1).alloc (Nat.le_refl _) (.cells #[] 91)
  have hR1 := hR0.below hb2
  have hQ1 := hQ0.below hb2
  have hB1 := hb0.trans (hb2.mono (by omega))
  have HB1 := Lib.hid hB1
  have HQ1 := Lib.hid hQ1
  have HF2 := Lib.hid (HF1.out.below hb2)
  have o0 := own_fresh w1
  clear hb0 hN hz0 hQ0 hR0 HF HF1 hb2 hB1 hQ1
  have hz1 : (w1.alloc (.cells #[] 91)).heap.size = w1.heap.size + 1 := by simp
  obtain ⟨x0, x1, x2, x3, g0, g1, g2, g3⟩ := hR1.cells
  go_upto_region 2 with (at_builtin; refine wpList_append_flds _ rfl (.tmp 3) (.tmp 5) rfl w1.heap.size fs.length (.slice (some ⟨w1.heap.size, 0, none⟩) 0 0) [] fs o0 af cf HF2.out hn (by simp) (by simp; omega) (by simp) rfl rfl ?_; intro ar cr w2 ho2 hg2 hb3; rw [List.nil_append] at ho2; have hR2 := rq_low hR1 hb3 (by have := HZ.out; omega); have hQ2 := rq_low HQ1.out hb3 (by have := HZ.out; omega); have HQ2 := Lib.hid hQ2; clear hQ2; clear x0 x1 x2 x3 g0 g1 g2 g3; obtain ⟨x0, x1, x2, x3, g0, g1, g2, g3⟩ := hR2.cells)
  have hR3 := hR2.put3 (.slice ar fs.length cr)
  have HQ3 := Lib.hid (HQ2.out.far (p := ⟨N, 2, none⟩) (by show N + 1 ≠ N; omega) (.slice ar fs.length cr))
  have HO3 := Lib.hid (own_set ho2 (p := ⟨N, 2, none⟩) (by have := HZ.out; show N < _; omega) (.slice ar fs.length cr))
  have hB3 := (HB1.out.trans (hb3.mono (by have := HZ.out; omega))).setCell (p := ⟨N, 2, none⟩) (Nat.le_refl _) (.slice ar fs.length cr)
  have HS3 := Lib.hid (show w1.heap.size + 1 ≤ (w2.setCell ⟨N, 2, none⟩ (.slice ar fs.length cr)).heap.size by rw [World.size_setCell]; have := hb3.size; omega)
  generalize w2.setCell ⟨N, 2, none⟩ (.slice ar fs.length cr) = w3 at *
  have HB3 := Lib.hid hB3
  have hBd3 := HB.out.below (HN.out ▸ hB3)
  clear hR2 hR1 hg2 hb3 ho2 HQ2 HQ1 HB1 HF2 o0 hz1 HB x0 x1 x2 x3 g0 g1 g2 g3 hB3
  have hb4 := (Below.refl w3.heap.size w3).alloc (Nat.le_refl _) (.cells #[] 5)
  have hR4 := hR3.below hb4
  have HQ4 := Lib.hid (HQ3.out.below hb4)
  have HBd4 := Lib.hid (hBd3.below hb4)
  have H4 := Lib.hid hb4
  have o4 := HtX.own_fresh w3 _ (Nat.le_refl _)
  have hz4 : (w3.alloc (.cells #[] 5)).heap.size = w3.heap.size + 1 := by simp
  clear hb4 hR3 HQ3 hBd3
  obtain ⟨x0, x1, x2, x3, g0, g1, g2, g3⟩ := hR4.cells
  go_upto_region 3 with (at_builtin; refine App.append_more _ rfl (.tmp 8) (.tmp 10) rfl w3.heap.size [] bd o4 ab cb HBd4.out (by simp) (by simp; omega) rfl rfl ?_; intro ar2 cr2 w5 n5 hn5 ho5 hb5; rw [List.nil_append] at hn5 ho5; subst hn5; have hR5 := rq_low hR4 hb5 (by have := HS3.out; have := HZ.out; omega); have HQ5 := Lib.hid (rq_low HQ4.out hb5 (by have := HS3.out; have := HZ.out; omega)); clear x0 x1 x2 x3 g0 g1 g2 g3; obtain ⟨x0, x1, x2, x3, g0, g1, g2, g3⟩ := hR5.cells)
  have hR6 := hR5.put4 (.slice ar2 bd.length cr2)
  have hQ6 := HQ5.out.far (p := ⟨N, 3, none⟩) (by show N + 1 ≠ N; omega) (.slice ar2 bd.length cr2)
  have HO6 := Lib.hid (own_set (Com.own_below HO3.out (H4.out.trans hb5)) (p := ⟨N, 3, none⟩) (by have := HZ.out; show N < _; omega) (.slice ar2 bd.length cr2))
  have HP6 := Lib.hid (own_set ho5 (p := ⟨N, 3, none⟩) (by have := HZ.out; have := HS3.out; show N < _; omega) (.slice ar2 bd.length cr2))
  have HB6 := Lib.hid ((HB3.out.trans ((H4.out.trans hb5).mono (by have := HZ.out; have := HS3.out; omega))).setCell (p := ⟨N, 3, none⟩) (Nat.le_refl _) (.slice ar2 bd.length cr2))
  generalize w5.setCell ⟨N, 3, none⟩ (.slice ar2 bd.length cr2) = w6 at *
  clear x0 x1 x2 x3 g0 g1 g2 g3 hR5 hR4 HQ4 HQ5 H4 o4 hz4 HBd4 hb5 ho5 HO3 HB3
  have HQ6 := Lib.hid hQ6
  obtain ⟨x0, x1, x2, x3, _⟩ := hR6.cells
  obtain ⟨y0, y1, y2, y3, g0, g1, g2, g3⟩ := hQ6.cells
  go_wp2_with fail
  have hQ7 := HQ6.out.put (.string ⟨m.toArray⟩) (.string ⟨t.toArray⟩) (.slice ar fs.length cr) (.slice ar2 bd.length cr2)
  refine bodyPost_ret (rq_run hQ7 rfl rfl) rfl ⟨ar, cr, ar2, cr2, rfl, ?_, ?_, ?_⟩
  · rw [← HN.out]; exact SgD.own_low (SgD.own_st4 HO6.out (by have := HZ.out; omega) _ _ _ _) (by have := HZ.out; omega)
  · rw [← HN.out]; exact SgD.own_low (SgD.own_st4 HP6.out (by have := HZ.out; have := HS3.out; omega) _ _ _ _) (by have := HZ.out; have := HS3.out; omega)
  · rw [← HN.out]; exact SgC.below_four' HB6.out (Nat.le_succ _) _ _ _ _
end Go.Proofs.YtidflagmdabfaaaGreatDoor.SgQ
namespace Go.Proofs.YtidflagmdabfaaaGreatDoor.RsP
open Go.RowKit Go.Proofs.YtidflagmdabfaaaGreatDoor.Sha Go.Proofs.YtidflagmdabfaaaGreatDoor.ShaA Go.Proofs.YtidflagmdabfaaaGreatDoor.ShaB Go.Proofs.YtidflagmdabfaaaGreatDoor.ShaC

theorem lt8 {j : Nat} (h : j < 8) : j = 0 ∨ j = 1 ∨ j = 2 ∨ j = 3 ∨ j = 4 ∨ j = 5 ∨ j = 6 ∨ j = 7 := by omega
/-! the message -/
def fill (b : List UInt8) (z : Nat) : List UInt8 := b ++ 128 :: List.replicate z 0
theorem fill_length (b : List UInt8) (z : Nat) : (fill b z).length = b.length + 1 + z := by
  unfold fill
  simp only [List.length_append, List.length_cons, List.length_replicate]
  omega
theorem fill_succ (b : List UInt8) (z : Nat) : fill b z ++ [0] = fill b (z + 1) := by
  unfold fill
  rw [List.append_assoc, List.cons_append, ← List.replicate_succ']
theorem fill_more {n z : Nat} (h : z < zeros n) : (n + 1 + z) % 64 ≠ 56 := by
  unfold zeros at h
  omega
theorem fill_done {n z : Nat} (h : z ≤ zeros n) (hm : (n + 1 + z) % 64 = 56) : z = zeros n := by
  unfold zeros at h ⊢
  omega
def tail (b : List UInt8) (i : Nat) : List UInt8 := fill b (zeros b.length) ++ (be8 (8 * b.length)).take i
theorem tail_zero (b : List UInt8) : tail b 0 = fill b (zeros b.length) := by
  unfold tail
  rw [List.take_zero, List.append_nil]
theorem tail_all (b : List UInt8) : tail b 8 = pad b := by
  unfold tail pad fill
  rw [show (be8 (8 * b.length)).take 8 = be8 (8 * b.length) from rfl, List.append_assoc, List.cons_append]
theorem tail_length (b : List UInt8) {i : Nat} (hi : i ≤ 8) : (tail b i).length = b.length + 1 + zeros b.length + i := by
  unfold tail
  rw [List.length_append, fill_length, List.length_take]
  have : (be8 (8 * b.length)).length = 8 := rfl
  omega
theorem tail_succ (b : List UInt8) {i : Nat} (hi : i < 8) : tail b i ++ [UInt8.ofNat (8 * b.length / 2 ^ (56 - 8 * i))] = tail b (i + 1) := by
  unfold tail
  rw [List.append_assoc, List.take_add_one]
  congr 2
  rcases lt8 hi with rfl | rfl | rfl | rfl | rfl | rfl | rfl | rfl <;> rfl

/-! the eight words moved on -/
def sh (s : St) : Nat → List Nat
  | 0 => [s.a, s.a, s.b, s.c, s.d, s.e, s.f, s.g]
  | 1 => [s.a, s.b, s.b, s.c, s.d, s.e, s.f, s.g]
  | 2 => [s.a, s.b, s.c, s.c, s.d, s.e, s.f, s.g]
  | 3 => [s.a, s.b, s.c, s.d, s.d, s.e, s.f, s.g]
  | 4 => [s.a, s.b, s.c, s.d, s.e, s.e, s.f, s.g]
  | 5 => [s.a, s.b, s.c, s.d, s.e, s.f, s.f, s.g]
  | 6 => [s.a, s.b, s.c, s.d, s.e, s.f, s.g, s.g]
  | _ => [s.a, s.b, s.c, s.d, s.e, s.f, s.g, s.h]
theorem sh_get (s : St) {i : Nat} (h : i < 7) : (sh s (i + 1))[i]? = some ((stw s).getD i 0) := by
  match i, h with
  | 0, _ => rfl
  | 1, _ => rfl
  | 2, _ => rfl
  | 3, _ => rfl
  | 4, _ => rfl
  | 5, _ => rfl
  | 6, _ => rfl
theorem sh_set (s : St) {i : Nat} (h : i < 7) : (sh s (i + 1)).set (i + 1) ((stw s).getD i 0) = sh s i := by
  match i, h with
  | 0, _ => rfl
  | 1, _ => rfl
  | 2, _ => rfl
  | 3, _ => rfl
  | 4, _ => rfl
  | 5, _ => rfl
  | 6, _ => rfl
theorem sh_start (s : St) : sh s 7 = stw s := rfl
theorem sh_round (s : St) (k w : Nat) : ((sh s 0).set 4 ((s.d + t1 s k w) % M)).set 0 ((t1 s k w + t2 s) % M) = stw (round s k w) := rfl
/-- the sums while they are laid, the other way round -/
def mix2 (s r : St) (j : Nat) : List Nat := (stw (add s r)).take j ++ (stw s).drop j
theorem mix2_zero (s r : St) : mix2 s r 0 = stw s := rfl
theorem mix2_all (s r : St) : mix2 s r 8 = stw (add s r) := rfl
theorem mix2_get (s r : St) {j : Nat} (h : j < 8) : (mix2 s r j)[j]? = some ((stw s).getD j 0) := by
  rcases lt8 h with rfl | rfl | rfl | rfl | rfl | rfl | rfl | rfl <;> rfl
theorem mix2_set (s r : St) {j : Nat} (h : j < 8) : (mix2 s r j).set j ((stw (add s r)).getD j 0) = mix2 s r (j + 1) := by
  rcases lt8 h with rfl | rfl | rfl | rfl | rfl | rfl | rfl | rfl <;> rfl

/-! a block's words -/
/-- a word while its bytes come in -/
def wd (l : List UInt8) (t i : Nat) : Nat := ((l.drop (4 * t)).take i).foldl (fun n c => n * 256 + c.toNat) 0
theorem wd_zero (l : List UInt8) (t : Nat) : wd l t 0 = 0 := rfl
theorem wd_succ (l : List UInt8) (t : Nat) {i : Nat} {c : UInt8} (h : l[4 * t + i]? = some c) : wd l t (i + 1) = wd l t i * 256 + c.toNat := by
  unfold wd
  rw [List.take_add_one, List.getElem?_drop, h]
  simp only [Option.toList_some, List.foldl_append, List.foldl_cons, List.foldl_nil]
theorem wd_lt (l : List UInt8) (t : Nat) : ∀ i, wd l t i < 256 ^ i
  | 0 => Nat.lt_succ_self 0
  | i + 1 => by
    have ih := wd_lt l t i
    cases h : l[4 * t + i]? with
    | none =>
      have e : wd l t (i + 1) = wd l t i := by
        unfold wd
        rw [List.take_add_one, List.getElem?_drop, h]
        simp
      rw [e, Nat.pow_succ]
      omega
    | some c =>
      rw [wd_succ l t h, Nat.pow_succ]
      have := UInt8.toNat_lt c
      omega
theorem wd_all (l : List UInt8) {t : Nat} (h : 4 * t + 3 < l.length) : wd l t 4 = word l t := by
  have g : ∀ i, i < 4 → l[4 * t + i]? = some (l.getD (4 * t + i) 0) := fun i hi => by
    rw [List.getD_eq_getElem?_getD, List.getElem?_eq_getElem (by omega)]
    rfl
  rw [wd_succ l t (g 3 (by omega)), wd_succ l t (g 2 (by omega)), wd_succ l t (g 1 (by omega)), wd_succ l t (g 0 (by omega)), wd_zero]
  unfold word
  rw [Nat.zero_mul, Nat.zero_add]
  rfl

/-! the digest's bytes -/
theorem out_at (s : St) : ∀ i, i < 32 → (out s)[i]? = some (UInt8.ofNat ((stw s).getD (i / 4) 0 / 2 ^ (24 - 8 * (i % 4)))) := by
  intro i hi
  have h : i = 0 ∨ i = 1 ∨ i = 2 ∨ i = 3 ∨ i = 4 ∨ i = 5 ∨ i = 6 ∨ i = 7 ∨ i = 8 ∨ i = 9 ∨ i = 10 ∨ i = 11 ∨ i = 12 ∨ i = 13 ∨ i = 14 ∨ i = 15 ∨ i = 16 ∨ i = 17 ∨ i = 18 ∨ i = 19 ∨ i = 20 ∨ i = 21 ∨ i = 22 ∨ i = 23 ∨ i = 24 ∨ i = 25 ∨ i = 26 ∨ i = 27 ∨ i = 28 ∨ i = 29 ∨ i = 30 ∨ i = 31 := by omega
  have e : ∀ x : Nat, x / 2 ^ 0 = x := fun x => Nat.div_one x
  rcases h with rfl | rfl | rfl | rfl | rfl | rfl | rfl | rfl | rfl | rfl | rfl | rfl | rfl | rfl | rfl | rfl | rfl | rfl | rfl | rfl | rfl | rfl | rfl | rfl | rfl | rfl | rfl | rfl | rfl | rfl | rfl | rfl <;> first | rfl | (simp only [show (24 - 8 * (3 % 4)) = 0 from rfl]; rfl) | (show _ = some (UInt8.ofNat (_ / 2 ^ 0)); rw [e]; rfl)
end Go.Proofs.YtidflagmdabfaaaGreatDoor.RsP
