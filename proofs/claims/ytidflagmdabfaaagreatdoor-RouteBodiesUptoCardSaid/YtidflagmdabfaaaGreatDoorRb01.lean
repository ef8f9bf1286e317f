/-
  The walk of the law RouteBodies.
-/
import Derived.Test.YtidflagmdabfaaaGreatDoorRq08
namespace Go.Proofs.YtidflagmdabfaaaGreatDoor.RrC
open Go.RowKit Go.Proofs.YtidflagmdabfaaaGreatDoor Go.Proofs.YtidflagmdabfaaaGreatDoor.HtW Go.Proofs.YtidflagmdabfaaaGreatDoor.RtA Go.Proofs.YtidflagmdabfaaaGreatDoor.RtQ Go.Proofs.YtidflagmdabfaaaGreatDoor.RtI Go.Proofs.YtidflagmdabfaaaGreatDoor.RrB

attribute [local go_sem ↓] loadCmd_eq
theorem cut29 (d : List UInt8) : ((ByteArray.mk d.toArray).extract 0 29).toList = d.take 29 := by
  rw [ByteArray.toList_eq, Com.extract_data, List.drop_zero]
set_option maxHeartbeats 8000000 in
set_option maxRecDepth 100000 in
theorem bodies (kd i0 i1 i2 : Int) (bk ky : ByteArray) (p0 p1 p2 b0 b1 b2 sz : Int) (et : ByteArray) (pt : Int) (pa : Option Addr) (ps : List Int) (pc : Nat) (tm dy c : Int) (oe : List UInt8) (w : World) {aU : Addr} {es : List Addr}
    (hE : Env w aU es) (hT : XmlH.Tab w) (hP : RtX.Is w pa ps) (hbl : bk.size ≤ 1048576) (hkl : ky.size ≤ 1048576) (hel : et.size ≤ 1048576) (hpl : ps.length ≤ 1048576) (hol : oe.length ≤ 1048576) (g0 : Xd.I64 i0) (g1 : Xd.I64 i1) (g2 : Xd.I64 i2) :
    Calls Tryz.prog 7 #[.agg (RtT.X kd i0 i1 i2 bk ky p0 p1 p2 b0 b1 b2 sz et pt pa ps.length pc tm dy), .agg #[.int .i64 c, .string ⟨oe.toArray⟩]] w fun e w' => e = .returned (.bool true) ∧ Below w.heap.size w w' := by
  obtain ⟨w1, hw1, hb1, hQ1, hO1⟩ : ∃ w1, w1 = (w.alloc (.cells (RtT.X kd i0 i1 i2 bk ky p0 p1 p2 b0 b1 b2 sz et pt pa ps.length pc tm dy) 35)).alloc (.cells #[.int .i64 c, .string ⟨oe.toArray⟩] 63) ∧ Below w.heap.size w w1 ∧ w1.heap[w.heap.size]? = some (.cells (RtT.X kd i0 i1 i2 bk ky p0 p1 p2 b0 b1 b2 sz et pt pa ps.length pc tm dy) 35 (0, 0)) ∧ w1.heap[w.heap.size + 1]? = some (.cells #[.int .i64 c, .string ⟨oe.toArray⟩] 63 (0, 0)) :=
    ⟨_, rfl, ((Below.refl _ _).alloc (Nat.le_refl _) _).alloc (by simp) _, (Below.heap_alloc _ _ _ (by simp)).trans (heap_alloc_new _ _), RtQ.hp1 _ _⟩
  have HP := Lib.hid hP; clear hP
  have HT := Lib.hid hT; clear hT
  have HE1 := Lib.hid (hE.below hb1); clear hE
  have KA := Lib.hid (alive w1 HE1.out)
  have hz1 : w.heap.size + 2 ≤ w1.heap.size := (Array.getElem?_eq_some_iff.1 hO1).1
  have HB1 := Lib.hid hb1; clear hb1
  go_enter Tryz.func7, Tryz.ntmps7
  go_upto_region 1 with fail
  rw [← hw1]
  clear hw1
  go_upto_region 3 with fail
  refine KA.out.mono ?_
  rintro e w2 ⟨rfl, hb2⟩
  have hB2 := HB1.out.trans (hb2.mono (by omega))
  have hQ2 := (hb2.block _ (by omega)).trans hQ1
  have hO2 := (hb2.block _ (by omega)).trans hO1
  have HS2 := Lib.hid (S9.mk' hQ2 hO2 hB2)
  have ld2 := HS2.out.1.2
  have KI := Lib.hid (RtT.inForm kd i0 i1 i2 bk ky p0 p1 p2 b0 b1 b2 sz et pt pa ps pc tm dy w2 (HP.out.below hB2) hbl hkl hel hpl)
  clear hb2 hQ1 hO1 HB1 KA HE1 hz1 hB2 hQ2 hO2
  by_cases hc0 : c < 0
  · have e0 : decide (c < 0) = true := decide_eq_true hc0
    go_wp2_with (first
      | (go_at_call 23; refine KI.out.mono ?_; rintro e w7 ⟨⟨b7, rfl⟩, hb7⟩; have hS7 := S9.below HS2.out hb7; obtain ⟨o0, o1⟩ := hS7.1.1; cases b7))
    all_goals
      go_ret
      exact ⟨rfl, hS7.2.2⟩
  have e0 : decide (c < 0) = false := decide_eq_false hc0
  by_cases hc8 : 8 < c
  · have e8 : decide (8 < c) = true := decide_eq_true hc8
    go_wp2_with (first
      | (go_at_call 23; refine KI.out.mono ?_; rintro e w7 ⟨⟨b7, rfl⟩, hb7⟩; have hS7 := S9.below HS2.out hb7; obtain ⟨o0, o1⟩ := hS7.1.1; cases b7))
    all_goals
      go_ret
      exact ⟨rfl, hS7.2.2⟩
  have e8 : decide (8 < c) = false := decide_eq_false hc8
  obtain ⟨st, fs, d, hV, KC, KD⟩ := RtS.view kd i0 i1 i2 c (.string bk) (.int .i64 p0) (.int .i64 p1) (.int .i64 p2) (.int .i64 b0) (.int .i64 b1) (.int .i64 b2) (.int .i64 sz) (.string et) (.int .i64 pt) (.slice pa ps.length pc) (.int .i64 tm) (.int .i64 dy) ky oe (by omega) (by omega) hkl hol g0 g1 g2
  have HC := Lib.hid KC
  have HFE := Lib.hid hV.few
  have HV := Lib.hid hV
  clear KC KD hV
  go_upto_region 5 with (first
    | (go_at_call 23; refine KI.out.mono ?_; rintro e w7 ⟨⟨b7, rfl⟩, hb7⟩; have hS7 := S9.below HS2.out hb7; obtain ⟨o0, o1⟩ := hS7.1.1; have ld7 := hS7.1.2; have HS7 := Lib.hid hS7; clear hS7 hb7 ld2; cases b7))
  · go_ret
    exact ⟨rfl, HS7.out.2.2⟩
  go_upto_region 6 with (first
    | (go_at_call 31; refine (HC.out _ (HT.out.below HS7.out.2.2)).mono ?_; rintro e w9 ⟨⟨a9, c9, ab9, d9, rfl, hF9, hB9⟩, hb9⟩; have HS9 := Lib.hid (S9.below HS7.out hb9); have HF9 := Lib.hid hF9; have HB9 := Lib.hid hB9; clear o0 o1 ld7 hF9 hB9 hb9))
  have hb10 := (Below.refl w9.heap.size w9).alloc (Nat.le_refl _) (.cells #[.int .i64 st, .slice a9 fs.length c9, .slice ab9 d.length d9] 56)
  have hR10 : Rb w9.heap.size (w9.alloc (.cells #[.int .i64 st, .slice a9 fs.length c9, .slice ab9 d.length d9] 56)) (.int .i64 st) (.slice a9 fs.length c9) (.slice ab9 d.length d9) := heap_alloc_new _ _
  have HS10 := Lib.hid (S9.below HS9.out hb10)
  have HF10 := Lib.hid (HF9.out.below hb10)
  have HB10 := Lib.hid (HB9.out.below hb10)
  obtain ⟨N9, hN9⟩ : ∃ N, N = w9.heap.size := ⟨_, rfl⟩
  rw [← hN9] at hR10 ⊢
  have HR10 := Lib.hid hR10
  generalize w9.alloc _ = w10 at *
  clear hb10 hN9 hR10 HS9 HF9 HB9
  obtain ⟨r0, r1, r2, -, -, -⟩ := HR10.out.cells
  have kc : (convert 23 9 (.slice ab9 d.length d9)).run Tryz.prog w10 = .ok (.string ⟨d.toArray⟩) w10 := to_string HB10.out
  have hx : (((ByteArray.mk d.toArray).extract 0 29).toList == [60, 63, 120, 109, 108, 32, 118, 101, 114, 115, 105, 111, 110, 61, 34, 49, 46, 48, 34, 63, 62, 10, 60, 69, 114, 114, 111, 114, 62]) = (d.take 29 == RtS.head) := by rw [cut29]; rfl
  obtain ⟨q, hq⟩ : ∃ q, (d.take 29 == RtS.head) = q := ⟨_, rfl⟩
  rw [hq] at hx
  obtain ⟨o0, o1⟩ := HS10.out.1.1
  have ld10 := HS10.out.1.2
  by_cases hl : 29 < d.length
  · have el : decide ((29 : Int) < (d.length : Int)) = true := decide_eq_true (by omega)
    have h29 : (29 : Int) ≤ (d.length : Int) := by omega
    have hbd : RtS.bad d = q := by unfold RtS.bad; rw [decide_eq_true hl, Bool.true_and, hq]
    by_cases hc : c = 0
    · obtain ⟨s0, s1, s2, s3⟩ := HV.out.yes hc
      obtain rfl : q = false := hbd.symm.trans s2
      have e1 : decide (st < 300) = true := decide_eq_true s1
      have e2 : (st != 204) = true := by
        rw [bne_iff_ne]
        intro h
        rw [s3 h] at hl
        simp at hl
      have e3 : (c == 0) = true := by rw [hc]; rfl
      have HCC := Lib.hid hc
      clear hc hl hbd hq s0 s1 s2 s3
      go_upto_region 9 with (first
        | (go_at_call 31; refine (HC.out _ (HT.out.below HS10.out.2.2)).mono ?_; rintro e w11 ⟨⟨a11, c11, ab11, d11, rfl, hF11, hB11⟩, hb11⟩))
      have hb12 := (Below.refl w11.heap.size w11).alloc (Nat.le_refl _) (.cells #[.int .i64 st, .slice a11 fs.length c11, .slice ab11 d.length d11] 56)
      have hR12 : Rb w11.heap.size (w11.alloc (.cells #[.int .i64 st, .slice a11 fs.length c11, .slice ab11 d.length d11] 56)) (.int .i64 st) (.slice a11 fs.length c11) (.slice ab11 d.length d11) := heap_alloc_new _ _
      have hb := hb11.trans (hb12.mono hb11.size)
      have HS12 := Lib.hid (S9.below HS10.out hb)
      have HR1 := Lib.hid (HR10.out.below hb)
      have HF1 := Lib.hid (HF10.out.below hb)
      have HB1 := Lib.hid (HB10.out.below hb)
      have HF2 := Lib.hid (hF11.below hb12)
      have HB2 := Lib.hid (hB11.below hb12)
      obtain ⟨N11, hN11⟩ : ∃ N, N = w11.heap.size := ⟨_, rfl⟩
      rw [← hN11] at hR12 ⊢
      have HR2 := Lib.hid hR12
      generalize w11.alloc _ = w12 at *
      clear hb hb12 hb11 hN11 hR12 hF11 hB11 o0 o1 ld10 r0 r1 r2 kc HS10 HF10 HB10 HR10
      obtain ⟨r0, r1, r2, -, -, -⟩ := HR1.out.cells
      obtain ⟨t0, t1, t2, -, -, -⟩ := HR2.out.cells
      have KS := Lib.hid (RtP.sameRes st fs d c9 d9 c11 d11 w12 HF1.out HB1.out HF2.out HB2.out (by have := HFE.out; omega))
      go_upto_region 11 with (first
        | (go_at_call 25; refine KS.out.mono ?_; rintro e w13 ⟨rfl, hb13⟩))
      have HS13 := Lib.hid (S9.below HS12.out hb13)
      have HR3 := Lib.hid (HR1.out.below hb13)
      clear r0 r1 r2 t0 t1 t2 KS HS12 HR1 HR2 HF1 HB1 HF2 HB2 hb13
      obtain ⟨r0, r1, r2, -, -, -⟩ := HR3.out.cells
      obtain ⟨o0, o1⟩ := HS13.out.1.1
      go_wp2_with fail
      go_ret
      exact ⟨rfl, HS13.out.2.2⟩
    · obtain ⟨s0, s1, s2⟩ := HV.out.no hc
      obtain rfl : q = true := hbd.symm.trans s2
      have e1 : decide (400 ≤ st) = true := decide_eq_true s0
      have e2 : decide (st < 500) = true := decide_eq_true s1
      have e3 : (c == 0) = false := by rw [beq_eq_false_iff_ne]; exact hc
      have HCC := Lib.hid hc
      clear hc hl hbd hq s0 s1 s2
      go_upto_region 9 with (first
        | (go_at_call 31; refine (HC.out _ (HT.out.below HS10.out.2.2)).mono ?_; rintro e w11 ⟨⟨a11, c11, ab11, d11, rfl, hF11, hB11⟩, hb11⟩))
      have hb12 := (Below.refl w11.heap.size w11).alloc (Nat.le_refl _) (.cells #[.int .i64 st, .slice a11 fs.length c11, .slice ab11 d.length d11] 56)
      have hR12 : Rb w11.heap.size (w11.alloc (.cells #[.int .i64 st, .slice a11 fs.length c11, .slice ab11 d.length d11] 56)) (.int .i64 st) (.slice a11 fs.length c11) (.slice ab11 d.length d11) := heap_alloc_new _ _
      have hb := hb11.trans (hb12.mono hb11.size)
      have HS12 := Lib.hid (S9.below HS10.out hb)
      have HR1 := Lib.hid (HR10.out.below hb)
      have HF1 := Lib.hid (HF10.out.below hb)
      have HB1 := Lib.hid (HB10.out.below hb)
      have HF2 := Lib.hid (hF11.below hb12)
      have HB2 := Lib.hid (hB11.below hb12)
      obtain ⟨N11, hN11⟩ : ∃ N, N = w11.heap.size := ⟨_, rfl⟩
      rw [← hN11] at hR12 ⊢
      have HR2 := Lib.hid hR12
      generalize w11.alloc _ = w12 at *
      clear hb hb12 hb11 hN11 hR12 hF11 hB11 o0 o1 ld10 r0 r1 r2 kc HS10 HF10 HB10 HR10
      obtain ⟨r0, r1, r2, -, -, -⟩ := HR1.out.cells
      obtain ⟨t0, t1, t2, -, -, -⟩ := HR2.out.cells
      have KS := Lib.hid (RtP.sameRes st fs d c9 d9 c11 d11 w12 HF1.out HB1.out HF2.out HB2.out (by have := HFE.out; omega))
      go_upto_region 11 with (first
        | (go_at_call 25; refine KS.out.mono ?_; rintro e w13 ⟨rfl, hb13⟩))
      have HS13 := Lib.hid (S9.below HS12.out hb13)
      have HR3 := Lib.hid (HR1.out.below hb13)
      clear r0 r1 r2 t0 t1 t2 KS HS12 HR1 HR2 HF1 HB1 HF2 HB2 hb13
      obtain ⟨r0, r1, r2, -, -, -⟩ := HR3.out.cells
      obtain ⟨o0, o1⟩ := HS13.out.1.1
      go_wp2_with fail
      go_ret
      exact ⟨rfl, HS13.out.2.2⟩
  · have el : decide ((29 : Int) < (d.length : Int)) = false := decide_eq_false (by omega)
    have hbd : RtS.bad d = false := by unfold RtS.bad; rw [decide_eq_false hl, Bool.false_and]
    by_cases hc : c = 0
    · obtain ⟨s0, s1, s2, s3⟩ := HV.out.yes hc
      have e1 : decide (st < 300) = true := decide_eq_true s1
      have e3 : (c == 0) = true := by rw [hc]; rfl
      have HCC := Lib.hid hc
      clear hc hbd hq s0 s1 s2
      by_cases h4 : st = 204
      · have e2 : (st != 204) = false := by rw [h4]; rfl
        have e4 : ((d.length : Int) == 0) = true := by rw [s3 h4]; rfl
        have H4 := Lib.hid h4
        clear h4 hl s3
        go_upto_region 9 with (first
          | (go_at_call 31; refine (HC.out _ (HT.out.below HS10.out.2.2)).mono ?_; rintro e w11 ⟨⟨a11, c11, ab11, d11, rfl, hF11, hB11⟩, hb11⟩))
        have hb12 := (Below.refl w11.heap.size w11).alloc (Nat.le_refl _) (.cells #[.int .i64 st, .slice a11 fs.length c11, .slice ab11 d.length d11] 56)
        have hR12 : Rb w11.heap.size (w11.alloc (.cells #[.int .i64 st, .slice a11 fs.length c11, .slice ab11 d.length d11] 56)) (.int .i64 st) (.slice a11 fs.length c11) (.slice ab11 d.length d11) := heap_alloc_new _ _
        have hb := hb11.trans (hb12.mono hb11.size)
        have HS12 := Lib.hid (S9.below HS10.out hb)
        have HR1 := Lib.hid (HR10.out.below hb)
        have HF1 := Lib.hid (HF10.out.below hb)
        have HB1 := Lib.hid (HB10.out.below hb)
        have HF2 := Lib.hid (hF11.below hb12)
        have HB2 := Lib.hid (hB11.below hb12)
        obtain ⟨N11, hN11⟩ : ∃ N, N = w11.heap.size := ⟨_, rfl⟩
        rw [← hN11] at hR12 ⊢
        have HR2 := Lib.hid hR12
        generalize w11.alloc _ = w12 at *
        clear hb hb12 hb11 hN11 hR12 hF11 hB11 o0 o1 ld10 r0 r1 r2 kc HS10 HF10 HB10 HR10
        obtain ⟨r0, r1, r2, -, -, -⟩ := HR1.out.cells
        obtain ⟨t0, t1, t2, -, -, -⟩ := HR2.out.cells
        have KS := Lib.hid (RtP.sameRes st fs d c9 d9 c11 d11 w12 HF1.out HB1.out HF2.out HB2.out (by have := HFE.out; omega))
        go_upto_region 11 with (first
          | (go_at_call 25; refine KS.out.mono ?_; rintro e w13 ⟨rfl, hb13⟩))
        have HS13 := Lib.hid (S9.below HS12.out hb13)
        have HR3 := Lib.hid (HR1.out.below hb13)
        clear r0 r1 r2 t0 t1 t2 KS HS12 HR1 HR2 HF1 HB1 HF2 HB2 hb13
        obtain ⟨r0, r1, r2, -, -, -⟩ := HR3.out.cells
        obtain ⟨o0, o1⟩ := HS13.out.1.1
        go_wp2_with fail
        go_ret
        exact ⟨rfl, HS13.out.2.2⟩
      · have e2 : (st != 204) = true := by rw [bne_iff_ne]; exact h4
        have H4 := Lib.hid h4
        clear h4 hl s3
        go_upto_region 9 with (first
          | (go_at_call 31; refine (HC.out _ (HT.out.below HS10.out.2.2)).mono ?_; rintro e w11 ⟨⟨a11, c11, ab11, d11, rfl, hF11, hB11⟩, hb11⟩))
        have hb12 := (Below.refl w11.heap.size w11).alloc (Nat.le_refl _) (.cells #[.int .i64 st, .slice a11 fs.length c11, .slice ab11 d.length d11] 56)
        have hR12 : Rb w11.heap.size (w11.alloc (.cells #[.int .i64 st, .slice a11 fs.length c11, .slice ab11 d.length d11] 56)) (.int .i64 st) (.slice a11 fs.length c11) (.slice ab11 d.length d11) := heap_alloc_new _ _
        have hb := hb11.trans (hb12.mono hb11.size)
        have HS12 := Lib.hid (S9.below HS10.out hb)
        have HR1 := Lib.hid (HR10.out.below hb)
        have HF1 := Lib.hid (HF10.out.below hb)
        have HB1 := Lib.hid (HB10.out.below hb)
        have HF2 := Lib.hid (hF11.below hb12)
        have HB2 := Lib.hid (hB11.below hb12)
        obtain ⟨N11, hN11⟩ : ∃ N, N = w11.heap.size := ⟨_, rfl⟩
        rw [← hN11] at hR12 ⊢
        have HR2 := Lib.hid hR12
        generalize w11.alloc _ = w12 at *
        clear hb hb12 hb11 hN11 hR12 hF11 hB11 o0 o1 ld10 r0 r1 r2 kc HS10 HF10 HB10 HR10
        obtain ⟨r0, r1, r2, -, -, -⟩ := HR1.out.cells
        obtain ⟨t0, t1, t2, -, -, -⟩ := HR2.out.cells
        have KS := Lib.hid (RtP.sameRes st fs d c9 d9 c11 d11 w12 HF1.out HB1.out HF2.out HB2.out (by have := HFE.out; omega))
        go_upto_region 11 with (first
          | (go_at_call 25; refine KS.out.mono ?_; rintro e w13 ⟨rfl, hb13⟩))
        have HS13 := Lib.hid (S9.below HS12.out hb13)
        have HR3 := Lib.hid (HR1.out.below hb13)
        clear r0 r1 r2 t0 t1 t2 KS HS12 HR1 HR2 HF1 HB1 HF2 HB2 hb13
        obtain ⟨r0, r1, r2, -, -, -⟩ := HR3.out.cells
        obtain ⟨o0, o1⟩ := HS13.out.1.1
        go_wp2_with fail
        go_ret
        exact ⟨rfl, HS13.out.2.2⟩
    · exact absurd ((HV.out.no hc).2.2.symm.trans hbd) (by decide)
end Go.Proofs.YtidflagmdabfaaaGreatDoor.RrC
