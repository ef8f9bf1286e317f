/-
  The walks of the document's Write and SameResponse.
-/
import Derived.Test.YtnhjbcjeeilicaaDoorHtBH
import Derived.Test.YtnhjbcjeeilicaaDoorHtO
import Derived.Test.YtnhjbcjeeilicaaDoorHtL
import Derived.Test.YtnhjbcjeeilicaaDoorHtU
import Derived.Test.YtnhjbcjeeilicaaDoorDecW
import Derived.Test.YtnhjbcjeeilicaaDoorNum
namespace Go.Proofs.YtnhjbcjeeilicaaDoor.HtBL
open Go.RowKit Go.Proofs.YtnhjbcjeeilicaaDoor Go.Proofs.YtnhjbcjeeilicaaDoor.Ht Go.Proofs.YtnhjbcjeeilicaaDoor.HtW Go.Proofs.YtnhjbcjeeilicaaDoor.HtJ Go.Proofs.YtnhjbcjeeilicaaDoor.HtK Go.Proofs.YtnhjbcjeeilicaaDoor.HtM Go.Proofs.YtnhjbcjeeilicaaDoor.HtL Go.Proofs.YtnhjbcjeeilicaaDoor.HtBH Go.Proofs.YtnhjbcjeeilicaaDoor.HtU

/-- what stands while the pieces are made -/
theorem signedC (w0 : World) (g : Nat) (v0 : Value) (n : Int) (w : World) (h0 : -9223372036854775808 ≤ n) (h1 : n ≤ 9223372036854775807) (hc : Below w0.heap.size w0 w) (hv : w.cell? ⟨g, 0, none⟩ = some v0) :
    Calls Tryd.prog 27 #[.int .i64 n] w fun e w' => e = .returned (.string ⟨(Lib.itoa n).toArray⟩) ∧ w'.cell? ⟨g, 0, none⟩ = some v0 ∧ Below w0.heap.size w0 w' := by
  refine (DecW.signed n h0 h1 w).mono ?_
  rintro e w1 ⟨rfl, hb⟩
  exact ⟨rfl, (hb.cell (World.block_lt_of_cell? w _ hv)).trans hv, hc.trans (hb.mono hc.size)⟩
theorem refReasonC (w0 : World) (g : Nat) (v0 : Value) (n : Int) (w : World) (hc : Below w0.heap.size w0 w) (hv : w.cell? ⟨g, 0, none⟩ = some v0) :
    Calls Tryd.prog 13 #[.int .i64 n] w fun e w' => e = .returned (.string ⟨(rsn n).toArray⟩) ∧ w'.cell? ⟨g, 0, none⟩ = some v0 ∧ Below w0.heap.size w0 w' := by
  refine (HtO.refReason n w).mono ?_
  rintro e w1 ⟨rfl, hb⟩
  exact ⟨rfl, (hb.cell (World.block_lt_of_cell? w _ hv)).trans hv, hc.trans (hb.mono hc.size)⟩
theorem flat_next {L : List Fld} {k : Nat} {q : Fld} (h : L[k]? = some q) : (L.take (k + 1)).flatMap lineOf = (L.take k).flatMap lineOf ++ lineOf q := by
  rw [List.take_add_one, h]
  simp
theorem flat_le {L : List Fld} {k : Nat} {q : Fld} (h : L[k]? = some q) : ((L.take k).flatMap lineOf).length + (lineOf q).length ≤ (L.flatMap lineOf).length := by
  have e : L.flatMap lineOf = (L.take (k + 1)).flatMap lineOf ++ (L.drop (k + 1)).flatMap lineOf := by
    rw [← List.flatMap_append, List.take_append_drop]
  rw [e, flat_next h, List.length_append, List.length_append]
  omega
theorem wr_form (st : Int) (fs : List Fld) (bd : List UInt8) : wr st fs bd = HtJ.top st ++ fs.flatMap lineOf ++ ([99, 111, 110, 116, 101, 110, 116, 45, 108, 101, 110, 103, 116, 104, 58, 32] ++ Lib.itoa (bd.length : Int) ++ [13, 10, 13, 10]) ++ bd := by
  unfold wr HtJ.all
  rw [List.flatMap_append]
  simp [lineOf, cl]
theorem itoa_nat (n : Nat) : Lib.itoa (n : Int) = Lib.decDigits n := by
  unfold Lib.itoa
  rw [if_neg (by omega)]
  rfl

set_option maxHeartbeats 4000000 in
set_option maxRecDepth 100000 in
theorem rwrite (st : Int) (fs : List Fld) (bd : List UInt8) {a ab : Option Addr} (c cb : Nat) (w : World) (h0 : -9223372036854775808 ≤ st) (h1 : st ≤ 9223372036854775807) (hf : Fs w a fs) (hb : Bs w ab bd cb) (hl : (wr st fs bd).length ≤ 4294967296) (hfl : fs.length ≤ 4294967296) :
    Calls Tryd.prog 16 #[.agg #[.int .i64 st, .slice a fs.length c, .slice ab bd.length cb]] w fun e w' => (∃ ar cr, e = .returned (.slice ar (wr st fs bd).length cr) ∧ Bs w' ar (wr st fs bd) cr) ∧ Below w.heap.size w w' := by
  have la := Dec.itoa_len h0 h1
  have lr := rsn_len st
  have hwf := wr_form st fs bd
  have hwl : (wr st fs bd).length = (HtJ.top st).length + (fs.flatMap lineOf).length + (16 + (Lib.itoa (bd.length : Int)).length + 4) + bd.length := by
    rw [hwf]
    simp only [List.length_append]
    rfl
  have HF := Lib.hid hf; clear hf
  have HB := Lib.hid hb; clear hb
  have HL := Lib.hid hl; clear hl
  have HWL := Lib.hid hwl; clear hwl
  have HWF := Lib.hid hwf; clear hwf
  have s1 : ¬ 9223372036854775807 < 9 + (Lib.itoa st).length := by omega
  have s2 : ¬ 9223372036854775807 < 9 + (Lib.itoa st).length + 1 := by omega
  have s3 : ¬ 9223372036854775807 < 9 + (Lib.itoa st).length + 1 + (rsn st).length := by omega
  have s4 : ¬ 9223372036854775807 < 9 + (Lib.itoa st).length + 1 + (rsn st).length + 2 := by omega
  have hbX : Below w.heap.size w (w.alloc (.cells #[.int .i64 st, .slice a fs.length c, .slice ab bd.length cb] 35)) := (Below.refl _ _).alloc (Nat.le_refl _) _
  have hSX : Sq w.heap.size (w.alloc (.cells #[.int .i64 st, .slice a fs.length c, .slice ab bd.length cb] 35)) (.int .i64 st) (.slice a fs.length c) (.slice ab bd.length cb) := heap_alloc_new _ _
  go_enter Tryd.func16, Tryd.ntmps16
  go_wp2_with fail
  generalize w.alloc (.cells #[.int .i64 st, .slice a fs.length c, .slice ab bd.length cb] 35) = X at *
  have HSX := Lib.hid hSX; clear hSX
  have HBX := Lib.hid hbX; clear hbX
  have hX0 : Below X.heap.size X X := Below.refl _ _
  obtain ⟨x0, x1, x2⟩ := HSX.out.cells
  go_region_held3 (fun w' => w'.cell? ⟨w.heap.size, 0, none⟩ = some (.int .i64 st))
    (first | go_keep)
    (first
      | (go_at_call 27; refine (signedC X w.heap.size (.int .i64 st) _ _ h0 h1 ?_ ?_).mono ?_; (first | assumption | exact hX0 | exact hX0.drew); (simp [*]); rintro e w' ⟨rfl, k0, t0⟩)
      | (go_at_call 13; refine (refReasonC X w.heap.size (.int .i64 st) _ _ ?_ ?_).mono ?_; (first | assumption | exact hX0 | exact hX0.drew); (simp [*]); rintro e w' ⟨rfl, k0, t0⟩))
  have HT := Lib.hid (show (⟨#[72, 84, 84, 80, 47, 49, 46, 49, 32]⟩ : ByteArray) ++ ⟨(Lib.itoa st).toArray⟩ ++ ⟨#[32]⟩ ++ ⟨(rsn st).toArray⟩ ++ ⟨#[13, 10]⟩ = ⟨(HtJ.top st).toArray⟩ by
    unfold HtJ.top
    rw [← Com.mk_append _ [13, 10], ← Com.mk_append _ (rsn st), ← Com.mk_append _ [32], ← Com.mk_append _ (Lib.itoa st)])
  have HB2 := Lib.hid (HBX.out.trans (t0.mono HBX.out.size))
  have HS2 := Lib.hid (HSX.out.below t0)
  clear x0 x1 x2 k0 HSX HBX
  obtain ⟨x0, x1, x2⟩ := HS2.out.cells
  go_wp2_with fail
  rw [HT.out]
  have HTL := Lib.hid (show (HtJ.top st).length ≤ 4294967296 by have := HL.out; rw [HWL.out] at this; omega)
  clear x0 x1 x2 HT s1 s2 s3 s4
  go_loopg [3, 19] fs.length (fun g s v wr' => ∃ k : Nat, k + g = fs.length ∧ v = .int .i64 k ∧ s = .string ⟨(HtJ.top st ++ (fs.take k).flatMap lineOf).toArray⟩ ∧ Hid (Sq w.heap.size wr' (.int .i64 st) (.slice a fs.length c) (.slice ab bd.length cb)) ∧ Hid (Below w.heap.size w wr'))
  case atStart => exact ⟨0, by omega, rfl, by simp, HS2, HB2⟩
  case round =>
    obtain ⟨k, hkg, rfl, rfl, HR, HW⟩ := hrel
    have HG := Lib.hid hkg
    have hk : k ≤ fs.length := by omega
    clear hkg
    by_cases hlt : k < fs.length
    · obtain ⟨q, hq⟩ : ∃ q, fs[k]? = some q := ⟨fs[k], List.getElem?_eq_getElem hlt⟩
      obtain ⟨b, o, rfl, hbb, d0, d1⟩ := Fs.at HF.out hq
      obtain ⟨nm, vl⟩ := q
      have c0 := (HW.out.cell (p := ⟨b, _, none⟩) hbb).trans d0
      have c1 := (HW.out.cell (p := ⟨b, _, none⟩) hbb).trans d1
      simp only at c0 c1
      have hle := flat_le hq
      have hN := Lib.hid (flat_next hq)
      have hll : (lineOf (nm, vl)).length = nm.length + 2 + vl.length + 2 := by simp [lineOf]; omega
      have hl2 := HL.out
      rw [HWL.out] at hl2
      have e1 : (HtJ.top st ++ (fs.take k).flatMap lineOf).length = (HtJ.top st).length + ((fs.take k).flatMap lineOf).length := List.length_append
      have s4 : ¬ 9223372036854775807 < nm.length + 2 := by omega
      have s5 : ¬ 9223372036854775807 < nm.length + 2 + vl.length := by omega
      have s6 : ¬ 9223372036854775807 < nm.length + 2 + vl.length + 2 := by omega
      have s7 : ¬ 9223372036854775807 < (HtJ.top st ++ (fs.take k).flatMap lineOf).length + (nm.length + 2 + vl.length + 2) := by omega
      have hal := (Below.refl wr.heap.size wr).alloc (Nat.le_refl _) (.cells #[.string ⟨nm.toArray⟩, .string ⟨vl.toArray⟩] 30)
      have HR2 := Lib.hid (HR.out.below hal)
      have HW2 := Lib.hid (HW.out.trans (hal.mono HW.out.size))
      have HE := Lib.hid (show (⟨(HtJ.top st ++ (fs.take k).flatMap lineOf).toArray⟩ : ByteArray) ++ (⟨nm.toArray⟩ ++ ⟨#[58, 32]⟩ ++ ⟨vl.toArray⟩ ++ ⟨#[13, 10]⟩) = ⟨(HtJ.top st ++ (fs.take (k + 1)).flatMap lineOf).toArray⟩ by
        rw [hN.out, ← List.append_assoc]
        have e : lineOf (nm, vl) = nm ++ [58, 32] ++ vl ++ [13, 10] := rfl
        rw [e, ← Com.mk_append _ (nm ++ [58, 32] ++ vl ++ [13, 10]), ← Com.mk_append _ [13, 10], ← Com.mk_append _ vl, ← Com.mk_append nm])
      clear hq d0 d1 hll e1 hal hl2 hle
      generalize HtJ.top st ++ (fs.take k).flatMap lineOf = T at *
      go_wp2_with fail
      go_roundg (fs.length - (k + 1))
      case measure => have := HG.out; omega
      case rel => exact ⟨k + 1, by omega, by go_num, by rw [← HE.out], HR2, HW2⟩
    · have hkk : fs.take k = fs := List.take_of_length_le (by omega)
      rw [hkk]
      obtain ⟨x0, x1, x2⟩ := HR.out.cells
      have hl2 := HL.out
      rw [HWL.out] at hl2
      have e1 : (HtJ.top st ++ fs.flatMap lineOf).length = (HtJ.top st).length + (fs.flatMap lineOf).length := List.length_append
      have hdl : (Lib.decDigits bd.length).length = (Lib.itoa (bd.length : Int)).length := by rw [itoa_nat]
      have s1 : ¬ 9223372036854775807 < 16 + (Lib.decDigits bd.length).length := by omega
      have s2 : ¬ 9223372036854775807 < 16 + (Lib.decDigits bd.length).length + 4 := by omega
      have s3 : ¬ 9223372036854775807 < (HtJ.top st ++ fs.flatMap lineOf).length + (16 + (Lib.decDigits bd.length).length + 4) := by omega
      have hz := HR.out.lt
      obtain ⟨T2, hT2⟩ : ∃ T2, T2 = HtJ.top st ++ fs.flatMap lineOf ++ ([99, 111, 110, 116, 101, 110, 116, 45, 108, 101, 110, 103, 116, 104, 58, 32] ++ Lib.itoa (bd.length : Int) ++ [13, 10, 13, 10]) := ⟨_, rfl⟩
      have hT2l : T2.length = (HtJ.top st ++ fs.flatMap lineOf).length + (16 + (Lib.itoa (bd.length : Int)).length + 4) := by rw [hT2]; simp only [List.length_append]; rfl
      have HREQ := Lib.hid (show HtJ.wr st fs bd = T2 ++ bd by rw [hT2]; exact HWF.out)
      have hcat := (show (⟨(HtJ.top st ++ fs.flatMap lineOf).toArray⟩ : ByteArray) ++ (⟨#[99, 111, 110, 116, 101, 110, 116, 45, 108, 101, 110, 103, 116, 104, 58, 32]⟩ ++ ⟨(Lib.decDigits bd.length).toArray⟩ ++ ⟨#[13, 10, 13, 10]⟩) = ⟨T2.toArray⟩ by
        rw [hT2, itoa_nat, ← Com.mk_append (HtJ.top st ++ fs.flatMap lineOf), ← Com.mk_append _ [13, 10, 13, 10], ← Com.mk_append _ (Lib.decDigits bd.length)])
      have hn2 : T2.length + bd.length ≤ 140737488355328 := by omega
      have hbl : bd.length ≤ 9223372036854775807 := by omega
      clear hT2 hkk hT2l hdl hl2 e1
      generalize HtJ.top st ++ fs.flatMap lineOf = T at *
      go_wp2_with fail
      refine (DecW.decimal bd.length hbl _).mono ?_
      rintro e w5 ⟨rfl, hb5⟩
      have HR5 := Lib.hid (HR.out.below hb5)
      have HW5 := Lib.hid (HW.out.trans (hb5.mono HW.out.size))
      clear hb5 x0 x1 x2
      obtain ⟨x0, x1, x2⟩ := HR5.out.cells
      have kc := fun w s => Lib.run_convert_string_bytes (P := Tryd.prog) w 9 23 5 s Tryd.underlying9 Tryd.underlying23 Tryd.underlying5
      have hz5 := HR5.out.lt
      have y3 := (Lib.bytesWorld_old w5 5 ⟨T2.toArray⟩ ⟨w.heap.size, 2, none⟩ hz5).trans x2
      obtain ⟨cur9, k9, q1, q2, q3, q4, q5⟩ := conv_row w5 T2
      have Q1 := Lib.hid q1
      have Q2 := Lib.hid q2
      have Q5 := Lib.hid q5
      have Q3 := Lib.hid q3
      have Q4 := Lib.hid q4
      have HCV := Lib.hid (Lib.bytesWorld_below w5 5 ⟨T2.toArray⟩)
      have HCS := Lib.hid (Lib.bytesWorld_size w5 5 ⟨T2.toArray⟩)
      clear q1 q2 q3 q4 q5
      go_wp2_with (at_builtin; refine wpList_append_bs _ rfl (.tmp 42) (.tmp 44) rfl w5.heap.size w5.heap.size (Nat.le_refl _) (by rw [HCS.out]; omega) cur9 k9 Q1.out Q2.out T2 bd _ Q3.out Q4.out Q5.out ab cb (HB.out.below (HW5.out.trans (HCV.out.mono (Nat.le_of_lt hz5)))) hn2 rfl rfl ?_; intro ar cr w10 u1 u2 u3)
      go_ret
      have hl3 : (HtJ.wr st fs bd).length = T2.length + bd.length := by rw [HREQ.out, List.length_append]
      refine ⟨⟨ar, cr, (by rw [hl3]; rfl), by rw [HREQ.out]; exact u1⟩, ?_⟩
      exact HW5.out.trans ((HCV.out.trans u3).mono (Nat.le_of_lt hz5))

set_option maxHeartbeats 1000000 in
set_option maxRecDepth 100000 in
theorem sameRes (st : Int) (fs : List Fld) (bd : List UInt8) {a ab a' ab' : Option Addr} (c cb c' cb' : Nat) (w : World) (hf : Fs w a fs) (hb : Bs w ab bd cb) (hf' : Fs w a' fs) (hb' : Bs w ab' bd cb') (hfl : fs.length ≤ 9223372036854775807) :
    Calls Tryd.prog 17 #[.agg #[.int .i64 st, .slice a fs.length c, .slice ab bd.length cb], .agg #[.int .i64 st, .slice a' fs.length c', .slice ab' bd.length cb']] w fun e w' => e = .returned (.bool true) ∧ Below w.heap.size w w' := by
  have HF := Lib.hid hf; clear hf
  have HB := Lib.hid hb; clear hb
  have HF' := Lib.hid hf'; clear hf'
  have HB' := Lib.hid hb'; clear hb'
  have hX := ((Below.refl w.heap.size w).alloc (Nat.le_refl _) (.cells #[.int .i64 st, .slice a fs.length c, .slice ab bd.length cb] 35)).alloc (by simp) (.cells #[.int .i64 st, .slice a' fs.length c', .slice ab' bd.length cb'] 35)
  go_enter Tryd.func17, Tryd.ntmps17
  go_wp2_with fail
  refine (same [] [] [] [] bd bd fs fs c c' cb cb' _ (HF.out.below hX) (HF'.out.below hX) (HB.out.below hX) (HB'.out.below hX) hfl).mono ?_
  rintro e w1 ⟨rfl, hb1⟩
  rw [eqR_yes]
  go_wp2_with fail
  go_ret
  exact ⟨rfl, hX.trans (hb1.mono hX.size)⟩
end Go.Proofs.YtnhjbcjeeilicaaDoor.HtBL
