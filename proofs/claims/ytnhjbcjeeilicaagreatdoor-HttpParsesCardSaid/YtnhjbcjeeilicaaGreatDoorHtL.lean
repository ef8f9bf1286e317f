/-
  The walk of package http's Write.
-/
import Derived.Test.YtnhjbcjeeilicaaGreatDoorHtM
import Derived.Deep.RegionLawGrows
import Derived.Deep.RegionLaw
import Derived.Deep.Upon
namespace Go.Proofs.YtnhjbcjeeilicaaGreatDoor.HtL
open Go.RowKit Go.Proofs.YtnhjbcjeeilicaaGreatDoor Go.Proofs.YtnhjbcjeeilicaaGreatDoor.Ht Go.Proofs.YtnhjbcjeeilicaaGreatDoor.HtW Go.Proofs.YtnhjbcjeeilicaaGreatDoor.HtJ Go.Proofs.YtnhjbcjeeilicaaGreatDoor.HtK Go.Proofs.YtnhjbcjeeilicaaGreatDoor.HtM

theorem fcells_one (fs : List Fld) : ∀ u ∈ fcells fs, u.oneCell' = true := by
  intro u hu
  simp only [fcells, List.mem_flatMap] at hu
  obtain ⟨p, _, hu⟩ := hu
  simp at hu
  rcases hu with rfl | rfl <;> rfl
theorem Fs.holds {w : World} {p : Addr} {fs : List Fld} (h : Fs w (some p) fs) : ∀ (j : Nat) u, (fcells fs)[j]? = some u → w.cell? (p.add j) = some u := by
  intro j u hj
  rcases h with rfl | ⟨b, o, hp, hb, hc⟩
  · cases hj
  · cases hp
    rw [addr_add]
    have hjl : j < fs.length * 2 := by rw [← fcells_length]; exact (List.getElem?_eq_some_iff.1 hj).1
    have hq : j / 2 < fs.length := by omega
    have hq' := List.getElem?_eq_getElem hq
    obtain ⟨c1, c2⟩ := hc (j / 2) _ hq'
    obtain ⟨d1, d2⟩ := fcells_get hq'
    rcases Nat.mod_two_eq_zero_or_one j with e | e
    · have e2 : j = j / 2 * 2 := by omega
      rw [← e2] at c1 d1
      rw [c1, ← hj, d1]
    · have e2 : j = j / 2 * 2 + 1 := by omega
      rw [Nat.add_assoc, ← e2] at c2
      rw [← e2] at d2
      rw [c2, ← hj, d2]

theorem all_length (fs : List Fld) (n : Nat) : (all fs n).length = fs.length + 1 := by simp [HtJ.all]
theorem all_cells (fs : List Fld) (n : Nat) : fcells (all fs n) = fcells fs ++ fcells [(cl, Lib.itoa (n : Int))] := by simp [HtJ.all, fcells]
/-- a row of its own, written out -/
theorem own_form {w : World} {base : Nat} {v : Value} {fs : List Fld} (h : w.ownsRow base 39 2 v fs.length (fcells fs)) (hn : 0 < fs.length) :
    ∃ g cap cur, v = .slice (some ⟨g, 0, none⟩) fs.length cap ∧ base ≤ g ∧ (w.heap[g]? = some (.cells cur 39 (0, 0)) ∧ ∀ (j : Nat) u, (fcells fs)[j]? = some u → cur[j]? = some u) := by
  rcases h.2 with ⟨_, h0⟩ | ⟨g, cap, cur, hv, hb, hg, hn', hm, hcs, htk⟩
  · omega
  · refine ⟨g, cap, cur, hv, hb, hg, fun j u hj => ?_⟩
    rw [← htk] at hj
    rw [List.getElem?_take] at hj
    split at hj
    · simpa using hj
    · cases hj

theorem pre_next (st : Int) {L : List Fld} {k : Nat} {q : Fld} (h : L[k]? = some q) : top st ++ (L.take (k + 1)).flatMap lineOf = (top st ++ (L.take k).flatMap lineOf) ++ lineOf q := by
  rw [List.take_add_one, h, List.flatMap_append, List.append_assoc]
  simp
theorem pre_le (st : Int) {L : List Fld} {k : Nat} {q : Fld} (h : L[k]? = some q) : (top st ++ (L.take k).flatMap lineOf).length + (lineOf q).length ≤ (top st ++ L.flatMap lineOf).length := by
  obtain ⟨hk, rfl⟩ := List.getElem?_eq_some_iff.1 h
  have e : L = L.take k ++ (L[k] :: L.drop (k + 1)) := by rw [← List.drop_eq_getElem_cons hk, List.take_append_drop]
  have e2 : L.flatMap lineOf = (L.take k).flatMap lineOf ++ (lineOf L[k] ++ (L.drop (k + 1)).flatMap lineOf) := by
    conv => lhs; rw [e]
    rw [List.flatMap_append, List.flatMap_cons]
  rw [e2]
  simp only [List.length_append]
  omega

set_option maxHeartbeats 4000000 in
set_option maxRecDepth 100000 in
/-- Write -/
theorem write (st : Int) (fs : List Fld) (bd : List UInt8) {aF aB : Option Addr} {cF cB : Nat} (w : World) (h0 : -9223372036854775808 ≤ st) (h1 : st ≤ 9223372036854775807) (ht : Tab w)
    (hF : Fs w aF fs) (hFn : aF = none → fs.length = 0 ∧ cF = 0) (hFc : fs.length ≤ cF) (hB : Bs w aB bd cB) (hfl : fs.length ≤ 4294967296) (hbl : bd.length ≤ 140737488351232) (hwl : (wr st fs bd).length ≤ 140737488355328) :
    Calls Tryz.prog 12 #[.agg #[.int .i64 st, .slice aF fs.length cF, .slice aB bd.length cB]] w fun e w' => (∃ ar cr, e = .returned (.slice ar (wr st fs bd).length cr) ∧ Bs w' ar (wr st fs bd) cr ∧ (∀ p, ar = some p → w.heap.size ≤ p.block)) ∧ Below w.heap.size w w' := by
  obtain ⟨i0, hi, hz0, hz1, hz2⟩ := info_parts infoField
  have la := Dec.itoa_len h0 h1
  have lr := rsn_len st
  have s1 : ¬ 9223372036854775807 < 9 + (Lib.itoa st).length := by omega
  have s2 : ¬ 9223372036854775807 < 9 + (Lib.itoa st).length + 1 := by omega
  have s3 : ¬ 9223372036854775807 < 9 + (Lib.itoa st).length + 1 + (rsn st).length := by omega
  have s4 : ¬ 9223372036854775807 < 9 + (Lib.itoa st).length + 1 + (rsn st).length + 2 := by omega
  have HF := Lib.hid hF; clear hF
  have HB := Lib.hid hB; clear hB
  have HN := Lib.hid hFn; clear hFn
  have HW := Lib.hid hwl; clear hwl
  go_enter Tryz.func12, Tryz.ntmps12
  go_wp2_with fail
  have hbX : Below w.heap.size w ((w.alloc (.cells #[.int .i64 st, .slice aF fs.length cF, .slice aB bd.length cB] 42)).alloc (.cells #[.pointer none, .slice none 0 0] 58)) := ((Below.refl _ _).alloc (Nat.le_refl _) _).alloc (by simp) _
  have hSX : Sq w.heap.size ((w.alloc (.cells #[.int .i64 st, .slice aF fs.length cF, .slice aB bd.length cB] 42)).alloc (.cells #[.pointer none, .slice none 0 0] 58)) (.int .i64 st) (.slice aF fs.length cF) (.slice aB bd.length cB) := (Below.heap_alloc _ _ _ (by simp)).trans (heap_alloc_new _ _)
  have hBX : Lib.IsBuilder 58 5 (w.heap.size + 1) (w.heap.size + 1) (Lib.byteCells []) ((w.alloc (.cells #[.int .i64 st, .slice aF fs.length cF, .slice aB bd.length cB] 42)).alloc (.cells #[.pointer none, .slice none 0 0] 58)) := by
    refine .inl ⟨Nat.le_refl _, .slice none 0 0, ?_, World.ownsRow_nil _ _ _ _, by simp [Value.ownBlock]⟩
    have := heap_alloc_new (w.alloc (.cells #[.int .i64 st, .slice aF fs.length cF, .slice aB bd.length cB] 42)) (.cells #[.pointer none, .slice none 0 0] 58)
    rwa [World.size_alloc] at this
  have hzX : ((w.alloc (.cells #[.int .i64 st, .slice aF fs.length cF, .slice aB bd.length cB] 42)).alloc (.cells #[.pointer none, .slice none 0 0] 58)).heap.size = w.heap.size + 2 := by simp
  generalize (w.alloc (.cells #[.int .i64 st, .slice aF fs.length cF, .slice aB bd.length cB] 42)).alloc (.cells #[.pointer none, .slice none 0 0] 58) = X at *
  have HT : Carry X X := ⟨ht.below hbX, Below.refl _ _⟩
  obtain ⟨x0, x1, x2⟩ := hSX.cells
  go_region_held3 (fun w' => w'.cell? ⟨w.heap.size, 0, none⟩ = some (.int .i64 st))
    (first | go_keep)
    (first
      | (go_at_call 22; refine (itoaC X w.heap.size (.int .i64 st) _ _ h0 h1 ?_ ?_).mono ?_; (first | assumption | exact HT | exact HT.drew); (simp [*]); rintro e w' ⟨rfl, k0, t0⟩)
      | (go_at_call 23; refine (reasonC X w.heap.size (.int .i64 st) _ _ ?_ ?_).mono ?_; (first | assumption | exact HT | exact HT.drew); (simp [*]); rintro e w' ⟨rfl, k0, t0⟩)
      | (go_at_call 21; refine (writeC X w.heap.size (.int .i64 st) (w.heap.size + 1) [] _ _ ?_ ?_ (by omega) hBX ?_).mono ?_; (first | assumption | exact HT | exact HT.drew); (simp [*]); (simp only [ByteArray.size_append, Com.size_mk, List.length_nil, List.length_cons]; omega); rintro e W2 ⟨rfl, k1, t1, t2⟩))
  have HB2 := Lib.hid (show Lib.IsBuilder 58 5 (w.heap.size + 1) (w.heap.size + 1) (Lib.byteCells (top st)) W2 by
    rw [show top st = [] ++ ((((⟨#[72, 84, 84, 80, 47, 49, 46, 49, 32]⟩ : ByteArray) ++ ⟨(Lib.itoa st).toArray⟩ ++ ⟨#[32]⟩) ++ ⟨(rsn st).toArray⟩) ++ ⟨#[13, 10]⟩).data.toList by simp only [Com.mk_append]; rfl]
    exact t1)
  have hS2 : Sq w.heap.size W2 (.int .i64 st) (.slice aF fs.length cF) (.slice aB bd.length cB) := (t2.block w.heap.size (by omega)).trans hSX
  have hB2 : Below w.heap.size w W2 := hbX.trans (t2.mono (by omega))
  have hT2 := ht.below hB2
  have HF2 := Lib.hid (HF.out.below hB2)
  clear t1 t2 k1 x0 x1 x2 hSX hBX hbX HT s1 s2 s3 s4
  obtain ⟨x0, x1, x2⟩ := hS2.cells
  have HT : Carry W2 W2 := ⟨hT2, Below.refl _ _⟩
  go_wp2_with fail
  go_region_held3 (fun w' => w'.cell? ⟨w.heap.size, 1, none⟩ = some (.slice aF fs.length cF) ∧ w'.cell? ⟨w.heap.size, 2, none⟩ = some (.slice aB bd.length cB))
    (first | go_keep)
    (first
      | (go_at_call 22; refine (itoaD W2 w.heap.size (.slice aF fs.length cF) (.slice aB bd.length cB) _ _ ?_ ?_ ?_ ?_ ?_).mono ?_; (omega); (omega); (first | assumption | exact HT | exact HT.drew); (simp [*]); (simp [*]); rintro e w6 ⟨rfl, k6, t6⟩)
      | (refine step_append_grows rfl (.tmp 25) (.tmp 31) 25 rfl 39 i0 _ 2 32 Tryz.underlying25 hi hz0 hz1 hz2 rfl (by decide) aF fs.length fs.length (fcells fs) rfl (fun e => ⟨(HN.out e).1, (HN.out e).1⟩) (fcells_length fs) ?_ ⟨w6.heap.size, 0, none⟩ 1 1 (fcells [(cl, Lib.itoa (bd.length : Int))]) rfl rfl ?_ (fcells_one _) (by omega) (by unfold maxLen; omega) (by omega) ?_
         · (intro p hp; subst hp; exact Fs.holds (HF2.out.below (t6.below.alloc t6.below.size _)))
         · (intro j u hj; exact cells_two w6 _ _ _ j u hj)
         intro v' w7 hown hgrow
         have hb7 : Below W2.heap.size W2 w7 := (t6.below.alloc t6.below.size _).grown hgrow (by have := t6.below.size; simp; omega) (fun k hk => by cases hk)
         have y1 := (hb7.cell (p := ⟨w.heap.size, 1, none⟩) hS2.lt).trans x1
         have y2 := (hb7.cell (p := ⟨w.heap.size, 2, none⟩) hS2.lt).trans x2
         obtain ⟨g, cap, cur, rfl, hg7, hf7⟩ := own_form (fs := all fs bd.length) (by rw [all_length, all_cells]; exact hown) (by rw [all_length]; omega)))
  clear hown y1 y2 x0 x1 x2 k0 t0 HF HF2 HT
  have hgB : w.heap.size + 1 < g := by
    have e1 := t6.below.size
    have e2 := hB2.size
    have e3 : w.heap.size + 1 < W2.heap.size := by
      rcases HB2.out with h | h
      · exact h.lt
      · exact h.lt
    simp at hg7
    omega
  have hHB := Lib.hid (show Lib.IsBuilder 58 5 (w.heap.size + 1) (w.heap.size + 1) (Lib.byteCells (top st ++ ((all fs bd.length).take 0).flatMap lineOf)) w7 by
    rw [List.take_zero, List.flatMap_nil, List.append_nil]
    exact bld_below HB2.out hb7)
  have hSq := hS2.below hb7
  have hBw := hB2.trans (hb7.mono hB2.size)
  have hwz : w.heap.size + 2 ≤ w7.heap.size := by
    have e1 := hf7.1
    have := (Array.getElem?_eq_some_iff.1 e1).1
    omega
  have hLn : (all fs bd.length).length ≤ 4294967297 := by rw [all_length]; omega
  have HW2 := Lib.hid (show (top st ++ (all fs bd.length).flatMap lineOf).length + 2 + bd.length ≤ 140737488355328 by
    have := HW.out
    unfold wr at this
    simp only [List.length_append] at this ⊢
    exact this)
  have hWR := Lib.hid (show wr st fs bd = top st ++ (all fs bd.length).flatMap lineOf ++ [13, 10] ++ bd from rfl)
  clear HW hgrow hg7 hb7 t6 k6 hB2 HB2 hS2 hT2
  generalize all fs bd.length = L at *
  have hf7g := Lib.hid hf7.1
  have hf7c := Lib.hid hf7.2
  clear hf7
  go_wp2_with fail
  go_loopg [34] L.length (fun m v34 wr => ∃ k : Nat, k + m = L.length ∧ v34 = .int .i64 k ∧ Hid (Lib.IsBuilder 58 5 (w.heap.size + 1) (w.heap.size + 1) (Lib.byteCells (top st ++ (L.take k).flatMap lineOf)) wr) ∧ Hid (wr.heap[g]? = some (.cells cur 39 (0, 0))) ∧ Sq w.heap.size wr (.int .i64 st) (.slice aF fs.length cF) (.slice aB bd.length cB) ∧ Below w.heap.size w wr ∧ w.heap.size + 2 ≤ wr.heap.size)
  case atStart => exact ⟨0, by simp, rfl, hHB, hf7g, hSq, hBw, hwz⟩
  case round =>
    clear hHB hf7g hSq hBw hwz
    obtain ⟨k, hkg, rfl, hHB, hg, hSq, hBw, hwz⟩ := hrel
    have HG := Lib.hid hkg; clear hkg
    by_cases hlt : k < L.length
    · obtain ⟨q, hqk⟩ : ∃ q, L[k]? = some q := ⟨L[k], List.getElem?_eq_getElem hlt⟩
      obtain ⟨d0, d1⟩ := fcells_get hqk
      have hbound := pre_le st hqk
      have HW3 := HW2.out
      have hnext := Lib.hid (pre_next st hqk)
      obtain ⟨nm, vl⟩ := q
      have c0 : wr.cell? ⟨g, k * 2, none⟩ = some (.string ⟨nm.toArray⟩) := by rw [Lib.cell_of_heap hg.out]; simpa using hf7c.out _ _ d0
      have c1 : wr.cell? ⟨g, k * 2 + 1, none⟩ = some (.string ⟨vl.toArray⟩) := by rw [Lib.cell_of_heap hg.out]; simpa using hf7c.out _ _ d1
      have hll : (lineOf (nm, vl)).length = nm.length + 2 + vl.length + 2 := by simp [lineOf]; omega
      have HQ := Lib.hid hqk
      clear d0 d1 hqk
      have n1 : nm.length ≤ 140737488355328 := by omega
      have n2 : vl.length ≤ 140737488355328 := by omega
      have hal := (Below.refl wr.heap.size wr).alloc (Nat.le_refl _) (.cells #[.string ⟨nm.toArray⟩, .string ⟨vl.toArray⟩] 39)
      go_wp2_with (go_at_call 21; refine (writeString2 (w.heap.size + 1) (w.heap.size + 1) _ _ _ (bld_below hHB.out hal) ?_ ?_).mono ?_; (simp only [Lib.byteCells, List.length_map, ByteArray.size_append, Com.size_mk, List.length_cons, List.length_nil]; omega); (simp only [World.size_alloc]; omega); rintro e w9 ⟨rfl, z1, z2, z3⟩)
      have hHB' := Lib.hid (show Lib.IsBuilder 58 5 (w.heap.size + 1) (w.heap.size + 1) (Lib.byteCells (top st ++ (L.take (k + 1)).flatMap lineOf)) w9 by
        rw [hnext.out]
        have e : Lib.byteCells ((top st ++ (L.take k).flatMap lineOf) ++ lineOf (nm, vl)) = Lib.byteCells (top st ++ (L.take k).flatMap lineOf) ++ Lib.strCells (((⟨nm.toArray⟩ : ByteArray) ++ ⟨#[58, 32]⟩ ++ ⟨vl.toArray⟩) ++ ⟨#[13, 10]⟩) := by
          simp [Lib.byteCells, Lib.strCells, lineOf]
        rw [e]
        exact z1)
      have hg' := Lib.hid (z3 g cur 39 (0, 0) (by omega) (by decide) ((hal.block g (Array.getElem?_eq_some_iff.1 hg.out).1).trans hg.out))
      have hSq' := (z2.block w.heap.size (by omega)).trans (hSq.below hal)
      have hBw' := (hBw.alloc hBw.size (.cells #[.string ⟨nm.toArray⟩, .string ⟨vl.toArray⟩] 39)).trans (z2.mono (by omega))
      have hwz' : w.heap.size + 2 ≤ w9.heap.size := by have := z2.size; simp only [World.size_alloc] at this; omega
      clear z1 z2 z3 hal hHB hg hSq hBw c0 c1
      go_wp2_with fail
      go_roundg (L.length - (k + 1))
      case rel => exact ⟨k + 1, by omega, by go_num, hHB', hg', hSq', hBw', hwz'⟩
      case measure => have := HG.out; omega
    · have e : L.take k = L := List.take_of_length_le (by omega)
      rw [e] at hHB
      obtain ⟨x0, x1, x2⟩ := hSq.cells
      have kc := fun w s => Lib.run_convert_string_bytes (P := Tryz.prog) w 9 22 5 s Tryz.underlying9 Tryz.underlying22 Tryz.underlying5
      have hBB := hHB
      clear hHB hg hf7c
      obtain ⟨T2, hT2⟩ : ∃ T2, T2 = top st ++ L.flatMap lineOf ++ [13, 10] := ⟨_, rfl⟩
      have hcat : (⟨(top st ++ L.flatMap lineOf).toArray⟩ : ByteArray) ++ ⟨#[13, 10]⟩ = ⟨T2.toArray⟩ := by rw [hT2]; exact Com.mk_append _ [13, 10]
      have HT2l := Lib.hid (show T2.length = (top st ++ L.flatMap lineOf).length + 2 by rw [hT2, List.length_append]; rfl)
      have HT2 := Lib.hid hT2; clear hT2
      have HW3 := HW2.out
      rw [← HT2.out] at hWR
      generalize top st ++ L.flatMap lineOf = T at *
      have sT : ¬ 9223372036854775807 < T.length + 2 := by omega
      go_wp2_with fail
      go_region_law
        (first
          | (go_simp; go_at_call 24; refine (Tryz.Builder_String_any (w.heap.size + 1) (w.heap.size + 1) T _ ?_ ?_).mono ?_; (first | exact hBB.out | exact bld_below hBB.out (Below.refl _ _).drew); (first | omega | exact (show w.heap.size + 1 ≤ wr.heap.size by omega)); rintro e w9 ⟨rfl, z9⟩; have z8 : Below (w.heap.size + 1) wr w9 := (by first | exact z9 | exact ((Below.refl _ _).drew).trans z9); have e9 : w.heap.size + 2 ≤ w9.heap.size := Nat.le_trans hwz z8.size; have y2 := (z8.cell (p := ⟨w.heap.size, 2, none⟩) (Nat.lt_succ_self _)).trans x2; have y4 := (Lib.bytesWorld_old w9 5 ⟨T2.toArray⟩ ⟨w.heap.size, 2, none⟩ (show w.heap.size < w9.heap.size by omega)).trans y2; go_wp2_with fail)
          | (obtain ⟨cur9, k9, q1, q2, q3, q4, q5⟩ := conv_row w9 T2
             have hb9 := z8.trans ((Lib.bytesWorld_below w9 5 ⟨T2.toArray⟩).mono (show w.heap.size + 1 ≤ w9.heap.size by omega))
             refine step_append_bs rfl (.tmp 49) (.tmp 51) rfl (w.heap.size + 1) w9.heap.size (by omega) (by rw [Lib.bytesWorld_size]; omega) cur9 k9 q1 q2 T2 bd _ q3 q4 q5 aB cB (HB.out.below (hBw.trans (hb9.mono (Nat.le_succ _)))) (by have := HT2l.out; omega) rfl rfl ?_
             intro ar cr w10 u1 u2 u3
             have y3 := (u3.cell (p := ⟨w.heap.size, 2, none⟩) (Nat.lt_succ_self _)).trans ((hb9.cell (p := ⟨w.heap.size, 2, none⟩) (Nat.lt_succ_self _)).trans x2)))
      all_goals
        go_wp2_with fail
        go_ret
        have hl : (HtJ.wr st fs bd).length = T2.length + bd.length := by rw [hWR.out, List.length_append]
        refine ⟨⟨ar, cr, (by rw [hl]; rfl), by rw [hWR.out]; exact u1, fun p hp => by have := u2 p hp; omega⟩, ?_⟩
        exact hBw.trans ((hb9.trans u3).mono (Nat.le_succ _))
end Go.Proofs.YtnhjbcjeeilicaaGreatDoor.HtL
