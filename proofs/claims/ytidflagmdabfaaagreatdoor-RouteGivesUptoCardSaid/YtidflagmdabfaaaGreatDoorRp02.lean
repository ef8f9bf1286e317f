/-
  The walk of package bollardref21's Give. (Printed by mkref21.py.)
-/
import Derived.Test.YtidflagmdabfaaaGreatDoorRo02
import Derived.Test.YtidflagmdabfaaaGreatDoorRp01
namespace Go.Proofs.YtidflagmdabfaaaGreatDoor.RtM
open Go.RowKit Go.Proofs.YtidflagmdabfaaaGreatDoor Go.Proofs.YtidflagmdabfaaaGreatDoor.HtW Go.Proofs.YtidflagmdabfaaaGreatDoor.RtA Go.Proofs.YtidflagmdabfaaaGreatDoor.RtG Go.Proofs.YtidflagmdabfaaaGreatDoor.RtJ Go.Proofs.YtidflagmdabfaaaGreatDoor.App

/-- an answer whose fields lie in a row of their own, the body where it lies -/
def RPost (st : Int) (fs : List Fld) (body : List UInt8) (base : Nat) (w' : World) (e : Ending) : Prop := ∃ af cf ab cb, e = .returned (.agg #[.int .i64 st, .slice af fs.length cf, .slice ab body.length cb]) ∧ w'.ownsRow base 91 2 (.slice af fs.length cf) fs.length (fcells fs) ∧ Bs w' ab body cb
set_option maxHeartbeats 4000000 in
set_option maxRecDepth 100000 in
theorem give_whole (a0 a1 a2 a3 a4 a5 a6 a7 a8 a9 a10 a11 a12 a13 a14 a15 a16 a17 a18 a19 a20 a21 a22 a23 a24 a28 a29 a30 : Value) (kv : ByteArray) (et dt : List UInt8) (sz tm fr tz : Int) (pa ad : Option Addr) (pl pc cd : Nat) (w : World) (hd : Bs w ad dt cd) (_hl : dt.length ≤ 140737488350000) (t0 : 0 ≤ tm) (t1 : tm ≤ 9223372036854775807) :
    Calls Tryz.prog 26 #[.agg #[a0, a1, a2, a3, a4, a5, a6, a7, a8, a9, a10, a11, a12, a13, a14, a15, a16, a17, a18, a19, a20, a21, a22, a23, a24, .int .i64 fr, .int .i64 tz, .bool false, a28, a29, a30], .agg #[.string kv, .int .i64 sz, .string ⟨et.toArray⟩, .int .i64 tm, .slice pa pl pc], .slice ad dt.length cd] w fun e w' => RPost 200 (ofs et tm) dt w.heap.size w' e ∧ Below w.heap.size w w' := by
  obtain ⟨w3, hw3, hb3, hz3, hQ3, hO3, hR3⟩ : ∃ w3 : World, w3 = (((w.alloc (.cells #[a0, a1, a2, a3, a4, a5, a6, a7, a8, a9, a10, a11, a12, a13, a14, a15, a16, a17, a18, a19, a20, a21, a22, a23, a24, .int .i64 fr, .int .i64 tz, .bool false, a28, a29, a30] 37)).alloc (.cells #[.string kv, .int .i64 sz, .string ⟨et.toArray⟩, .int .i64 tm, .slice pa pl pc] 54)).alloc (.cells #[.int .i64 0, .slice none 0 0, .slice none 0 0] 56)) ∧ Below w.heap.size w w3 ∧ w3.heap.size = w.heap.size + 3 ∧ w3.heap[w.heap.size]? = some (.cells #[a0, a1, a2, a3, a4, a5, a6, a7, a8, a9, a10, a11, a12, a13, a14, a15, a16, a17, a18, a19, a20, a21, a22, a23, a24, .int .i64 fr, .int .i64 tz, .bool false, a28, a29, a30] 37 (0, 0)) ∧ Ob (w.heap.size + 1) w3 (.string kv) (.int .i64 sz) (.string ⟨et.toArray⟩) (.int .i64 tm) (.slice pa pl pc) ∧ Rb (w.heap.size + 1 + 1) w3 (.int .i64 0) (.slice none 0 0) (.slice none 0 0) := by
    refine ⟨_, rfl, (((Below.refl _ _).alloc (Nat.le_refl _) _).alloc (by simp) _).alloc (by simp; omega) _, by simp, (Below.heap_alloc _ _ _ (by simp; omega)).trans ((Below.heap_alloc _ _ _ (by simp)).trans (heap_alloc_new _ _)), (Below.heap_alloc _ _ _ (by simp)).trans (heap_at1 _ _), ?_⟩
    have := heap_alloc_new ((w.alloc (.cells #[a0, a1, a2, a3, a4, a5, a6, a7, a8, a9, a10, a11, a12, a13, a14, a15, a16, a17, a18, a19, a20, a21, a22, a23, a24, .int .i64 fr, .int .i64 tz, .bool false, a28, a29, a30] 37)).alloc (.cells #[.string kv, .int .i64 sz, .string ⟨et.toArray⟩, .int .i64 tm, .slice pa pl pc] 54)) (.cells #[.int .i64 0, .slice none 0 0, .slice none 0 0] 56)
    rwa [World.size_alloc, World.size_alloc] at this
  have HD := Lib.hid (hd.below hb3)
  have HDw := Lib.hid hd
  clear hd
  have q25 : w3.cell? ⟨w.heap.size, 25, none⟩ = some (.int .i64 fr) := by rw [Lib.cell_of_heap hQ3]; rfl
  have q26 : w3.cell? ⟨w.heap.size, 26, none⟩ = some (.int .i64 tz) := by rw [Lib.cell_of_heap hQ3]; rfl
  have q27 : w3.cell? ⟨w.heap.size, 27, none⟩ = some (.bool false) := by rw [Lib.cell_of_heap hQ3]; rfl
  clear hQ3
  obtain ⟨o0, o1, o2, o3, o4⟩ := hO3.cells
  have HB3 := Lib.hid hb3
  have HR3 := Lib.hid hR3
  clear hO3 hb3 hR3
  have KF := Lib.hid (RtL.fields kv kv kv sz tm et pa pl pc w3 t0 t1)
  go_enter Tryz.func26, Tryz.ntmps26
  go_upto_region 1 with fail
  rw [← hw3]
  clear hw3
  go_wp2_with (first
    | (go_at_call 57; refine KF.out.mono ?_; rintro e w4 ⟨af, rfl, hof, hb4⟩; have hR5 := HR3.out.below hb4; obtain ⟨r0, r1, r2, f0, f1, f2⟩ := hR5.cells))
  have hb5 := below_st3 (HB3.out.trans (hb4.mono (by omega))) (show w.heap.size ≤ w.heap.size + 1 + 1 by omega) (.int .i64 200) (.slice af 2 2) (.slice ad dt.length cd)
  refine bodyPost_ret (Rb.run 6 (hR5.put _ _ _) rfl rfl) rfl ⟨⟨_, _, _, _, rfl, ?_, HDw.out.below hb5⟩, hb5⟩
  exact own_down (own_st3 hof (by omega) _ _ _) (by omega)
set_option maxHeartbeats 40000000 in
set_option maxRecDepth 100000 in
theorem give_range (a0 a1 a2 a3 a4 a5 a6 a7 a8 a9 a10 a11 a12 a13 a14 a15 a16 a17 a18 a19 a20 a21 a22 a23 a24 a28 a29 a30 : Value) (kv : ByteArray) (et dt : List UInt8) (sz tm tz : Int) (pa ad : Option Addr) (pl pc cd : Nat) (w : World) (hd : Bs w ad dt cd) (hl : dt.length ≤ 140737488350000) (t0 : 0 ≤ tm) (t1 : tm ≤ 9223372036854775807) (s0 : 0 ≤ sz) (s1 : sz ≤ 9223372036854775807) (f L : Nat) (hf : f < dt.length) (hfL : f ≤ L) (hL : (tz < 0 ∧ L = dt.length - 1) ∨ (tz = (L : Int) ∧ L < dt.length) ∨ ((dt.length : Int) ≤ tz ∧ L = dt.length - 1)) :
    Calls Tryz.prog 26 #[.agg #[a0, a1, a2, a3, a4, a5, a6, a7, a8, a9, a10, a11, a12, a13, a14, a15, a16, a17, a18, a19, a20, a21, a22, a23, a24, .int .i64 (f : Int), .int .i64 tz, .bool true, a28, a29, a30], .agg #[.string kv, .int .i64 sz, .string ⟨et.toArray⟩, .int .i64 tm, .slice pa pl pc], .slice ad dt.length cd] w fun e w' => RPost 206 (ofs et tm ++ [(nRange, span f L sz)]) ((dt.drop f).take (L + 1 - f)) w.heap.size w' e ∧ Below w.heap.size w w' := by
  obtain ⟨w3, hw3, hb3, hz3, hQ3, hO3, hR3⟩ : ∃ w3 : World, w3 = (((w.alloc (.cells #[a0, a1, a2, a3, a4, a5, a6, a7, a8, a9, a10, a11, a12, a13, a14, a15, a16, a17, a18, a19, a20, a21, a22, a23, a24, .int .i64 (f : Int), .int .i64 tz, .bool true, a28, a29, a30] 37)).alloc (.cells #[.string kv, .int .i64 sz, .string ⟨et.toArray⟩, .int .i64 tm, .slice pa pl pc] 54)).alloc (.cells #[.int .i64 0, .slice none 0 0, .slice none 0 0] 56)) ∧ Below w.heap.size w w3 ∧ w3.heap.size = w.heap.size + 3 ∧ w3.heap[w.heap.size]? = some (.cells #[a0, a1, a2, a3, a4, a5, a6, a7, a8, a9, a10, a11, a12, a13, a14, a15, a16, a17, a18, a19, a20, a21, a22, a23, a24, .int .i64 (f : Int), .int .i64 tz, .bool true, a28, a29, a30] 37 (0, 0)) ∧ Ob (w.heap.size + 1) w3 (.string kv) (.int .i64 sz) (.string ⟨et.toArray⟩) (.int .i64 tm) (.slice pa pl pc) ∧ Rb (w.heap.size + 1 + 1) w3 (.int .i64 0) (.slice none 0 0) (.slice none 0 0) := by
    refine ⟨_, rfl, (((Below.refl _ _).alloc (Nat.le_refl _) _).alloc (by simp) _).alloc (by simp; omega) _, by simp, (Below.heap_alloc _ _ _ (by simp; omega)).trans ((Below.heap_alloc _ _ _ (by simp)).trans (heap_alloc_new _ _)), (Below.heap_alloc _ _ _ (by simp)).trans (heap_at1 _ _), ?_⟩
    have := heap_alloc_new ((w.alloc (.cells #[a0, a1, a2, a3, a4, a5, a6, a7, a8, a9, a10, a11, a12, a13, a14, a15, a16, a17, a18, a19, a20, a21, a22, a23, a24, .int .i64 (f : Int), .int .i64 tz, .bool true, a28, a29, a30] 37)).alloc (.cells #[.string kv, .int .i64 sz, .string ⟨et.toArray⟩, .int .i64 tm, .slice pa pl pc] 54)) (.cells #[.int .i64 0, .slice none 0 0, .slice none 0 0] 56)
    rwa [World.size_alloc, World.size_alloc] at this
  have HD := Lib.hid (hd.below hb3)
  have HDw := Lib.hid hd
  clear hd
  have q25 : w3.cell? ⟨w.heap.size, 25, none⟩ = some (.int .i64 (f : Int)) := by rw [Lib.cell_of_heap hQ3]; rfl
  have q26 : w3.cell? ⟨w.heap.size, 26, none⟩ = some (.int .i64 tz) := by rw [Lib.cell_of_heap hQ3]; rfl
  have q27 : w3.cell? ⟨w.heap.size, 27, none⟩ = some (.bool true) := by rw [Lib.cell_of_heap hQ3]; rfl
  clear hQ3
  obtain ⟨o0, o1, o2, o3, o4⟩ := hO3.cells
  have HB3 := Lib.hid hb3
  have HR3 := Lib.hid hR3
  clear hO3 hb3 hR3
  have hwl : IntKind.i64.wrap ((dt.length : Int) - 1) = (dt.length : Int) - 1 := IntWalk.i64_in _ ⟨by omega, by omega⟩
  go_enter Tryz.func26, Tryz.ntmps26
  go_upto_region 1 with fail
  rw [← hw3]
  clear hw3
  have e1 : (tz < 0 ∧ (dt.length : Int) - 1 = (L : Int)) ∨ (tz = (L : Int) ∧ (L : Int) = (L : Int)) ∨ ((dt.length : Int) ≤ tz ∧ (dt.length : Int) - 1 = (L : Int)) := by omega
  have hL1 : L + 1 ≤ dt.length := by omega
  have l1 := Dec.itoa_len (n := (f : Int)) (by omega) (by omega)
  have l2 := Dec.itoa_len (n := (L : Int)) (by omega) (by omega)
  have l3 := Dec.itoa_len (n := sz) (by omega) s1
  obtain ⟨Pf, hPf⟩ : ∃ P, P = Lib.itoa (f : Int) := ⟨_, rfl⟩
  obtain ⟨Pl, hPl⟩ : ∃ P, P = Lib.itoa (L : Int) := ⟨_, rfl⟩
  obtain ⟨Ps, hPs⟩ : ∃ P, P = Lib.itoa sz := ⟨_, rfl⟩
  rw [← hPf] at l1
  rw [← hPl] at l2
  rw [← hPs] at l3
  have KI := Lib.hid (show ∀ (z : Int) (P : List UInt8), P = Lib.itoa z → 0 ≤ z → z ≤ 9223372036854775807 → ∀ W, ((W.cell? ⟨w.heap.size, 25, none⟩ = some (.int .i64 (f : Int)) ∧ W.cell? ⟨w.heap.size + 1, 1, none⟩ = some (.int .i64 sz)) ∧ Below w3.heap.size w3 W) → Calls Tryz.prog 58 #[.int .i64 z] W fun e w' => e = .returned (.string ⟨P.toArray⟩) ∧ ((w'.cell? ⟨w.heap.size, 25, none⟩ = some (.int .i64 (f : Int)) ∧ w'.cell? ⟨w.heap.size + 1, 1, none⟩ = some (.int .i64 sz)) ∧ Below w3.heap.size w3 w') from fun z P hP z0 z1 W hW => (RtL.dec z z0 z1 W).mono fun e w' ⟨h1, h2⟩ =>
    ⟨by rw [hP]; exact h1, ⟨(h2.cell (World.block_lt_of_cell? _ _ hW.1.1)).trans hW.1.1, (h2.cell (World.block_lt_of_cell? _ _ hW.1.2)).trans hW.1.2⟩, hW.2.trans (h2.mono hW.2.size)⟩)
  have K1 := Lib.hid (KI.out (f : Int) Pf hPf (by omega) (by omega))
  have K2 := Lib.hid (KI.out (L : Int) Pl hPl (by omega) (by omega))
  have K3 := Lib.hid (KI.out sz Ps hPs s0 s1)
  have HPF := Lib.hid hPf
  have HPL := Lib.hid hPl
  have HPS := Lib.hid hPs
  clear KI hPf hPl hPs
  have g1 : ¬ 9223372036854775807 < 6 + Pf.length := by omega
  have g2 : ¬ 9223372036854775807 < 6 + Pf.length + 1 := by omega
  have g3 : ¬ 9223372036854775807 < 6 + Pf.length + 1 + Pl.length := by omega
  have g4 : ¬ 9223372036854775807 < 6 + Pf.length + 1 + Pl.length + 1 := by omega
  have g5 : ¬ 9223372036854775807 < 6 + Pf.length + 1 + Pl.length + 1 + Ps.length := by omega
  rcases e1 with ⟨h1, e1⟩ | ⟨h1, e1⟩ | ⟨h1, e1⟩
  · go_upto_region 6 with fail
    try rw [e1]
    clear e1 h1 hL hwl
    go_region_held3 (fun W => (W.cell? ⟨w.heap.size, 25, none⟩ = some (.int .i64 (f : Int)) ∧ W.cell? ⟨w.heap.size + 1, 1, none⟩ = some (.int .i64 sz)) ∧ Below w3.heap.size w3 W)
      (first | exact ⟨⟨q25, o1⟩, (Below.refl _ _).drew⟩ | assumption | go_keep)
      (first
        | (go_at_call 58; have hd3 := hd2; refine (K3.out _ (by assumption)).mono ?_; rintro e w6 ⟨rfl, hS6⟩)
        | (go_at_call 58; have hd2 := hd1; refine (K2.out _ (by assumption)).mono ?_; rintro e w5 ⟨rfl, hS5⟩)
        | (go_at_call 58; refine (K1.out _ (by assumption)).mono ?_; rintro e w4 ⟨rfl, hS4⟩; have hd1 := True.intro))
    have hsp : (((((ByteArray.mk #[98, 121, 116, 101, 115, 32]) ++ ByteArray.mk Pf.toArray) ++ ByteArray.mk #[45]) ++ ByteArray.mk Pl.toArray) ++ ByteArray.mk #[47]) ++ ByteArray.mk Ps.toArray = ⟨(span (f : Int) (L : Int) sz).toArray⟩ := by
      unfold span
      rw [← HPF.out, ← HPL.out, ← HPS.out, show (ByteArray.mk #[98, 121, 116, 101, 115, 32]) = ⟨[98, 121, 116, 101, 115, 32].toArray⟩ from rfl, show (ByteArray.mk #[45]) = ⟨[45].toArray⟩ from rfl, show (ByteArray.mk #[47]) = ⟨[47].toArray⟩ from rfl, Com.mk_append, Com.mk_append, Com.mk_append, Com.mk_append, Com.mk_append]
    rw [hsp]
    obtain ⟨SP, hSP⟩ : ∃ SP, SP = span (f : Int) (L : Int) sz := ⟨_, rfl⟩
    have HSP := Lib.hid hSP
    rw [← hSP]
    clear hsp hSP g1 g2 g3 g4 g5 l1 l2 l3 K1 K2 K3 HPF HPL HPS hd1 hd2 hd3
    have hB36 := hS6.2
    have HR6 := HR3.out.below hB36
    have y0 := (hB36.cell (p := ⟨w.heap.size + 1, 0, none⟩) (World.block_lt_of_cell? _ _ o0)).trans o0
    have y1 := (hB36.cell (p := ⟨w.heap.size + 1, 1, none⟩) (World.block_lt_of_cell? _ _ o1)).trans o1
    have y2 := (hB36.cell (p := ⟨w.heap.size + 1, 2, none⟩) (World.block_lt_of_cell? _ _ o2)).trans o2
    have y3 := (hB36.cell (p := ⟨w.heap.size + 1, 3, none⟩) (World.block_lt_of_cell? _ _ o3)).trans o3
    have y4 := (hB36.cell (p := ⟨w.heap.size + 1, 4, none⟩) (World.block_lt_of_cell? _ _ o4)).trans o4
    have y5 := (hB36.cell (p := ⟨w.heap.size, 25, none⟩) (World.block_lt_of_cell? _ _ q25)).trans q25
    have hB6 := HB3.out.trans (hB36.mono (by omega))
    have hz6 : w.heap.size + 3 ≤ w6.heap.size := by have := hB36.size; omega
    have s7 : S7 w w6.heap.size (.string kv) (.int .i64 sz) (.string ⟨et.toArray⟩) (.int .i64 tm) (.slice pa pl pc) (.int .i64 (f : Int)) w6.drew := ⟨⟨⟨y0, y1, y2⟩, y3, y4, y5⟩, hB6.drew, Nat.le_refl _, _, _, _, HR6⟩
    have HS6 := Lib.hid s7
    have HZ6 := Lib.hid hz6
    clear hS4 hS5 hS6 hB36 q25 q26 q27 o0 o1 o2 o3 o4 HD HR3 HB3 hz3 s7 hz6 hB6 HR6 y0 y1 y2 y3 y4 y5
    obtain ⟨b, o, rfl, hbo⟩ : ∃ b o, ad = some ⟨b, o, none⟩ ∧ b < w.heap.size := by
      rcases HDw.out.2.2 with h | ⟨b, o, h1, h2, _⟩
      · rw [h] at hf; simp at hf
      · exact ⟨b, o, h1, h2⟩
    have hcd := HDw.out.1
    obtain ⟨o', ho', hsl⟩ := Slc.cut_mid (P := Tryz.prog) (t := 23) Tryz.underlying23 (s := 1) (fun W => by kernel_rfl) b o dt.length cd f (L + 1 - f) (f : Int) ((L : Int) + 1) rfl (by omega) (by omega)
    have ho1 : o' = o + f := by rw [ho' (by omega), Nat.mul_one]
    subst ho1
    have HP := Lib.hid (HDw.out.part f (L + 1 - f) (by omega) (cd - f) (by omega))
    have hpl : ((dt.drop f).take (L + 1 - f)).length = L + 1 - f := by rw [List.length_take, List.length_drop]; omega
    have hwL : IntKind.i64.wrap ((L : Int) + 1) = (L : Int) + 1 := IntWalk.i64_in _ ⟨by omega, by omega⟩
    have HLP := Lib.hid (show ((dt.drop f).take (L + 1 - f)).length ≤ 140737488355328 by omega)
    have HPL := Lib.hid hpl
    obtain ⟨PT, hPT⟩ : ∃ PT, PT = (dt.drop f).take (L + 1 - f) := ⟨_, rfl⟩
    rw [← hPT] at HP HLP HPL
    have HPT := Lib.hid hPT
    clear hPT hpl
    have KF := Lib.hid (show ∀ W, S7 w w6.heap.size (.string kv) (.int .i64 sz) (.string ⟨et.toArray⟩) (.int .i64 tm) (.slice pa pl pc) (.int .i64 (f : Int)) W → Calls Tryz.prog 57 #[.agg #[.string kv, .int .i64 sz, .string ⟨et.toArray⟩, .int .i64 tm, .slice pa pl pc]] W fun e w' => ∃ a, e = .returned (.slice a 2 2) ∧ w'.ownsRow w6.heap.size 91 2 (.slice a 2 2) 2 (fcells (ofs et tm)) ∧ Below W.heap.size W w' ∧ S7 w w6.heap.size (.string kv) (.int .i64 sz) (.string ⟨et.toArray⟩) (.int .i64 tm) (.slice pa pl pc) (.int .i64 (f : Int)) w' from
      fun W hW => (RtL.fields kv kv kv sz tm et pa pl pc W t0 t1).mono fun e w' ⟨a, h1, h2, h3⟩ => ⟨a, h1, own_down h2 hW.2.2.1, h3, S7.below hW HZ6.out hW.2.2.1 h3⟩)
    go_upto_region 7 with fail
    go_region_held3 (fun W => ((W.cell? ⟨w.heap.size + 1, 0, none⟩ = some (.string kv) ∧ W.cell? ⟨w.heap.size + 1, 1, none⟩ = some (.int .i64 sz) ∧ W.cell? ⟨w.heap.size + 1, 2, none⟩ = some (.string ⟨et.toArray⟩)) ∧ W.cell? ⟨w.heap.size + 1, 3, none⟩ = some (.int .i64 tm) ∧ W.cell? ⟨w.heap.size + 1, 4, none⟩ = some (.slice pa pl pc) ∧ W.cell? ⟨w.heap.size, 25, none⟩ = some (.int .i64 (f : Int))) ∧ Sx w w6.heap.size W)
      (first | exact HS6.out | assumption | exact S7.st (by assumption) _ _ _ | exact S7.below (by assumption) HZ6.out (Nat.le_refl _) (alloc_b _ _ (show S7 _ _ _ _ _ _ _ _ _ by assumption)))
      (first
        | (go_at_call 57; refine (KF.out _ (by assumption)).mono ?_; rintro e w7 ⟨a7, rfl, ho7, hb7, hS7⟩)
        | (refine step_append_flds rfl (.tmp 43) (.tmp 46) rfl w6.heap.size _ (ofs et tm) [(nRange, SP)] (ho7.alloc _) (some ⟨w7.heap.size, 0, none⟩) 1 (one_fs w7 nRange SP) (fun h => by cases h) (by have := hS7.2.2.1; simp; omega) (show 3 ≤ 4294967300 by decide) rfl rfl ?_; intro ar cr w8 ho8 hb8; have hS8 := S7.below (show S7 _ _ _ _ _ _ _ _ _ by assumption) HZ6.out (Nat.le_refl _) hb8; have hS9 := hS8; obtain ⟨x9, x8, x7, hR9⟩ := hS9.2.2.2; obtain ⟨r0, r1, r2, f0, f1, f2⟩ := hR9.cells)
        | (refine step_append_flds rfl (.tmp 43) (.tmp 46) rfl w6.heap.size _ (ofs et tm) [(nRange, SP)] ho7 (some ⟨w6.heap.size, 0, none⟩) 1 ((one_fs w6.drew nRange SP).below hb7) (fun h => by cases h) (hS7.2.2.1) (show 3 ≤ 4294967300 by decide) rfl rfl ?_; intro ar cr w8 ho8 hb8; have hS8 := S7.below hS7 HZ6.out (Nat.le_refl _) hb8; have hS9 := hS8; obtain ⟨x9, x8, x7, hR9⟩ := hS9.2.2.2; obtain ⟨r0, r1, r2, f0, f1, f2⟩ := hR9.cells))
    all_goals
      go_wp2_with fail
      refine bodyPost_ret (Rb.run 6 (hR9.put _ _ _) rfl rfl) rfl ⟨⟨_, _, _, _, (by rw [← HPT.out, ← HSP.out, HPL.out]; rfl), ?_, ?_⟩, ?_⟩
      · rw [← HSP.out]
        exact own_down (own_st3 ho8 (by have := HZ6.out; omega) _ _ _) (by have := HZ6.out; omega)
      · rw [← HPT.out]
        exact HP.out.below (S7.st hS9 _ _ _).2.1
      · exact (S7.st hS9 _ _ _).2.1
  · subst h1
    have h2 : ¬ (L : Int) < 0 := by omega
    have h3 : ¬ (dt.length : Int) ≤ (L : Int) := by omega
    go_upto_region 6 with fail
    clear e1 hL hwl h2 h3
    go_region_held3 (fun W => (W.cell? ⟨w.heap.size, 25, none⟩ = some (.int .i64 (f : Int)) ∧ W.cell? ⟨w.heap.size + 1, 1, none⟩ = some (.int .i64 sz)) ∧ Below w3.heap.size w3 W)
      (first | exact ⟨⟨q25, o1⟩, (Below.refl _ _).drew⟩ | assumption | go_keep)
      (first
        | (go_at_call 58; have hd3 := hd2; refine (K3.out _ (by assumption)).mono ?_; rintro e w6 ⟨rfl, hS6⟩)
        | (go_at_call 58; have hd2 := hd1; refine (K2.out _ (by assumption)).mono ?_; rintro e w5 ⟨rfl, hS5⟩)
        | (go_at_call 58; refine (K1.out _ (by assumption)).mono ?_; rintro e w4 ⟨rfl, hS4⟩; have hd1 := True.intro))
    have hsp : (((((ByteArray.mk #[98, 121, 116, 101, 115, 32]) ++ ByteArray.mk Pf.toArray) ++ ByteArray.mk #[45]) ++ ByteArray.mk Pl.toArray) ++ ByteArray.mk #[47]) ++ ByteArray.mk Ps.toArray = ⟨(span (f : Int) (L : Int) sz).toArray⟩ := by
      unfold span
      rw [← HPF.out, ← HPL.out, ← HPS.out, show (ByteArray.mk #[98, 121, 116, 101, 115, 32]) = ⟨[98, 121, 116, 101, 115, 32].toArray⟩ from rfl, show (ByteArray.mk #[45]) = ⟨[45].toArray⟩ from rfl, show (ByteArray.mk #[47]) = ⟨[47].toArray⟩ from rfl, Com.mk_append, Com.mk_append, Com.mk_append, Com.mk_append, Com.mk_append]
    rw [hsp]
    obtain ⟨SP, hSP⟩ : ∃ SP, SP = span (f : Int) (L : Int) sz := ⟨_, rfl⟩
    have HSP := Lib.hid hSP
    rw [← hSP]
    clear hsp hSP g1 g2 g3 g4 g5 l1 l2 l3 K1 K2 K3 HPF HPL HPS hd1 hd2 hd3
    have hB36 := hS6.2
    have HR6 := HR3.out.below hB36
    have y0 := (hB36.cell (p := ⟨w.heap.size + 1, 0, none⟩) (World.block_lt_of_cell? _ _ o0)).trans o0
    have y1 := (hB36.cell (p := ⟨w.heap.size + 1, 1, none⟩) (World.block_lt_of_cell? _ _ o1)).trans o1
    have y2 := (hB36.cell (p := ⟨w.heap.size + 1, 2, none⟩) (World.block_lt_of_cell? _ _ o2)).trans o2
    have y3 := (hB36.cell (p := ⟨w.heap.size + 1, 3, none⟩) (World.block_lt_of_cell? _ _ o3)).trans o3
    have y4 := (hB36.cell (p := ⟨w.heap.size + 1, 4, none⟩) (World.block_lt_of_cell? _ _ o4)).trans o4
    have y5 := (hB36.cell (p := ⟨w.heap.size, 25, none⟩) (World.block_lt_of_cell? _ _ q25)).trans q25
    have hB6 := HB3.out.trans (hB36.mono (by omega))
    have hz6 : w.heap.size + 3 ≤ w6.heap.size := by have := hB36.size; omega
    have s7 : S7 w w6.heap.size (.string kv) (.int .i64 sz) (.string ⟨et.toArray⟩) (.int .i64 tm) (.slice pa pl pc) (.int .i64 (f : Int)) w6.drew := ⟨⟨⟨y0, y1, y2⟩, y3, y4, y5⟩, hB6.drew, Nat.le_refl _, _, _, _, HR6⟩
    have HS6 := Lib.hid s7
    have HZ6 := Lib.hid hz6
    clear hS4 hS5 hS6 hB36 q25 q26 q27 o0 o1 o2 o3 o4 HD HR3 HB3 hz3 s7 hz6 hB6 HR6 y0 y1 y2 y3 y4 y5
    obtain ⟨b, o, rfl, hbo⟩ : ∃ b o, ad = some ⟨b, o, none⟩ ∧ b < w.heap.size := by
      rcases HDw.out.2.2 with h | ⟨b, o, h1, h2, _⟩
      · rw [h] at hf; simp at hf
      · exact ⟨b, o, h1, h2⟩
    have hcd := HDw.out.1
    obtain ⟨o', ho', hsl⟩ := Slc.cut_mid (P := Tryz.prog) (t := 23) Tryz.underlying23 (s := 1) (fun W => by kernel_rfl) b o dt.length cd f (L + 1 - f) (f : Int) ((L : Int) + 1) rfl (by omega) (by omega)
    have ho1 : o' = o + f := by rw [ho' (by omega), Nat.mul_one]
    subst ho1
    have HP := Lib.hid (HDw.out.part f (L + 1 - f) (by omega) (cd - f) (by omega))
    have hpl : ((dt.drop f).take (L + 1 - f)).length = L + 1 - f := by rw [List.length_take, List.length_drop]; omega
    have hwL : IntKind.i64.wrap ((L : Int) + 1) = (L : Int) + 1 := IntWalk.i64_in _ ⟨by omega, by omega⟩
    have HLP := Lib.hid (show ((dt.drop f).take (L + 1 - f)).length ≤ 140737488355328 by omega)
    have HPL := Lib.hid hpl
    obtain ⟨PT, hPT⟩ : ∃ PT, PT = (dt.drop f).take (L + 1 - f) := ⟨_, rfl⟩
    rw [← hPT] at HP HLP HPL
    have HPT := Lib.hid hPT
    clear hPT hpl
    have KF := Lib.hid (show ∀ W, S7 w w6.heap.size (.string kv) (.int .i64 sz) (.string ⟨et.toArray⟩) (.int .i64 tm) (.slice pa pl pc) (.int .i64 (f : Int)) W → Calls Tryz.prog 57 #[.agg #[.string kv, .int .i64 sz, .string ⟨et.toArray⟩, .int .i64 tm, .slice pa pl pc]] W fun e w' => ∃ a, e = .returned (.slice a 2 2) ∧ w'.ownsRow w6.heap.size 91 2 (.slice a 2 2) 2 (fcells (ofs et tm)) ∧ Below W.heap.size W w' ∧ S7 w w6.heap.size (.string kv) (.int .i64 sz) (.string ⟨et.toArray⟩) (.int .i64 tm) (.slice pa pl pc) (.int .i64 (f : Int)) w' from
      fun W hW => (RtL.fields kv kv kv sz tm et pa pl pc W t0 t1).mono fun e w' ⟨a, h1, h2, h3⟩ => ⟨a, h1, own_down h2 hW.2.2.1, h3, S7.below hW HZ6.out hW.2.2.1 h3⟩)
    go_upto_region 7 with fail
    go_region_held3 (fun W => ((W.cell? ⟨w.heap.size + 1, 0, none⟩ = some (.string kv) ∧ W.cell? ⟨w.heap.size + 1, 1, none⟩ = some (.int .i64 sz) ∧ W.cell? ⟨w.heap.size + 1, 2, none⟩ = some (.string ⟨et.toArray⟩)) ∧ W.cell? ⟨w.heap.size + 1, 3, none⟩ = some (.int .i64 tm) ∧ W.cell? ⟨w.heap.size + 1, 4, none⟩ = some (.slice pa pl pc) ∧ W.cell? ⟨w.heap.size, 25, none⟩ = some (.int .i64 (f : Int))) ∧ Sx w w6.heap.size W)
      (first | exact HS6.out | assumption | exact S7.st (by assumption) _ _ _ | exact S7.below (by assumption) HZ6.out (Nat.le_refl _) (alloc_b _ _ (show S7 _ _ _ _ _ _ _ _ _ by assumption)))
      (first
        | (go_at_call 57; refine (KF.out _ (by assumption)).mono ?_; rintro e w7 ⟨a7, rfl, ho7, hb7, hS7⟩)
        | (refine step_append_flds rfl (.tmp 43) (.tmp 46) rfl w6.heap.size _ (ofs et tm) [(nRange, SP)] (ho7.alloc _) (some ⟨w7.heap.size, 0, none⟩) 1 (one_fs w7 nRange SP) (fun h => by cases h) (by have := hS7.2.2.1; simp; omega) (show 3 ≤ 4294967300 by decide) rfl rfl ?_; intro ar cr w8 ho8 hb8; have hS8 := S7.below (show S7 _ _ _ _ _ _ _ _ _ by assumption) HZ6.out (Nat.le_refl _) hb8; have hS9 := hS8; obtain ⟨x9, x8, x7, hR9⟩ := hS9.2.2.2; obtain ⟨r0, r1, r2, f0, f1, f2⟩ := hR9.cells)
        | (refine step_append_flds rfl (.tmp 43) (.tmp 46) rfl w6.heap.size _ (ofs et tm) [(nRange, SP)] ho7 (some ⟨w6.heap.size, 0, none⟩) 1 ((one_fs w6.drew nRange SP).below hb7) (fun h => by cases h) (hS7.2.2.1) (show 3 ≤ 4294967300 by decide) rfl rfl ?_; intro ar cr w8 ho8 hb8; have hS8 := S7.below hS7 HZ6.out (Nat.le_refl _) hb8; have hS9 := hS8; obtain ⟨x9, x8, x7, hR9⟩ := hS9.2.2.2; obtain ⟨r0, r1, r2, f0, f1, f2⟩ := hR9.cells))
    all_goals
      go_wp2_with fail
      refine bodyPost_ret (Rb.run 6 (hR9.put _ _ _) rfl rfl) rfl ⟨⟨_, _, _, _, (by rw [← HPT.out, ← HSP.out, HPL.out]; rfl), ?_, ?_⟩, ?_⟩
      · rw [← HSP.out]
        exact own_down (own_st3 ho8 (by have := HZ6.out; omega) _ _ _) (by have := HZ6.out; omega)
      · rw [← HPT.out]
        exact HP.out.below (S7.st hS9 _ _ _).2.1
      · exact (S7.st hS9 _ _ _).2.1
  · have h2 : ¬ tz < 0 := by omega
    go_upto_region 6 with fail
    try rw [e1]
    clear e1 h1 h2 hL hwl
    go_region_held3 (fun W => (W.cell? ⟨w.heap.size, 25, none⟩ = some (.int .i64 (f : Int)) ∧ W.cell? ⟨w.heap.size + 1, 1, none⟩ = some (.int .i64 sz)) ∧ Below w3.heap.size w3 W)
      (first | exact ⟨⟨q25, o1⟩, (Below.refl _ _).drew⟩ | assumption | go_keep)
      (first
        | (go_at_call 58; have hd3 := hd2; refine (K3.out _ (by assumption)).mono ?_; rintro e w6 ⟨rfl, hS6⟩)
        | (go_at_call 58; have hd2 := hd1; refine (K2.out _ (by assumption)).mono ?_; rintro e w5 ⟨rfl, hS5⟩)
        | (go_at_call 58; refine (K1.out _ (by assumption)).mono ?_; rintro e w4 ⟨rfl, hS4⟩; have hd1 := True.intro))
    have hsp : (((((ByteArray.mk #[98, 121, 116, 101, 115, 32]) ++ ByteArray.mk Pf.toArray) ++ ByteArray.mk #[45]) ++ ByteArray.mk Pl.toArray) ++ ByteArray.mk #[47]) ++ ByteArray.mk Ps.toArray = ⟨(span (f : Int) (L : Int) sz).toArray⟩ := by
      unfold span
      rw [← HPF.out, ← HPL.out, ← HPS.out, show (ByteArray.mk #[98, 121, 116, 101, 115, 32]) = ⟨[98, 121, 116, 101, 115, 32].toArray⟩ from rfl, show (ByteArray.mk #[45]) = ⟨[45].toArray⟩ from rfl, show (ByteArray.mk #[47]) = ⟨[47].toArray⟩ from rfl, Com.mk_append, Com.mk_append, Com.mk_append, Com.mk_append, Com.mk_append]
    rw [hsp]
    obtain ⟨SP, hSP⟩ : ∃ SP, SP = span (f : Int) (L : Int) sz := ⟨_, rfl⟩
    have HSP := Lib.hid hSP
    rw [← hSP]
    clear hsp hSP g1 g2 g3 g4 g5 l1 l2 l3 K1 K2 K3 HPF HPL HPS hd1 hd2 hd3
    have hB36 := hS6.2
    have HR6 := HR3.out.below hB36
    have y0 := (hB36.cell (p := ⟨w.heap.size + 1, 0, none⟩) (World.block_lt_of_cell? _ _ o0)).trans o0
    have y1 := (hB36.cell (p := ⟨w.heap.size + 1, 1, none⟩) (World.block_lt_of_cell? _ _ o1)).trans o1
    have y2 := (hB36.cell (p := ⟨w.heap.size + 1, 2, none⟩) (World.block_lt_of_cell? _ _ o2)).trans o2
    have y3 := (hB36.cell (p := ⟨w.heap.size + 1, 3, none⟩) (World.block_lt_of_cell? _ _ o3)).trans o3
    have y4 := (hB36.cell (p := ⟨w.heap.size + 1, 4, none⟩) (World.block_lt_of_cell? _ _ o4)).trans o4
    have y5 := (hB36.cell (p := ⟨w.heap.size, 25, none⟩) (World.block_lt_of_cell? _ _ q25)).trans q25
    have hB6 := HB3.out.trans (hB36.mono (by omega))
    have hz6 : w.heap.size + 3 ≤ w6.heap.size := by have := hB36.size; omega
    have s7 : S7 w w6.heap.size (.string kv) (.int .i64 sz) (.string ⟨et.toArray⟩) (.int .i64 tm) (.slice pa pl pc) (.int .i64 (f : Int)) w6.drew := ⟨⟨⟨y0, y1, y2⟩, y3, y4, y5⟩, hB6.drew, Nat.le_refl _, _, _, _, HR6⟩
    have HS6 := Lib.hid s7
    have HZ6 := Lib.hid hz6
    clear hS4 hS5 hS6 hB36 q25 q26 q27 o0 o1 o2 o3 o4 HD HR3 HB3 hz3 s7 hz6 hB6 HR6 y0 y1 y2 y3 y4 y5
    obtain ⟨b, o, rfl, hbo⟩ : ∃ b o, ad = some ⟨b, o, none⟩ ∧ b < w.heap.size := by
      rcases HDw.out.2.2 with h | ⟨b, o, h1, h2, _⟩
      · rw [h] at hf; simp at hf
      · exact ⟨b, o, h1, h2⟩
    have hcd := HDw.out.1
    obtain ⟨o', ho', hsl⟩ := Slc.cut_mid (P := Tryz.prog) (t := 23) Tryz.underlying23 (s := 1) (fun W => by kernel_rfl) b o dt.length cd f (L + 1 - f) (f : Int) ((L : Int) + 1) rfl (by omega) (by omega)
    have ho1 : o' = o + f := by rw [ho' (by omega), Nat.mul_one]
    subst ho1
    have HP := Lib.hid (HDw.out.part f (L + 1 - f) (by omega) (cd - f) (by omega))
    have hpl : ((dt.drop f).take (L + 1 - f)).length = L + 1 - f := by rw [List.length_take, List.length_drop]; omega
    have hwL : IntKind.i64.wrap ((L : Int) + 1) = (L : Int) + 1 := IntWalk.i64_in _ ⟨by omega, by omega⟩
    have HLP := Lib.hid (show ((dt.drop f).take (L + 1 - f)).length ≤ 140737488355328 by omega)
    have HPL := Lib.hid hpl
    obtain ⟨PT, hPT⟩ : ∃ PT, PT = (dt.drop f).take (L + 1 - f) := ⟨_, rfl⟩
    rw [← hPT] at HP HLP HPL
    have HPT := Lib.hid hPT
    clear hPT hpl
    have KF := Lib.hid (show ∀ W, S7 w w6.heap.size (.string kv) (.int .i64 sz) (.string ⟨et.toArray⟩) (.int .i64 tm) (.slice pa pl pc) (.int .i64 (f : Int)) W → Calls Tryz.prog 57 #[.agg #[.string kv, .int .i64 sz, .string ⟨et.toArray⟩, .int .i64 tm, .slice pa pl pc]] W fun e w' => ∃ a, e = .returned (.slice a 2 2) ∧ w'.ownsRow w6.heap.size 91 2 (.slice a 2 2) 2 (fcells (ofs et tm)) ∧ Below W.heap.size W w' ∧ S7 w w6.heap.size (.string kv) (.int .i64 sz) (.string ⟨et.toArray⟩) (.int .i64 tm) (.slice pa pl pc) (.int .i64 (f : Int)) w' from
      fun W hW => (RtL.fields kv kv kv sz tm et pa pl pc W t0 t1).mono fun e w' ⟨a, h1, h2, h3⟩ => ⟨a, h1, own_down h2 hW.2.2.1, h3, S7.below hW HZ6.out hW.2.2.1 h3⟩)
    go_upto_region 7 with fail
    go_region_held3 (fun W => ((W.cell? ⟨w.heap.size + 1, 0, none⟩ = some (.string kv) ∧ W.cell? ⟨w.heap.size + 1, 1, none⟩ = some (.int .i64 sz) ∧ W.cell? ⟨w.heap.size + 1, 2, none⟩ = some (.string ⟨et.toArray⟩)) ∧ W.cell? ⟨w.heap.size + 1, 3, none⟩ = some (.int .i64 tm) ∧ W.cell? ⟨w.heap.size + 1, 4, none⟩ = some (.slice pa pl pc) ∧ W.cell? ⟨w.heap.size, 25, none⟩ = some (.int .i64 (f : Int))) ∧ Sx w w6.heap.size W)
      (first | exact HS6.out | assumption | exact S7.st (by assumption) _ _ _ | exact S7.below (by assumption) HZ6.out (Nat.le_refl _) (alloc_b _ _ (show S7 _ _ _ _ _ _ _ _ _ by assumption)))
      (first
        | (go_at_call 57; refine (KF.out _ (by assumption)).mono ?_; rintro e w7 ⟨a7, rfl, ho7, hb7, hS7⟩)
        | (refine step_append_flds rfl (.tmp 43) (.tmp 46) rfl w6.heap.size _ (ofs et tm) [(nRange, SP)] (ho7.alloc _) (some ⟨w7.heap.size, 0, none⟩) 1 (one_fs w7 nRange SP) (fun h => by cases h) (by have := hS7.2.2.1; simp; omega) (show 3 ≤ 4294967300 by decide) rfl rfl ?_; intro ar cr w8 ho8 hb8; have hS8 := S7.below (show S7 _ _ _ _ _ _ _ _ _ by assumption) HZ6.out (Nat.le_refl _) hb8; have hS9 := hS8; obtain ⟨x9, x8, x7, hR9⟩ := hS9.2.2.2; obtain ⟨r0, r1, r2, f0, f1, f2⟩ := hR9.cells)
        | (refine step_append_flds rfl (.tmp 43) (.tmp 46) rfl w6.heap.size _ (ofs et tm) [(nRange, SP)] ho7 (some ⟨w6.heap.size, 0, none⟩) 1 ((one_fs w6.drew nRange SP).below hb7) (fun h => by cases h) (hS7.2.2.1) (show 3 ≤ 4294967300 by decide) rfl rfl ?_; intro ar cr w8 ho8 hb8; have hS8 := S7.below hS7 HZ6.out (Nat.le_refl _) hb8; have hS9 := hS8; obtain ⟨x9, x8, x7, hR9⟩ := hS9.2.2.2; obtain ⟨r0, r1, r2, f0, f1, f2⟩ := hR9.cells))
    all_goals
      go_wp2_with fail
      refine bodyPost_ret (Rb.run 6 (hR9.put _ _ _) rfl rfl) rfl ⟨⟨_, _, _, _, (by rw [← HPT.out, ← HSP.out, HPL.out]; rfl), ?_, ?_⟩, ?_⟩
      · rw [← HSP.out]
        exact own_down (own_st3 ho8 (by have := HZ6.out; omega) _ _ _) (by have := HZ6.out; omega)
      · rw [← HPT.out]
        exact HP.out.below (S7.st hS9 _ _ _).2.1
      · exact (S7.st hS9 _ _ _).2.1
end Go.Proofs.YtidflagmdabfaaaGreatDoor.RtM
