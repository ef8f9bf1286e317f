/-
  The walk of package route's Give. (Printed by mkgive.py.) The walks of package command's all, GoodBucket, GoodKey.
-/
import Derived.Test.YtidflagmdabfaaaGreatDoorSg01
import Derived.Test.YtidflagmdabfaaaGreatDoorSg04
import Derived.Test.YtidflagmdabfaaaGreatDoorSg05
import Derived.Test.YtidflagmdabfaaaGreatDoorSg09
import Derived.Test.YtidflagmdabfaaaGreatDoorSg16
import Derived.Test.YtidflagmdabfaaaGreatDoorRo01
import Derived.IntWalk
import Derived.WalkKit
import Derived.Below
import Derived.BigQuiet
import Derived.Deep.RegionHeld3
import Derived.Deep.LoopGhost
import Derived.Lib.Hide
namespace Go.Proofs.YtidflagmdabfaaaGreatDoor.RtJ
open Go.RowKit Go.Proofs.YtidflagmdabfaaaGreatDoor Go.Proofs.YtidflagmdabfaaaGreatDoor.HtW Go.Proofs.YtidflagmdabfaaaGreatDoor.RtA Go.Proofs.YtidflagmdabfaaaGreatDoor.Itoa Go.Proofs.YtidflagmdabfaaaGreatDoor.RtG Go.Proofs.YtidflagmdabfaaaGreatDoor.App

abbrev Fld := List UInt8 × List UInt8
/-- an answer whose fields and body lie in rows of their own -/
def GPost (st : Int) (fs : List Fld) (body : List UInt8) (base : Nat) (w' : World) (e : Ending) : Prop := ∃ af cf ab cb, e = .returned (.agg #[.int .i64 st, .slice af fs.length cf, .slice ab body.length cb]) ∧ w'.ownsRow base 91 2 (.slice af fs.length cf) fs.length (fcells fs) ∧ w'.ownsRow base 5 1 (.slice ab body.length cb) body.length (Lib.byteCells body)
theorem own_st3 {w : World} {base : Nat} {e : TypeId} {s n B : Nat} {v : Value} {xs : List Value} (h : w.ownsRow base e s v n xs) (hB : B < base) (x y z : Value) : (st3 w B x y z).ownsRow base e s v n xs :=
  SgQ.own_set (SgQ.own_set (SgQ.own_set h (p := ⟨B, 0, none⟩) hB x) (p := ⟨B, 1, none⟩) hB y) (p := ⟨B, 2, none⟩) hB z
theorem heap_at1 (w : World) (o : Obj) {o' : Obj} : ((w.alloc o').alloc o).heap[w.heap.size + 1]? = some o := by
  have := heap_alloc_new (w.alloc o') o
  rwa [World.size_alloc] at this

set_option maxHeartbeats 4000000 in
set_option maxRecDepth 100000 in
theorem give_whole (a0 a1 a2 a3 a4 a5 a6 a7 a8 a9 a10 a11 a12 a13 a14 a15 a16 a17 a18 a19 a20 a21 a22 a23 a24 a28 a29 a30 : Value) (kv : ByteArray) (et dt : List UInt8) (sz tm fr tz : Int) (pa ad : Option Addr) (pl pc cd : Nat) (w : World) (hT : Tab w) (hd : Bs w ad dt cd) (hl : dt.length ≤ 140737488350000) (t0 : -9223372036854775808 ≤ tm) (t1 : tm ≤ 9223372036854775807) :
    Calls Tryz.prog 24 #[.agg #[a0, a1, a2, a3, a4, a5, a6, a7, a8, a9, a10, a11, a12, a13, a14, a15, a16, a17, a18, a19, a20, a21, a22, a23, a24, .int .i64 fr, .int .i64 tz, .bool false, a28, a29, a30], .agg #[.string kv, .int .i64 sz, .string ⟨et.toArray⟩, .int .i64 tm, .slice pa pl pc], .slice ad dt.length cd] w fun e w' => GPost 200 (ofs et tm) dt w.heap.size w' e ∧ Below w.heap.size w w' := by
  obtain ⟨w3, hw3, hb3, hz3, hQ3, hO3, hR3⟩ : ∃ w3 : World, w3 = (((w.alloc (.cells #[a0, a1, a2, a3, a4, a5, a6, a7, a8, a9, a10, a11, a12, a13, a14, a15, a16, a17, a18, a19, a20, a21, a22, a23, a24, .int .i64 fr, .int .i64 tz, .bool false, a28, a29, a30] 37)).alloc (.cells #[.string kv, .int .i64 sz, .string ⟨et.toArray⟩, .int .i64 tm, .slice pa pl pc] 54)).alloc (.cells #[.int .i64 0, .slice none 0 0, .slice none 0 0] 56)) ∧ Below w.heap.size w w3 ∧ w3.heap.size = w.heap.size + 3 ∧ w3.heap[w.heap.size]? = some (.cells #[a0, a1, a2, a3, a4, a5, a6, a7, a8, a9, a10, a11, a12, a13, a14, a15, a16, a17, a18, a19, a20, a21, a22, a23, a24, .int .i64 fr, .int .i64 tz, .bool false, a28, a29, a30] 37 (0, 0)) ∧ Ob (w.heap.size + 1) w3 (.string kv) (.int .i64 sz) (.string ⟨et.toArray⟩) (.int .i64 tm) (.slice pa pl pc) ∧ Rb (w.heap.size + 1 + 1) w3 (.int .i64 0) (.slice none 0 0) (.slice none 0 0) := by
    refine ⟨_, rfl, (((Below.refl _ _).alloc (Nat.le_refl _) _).alloc (by simp) _).alloc (by simp; omega) _, by simp, (Below.heap_alloc _ _ _ (by simp; omega)).trans ((Below.heap_alloc _ _ _ (by simp)).trans (heap_alloc_new _ _)), (Below.heap_alloc _ _ _ (by simp)).trans (heap_at1 _ _), ?_⟩
    have := heap_alloc_new ((w.alloc (.cells #[a0, a1, a2, a3, a4, a5, a6, a7, a8, a9, a10, a11, a12, a13, a14, a15, a16, a17, a18, a19, a20, a21, a22, a23, a24, .int .i64 fr, .int .i64 tz, .bool false, a28, a29, a30] 37)).alloc (.cells #[.string kv, .int .i64 sz, .string ⟨et.toArray⟩, .int .i64 tm, .slice pa pl pc] 54)) (.cells #[.int .i64 0, .slice none 0 0, .slice none 0 0] 56)
    rwa [World.size_alloc, World.size_alloc] at this
  have HT := Lib.hid (hT.below hb3)
  have HD := Lib.hid (hd.below hb3)
  have HTw := Lib.hid hT
  have HDw := Lib.hid hd
  clear hT hd
  have q25 : w3.cell? ⟨w.heap.size, 25, none⟩ = some (.int .i64 fr) := by rw [Lib.cell_of_heap hQ3]; rfl
  have q26 : w3.cell? ⟨w.heap.size, 26, none⟩ = some (.int .i64 tz) := by rw [Lib.cell_of_heap hQ3]; rfl
  have q27 : w3.cell? ⟨w.heap.size, 27, none⟩ = some (.bool false) := by rw [Lib.cell_of_heap hQ3]; rfl
  clear hQ3
  obtain ⟨o0, o1, o2, o3, o4⟩ := hO3.cells
  have HB3 := Lib.hid hb3
  have HR3 := Lib.hid hR3
  clear hO3 hb3 hR3
  have KF := Lib.hid (fields kv kv kv sz tm et pa pl pc w3 HT.out t0 t1)
  go_enter Tryz.func24, Tryz.ntmps24
  go_upto_region 1 with fail
  rw [← hw3]
  clear hw3
  go_wp2_with (first
    | (go_at_call 55; refine KF.out.mono ?_; rintro e w4 ⟨af, rfl, hof, hb4⟩; have hD4 := HD.out.below hb4)
    | (at_builtin; refine append_more w4 rfl (.const (.slice none 0 0)) (.tmp 14) rfl w4.heap.size [] dt (World.ownsRow_nil _ _ _ _) ad cd hD4 (Nat.le_refl _) (by simp; omega) rfl rfl ?_; intro ar cr w5 n5 hn5 ho5 hb5; rw [List.nil_append] at hn5 ho5; subst hn5; have hR5 := (HR3.out.below hb4).below hb5; obtain ⟨r0, r1, r2, f0, f1, f2⟩ := hR5.cells))
  have hz4 := hb4.size
  refine bodyPost_ret (Rb.run 6 (hR5.put _ _ _) rfl rfl) rfl ⟨⟨_, _, _, _, rfl, ?_, ?_⟩, ?_⟩
  · exact own_down (own_st3 (Com.own_below hof hb5) (by omega) _ _ _) (by omega)
  · exact own_down (own_st3 ho5 (by omega) _ _ _) (by omega)
  · exact below_st3 ((HB3.out.trans (hb4.mono (by omega))).trans (hb5.mono (by omega))) (by omega) _ _ _

theorem one_fs (w : World) (n v : List UInt8) : Fs (w.alloc (.cells #[.string ⟨n.toArray⟩, .string ⟨v.toArray⟩] 91)) (some ⟨w.heap.size, 0, none⟩) [(n, v)] := by
  refine .inr ⟨w.heap.size, 0, rfl, by simp, fun j p hj => ?_⟩
  match j, hj with
  | 0, hj =>
    simp only [List.getElem?_cons_zero, Option.some.injEq] at hj
    subst hj
    exact ⟨by rw [Lib.cell_of_heap (heap_alloc_new _ _)]; rfl, by rw [Lib.cell_of_heap (heap_alloc_new _ _)]; rfl⟩
theorem step_append_flds {ops : Array Oper} {o : Oper} {a : Act} {w : World} {K : Act → World → Prop} {Q : Exit → Act → World → Prop} {E : Prop} (hg : o.guard = none) (s x : Operand) (hop : o.op = Op.call { callee := Callee.builtin Builtin.append, args := #[s, x], argTypes := #[22, 22] })
    (base : Nat) (v : Value) (l r : List Fld) (hown : w.ownsRow base 91 2 v l.length (fcells l)) (aR : Option Addr) (cR : Nat) (hF : Fs w aR r) (hn : aR = none → r.length = 0 ∧ cR = 0) (hbase : base ≤ w.heap.size) (hlen : l.length + r.length ≤ 4294967300)
    (hs : a.eval s = v) (hx : a.eval x = .slice aR r.length cR)
    (hK : ∀ ar cr w', w'.ownsRow base 91 2 (.slice ar (l.length + r.length) cr) (l ++ r).length (fcells (l ++ r)) → Below base w w' → K (a.put o.dst (.slice ar (l.length + r.length) cr)) w') :
    if Region.wanted o (yielded ops a.tmps) = true then Oper.wp Tryz.prog o a w K Q else E := by
  have hw : Region.wanted o (yielded ops a.tmps) = true := by simp [Region.wanted, hg]
  rw [if_pos hw]
  obtain ⟨ar, cr, w', hrun, h1, _, h3⟩ := SgQ.run_append_flds w base v l r hown aR cR hF hn hbase hlen o.type
  unfold Oper.wp
  simp [execOp, hop, resolve, invoke, builtin, hs, hx, hrun, Result.andThen]
  exact hK ar cr w' h1 h3
/-- the world while route.Give's last statement runs -/
def Sx (w : World) (M : Nat) (W : World) : Prop := Below w.heap.size w W ∧ M ≤ W.heap.size ∧ ∃ x y z, Rb (w.heap.size + 1 + 1) W x y z
abbrev S7 (w : World) (M : Nat) (kv sz et tm ps fv : Value) (W : World) : Prop :=
  ((W.cell? ⟨w.heap.size + 1, 0, none⟩ = some kv ∧ W.cell? ⟨w.heap.size + 1, 1, none⟩ = some sz ∧ W.cell? ⟨w.heap.size + 1, 2, none⟩ = some et) ∧ W.cell? ⟨w.heap.size + 1, 3, none⟩ = some tm ∧ W.cell? ⟨w.heap.size + 1, 4, none⟩ = some ps ∧ W.cell? ⟨w.heap.size, 25, none⟩ = some fv) ∧ Sx w M W
theorem S7.below {w : World} {M : Nat} {kv sz et tm ps fv : Value} {W W' : World} (h : S7 w M kv sz et tm ps fv W) (hM : w.heap.size + 3 ≤ M) {c : Nat} (hc : M ≤ c) (hb : Below c W W') : S7 w M kv sz et tm ps fv W' := by
  obtain ⟨⟨⟨h0, h1, h2⟩, h3, h4, h5⟩, h6, h7, x, y, z, h8⟩ := h
  exact ⟨⟨⟨(hb.cell (show w.heap.size + 1 < c by omega)).trans h0, (hb.cell (show w.heap.size + 1 < c by omega)).trans h1, (hb.cell (show w.heap.size + 1 < c by omega)).trans h2⟩, (hb.cell (show w.heap.size + 1 < c by omega)).trans h3, (hb.cell (show w.heap.size + 1 < c by omega)).trans h4, (hb.cell (show w.heap.size < c by omega)).trans h5⟩, h6.trans (hb.mono (by omega)), Nat.le_trans h7 hb.size, x, y, z, (hb.block (w.heap.size + 1 + 1) (by omega)).trans h8⟩
theorem S7.st {w : World} {M : Nat} {kv sz et tm ps fv : Value} {W : World} (h : S7 w M kv sz et tm ps fv W) (a b c : Value) : S7 w M kv sz et tm ps fv (st3 W (w.heap.size + 1 + 1) a b c) := by
  obtain ⟨⟨⟨h0, h1, h2⟩, h3, h4, h5⟩, h6, h7, x, y, z, h8⟩ := h
  have hb := below_st3 (Below.refl (w.heap.size + 1 + 1) W) (Nat.le_refl _) a b c
  exact ⟨⟨⟨(hb.cell (show w.heap.size + 1 < _ by omega)).trans h0, (hb.cell (show w.heap.size + 1 < _ by omega)).trans h1, (hb.cell (show w.heap.size + 1 < _ by omega)).trans h2⟩, (hb.cell (show w.heap.size + 1 < _ by omega)).trans h3, (hb.cell (show w.heap.size + 1 < _ by omega)).trans h4, (hb.cell (show w.heap.size < _ by omega)).trans h5⟩, h6.trans (hb.mono (by omega)), Nat.le_trans h7 hb.size, _, _, _, Rb.put h8 a b c⟩
theorem alloc_b {w : World} {M : Nat} {kv sz et tm ps fv : Value} (W : World) (ob : Obj) (h : S7 w M kv sz et tm ps fv W) : Below M W (W.alloc ob) := (Below.refl M W).alloc h.2.2.1 ob
/-- a range's words -/
def span (f l sz : Int) : List UInt8 := [98, 121, 116, 101, 115, 32] ++ Lib.itoa f ++ [45] ++ Lib.itoa l ++ [47] ++ Lib.itoa sz
set_option maxHeartbeats 4000000 in
set_option maxRecDepth 100000 in
theorem give_range (a0 a1 a2 a3 a4 a5 a6 a7 a8 a9 a10 a11 a12 a13 a14 a15 a16 a17 a18 a19 a20 a21 a22 a23 a24 a28 a29 a30 : Value) (kv : ByteArray) (et dt : List UInt8) (sz tm tz : Int) (pa ad : Option Addr) (pl pc cd : Nat) (w : World) (hT : Tab w) (hd : Bs w ad dt cd) (hl : dt.length ≤ 140737488350000) (t0 : -9223372036854775808 ≤ tm) (t1 : tm ≤ 9223372036854775807) (s0 : -9223372036854775808 ≤ sz) (s1 : sz ≤ 9223372036854775807) (f L : Nat) (hf : f < dt.length) (hfL : f ≤ L) (hL : (tz < 0 ∧ L = dt.length - 1) ∨ (0 ≤ tz ∧ tz < dt.length - 1 ∧ L = tz.toNat) ∨ (dt.length - 1 ≤ tz ∧ L = dt.length - 1)) :
    Calls Tryz.prog 24 #[.agg #[a0, a1, a2, a3, a4, a5, a6, a7, a8, a9, a10, a11, a12, a13, a14, a15, a16, a17, a18, a19, a20, a21, a22, a23, a24, .int .i64 (f : Int), .int .i64 tz, .bool true, a28, a29, a30], .agg #[.string kv, .int .i64 sz, .string ⟨et.toArray⟩, .int .i64 tm, .slice pa pl pc], .slice ad dt.length cd] w fun e w' => GPost 206 (ofs et tm ++ [(nRange, span f L sz)]) ((dt.drop f).take (L + 1 - f)) w.heap.size w' e ∧ Below w.heap.size w w' := by
  obtain ⟨w3, hw3, hb3, hz3, hQ3, hO3, hR3⟩ : ∃ w3 : World, w3 = (((w.alloc (.cells #[a0, a1, a2, a3, a4, a5, a6, a7, a8, a9, a10, a11, a12, a13, a14, a15, a16, a17, a18, a19, a20, a21, a22, a23, a24, .int .i64 (f : Int), .int .i64 tz, .bool true, a28, a29, a30] 37)).alloc (.cells #[.string kv, .int .i64 sz, .string ⟨et.toArray⟩, .int .i64 tm, .slice pa pl pc] 54)).alloc (.cells #[.int .i64 0, .slice none 0 0, .slice none 0 0] 56)) ∧ Below w.heap.size w w3 ∧ w3.heap.size = w.heap.size + 3 ∧ w3.heap[w.heap.size]? = some (.cells #[a0, a1, a2, a3, a4, a5, a6, a7, a8, a9, a10, a11, a12, a13, a14, a15, a16, a17, a18, a19, a20, a21, a22, a23, a24, .int .i64 (f : Int), .int .i64 tz, .bool true, a28, a29, a30] 37 (0, 0)) ∧ Ob (w.heap.size + 1) w3 (.string kv) (.int .i64 sz) (.string ⟨et.toArray⟩) (.int .i64 tm) (.slice pa pl pc) ∧ Rb (w.heap.size + 1 + 1) w3 (.int .i64 0) (.slice none 0 0) (.slice none 0 0) := by
    refine ⟨_, rfl, (((Below.refl _ _).alloc (Nat.le_refl _) _).alloc (by simp) _).alloc (by simp; omega) _, by simp, (Below.heap_alloc _ _ _ (by simp; omega)).trans ((Below.heap_alloc _ _ _ (by simp)).trans (heap_alloc_new _ _)), (Below.heap_alloc _ _ _ (by simp)).trans (heap_at1 _ _), ?_⟩
    have := heap_alloc_new ((w.alloc (.cells #[a0, a1, a2, a3, a4, a5, a6, a7, a8, a9, a10, a11, a12, a13, a14, a15, a16, a17, a18, a19, a20, a21, a22, a23, a24, .int .i64 (f : Int), .int .i64 tz, .bool true, a28, a29, a30] 37)).alloc (.cells #[.string kv, .int .i64 sz, .string ⟨et.toArray⟩, .int .i64 tm, .slice pa pl pc] 54)) (.cells #[.int .i64 0, .slice none 0 0, .slice none 0 0] 56)
    rwa [World.size_alloc, World.size_alloc] at this
  have HT := Lib.hid (hT.below hb3)
  have HD := Lib.hid (hd.below hb3)
  have HTw := Lib.hid hT
  have HDw := Lib.hid hd
  clear hT hd
  have q25 : w3.cell? ⟨w.heap.size, 25, none⟩ = some (.int .i64 (f : Int)) := by rw [Lib.cell_of_heap hQ3]; rfl
  have q26 : w3.cell? ⟨w.heap.size, 26, none⟩ = some (.int .i64 tz) := by rw [Lib.cell_of_heap hQ3]; rfl
  have q27 : w3.cell? ⟨w.heap.size, 27, none⟩ = some (.bool true) := by rw [Lib.cell_of_heap hQ3]; rfl
  clear hQ3
  obtain ⟨o0, o1, o2, o3, o4⟩ := hO3.cells
  have HB3 := Lib.hid hb3
  have HR3 := Lib.hid hR3
  clear hO3 hb3 hR3
  have hwl : IntKind.i64.wrap ((dt.length : Int) - 1) = (dt.length : Int) - 1 := IntWalk.i64_in _ ⟨by omega, by omega⟩
  go_enter Tryz.func24, Tryz.ntmps24
  go_upto_region 1 with fail
  rw [← hw3]
  clear hw3
  have e1 : (tz < 0 ∧ (dt.length : Int) - 1 = (L : Int)) ∨ (0 ≤ tz ∧ min ((dt.length : Int) - 1) tz = (L : Int)) := by omega
  have hL1 : L + 1 ≤ dt.length := by omega
  have l1 := Dec.itoa_len (n := (f : Int)) (by omega) (by omega)
  have l2 := Dec.itoa_len (n := (L : Int)) (by omega) (by omega)
  have l3 := Dec.itoa_len s0 s1
  obtain ⟨Pf, hPf⟩ : ∃ P, P = Lib.itoa (f : Int) := ⟨_, rfl⟩
  obtain ⟨Pl, hPl⟩ : ∃ P, P = Lib.itoa (L : Int) := ⟨_, rfl⟩
  obtain ⟨Ps, hPs⟩ : ∃ P, P = Lib.itoa sz := ⟨_, rfl⟩
  rw [← hPf] at l1
  rw [← hPl] at l2
  rw [← hPs] at l3
  have KI := Lib.hid (show ∀ (z : Int) (P : List UInt8), P = Lib.itoa z → -9223372036854775808 ≤ z → z ≤ 9223372036854775807 → ∀ W, ((W.cell? ⟨w.heap.size, 25, none⟩ = some (.int .i64 (f : Int)) ∧ W.cell? ⟨w.heap.size + 1, 1, none⟩ = some (.int .i64 sz)) ∧ Below w3.heap.size w3 W) → Calls Tryz.prog 56 #[.int .i64 z] W fun e w' => e = .returned (.string ⟨P.toArray⟩) ∧ ((w'.cell? ⟨w.heap.size, 25, none⟩ = some (.int .i64 (f : Int)) ∧ w'.cell? ⟨w.heap.size + 1, 1, none⟩ = some (.int .i64 sz)) ∧ Below w3.heap.size w3 w') from fun z P hP z0 z1 W hW => (itoa z z0 z1 W (HT.out.below hW.2)).mono fun e w' ⟨h1, h2⟩ =>
    ⟨by rw [hP]; exact h1, ⟨(h2.cell (World.block_lt_of_cell? _ _ hW.1.1)).trans hW.1.1, (h2.cell (World.block_lt_of_cell? _ _ hW.1.2)).trans hW.1.2⟩, hW.2.trans (h2.mono hW.2.size)⟩)
  have K1 := Lib.hid (KI.out (f : Int) Pf hPf (by omega) (by omega))
  have K2 := Lib.hid (KI.out (L : Int) Pl hPl (by omega) (by omega))
  have K3 := Lib.hid (KI.out sz Ps hPs s0 s1)
  have HPF := Lib.hid hPf
  have HPL := Lib.hid hPl
  have HPS := Lib.hid hPs
  clear KI hPf hPl hPs
  have g1 : ¬ 9223372036854775807 < 6 + Pf.length := by omega
  have g2 : ¬ 9223372036854775807 < 6 + Pf.length + 1 := by omega
  have g3 : ¬ 9223372036854775807 < 6 + Pf.length + 1 + Pl.length := by omega
  have g4 : ¬ 9223372036854775807 < 6 + Pf.length + 1 + Pl.length + 1 := by omega
  have g5 : ¬ 9223372036854775807 < 6 + Pf.length + 1 + Pl.length + 1 + Ps.length := by omega
  rcases e1 with ⟨h1, e1⟩ | ⟨h1, e1⟩
  · go_upto_region 6 with fail
    try rw [e1]
    clear e1 h1 hL hwl
    go_region_held3 (fun W => (W.cell? ⟨w.heap.size, 25, none⟩ = some (.int .i64 (f : Int)) ∧ W.cell? ⟨w.heap.size + 1, 1, none⟩ = some (.int .i64 sz)) ∧ Below w3.heap.size w3 W)
      (first | exact ⟨⟨q25, o1⟩, (Below.refl _ _).drew⟩ | assumption | go_keep)
      (first
        | (go_at_call 56; have hd3 := hd2; refine (K3.out _ (by assumption)).mono ?_; rintro e w6 ⟨rfl, hS6⟩)
        | (go_at_call 56; have hd2 := hd1; refine (K2.out _ (by assumption)).mono ?_; rintro e w5 ⟨rfl, hS5⟩)
        | (go_at_call 56; refine (K1.out _ (by assumption)).mono ?_; rintro e w4 ⟨rfl, hS4⟩; have hd1 := True.intro))
    have hsp : (((((ByteArray.mk #[98, 121, 116, 101, 115, 32]) ++ ByteArray.mk Pf.toArray) ++ ByteArray.mk #[45]) ++ ByteArray.mk Pl.toArray) ++ ByteArray.mk #[47]) ++ ByteArray.mk Ps.toArray = ⟨(span (f : Int) (L : Int) sz).toArray⟩ := by
      unfold span
      rw [← HPF.out, ← HPL.out, ← HPS.out, show (ByteArray.mk #[98, 121, 116, 101, 115, 32]) = ⟨[98, 121, 116, 101, 115, 32].toArray⟩ from rfl, show (ByteArray.mk #[45]) = ⟨[45].toArray⟩ from rfl, show (ByteArray.mk #[47]) = ⟨[47].toArray⟩ from rfl, Com.mk_append, Com.mk_append, Com.mk_append, Com.mk_append, Com.mk_append]
    rw [hsp]
    obtain ⟨SP, hSP⟩ : ∃ SP, SP = span (f : Int) (L : Int) sz := ⟨_, rfl⟩
    have HSP := Lib.hid hSP
    rw [← hSP]
    clear hsp hSP g1 g2 g3 g4 g5 l1 l2 l3 K1 K2 K3 HPF HPL HPS hd1 hd2 hd3
    have hB36 := hS6.2
    have HR6 := HR3.out.below hB36
    have y0 := (hB36.cell (p := ⟨w.heap.size + 1, 0, none⟩) (World.block_lt_of_cell? _ _ o0)).trans o0
    have y1 := (hB36.cell (p := ⟨w.heap.size + 1, 1, none⟩) (World.block_lt_of_cell? _ _ o1)).trans o1
    have y2 := (hB36.cell (p := ⟨w.heap.size + 1, 2, none⟩) (World.block_lt_of_cell? _ _ o2)).trans o2
    have y3 := (hB36.cell (p := ⟨w.heap.size + 1, 3, none⟩) (World.block_lt_of_cell? _ _ o3)).trans o3
    have y4 := (hB36.cell (p := ⟨w.heap.size + 1, 4, none⟩) (World.block_lt_of_cell? _ _ o4)).trans o4
    have y5 := (hB36.cell (p := ⟨w.heap.size, 25, none⟩) (World.block_lt_of_cell? _ _ q25)).trans q25
    have hB6 := HB3.out.trans (hB36.mono (by omega))
    have hz6 : w.heap.size + 3 ≤ w6.heap.size := by have := hB36.size; omega
    have s7 : S7 w w6.heap.size (.string kv) (.int .i64 sz) (.string ⟨et.toArray⟩) (.int .i64 tm) (.slice pa pl pc) (.int .i64 (f : Int)) w6.drew := ⟨⟨⟨y0, y1, y2⟩, y3, y4, y5⟩, hB6.drew, Nat.le_refl _, _, _, _, HR6⟩
    have HS6 := Lib.hid s7
    have HZ6 := Lib.hid hz6
    clear hS4 hS5 hS6 hB36 q25 q26 q27 o0 o1 o2 o3 o4 HT HD HR3 HB3 hz3 s7 hz6 hB6 HR6 y0 y1 y2 y3 y4 y5
    obtain ⟨b, o, rfl, hbo⟩ : ∃ b o, ad = some ⟨b, o, none⟩ ∧ b < w.heap.size := by
      rcases HDw.out.2.2 with h | ⟨b, o, h1, h2, _⟩
      · rw [h] at hf; simp at hf
      · exact ⟨b, o, h1, h2⟩
    have hcd := HDw.out.1
    obtain ⟨o', ho', hsl⟩ := Slc.cut_mid (P := Tryz.prog) (t := 23) Tryz.underlying23 (s := 1) (fun W => by kernel_rfl) b o dt.length cd f (L + 1 - f) (f : Int) ((L : Int) + 1) rfl (by omega) (by omega)
    have ho1 : o' = o + f := by rw [ho' (by omega), Nat.mul_one]
    subst ho1
    have HP := Lib.hid (HDw.out.part f (L + 1 - f) (by omega) (cd - f) (by omega))
    have hpl : ((dt.drop f).take (L + 1 - f)).length = L + 1 - f := by rw [List.length_take, List.length_drop]; omega
    have hwL : IntKind.i64.wrap ((L : Int) + 1) = (L : Int) + 1 := IntWalk.i64_in _ ⟨by omega, by omega⟩
    have HLP := Lib.hid (show ((dt.drop f).take (L + 1 - f)).length ≤ 140737488355328 by omega)
    have HPL := Lib.hid hpl
    obtain ⟨PT, hPT⟩ : ∃ PT, PT = (dt.drop f).take (L + 1 - f) := ⟨_, rfl⟩
    rw [← hPT] at HP HLP HPL
    have HPT := Lib.hid hPT
    clear hPT hpl
    have KF := Lib.hid (show ∀ W, S7 w w6.heap.size (.string kv) (.int .i64 sz) (.string ⟨et.toArray⟩) (.int .i64 tm) (.slice pa pl pc) (.int .i64 (f : Int)) W → Calls Tryz.prog 55 #[.agg #[.string kv, .int .i64 sz, .string ⟨et.toArray⟩, .int .i64 tm, .slice pa pl pc]] W fun e w' => ∃ a, e = .returned (.slice a 2 2) ∧ w'.ownsRow w6.heap.size 91 2 (.slice a 2 2) 2 (fcells (ofs et tm)) ∧ Below W.heap.size W w' ∧ S7 w w6.heap.size (.string kv) (.int .i64 sz) (.string ⟨et.toArray⟩) (.int .i64 tm) (.slice pa pl pc) (.int .i64 (f : Int)) w' from
      fun W hW => (fields kv kv kv sz tm et pa pl pc W (HTw.out.below hW.2.1) t0 t1).mono fun e w' ⟨a, h1, h2, h3⟩ => ⟨a, h1, own_down h2 hW.2.2.1, h3, S7.below hW HZ6.out hW.2.2.1 h3⟩)
    go_upto_region 7 with fail
    go_region_held3 (fun W => ((W.cell? ⟨w.heap.size + 1, 0, none⟩ = some (.string kv) ∧ W.cell? ⟨w.heap.size + 1, 1, none⟩ = some (.int .i64 sz) ∧ W.cell? ⟨w.heap.size + 1, 2, none⟩ = some (.string ⟨et.toArray⟩)) ∧ W.cell? ⟨w.heap.size + 1, 3, none⟩ = some (.int .i64 tm) ∧ W.cell? ⟨w.heap.size + 1, 4, none⟩ = some (.slice pa pl pc) ∧ W.cell? ⟨w.heap.size, 25, none⟩ = some (.int .i64 (f : Int))) ∧ Sx w w6.heap.size W)
      (first | exact HS6.out | assumption | exact S7.st (by assumption) _ _ _ | exact S7.below (by assumption) HZ6.out (Nat.le_refl _) (alloc_b _ _ (show S7 _ _ _ _ _ _ _ _ _ by assumption)))
      (first
        | (go_at_call 55; refine (KF.out _ (by assumption)).mono ?_; rintro e w7 ⟨a7, rfl, ho7, hb7, hS7⟩)
        | (refine step_append_flds rfl (.tmp 41) (.tmp 44) rfl w6.heap.size _ (ofs et tm) [(nRange, SP)] (ho7.alloc _) (some ⟨w7.heap.size, 0, none⟩) 1 (one_fs w7 nRange SP) (fun h => by cases h) (by have := hS7.2.2.1; simp; omega) (show 3 ≤ 4294967300 by decide) rfl rfl ?_; intro ar cr w8 ho8 hb8; have hS8 := S7.below (show S7 _ _ _ _ _ _ _ _ _ by assumption) HZ6.out (Nat.le_refl _) hb8)
        | (refine step_append_flds rfl (.tmp 41) (.tmp 44) rfl w6.heap.size _ (ofs et tm) [(nRange, SP)] ho7 (some ⟨w6.heap.size, 0, none⟩) 1 ((one_fs w6.drew nRange SP).below hb7) (fun h => by cases h) (hS7.2.2.1) (show 3 ≤ 4294967300 by decide) rfl rfl ?_; intro ar cr w8 ho8 hb8; have hS8 := S7.below hS7 HZ6.out (Nat.le_refl _) hb8)
        | (refine SgC.step_append_nil rfl (.const (.slice none 0 0)) (.tmp 51) rfl w8.heap.size PT (some ⟨b, o + f, none⟩) (cd - f) (HP.out.below hS8.2.1) (Nat.le_refl _) HLP.out rfl (by rw [HPL.out]; rfl) ?_; intro ag cg w9 ho9 hb9; have hS9 := S7.below hS8 HZ6.out hS8.2.2.1 hb9; obtain ⟨x9, x8, x7, hR9⟩ := hS9.2.2.2; obtain ⟨r0, r1, r2, f0, f1, f2⟩ := hR9.cells))
    all_goals
      go_wp2_with fail
      refine bodyPost_ret (Rb.run 6 (hR9.put _ _ _) rfl rfl) rfl ⟨⟨_, _, _, _, (by rw [← HPT.out, ← HSP.out]; rfl), ?_, ?_⟩, ?_⟩
      · rw [← HSP.out]
        exact own_down (own_st3 (Com.own_below ho8 hb9) (by have := HZ6.out; omega) _ _ _) (by have := HZ6.out; omega)
      · rw [← HPT.out]
        exact own_down (own_st3 ho9 (by have := HZ6.out; have := hS8.2.2.1; omega) _ _ _) (by have := HZ6.out; have := hS8.2.2.1; omega)
      · exact (S7.st hS9 _ _ _).2.1
  · go_upto_region 6 with fail
    try rw [e1]
    clear e1 h1 hL hwl
    go_region_held3 (fun W => (W.cell? ⟨w.heap.size, 25, none⟩ = some (.int .i64 (f : Int)) ∧ W.cell? ⟨w.heap.size + 1, 1, none⟩ = some (.int .i64 sz)) ∧ Below w3.heap.size w3 W)
      (first | exact ⟨⟨q25, o1⟩, (Below.refl _ _).drew⟩ | assumption | go_keep)
      (first
        | (go_at_call 56; have hd3 := hd2; refine (K3.out _ (by assumption)).mono ?_; rintro e w6 ⟨rfl, hS6⟩)
        | (go_at_call 56; have hd2 := hd1; refine (K2.out _ (by assumption)).mono ?_; rintro e w5 ⟨rfl, hS5⟩)
        | (go_at_call 56; refine (K1.out _ (by assumption)).mono ?_; rintro e w4 ⟨rfl, hS4⟩; have hd1 := True.intro))
    have hsp : (((((ByteArray.mk #[98, 121, 116, 101, 115, 32]) ++ ByteArray.mk Pf.toArray) ++ ByteArray.mk #[45]) ++ ByteArray.mk Pl.toArray) ++ ByteArray.mk #[47]) ++ ByteArray.mk Ps.toArray = ⟨(span (f : Int) (L : Int) sz).toArray⟩ := by
      unfold span
      rw [← HPF.out, ← HPL.out, ← HPS.out, show (ByteArray.mk #[98, 121, 116, 101, 115, 32]) = ⟨[98, 121, 116, 101, 115, 32].toArray⟩ from rfl, show (ByteArray.mk #[45]) = ⟨[45].toArray⟩ from rfl, show (ByteArray.mk #[47]) = ⟨[47].toArray⟩ from rfl, Com.mk_append, Com.mk_append, Com.mk_append, Com.mk_append, Com.mk_append]
    rw [hsp]
    obtain ⟨SP, hSP⟩ : ∃ SP, SP = span (f : Int) (L : Int) sz := ⟨_, rfl⟩
    have HSP := Lib.hid hSP
    rw [← hSP]
    clear hsp hSP g1 g2 g3 g4 g5 l1 l2 l3 K1 K2 K3 HPF HPL HPS hd1 hd2 hd3
    have hB36 := hS6.2
    have HR6 := HR3.out.below hB36
    have y0 := (hB36.cell (p := ⟨w.heap.size + 1, 0, none⟩) (World.block_lt_of_cell? _ _ o0)).trans o0
    have y1 := (hB36.cell (p := ⟨w.heap.size + 1, 1, none⟩) (World.block_lt_of_cell? _ _ o1)).trans o1
    have y2 := (hB36.cell (p := ⟨w.heap.size + 1, 2, none⟩) (World.block_lt_of_cell? _ _ o2)).trans o2
    have y3 := (hB36.cell (p := ⟨w.heap.size + 1, 3, none⟩) (World.block_lt_of_cell? _ _ o3)).trans o3
    have y4 := (hB36.cell (p := ⟨w.heap.size + 1, 4, none⟩) (World.block_lt_of_cell? _ _ o4)).trans o4
    have y5 := (hB36.cell (p := ⟨w.heap.size, 25, none⟩) (World.block_lt_of_cell? _ _ q25)).trans q25
    have hB6 := HB3.out.trans (hB36.mono (by omega))
    have hz6 : w.heap.size + 3 ≤ w6.heap.size := by have := hB36.size; omega
    have s7 : S7 w w6.heap.size (.string kv) (.int .i64 sz) (.string ⟨et.toArray⟩) (.int .i64 tm) (.slice pa pl pc) (.int .i64 (f : Int)) w6.drew := ⟨⟨⟨y0, y1, y2⟩, y3, y4, y5⟩, hB6.drew, Nat.le_refl _, _, _, _, HR6⟩
    have HS6 := Lib.hid s7
    have HZ6 := Lib.hid hz6
    clear hS4 hS5 hS6 hB36 q25 q26 q27 o0 o1 o2 o3 o4 HT HD HR3 HB3 hz3 s7 hz6 hB6 HR6 y0 y1 y2 y3 y4 y5
    obtain ⟨b, o, rfl, hbo⟩ : ∃ b o, ad = some ⟨b, o, none⟩ ∧ b < w.heap.size := by
      rcases HDw.out.2.2 with h | ⟨b, o, h1, h2, _⟩
      · rw [h] at hf; simp at hf
      · exact ⟨b, o, h1, h2⟩
    have hcd := HDw.out.1
    obtain ⟨o', ho', hsl⟩ := Slc.cut_mid (P := Tryz.prog) (t := 23) Tryz.underlying23 (s := 1) (fun W => by kernel_rfl) b o dt.length cd f (L + 1 - f) (f : Int) ((L : Int) + 1) rfl (by omega) (by omega)
    have ho1 : o' = o + f := by rw [ho' (by omega), Nat.mul_one]
    subst ho1
    have HP := Lib.hid (HDw.out.part f (L + 1 - f) (by omega) (cd - f) (by omega))
    have hpl : ((dt.drop f).take (L + 1 - f)).length = L + 1 - f := by rw [List.length_take, List.length_drop]; omega
    have hwL : IntKind.i64.wrap ((L : Int) + 1) = (L : Int) + 1 := IntWalk.i64_in _ ⟨by omega, by omega⟩
    have HLP := Lib.hid (show ((dt.drop f).take (L + 1 - f)).length ≤ 140737488355328 by omega)
    have HPL := Lib.hid hpl
    obtain ⟨PT, hPT⟩ : ∃ PT, PT = (dt.drop f).take (L + 1 - f) := ⟨_, rfl⟩
    rw [← hPT] at HP HLP HPL
    have HPT := Lib.hid hPT
    clear hPT hpl
    have KF := Lib.hid (show ∀ W, S7 w w6.heap.size (.string kv) (.int .i64 sz) (.string ⟨et.toArray⟩) (.int .i64 tm) (.slice pa pl pc) (.int .i64 (f : Int)) W → Calls Tryz.prog 55 #[.agg #[.string kv, .int .i64 sz, .string ⟨et.toArray⟩, .int .i64 tm, .slice pa pl pc]] W fun e w' => ∃ a, e = .returned (.slice a 2 2) ∧ w'.ownsRow w6.heap.size 91 2 (.slice a 2 2) 2 (fcells (ofs et tm)) ∧ Below W.heap.size W w' ∧ S7 w w6.heap.size (.string kv) (.int .i64 sz) (.string ⟨et.toArray⟩) (.int .i64 tm) (.slice pa pl pc) (.int .i64 (f : Int)) w' from
      fun W hW => (fields kv kv kv sz tm et pa pl pc W (HTw.out.below hW.2.1) t0 t1).mono fun e w' ⟨a, h1, h2, h3⟩ => ⟨a, h1, own_down h2 hW.2.2.1, h3, S7.below hW HZ6.out hW.2.2.1 h3⟩)
    go_upto_region 7 with fail
    go_region_held3 (fun W => ((W.cell? ⟨w.heap.size + 1, 0, none⟩ = some (.string kv) ∧ W.cell? ⟨w.heap.size + 1, 1, none⟩ = some (.int .i64 sz) ∧ W.cell? ⟨w.heap.size + 1, 2, none⟩ = some (.string ⟨et.toArray⟩)) ∧ W.cell? ⟨w.heap.size + 1, 3, none⟩ = some (.int .i64 tm) ∧ W.cell? ⟨w.heap.size + 1, 4, none⟩ = some (.slice pa pl pc) ∧ W.cell? ⟨w.heap.size, 25, none⟩ = some (.int .i64 (f : Int))) ∧ Sx w w6.heap.size W)
      (first | exact HS6.out | assumption | exact S7.st (by assumption) _ _ _ | exact S7.below (by assumption) HZ6.out (Nat.le_refl _) (alloc_b _ _ (show S7 _ _ _ _ _ _ _ _ _ by assumption)))
      (first
        | (go_at_call 55; refine (KF.out _ (by assumption)).mono ?_; rintro e w7 ⟨a7, rfl, ho7, hb7, hS7⟩)
        | (refine step_append_flds rfl (.tmp 41) (.tmp 44) rfl w6.heap.size _ (ofs et tm) [(nRange, SP)] (ho7.alloc _) (some ⟨w7.heap.size, 0, none⟩) 1 (one_fs w7 nRange SP) (fun h => by cases h) (by have := hS7.2.2.1; simp; omega) (show 3 ≤ 4294967300 by decide) rfl rfl ?_; intro ar cr w8 ho8 hb8; have hS8 := S7.below (show S7 _ _ _ _ _ _ _ _ _ by assumption) HZ6.out (Nat.le_refl _) hb8)
        | (refine step_append_flds rfl (.tmp 41) (.tmp 44) rfl w6.heap.size _ (ofs et tm) [(nRange, SP)] ho7 (some ⟨w6.heap.size, 0, none⟩) 1 ((one_fs w6.drew nRange SP).below hb7) (fun h => by cases h) (hS7.2.2.1) (show 3 ≤ 4294967300 by decide) rfl rfl ?_; intro ar cr w8 ho8 hb8; have hS8 := S7.below hS7 HZ6.out (Nat.le_refl _) hb8)
        | (refine SgC.step_append_nil rfl (.const (.slice none 0 0)) (.tmp 51) rfl w8.heap.size PT (some ⟨b, o + f, none⟩) (cd - f) (HP.out.below hS8.2.1) (Nat.le_refl _) HLP.out rfl (by rw [HPL.out]; rfl) ?_; intro ag cg w9 ho9 hb9; have hS9 := S7.below hS8 HZ6.out hS8.2.2.1 hb9; obtain ⟨x9, x8, x7, hR9⟩ := hS9.2.2.2; obtain ⟨r0, r1, r2, f0, f1, f2⟩ := hR9.cells))
    all_goals
      go_wp2_with fail
      refine bodyPost_ret (Rb.run 6 (hR9.put _ _ _) rfl rfl) rfl ⟨⟨_, _, _, _, (by rw [← HPT.out, ← HSP.out]; rfl), ?_, ?_⟩, ?_⟩
      · rw [← HSP.out]
        exact own_down (own_st3 (Com.own_below ho8 hb9) (by have := HZ6.out; omega) _ _ _) (by have := HZ6.out; omega)
      · rw [← HPT.out]
        exact own_down (own_st3 ho9 (by have := HZ6.out; have := hS8.2.2.1; omega) _ _ _) (by have := HZ6.out; have := hS8.2.2.1; omega)
      · exact (S7.st hS9 _ _ _).2.1
end Go.Proofs.YtidflagmdabfaaaGreatDoor.RtJ
namespace Go.Proofs.YtidflagmdabfaaaGreatDoor.RtC
open Go.RowKit Go.Proofs.YtidflagmdabfaaaGreatDoor

/-- all bytes of a text in a set -/
def allIn (set s : List UInt8) : Bool := s.all fun c => decide (0 ≤ Lib.indexByte set c)

set_option maxHeartbeats 2000000 in
set_option maxRecDepth 100000 in
theorem all (s set : ByteArray) (w : World) (hs : s.size ≤ 4611686018427387904) :
    Calls Tryz.prog 147 #[.string s, .string set] w fun e w' => e = .returned (.bool (allIn set.data.toList s.data.toList)) ∧ w = w' := by
  go_enter Tryz.func147, Tryz.ntmps147
  go_wp2_with fail
  go_loopg [8] s.size (fun g v8 wr => ∃ k : Nat, k + g = s.size ∧ v8 = .int .i64 k ∧ Hid (allIn set.data.toList (s.data.toList.take k) = true) ∧ w = wr)
  case atStart => exact ⟨0, by omega, rfl, rfl, rfl⟩
  case round =>
    obtain ⟨k, hkg, rfl, HA, rfl⟩ := hrel
    have HG := Lib.hid hkg; clear hkg
    by_cases hlt : k < s.size
    · have HT := Lib.hid (show allIn set.data.toList (s.data.toList.take (k + 1)) = decide (0 ≤ Lib.indexByte set.data.toList s[k]) by
        rw [Com.take_succ s k hlt]
        unfold allIn
        rw [List.all_append]
        have := HA.out
        unfold allIn at this
        rw [this]
        simp)
      have HF := Lib.hid (show decide (0 ≤ Lib.indexByte set.data.toList s[k]) = false → allIn set.data.toList s.data.toList = false from fun h => by
        conv => lhs; rw [← List.take_append_drop (k + 1) s.data.toList]
        unfold allIn
        rw [List.all_append]
        have := HT.out
        unfold allIn at this
        rw [this, h, Bool.false_and])
      have y0 : (0 : Int) ≤ (k : Int) := by omega
      have y1 : (k : Int) < (s.size : Int) := by omega
      have KI := Lib.hid (Tryz.strings_IndexByte set (s[k].toNat : Int) w)
      go_wp2_with fail
      refine KI.out.mono ?_
      rintro e w1 ⟨rfl, hw1⟩
      obtain rfl := hw1.symm
      rw [show ((s[k].toNat : Int).toNat.toUInt8) = s[k] by simp]
      clear KI
      obtain ⟨z, hz⟩ : ∃ z, z = Lib.indexByte set.data.toList s[k] := ⟨_, rfl⟩
      have HZ := Lib.hid hz
      rw [← hz] at HT HF ⊢
      clear hz
      by_cases h0 : z < 0
      · go_wp2_with fail
        go_ret
        exact ⟨by rw [HF.out (decide_eq_false (by omega))]; rfl, rfl⟩
      · go_wp2_with fail
        go_roundg (s.size - (k + 1))
        case measure => have := HG.out; omega
        case rel => exact ⟨k + 1, by have := HG.out; omega, by go_num, by rw [HT.out]; exact decide_eq_true (by omega), rfl⟩
    · have hk : k = s.size := by have := HG.out; omega
      have HT := Lib.hid (Com.take_all s k hk)
      go_wp2_with fail
      go_ret
      exact ⟨by have := HA.out; rw [HT.out] at this; rw [this]; rfl, rfl⟩
theorem allQ (s set : ByteArray) (w : World) (n : Nat) (hs : s.size ≤ 4611686018427387904) :
    Calls Tryz.prog 147 #[.string s, .string set] (w.drewN n) fun e w' => e = .returned (.bool (allIn set.data.toList s.data.toList)) ∧ ∃ m, w' = w.drewN m :=
  (all s set _ hs).mono fun _ _ h => ⟨h.1, n, h.2.symm⟩

abbrev letters : List UInt8 := [97, 98, 99, 100, 101, 102, 103, 104, 105, 106, 107, 108, 109, 110, 111, 112, 113, 114, 115, 116, 117, 118, 119, 120, 121, 122, 48, 49, 50, 51, 52, 53, 54, 55, 56, 57]
/-- is a bucket's name good? -/
def goodB (l : List UInt8) : Bool := decide (3 ≤ l.length) && decide (l.length ≤ 63) && allIn (letters ++ [45, 46]) l && allIn letters (l.take 1 ++ l.drop (l.length - 1))

set_option maxHeartbeats 4000000 in
set_option maxRecDepth 100000 in
theorem goodBucketY (s : ByteArray) (w : World) (hgood : goodB s.data.toList = true) :
    Calls Tryz.prog 90 #[.string s] w fun e w' => e = .returned (.bool true) ∧ ∃ m, w' = w.drewN m := by
  have hg := hgood
  unfold goodB at hg
  simp only [Bool.and_eq_true, decide_eq_true_eq, Com.toList_length] at hg
  obtain ⟨⟨⟨h3, h63⟩, hb1⟩, hb2⟩ := hg
  clear hgood
  have HB1 := Lib.hid hb1
  have HB2 := Lib.hid hb2
  clear hb1 hb2
  go_enter Tryz.func90, Tryz.ntmps90
  have q1 : decide ((3 : Int) ≤ (s.size : Int)) = true := decide_eq_true (by omega)
  have q2 : decide ((s.size : Int) ≤ 63) = true := decide_eq_true (by omega)
  have K1 := Lib.hid (show ∀ W, Calls Tryz.prog 147 #[.string s, .string ⟨#[97, 98, 99, 100, 101, 102, 103, 104, 105, 106, 107, 108, 109, 110, 111, 112, 113, 114, 115, 116, 117, 118, 119, 120, 121, 122, 48, 49, 50, 51, 52, 53, 54, 55, 56, 57, 45, 46]⟩] W fun e w' => e = .returned (.bool true) ∧ W = w' from fun W =>
    (all s ⟨#[97, 98, 99, 100, 101, 102, 103, 104, 105, 106, 107, 108, 109, 110, 111, 112, 113, 114, 115, 116, 117, 118, 119, 120, 121, 122, 48, 49, 50, 51, 52, 53, 54, 55, 56, 57, 45, 46]⟩ W (by omega)).mono fun e w' h => ⟨h.1.trans (congrArg (fun b => Ending.returned (.bool b)) HB1.out), h.2⟩)
  have g0 : 0 < s.size := by omega
  have g1 : s.size - 1 < s.size := by omega
  have hx1 : s.extract 0 1 = ⟨[s[0]].toArray⟩ := Com.extract_one s 0 g0
  have hx2 : s.extract (s.size - 1) s.size = ⟨[s[s.size - 1]].toArray⟩ := by
    have := Com.extract_one s (s.size - 1) g1
    rwa [show s.size - 1 + 1 = s.size by omega] at this
  have e1 : [s[0], s[s.size - 1]] = s.data.toList.take 1 ++ s.data.toList.drop (s.data.toList.length - 1) := by
    have h1 : s.data.toList.take 1 = [s[0]] := by
      have := congrArg (fun b : ByteArray => b.data.toList) hx1
      simp only [Com.extract_data, List.drop_zero] at this
      exact this
    have h2 : s.data.toList.drop (s.size - 1) = [s[s.size - 1]] := by
      have := congrArg (fun b : ByteArray => b.data.toList) hx2
      simp only [Com.extract_data] at this
      rw [List.take_of_length_le (by rw [Com.toList_length]; exact Nat.le_refl _)] at this
      exact this
    rw [h1, Com.toList_length, h2]
    rfl
  obtain ⟨c0, hc0⟩ : ∃ c, c = s[0] := ⟨_, rfl⟩
  obtain ⟨c1, hc1⟩ : ∃ c, c = s[s.size - 1] := ⟨_, rfl⟩
  rw [← hc0] at hx1 e1
  rw [← hc1] at hx2 e1
  have e3 : allIn letters [c0, c1] = true := by rw [e1]; exact HB2.out
  clear hc0 hc1 e1 g0 g1
  have K2 := Lib.hid (show ∀ W, Calls Tryz.prog 147 #[.string ⟨#[c0, c1]⟩, .string ⟨#[97, 98, 99, 100, 101, 102, 103, 104, 105, 106, 107, 108, 109, 110, 111, 112, 113, 114, 115, 116, 117, 118, 119, 120, 121, 122, 48, 49, 50, 51, 52, 53, 54, 55, 56, 57]⟩] W fun e w' => e = .returned (.bool true) ∧ W = w' from fun W =>
    (all ⟨#[c0, c1]⟩ ⟨#[97, 98, 99, 100, 101, 102, 103, 104, 105, 106, 107, 108, 109, 110, 111, 112, 113, 114, 115, 116, 117, 118, 119, 120, 121, 122, 48, 49, 50, 51, 52, 53, 54, 55, 56, 57]⟩ W (by show (2 : Nat) ≤ _; omega)).mono fun e w' h => ⟨h.1.trans (congrArg (fun b => Ending.returned (.bool b)) e3), h.2⟩)
  clear e3
  have hz1 : IntKind.i64.wrap ((s.size : Int) - 1) = (s.size : Int) - 1 := IntWalk.i64_in _ ⟨by omega, by omega⟩
  have hz2 : ((s.size : Int) - 1).toNat = s.size - 1 := by omega
  have hz3 : (0 : Int) ≤ (s.size : Int) - 1 := by omega
  have hz4 : (s.size : Int) - 1 ≤ (s.size : Int) := by omega
  have hz5 : (1 : Int) ≤ (s.size : Int) := by omega
  have hz6 : (0 : Int) ≤ (s.size : Int) := by omega
  go_upto_region 2 with fail
  go_region_held3 (fun _ => True)
    (first | trivial | go_keep)
    (first
      | (go_at_call 147; have hd2 := hd1; refine (K2.out _).mono ?_; rintro e w2 ⟨rfl, hw2⟩; subst hw2)
      | (go_at_call 147; refine (K1.out _).mono ?_; rintro e w1 ⟨rfl, hw1⟩; subst hw1; have hd1 := True.intro))
  all_goals
    go_wp2_with fail
    go_ret
    exact ⟨rfl, 1, rfl⟩
end Go.Proofs.YtidflagmdabfaaaGreatDoor.RtC
