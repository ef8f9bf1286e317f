/-
  The walks of package route's fields and Give. The walk of package route's Give. (Printed by mkgive.py.) The walks of bollard/uri's Join and Get.
-/
import Derived.Test.YtidflagmdabfaaaGreatDoorSg04
import Derived.Test.YtidflagmdabfaaaGreatDoorSg05
import Derived.Test.YtidflagmdabfaaaGreatDoorSg09
import Derived.Test.YtidflagmdabfaaaGreatDoorSg15
import Derived.Test.YtidflagmdabfaaaGreatDoorSg16
import Derived.Test.YtidflagmdabfaaaGreatDoorRo01
import Derived.Deep.RegionHeld3
import Derived.IntWalk
namespace Go.Proofs.YtidflagmdabfaaaGreatDoor.RtG
open Go.RowKit Go.Proofs.YtidflagmdabfaaaGreatDoor Go.Proofs.YtidflagmdabfaaaGreatDoor.HtW Go.Proofs.YtidflagmdabfaaaGreatDoor.RtA Go.Proofs.YtidflagmdabfaaaGreatDoor.Itoa

abbrev nEtag : List UInt8 := [101, 116, 97, 103]
abbrev nTime : List UInt8 := [120, 45, 116, 105, 109, 101]
abbrev nRange : List UInt8 := [99, 111, 110, 116, 101, 110, 116, 45, 114, 97, 110, 103, 101]
/-- an object's fields -/
def ofs (et : List UInt8) (tm : Int) : List (List UInt8 × List UInt8) := [(nEtag, et), (nTime, Lib.itoa tm)]
/-- an object's box -/
def Ob (B : Nat) (w : World) (a b c d e : Value) : Prop := w.heap[B]? = some (.cells #[a, b, c, d, e] 54 (0, 0))
theorem Ob.below {B : Nat} {w w' : World} {a b c d e : Value} (h : Ob B w a b c d e) (hb : Below w.heap.size w w') : Ob B w' a b c d e := (hb.block _ (Array.getElem?_eq_some_iff.1 h).1).trans h
theorem Ob.cells {B : Nat} {w : World} {a b c d e : Value} (h : Ob B w a b c d e) : w.cell? ⟨B, 0, none⟩ = some a ∧ w.cell? ⟨B, 1, none⟩ = some b ∧ w.cell? ⟨B, 2, none⟩ = some c ∧ w.cell? ⟨B, 3, none⟩ = some d ∧ w.cell? ⟨B, 4, none⟩ = some e := by
  unfold Ob at h
  refine ⟨?_, ?_, ?_, ?_, ?_⟩
  all_goals (rw [Lib.cell_of_heap h]; rfl)
theorem four_own (w : World) (a b c d : List UInt8) : (w.alloc (.cells #[.string ⟨a.toArray⟩, .string ⟨b.toArray⟩, .string ⟨c.toArray⟩, .string ⟨d.toArray⟩] 91)).ownsRow w.heap.size 91 2 (.slice (some ⟨w.heap.size, 0, none⟩) 2 2) 2 (fcells [(a, b), (c, d)]) :=
  ⟨rfl, .inr ⟨w.heap.size, 2, _, rfl, Nat.le_refl _, heap_alloc_new _ _, Nat.le_refl _, by unfold maxLen; omega, rfl, rfl⟩⟩
theorem own_down {w : World} {b b' : Nat} {e : TypeId} {s n : Nat} {v : Value} {xs : List Value} (h : w.ownsRow b e s v n xs) (hb : b' ≤ b) : w.ownsRow b' e s v n xs :=
  ⟨h.1, h.2.imp id fun ⟨g, cap, cur, h1, h2, h3⟩ => ⟨g, cap, cur, h1, Nat.le_trans hb h2, h3⟩⟩

set_option maxHeartbeats 4000000 in
set_option maxRecDepth 100000 in
theorem fields (kv _sv _pv : ByteArray) (sz tm : Int) (et : List UInt8) (pa : Option Addr) (pl pc : Nat) (w : World) (hT : Tab w) (t0 : -9223372036854775808 ≤ tm) (t1 : tm ≤ 9223372036854775807) :
    Calls Tryz.prog 55 #[.agg #[.string kv, .int .i64 sz, .string ⟨et.toArray⟩, .int .i64 tm, .slice pa pl pc]] w fun e w' => ∃ a, e = .returned (.slice a 2 2) ∧ w'.ownsRow w.heap.size 91 2 (.slice a 2 2) 2 (fcells (ofs et tm)) ∧ Below w.heap.size w w' := by
  have hb0 := (Below.refl w.heap.size w).alloc (Nat.le_refl _) (.cells #[.string kv, .int .i64 sz, .string ⟨et.toArray⟩, .int .i64 tm, .slice pa pl pc] 54)
  have hO : Ob w.heap.size (w.alloc (.cells #[.string kv, .int .i64 sz, .string ⟨et.toArray⟩, .int .i64 tm, .slice pa pl pc] 54)) _ _ _ _ _ := heap_alloc_new w _
  have hz : w.heap.size < (w.alloc (.cells #[.string kv, .int .i64 sz, .string ⟨et.toArray⟩, .int .i64 tm, .slice pa pl pc] 54)).heap.size := by simp
  go_enter Tryz.func55, Tryz.ntmps55
  go_upto_region 1 with fail
  generalize w.alloc _ = w1 at *
  have HT := Lib.hid (hT.below hb0)
  obtain ⟨N, hN⟩ : ∃ N, N = w.heap.size := ⟨_, rfl⟩
  rw [← hN] at hO hb0 hz ⊢
  have HN := Lib.hid hN
  clear hN hT
  obtain ⟨x0, x1, x2, x3, x4⟩ := hO.cells
  have HB := Lib.hid hb0
  clear hb0 hO x0 x1 x4
  have KI := Lib.hid (show ∀ W, ((W.cell? ⟨N, 2, none⟩ = some (.string ⟨et.toArray⟩) ∧ W.cell? ⟨N, 3, none⟩ = some (.int .i64 tm)) ∧ Below w1.heap.size w1 W) → Calls Tryz.prog 56 #[.int .i64 tm] W fun e w' => e = .returned (.string ⟨(Lib.itoa tm).toArray⟩) ∧ ((w'.cell? ⟨N, 2, none⟩ = some (.string ⟨et.toArray⟩) ∧ w'.cell? ⟨N, 3, none⟩ = some (.int .i64 tm)) ∧ Below w1.heap.size w1 w') from fun W hW => (itoa tm t0 t1 W (HT.out.below hW.2)).mono fun e w' ⟨h1, h2⟩ =>
    ⟨h1, ⟨(h2.cell (World.block_lt_of_cell? _ _ hW.1.1)).trans hW.1.1, (h2.cell (World.block_lt_of_cell? _ _ hW.1.2)).trans hW.1.2⟩, hW.2.trans (h2.mono hW.2.size)⟩)
  go_region_held3 (fun W => (W.cell? ⟨N, 2, none⟩ = some (.string ⟨et.toArray⟩) ∧ W.cell? ⟨N, 3, none⟩ = some (.int .i64 tm)) ∧ Below w1.heap.size w1 W)
    (first | exact ⟨⟨x2, x3⟩, (Below.refl _ _).drew⟩ | assumption | exact ⟨⟨(((Below.refl _ _).alloc (Nat.le_refl _) _).cell (World.block_lt_of_cell? _ _ hS2.1.1)).trans hS2.1.1, (((Below.refl _ _).alloc (Nat.le_refl _) _).cell (World.block_lt_of_cell? _ _ hS2.1.2)).trans hS2.1.2⟩, hS2.2.alloc hS2.2.size _⟩ | go_keep)
    (first
      | (go_at_call 56; refine (KI.out _ (by assumption)).mono ?_; rintro e w2 ⟨rfl, hS2⟩))
  all_goals
    go_wp2_with fail
    go_ret
    refine ⟨_, rfl, ?_, ?_⟩
    · rw [← HN.out]
      exact own_down (four_own w2 nEtag et nTime (Lib.itoa tm)) (by have := hS2.2.size; omega)
    · rw [← HN.out]
      exact (HB.out.trans (hS2.2.mono (by omega))).alloc (by have := hS2.2.size; omega) _
end Go.Proofs.YtidflagmdabfaaaGreatDoor.RtG
namespace Go.Proofs.YtidflagmdabfaaaGreatDoor.RtJ
open Go.RowKit Go.Proofs.YtidflagmdabfaaaGreatDoor Go.Proofs.YtidflagmdabfaaaGreatDoor.HtW Go.Proofs.YtidflagmdabfaaaGreatDoor.RtA Go.Proofs.YtidflagmdabfaaaGreatDoor.Itoa Go.Proofs.YtidflagmdabfaaaGreatDoor.RtG Go.Proofs.YtidflagmdabfaaaGreatDoor.App

abbrev Fld := List UInt8 × List UInt8
/-- an answer whose fields and body lie in rows of their own -/
def GPost (st : Int) (fs : List Fld) (body : List UInt8) (base : Nat) (w' : World) (e : Ending) : Prop := ∃ af cf ab cb, e = .returned (.agg #[.int .i64 st, .slice af fs.length cf, .slice ab body.length cb]) ∧ w'.ownsRow base 91 2 (.slice af fs.length cf) fs.length (fcells fs) ∧ w'.ownsRow base 5 1 (.slice ab body.length cb) body.length (Lib.byteCells body)
theorem own_st3 {w : World} {base : Nat} {e : TypeId} {s n B : Nat} {v : Value} {xs : List Value} (h : w.ownsRow base e s v n xs) (hB : B < base) (x y z : Value) : (st3 w B x y z).ownsRow base e s v n xs :=
  SgQ.own_set (SgQ.own_set (SgQ.own_set h (p := ⟨B, 0, none⟩) hB x) (p := ⟨B, 1, none⟩) hB y) (p := ⟨B, 2, none⟩) hB z
theorem heap_at1 (w : World) (o : Obj) {o' : Obj} : ((w.alloc o').alloc o).heap[w.heap.size + 1]? = some o := by
  have := heap_alloc_new (w.alloc o') o
  rwa [World.size_alloc] at this

set_option maxHeartbeats 4000000 in
set_option maxRecDepth 100000 in
theorem give_whole (a0 a1 a2 a3 a4 a5 a6 a7 a8 a9 a10 a11 a12 a13 a14 a15 a16 a17 a18 a19 a20 a21 a22 a23 a24 a28 a29 a30 : Value) (kv : ByteArray) (et dt : List UInt8) (sz tm fr tz : Int) (pa ad : Option Addr) (pl pc cd : Nat) (w : World) (hT : Tab w) (hd : Bs w ad dt cd) (hl : dt.length ≤ 140737488350000) (t0 : -9223372036854775808 ≤ tm) (t1 : tm ≤ 9223372036854775807) :
    Calls Tryz.prog 24 #[.agg #[a0, a1, a2, a3, a4, a5, a6, a7, a8, a9, a10, a11, a12, a13, a14, a15, a16, a17, a18, a19, a20, a21, a22, a23, a24, .int .i64 fr, .int .i64 tz, .bool false, a28, a29, a30], .agg #[.string kv, .int .i64 sz, .string ⟨et.toArray⟩, .int .i64 tm, .slice pa pl pc], .slice ad dt.length cd] w fun e w' => GPost 200 (ofs et tm) dt w.heap.size w' e ∧ Below w.heap.size w w' := by
  obtain ⟨w3, hw3, hb3, hz3, hQ3, hO3, hR3⟩ : ∃ w3 : World, w3 = (((w.alloc (.cells #[a0, a1, a2, a3, a4, a5, a6, a7, a8, a9, a10, a11, a12, a13, a14, a15, a16, a17, a18, a19, a20, a21, a22, a23, a24, .int .i64 fr, .int .i64 tz, .bool false, a28, a29, a30] 37)).alloc (.cells #[.string kv, .int .i64 sz, .string ⟨et.toArray⟩, .int .i64 tm, .slice pa pl pc] 54)).alloc (.cells #[.int .i64 0, .slice none 0 0, .slice none 0 0] 56)) ∧ Below w.heap.size w w3 ∧ w3.heap.size = w.heap.size + 3 ∧ w3.heap[w.heap.size]? = some (.cells #[a0, a1, a2, a3, a4, a5, a6, a7, a8, a9, a10, a11, a12, a13, a14, a15, a16, a17, a18, a19, a20, a21, a22, a23, a24, .int .i64 fr, .int .i64 tz, .bool false, a28, a29, a30] 37 (0, 0)) ∧ Ob (w.heap.size + 1) w3 (.string kv) (.int .i64 sz) (.string ⟨et.toArray⟩) (.int .i64 tm) (.slice pa pl pc) ∧ Rb (w.heap.size + 1 + 1) w3 (.int .i64 0) (.slice none 0 0) (.slice none 0 0) := by
    refine ⟨_, rfl, (((Below.refl _ _).alloc (Nat.le_refl _) _).alloc (by simp) _).alloc (by simp; omega) _, by simp, (Below.heap_alloc _ _ _ (by simp; omega)).trans ((Below.heap_alloc _ _ _ (by simp)).trans (heap_alloc_new _ _)), (Below.heap_alloc _ _ _ (by simp)).trans (heap_at1 _ _), ?_⟩
    have := heap_alloc_new ((w.alloc (.cells #[a0, a1, a2, a3, a4, a5, a6, a7, a8, a9, a10, a11, a12, a13, a14, a15, a16, a17, a18, a19, a20, a21, a22, a23, a24, .int .i64 fr, .int .i64 tz, .bool false, a28, a29, a30] 37)).alloc (.cells #[.string kv, .int .i64 sz, .string ⟨et.toArray⟩, .int .i64 tm, .slice pa pl pc] 54)) (.cells #[.int .i64 0, .slice none 0 0, .slice none 0 0] 56)
    rwa [World.size_alloc, World.size_alloc] at this
  have HT := Lib.hid (hT.below hb3)
  have HD := Lib.hid (hd.below hb3)
  have HTw := Lib.hid hT
  have HDw := Lib.hid hd
  clear hT hd
  have q25 : w3.cell? ⟨w.heap.size, 25, none⟩ = some (.int .i64 fr) := by rw [Lib.cell_of_heap hQ3]; rfl
  have q26 : w3.cell? ⟨w.heap.size, 26, none⟩ = some (.int .i64 tz) := by rw [Lib.cell_of_heap hQ3]; rfl
  have q27 : w3.cell? ⟨w.heap.size, 27, none⟩ = some (.bool false) := by rw [Lib.cell_of_heap hQ3]; rfl
  clear hQ3
  obtain ⟨o0, o1, o2, o3, o4⟩ := hO3.cells
  have HB3 := Lib.hid hb3
  have HR3 := Lib.hid hR3
  clear hO3 hb3 hR3
  have KF := Lib.hid (fields kv kv kv sz tm et pa pl pc w3 HT.out t0 t1)
  go_enter Tryz.func24, Tryz.ntmps24
  go_upto_region 1 with fail
  rw [← hw3]
  clear hw3
  go_wp2_with (first
    | (go_at_call 55; refine KF.out.mono ?_; rintro e w4 ⟨af, rfl, hof, hb4⟩; have hD4 := HD.out.below hb4)
    | (at_builtin; refine append_more w4 rfl (.const (.slice none 0 0)) (.tmp 14) rfl w4.heap.size [] dt (World.ownsRow_nil _ _ _ _) ad cd hD4 (Nat.le_refl _) (by simp; omega) rfl rfl ?_; intro ar cr w5 n5 hn5 ho5 hb5; rw [List.nil_append] at hn5 ho5; subst hn5; have hR5 := (HR3.out.below hb4).below hb5; obtain ⟨r0, r1, r2, f0, f1, f2⟩ := hR5.cells))
  have hz4 := hb4.size
  refine bodyPost_ret (Rb.run 6 (hR5.put _ _ _) rfl rfl) rfl ⟨⟨_, _, _, _, rfl, ?_, ?_⟩, ?_⟩
  · exact own_down (own_st3 (Com.own_below hof hb5) (by omega) _ _ _) (by omega)
  · exact own_down (own_st3 ho5 (by omega) _ _ _) (by omega)
  · exact below_st3 ((HB3.out.trans (hb4.mono (by omega))).trans (hb5.mono (by omega))) (by omega) _ _ _

theorem one_fs (w : World) (n v : List UInt8) : Fs (w.alloc (.cells #[.string ⟨n.toArray⟩, .string ⟨v.toArray⟩] 91)) (some ⟨w.heap.size, 0, none⟩) [(n, v)] := by
  refine .inr ⟨w.heap.size, 0, rfl, by simp, fun j p hj => ?_⟩
  match j, hj with
  | 0, hj =>
    simp only [List.getElem?_cons_zero, Option.some.injEq] at hj
    subst hj
    exact ⟨by rw [Lib.cell_of_heap (heap_alloc_new _ _)]; rfl, by rw [Lib.cell_of_heap (heap_alloc_new _ _)]; rfl⟩
theorem step_append_flds {ops : Array Oper} {o : Oper} {a : Act} {w : World} {K : Act → World → Prop} {Q : Exit → Act → World → Prop} {E : Prop} (hg : o.guard = none) (s x : Operand) (hop : o.op = Op.call { callee := Callee.builtin Builtin.append, args := #[s, x], argTypes := #[22, 22] })
    (base : Nat) (v : Value) (l r : List Fld) (hown : w.ownsRow base 91 2 v l.length (fcells l)) (aR : Option Addr) (cR : Nat) (hF : Fs w aR r) (hn : aR = none → r.length = 0 ∧ cR = 0) (hbase : base ≤ w.heap.size) (hlen : l.length + r.length ≤ 4294967300)
    (hs : a.eval s = v) (hx : a.eval x = .slice aR r.length cR)
    (hK : ∀ ar cr w', w'.ownsRow base 91 2 (.slice ar (l.length + r.length) cr) (l ++ r).length (fcells (l ++ r)) → Below base w w' → K (a.put o.dst (.slice ar (l.length + r.length) cr)) w') :
    if Region.wanted o (yielded ops a.tmps) = true then Oper.wp Tryz.prog o a w K Q else E := by
  have hw : Region.wanted o (yielded ops a.tmps) = true := by simp [Region.wanted, hg]
  rw [if_pos hw]
  obtain ⟨ar, cr, w', hrun, h1, _, h3⟩ := SgQ.run_append_flds w base v l r hown aR cR hF hn hbase hlen o.type
  unfold Oper.wp
  simp [execOp, hop, resolve, invoke, builtin, hs, hx, hrun, Result.andThen]
  exact hK ar cr w' h1 h3
/-- the world while route.Give's last statement runs -/
def Sx (w : World) (M : Nat) (W : World) : Prop := Below w.heap.size w W ∧ M ≤ W.heap.size ∧ ∃ x y z, Rb (w.heap.size + 1 + 1) W x y z
abbrev S7 (w : World) (M : Nat) (kv sz et tm ps fv : Value) (W : World) : Prop :=
  ((W.cell? ⟨w.heap.size + 1, 0, none⟩ = some kv ∧ W.cell? ⟨w.heap.size + 1, 1, none⟩ = some sz ∧ W.cell? ⟨w.heap.size + 1, 2, none⟩ = some et) ∧ W.cell? ⟨w.heap.size + 1, 3, none⟩ = some tm ∧ W.cell? ⟨w.heap.size + 1, 4, none⟩ = some ps ∧ W.cell? ⟨w.heap.size, 25, none⟩ = some fv) ∧ Sx w M W
theorem S7.below {w : World} {M : Nat} {kv sz et tm ps fv : Value} {W W' : World} (h : S7 w M kv sz et tm ps fv W) (hM : w.heap.size + 3 ≤ M) {c : Nat} (hc : M ≤ c) (hb : Below c W W') : S7 w M kv sz et tm ps fv W' := by
  obtain ⟨⟨⟨h0, h1, h2⟩, h3, h4, h5⟩, h6, h7, x, y, z, h8⟩ := h
  exact ⟨⟨⟨(hb.cell (show w.heap.size + 1 < c by omega)).trans h0, (hb.cell (show w.heap.size + 1 < c by omega)).trans h1, (hb.cell (show w.heap.size + 1 < c by omega)).trans h2⟩, (hb.cell (show w.heap.size + 1 < c by omega)).trans h3, (hb.cell (show w.heap.size + 1 < c by omega)).trans h4, (hb.cell (show w.heap.size < c by omega)).trans h5⟩, h6.trans (hb.mono (by omega)), Nat.le_trans h7 hb.size, x, y, z, (hb.block (w.heap.size + 1 + 1) (by omega)).trans h8⟩
theorem S7.st {w : World} {M : Nat} {kv sz et tm ps fv : Value} {W : World} (h : S7 w M kv sz et tm ps fv W) (a b c : Value) : S7 w M kv sz et tm ps fv (st3 W (w.heap.size + 1 + 1) a b c) := by
  obtain ⟨⟨⟨h0, h1, h2⟩, h3, h4, h5⟩, h6, h7, x, y, z, h8⟩ := h
  have hb := below_st3 (Below.refl (w.heap.size + 1 + 1) W) (Nat.le_refl _) a b c
  exact ⟨⟨⟨(hb.cell (show w.heap.size + 1 < _ by omega)).trans h0, (hb.cell (show w.heap.size + 1 < _ by omega)).trans h1, (hb.cell (show w.heap.size + 1 < _ by omega)).trans h2⟩, (hb.cell (show w.heap.size + 1 < _ by omega)).trans h3, (hb.cell (show w.heap.size + 1 < _ by omega)).trans h4, (hb.cell (show w.heap.size < _ by omega)).trans h5⟩, h6.trans (hb.mono (by omega)), Nat.le_trans h7 hb.size, _, _, _, Rb.put h8 a b c⟩
theorem alloc_b {w : World} {M : Nat} {kv sz et tm ps fv : Value} (W : World) (ob : Obj) (h : S7 w M kv sz et tm ps fv W) : Below M W (W.alloc ob) := (Below.refl M W).alloc h.2.2.1 ob
/-- a range's words -/
def span (f l sz : Int) : List UInt8 := [98, 121, 116, 101, 115, 32] ++ Lib.itoa f ++ [45] ++ Lib.itoa l ++ [47] ++ Lib.itoa sz
set_option maxHeartbeats 4000000 in
set_option maxRecDepth 100000 in
theorem give_range (a0 a1 a2 a3 a4 a5 a6 a7 a8 a9 a10 a11 a12 a13 a14 a15 a16 a17 a18 a19 a20 a21 a22 a23 a24 a28 a29 a30 : Value) (kv : ByteArray) (et dt : List UInt8) (sz tm tz : Int) (pa ad : Option Addr) (pl pc cd : Nat) (w : World) (hT : Tab w) (hd : Bs w ad dt cd) (hl : dt.length ≤ 140737488350000) (t0 : -9223372036854775808 ≤ tm) (t1 : tm ≤ 9223372036854775807) (s0 : -9223372036854775808 ≤ sz) (s1 : sz ≤ 9223372036854775807) (f L : Nat) (hf : f < dt.length) (hfL : f ≤ L) (hL : (tz < 0 ∧ L = dt.length - 1) ∨ (0 ≤ tz ∧ tz < dt.length - 1 ∧ L = tz.toNat) ∨ (dt.length - 1 ≤ tz ∧ L = dt.length - 1)) :
    Calls Tryz.prog 24 #[.agg #[a0, a1, a2, a3, a4, a5, a6, a7, a8, a9, a10, a11, a12, a13, a14, a15, a16, a17, a18, a19, a20, a21, a22, a23, a24, .int .i64 (f : Int), .int .i64 tz, .bool true, a28, a29, a30], .agg #[.string kv, .int .i64 sz, .string ⟨et.toArray⟩, .int .i64 tm, .slice pa pl pc], .slice ad dt.length cd] w fun e w' => GPost 206 (ofs et tm ++ [(nRange, span f L sz)]) ((dt.drop f).take (L + 1 - f)) w.heap.size w' e ∧ Below w.heap.size w w' := by
  obtain ⟨w3, hw3, hb3, hz3, hQ3, hO3, hR3⟩ : ∃ w3 : World, w3 = (((w.alloc (.cells #[a0, a1, a2, a3, a4, a5, a6, a7, a8, a9, a10, a11, a12, a13, a14, a15, a16, a17, a18, a19, a20, a21, a22, a23, a24, .int .i64 (f : Int), .int .i64 tz, .bool true, a28, a29, a30] 37)).alloc (.cells #[.string kv, .int .i64 sz, .string ⟨et.toArray⟩, .int .i64 tm, .slice pa pl pc] 54)).alloc (.cells #[.int .i64 0, .slice none 0 0, .slice none 0 0] 56)) ∧ Below w.heap.size w w3 ∧ w3.heap.size = w.heap.size + 3 ∧ w3.heap[w.heap.size]? = some (.cells #[a0, a1, a2, a3, a4, a5, a6, a7, a8, a9, a10, a11, a12, a13, a14, a15, a16, a17, a18, a19, a20, a21, a22, a23, a24, .int .i64 (f : Int), .int .i64 tz, .bool true, a28, a29, a30] 37 (0, 0)) ∧ Ob (w.heap.size + 1) w3 (.string kv) (.int .i64 sz) (.string ⟨et.toArray⟩) (.int .i64 tm) (.slice pa pl pc) ∧ Rb (w.heap.size + 1 + 1) w3 (.int .i64 0) (.slice none 0 0) (.slice none 0 0) := by
    refine ⟨_, rfl, (((Below.refl _ _).alloc (Nat.le_refl _) _).alloc (by simp) _).alloc (by simp; omega) _, by simp, (Below.heap_alloc _ _ _ (by simp; omega)).trans ((Below.heap_alloc _ _ _ (by simp)).trans (heap_alloc_new _ _)), (Below.heap_alloc _ _ _ (by simp)).trans (heap_at1 _ _), ?_⟩
    have := heap_alloc_new ((w.alloc (.cells #[a0, a1, a2, a3, a4, a5, a6, a7, a8, a9, a10, a11, a12, a13, a14, a15, a16, a17, a18, a19, a20, a21, a22, a23, a24, .int .i64 (f : Int), .int .i64 tz, .bool true, a28, a29, a30] 37)).alloc (.cells #[.string kv, .int .i64 sz, .string ⟨et.toArray⟩, .int .i64 tm, .slice pa pl pc] 54)) (.cells #[.int .i64 0, .slice none 0 0, .slice none 0 0] 56)
    rwa [World.size_alloc, World.size_alloc] at this
  have HT := Lib.hid (hT.below hb3)
  have HD := Lib.hid (hd.below hb3)
  have HTw := Lib.hid hT
  have HDw := Lib.hid hd
  clear hT hd
  have q25 : w3.cell? ⟨w.heap.size, 25, none⟩ = some (.int .i64 (f : Int)) := by rw [Lib.cell_of_heap hQ3]; rfl
  have q26 : w3.cell? ⟨w.heap.size, 26, none⟩ = some (.int .i64 tz) := by rw [Lib.cell_of_heap hQ3]; rfl
  have q27 : w3.cell? ⟨w.heap.size, 27, none⟩ = some (.bool true) := by rw [Lib.cell_of_heap hQ3]; rfl
  clear hQ3
  obtain ⟨o0, o1, o2, o3, o4⟩ := hO3.cells
  have HB3 := Lib.hid hb3
  have HR3 := Lib.hid hR3
  clear hO3 hb3 hR3
  have hwl : IntKind.i64.wrap ((dt.length : Int) - 1) = (dt.length : Int) - 1 := IntWalk.i64_in _ ⟨by omega, by omega⟩
  go_enter Tryz.func24, Tryz.ntmps24
  go_upto_region 1 with fail
  rw [← hw3]
  clear hw3
  have e1 : (tz < 0 ∧ (dt.length : Int) - 1 = (L : Int)) ∨ (0 ≤ tz ∧ min ((dt.length : Int) - 1) tz = (L : Int)) := by omega
  have hL1 : L + 1 ≤ dt.length := by omega
  have l1 := Dec.itoa_len (n := (f : Int)) (by omega) (by omega)
  have l2 := Dec.itoa_len (n := (L : Int)) (by omega) (by omega)
  have l3 := Dec.itoa_len s0 s1
  obtain ⟨Pf, hPf⟩ : ∃ P, P = Lib.itoa (f : Int) := ⟨_, rfl⟩
  obtain ⟨Pl, hPl⟩ : ∃ P, P = Lib.itoa (L : Int) := ⟨_, rfl⟩
  obtain ⟨Ps, hPs⟩ : ∃ P, P = Lib.itoa sz := ⟨_, rfl⟩
  rw [← hPf] at l1
  rw [← hPl] at l2
  rw [← hPs] at l3
  have KI := Lib.hid (show ∀ (z : Int) (P : List UInt8), P = Lib.itoa z → -9223372036854775808 ≤ z → z ≤ 9223372036854775807 → ∀ W, ((W.cell? ⟨w.heap.size, 25, none⟩ = some (.int .i64 (f : Int)) ∧ W.cell? ⟨w.heap.size + 1, 1, none⟩ = some (.int .i64 sz)) ∧ Below w3.heap.size w3 W) → Calls Tryz.prog 56 #[.int .i64 z] W fun e w' => e = .returned (.string ⟨P.toArray⟩) ∧ ((w'.cell? ⟨w.heap.size, 25, none⟩ = some (.int .i64 (f : Int)) ∧ w'.cell? ⟨w.heap.size + 1, 1, none⟩ = some (.int .i64 sz)) ∧ Below w3.heap.size w3 w') from fun z P hP z0 z1 W hW => (itoa z z0 z1 W (HT.out.below hW.2)).mono fun e w' ⟨h1, h2⟩ =>
    ⟨by rw [hP]; exact h1, ⟨(h2.cell (World.block_lt_of_cell? _ _ hW.1.1)).trans hW.1.1, (h2.cell (World.block_lt_of_cell? _ _ hW.1.2)).trans hW.1.2⟩, hW.2.trans (h2.mono hW.2.size)⟩)
  have K1 := Lib.hid (KI.out (f : Int) Pf hPf (by omega) (by omega))
  have K2 := Lib.hid (KI.out (L : Int) Pl hPl (by omega) (by omega))
  have K3 := Lib.hid (KI.out sz Ps hPs s0 s1)
  have HPF := Lib.hid hPf
  have HPL := Lib.hid hPl
  have HPS := Lib.hid hPs
  clear KI hPf hPl hPs
  have g1 : ¬ 9223372036854775807 < 6 + Pf.length := by omega
  have g2 : ¬ 9223372036854775807 < 6 + Pf.length + 1 := by omega
  have g3 : ¬ 9223372036854775807 < 6 + Pf.length + 1 + Pl.length := by omega
  have g4 : ¬ 9223372036854775807 < 6 + Pf.length + 1 + Pl.length + 1 := by omega
  have g5 : ¬ 9223372036854775807 < 6 + Pf.length + 1 + Pl.length + 1 + Ps.length := by omega
  rcases e1 with ⟨h1, e1⟩ | ⟨h1, e1⟩
  · go_upto_region 6 with fail
    try rw [e1]
    clear e1 h1 hL hwl
    go_region_held3 (fun W => (W.cell? ⟨w.heap.size, 25, none⟩ = some (.int .i64 (f : Int)) ∧ W.cell? ⟨w.heap.size + 1, 1, none⟩ = some (.int .i64 sz)) ∧ Below w3.heap.size w3 W)
      (first | exact ⟨⟨q25, o1⟩, (Below.refl _ _).drew⟩ | assumption | go_keep)
      (first
        | (go_at_call 56; have hd3 := hd2; refine (K3.out _ (by assumption)).mono ?_; rintro e w6 ⟨rfl, hS6⟩)
        | (go_at_call 56; have hd2 := hd1; refine (K2.out _ (by assumption)).mono ?_; rintro e w5 ⟨rfl, hS5⟩)
        | (go_at_call 56; refine (K1.out _ (by assumption)).mono ?_; rintro e w4 ⟨rfl, hS4⟩; have hd1 := True.intro))
    have hsp : (((((ByteArray.mk #[98, 121, 116, 101, 115, 32]) ++ ByteArray.mk Pf.toArray) ++ ByteArray.mk #[45]) ++ ByteArray.mk Pl.toArray) ++ ByteArray.mk #[47]) ++ ByteArray.mk Ps.toArray = ⟨(span (f : Int) (L : Int) sz).toArray⟩ := by
      unfold span
      rw [← HPF.out, ← HPL.out, ← HPS.out, show (ByteArray.mk #[98, 121, 116, 101, 115, 32]) = ⟨[98, 121, 116, 101, 115, 32].toArray⟩ from rfl, show (ByteArray.mk #[45]) = ⟨[45].toArray⟩ from rfl, show (ByteArray.mk #[47]) = ⟨[47].toArray⟩ from rfl, Com.mk_append, Com.mk_append, Com.mk_append, Com.mk_append, Com.mk_append]
    rw [hsp]
    obtain ⟨SP, hSP⟩ : ∃ SP, SP = span (f : Int) (L : Int) sz := ⟨_, rfl⟩
    have HSP := Lib.hid hSP
    rw [← hSP]
    clear hsp hSP g1 g2 g3 g4 g5 l1 l2 l3 K1 K2 K3 HPF HPL HPS hd1 hd2 hd3
    have hB36 := hS6.2
    have HR6 := HR3.out.below hB36
    have y0 := (hB36.cell (p := ⟨w.heap.size + 1, 0, none⟩) (World.block_lt_of_cell? _ _ o0)).trans o0
    have y1 := (hB36.cell (p := ⟨w.heap.size + 1, 1, none⟩) (World.block_lt_of_cell? _ _ o1)).trans o1
    have y2 := (hB36.cell (p := ⟨w.heap.size + 1, 2, none⟩) (World.block_lt_of_cell? _ _ o2)).trans o2
    have y3 := (hB36.cell (p := ⟨w.heap.size + 1, 3, none⟩) (World.block_lt_of_cell? _ _ o3)).trans o3
    have y4 := (hB36.cell (p := ⟨w.heap.size + 1, 4, none⟩) (World.block_lt_of_cell? _ _ o4)).trans o4
    have y5 := (hB36.cell (p := ⟨w.heap.size, 25, none⟩) (World.block_lt_of_cell? _ _ q25)).trans q25
    have hB6 := HB3.out.trans (hB36.mono (by omega))
    have hz6 : w.heap.size + 3 ≤ w6.heap.size := by have := hB36.size; omega
    have s7 : S7 w w6.heap.size (.string kv) (.int .i64 sz) (.string ⟨et.toArray⟩) (.int .i64 tm) (.slice pa pl pc) (.int .i64 (f : Int)) w6.drew := ⟨⟨⟨y0, y1, y2⟩, y3, y4, y5⟩, hB6.drew, Nat.le_refl _, _, _, _, HR6⟩
    have HS6 := Lib.hid s7
    have HZ6 := Lib.hid hz6
    clear hS4 hS5 hS6 hB36 q25 q26 q27 o0 o1 o2 o3 o4 HT HD HR3 HB3 hz3 s7 hz6 hB6 HR6 y0 y1 y2 y3 y4 y5
    obtain ⟨b, o, rfl, hbo⟩ : ∃ b o, ad = some ⟨b, o, none⟩ ∧ b < w.heap.size := by
      rcases HDw.out.2.2 with h | ⟨b, o, h1, h2, _⟩
      · rw [h] at hf; simp at hf
      · exact ⟨b, o, h1, h2⟩
    have hcd := HDw.out.1
    obtain ⟨o', ho', hsl⟩ := Slc.cut_mid (P := Tryz.prog) (t := 23) Tryz.underlying23 (s := 1) (fun W => by kernel_rfl) b o dt.length cd f (L + 1 - f) (f : Int) ((L : Int) + 1) rfl (by omega) (by omega)
    have ho1 : o' = o + f := by rw [ho' (by omega), Nat.mul_one]
    subst ho1
    have HP := Lib.hid (HDw.out.part f (L + 1 - f) (by omega) (cd - f) (by omega))
    have hpl : ((dt.drop f).take (L + 1 - f)).length = L + 1 - f := by rw [List.length_take, List.length_drop]; omega
    have hwL : IntKind.i64.wrap ((L : Int) + 1) = (L : Int) + 1 := IntWalk.i64_in _ ⟨by omega, by omega⟩
    have HLP := Lib.hid (show ((dt.drop f).take (L + 1 - f)).length ≤ 140737488355328 by omega)
    have HPL := Lib.hid hpl
    obtain ⟨PT, hPT⟩ : ∃ PT, PT = (dt.drop f).take (L + 1 - f) := ⟨_, rfl⟩
    rw [← hPT] at HP HLP HPL
    have HPT := Lib.hid hPT
    clear hPT hpl
    have KF := Lib.hid (show ∀ W, S7 w w6.heap.size (.string kv) (.int .i64 sz) (.string ⟨et.toArray⟩) (.int .i64 tm) (.slice pa pl pc) (.int .i64 (f : Int)) W → Calls Tryz.prog 55 #[.agg #[.string kv, .int .i64 sz, .string ⟨et.toArray⟩, .int .i64 tm, .slice pa pl pc]] W fun e w' => ∃ a, e = .returned (.slice a 2 2) ∧ w'.ownsRow w6.heap.size 91 2 (.slice a 2 2) 2 (fcells (ofs et tm)) ∧ Below W.heap.size W w' ∧ S7 w w6.heap.size (.string kv) (.int .i64 sz) (.string ⟨et.toArray⟩) (.int .i64 tm) (.slice pa pl pc) (.int .i64 (f : Int)) w' from
      fun W hW => (fields kv kv kv sz tm et pa pl pc W (HTw.out.below hW.2.1) t0 t1).mono fun e w' ⟨a, h1, h2, h3⟩ => ⟨a, h1, own_down h2 hW.2.2.1, h3, S7.below hW HZ6.out hW.2.2.1 h3⟩)
    go_upto_region 7 with fail
    go_region_held3 (fun W => ((W.cell? ⟨w.heap.size + 1, 0, none⟩ = some (.string kv) ∧ W.cell? ⟨w.heap.size + 1, 1, none⟩ = some (.int .i64 sz) ∧ W.cell? ⟨w.heap.size + 1, 2, none⟩ = some (.string ⟨et.toArray⟩)) ∧ W.cell? ⟨w.heap.size + 1, 3, none⟩ = some (.int .i64 tm) ∧ W.cell? ⟨w.heap.size + 1, 4, none⟩ = some (.slice pa pl pc) ∧ W.cell? ⟨w.heap.size, 25, none⟩ = some (.int .i64 (f : Int))) ∧ Sx w w6.heap.size W)
      (first | exact HS6.out | assumption | exact S7.st (by assumption) _ _ _ | exact S7.below (by assumption) HZ6.out (Nat.le_refl _) (alloc_b _ _ (show S7 _ _ _ _ _ _ _ _ _ by assumption)))
      (first
        | (go_at_call 55; refine (KF.out _ (by assumption)).mono ?_; rintro e w7 ⟨a7, rfl, ho7, hb7, hS7⟩)
        | (refine step_append_flds rfl (.tmp 41) (.tmp 44) rfl w6.heap.size _ (ofs et tm) [(nRange, SP)] (ho7.alloc _) (some ⟨w7.heap.size, 0, none⟩) 1 (one_fs w7 nRange SP) (fun h => by cases h) (by have := hS7.2.2.1; simp; omega) (show 3 ≤ 4294967300 by decide) rfl rfl ?_; intro ar cr w8 ho8 hb8; have hS8 := S7.below (show S7 _ _ _ _ _ _ _ _ _ by assumption) HZ6.out (Nat.le_refl _) hb8)
        | (refine step_append_flds rfl (.tmp 41) (.tmp 44) rfl w6.heap.size _ (ofs et tm) [(nRange, SP)] ho7 (some ⟨w6.heap.size, 0, none⟩) 1 ((one_fs w6.drew nRange SP).below hb7) (fun h => by cases h) (hS7.2.2.1) (show 3 ≤ 4294967300 by decide) rfl rfl ?_; intro ar cr w8 ho8 hb8; have hS8 := S7.below hS7 HZ6.out (Nat.le_refl _) hb8)
        | (refine SgC.step_append_nil rfl (.const (.slice none 0 0)) (.tmp 51) rfl w8.heap.size PT (some ⟨b, o + f, none⟩) (cd - f) (HP.out.below hS8.2.1) (Nat.le_refl _) HLP.out rfl (by rw [HPL.out]; rfl) ?_; intro ag cg w9 ho9 hb9; have hS9 := S7.below hS8 HZ6.out hS8.2.2.1 hb9; obtain ⟨x9, x8, x7, hR9⟩ := hS9.2.2.2; obtain ⟨r0, r1, r2, f0, f1, f2⟩ := hR9.cells))
    all_goals
      go_wp2_with fail
      refine bodyPost_ret (Rb.run 6 (hR9.put _ _ _) rfl rfl) rfl ⟨⟨_, _, _, _, (by rw [← HPT.out, ← HSP.out]; rfl), ?_, ?_⟩, ?_⟩
      · rw [← HSP.out]
        exact own_down (own_st3 (Com.own_below ho8 hb9) (by have := HZ6.out; omega) _ _ _) (by have := HZ6.out; omega)
      · rw [← HPT.out]
        exact own_down (own_st3 ho9 (by have := HZ6.out; have := hS8.2.2.1; omega) _ _ _) (by have := HZ6.out; have := hS8.2.2.1; omega)
      · exact (S7.st hS9 _ _ _).2.1
  · go_upto_region 6 with fail
    try rw [e1]
    clear e1 h1 hL hwl
    go_region_held3 (fun W => (W.cell? ⟨w.heap.size, 25, none⟩ = some (.int .i64 (f : Int)) ∧ W.cell? ⟨w.heap.size + 1, 1, none⟩ = some (.int .i64 sz)) ∧ Below w3.heap.size w3 W)
      (first | exact ⟨⟨q25, o1⟩, (Below.refl _ _).drew⟩ | assumption | go_keep)
      (first
        | (go_at_call 56; have hd3 := hd2; refine (K3.out _ (by assumption)).mono ?_; rintro e w6 ⟨rfl, hS6⟩)
        | (go_at_call 56; have hd2 := hd1; refine (K2.out _ (by assumption)).mono ?_; rintro e w5 ⟨rfl, hS5⟩)
        | (go_at_call 56; refine (K1.out _ (by assumption)).mono ?_; rintro e w4 ⟨rfl, hS4⟩; have hd1 := True.intro))
    have hsp : (((((ByteArray.mk #[98, 121, 116, 101, 115, 32]) ++ ByteArray.mk Pf.toArray) ++ ByteArray.mk #[45]) ++ ByteArray.mk Pl.toArray) ++ ByteArray.mk #[47]) ++ ByteArray.mk Ps.toArray = ⟨(span (f : Int) (L : Int) sz).toArray⟩ := by
      unfold span
      rw [← HPF.out, ← HPL.out, ← HPS.out, show (ByteArray.mk #[98, 121, 116, 101, 115, 32]) = ⟨[98, 121, 116, 101, 115, 32].toArray⟩ from rfl, show (ByteArray.mk #[45]) = ⟨[45].toArray⟩ from rfl, show (ByteArray.mk #[47]) = ⟨[47].toArray⟩ from rfl, Com.mk_append, Com.mk_append, Com.mk_append, Com.mk_append, Com.mk_append]
    rw [hsp]
    obtain ⟨SP, hSP⟩ : ∃ SP, SP = span (f : Int) (L : Int) sz := ⟨_, rfl⟩
    have HSP := Lib.hid hSP
    rw [← hSP]
    clear hsp hSP g1 g2 g3 g4 g5 l1 l2 l3 K1 K2 K3 HPF HPL HPS hd1 hd2 hd3
    have hB36 := hS6.2
    have HR6 := HR3.out.below hB36
    have y0 := (hB36.cell (p := ⟨w.heap.size + 1, 0, none⟩) (World.block_lt_of_cell? _ _ o0)).trans o0
    have y1 := (hB36.cell (p := ⟨w.heap.size + 1, 1, none⟩) (World.block_lt_of_cell? _ _ o1)).trans o1
    have y2 := (hB36.cell (p := ⟨w.heap.size + 1, 2, none⟩) (World.block_lt_of_cell? _ _ o2)).trans o2
    have y3 := (hB36.cell (p := ⟨w.heap.size + 1, 3, none⟩) (World.block_lt_of_cell? _ _ o3)).trans o3
    have y4 := (hB36.cell (p := ⟨w.heap.size + 1, 4, none⟩) (World.block_lt_of_cell? _ _ o4)).trans o4
    have y5 := (hB36.cell (p := ⟨w.heap.size, 25, none⟩) (World.block_lt_of_cell? _ _ q25)).trans q25
    have hB6 := HB3.out.trans (hB36.mono (by omega))
    have hz6 : w.heap.size + 3 ≤ w6.heap.size := by have := hB36.size; omega
    have s7 : S7 w w6.heap.size (.string kv) (.int .i64 sz) (.string ⟨et.toArray⟩) (.int .i64 tm) (.slice pa pl pc) (.int .i64 (f : Int)) w6.drew := ⟨⟨⟨y0, y1, y2⟩, y3, y4, y5⟩, hB6.drew, Nat.le_refl _, _, _, _, HR6⟩
    have HS6 := Lib.hid s7
    have HZ6 := Lib.hid hz6
    clear hS4 hS5 hS6 hB36 q25 q26 q27 o0 o1 o2 o3 o4 HT HD HR3 HB3 hz3 s7 hz6 hB6 HR6 y0 y1 y2 y3 y4 y5
    obtain ⟨b, o, rfl, hbo⟩ : ∃ b o, ad = some ⟨b, o, none⟩ ∧ b < w.heap.size := by
      rcases HDw.out.2.2 with h | ⟨b, o, h1, h2, _⟩
      · rw [h] at hf; simp at hf
      · exact ⟨b, o, h1, h2⟩
    have hcd := HDw.out.1
    obtain ⟨o', ho', hsl⟩ := Slc.cut_mid (P := Tryz.prog) (t := 23) Tryz.underlying23 (s := 1) (fun W => by kernel_rfl) b o dt.length cd f (L + 1 - f) (f : Int) ((L : Int) + 1) rfl (by omega) (by omega)
    have ho1 : o' = o + f := by rw [ho' (by omega), Nat.mul_one]
    subst ho1
    have HP := Lib.hid (HDw.out.part f (L + 1 - f) (by omega) (cd - f) (by omega))
    have hpl : ((dt.drop f).take (L + 1 - f)).length = L + 1 - f := by rw [List.length_take, List.length_drop]; omega
    have hwL : IntKind.i64.wrap ((L : Int) + 1) = (L : Int) + 1 := IntWalk.i64_in _ ⟨by omega, by omega⟩
    have HLP := Lib.hid (show ((dt.drop f).take (L + 1 - f)).length ≤ 140737488355328 by omega)
    have HPL := Lib.hid hpl
    obtain ⟨PT, hPT⟩ : ∃ PT, PT = (dt.drop f).take (L + 1 - f) := ⟨_, rfl⟩
    rw [← hPT] at HP HLP HPL
    have HPT := Lib.hid hPT
    clear hPT hpl
    have KF := Lib.hid (show ∀ W, S7 w w6.heap.size (.string kv) (.int .i64 sz) (.string ⟨et.toArray⟩) (.int .i64 tm) (.slice pa pl pc) (.int .i64 (f : Int)) W → Calls Tryz.prog 55 #[.agg #[.string kv, .int .i64 sz, .string ⟨et.toArray⟩, .int .i64 tm, .slice pa pl pc]] W fun e w' => ∃ a, e = .returned (.slice a 2 2) ∧ w'.ownsRow w6.heap.size 91 2 (.slice a 2 2) 2 (fcells (ofs et tm)) ∧ Below W.heap.size W w' ∧ S7 w w6.heap.size (.string kv) (.int .i64 sz) (.string ⟨et.toArray⟩) (.int .i64 tm) (.slice pa pl pc) (.int .i64 (f : Int)) w' from
      fun W hW => (fields kv kv kv sz tm et pa pl pc W (HTw.out.below hW.2.1) t0 t1).mono fun e w' ⟨a, h1, h2, h3⟩ => ⟨a, h1, own_down h2 hW.2.2.1, h3, S7.below hW HZ6.out hW.2.2.1 h3⟩)
    go_upto_region 7 with fail
    go_region_held3 (fun W => ((W.cell? ⟨w.heap.size + 1, 0, none⟩ = some (.string kv) ∧ W.cell? ⟨w.heap.size + 1, 1, none⟩ = some (.int .i64 sz) ∧ W.cell? ⟨w.heap.size + 1, 2, none⟩ = some (.string ⟨et.toArray⟩)) ∧ W.cell? ⟨w.heap.size + 1, 3, none⟩ = some (.int .i64 tm) ∧ W.cell? ⟨w.heap.size + 1, 4, none⟩ = some (.slice pa pl pc) ∧ W.cell? ⟨w.heap.size, 25, none⟩ = some (.int .i64 (f : Int))) ∧ Sx w w6.heap.size W)
      (first | exact HS6.out | assumption | exact S7.st (by assumption) _ _ _ | exact S7.below (by assumption) HZ6.out (Nat.le_refl _) (alloc_b _ _ (show S7 _ _ _ _ _ _ _ _ _ by assumption)))
      (first
        | (go_at_call 55; refine (KF.out _ (by assumption)).mono ?_; rintro e w7 ⟨a7, rfl, ho7, hb7, hS7⟩)
        | (refine step_append_flds rfl (.tmp 41) (.tmp 44) rfl w6.heap.size _ (ofs et tm) [(nRange, SP)] (ho7.alloc _) (some ⟨w7.heap.size, 0, none⟩) 1 (one_fs w7 nRange SP) (fun h => by cases h) (by have := hS7.2.2.1; simp; omega) (show 3 ≤ 4294967300 by decide) rfl rfl ?_; intro ar cr w8 ho8 hb8; have hS8 := S7.below (show S7 _ _ _ _ _ _ _ _ _ by assumption) HZ6.out (Nat.le_refl _) hb8)
        | (refine step_append_flds rfl (.tmp 41) (.tmp 44) rfl w6.heap.size _ (ofs et tm) [(nRange, SP)] ho7 (some ⟨w6.heap.size, 0, none⟩) 1 ((one_fs w6.drew nRange SP).below hb7) (fun h => by cases h) (hS7.2.2.1) (show 3 ≤ 4294967300 by decide) rfl rfl ?_; intro ar cr w8 ho8 hb8; have hS8 := S7.below hS7 HZ6.out (Nat.le_refl _) hb8)
        | (refine SgC.step_append_nil rfl (.const (.slice none 0 0)) (.tmp 51) rfl w8.heap.size PT (some ⟨b, o + f, none⟩) (cd - f) (HP.out.below hS8.2.1) (Nat.le_refl _) HLP.out rfl (by rw [HPL.out]; rfl) ?_; intro ag cg w9 ho9 hb9; have hS9 := S7.below hS8 HZ6.out hS8.2.2.1 hb9; obtain ⟨x9, x8, x7, hR9⟩ := hS9.2.2.2; obtain ⟨r0, r1, r2, f0, f1, f2⟩ := hR9.cells))
    all_goals
      go_wp2_with fail
      refine bodyPost_ret (Rb.run 6 (hR9.put _ _ _) rfl rfl) rfl ⟨⟨_, _, _, _, (by rw [← HPT.out, ← HSP.out]; rfl), ?_, ?_⟩, ?_⟩
      · rw [← HSP.out]
        exact own_down (own_st3 (Com.own_below ho8 hb9) (by have := HZ6.out; omega) _ _ _) (by have := HZ6.out; omega)
      · rw [← HPT.out]
        exact own_down (own_st3 ho9 (by have := HZ6.out; have := hS8.2.2.1; omega) _ _ _) (by have := HZ6.out; have := hS8.2.2.1; omega)
      · exact (S7.st hS9 _ _ _).2.1
end Go.Proofs.YtidflagmdabfaaaGreatDoor.RtJ
namespace Go.Proofs.YtidflagmdabfaaaGreatDoor.UriQ
open Go.RowKit Go.Proofs.YtidflagmdabfaaaGreatDoor Go.Proofs.YtidflagmdabfaaaGreatDoor.UriC Go.Proofs.YtidflagmdabfaaaGreatDoor.UriN Go.Proofs.YtidflagmdabfaaaGreatDoor.UriO Go.Proofs.YtidflagmdabfaaaGreatDoor.UriR

/-- a pair's value -/
def gt (ps : List Pr) (n : List UInt8) : Option (List UInt8) := (ps.find? fun q => q.1 == n).map (·.2)
theorem gt_drop {ps : List Pr} {k : Nat} {q : Pr} (n : List UInt8) (h : ps[k]? = some q) : gt (ps.drop k) n = if q.1 = n then some q.2 else gt (ps.drop (k + 1)) n := by
  obtain ⟨hk, rfl⟩ := List.getElem?_eq_some_iff.1 h
  rw [List.drop_eq_getElem_cons hk]
  unfold gt
  rw [List.find?_cons]
  by_cases e : ps[k].1 = n
  · simp [e]
  · have : (ps[k].1 == n) = false := by simpa using e
    rw [this, if_neg e]
theorem cells_at {w : World} {a : Option Addr} {ps : List Pr} (hp : Pairs w a ps) {k : Nat} {q : Pr} (h : ps[k]? = some q) : ∃ b o, a = some ⟨b, o, none⟩ ∧ b < w.heap.size ∧ w.cell? ⟨b, o + k * 2, none⟩ = some (.string ⟨q.1.toArray⟩) ∧ w.cell? ⟨b, o + k * 2 + 1, none⟩ = some (.string ⟨q.2.toArray⟩) := by
  rcases hp with hp | ⟨b, o, h1, h2, h3⟩
  · subst hp; cases h
  · exact ⟨b, o, h1, h2, h3 k q h⟩

set_option maxHeartbeats 4000000 in
set_option maxRecDepth 100000 in
theorem get (p : Value) {a : Option Addr} {ps : List Pr} (n : List UInt8) (c : Nat) (w : World) (hp : Pairs w a ps) (hl : ps.length ≤ 4294967296) :
    Calls Tryz.prog 216 #[.agg #[p, .slice a ps.length c], .string ⟨n.toArray⟩] w fun e w' => e = .returned (.tuple #[.string ⟨((gt ps n).getD []).toArray⟩, .bool (gt ps n).isSome]) ∧ Below w.heap.size w w' := by
  have HP := Lib.hid hp; clear hp
  go_enter Tryz.func216, Tryz.ntmps216
  go_wp2_with fail
  go_loopg [11] ps.length (fun g v11 wr => ∃ k : Nat, k + g = ps.length ∧ v11 = .int .i64 k ∧ Hid (gt ps n = gt (ps.drop k) n) ∧ Below w.heap.size w wr)
  case atStart => exact ⟨0, by simp, rfl, by unfold Hid; rfl, (Below.refl _ w).alloc (Nat.le_refl _) _⟩
  case round =>
    obtain ⟨k, hkg, rfl, HN, hb⟩ := hrel
    have HG := Lib.hid hkg; clear hkg
    have HBB := Lib.hid hb
    by_cases hlt : k < ps.length
    · obtain ⟨q, hqk⟩ : ∃ q, ps[k]? = some q := ⟨ps[k], List.getElem?_eq_getElem hlt⟩
      obtain ⟨b, o, rfl, hbb, d0, d1⟩ := cells_at HP.out hqk
      have c0 := (hb.cell (p := ⟨b, o + k * 2, none⟩) hbb).trans d0
      have c1 := (hb.cell (p := ⟨b, o + k * 2 + 1, none⟩) hbb).trans d1
      have HD := Lib.hid (gt_drop n hqk)
      obtain ⟨nm, vl⟩ := q
      simp only at c0 c1
      clear d0 d1 hqk hb
      by_cases e : nm = n
      · have HV := Lib.hid (show gt ps n = some vl by rw [HN.out, HD.out, if_pos e])
        subst e
        go_wp2_with fail
        go_ret2
        exact ⟨by rw [HV.out]; rfl, HBB.out.alloc HBB.out.size _⟩
      · have HV : Hid (gt ps n = gt (ps.drop (k + 1)) n) := by unfold Hid; rw [HN.out, HD.out, if_neg e]
        have t1 : (nm == n) = false := by simpa using e
        clear e
        go_wp2_with fail
        go_roundg (ps.length - (k + 1))
        case rel => exact ⟨k + 1, by omega, by go_num, HV, HBB.out.alloc HBB.out.size _⟩
        case measure => have := HG.out; omega
    · have HV := Lib.hid (show gt ps n = none by rw [HN.out, List.drop_eq_nil_of_le (by omega)]; rfl)
      go_wp2_with fail
      go_ret2
      exact ⟨by rw [HV.out]; rfl, hb⟩
end Go.Proofs.YtidflagmdabfaaaGreatDoor.UriQ
