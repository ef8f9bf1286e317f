/-
  bollardref08.Parse, whole; the walk of bollardref19.ParseId.
-/
import Derived.Test.YtmimkgfkicgfiaaDoorIdC
namespace Go.Proofs.YtmimkgfkicgfiaaDoor.IdF
open Go.RowKit Go.Proofs.YtmimkgfkicgfiaaDoor Go.Proofs.YtmimkgfkicgfiaaDoor.Ip Go.Proofs.YtmimkgfkicgfiaaDoor.IdC

theorem stand {f : ByteArray} {L : List UInt8} {k : Nat} (h : f.data.toList.drop k = L) (hk : k ≤ f.size) : f.data.toList.drop (k + (digs L).length) = rest L ∧ k + (digs L).length ≤ f.size := by
  constructor
  · rw [← List.drop_drop, h]; rfl
  · have h1 := congrArg List.length h
    rw [List.length_drop, Com.toList_length] at h1
    have := (IdB.digs_len L).2
    omega
theorem at_nil {f : ByteArray} {k : Nat} (h : f.data.toList.drop k = []) : f.size ≤ k := by
  have := List.drop_eq_nil_iff.1 h
  rwa [Com.toList_length] at this
theorem at_cons {f : ByteArray} {k : Nat} {x : UInt8} {r : List UInt8} (h : f.data.toList.drop k = x :: r) : ∃ hlt : k < f.size, f[k] = x ∧ f.data.toList.drop (k + 1) = r := by
  have h1 : f.data.toList[k]? = some x := by
    have := congrArg (fun l => l[0]?) h
    simpa [List.getElem?_drop] using this
  obtain ⟨a1, a2⟩ := List.getElem?_eq_some_iff.1 h1
  refine ⟨by rw [← Com.toList_length]; exact a1, a2, ?_⟩
  rw [← List.drop_drop, h]; rfl
theorem val_digs (L : List UInt8) : val (digs L) < 100000000000000 := by
  have := IdB.val_take (L := L) (m := (digs L).length) (Nat.le_refl _)
  rwa [← IdB.digs_take] at this
/-- what number answers at a place -/
theorem num {f : ByteArray} {k : Nat} {ki : Int} {L : List UInt8} {p : Nat} {ok : Bool} (h : f.data.toList.drop k = L) (hk : k ≤ f.size) (hs : f.size ≤ 70368744177664) (hki : ki = (k : Int)) (hp : k + (digs L).length = p) (ho : okd (digs L) = ok) :
    Hid (∀ w, Calls Tryd.prog 129 #[.string f, .int .i64 ki] w fun e w' => e = .returned (.tuple #[.int .i64 (val (digs L) : Nat), .int .i64 (p : Nat), .bool ok]) ∧ w = w') := by
  subst hki hp ho h
  exact fun w => IdB.number f k hk hs w

def Yes (t : List UInt8) (a b c : Nat) : Prop := Reads t a b c ∧ good a b c
def P8 (t : List UInt8) (e : Ending) : Prop :=
  (∃ a b c, Yes t a b c ∧ e = .returned (.tuple #[idV a b c, .bool true])) ∨ ((¬ ∃ a b c, Yes t a b c) ∧ ∃ x y z : Nat, e = .returned (.tuple #[idV x y z, .bool false]))
theorem P8.no {t : List UInt8} (h : ¬ ∃ a b c, Yes t a b c) : P8 t (.returned (.tuple #[idV 0 0 0, .bool false])) := .inr ⟨h, 0, 0, 0, rfl⟩
theorem gd_nat (a b c : Nat) : IdA.gd a b c = true ↔ good a b c := by
  simp only [IdA.gd, Bool.and_eq_true, decide_eq_true_eq, good]
  omega

set_option maxRecDepth 100000 in
theorem parse (t : List UInt8) (w : World) (hl : t.length ≤ 35184372088832) :
    Calls Tryd.prog 102 #[.string ⟨(98 :: 45 :: t).toArray⟩] w fun e w' => P8 t e ∧ Below w.heap.size w w' := by
  have hz : (ByteArray.mk (98 :: 45 :: t).toArray).size = t.length + 2 := by rw [Com.size_mk]; rfl
  have hex : (ByteArray.mk (98 :: 45 :: t).toArray).extract 0 2 = ⟨#[98, 45]⟩ := by
    rw [← Com.mk_data ((ByteArray.mk (98 :: 45 :: t).toArray).extract 0 2), Com.extract_data]
    rfl
  have e0 : (ByteArray.mk (98 :: 45 :: t).toArray).data.toList.drop 2 = t := rfl
  generalize (ByteArray.mk (98 :: 45 :: t).toArray) = f at *
  have hs : f.size ≤ 70368744177664 := by omega
  have h2 : (2 : Int) ≤ f.size := by omega
  have hfs : (f.size : Int) ≤ 70368744177664 := by omega
  obtain ⟨e1, z1⟩ := stand e0 (by omega)
  have b1 := val_digs t
  obtain ⟨p1, hp1⟩ : ∃ p1, 2 + (digs t).length = p1 := ⟨_, rfl⟩
  obtain ⟨v1, hv1⟩ : ∃ v1, val (digs t) = v1 := ⟨_, rfl⟩
  have n1 := fun ok ho => num (ok := ok) e0 (by omega) hs rfl hp1 ho
  rw [hp1] at e1 z1
  rw [hv1] at n1 b1
  cases hok1 : okd (digs t) with
  | false =>
    have hno : ¬ ∃ a b c, Yes t a b c := fun ⟨a, b, c, h, _⟩ => by have := h.ok1; rw [hok1] at this; cases this
    exact (no_ok1 f v1 p1 w h2 hex (n1 _ hok1) hfs).mono fun e w' ⟨h1, h3⟩ => ⟨h1 ▸ P8.no hno, h3⟩
  | true =>
    have N1 := n1 _ hok1
    cases hr1 : rest t with
    | nil =>
      rw [hr1] at e1
      have := at_nil e1
      have hno : ¬ ∃ a b c, Yes t a b c := fun ⟨a, b, c, h, _⟩ => by have := h.m1; rw [hr1] at this; cases this
      exact (no_end1 f v1 p1 w h2 hex (by omega) N1 hfs).mono fun e w' ⟨h1, h3⟩ => ⟨h1 ▸ P8.no hno, h3⟩
    | cons x1 L2 =>
      rw [hr1] at e1
      obtain ⟨q1, g1, e2⟩ := at_cons e1
      by_cases hx1 : x1 = 45
      · subst hx1
        have t1 : ((f[p1].toNat : Int) != 45) = false := by rw [g1]; rfl
        obtain ⟨e3, z2⟩ := stand e2 (by omega)
        have b2 := val_digs L2
        obtain ⟨p2, hp2⟩ : ∃ p2, p1 + 1 + (digs L2).length = p2 := ⟨_, rfl⟩
        obtain ⟨v2, hv2⟩ : ∃ v2, val (digs L2) = v2 := ⟨_, rfl⟩
        have n2 := fun ok ho => num (ok := ok) (ki := (p1 : Int) + 1) e2 (by omega) hs (by omega) hp2 ho
        rw [hp2] at e3 z2
        rw [hv2] at n2 b2
        cases hok2 : okd (digs L2) with
        | false =>
          have hno : ¬ ∃ a b c, Yes t a b c := fun ⟨a, b, c, h, _⟩ => by have := h.ok2; rw [hr1, List.tail_cons, hok2] at this; cases this
          exact (no_ok2 f v1 v2 p1 p2 w h2 hex q1 t1 N1 (n2 _ hok2) hfs).mono fun e w' ⟨h1, h3⟩ => ⟨h1 ▸ P8.no hno, h3⟩
        | true =>
          have N2 := n2 _ hok2
          cases hr2 : rest L2 with
          | nil =>
            rw [hr2] at e3
            have := at_nil e3
            have hno : ¬ ∃ a b c, Yes t a b c := fun ⟨a, b, c, h, _⟩ => by have := h.m2; rw [hr1, List.tail_cons, hr2] at this; cases this
            exact (no_end2 f v1 v2 p1 p2 w h2 hex q1 t1 (by omega) N1 N2 hfs).mono fun e w' ⟨h1, h3⟩ => ⟨h1 ▸ P8.no hno, h3⟩
          | cons x2 L3 =>
            rw [hr2] at e3
            obtain ⟨q2, g2, e4⟩ := at_cons e3
            by_cases hx2 : x2 = 45
            · subst hx2
              have t2 : ((f[p2].toNat : Int) != 45) = false := by rw [g2]; rfl
              obtain ⟨e5, z3⟩ := stand e4 (by omega)
              have b3 := val_digs L3
              obtain ⟨p3, hp3⟩ : ∃ p3, p2 + 1 + (digs L3).length = p3 := ⟨_, rfl⟩
              obtain ⟨v3, hv3⟩ : ∃ v3, val (digs L3) = v3 := ⟨_, rfl⟩
              have n3 := fun ok ho => num (ok := ok) (ki := (p2 : Int) + 1) e4 (by omega) hs (by omega) hp3 ho
              rw [hp3] at e5 z3
              rw [hv3] at n3 b3
              cases hok3 : okd (digs L3) with
              | false =>
                have hno : ¬ ∃ a b c, Yes t a b c := fun ⟨a, b, c, h, _⟩ => by have := h.ok3; rw [hr1, List.tail_cons, hr2, List.tail_cons, hok3] at this; cases this
                exact (fin_no f v1 v2 v3 p1 p2 p3 w h2 hex q1 t1 q2 t2 N1 N2 (n3 _ hok3) hfs).mono fun e w' ⟨h1, h3⟩ => ⟨.inr ⟨hno, v1, v2, v3, h1⟩, h3⟩
              | true =>
                have N3 := n3 _ hok3
                cases hr3 : rest L3 with
                | cons x3 L4 =>
                  rw [hr3] at e5
                  obtain ⟨q3, _, _⟩ := at_cons e5
                  have hno : ¬ ∃ a b c, Yes t a b c := fun ⟨a, b, c, h, _⟩ => by have := h.done; rw [hr1, List.tail_cons, hr2, List.tail_cons, hr3] at this; cases this
                  exact (fin_more f v1 v2 v3 p1 p2 p3 w h2 hex q1 t1 q2 t2 (by simp; omega) N1 N2 N3 hfs).mono fun e w' ⟨h1, h3⟩ => ⟨.inr ⟨hno, v1, v2, v3, h1⟩, h3⟩
                | nil =>
                  rw [hr3] at e5
                  have hq3 := at_nil e5
                  have hrd : Reads t v1 v2 v3 := by
                    refine ⟨hok1, hv1, by rw [hr1]; rfl, ?_, ?_, ?_, ?_, ?_, ?_⟩
                    · rw [hr1]; exact hok2
                    · rw [hr1]; exact hv2
                    · rw [hr1, List.tail_cons, hr2]; rfl
                    · rw [hr1, List.tail_cons, hr2]; exact hok3
                    · rw [hr1, List.tail_cons, hr2]; exact hv3
                    · rw [hr1, List.tail_cons, hr2]; exact hr3
                  refine (fin_ok f v1 v2 v3 p1 p2 p3 w h2 hex q1 t1 q2 t2 (by simp; omega) b1 b2 b3 N1 N2 N3 hfs).mono fun e w' ⟨h1, h3⟩ => ⟨?_, h3⟩
                  cases hg : IdA.gd v1 v2 v3 with
                  | true => exact .inl ⟨v1, v2, v3, ⟨hrd, (gd_nat _ _ _).1 hg⟩, by rw [h1, hg]⟩
                  | false =>
                    refine .inr ⟨fun ⟨a, b, c, h, g⟩ => ?_, v1, v2, v3, by rw [h1, hg]⟩
                    have w1 := h.a; have w2 := h.b; have w3 := h.c
                    rw [hv1] at w1
                    rw [hr1, List.tail_cons, hv2] at w2
                    rw [hr1, List.tail_cons, hr2, List.tail_cons, hv3] at w3
                    subst w1 w2 w3
                    rw [(gd_nat _ _ _).2 g] at hg
                    cases hg
            · have t2 : ((f[p2].toNat : Int) != 45) = true := by rw [g2]; simpa [bne] using Com.u8_ne (c := x2) (d := 45) hx2 (n := 45) rfl
              have hno : ¬ ∃ a b c, Yes t a b c := fun ⟨a, b, c, h, _⟩ => by have := h.m2; rw [hr1, List.tail_cons, hr2] at this; simp at this; exact hx2 this
              exact (no_at2 f v1 v2 p1 p2 w h2 hex q1 t1 q2 t2 N1 N2 hfs).mono fun e w' ⟨h1, h3⟩ => ⟨h1 ▸ P8.no hno, h3⟩
      · have t1 : ((f[p1].toNat : Int) != 45) = true := by rw [g1]; simpa [bne] using Com.u8_ne (c := x1) (d := 45) hx1 (n := 45) rfl
        have hno : ¬ ∃ a b c, Yes t a b c := fun ⟨a, b, c, h, _⟩ => by have := h.m1; rw [hr1] at this; simp at this; exact hx1 this
        exact (no_at1 f v1 p1 w h2 hex q1 t1 N1 hfs).mono fun e w' ⟨h1, h3⟩ => ⟨h1 ▸ P8.no hno, h3⟩

/-- what ParseId answers -/
def PX (t : List UInt8) (e : Ending) : Prop :=
  (∃ a b c, Yes t a b c ∧ e = .returned (.tuple #[idV a b c, .bool true])) ∨ ((¬ ∃ a b c, Yes t a b c) ∧ e = .returned (.tuple #[idV 0 0 0, .bool false]))

set_option maxHeartbeats 2000000 in
set_option maxRecDepth 100000 in
theorem parseId (t : List UInt8) (w : World) (hl : t.length ≤ 35184372088832) :
    Calls Tryd.prog 57 #[.string ⟨t.toArray⟩] w fun e w' => PX t e ∧ Below w.heap.size w w' := by
  have hI : Ib w.heap.size (w.alloc (.cells #[.int .i64 0, .int .i64 0, .int .i64 0] 51)) (.int .i64 0) (.int .i64 0) (.int .i64 0) := heap_alloc_new _ _
  have hB : Below w.heap.size w (w.alloc (.cells #[.int .i64 0, .int .i64 0, .int .i64 0] 51)) := (Below.refl _ _).alloc (Nat.le_refl _) _
  have hcat : (⟨#[98, 45]⟩ : ByteArray) ++ ⟨t.toArray⟩ = ⟨(98 :: 45 :: t).toArray⟩ := Com.mk_append [98, 45] t
  have HI := Lib.hid hI; have HB := Lib.hid hB
  clear hI hB
  go_enter Tryd.func57, Tryd.ntmps57
  go_wp2_with fail
  refine (parse t _ hl).mono ?_
  rintro e w1 ⟨hP, hb1⟩
  have hI1 := HI.out.below hb1
  have hB1 := HB.out.trans (hb1.mono HB.out.size)
  obtain ⟨i0, i1, i2, f0, f1, f2⟩ := hI1.cells
  have HI1 := Lib.hid hI1; have HB1 := Lib.hid hB1
  clear hI1 hB1 hb1
  rcases hP with ⟨a, b, c, hy, rfl⟩ | ⟨hno, x, y, z, rfl⟩
  · have hg := (gd_nat a b c).2 hy.2
    obtain ⟨g1, g2, g3⟩ := hy.2
    have HY := Lib.hid hy
    clear hy
    have hbx : Below w1.heap.size w1 (w1.alloc (.cells #[.int .i64 a, .int .i64 b, .int .i64 c] 51)) := (Below.refl _ _).alloc (Nat.le_refl _) _
    have hK : Ib w1.heap.size (w1.alloc (.cells #[.int .i64 a, .int .i64 b, .int .i64 c] 51)) (.int .i64 a) (.int .i64 b) (.int .i64 c) := heap_alloc_new _ _
    have HBX := Lib.hid hbx; have HK := Lib.hid hK
    clear hbx hK
    go_wp2_with fail
    refine (IdA.refGood a b c ⟨by omega, by omega⟩ ⟨by omega, by omega⟩ ⟨by omega, by omega⟩ _).mono ?_
    rintro e w2 ⟨rfl, hb2⟩
    rw [hg]
    obtain ⟨k0, k1, k2, _⟩ := (HK.out.below hb2).cells
    have hI2 := (HI1.out.below HBX.out).below hb2
    obtain ⟨m0, m1, m2, o0, o1, o2⟩ := hI2.cells
    have hB2 := (HB1.out.trans (HBX.out.mono HB1.out.size)).trans (hb2.mono (Nat.le_trans HB1.out.size HBX.out.size))
    have mI := hI2.put (.int .i64 a) (.int .i64 b) (.int .i64 c)
    have mB := below_put hB2 (.int .i64 a) (.int .i64 b) (.int .i64 c)
    have MI := Lib.hid mI; have MB := Lib.hid mB
    clear hI2 hB2 mI mB hb2
    go_wp2_with fail
    exact bodyPost_ret (MI.out.run19 rfl rfl) rfl ⟨.inl ⟨a, b, c, HY.out, rfl⟩, MB.out⟩
  · have hbx : Below w1.heap.size w1 (w1.alloc (.cells #[.int .i64 x, .int .i64 y, .int .i64 z] 51)) := (Below.refl _ _).alloc (Nat.le_refl _) _
    have hI2 := HI1.out.below hbx
    obtain ⟨m0, m1, m2, o0, o1, o2⟩ := hI2.cells
    have hp := HI1.out.put (.int .i64 0) (.int .i64 0) (.int .i64 0)
    have hq := below_put HB1.out (.int .i64 0) (.int .i64 0) (.int .i64 0)
    have MI := Lib.hid (hp.below ((Below.refl _ _).alloc (Nat.le_refl _) (.cells #[.int .i64 x, .int .i64 y, .int .i64 z] 51)))
    have MB := Lib.hid (hq.alloc hq.size (.cells #[.int .i64 x, .int .i64 y, .int .i64 z] 51))
    have hlt := HI1.out.lt
    clear hbx hI2 hp hq
    go_wp2_with fail
    exact bodyPost_ret (MI.out.run19 rfl rfl) rfl ⟨.inr ⟨hno, rfl⟩, MB.out⟩
end Go.Proofs.YtmimkgfkicgfiaaDoor.IdF
