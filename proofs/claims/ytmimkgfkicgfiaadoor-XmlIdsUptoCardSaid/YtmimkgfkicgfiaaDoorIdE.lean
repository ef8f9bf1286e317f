/-
  The walk of package xml's ParseId.
-/
import Derived.Test.YtmimkgfkicgfiaaDoorIdD
namespace Go.Proofs.YtmimkgfkicgfiaaDoor.IdE
open Go.RowKit Go.Proofs.YtmimkgfkicgfiaaDoor Go.Proofs.YtmimkgfkicgfiaaDoor.Ip Go.Proofs.YtmimkgfkicgfiaaDoor.IdC Go.Proofs.YtmimkgfkicgfiaaDoor.IdD

def Is (t : List UInt8) (a b c : Nat) : Prop := t = idt a b c ∧ good a b c
/-- what ParseId answers -/
def PX (t : List UInt8) (e : Ending) : Prop :=
  (∃ a b c, Is t a b c ∧ e = .returned (.tuple #[idV a b c, .bool true])) ∨ ((¬ ∃ a b c, Is t a b c) ∧ e = .returned (.tuple #[idV 0 0 0, .bool false]))
/-- the array's block -/
def Ab (B : Nat) (w : World) (x y z : Value) : Prop := w.heap[B]? = some (.cells #[x, y, z] 151 (0, 0))
theorem Ab.below {B : Nat} {w w' : World} {x y z : Value} (h : Ab B w x y z) (hb : Below w.heap.size w w') : Ab B w' x y z := (hb.block _ (Array.getElem?_eq_some_iff.1 h).1).trans h
theorem Ab.lt {B : Nat} {w : World} {x y z : Value} (h : Ab B w x y z) : B < w.heap.size := (Array.getElem?_eq_some_iff.1 h).1
theorem Ab.cells {B : Nat} {w : World} {x y z : Value} (h : Ab B w x y z) : w.cell? ⟨B, 0, none⟩ = some x ∧ w.cell? ⟨B, 1, none⟩ = some y ∧ w.cell? ⟨B, 2, none⟩ = some z ∧ w.frozen? ⟨B, 0, none⟩ = false ∧ w.frozen? ⟨B, 1, none⟩ = false ∧ w.frozen? ⟨B, 2, none⟩ = false := by
  unfold Ab at h
  refine ⟨?_, ?_, ?_, Lib.frozen_of_heap h 0, Lib.frozen_of_heap h 1, Lib.frozen_of_heap h 2⟩
  all_goals (rw [Lib.cell_of_heap h]; rfl)
theorem Ab.put0 {B : Nat} {w : World} {x y z : Value} (h : Ab B w x y z) (a : Value) : Ab B (w.setCell ⟨B, 0, none⟩ a) a y z := by
  unfold Ab at h ⊢
  simp only [World.setCell, Array.getElem?_modify, if_true, h]
  rfl
theorem Ab.put1 {B : Nat} {w : World} {x y z : Value} (h : Ab B w x y z) (a : Value) : Ab B (w.setCell ⟨B, 1, none⟩ a) x a z := by
  unfold Ab at h ⊢
  simp only [World.setCell, Array.getElem?_modify, if_true, h]
  rfl
theorem Ab.put2 {B : Nat} {w : World} {x y z : Value} (h : Ab B w x y z) (a : Value) : Ab B (w.setCell ⟨B, 2, none⟩ a) x y a := by
  unfold Ab at h ⊢
  simp only [World.setCell, Array.getElem?_modify, if_true, h]
  rfl
/-- the three words' block -/
def Wb (B : Nat) (w : World) (x y z : ByteArray) : Prop := w.heap[B]? = some (.cells #[.string x, .string y, .string z] 9 (0, 0))
theorem Wb.cells {B : Nat} {w : World} {x y z : ByteArray} (h : Wb B w x y z) : w.cell? ⟨B, 0, none⟩ = some (.string x) ∧ w.cell? ⟨B, 1, none⟩ = some (.string y) ∧ w.cell? ⟨B, 2, none⟩ = some (.string z) := by
  unfold Wb at h
  refine ⟨?_, ?_, ?_⟩
  all_goals (rw [Lib.cell_of_heap h]; rfl)
/-- what stands between two rounds -/
structure St (w W : World) (x y z : ByteArray) (n0 n1 n2 : Int) : Prop where
  bel : Below w.heap.size w W
  id : Ib w.heap.size W (.int .i64 0) (.int .i64 0) (.int .i64 0)
  wd : Wb (w.heap.size + 1) W x y z
  ar : Ab (w.heap.size + 2) W (.int .i64 n0) (.int .i64 n1) (.int .i64 n2)
theorem St.below {w W W' : World} {x y z : ByteArray} {n0 n1 n2 : Int} (h : St w W x y z n0 n1 n2) (hb : Below W.heap.size W W') : St w W' x y z n0 n1 n2 :=
  ⟨h.bel.trans (hb.mono h.bel.size), h.id.below hb, (hb.block _ (Array.getElem?_eq_some_iff.1 h.wd).1).trans h.wd, h.ar.below hb⟩
theorem St.far {w W : World} {x y z : ByteArray} {n0 n1 n2 : Int} (h : St w W x y z n0 n1 n2) (i : Nat) (v : Value) : Below w.heap.size w (W.setCell ⟨w.heap.size + 2, i, none⟩ v) ∧ Ib w.heap.size (W.setCell ⟨w.heap.size + 2, i, none⟩ v) (.int .i64 0) (.int .i64 0) (.int .i64 0) ∧ Wb (w.heap.size + 1) (W.setCell ⟨w.heap.size + 2, i, none⟩ v) x y z :=
  ⟨h.bel.setCell (p := ⟨w.heap.size + 2, i, none⟩) (by simp only; omega) v, (Below.heap_setCell _ _ _ _ (by simp only; omega)).trans h.id, (Below.heap_setCell _ _ _ _ (by simp only; omega)).trans h.wd⟩
theorem St.put0 {w W : World} {x y z : ByteArray} {n0 n1 n2 : Int} (h : St w W x y z n0 n1 n2) (n : Int) : St w (W.setCell ⟨w.heap.size + 2, 0, none⟩ (.int .i64 n)) x y z n n1 n2 :=
  ⟨(h.far 0 _).1, (h.far 0 _).2.1, (h.far 0 _).2.2, h.ar.put0 _⟩
theorem St.put1 {w W : World} {x y z : ByteArray} {n0 n1 n2 : Int} (h : St w W x y z n0 n1 n2) (n : Int) : St w (W.setCell ⟨w.heap.size + 2, 1, none⟩ (.int .i64 n)) x y z n0 n n2 :=
  ⟨(h.far 1 _).1, (h.far 1 _).2.1, (h.far 1 _).2.2, h.ar.put1 _⟩
theorem St.put2 {w W : World} {x y z : ByteArray} {n0 n1 n2 : Int} (h : St w W x y z n0 n1 n2) (n : Int) : St w (W.setCell ⟨w.heap.size + 2, 2, none⟩ (.int .i64 n)) x y z n0 n1 n :=
  ⟨(h.far 2 _).1, (h.far 2 _).2.1, (h.far 2 _).2.2, h.ar.put2 _⟩

theorem words3 {l : List UInt8} (h : Lib.count l [45] = 2) : ∃ x y z : ByteArray, Lib.splitB ⟨#[45]⟩ 0 2 ⟨l.toArray⟩ = [x, y, z] ∧ Lib.split l [45] = [x.data.toList, y.data.toList, z.data.toList] := by
  have hl := Lib.splitB_all ⟨#[45]⟩ (by decide) 0 2 ⟨l.toArray⟩ h
  have hd := Lib.splitB_data ⟨#[45]⟩ 0 2 ⟨l.toArray⟩
  match hb : Lib.splitB ⟨#[45]⟩ 0 2 ⟨l.toArray⟩, hl with
  | [x, y, z], _ =>
    refine ⟨x, y, z, rfl, ?_⟩
    unfold Lib.split
    rw [h]
    rw [hb] at hd
    exact hd.symm
theorem count_idt (a b c : Nat) : Lib.count (idt a b c) [45] = 2 := by
  rw [Lib.count_one]
  have f : ∀ u, List.count 45 (Lib.decDigits u) = 0 := fun u => List.count_eq_zero.2 (free45 u)
  simp [idt, f]
theorem word_len : ∀ (k : Nat) (s : ByteArray), ∀ x ∈ Lib.splitB ⟨#[45]⟩ 0 k s, x.size ≤ s.size := by
  intro k
  induction k with
  | zero => intro s x hx; rw [Lib.splitB_zero, List.mem_singleton] at hx; rw [hx]; exact Nat.le_refl _
  | succ k ih =>
    intro s x hx
    unfold Lib.splitB at hx
    split at hx
    · rw [List.mem_singleton] at hx; rw [hx]; exact Nat.le_refl _
    · rcases List.mem_cons.1 hx with rfl | hx
      · simp [ByteArray.size_extract]; omega
      · have := ih _ x hx
        rw [ByteArray.size_extract] at this
        omega
theorem good_small {a b c : Nat} (h : good a b c) : a < 10 ^ 14 ∧ b < 10 ^ 14 ∧ c < 10 ^ 14 := by
  obtain ⟨h1, h2, h3⟩ := h
  have : (10 ^ 14 : Nat) = 100000000000000 := by decide
  omega
/-- the words of an id's text are its numerals -/
theorem words_of {l : List UInt8} {x y z : ByteArray} (hw : Lib.split l [45] = [x.data.toList, y.data.toList, z.data.toList]) {a b c : Nat} (h : Is l a b c) : vA x.data.toList = a ∧ vA y.data.toList = b ∧ vA z.data.toList = c := by
  obtain ⟨h1, h2⟩ := h
  rw [h1, split_idt] at hw
  obtain ⟨g1, g2, g3⟩ := good_small h2
  simp only [List.cons.injEq, and_true] at hw
  obtain ⟨e1, e2, e3⟩ := hw
  rw [← e1, ← e2, ← e3]
  exact ⟨vA_dec g1, vA_dec g2, vA_dec g3⟩

set_option maxHeartbeats 8000000 in
set_option maxRecDepth 100000 in
theorem parseId (l : List UInt8) (w : World) (hs : l.length ≤ 16777216) (hm : Mx w) (hn : Ne w) (ht : XmlH.Tab w) :
    Calls Tryd.prog 54 #[.string ⟨l.toArray⟩] w fun e w' => PX l e ∧ Below w.heap.size w w' := by
  have hb0 : Below w.heap.size w (w.alloc (.cells #[.int .i64 0, .int .i64 0, .int .i64 0] 51)) := (Below.refl _ _).alloc (Nat.le_refl _) _
  have hI : Ib w.heap.size (w.alloc (.cells #[.int .i64 0, .int .i64 0, .int .i64 0] 51)) (.int .i64 0) (.int .i64 0) (.int .i64 0) := heap_alloc_new _ _
  obtain ⟨mm, hm0⟩ := hm.below hb0
  have HSP := Lib.hid (Tryd.strings_Split ⟨l.toArray⟩ ⟨#[45]⟩ mm (w.alloc (.cells #[.int .i64 0, .int .i64 0, .int .i64 0] 51)) (by rw [Com.size_mk]; omega) hm0 (by decide))
  by_cases hc : Lib.count l [45] = 2
  · obtain ⟨x, y, z, hws, hsp⟩ := words3 hc
    have hwl : ∀ u ∈ [x, y, z], u.size ≤ 16777216 := fun u hu => by
      rw [← hws] at hu
      exact Nat.le_trans (word_len 2 _ u hu) (by rw [Com.size_mk]; exact hs)
    have hx1 := hwl x (by simp); have hy1 := hwl y (by simp); have hz1 := hwl z (by simp)
    have HC : Calls Tryd.prog 98 #[.string ⟨l.toArray⟩, .string ⟨#[45]⟩] (w.alloc (.cells #[.int .i64 0, .int .i64 0, .int .i64 0] 51)) fun e w' => e = .returned (.slice (some ⟨w.heap.size + 1, 0, none⟩) 3 3) ∧ w' = (w.alloc (.cells #[.int .i64 0, .int .i64 0, .int .i64 0] 51)).alloc (.cells #[.string x, .string y, .string z] 9) := by
      refine HSP.out.mono ?_
      rintro e w' ⟨rfl, rfl⟩
      rw [show Lib.countB ⟨l.toArray⟩ ⟨#[45]⟩ = 2 from hc, hws, World.size_alloc]
      exact ⟨rfl, rfl⟩
    have HCH := Lib.hid HC
    have hS0 : St w (((w.alloc (.cells #[.int .i64 0, .int .i64 0, .int .i64 0] 51)).alloc (.cells #[.string x, .string y, .string z] 9)).alloc (.cells #[.int .i64 0, .int .i64 0, .int .i64 0] 151)) x y z 0 0 0 := by
      refine ⟨(hb0.alloc hb0.size _).alloc (hb0.alloc hb0.size _).size _, ?_, ?_, ?_⟩
      · exact (Below.heap_alloc _ _ _ (by simp; omega)).trans ((Below.heap_alloc _ _ _ (by simp)).trans hI)
      · refine (Below.heap_alloc _ _ _ (by simp)).trans ?_
        have := heap_alloc_new (w.alloc (.cells #[.int .i64 0, .int .i64 0, .int .i64 0] 51)) (.cells #[.string x, .string y, .string z] 9)
        rwa [World.size_alloc] at this
      · have := heap_alloc_new ((w.alloc (.cells #[.int .i64 0, .int .i64 0, .int .i64 0] 51)).alloc (.cells #[.string x, .string y, .string z] 9)) (.cells #[.int .i64 0, .int .i64 0, .int .i64 0] 151)
        rwa [World.size_alloc, World.size_alloc] at this
    have HS0 := Lib.hid hS0
    have HWD := Lib.hid (show ∀ a b c, Is l a b c → vA x.data.toList = a ∧ vA y.data.toList = b ∧ vA z.data.toList = c from fun a b c h => words_of hsp h)
    clear hS0 HC HSP hI hb0 hm0 hws hsp hwl hc
    go_enter Tryd.func54, Tryd.ntmps54
    go_wp2_with (go_at_call 98; refine HCH.out.mono ?_; rintro e w' ⟨rfl, rfl⟩)
    generalize hW : ((w.alloc (.cells #[.int .i64 0, .int .i64 0, .int .i64 0] 51)).alloc (.cells #[.string x, .string y, .string z] 9)).alloc (.cells #[.int .i64 0, .int .i64 0, .int .i64 0] 151) = W at *
    obtain ⟨n0, hn0⟩ : ∃ n, vA x.data.toList = n := ⟨_, rfl⟩
    obtain ⟨n1, hn1⟩ : ∃ n, vA y.data.toList = n := ⟨_, rfl⟩
    obtain ⟨n2, hn2⟩ : ∃ n, vA z.data.toList = n := ⟨_, rfl⟩
    have r0 := vA_in x.data.toList; have r1 := vA_in y.data.toList; have r2 := vA_in z.data.toList
    rw [hn0] at r0; rw [hn1] at r1; rw [hn2] at r2
    rw [hn0, hn1, hn2] at HWD
    clear hW
    obtain ⟨c0, c1, c2⟩ := HS0.out.wd.cells
    refine wp_loop_rounds 4 ?_
    rw [rounds_succ]
    go_wp2_with fail
    refine (atoi x _ (by omega) (hn.below HS0.out.bel)).mono ?_
    rintro e w1 ⟨⟨ev1, rfl⟩, hb1⟩
    rw [hn0]
    have S1 := HS0.out.below hb1
    obtain ⟨a0, a1, a2, f0, f1, f2⟩ := S1.ar.cells
    obtain ⟨c0, c1, c2⟩ := S1.wd.cells
    have T1 := Lib.hid (S1.put0 n0)
    clear hb1 S1
    go_wp2_with fail
    clear a0 a1 a2 f0 f1 f2 c0 c1 c2
    generalize w1.setCell ⟨w.heap.size + 2, 0, none⟩ (.int .i64 n0) = W1 at *
    obtain ⟨c0, c1, c2⟩ := T1.out.wd.cells
    rw [rounds_succ]
    go_wp2_with fail
    refine (atoi y _ (by omega) (hn.below T1.out.bel)).mono ?_
    rintro e w2 ⟨⟨ev2, rfl⟩, hb2⟩
    rw [hn1]
    have S2 := T1.out.below hb2
    obtain ⟨a0, a1, a2, f0, f1, f2⟩ := S2.ar.cells
    obtain ⟨c0, c1, c2⟩ := S2.wd.cells
    have T2 := Lib.hid (S2.put1 n1)
    clear hb2 S2
    go_wp2_with fail
    clear a0 a1 a2 f0 f1 f2 c0 c1 c2
    generalize w2.setCell ⟨w.heap.size + 2, 1, none⟩ (.int .i64 n1) = W2 at *
    obtain ⟨c0, c1, c2⟩ := T2.out.wd.cells
    rw [rounds_succ]
    go_wp2_with fail
    refine (atoi z _ (by omega) (hn.below T2.out.bel)).mono ?_
    rintro e w3 ⟨⟨ev3, rfl⟩, hb3⟩
    rw [hn2]
    have S3 := T2.out.below hb3
    obtain ⟨a0, a1, a2, f0, f1, f2⟩ := S3.ar.cells
    obtain ⟨c0, c1, c2⟩ := S3.wd.cells
    have T3 := Lib.hid (S3.put2 n2)
    clear hb3 S3
    go_wp2_with fail
    clear a0 a1 a2 f0 f1 f2 c0 c1 c2
    generalize w3.setCell ⟨w.heap.size + 2, 2, none⟩ (.int .i64 n2) = W3 at *
    obtain ⟨c0, c1, c2⟩ := T3.out.wd.cells
    rw [rounds_succ]
    obtain ⟨a0, a1, a2, _, _, _⟩ := T3.out.ar.cells
    have hbx : Below W3.heap.size W3 (W3.alloc (.cells #[.int .i64 n0, .int .i64 n1, .int .i64 n2] 51)) := (Below.refl _ _).alloc (Nat.le_refl _) _
    have hK : Ib W3.heap.size (W3.alloc (.cells #[.int .i64 n0, .int .i64 n1, .int .i64 n2] 51)) (.int .i64 n0) (.int .i64 n1) (.int .i64 n2) := heap_alloc_new _ _
    have hI := T3.out.id.below hbx
    have hB := T3.out.bel.trans (hbx.mono T3.out.bel.size)
    have HK := Lib.hid hK; have HI := Lib.hid hI; have HB := Lib.hid hB
    clear hbx hK hI hB
    go_wp2_with fail
    refine (IdA.good n0 n1 n2 r0 r1 r2 _).mono ?_
    rintro e w5 ⟨rfl, hb5⟩
    have hK5 := HK.out.below hb5
    have hI5 := HI.out.below hb5
    have hB5 := HB.out.trans (hb5.mono HB.out.size)
    obtain ⟨k0, k1, k2, _, _, _⟩ := hK5.cells
    obtain ⟨i0, i1, i2, o0, o1, o2⟩ := hI5.cells
    have HK5 := Lib.hid hK5; have HI5 := Lib.hid hI5; have HB5 := Lib.hid hB5
    clear hK5 hI5 hB5 hb5 a0 a1 a2 c0 c1 c2
    cases hg : IdA.gd n0 n1 n2 with
    | false =>
      have hno : ¬ ∃ a b c, Is l a b c := fun ⟨a, b, c, h⟩ => by
        obtain ⟨e1, e2, e3⟩ := HWD.out a b c h
        rw [gd_good.2 ⟨a, b, c, e1, e2, e3, h.2⟩] at hg
        cases hg
      go_wp2_with fail
      exact bodyPost_ret ((HI5.out.put (.int .i64 0) (.int .i64 0) (.int .i64 0)).runX rfl rfl) rfl ⟨.inr ⟨hno, rfl⟩, below_put HB5.out _ _ _⟩
    | true =>
      obtain ⟨a, b, c, e1, e2, e3, hgd⟩ := gd_good.1 hg
      have HT := Lib.hid (show Xd.idText n0 n1 n2 = idt a b c by rw [e1, e2, e3]; exact idText_nat a b c)
      have HE := Lib.hid (show n0 = (a : Int) ∧ n1 = (b : Int) ∧ n2 = (c : Int) from ⟨e1, e2, e3⟩)
      clear e1 e2 e3
      have i64a : Xd.I64 n0 := r0
      have i64b : Xd.I64 n1 := r1
      have i64c : Xd.I64 n2 := r2
      have htb : XmlH.Tab w5 := XmlH.Tab.below ht HB5.out
      have HID := Lib.hid (XmlL.id n0 n1 n2 w5 i64a i64b i64c htb)
      clear i64a i64b i64c htb
      go_wp2_with fail
      refine HID.out.mono ?_
      rintro e w6 ⟨rfl, hb6⟩
      have hK6 := HK5.out.below hb6
      have hI6 := HI5.out.below hb6
      have hB6 := HB5.out.trans (hb6.mono HB5.out.size)
      clear k0 k1 k2 i0 i1 i2 o0 o1 o2
      obtain ⟨k0, k1, k2, _, _, _⟩ := hK6.cells
      obtain ⟨i0, i1, i2, o0, o1, o2⟩ := hI6.cells
      have HI6 := Lib.hid hI6; have HB6 := Lib.hid hB6
      generalize Xd.idText n0 n1 n2 = T at *
      clear hK6 hI6 hB6 hb6
      by_cases hTl : T = l
      · have t1 : (T == l) = true := by simpa using hTl
        have HTL := Lib.hid hTl
        clear hTl
        go_wp2_with fail
        refine bodyPost_ret ((HI6.out.put (.int .i64 n0) (.int .i64 n1) (.int .i64 n2)).runX rfl rfl) rfl ⟨.inl ⟨a, b, c, ⟨by rw [← HTL.out, HT.out], hgd⟩, ?_⟩, below_put HB6.out _ _ _⟩
        obtain ⟨e1, e2, e3⟩ := HE.out
        rw [← e1, ← e2, ← e3]
        rfl
      · have t1 : (T == l) = false := by simpa using hTl
        have hno : ¬ ∃ a b c, Is l a b c := fun ⟨a', b', c', h⟩ => by
          obtain ⟨e1, e2, e3⟩ := HWD.out a' b' c' h
          obtain ⟨d1, d2, d3⟩ := HE.out
          obtain rfl : a = a' := by omega
          obtain rfl : b = b' := by omega
          obtain rfl : c = c' := by omega
          exact hTl (by rw [HT.out, h.1])
        clear hTl
        go_wp2_with fail
        exact bodyPost_ret ((HI6.out.put (.int .i64 0) (.int .i64 0) (.int .i64 0)).runX rfl rfl) rfl ⟨.inr ⟨hno, rfl⟩, below_put HB6.out _ _ _⟩
  · have hno : ¬ ∃ a b c, Is l a b c := fun ⟨a, b, c, h⟩ => hc (by rw [h.1]; exact count_idt a b c)
    have hc3 : (((Lib.count l [45] + 1 : Nat) : Int) != 3) = true := by simp; omega
    have HC : Calls Tryd.prog 98 #[.string ⟨l.toArray⟩, .string ⟨#[45]⟩] (w.alloc (.cells #[.int .i64 0, .int .i64 0, .int .i64 0] 51)) fun e w' => e = .returned (.slice (some ⟨w.heap.size + 1, 0, none⟩) (Lib.count l [45] + 1) (Lib.count l [45] + 1)) ∧ Below w.heap.size w w' ∧ Ib w.heap.size w' (.int .i64 0) (.int .i64 0) (.int .i64 0) := by
      refine HSP.out.mono ?_
      rintro e w' ⟨rfl, rfl⟩
      rw [World.size_alloc]
      exact ⟨rfl, hb0.alloc hb0.size _, (Below.heap_alloc _ _ _ (by simp)).trans hI⟩
    generalize Lib.count l [45] + 1 = n at *
    have HCH := Lib.hid HC
    clear HC HSP hI hb0 hm0 hc
    go_enter Tryd.func54, Tryd.ntmps54
    go_wp2_with fail
    refine HCH.out.mono ?_
    rintro e w1 ⟨rfl, hb1, hI1⟩
    obtain ⟨i0, i1, i2, o0, o1, o2⟩ := hI1.cells
    have HI1 := Lib.hid hI1; have HB1 := Lib.hid hb1
    clear hI1 hb1
    go_wp2_with fail
    exact bodyPost_ret ((HI1.out.put (.int .i64 0) (.int .i64 0) (.int .i64 0)).runX rfl rfl) rfl ⟨.inr ⟨hno, rfl⟩, below_put HB1.out _ _ _⟩
end Go.Proofs.YtmimkgfkicgfiaaDoor.IdE
