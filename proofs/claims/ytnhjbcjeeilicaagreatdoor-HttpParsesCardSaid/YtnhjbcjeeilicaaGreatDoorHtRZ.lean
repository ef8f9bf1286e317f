/-
  What the rows on HTTP share: the listed variables out of the listing; requests, responses and bytes that came in.
-/
import Derived.Test.YtnhjbcjeeilicaaGreatDoorRowKit
import Derived.Test.YtnhjbcjeeilicaaGreatDoorHtK
import Derived.Test.YtnhjbcjeeilicaaGreatDoorErr
import Derived.Test.YtnhjbcjeeilicaaGreatDoorCards
import Derived.Test.YtnhjbcjeeilicaaGreatDoorTie
import Derived.Deep.DeepHandedRow
import Derived.Stop.LaidErr
import Derived.Deep.DeepWitnessRowRef
import Derived.LaidMore
import Derived.Lay
import Derived.Lib.LaidTab
import Derived.ChangeSlices
import Derived.SizedLaws
import Derived.Shelf.LaysM
namespace Go.Proofs.YtnhjbcjeeilicaaGreatDoor.HtRZ
open Go.ChangeShapes Go.WideShapes Go.ChangeAt Go.RowKit Go.Proofs.YtnhjbcjeeilicaaGreatDoor Go.Proofs.YtnhjbcjeeilicaaGreatDoor.Ht Go.Proofs.YtnhjbcjeeilicaaGreatDoor.HtW
open Go.ChangeMaps (open_string shut_string)

theorem star : "*" ++ "errors.errorString" = "*errors.errorString" := by decide
theorem row (u : TypeId) (h : Tryz.prog.typeName? 3 u = some "*errors.errorString") : u = 126 :=
  typeName_ptr_named (nm := "errors.errorString") (by rw [star]; kernel_rfl) (by kernel_rfl) (by decide) u (by rw [star]; exact h)
theorem cS : Tryz.prog.cellsOf 128 = 1 := by kernel_rfl
theorem cT : Tryz.prog.cellsOf 9 = 1 := by kernel_rfl
theorem tabType : (Tryz.prog.globals[21]?).map (·.type) = some 119 := by kernel_rfl
theorem cellsTab : Tryz.prog.cellsOf 119 = 20 := by kernel_rfl
theorem cellsU64 : Tryz.prog.cellsOf 101 = 1 := by kernel_rfl
theorem tab {W : World} (h : laidMetH Tryz.prog Rows.httpParsesRow.laid W) : HtK.Tab W := by
  rw [MakeChecks.laidMetH_plain _ _ _ (by kernel_rfl)] at h
  refine Lib.tabIs_of_head (rest := Rows.httpParsesRow.laid.drop 3) HtK.tabNum tabType Tryz.underlying119 Tryz.underlying101 cellsU64 cellsTab ?_
  exact laidMet.tail (laidMet.tail h)
set_option maxRecDepth 100000 in
theorem laid_sentinel2 {n : String} {text : List UInt8} {r : List (String × DataW Unit)} {W : World} {g : Nat}
    (h : laidMet Tryz.prog ((n, .iface "*errors.errorString" (.ptr (.agg [.lit (.string text)]))) :: r) W) (hg : Tryz.prog.globalNamed n = some g) (ht : (Tryz.prog.globals[g]?).map (·.type) = some 29) : ∃ a, Err.Er W g text a := by
  obtain ⟨ps, ⟨g0, t0, cs0, f0, p0, q0, hg0, ht0, hv0, hd0, _, e0⟩, _, hrows⟩ := h
  obtain rfl := Option.some.inj (hg.symm.trans hg0)
  obtain rfl := Option.some.inj (ht.symm.trans ht0)
  subst e0
  obtain ⟨l0⟩ := cs0
  have ok0 : ∀ u v, l0 = [.iface u v] → Value.okWide Tryz.prog W .any 0 u v := fun u v e => by
    subst e
    exact (hrows g 0 (by simp [MemPlace.row])).2 u v (by simpa using World.var?_cell hg0 hv0 0)
  obtain ⟨a0, s0, rfl, hc0, hs0, hz0, rfl⟩ := errorString_of_trod Tryz.underlying29 row Tryz.underlying126 Tryz.underlying128 rfl rfl Tryz.underlying9 cS cT hd0 ok0
  obtain ⟨c0, t0, hb0⟩ := (hrows a0.block a0.off (by simp [MemPlace.row])).1
  exact ⟨a0, by simpa using World.var?_cell hg0 hv0 0, ⟨s0, hc0, hs0⟩, ⟨c0, t0, hb0⟩⟩
theorem laid_at {P : Program} {W : World} : ∀ (i : Nat) (l : List (String × DataW Unit)) (x : String × DataW Unit), laidMet P l W → l[i]? = some x → ∃ r, laidMet P (x :: r) W
  | 0, y :: r, x, h, e => by
    simp only [List.getElem?_cons_zero, Option.some.injEq] at e
    subst e
    exact ⟨r, h⟩
  | i + 1, y :: r, x, h, e => laid_at i r x (laidMet.tail h) (by simpa using e)
  | 0, [], x, _, e => by simp at e
  | i + 1, [], x, _, e => by simp at e
theorem er0 {W : World} (h : laidMet Tryz.prog Rows.httpParsesRow.laid W) : ∃ a, Err.Er W 1 (Err.texts[0]'(by decide)) a := by
  obtain ⟨r, hr⟩ := laid_at 4 _ _ h rfl
  exact laid_sentinel2 hr (by kernel_rfl) (by kernel_rfl)
theorem er1 {W : World} (h : laidMet Tryz.prog Rows.httpParsesRow.laid W) : ∃ a, Err.Er W 2 (Err.texts[1]'(by decide)) a := by
  obtain ⟨r, hr⟩ := laid_at 5 _ _ h rfl
  exact laid_sentinel2 hr (by kernel_rfl) (by kernel_rfl)
theorem er2 {W : World} (h : laidMet Tryz.prog Rows.httpParsesRow.laid W) : ∃ a, Err.Er W 3 (Err.texts[2]'(by decide)) a := by
  obtain ⟨r, hr⟩ := laid_at 6 _ _ h rfl
  exact laid_sentinel2 hr (by kernel_rfl) (by kernel_rfl)
theorem er3 {W : World} (h : laidMet Tryz.prog Rows.httpParsesRow.laid W) : ∃ a, Err.Er W 4 (Err.texts[3]'(by decide)) a := by
  obtain ⟨r, hr⟩ := laid_at 7 _ _ h rfl
  exact laid_sentinel2 hr (by kernel_rfl) (by kernel_rfl)
theorem er4 {W : World} (h : laidMet Tryz.prog Rows.httpParsesRow.laid W) : ∃ a, Err.Er W 5 (Err.texts[4]'(by decide)) a := by
  obtain ⟨r, hr⟩ := laid_at 8 _ _ h rfl
  exact laid_sentinel2 hr (by kernel_rfl) (by kernel_rfl)
theorem er5 {W : World} (h : laidMet Tryz.prog Rows.httpParsesRow.laid W) : ∃ a, Err.Er W 6 (Err.texts[5]'(by decide)) a := by
  obtain ⟨r, hr⟩ := laid_at 9 _ _ h rfl
  exact laid_sentinel2 hr (by kernel_rfl) (by kernel_rfl)
theorem er6 {W : World} (h : laidMet Tryz.prog Rows.httpParsesRow.laid W) : ∃ a, Err.Er W 7 (Err.texts[6]'(by decide)) a := by
  obtain ⟨r, hr⟩ := laid_at 10 _ _ h rfl
  exact laid_sentinel2 hr (by kernel_rfl) (by kernel_rfl)
theorem er7 {W : World} (h : laidMet Tryz.prog Rows.httpParsesRow.laid W) : ∃ a, Err.Er W 8 (Err.texts[7]'(by decide)) a := by
  obtain ⟨r, hr⟩ := laid_at 11 _ _ h rfl
  exact laid_sentinel2 hr (by kernel_rfl) (by kernel_rfl)
theorem er8 {W : World} (h : laidMet Tryz.prog Rows.httpParsesRow.laid W) : ∃ a, Err.Er W 9 (Err.texts[8]'(by decide)) a := by
  obtain ⟨r, hr⟩ := laid_at 12 _ _ h rfl
  exact laid_sentinel2 hr (by kernel_rfl) (by kernel_rfl)
theorem er9 {W : World} (h : laidMet Tryz.prog Rows.httpParsesRow.laid W) : ∃ a, Err.Er W 10 (Err.texts[9]'(by decide)) a := by
  obtain ⟨r, hr⟩ := laid_at 13 _ _ h rfl
  exact laid_sentinel2 hr (by kernel_rfl) (by kernel_rfl)
theorem er10 {W : World} (h : laidMet Tryz.prog Rows.httpParsesRow.laid W) : ∃ a, Err.Er W 0 (Err.texts[10]'(by decide)) a := by
  obtain ⟨r, hr⟩ := laid_at 14 _ _ h rfl
  exact laid_sentinel2 hr (by kernel_rfl) (by kernel_rfl)
theorem er11 {W : World} (h : laidMet Tryz.prog Rows.httpParsesRow.laid W) : ∃ a, Err.Er W 11 (Err.texts[11]'(by decide)) a := by
  obtain ⟨r, hr⟩ := laid_at 15 _ _ h rfl
  exact laid_sentinel2 hr (by kernel_rfl) (by kernel_rfl)
theorem er12 {W : World} (h : laidMet Tryz.prog Rows.httpParsesRow.laid W) : ∃ a, Err.Er W 12 (Err.texts[12]'(by decide)) a := by
  obtain ⟨r, hr⟩ := laid_at 16 _ _ h rfl
  exact laid_sentinel2 hr (by kernel_rfl) (by kernel_rfl)
theorem er13 {W : World} (h : laidMet Tryz.prog Rows.httpParsesRow.laid W) : ∃ a, Err.Er W 13 (Err.texts[13]'(by decide)) a := by
  obtain ⟨r, hr⟩ := laid_at 17 _ _ h rfl
  exact laid_sentinel2 hr (by kernel_rfl) (by kernel_rfl)
theorem er14 {W : World} (h : laidMet Tryz.prog Rows.httpParsesRow.laid W) : ∃ a, Err.Er W 14 (Err.texts[14]'(by decide)) a := by
  obtain ⟨r, hr⟩ := laid_at 18 _ _ h rfl
  exact laid_sentinel2 hr (by kernel_rfl) (by kernel_rfl)
theorem er15 {W : World} (h : laidMet Tryz.prog Rows.httpParsesRow.laid W) : ∃ a, Err.Er W 15 (Err.texts[15]'(by decide)) a := by
  obtain ⟨r, hr⟩ := laid_at 19 _ _ h rfl
  exact laid_sentinel2 hr (by kernel_rfl) (by kernel_rfl)
theorem er16 {W : World} (h : laidMet Tryz.prog Rows.httpParsesRow.laid W) : ∃ a, Err.Er W 16 (Err.texts[16]'(by decide)) a := by
  obtain ⟨r, hr⟩ := laid_at 20 _ _ h rfl
  exact laid_sentinel2 hr (by kernel_rfl) (by kernel_rfl)
theorem er17 {W : World} (h : laidMet Tryz.prog Rows.httpParsesRow.laid W) : ∃ a, Err.Er W 17 (Err.texts[17]'(by decide)) a := by
  obtain ⟨r, hr⟩ := laid_at 21 _ _ h rfl
  exact laid_sentinel2 hr (by kernel_rfl) (by kernel_rfl)
theorem all {W : World} (h : laidMetH Tryz.prog Rows.httpParsesRow.laid W) : ∃ es, Err.All W es := by
  rw [MakeChecks.laidMetH_plain _ _ _ (by kernel_rfl)] at h
  obtain ⟨a0, k0⟩ := er0 h
  obtain ⟨a1, k1⟩ := er1 h
  obtain ⟨a2, k2⟩ := er2 h
  obtain ⟨a3, k3⟩ := er3 h
  obtain ⟨a4, k4⟩ := er4 h
  obtain ⟨a5, k5⟩ := er5 h
  obtain ⟨a6, k6⟩ := er6 h
  obtain ⟨a7, k7⟩ := er7 h
  obtain ⟨a8, k8⟩ := er8 h
  obtain ⟨a9, k9⟩ := er9 h
  obtain ⟨a10, k10⟩ := er10 h
  obtain ⟨a11, k11⟩ := er11 h
  obtain ⟨a12, k12⟩ := er12 h
  obtain ⟨a13, k13⟩ := er13 h
  obtain ⟨a14, k14⟩ := er14 h
  obtain ⟨a15, k15⟩ := er15 h
  obtain ⟨a16, k16⟩ := er16 h
  obtain ⟨a17, k17⟩ := er17 h
  refine ⟨[a0, a1, a2, a3, a4, a5, a6, a7, a8, a9, a10, a11, a12, a13, a14, a15, a16, a17], rfl, fun i t g a h1 h2 h3 => ?_⟩
  match i, h1, h2, h3 with
  | 0, h1, h2, h3 => cases h1; cases h2; cases h3; exact k0
  | 1, h1, h2, h3 => cases h1; cases h2; cases h3; exact k1
  | 2, h1, h2, h3 => cases h1; cases h2; cases h3; exact k2
  | 3, h1, h2, h3 => cases h1; cases h2; cases h3; exact k3
  | 4, h1, h2, h3 => cases h1; cases h2; cases h3; exact k4
  | 5, h1, h2, h3 => cases h1; cases h2; cases h3; exact k5
  | 6, h1, h2, h3 => cases h1; cases h2; cases h3; exact k6
  | 7, h1, h2, h3 => cases h1; cases h2; cases h3; exact k7
  | 8, h1, h2, h3 => cases h1; cases h2; cases h3; exact k8
  | 9, h1, h2, h3 => cases h1; cases h2; cases h3; exact k9
  | 10, h1, h2, h3 => cases h1; cases h2; cases h3; exact k10
  | 11, h1, h2, h3 => cases h1; cases h2; cases h3; exact k11
  | 12, h1, h2, h3 => cases h1; cases h2; cases h3; exact k12
  | 13, h1, h2, h3 => cases h1; cases h2; cases h3; exact k13
  | 14, h1, h2, h3 => cases h1; cases h2; cases h3; exact k14
  | 15, h1, h2, h3 => cases h1; cases h2; cases h3; exact k15
  | 16, h1, h2, h3 => cases h1; cases h2; cases h3; exact k16
  | 17, h1, h2, h3 => cases h1; cases h2; cases h3; exact k17
  | i + 18, h1, _, _ => simp [Err.texts] at h1

theorem mx {w : World} (h : w.ShapedOpen Tryz.prog) : HtC.Mx w :=
  Go.Proofs.cell_of_shapedOpen_int (zero := #[.int .i64 0]) (t := 3) h (of_decide_eq_true (by kernel_rfl)) (by kernel_rfl) rfl (by kernel_rfl) (by kernel_rfl) Tryz.underlying3
/-- a world in which all that is listed lies -/
noncomputable def w0 (os : Os) : World := World.laidAll Tryz.prog os Rows.httpParsesRow.laid
theorem w0_os (os : Os) : (w0 os).os = os := World.laidAll_os _ _ _
theorem w0_met (os : Os) (args : Array Value) : laidMetH Tryz.prog Rows.httpParsesRow.laid ((w0 os).forCall (fun _ _ => 0) ⟨#[], args, []⟩).memory := by
  rw [MakeChecks.laidMetH_plain _ _ _ (by kernel_rfl)]
  exact laidMet_laidAll _ (by kernel_rfl) (by kernel_rfl)

/-- a struct's fields, each by itself -/
theorem struct_at {H : Type} {enc : TypeId × Value → H} {P : Program} {w : World} {base : Nat} {spare : Nat → Bool} {held : Bool} {t : TypeId} {fs : Array Field} {n : Nat} {cs : List Value} {x : DataW H × List MemPlace}
    (he : P.underlying t = some (.struct fs)) (h : DataW.trod enc P w base spare held n t cs = some x) :
    ∃ (ys : List (DataW H × List MemPlace)) (k : Nat), x.1 = .agg (ys.map (·.1)) ∧ (∀ z ∈ ys, ∀ q ∈ z.2, q ∈ x.2) ∧ cs.length = P.cellsOf t ∧
      ∀ (j : Nat) (f : Field), fs[j]? = some f → ∃ z, ys[j]? = some z ∧ DataW.trod enc P w base spare held k f.type ((cs.drop f.offset).take (P.cellsOf f.type)) = some z := by
  obtain ⟨ys, k, _, hx, hl, hyl, hf⟩ := DataW.trod_struct he h
  subst hx
  refine ⟨ys, k, rfl, fun z hz q hq => List.mem_flatMap.2 ⟨z, hz, hq⟩, hl, fun j f hj => ?_⟩
  have hjl : j < fs.size := (Array.getElem?_eq_some_iff.1 hj).1
  have hys : ys[j]? = some (ys[j]'(by omega)) := List.getElem?_eq_getElem (by omega)
  exact ⟨_, hys, (hf j f hj).trans hys⟩
theorem bulk_of {H : Type} {ys : List (DataW H × List MemPlace)} {j : Nat} {z : DataW H × List MemPlace} (h : ys[j]? = some z) : Rows.uptoBulk z.1 ≤ Rows.uptoBulkAll (ys.map (·.1)) :=
  RowKit2.bulk_part (List.mem_map.2 ⟨z, List.mem_of_getElem? h, rfl⟩)

theorem cStr : Tryz.prog.cellsOf 9 = 1 := by kernel_rfl
theorem cInt : Tryz.prog.cellsOf 3 = 1 := by kernel_rfl
theorem cFs : Tryz.prog.cellsOf 25 = 1 := by kernel_rfl
theorem cBs : Tryz.prog.cellsOf 22 = 1 := by kernel_rfl
theorem cB : Tryz.prog.cellsOf 5 = 1 := by kernel_rfl
theorem cReq : Tryz.prog.cellsOf 27 = 4 := by kernel_rfl
theorem three {l : Array Value} (h : l.size = 3) : ∃ a b c, l = #[a, b, c] := by
  obtain ⟨l⟩ := l
  match l, h with
  | [a, b, c], _ => exact ⟨a, b, c, rfl⟩
theorem four {l : Array Value} (h : l.size = 4) : ∃ a b c d, l = #[a, b, c, d] := by
  obtain ⟨l⟩ := l
  match l, h with
  | [a, b, c, d], _ => exact ⟨a, b, c, d, rfl⟩

/-- fields that came in -/
theorem open_fields {H : Type} {enc : TypeId × Value → H} {W : World} {v : Value} {y : DataW H × List MemPlace} {n : Nat}
    (h : DataW.trod enc Tryz.prog W 0 (fun _ => true) true n 25 [v] = some y) :
    ∃ (a : Option Addr) (fs : List Fld) (c : Nat), v = .slice a fs.length c ∧ Fs W a fs ∧ fs.length ≤ c ∧ (a = none → fs.length = 0 ∧ c = 0) ∧ fs.length ≤ 9223372036854775807 ∧
      fs.length ≤ Rows.uptoBulk y.1 ∧ ∀ q ∈ fs, q.1.length ≤ Rows.uptoBulk y.1 ∧ q.2.length ≤ Rows.uptoBulk y.1 := by
  rcases RowKit2.open_structs Tryz.underlying25 Tryz.underlying39 (by kernel_rfl) (by kernel_rfl) h with ⟨hcs, hx⟩ | ⟨ad, len, cap, m, D, Pl, hcs, hl, hm, hmm, hx, hi⟩
  · obtain rfl : v = .slice none 0 0 := by simpa using hcs
    exact ⟨none, [], 0, rfl, .inl rfl, Nat.le_refl _, fun _ => ⟨rfl, rfl⟩, by simp, by simp, fun e he => by simp at he⟩
  · obtain rfl : v = .slice (some ad) len cap := by simpa using hcs
    simp at hmm
    subst hmm hx
    simp only [Rows.uptoBulk]
    have hlen := RowKit2.bulk_length (H := H) ((List.range len).map D)
    rw [List.length_map, List.length_range] at hlen
    obtain ⟨es, hes, hp⟩ := RowKit2.list_of (p := fun i (e : Fld) =>
      (W.cell? (ad.add (i * 2 + 0)) = some (.string ⟨e.1.toArray⟩) ∧ W.cell? (ad.add (i * 2 + 1)) = some (.string ⟨e.2.toArray⟩)) ∧ e.1.length ≤ Rows.uptoBulkAll ((List.range len).map D) ∧ e.2.length ≤ Rows.uptoBulkAll ((List.range len).map D)) len fun i hil => by
      obtain ⟨ys, k, hD, hyl, hf⟩ := hi i (by omega)
      obtain ⟨v0, y0, c0, e0, r0⟩ := hf 0 _ rfl
      obtain ⟨v1, y1, c1, e1, r1⟩ := hf 1 _ rfl
      obtain ⟨s0, q0, rfl, _⟩ := DataW.trod_string Tryz.underlying9 r0
      obtain ⟨s1, q1, rfl, _⟩ := DataW.trod_string Tryz.underlying9 r1
      obtain rfl : v0 = .string s0 := by simpa using q0
      obtain rfl : v1 = .string s1 := by simpa using q1
      have hb1 := RowKit2.bulk_part (H := H) (d := D i) (l := (List.range len).map D) (List.mem_map.2 ⟨i, List.mem_range.2 hil, rfl⟩)
      rw [hD] at hb1
      simp only [Rows.uptoBulk] at hb1
      have hs0 := RowKit2.bulk_part (H := H) (d := .lit (.string s0.data.toList)) (l := ys.map (·.1)) (List.mem_map.2 ⟨_, List.mem_of_getElem? e0, rfl⟩)
      have hs1 := RowKit2.bulk_part (H := H) (d := .lit (.string s1.data.toList)) (l := ys.map (·.1)) (List.mem_map.2 ⟨_, List.mem_of_getElem? e1, rfl⟩)
      rw [RowKit2.bulk_string] at hs0 hs1
      refine ⟨(s0.data.toList, s1.data.toList), ⟨by rw [Com.mk_data]; exact c0, by rw [Com.mk_data]; exact c1⟩, ?_, ?_⟩
      · show s0.data.toList.length ≤ _; omega
      · show s1.data.toList.length ≤ _; omega
    refine ⟨some ad, es, m, by rw [hes], ?_, by omega, (fun h => by cases h), by simp only [maxLen] at hm; omega, by omega, fun e he => ?_⟩
    · rcases Nat.eq_zero_or_pos es.length with h0 | h0
      · exact .inl (List.eq_nil_of_length_eq_zero h0)
      · obtain ⟨⟨hc0, _⟩, _⟩ := hp 0 es[0] (List.getElem?_eq_getElem h0)
        obtain ⟨b, off, spot⟩ := ad
        obtain rfl : spot = none := by simpa [Addr.add] using World.cell?_spot hc0
        have hbl : b < W.heap.size := World.block_lt_of_cell? W _ (by simpa [Addr.add] using hc0)
        refine .inr ⟨b, off, rfl, hbl, fun j e he => ?_⟩
        obtain ⟨⟨c0, c1⟩, _⟩ := hp j e he
        simp only [RowKit2.addr_add] at c0 c1
        exact ⟨c0, by rw [Nat.add_assoc]; exact c1⟩
    · obtain ⟨j, hj, rfl⟩ := List.getElem_of_mem he
      have := (hp j _ (List.getElem?_eq_getElem hj)).2
      omega

theorem byte_of {n : Int} (h : (Lit.int .u8 n).wf = true) : n = (((UInt8.ofNat n.toNat).toNat : Nat) : Int) := by
  have : 0 ≤ n ∧ n ≤ 255 := by simpa [Lit.wf, IntKind.min, IntKind.max, IntKind.signed, IntKind.bits] using h
  simp
  omega
/-- a slice of bytes that came in -/
theorem open_bytes {H : Type} {enc : TypeId × Value → H} {W : World} {v : Value} {y : DataW H × List MemPlace} {n : Nat}
    (h : DataW.trod enc Tryz.prog W 0 (fun _ => true) true n 22 [v] = some y) :
    ∃ a l c, v = .slice a l.length c ∧ Bs W a l c ∧ l.length ≤ 9223372036854775807 ∧ l.length ≤ Rows.uptoBulk y.1 ∧ ((y.1 = .nil ∧ l = []) ∨ ∃ els sp, y.1 = .slice els sp ∧ els.length = l.length) := by
  rcases open_ints Tryz.underlying22 Tryz.underlying5 cB h with ⟨hcs, hx⟩ | ⟨a, len, cap, zs, hcs, hb, hl, hm, hz, hx, hc, hwf⟩
  · obtain rfl : v = .slice none 0 0 := by simpa using hcs
    exact ⟨none, [], 0, rfl, ⟨Nat.le_refl _, fun _ => rfl, .inl rfl⟩, by simp, by simp, .inl ⟨by rw [hx], rfl⟩⟩
  · obtain rfl : v = .slice (some a) len cap := by simpa using hcs
    simp only [if_true] at hz
    have hlen : ((zs.take len).map fun n => UInt8.ofNat n.toNat).length = len := by simp; omega
    refine ⟨some a, (zs.take len).map fun n => UInt8.ofNat n.toNat, cap, by rw [hlen], ⟨by rw [hlen]; exact hl, (fun h => by cases h), ?_⟩, by simp only [maxLen] at hm; omega, ?_, .inr ⟨_, _, by rw [hx], by simp [lits]⟩⟩
    · rcases Nat.eq_zero_or_pos len with h0 | h0
      · left; subst h0; simp
      · right
        have hc0 := hc 0 (by omega)
        obtain ⟨b, off, spot⟩ := a
        obtain rfl : spot = none := by simpa [Addr.add] using World.cell?_spot hc0
        refine ⟨b, off, rfl, ?_, fun j x hj => ?_⟩
        · exact World.block_lt_of_cell? W _ (by simpa [addr_add] using hc0)
        · simp only [List.getElem?_map, Option.map_eq_some_iff] at hj
          obtain ⟨z, hz1, rfl⟩ := hj
          have hjl : j < (zs.take len).length := (List.getElem?_eq_some_iff.1 hz1).1
          rw [List.length_take] at hjl
          rw [List.getElem?_take, if_pos (by omega)] at hz1
          have := hc j (by omega)
          rw [addr_add, List.getD_eq_getElem?_getD, hz1] at this
          rw [this, ← byte_of (hwf z (List.mem_of_getElem? hz1))]
          rfl
    · rw [hx, hlen]
      simp only [Rows.uptoBulk]
      have := RowKit2.bulk_length (lits (H := H) .u8 (zs.take len))
      simp [lits] at this
      simp [lits]
      omega

theorem len_le {H : Type} {ts : List TypeId} {ds : List (DataW H)} (h : (DataW.weightsEach Tryz.prog ts ds).all (· ≤ reachBytes) = true) {j : Nat} {d : DataW H} {l : List UInt8} (ht : ts[j]? = some 22) (hd : ds[j]? = some d)
    (hl : (d = .nil ∧ l = []) ∨ ∃ els sp, d = .slice els sp ∧ els.length = l.length) : l.length ≤ 140737488351232 := by
  rcases hl with ⟨_, rfl⟩ | ⟨els, sp, rfl, he⟩
  · simp
  · have := sized_slice h ht hd Tryz.underlying22
    have hb : Tryz.prog.bytesOf 5 = 1 := by kernel_rfl
    have hr : reachBytes = 140737488351232 := by decide
    rw [hb, hr] at this
    omega

end Go.Proofs.YtnhjbcjeeilicaaGreatDoor.HtRZ
