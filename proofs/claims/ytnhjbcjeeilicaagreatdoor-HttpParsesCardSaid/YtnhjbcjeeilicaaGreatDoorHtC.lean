/-
  The library's Split, Cut, Trim at this seat, in the plain part's words; the walk of package http's first.
-/
import Derived.Test.YtnhjbcjeeilicaaGreatDoorHtA
import Derived.Test.YtnhjbcjeeilicaaGreatDoorHtW
import Derived.BigQuiet
namespace Go.Proofs.YtnhjbcjeeilicaaGreatDoor.HtC
open Go.RowKit Go.Proofs.YtnhjbcjeeilicaaGreatDoor Go.Proofs.YtnhjbcjeeilicaaGreatDoor.Ht Go.Proofs.YtnhjbcjeeilicaaGreatDoor.HtW Go.Proofs.YtnhjbcjeeilicaaGreatDoor.HtA

/-- a request's box -/
def Rq (B : Nat) (w : World) (a b c d : Value) : Prop := w.heap[B]? = some (.cells #[a, b, c, d] 27 (0, 0))
theorem Rq.below {B : Nat} {w w' : World} {a b c d : Value} (h : Rq B w a b c d) (hb : Below w.heap.size w w') : Rq B w' a b c d := (hb.block _ (Array.getElem?_eq_some_iff.1 h).1).trans h
theorem Rq.lt {B : Nat} {w : World} {a b c d : Value} (h : Rq B w a b c d) : B < w.heap.size := (Array.getElem?_eq_some_iff.1 h).1
theorem Rq.cells {B : Nat} {w : World} {a b c d : Value} (h : Rq B w a b c d) : w.cell? ⟨B, 0, none⟩ = some a ∧ w.cell? ⟨B, 1, none⟩ = some b ∧ w.cell? ⟨B, 2, none⟩ = some c ∧ w.cell? ⟨B, 3, none⟩ = some d ∧ w.frozen? ⟨B, 0, none⟩ = false ∧ w.frozen? ⟨B, 1, none⟩ = false ∧ w.frozen? ⟨B, 2, none⟩ = false ∧ w.frozen? ⟨B, 3, none⟩ = false := by
  unfold Rq at h
  refine ⟨?_, ?_, ?_, ?_, Lib.frozen_of_heap h 0, Lib.frozen_of_heap h 1, Lib.frozen_of_heap h 2, Lib.frozen_of_heap h 3⟩
  all_goals (rw [Lib.cell_of_heap h]; rfl)
abbrev st4 (w : World) (B : Nat) (a b c d : Value) : World := (((w.setCell ⟨B, 0, none⟩ a).setCell ⟨B, 1, none⟩ b).setCell ⟨B, 2, none⟩ c).setCell ⟨B, 3, none⟩ d
theorem Rq.put1 {B : Nat} {w : World} {v0 v1 v2 v3 : Value} (h : Rq B w v0 v1 v2 v3) (a : Value) : Rq B (w.setCell ⟨B, 0, none⟩ a) a v1 v2 v3 := by
  unfold Rq at h ⊢
  simp only [World.setCell, Array.getElem?_modify, if_true, h]; rfl
theorem Rq.put2 {B : Nat} {w : World} {v0 v1 v2 v3 : Value} (h : Rq B w v0 v1 v2 v3) (a : Value) : Rq B (w.setCell ⟨B, 1, none⟩ a) v0 a v2 v3 := by
  unfold Rq at h ⊢
  simp only [World.setCell, Array.getElem?_modify, if_true, h]; rfl
theorem Rq.put3 {B : Nat} {w : World} {v0 v1 v2 v3 : Value} (h : Rq B w v0 v1 v2 v3) (a : Value) : Rq B (w.setCell ⟨B, 2, none⟩ a) v0 v1 a v3 := by
  unfold Rq at h ⊢
  simp only [World.setCell, Array.getElem?_modify, if_true, h]; rfl
theorem Rq.put4 {B : Nat} {w : World} {v0 v1 v2 v3 : Value} (h : Rq B w v0 v1 v2 v3) (a : Value) : Rq B (w.setCell ⟨B, 3, none⟩ a) v0 v1 v2 a := by
  unfold Rq at h ⊢
  simp only [World.setCell, Array.getElem?_modify, if_true, h]; rfl
theorem Rq.put {B : Nat} {w : World} {v0 v1 v2 v3 : Value} (h : Rq B w v0 v1 v2 v3) (a b c d : Value) : Rq B (st4 w B a b c d) a b c d := (((h.put1 a).put2 b).put3 c).put4 d
theorem Rq.far {B : Nat} {w : World} {a b c d : Value} (h : Rq B w a b c d) {p : Addr} (hp : B ≠ p.block) (u : Value) : Rq B (w.setCell p u) a b c d := (Below.heap_setCell _ _ _ _ hp).trans h
theorem below_four {B : Nat} {w w' : World} (h : Below B w w') (a b c d : Value) : Below B w (st4 w' B a b c d) :=
  (((h.setCell (p := ⟨B, 0, none⟩) (Nat.le_refl _) _).setCell (p := ⟨B, 1, none⟩) (Nat.le_refl _) _).setCell (p := ⟨B, 2, none⟩) (Nat.le_refl _) _).setCell (p := ⟨B, 3, none⟩) (Nat.le_refl _) _
theorem Rq.run {B : Nat} {w : World} {a b c d er : Value} (h : Rq B w a b c d) {fn : Func} (e : fn.results = #[.cell 2 27, .tmp 3]) {tmps : Array Value} (h2 : tmps.getD 2 undef = .pointer (some ⟨B, 0, none⟩)) (h3 : tmps.getD 3 undef = er) :
    (results fn tmps).run Tryz.prog w = .ok (.tuple #[.agg #[a, b, c, d], er]) w := by
  obtain ⟨r0, r1, r2, r3, _⟩ := h.cells
  rw [results_cell_tmp e, h2, h3]
  simp [go_sem, r0, r1, r2, r3, Result.andThen]

/-- package bytealg's variable holds some number -/
def Mx (w : World) : Prop := ∃ m, w.cell? ⟨18, 0, none⟩ = some (.int .i64 m)
theorem Mx.below {w w' : World} (h : Mx w) (hb : Below w.heap.size w w') : Mx w' := by
  obtain ⟨m, hm⟩ := h
  exact ⟨m, (hb.cell (World.block_lt_of_cell? w _ hm)).trans hm⟩
theorem below_drewN {B : Nat} {w w' : World} (h : Below B w w') : ∀ n, Below B w (w'.drewN n)
  | 0 => h
  | n + 1 => (below_drewN h n).drew

theorem split (sep : List UInt8) (h1 : 1 ≤ sep.length) (s : ByteArray) (w : World) (hs : s.size < 4294967281) (hm : Mx w) :
    Calls Tryz.prog 30 #[.string s, .string ⟨sep.toArray⟩] w fun e w' => e = .returned (.slice (some ⟨w.heap.size, 0, none⟩) (Ht.split sep s.data.toList).length (Ht.split sep s.data.toList).length) ∧
      (∀ (j : Nat) x, (Ht.split sep s.data.toList)[j]? = some x → w'.cell? ⟨w.heap.size, j, none⟩ = some (.string ⟨x.toArray⟩)) ∧ w.heap.size < w'.heap.size ∧ Below w.heap.size w w' := by
  obtain ⟨m, hm⟩ := hm
  have hz : 1 ≤ (⟨sep.toArray⟩ : ByteArray).size := by rw [Com.size_mk]; exact h1
  refine (Tryz.strings_Split s ⟨sep.toArray⟩ m w hs hm hz).mono ?_
  rintro e w' ⟨rfl, rfl⟩
  have hl := Lib.splitB_all ⟨sep.toArray⟩ hz 0 _ s rfl
  have he := Ht.split_eq sep s
  have hl2 : (Ht.split sep s.data.toList).length = Lib.countB s ⟨sep.toArray⟩ + 1 := by rw [← he, List.length_map, hl]
  refine ⟨by rw [hl2], fun j x hj => ?_, by simp, (Below.refl _ _).alloc (Nat.le_refl _) _⟩
  rw [Lib.cell_of_heap (heap_alloc_new _ _)]
  rw [← he, List.getElem?_map, Option.map_eq_some_iff] at hj
  obtain ⟨y, hy, rfl⟩ := hj
  simp [hy]

theorem cut (s : ByteArray) (w : World) (hs : s.size < 4294967281) (hm : Mx w) :
    Calls Tryz.prog 43 #[.string s, .string ⟨#[58]⟩] w fun e w' => e = .returned (.tuple #[.string ⟨(name s.data.toList).toArray⟩, .string ⟨(value s.data.toList).toArray⟩, .bool (found s.data.toList)]) ∧ Below w.heap.size w w' := by
  obtain ⟨m, hm⟩ := hm
  refine (Tryz.strings_Cut s ⟨#[58]⟩ m w hs hm).mono ?_
  rintro e w' ⟨rfl, n, rfl⟩
  exact ⟨rfl, below_drewN (Below.refl _ _) n⟩

def FirstPost (s : List UInt8) (e : Ending) : Prop := match Ht.first s with
  | some mt => e = .returned (.tuple #[.agg #[.string ⟨mt.1.toArray⟩, .string ⟨mt.2.toArray⟩, .slice none 0 0, .slice none 0 0], .bool true])
  | none => ∃ a b : ByteArray, e = .returned (.tuple #[.agg #[.string a, .string b, .slice none 0 0, .slice none 0 0], .bool false])
theorem fp_no {s : List UInt8} {a b : ByteArray} (h : Ht.first s = none) : FirstPost s (.returned (.tuple #[.agg #[.string a, .string b, .slice none 0 0, .slice none 0 0], .bool false])) := by unfold FirstPost; rw [h]; exact ⟨a, b, rfl⟩

set_option maxHeartbeats 2000000 in
set_option maxRecDepth 100000 in
theorem first (s : ByteArray) (w : World) (hs : s.size < 4294967281) (hm : Mx w) :
    Calls Tryz.prog 31 #[.string s] w fun e w' => FirstPost s.data.toList e ∧ Below w.heap.size w w' := by
  go_enter Tryz.func31, Tryz.ntmps31
  go_wp2_with fail
  refine (split [32] (by decide) s _ hs (hm.below ((Below.refl _ _).alloc (Nat.le_refl _) _))).mono ?_
  rintro e w1 ⟨rfl, hc, hlt, hb⟩
  simp only [World.size_alloc] at hc
  have hR : Rq w.heap.size w1 (.string ⟨#[]⟩) (.string ⟨#[]⟩) (.slice none 0 0) (.slice none 0 0) := (hb.block _ (by simp)).trans (heap_alloc_new _ _)
  have HB := Lib.hid (((Below.refl _ w).alloc (Nat.le_refl _) _).trans (hb.mono (by simp)))
  obtain ⟨r0, r1, r2, r3, f0, f1, f2, f3⟩ := hR.cells
  have HR := Lib.hid hR
  clear hb hR
  by_cases h3 : (Ht.split [32] s.data.toList).length = 3
  · obtain ⟨m, t, v, hmtv⟩ := three h3
    have HF := Lib.hid (first_three hmtv)
    have hms : m.length ≤ s.size := by have := split_size (sep := [32]) (l := s.data.toList) (x := m) (by rw [hmtv]; simp); rwa [Com.toList_length] at this
    have hts : t.length ≤ s.size := by have := split_size (sep := [32]) (l := s.data.toList) (x := t) (by rw [hmtv]; simp); rwa [Com.toList_length] at this
    have c0 := hc 0 m (by rw [hmtv]; rfl)
    have c1 := hc 1 t (by rw [hmtv]; rfl)
    have c2 := hc 2 v (by rw [hmtv]; rfl)
    rw [h3]
    clear hc hmtv h3
    cases tv : (v == [72, 84, 84, 80, 47, 49, 46, 49])
    · go_wp2_with fail
      refine bodyPost_ret ((HR.out.put _ _ _ _).run rfl rfl rfl) rfl ⟨?_, below_four HB.out _ _ _ _⟩
      exact fp_no (by rw [HF.out, if_neg]; rintro ⟨e, _⟩; rw [e] at tv; simp [http] at tv)
    · have HV := Lib.hid (eq_of_beq tv)
      go_wp2_with fail
      go_quiet (fail)
      clear c0 c1 c2
      have HR2 := HR
      have HB2 := HB
      clear HR HB r0 r1 r2 r3 f0 f1 f2 f3
      have HR := Lib.hid (HR2.out.below (below_drewN (Below.refl _ _) nq))
      have HB := Lib.hid (below_drewN HB2.out nq)
      clear HR2 HB2
      generalize w1.drewN nq = w2 at *
      obtain ⟨r0, r1, r2, r3, f0, f1, f2, f3⟩ := HR.out.cells
      by_cases m1 : 1 ≤ m.length
      · by_cases m2 : m.length ≤ 16
        · cases m3 : allR 65 90 m
          · go_wp2_with fail
            refine (between ⟨m.toArray⟩ 65 90 _ (by rw [Com.size_mk]; omega)).mono ?_
            rintro e w' ⟨rfl, hw'⟩
            obtain rfl := hw'.symm
            rw [show allR 65 90 (ByteArray.mk m.toArray).data.toList = false from m3]
            go_wp2_with fail
            refine bodyPost_ret ((HR.out.put _ _ _ _).run rfl rfl rfl) rfl ⟨?_, below_four HB.out _ _ _ _⟩
            exact fp_no (by rw [HF.out, if_neg]; rintro ⟨_, e, _⟩; simp [okm, m3] at e)
          · cases p1 : Lib.hasPrefix t [47]
            · go_wp2_with fail
              refine (between ⟨m.toArray⟩ 65 90 _ (by rw [Com.size_mk]; omega)).mono ?_
              rintro e w' ⟨rfl, hw'⟩
              obtain rfl := hw'.symm
              rw [show allR 65 90 (ByteArray.mk m.toArray).data.toList = true from m3]
              go_wp2_with fail
              refine (Tryz.strings_HasPrefix ⟨t.toArray⟩ ⟨#[47]⟩ _).mono ?_
              rintro e w' ⟨rfl, hw'⟩
              obtain rfl := hw'.symm
              rw [show Lib.hasPrefix (ByteArray.mk t.toArray).data.toList (ByteArray.mk #[47]).data.toList = false from p1]
              go_wp2_with fail
              refine bodyPost_ret ((HR.out.put _ _ _ _).run rfl rfl rfl) rfl ⟨?_, below_four HB.out _ _ _ _⟩
              exact fp_no (by rw [HF.out, if_neg]; rintro ⟨_, _, e⟩; simp [okt, p1] at e)
            · cases p2 : allR 33 126 t
              · go_wp2_with fail
                refine (between ⟨m.toArray⟩ 65 90 _ (by rw [Com.size_mk]; omega)).mono ?_
                rintro e w' ⟨rfl, hw'⟩
                obtain rfl := hw'.symm
                rw [show allR 65 90 (ByteArray.mk m.toArray).data.toList = true from m3]
                go_wp2_with fail
                refine (Tryz.strings_HasPrefix ⟨t.toArray⟩ ⟨#[47]⟩ _).mono ?_
                rintro e w' ⟨rfl, hw'⟩
                obtain rfl := hw'.symm
                rw [show Lib.hasPrefix (ByteArray.mk t.toArray).data.toList (ByteArray.mk #[47]).data.toList = true from p1]
                go_wp2_with fail
                refine (between ⟨t.toArray⟩ 33 126 _ (by rw [Com.size_mk]; omega)).mono ?_
                rintro e w' ⟨rfl, hw'⟩
                obtain rfl := hw'.symm
                rw [show allR 33 126 (ByteArray.mk t.toArray).data.toList = false from p2]
                go_wp2_with fail
                refine bodyPost_ret ((HR.out.put _ _ _ _).run rfl rfl rfl) rfl ⟨?_, below_four HB.out _ _ _ _⟩
                exact fp_no (by rw [HF.out, if_neg]; rintro ⟨_, _, e⟩; simp [okt, p2] at e)
              · have HS := Lib.hid (show Ht.first s.data.toList = some (m, t) by rw [HF.out, if_pos ⟨HV.out, by simp [okm, m1, m2, m3], by simp [okt, p1, p2]⟩])
                go_wp2_with fail
                refine (between ⟨m.toArray⟩ 65 90 _ (by rw [Com.size_mk]; omega)).mono ?_
                rintro e w' ⟨rfl, hw'⟩
                obtain rfl := hw'.symm
                rw [show allR 65 90 (ByteArray.mk m.toArray).data.toList = true from m3]
                go_wp2_with fail
                refine (Tryz.strings_HasPrefix ⟨t.toArray⟩ ⟨#[47]⟩ _).mono ?_
                rintro e w' ⟨rfl, hw'⟩
                obtain rfl := hw'.symm
                rw [show Lib.hasPrefix (ByteArray.mk t.toArray).data.toList (ByteArray.mk #[47]).data.toList = true from p1]
                go_wp2_with fail
                refine (between ⟨t.toArray⟩ 33 126 _ (by rw [Com.size_mk]; omega)).mono ?_
                rintro e w' ⟨rfl, hw'⟩
                obtain rfl := hw'.symm
                rw [show allR 33 126 (ByteArray.mk t.toArray).data.toList = true from p2]
                go_wp2_with fail
                refine bodyPost_ret ((HR.out.put _ _ _ _).run rfl rfl rfl) rfl ⟨?_, below_four HB.out _ _ _ _⟩
                exact (by unfold FirstPost; rw [HS.out]; rfl)
        · go_wp2_with fail
          refine bodyPost_ret ((HR.out.put _ _ _ _).run rfl rfl rfl) rfl ⟨?_, below_four HB.out _ _ _ _⟩
          exact fp_no (by rw [HF.out, if_neg]; rintro ⟨_, e, _⟩; simp [okm] at e; omega)
      · go_wp2_with fail
        refine bodyPost_ret ((HR.out.put _ _ _ _).run rfl rfl rfl) rfl ⟨?_, below_four HB.out _ _ _ _⟩
        exact fp_no (by rw [HF.out, if_neg]; rintro ⟨_, e, _⟩; simp [okm] at e; omega)
  · have HN := Lib.hid (first_not h3)
    have t3 : ¬ ((Ht.split [32] s.data.toList).length : Int) = 3 := by omega
    clear hc
    go_wp2_with fail
    refine bodyPost_ret ((HR.out.put _ _ _ _).run rfl rfl rfl) rfl ⟨?_, below_four HB.out _ _ _ _⟩
    exact fp_no HN.out
end Go.Proofs.YtnhjbcjeeilicaaGreatDoor.HtC
