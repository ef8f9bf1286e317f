/-
  The walk of package http's Write.
-/
import Derived.Test.YtnhjbcjeeilicaaGreatDoorHtJ
import Derived.Test.YtnhjbcjeeilicaaGreatDoorHtG
import Derived.Test.YtnhjbcjeeilicaaGreatDoorBld
import Derived.Deep.RegionHeld3
import Derived.WalkSpells
import Derived.WalkLawsBesides
import Derived.WalkSmall
import Derived.Outline
import Derived.Lib.ConvBytes
import Derived.Lib.AppendIntMem
import Derived.ArgAppend
namespace Go.Proofs.YtnhjbcjeeilicaaGreatDoor.HtK
open Go.RowKit Go.Proofs.YtnhjbcjeeilicaaGreatDoor Go.Proofs.YtnhjbcjeeilicaaGreatDoor.Ht Go.Proofs.YtnhjbcjeeilicaaGreatDoor.HtW Go.Proofs.YtnhjbcjeeilicaaGreatDoor.HtJ

/-- the table of powers that Itoa reads -/
def Tab (w : World) : Prop := Lib.TabIs Tryz.prog w "internal/strconv.uint64pow10" .u64 Lib.pow10Tab
theorem tabNum : Tryz.prog.globalNamed "internal/strconv.uint64pow10" = some 21 := by kernel_rfl
theorem Tab.below {w w' : World} (h : Tab w) (hb : Below w.heap.size w w') : Tab w' := by
  refine var?_below hb tabNum ?_ h
  unfold Tab Lib.TabIs World.var? at h
  simp only [tabNum, Option.bind_some] at h
  rcases Nat.lt_or_ge 21 w.heap.size with h1 | h1
  · exact h1
  · rw [Array.getElem?_eq_none h1] at h
    cases h
theorem bld_below {B b : Nat} {bs : List Value} {w w' : World} (h : Lib.IsBuilder 58 5 B b bs w) (hb : Below w.heap.size w w') : Lib.IsBuilder 58 5 B b bs w' := by
  rcases h with ⟨h1, v, h2, h3, h4⟩ | ⟨h1, v, h2, h3, h4⟩
  · exact .inl ⟨h1, v, (hb.block b (Array.getElem?_eq_some_iff.1 h2).1).trans h2, Com.own_below h3 hb, h4⟩
  · exact .inr ⟨h1, v, (hb.block b (Array.getElem?_eq_some_iff.1 h2).1).trans h2, Com.own_below h3 hb, h4⟩

/-- a response's box -/
def Sq (B : Nat) (w : World) (a b c : Value) : Prop := w.heap[B]? = some (.cells #[a, b, c] 42 (0, 0))
theorem Sq.below {B : Nat} {w w' : World} {a b c : Value} (h : Sq B w a b c) (hb : Below w.heap.size w w') : Sq B w' a b c := (hb.block _ (Array.getElem?_eq_some_iff.1 h).1).trans h
theorem Sq.lt {B : Nat} {w : World} {a b c : Value} (h : Sq B w a b c) : B < w.heap.size := (Array.getElem?_eq_some_iff.1 h).1
theorem Sq.cells {B : Nat} {w : World} {a b c : Value} (h : Sq B w a b c) : w.cell? ⟨B, 0, none⟩ = some a ∧ w.cell? ⟨B, 1, none⟩ = some b ∧ w.cell? ⟨B, 2, none⟩ = some c := by
  unfold Sq at h
  refine ⟨?_, ?_, ?_⟩
  all_goals (rw [Lib.cell_of_heap h]; rfl)

/-- what stands while the pieces are made -/
structure Carry (w0 w : World) : Prop where
  tab : Tab w
  below : Below w0.heap.size w0 w
theorem Carry.drew {w0 w : World} (h : Carry w0 w) : Carry w0 w.drew := ⟨h.tab, h.below.drew⟩
theorem itoa (n : Int) (h0 : -9223372036854775808 ≤ n) (h1 : n ≤ 9223372036854775807) (w : World) (ht : Tab w) :
    Calls Tryz.prog 22 #[.int .i64 n] w fun e w' => e = .returned (.string ⟨(Lib.itoa n).toArray⟩) ∧ Below w.heap.size w w' := by
  refine (Tryz.strconv_Itoa n h0 h1 _ ht).mono ?_
  rintro e w1 ⟨rfl, k, os, rfl⟩
  exact ⟨rfl, Lib.below_grow w.heap.size w (Nat.le_refl _) k os⟩
theorem itoaC (w0 : World) (g : Nat) (v0 : Value) (n : Int) (w : World) (h0 : -9223372036854775808 ≤ n) (h1 : n ≤ 9223372036854775807) (hc : Carry w0 w) (hv : w.cell? ⟨g, 0, none⟩ = some v0) :
    Calls Tryz.prog 22 #[.int .i64 n] w fun e w' => e = .returned (.string ⟨(Lib.itoa n).toArray⟩) ∧ w'.cell? ⟨g, 0, none⟩ = some v0 ∧ Carry w0 w' := by
  refine (itoa n h0 h1 w hc.tab).mono ?_
  rintro e w1 ⟨rfl, hb⟩
  exact ⟨rfl, (hb.cell (World.block_lt_of_cell? w _ hv)).trans hv, hc.tab.below hb, hc.below.trans (hb.mono hc.below.size)⟩
theorem reasonC (w0 : World) (g : Nat) (v0 : Value) (n : Int) (w : World) (hc : Carry w0 w) (hv : w.cell? ⟨g, 0, none⟩ = some v0) :
    Calls Tryz.prog 23 #[.int .i64 n] w fun e w' => e = .returned (.string ⟨(rsn n).toArray⟩) ∧ w'.cell? ⟨g, 0, none⟩ = some v0 ∧ Carry w0 w' := by
  refine (reason n w).mono ?_
  rintro e w1 ⟨rfl, hw⟩
  subst hw
  exact ⟨rfl, hv, hc⟩
theorem writeC (w0 : World) (g : Nat) (v0 : Value) (b : Nat) (l : List UInt8) (s : ByteArray) (w : World) (hc : Carry w0 w) (hv : w.cell? ⟨g, 0, none⟩ = some v0) (hg : g < b) (hb : Lib.IsBuilder 58 5 b b (Lib.byteCells l) w0) (hl : l.length + s.size ≤ 140737488355328) :
    Calls Tryz.prog 21 #[.pointer (some ⟨b, 0, none⟩), .string s] w fun e w' => e = .returned (.tuple #[.int .i64 s.size, .nilIface]) ∧ w'.cell? ⟨g, 0, none⟩ = some v0 ∧ Lib.IsBuilder 58 5 b b (Lib.byteCells (l ++ s.data.toList)) w' ∧ Below b w0 w' := by
  have hbw := bld_below hb hc.below
  have hbl : b < w.heap.size := by
    rcases hbw with h | h
    · exact h.lt
    · exact h.lt
  refine (Bld.writeString b b (Lib.byteCells l) s w hbw (by simp [Lib.byteCells]; exact hl) (by omega)).mono ?_
  rintro e w1 ⟨rfl, h2, h3⟩
  have hb0 : b < w0.heap.size := by
    rcases hb with h | h
    · exact h.lt
    · exact h.lt
  refine ⟨rfl, (h3.cell (p := ⟨g, 0, none⟩) hg).trans hv, ?_, (hc.below.mono (by omega)).trans h3⟩
  have : Lib.byteCells (l ++ s.data.toList) = Lib.byteCells l ++ Lib.strCells s := by simp [Lib.byteCells, Lib.strCells]
  rw [this]; exact h2
theorem itoaD (w0 : World) (g : Nat) (v1 v2 : Value) (n : Int) (w : World) (h0 : -9223372036854775808 ≤ n) (h1 : n ≤ 9223372036854775807) (hc : Carry w0 w) (hv : w.cell? ⟨g, 1, none⟩ = some v1) (hv2 : w.cell? ⟨g, 2, none⟩ = some v2) :
    Calls Tryz.prog 22 #[.int .i64 n] w fun e w' => e = .returned (.string ⟨(Lib.itoa n).toArray⟩) ∧ (w'.cell? ⟨g, 1, none⟩ = some v1 ∧ w'.cell? ⟨g, 2, none⟩ = some v2) ∧ Carry w0 w' := by
  refine (itoa n h0 h1 w hc.tab).mono ?_
  rintro e w1 ⟨rfl, hb⟩
  exact ⟨rfl, ⟨(hb.cell (World.block_lt_of_cell? w _ hv)).trans hv, (hb.cell (World.block_lt_of_cell? w _ hv2)).trans hv2⟩, hc.tab.below hb, hc.below.trans (hb.mono hc.below.size)⟩


/-- a row of a type other than bytes stays, unless it is block b -/
def Rests (b : Nat) (w w' : World) : Prop := ∀ (g : Nat) (cs : Array Value) (t : TypeId) f, g ≠ b → t ≠ 5 → w.heap[g]? = some (.cells cs t f) → w'.heap[g]? = some (.cells cs t f)
theorem Rests.setCell {b : Nat} {w w' : World} (h : Rests b w w') (k : Nat) (v : Value) : Rests b w (w'.setCell ⟨b, k, none⟩ v) := by
  intro g cs t f hg ht hw
  rw [← h g cs t f hg ht hw]
  simp only [World.setCell, Array.getElem?_modify]
  rw [if_neg (fun e => hg e.symm)]
theorem Rests.trans {b : Nat} {w w' w'' : World} (h : Rests b w w') (h' : Rests b w' w'') : Rests b w w'' := fun g cs t f hg ht hw => h' g cs t f hg ht (h g cs t f hg ht hw)
theorem Rests.grown {b : Nat} {w w' : World} {e : TypeId} (he : e = 5) {v : Value} {n : Nat} {xs : List Value} {B : Nat} (ho : w.ownsRow B e 1 v n xs) (hg : w.grownBy w' v.ownBlock) : Rests b w w' := by
  intro g cs t f hgb ht hw
  rw [← hw]
  refine hg.block g (Array.getElem?_eq_some_iff.1 hw).1 ?_
  intro e2
  rcases ho.2 with ⟨rfl, _⟩ | ⟨g2, cap, cur, rfl, _, hg2, _⟩
  · cases e2
  · simp only [Value.ownBlock, Option.some.injEq] at e2
    subst e2
    rw [hg2] at hw
    cases hw
    exact ht he

theorem copyCheck2 (B b : Nat) (bs : List Value) (w : World) (h : Lib.IsBuilder 58 5 B b bs w) :
    Calls Tryz.prog 37 #[.pointer (some ⟨b, 0, none⟩)] w fun e w' => e = .returned (.tuple #[]) ∧ (Lib.BuilderAt 58 5 B b (.pointer (some ⟨b, 0, none⟩)) bs w' ∧ Below B w w' ∧ Rests b w w') := by
  rcases h with h | h
  · refine (Bld.copyCheck_fresh b w h.cell0 h.shape h.frozen0).mono ?_
    rintro e w' ⟨rfl, rfl⟩
    exact ⟨rfl, h.used _, (Below.refl B w).setCell (p := ⟨b, 0, none⟩) h.1 _, Rests.setCell (fun g cs t f hg ht hw => hw) 0 _⟩
  · refine (Bld.copyCheck_used b w h.cell0).mono ?_
    rintro e w' ⟨rfl, rfl⟩
    exact ⟨rfl, h, Below.refl B _, fun g cs t f hg ht hw => hw⟩

set_option maxHeartbeats 2000000 in
set_option maxRecDepth 100000 in
theorem writeString2 (B b : Nat) (bs : List Value) (s : ByteArray) (w : World) (h : Lib.IsBuilder 58 5 B b bs w) (hlen : bs.length + s.size ≤ 140737488355328) (hBw : B ≤ w.heap.size) :
    Calls Tryz.prog 21 #[.pointer (some ⟨b, 0, none⟩), .string s] w fun e w' => e = .returned (.tuple #[.int .i64 s.size, .nilIface]) ∧ (Lib.IsBuilder 58 5 B b (bs ++ Lib.strCells s) w' ∧ Below B w w' ∧ Rests b w w') := by
  obtain ⟨i0, hi, hz0, hz1, hz2⟩ := info_parts infoByte
  go_enter Tryz.func21, Tryz.ntmps21
  go_wp2_with (go_at_call 37; refine (copyCheck2 B b bs _ h).mono ?_)
  rintro e w1 ⟨rfl, h1, hb1, hr1⟩
  obtain ⟨hB, v, hbk, hown, hne⟩ := h1
  have c0 : w1.cell? ⟨b, 0, none⟩ = some (.pointer (some ⟨b, 0, none⟩)) := by rw [Lib.cell_of_heap hbk]; rfl
  have c1 : w1.cell? ⟨b, 1, none⟩ = some v := by rw [Lib.cell_of_heap hbk]; rfl
  go_wp2_with (at_builtin; refine Lib.wpList_append_own_string _ rfl _ _ 22 9 rfl B 5 i0 Tryz.underlying22 Tryz.underlying9 hi hz0 hz1 hz2 _ _ _ rfl hown s rfl ?c3 ?c4 ?c5 ?_)
  case c3 => unfold maxLen; omega
  case c4 => omega
  case c5 => have := hb1.size; omega
  intro v' w2 hown' hgrow _
  have hlt : b < w1.heap.size := by
    rcases Nat.lt_or_ge b w1.heap.size with h' | h'
    · exact h'
    · simp [Array.getElem?_eq_none h'] at hbk
  have hb2 : w2.heap[b]? = some (.cells #[.pointer (some ⟨b, 0, none⟩), v] 58 (0, 0)) := by
    rw [hgrow.block b hlt (fun e => hne e.symm)]
    exact hbk
  have d0 : w2.cell? ⟨b, 0, none⟩ = some (.pointer (some ⟨b, 0, none⟩)) := by rw [Lib.cell_of_heap hb2]; rfl
  have d1 : w2.cell? ⟨b, 1, none⟩ = some v := by rw [Lib.cell_of_heap hb2]; rfl
  have f1 : w2.frozen? ⟨b, 1, none⟩ = false := Lib.frozen_of_heap hb2 1
  have hr2 := hr1.trans (Rests.grown (b := b) rfl hown hgrow)
  obtain ⟨ao, n', cap, rfl⟩ : ∃ ao n' cap, v' = .slice ao n' cap := by
    rcases hown'.2 with ⟨hv, _⟩ | ⟨g, cap, cur, hv, _⟩
    · exact ⟨_, _, _, hv⟩
    · exact ⟨_, _, _, hv⟩
  go_wp2
  go_ret2
  refine ⟨rfl, Or.inr ?_, ?_, hr2.setCell 1 _⟩
  · exact Lib.BuilderAt.put (T := 58) (e := 5) hB hb2 (bs' := bs ++ Lib.strCells s) (by simpa [Lib.strCells_length] using hown') (by decide)
  · exact (hb1.grown hgrow (by have := hb1.size; omega) (fun k hk => (hown.lt k hk).1)).setCell (p := ⟨b, 1, none⟩) hB _
end Go.Proofs.YtnhjbcjeeilicaaGreatDoor.HtK
