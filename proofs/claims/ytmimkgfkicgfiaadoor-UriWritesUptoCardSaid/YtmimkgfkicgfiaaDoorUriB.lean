/-
  The walk of strings.Cut at one byte; strings.SplitSeq at one byte, as an iterator.
-/
import Derived.Test.YtmimkgfkicgfiaaDoorUriA
import Derived.Test.YtmimkgfkicgfiaaDoorRng
import Derived.Shelf.Abstract
import Derived.OwnWalkIn
import Derived.TacticsInMore
import Derived.LoopNIn
import Derived.LoopIn
import Derived.RangeFuncLeaves
import Derived.Sort.LoopGhostIn
namespace Go.Proofs.YtmimkgfkicgfiaaDoor.UriB
open Go.RowKit Go.Proofs.YtmimkgfkicgfiaaDoor

theorem ib_free {c : UInt8} {s : List UInt8} (h : c ∉ s) : Lib.indexByte s c = -1 := by
  induction s with
  | nil => rfl
  | cons x t ih =>
    have h1 : x ≠ c := fun e => h (by simp [e])
    have h2 : c ∉ t := fun e => h (by simp [e])
    simp [Lib.indexByte, h1, ih h2]
theorem ib_at {c : UInt8} {a b : List UInt8} (h : c ∉ a) : Lib.indexByte (a ++ c :: b) c = a.length := by
  induction a with
  | nil => simp [Lib.indexByte]
  | cons x t ih =>
    have h1 : x ≠ c := fun e => h (by simp [e])
    have h2 : c ∉ t := fun e => h (by simp [e])
    simp [Lib.indexByte, h1, ih h2]
    try omega

/-- package bytealg's variable holds some number -/
def Mx (w : World) : Prop := ∃ m, w.cell? ⟨18, 0, none⟩ = some (.int .i64 m)
theorem Mx.below {w w' : World} (h : Mx w) (hb : Below w.heap.size w w') : Mx w' := by
  obtain ⟨m, hm⟩ := h
  exact ⟨m, (hb.cell (World.block_lt_of_cell? w _ hm)).trans hm⟩
theorem Mx.shaped {w : World} (h : w.ShapedOpen Tryd.prog) : Mx w := Tryd.laysM145.s1_3 w h
theorem cut (c : UInt8) (s : ByteArray) (w : World) (hs : s.size < 4294967281) (h : Mx w) :
    Calls Tryd.prog 58 #[.string s, .string ⟨#[c]⟩] w fun e w' => (∃ b, e = .returned (.tuple #[.string ⟨(Up.cutAt c s.data.toList).1.toArray⟩, .string ⟨(Up.cutAt c s.data.toList).2.toArray⟩, .bool b])) ∧ Below w.heap.size w w' := by
  obtain ⟨m, hm⟩ := h
  refine (Tryd.strings_Cut s ⟨#[c]⟩ m w hs hm).mono ?_
  rintro e w' ⟨rfl, n, rfl⟩
  have := Up.cut_eq c s.data.toList
  exact ⟨⟨_, by rw [show (⟨#[c]⟩ : ByteArray).data.toList = [c] from rfl, this.1, this.2]⟩, UriA.below_drewN (Below.refl _ _) n⟩

attribute [local go_sem] Oper.semAt_some

set_option maxHeartbeats 1000000 in
theorem splitSeq_in (F : Fence) (n : Nat) (h1 : F.fn 106) (hro : F.round = none) (s sep : ByteArray) (k : Int) (w : World) :
    CallsIn F n Tryd.prog 106 #[.string s, .string sep, .int .i64 k] w fun e w' => e = .returned (.func (.func 131) #[] #[.pointer (some ⟨w.heap.size + 1, 0, none⟩), .pointer (some ⟨w.heap.size, 0, none⟩), .pointer (some ⟨w.heap.size + 2, 0, none⟩)]) ∧
      w' = ((w.alloc (.cells #[.string s] 9)).alloc (.cells #[.string sep] 9)).alloc (.cells #[.int .i64 k] 3) := by
  refine callsIn_of_wp Tryd.func106 rfl h1 ?_ hro
  simp only [Tryd.ntmps106, List.size_toArray, List.length_cons, List.length_nil, Nat.reduceAdd, Nat.reduceSub, Array.replicate_succ, Array.replicate_zero, List.push_toArray, List.append_toArray, List.nil_append, List.cons_append]
  gi_wp2
  go_ret
  exact ⟨rfl, rfl⟩
set_option maxHeartbeats 1000000 in
theorem SplitSeq_in (F : Fence) (n : Nat) (h0 : F.fn 61) (h1 : F.fn 106) (hro : F.round = none) (hn : 1 ≤ n) (s sep : ByteArray) (w : World) :
    CallsIn F n Tryd.prog 61 #[.string s, .string sep] w fun e w' => e = .returned (.func (.func 131) #[] #[.pointer (some ⟨w.heap.size + 1, 0, none⟩), .pointer (some ⟨w.heap.size, 0, none⟩), .pointer (some ⟨w.heap.size + 2, 0, none⟩)]) ∧
      w' = ((w.alloc (.cells #[.string s] 9)).alloc (.cells #[.string sep] 9)).alloc (.cells #[.int .i64 0] 3) := by
  refine callsIn_of_wp Tryd.func61 rfl h0 ?_ hro
  simp only [Tryd.ntmps61, List.size_toArray, List.length_cons, List.length_nil, Nat.reduceAdd, Nat.reduceSub, Array.replicate_succ, Array.replicate_zero, List.push_toArray, List.append_toArray, List.nil_append, List.cons_append]
  gi_wp2_with (gi_at_call 106; refine (splitSeq_in F (n - 1) h1 hro _ _ _ _).mono ?_; rintro e w' ⟨rfl, rfl⟩)
  go_ret
  exact ⟨rfl, rfl⟩

/-- the pieces, as strings -/
def pieces (c : UInt8) (l : List UInt8) : List ByteArray := (Up.splits c l).map fun x => ⟨x.toArray⟩

set_option maxRecDepth 100000 in
set_option maxHeartbeats 4000000 in
theorem gives (n : Nat) (hn : 2 ≤ n) (B : Nat) (c : UInt8) (s : ByteArray) (w0 : World)
    (hb0 : w0.heap[B]? = some (.cells #[.string s] 9 (0, 0))) (hb1 : w0.heap[B + 1]? = some (.cells #[.string ⟨#[c]⟩] 9 (0, 0))) (hb2 : w0.heap[B + 2]? = some (.cells #[.int .i64 0] 3 (0, 0))) (hs : s.size ≤ 4294967280) :
    Rng.Gives Fence.wide n Tryd.prog 131 #[.pointer (some ⟨B + 1, 0, none⟩), .pointer (some ⟨B, 0, none⟩), .pointer (some ⟨B + 2, 0, none⟩)] B (B + 3) B (pieces c s.data.toList) w0 := by
  intro l J Jx W hsz hsp hJ hJx hY h0
  have g0 : W.heap[B]? = some (.cells #[.string s] 9 (0, 0)) := (hsp B (by omega) (by omega)).trans hb0
  have g1 : W.heap[B + 1]? = some (.cells #[.string ⟨#[c]⟩] 9 (0, 0)) := (hsp (B + 1) (by omega) (by omega)).trans hb1
  have g2 : W.heap[B + 2]? = some (.cells #[.int .i64 0] 3 (0, 0)) := (hsp (B + 2) (by omega) (by omega)).trans hb2
  have G0 := Lib.hid g0; have G1 := Lib.hid g1; have G2 := Lib.hid g2
  have q0 : W.cell? ⟨B, 0, none⟩ = some (.string s) := by rw [Lib.cell_of_heap g0]; rfl
  have q1 : W.cell? ⟨B + 1, 0, none⟩ = some (.string ⟨#[c]⟩) := by rw [Lib.cell_of_heap g1]; rfl
  clear g0 g1 g2 hb0 hb1 hb2
  refine callsIn_of_wp Tryd.func131 rfl trivial ?_ rfl
  simp only [Tryd.ntmps131, List.size_toArray, List.length_cons, List.length_nil, Nat.reduceAdd, Nat.reduceSub, Array.replicate_succ, Array.replicate_zero, List.push_toArray, List.append_toArray, List.nil_append, List.cons_append]
  gi_wp2_with fail
  gi_loopg [7, 8] s.size (fun g v7 v8 wr => ∃ (pre : List (List UInt8)) (r : List UInt8), Up.splits c s.data.toList = pre ++ Up.splits c r ∧ r.length = g ∧ r.length ≤ s.size ∧ wr.heap[B]? = some (.cells #[.string ⟨r.toArray⟩] 9 (0, 0)) ∧ wr.heap[B + 1]? = some (.cells #[.string ⟨#[c]⟩] 9 (0, 0)) ∧ wr.heap[B + 2]? = some (.cells #[.int .i64 0] 3 (0, 0)) ∧ J (pre.map fun x => ⟨x.toArray⟩) wr)
  case atStart => exact ⟨[], s.data.toList, rfl, rfl, Nat.le_refl _, by rw [Com.mk_data]; exact G0.out, G1.out, G2.out, h0⟩
  case round =>
    obtain ⟨pre, r, hsp2, hrg, hrs, g0, g1, g2, hj⟩ := hrel
    have HSP := Lib.hid hsp2; clear hsp2
    have HG := Lib.hid hrg; clear hrg
    have q0 : wr.cell? ⟨B, 0, none⟩ = some (.string ⟨r.toArray⟩) := by rw [Lib.cell_of_heap g0]; rfl
    have q1 : wr.cell? ⟨B + 1, 0, none⟩ = some (.string ⟨#[c]⟩) := by rw [Lib.cell_of_heap g1]; rfl
    have q2 : wr.cell? ⟨B + 2, 0, none⟩ = some (.int .i64 0) := by rw [Lib.cell_of_heap g2]; rfl
    have HG0 := Lib.hid g0; have HG1 := Lib.hid g1; have HG2 := Lib.hid g2
    clear g0 g1 g2
    by_cases hc : c ∈ r
    · obtain ⟨a, b, rfl, ha⟩ := Up.parts hc
      have hix : Lib.indexByte (a ++ c :: b) c = (a.length : Int) := ib_at ha
      have hal : a.length ≤ 4294967280 := by simp at hrs; omega
      have hE1 : (ByteArray.mk (a ++ c :: b).toArray).extract 0 a.length = ⟨a.toArray⟩ := by
        rw [← Com.mk_data ((ByteArray.mk (a ++ c :: b).toArray).extract 0 a.length), Com.extract_data]
        simp
      have hpx : (pre.map fun x => (⟨x.toArray⟩ : ByteArray)) ++ [⟨a.toArray⟩] <+: pieces c s.data.toList := by
        unfold pieces
        rw [HSP.out, Up.splits_at ha, List.map_append, List.map_cons]
        exact ⟨(Up.splits c b).map fun x => ⟨x.toArray⟩, by simp⟩
      obtain ⟨fn, tmps, assign, body, hy, hR⟩ := hY _ ⟨a.toArray⟩ wr hj hpx
      have HPX := Lib.hid hpx; clear hpx
      have hfI : Fence.wide.fn 133 := trivial
      have h1 : 1 ≤ n := by omega
      gi_wp2_with (gi_at_call 133; refine (callsIn_wide.2 (Tryd.strings_Index_one ⟨(a ++ c :: b).toArray⟩ c _)).mono ?_; rintro e w' ⟨rfl, rfl⟩)
      refine hR.mono ?_
      rintro e W3 (⟨rfl, hJ3, hk3⟩ | ⟨rfl, hJx3⟩)
      · have g0 := (hk3 B (by omega) (by omega)).trans HG0.out
        have g1 := (hk3 (B + 1) (by omega) (by omega)).trans HG1.out
        have g2 := (hk3 (B + 2) (by omega) (by omega)).trans HG2.out
        have p0 : W3.cell? ⟨B, 0, none⟩ = some (.string ⟨(a ++ c :: b).toArray⟩) := by rw [Lib.cell_of_heap g0]; rfl
        have p1 : W3.cell? ⟨B + 1, 0, none⟩ = some (.string ⟨#[c]⟩) := by rw [Lib.cell_of_heap g1]; rfl
        have pf : W3.frozen? ⟨B, 0, none⟩ = false := Lib.frozen_of_heap g0 0
        have P0 := Lib.hid g0; have P1 := Lib.hid g1; have P2 := Lib.hid g2
        clear g0 g1 g2
        have hE2 : (ByteArray.mk (a ++ c :: b).toArray).extract (a.length + 1) (a.length + (b.length + 1)) = ⟨b.toArray⟩ := by
          rw [← Com.mk_data ((ByteArray.mk (a ++ c :: b).toArray).extract (a.length + 1) (a.length + (b.length + 1))), Com.extract_data]
          simp [List.drop_append, List.take_of_length_le]
        gi_wp2
        have hgr : W3.grownBy (W3.setCell ⟨B, 0, none⟩ (.string ⟨b.toArray⟩)) (some B) :=
          ⟨rfl, rfl, rfl, by simp [World.setCell], fun k _ hk => Below.heap_setCell _ _ _ _ (fun e => hk (by rw [e]))⟩
        have hj4 := hJ _ _ _ _ hJ3 hgr (fun r e => by cases e; exact .inl rfl)
        have n0 : (W3.setCell ⟨B, 0, none⟩ (.string ⟨b.toArray⟩)).heap[B]? = some (.cells #[.string ⟨b.toArray⟩] 9 (0, 0)) := by
          simp only [World.setCell, Array.getElem?_modify, if_true, P0.out]
          rfl
        have n1 := (Below.heap_setCell W3 ⟨B, 0, none⟩ (.string ⟨b.toArray⟩) (B + 1) (by simp)).trans P1.out
        have n2 := (Below.heap_setCell W3 ⟨B, 0, none⟩ (.string ⟨b.toArray⟩) (B + 2) (by simp)).trans P2.out
        gi_roundg b.length
        case measure => have := HG.out; simp at this; omega
        case rel => exact ⟨pre ++ [a], b, by rw [HSP.out, Up.splits_at ha]; simp, rfl, by simp at hrs; omega, n0, n1, n2, by rw [List.map_append]; exact hj4⟩
      · gi_wp2
        refine bodyPost_ret (results_none rfl _ _ _) rfl ?_
        exact ⟨⟨_, rfl⟩, .inr ⟨_, HPX.out, hJx3⟩⟩
    · have hix : Lib.indexByte r c = -1 := ib_free hc
      have hS1 := HSP.out
      rw [Up.splits_free hc] at hS1
      have hall : (pre.map fun x => (⟨x.toArray⟩ : ByteArray)) ++ [⟨r.toArray⟩] = pieces c s.data.toList := by
        unfold pieces
        rw [hS1]
        simp
      clear hS1
      have hpx : (pre.map fun x => (⟨x.toArray⟩ : ByteArray)) ++ [⟨r.toArray⟩] <+: pieces c s.data.toList := by rw [hall]; exact List.prefix_refl _
      obtain ⟨fn, tmps, assign, body, hy, hR⟩ := hY _ ⟨r.toArray⟩ wr hj hpx
      have HPX := Lib.hid hpx; clear hpx
      have HAL := Lib.hid hall; clear hall
      have hfI : Fence.wide.fn 133 := trivial
      have h1 : 1 ≤ n := by omega
      gi_wp2_with (gi_at_call 133; refine (callsIn_wide.2 (Tryd.strings_Index_one ⟨r.toArray⟩ c _)).mono ?_; rintro e w' ⟨rfl, rfl⟩)
      refine hR.mono ?_
      rintro e W3 (⟨rfl, hJ3, hk3⟩ | ⟨rfl, hJx3⟩)
      · gi_wp2
        go_end0
        exact ⟨⟨_, rfl⟩, .inl (by rw [← HAL.out]; exact hJ3)⟩
      · gi_wp2
        go_end0
        exact ⟨⟨_, rfl⟩, .inr ⟨_, HPX.out, hJx3⟩⟩
end Go.Proofs.YtmimkgfkicgfiaaDoor.UriB
