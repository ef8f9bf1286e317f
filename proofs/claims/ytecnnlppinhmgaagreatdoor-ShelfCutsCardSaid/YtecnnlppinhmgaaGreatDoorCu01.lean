/-
  The law ShelfCuts: the new frame if Put took it, else the old one. The law ShelfCuts, where the id is good and the shards are short.
-/
import Derived.Test.YtecnnlppinhmgaaGreatDoorSd02
import Derived.Test.YtecnnlppinhmgaaGreatDoorSe03
import Derived.Test.YtecnnlppinhmgaaGreatDoorSh04
namespace Go.Proofs.YtecnnlppinhmgaaGreatDoor.SfN
open Go.RowKit Go.Proofs.YtecnnlppinhmgaaGreatDoor Go.Proofs.YtecnnlppinhmgaaGreatDoor.HtW Go.Proofs.YtecnnlppinhmgaaGreatDoor.FrC Go.Proofs.YtecnnlppinhmgaaGreatDoor.FrG Go.Proofs.YtecnnlppinhmgaaGreatDoor.DiskB Go.Proofs.YtecnnlppinhmgaaGreatDoor.SfA Go.Proofs.YtecnnlppinhmgaaGreatDoor.SfB Go.Proofs.YtecnnlppinhmgaaGreatDoor.SfC Go.Proofs.YtecnnlppinhmgaaGreatDoor.IdBox Go.Proofs.YtecnnlppinhmgaaGreatDoor.SfP Go.Proofs.YtecnnlppinhmgaaGreatDoor.SfD

/-- an Over's cells -/
def oc (x y z : Int) (o f : Value) (b : Bool) : Array Value := #[.int .i64 x, .int .i64 y, .int .i64 z, o, f, .bool b]
theorem cell_al {w : World} {a : Addr} {v : Value} (o : Obj) (h : w.cell? a = some v) : (w.alloc o).cell? a = some v := (((Below.refl _ _).alloc (Nat.le_refl _) o).cell (World.block_lt_of_cell? _ _ h)).trans h
set_option maxHeartbeats 4000000 in
set_option maxRecDepth 100000 in
/-- an id that is not good, or too long a shard -/
theorem cuts_no (x y z : Int) (d1 d2 : List UInt8) {a1 a2 : Option Addr} (k1 k2 : Nat) (fl : Bool) (w : World) {aL aB aD aN aF aG : Addr} (hE : Env w aL aB aD aN aF aG) (h : FrK.goodB x y z = false ∨ 1024 < d1.length ∨ 1024 < d2.length) :
    Calls Tryz.prog 5 #[.agg (oc x y z (.slice a1 d1.length k1) (.slice a2 d2.length k2) fl)] w fun e w' => e = .returned (.bool true) ∧ Below w.heap.size w w' := by
  obtain ⟨w0, hw0, hb0, hx0⟩ : ∃ w0, w0 = w.alloc (.cells (oc x y z (.slice a1 d1.length k1) (.slice a2 d2.length k2) fl) 47) ∧ Below w.heap.size w w0 ∧ w0.heap[w.heap.size]? = some (.cells (oc x y z (.slice a1 d1.length k1) (.slice a2 d2.length k2) fl) 47 (0, 0)) := ⟨_, rfl, (Below.refl _ _).alloc (Nat.le_refl _) _, heap_alloc_new _ _⟩
  have p0 : w0.cell? ⟨w.heap.size, 0, none⟩ = some (.int .i64 x) := by rw [Lib.cell_of_heap hx0]; rfl
  have p1 : w0.cell? ⟨w.heap.size, 1, none⟩ = some (.int .i64 y) := by rw [Lib.cell_of_heap hx0]; rfl
  have p2 : w0.cell? ⟨w.heap.size, 2, none⟩ = some (.int .i64 z) := by rw [Lib.cell_of_heap hx0]; rfl
  have p3 : w0.cell? ⟨w.heap.size, 3, none⟩ = some (.slice a1 d1.length k1) := by rw [Lib.cell_of_heap hx0]; rfl
  have p4 : w0.cell? ⟨w.heap.size, 4, none⟩ = some (.slice a2 d2.length k2) := by rw [Lib.cell_of_heap hx0]; rfl
  have p5 : w0.cell? ⟨w.heap.size, 5, none⟩ = some (.bool fl) := by rw [Lib.cell_of_heap hx0]; rfl
  have HB0 := Lib.hid hb0
  have HE := Lib.hid hE
  have HH := Lib.hid h
  clear hb0 hx0 hE h
  obtain ⟨w1, hw1, hb1, hx1⟩ : ∃ w1, w1 = (w0.alloc (.cells #[.int .i64 x, .int .i64 y, .int .i64 z] 23)).drew ∧ Below w0.heap.size w0 w1 ∧ Ix w1 w0.heap.size x y z := ⟨_, rfl, ((Below.refl _ _).alloc (Nat.le_refl _) _).drew, heap_alloc_new _ _⟩
  have HX1 := Lib.hid hx1
  have HB1 := Lib.hid (HB0.out.trans (hb1.mono HB0.out.size))
  have KA := Lib.hid (SfD.alive w1 (HE.out.below HB1.out))
  have KG := Lib.hid (fun W => FrK.goodId x y z W)
  clear hb1 hx1
  go_enter Tryz.func5, Tryz.ntmps5
  go_upto_region 1 with fail
  rw [← hw0]
  clear hw0
  have q0 := cell_al (.cells #[.int .i64 0, .int .i64 0, .int .i64 0] 23) p0
  have r0 := cell_al (.cells #[.int .i64 x, .int .i64 y, .int .i64 z] 23) p0
  have q1 := cell_al (.cells #[.int .i64 0, .int .i64 0, .int .i64 0] 23) p1
  have r1 := cell_al (.cells #[.int .i64 x, .int .i64 y, .int .i64 z] 23) p1
  have q2 := cell_al (.cells #[.int .i64 0, .int .i64 0, .int .i64 0] 23) p2
  have r2 := cell_al (.cells #[.int .i64 x, .int .i64 y, .int .i64 z] 23) p2
  have q3 := cell_al (.cells #[.int .i64 0, .int .i64 0, .int .i64 0] 23) p3
  have r3 := cell_al (.cells #[.int .i64 x, .int .i64 y, .int .i64 z] 23) p3
  have q4 := cell_al (.cells #[.int .i64 0, .int .i64 0, .int .i64 0] 23) p4
  have r4 := cell_al (.cells #[.int .i64 x, .int .i64 y, .int .i64 z] 23) p4
  have q5 := cell_al (.cells #[.int .i64 0, .int .i64 0, .int .i64 0] 23) p5
  have r5 := cell_al (.cells #[.int .i64 x, .int .i64 y, .int .i64 z] 23) p5
  go_region
  rw [← hw1]
  clear hw1 p0 p1 p2 p3 p4 p5 q0 q1 q2 q3 q4 q5 r0 r1 r2 r3 r4 r5
  go_upto_region 5 with (first
    | (go_at_call 7; refine KA.out.mono ?_; rintro e w2 ⟨rfl, hb2⟩; have HB2 := Lib.hid (HB1.out.trans (hb2.mono HB1.out.size)); have HX2 := Lib.hid (HX1.out.below hb2); have KN := Lib.hid (SfA.new 2 (by decide) w2 (HE.out.below HB2.out).errs.lt); clear hb2)
    | (go_at_call 8; refine KN.out.mono ?_; rintro e w3 ⟨sb, rfl, -, -, -, hb3⟩; have HB3 := Lib.hid (HB2.out.trans (hb3.mono HB2.out.size)); have HX3 := Lib.hid (HX2.out.below hb3); clear hb3))
  obtain ⟨c0, c1, c2⟩ := HX3.out.cells
  cases hg : FrK.goodB x y z
  · rw [hg] at KG
    clear hg
    go_wp2_with (go_at_call 9; refine (KG.out _).mono ?_; rintro e w4 ⟨rfl, hb4⟩)
    go_ret
    exact ⟨rfl, HB3.out.trans (hb4.mono HB3.out.size)⟩
  · rw [hg] at KG
    have hl : 1024 < d1.length ∨ 1024 < d2.length := HH.out.resolve_left (by rw [hg]; decide)
    clear hg
    by_cases h1 : 1024 < d1.length
    · have e2 : decide ((d1.length : Int) > 1024) = true := decide_eq_true (by omega)
      have e3 : decide ((1024 : Int) < (d1.length : Int)) = true := decide_eq_true (by omega)
      clear hl
      go_wp2_with (go_at_call 9; refine (KG.out _).mono ?_; rintro e w4 ⟨rfl, hb4⟩)
      go_ret
      exact ⟨rfl, HB3.out.trans (hb4.mono HB3.out.size)⟩
    · have e2 : decide ((d1.length : Int) > 1024) = false := decide_eq_false (by omega)
      have e3 : decide ((1024 : Int) < (d1.length : Int)) = false := decide_eq_false (by omega)
      have e4 : decide ((d2.length : Int) > 1024) = true := decide_eq_true (by omega)
      have e5 : decide ((1024 : Int) < (d2.length : Int)) = true := decide_eq_true (by omega)
      clear hl h1
      go_wp2_with (go_at_call 9; refine (KG.out _).mono ?_; rintro e w4 ⟨rfl, hb4⟩)
      go_ret
      exact ⟨rfl, HB3.out.trans (hb4.mono HB3.out.size)⟩
end Go.Proofs.YtecnnlppinhmgaaGreatDoor.SfN
namespace Go.Proofs.YtecnnlppinhmgaaGreatDoor.SfO
open Go.RowKit Go.Proofs.YtecnnlppinhmgaaGreatDoor Go.Proofs.YtecnnlppinhmgaaGreatDoor.HtW Go.Proofs.YtecnnlppinhmgaaGreatDoor.FrC Go.Proofs.YtecnnlppinhmgaaGreatDoor.FrG Go.Proofs.YtecnnlppinhmgaaGreatDoor.DiskB Go.Proofs.YtecnnlppinhmgaaGreatDoor.SfA Go.Proofs.YtecnnlppinhmgaaGreatDoor.SfB Go.Proofs.YtecnnlppinhmgaaGreatDoor.SfC Go.Proofs.YtecnnlppinhmgaaGreatDoor.IdBox Go.Proofs.YtecnnlppinhmgaaGreatDoor.SfP Go.Proofs.YtecnnlppinhmgaaGreatDoor.SfD Go.Proofs.YtecnnlppinhmgaaGreatDoor.SfI Go.Proofs.YtecnnlppinhmgaaGreatDoor.SfJ Go.Proofs.YtecnnlppinhmgaaGreatDoor.SfK Go.Proofs.YtecnnlppinhmgaaGreatDoor.SfN

/-- a frame's stamp -/
def stp (x y z n : Nat) : Fp.Stamp := ⟨x, y, z, 2, n⟩
theorem getV_put {s : Fp.Stamp} {d : List UInt8} (h : s.fits) (hl : d.length ≤ 1024) : GetV (Fp.put s d) s.node s.boot s.seq s.shard = true := by
  unfold GetV
  rw [Fp.get_put h hl]
  simp [idB]
theorem blobs_one (x y z : Nat) (f : List UInt8) (hg : FrK.goodB x y z = true) : Blobs (SfP.one (nm 98 x y z) f) [⟨x, y, z⟩] := by
  refine ⟨rfl, fun i hi => ?_⟩
  rw [List.mem_singleton.1 hi]
  exact hg
theorem stamp_nums {s : Fp.Stamp} (h : s.fits) : ∀ v ∈ [s.node, s.boot, s.seq, s.shard, s.size], v < 9223372036854775808 := by
  obtain ⟨h1, h2, h3, h4, h5⟩ := h
  intro v hv
  simp only [List.mem_cons, List.not_mem_nil, or_false] at hv
  rcases hv with rfl | rfl | rfl | rfl | rfl <;> omega
theorem idl_one {w : World} {v : Value} {i : Id3} (h : Idl w v [i]) : ∃ b c, v = .slice (some ⟨b, 0, none⟩) 1 c ∧ w.cell? ⟨b, 0, none⟩ = some (.int .i64 (i.a : Int)) ∧ w.cell? ⟨b, 1, none⟩ = some (.int .i64 (i.b : Int)) ∧ w.cell? ⟨b, 2, none⟩ = some (.int .i64 (i.c : Int)) := by
  rcases h with ⟨h, _⟩ | ⟨b, c, h1, _, h2⟩
  · cases h
  · exact ⟨b, c, h1, h2 0 _ rfl, h2 1 _ rfl, h2 2 _ rfl⟩
/-- a frame of a good stamp -/
structure Fm (s : Fp.Stamp) (d fr : List UInt8) : Prop where
  eq : fr = Fp.put s d
  fits : s.fits
  short : d.length ≤ 1024
theorem Fm.get {s : Fp.Stamp} {d fr : List UInt8} (h : Fm s d fr) : Fp.get fr = .ok (s, d) := by rw [h.eq]; exact Fp.get_put h.fits h.short
theorem Fm.len {s : Fp.Stamp} {d fr : List UInt8} (h : Fm s d fr) : fr.length ≤ 4096 := by rw [h.eq]; have := FrN.frame_len s d; have := h.short; omega

set_option maxHeartbeats 16000000 in
set_option maxRecDepth 100000 in
theorem cuts_yes (x y z : Nat) (d1 d2 : List UInt8) {a1 a2 : Option Addr} (k1 k2 : Nat) (fl : Bool) (w : World) {aL aB aD aN aF aG : Addr} (hE : Env w aL aB aD aN aF aG) (hmx : Mx w) (hbA : Bs w a1 d1 k1) (hbB : Bs w a2 d2 k2) (hg : FrK.goodB x y z = true) (hl1 : d1.length ≤ 1024) (hl2 : d2.length ≤ 1024) :
    Calls Tryz.prog 5 #[.agg (oc x y z (.slice a1 d1.length k1) (.slice a2 d2.length k2) fl)] w fun e w' => e = .returned (.bool true) ∧ Below w.heap.size w w' := by
  have hgb : 0 ≤ (x : Int) ∧ (x : Int) < 16 ∧ 0 ≤ (y : Int) ∧ (y : Int) ≤ 1099511627776 ∧ 0 ≤ (z : Int) ∧ (z : Int) ≤ 1099511627776 := by unfold FrK.goodB at hg; exact of_decide_eq_true hg
  obtain ⟨sa, hsa⟩ : ∃ s, s = stp x y z d1.length := ⟨_, rfl⟩
  obtain ⟨sb, hsb⟩ : ∃ s, s = stp x y z d2.length := ⟨_, rfl⟩
  have hfa : sa.fits := by rw [hsa]; exact ⟨by show x < 16; omega, by show y ≤ _; omega, by show z ≤ _; omega, by show 2 < 16; decide, hl1⟩
  have hfb : sb.fits := by rw [hsb]; exact ⟨by show x < 16; omega, by show y ≤ _; omega, by show z ≤ _; omega, by show 2 < 16; decide, hl2⟩
  obtain ⟨fa, hFA⟩ : ∃ fr, Fm sa d1 fr := ⟨_, rfl, hfa, hl1⟩
  obtain ⟨fb, hFB⟩ : ∃ fr, Fm sb d2 fr := ⟨_, rfl, hfb, hl2⟩
  obtain ⟨w0, hw0, hb0, hx0⟩ : ∃ w0, w0 = w.alloc (.cells (oc x y z (.slice a1 d1.length k1) (.slice a2 d2.length k2) fl) 47) ∧ Below w.heap.size w w0 ∧ w0.heap[w.heap.size]? = some (.cells (oc x y z (.slice a1 d1.length k1) (.slice a2 d2.length k2) fl) 47 (0, 0)) := ⟨_, rfl, (Below.refl _ _).alloc (Nat.le_refl _) _, heap_alloc_new _ _⟩
  have hz0 : w0.heap.size = w.heap.size + 1 := by rw [hw0]; simp
  have p0 : w0.cell? ⟨w.heap.size, 0, none⟩ = some (.int .i64 x) := by rw [Lib.cell_of_heap hx0]; rfl
  have p1 : w0.cell? ⟨w.heap.size, 1, none⟩ = some (.int .i64 y) := by rw [Lib.cell_of_heap hx0]; rfl
  have p2 : w0.cell? ⟨w.heap.size, 2, none⟩ = some (.int .i64 z) := by rw [Lib.cell_of_heap hx0]; rfl
  have p3 : w0.cell? ⟨w.heap.size, 3, none⟩ = some (.slice a1 d1.length k1) := by rw [Lib.cell_of_heap hx0]; rfl
  have p4 : w0.cell? ⟨w.heap.size, 4, none⟩ = some (.slice a2 d2.length k2) := by rw [Lib.cell_of_heap hx0]; rfl
  have p5 : w0.cell? ⟨w.heap.size, 5, none⟩ = some (.bool fl) := by rw [Lib.cell_of_heap hx0]; rfl
  obtain ⟨w1, hw1, hb1, hx1⟩ : ∃ w1, w1 = (w0.alloc (.cells #[.int .i64 x, .int .i64 y, .int .i64 z] 23)).drew ∧ Below w0.heap.size w0 w1 ∧ Ix w1 w0.heap.size x y z := ⟨_, rfl, ((Below.refl _ _).alloc (Nat.le_refl _) _).drew, heap_alloc_new _ _⟩
  have HX1 := Lib.hid hx1
  have HB1 := Lib.hid (hb0.trans (hb1.mono hb0.size))
  have HE := Lib.hid hE
  have HMX := Lib.hid hmx
  have HBA1 := Lib.hid (hbA.below HB1.out)
  have HBB1 := Lib.hid (hbB.below HB1.out)
  have KA := Lib.hid (SfD.alive w1 (HE.out.below HB1.out))
  have KG := Lib.hid (fun W => FrK.goodId x y z W)
  rw [hg] at KG
  have HGB := Lib.hid hg
  have HFA := Lib.hid hFA
  have HFB := Lib.hid hFB
  have HSA := Lib.hid hsa
  have HSB' := Lib.hid hsb
  have hz1 : w0.heap.size + 1 ≤ w1.heap.size := by rw [hw1]; simp [World.drew]
  have HZ0 := Lib.hid hz0
  have HZ1 := Lib.hid hz1
  have e1 : decide ((1024 : Int) < (d1.length : Int)) = false := decide_eq_false (by omega)
  have e2 : decide ((d1.length : Int) > 1024) = false := decide_eq_false (by omega)
  have e3 : decide ((1024 : Int) < (d2.length : Int)) = false := decide_eq_false (by omega)
  have e4 : decide ((d2.length : Int) > 1024) = false := decide_eq_false (by omega)
  clear hb0 hx0 hE hmx hbA hbB hb1 hx1 hg hFA hFB hsa hsb hgb hfa hfb hl1 hl2 hz0 hz1
  go_enter Tryz.func5, Tryz.ntmps5
  go_upto_region 1 with fail
  rw [← hw0]
  clear hw0
  have q0 := cell_al (.cells #[.int .i64 0, .int .i64 0, .int .i64 0] 23) p0
  have r0 := cell_al (.cells #[.int .i64 x, .int .i64 y, .int .i64 z] 23) p0
  have q1 := cell_al (.cells #[.int .i64 0, .int .i64 0, .int .i64 0] 23) p1
  have r1 := cell_al (.cells #[.int .i64 x, .int .i64 y, .int .i64 z] 23) p1
  have q2 := cell_al (.cells #[.int .i64 0, .int .i64 0, .int .i64 0] 23) p2
  have r2 := cell_al (.cells #[.int .i64 x, .int .i64 y, .int .i64 z] 23) p2
  have q3 := cell_al (.cells #[.int .i64 0, .int .i64 0, .int .i64 0] 23) p3
  have r3 := cell_al (.cells #[.int .i64 x, .int .i64 y, .int .i64 z] 23) p3
  have q4 := cell_al (.cells #[.int .i64 0, .int .i64 0, .int .i64 0] 23) p4
  have r4 := cell_al (.cells #[.int .i64 x, .int .i64 y, .int .i64 z] 23) p4
  have q5 := cell_al (.cells #[.int .i64 0, .int .i64 0, .int .i64 0] 23) p5
  have r5 := cell_al (.cells #[.int .i64 x, .int .i64 y, .int .i64 z] 23) p5
  go_region
  rw [← hw1]
  clear hw1 p0 p1 p2 p3 p4 p5 q0 q1 q2 q3 q4 q5 r0 r1 r2 r3 r4 r5
  obtain ⟨gi, hgi⟩ : ∃ gi, gi = w0.heap.size := ⟨_, rfl⟩
  rw [← hgi] at HX1 HZ0 HZ1 ⊢
  clear hgi
  go_upto_region 5 with (first
    | (go_at_call 7; refine KA.out.mono ?_; rintro e w2 ⟨rfl, hb2⟩; have HB12 := Lib.hid hb2; have HB2 := Lib.hid (HB1.out.trans (hb2.mono HB1.out.size)); have HX2 := Lib.hid (HX1.out.below hb2); have HBA2 := Lib.hid (HBA1.out.below hb2); have HBB2 := Lib.hid (HBB1.out.below hb2); have KN := Lib.hid (SfA.new 2 (by decide) w2 (HE.out.below HB2.out).errs.lt); clear hb2)
    | (go_at_call 8; refine KN.out.mono ?_; rintro e w3 ⟨sp, rfl, hS3, hsp, hD3, hb3⟩; have HS3 := Lib.hid hS3; have HSP := Lib.hid hsp; have HD3 := Lib.hid hD3; have HB3 := Lib.hid (HB2.out.trans (hb3.mono HB2.out.size)); have HX3 := Lib.hid (HX2.out.below hb3); have HBA3 := Lib.hid (HBA2.out.below hb3); have HBB3 := Lib.hid (HBB2.out.below hb3); clear hb3 hS3 hsp hD3))
  obtain ⟨mb, hmb⟩ : ∃ mb, mb = w2.heap.size := ⟨_, rfl⟩
  rw [← hmb] at HS3 HSP HD3
  have HL2 := Lib.hid (show gi < mb by rw [hmb]; have := HB12.out.size; have := HZ1.out; omega)
  have hmw : w.heap.size ≤ mb := by have := HL2.out; have := HZ0.out; omega
  have hmw1 : w.heap.size ≤ mb + 1 := by omega
  have HMW := Lib.hid hmw
  have HMW1 := Lib.hid hmw1
  clear hmb hmw hmw1
  obtain ⟨c0, c1, c2⟩ := HX3.out.cells
  go_upto_region 7 with (go_at_call 9; refine (KG.out _).mono ?_; rintro e w4 ⟨rfl, hb4⟩)
  have HB4 := Lib.hid (HB3.out.trans (hb4.mono HB3.out.size))
  have HX4 := Lib.hid (HX3.out.below hb4)
  have HS4 := Lib.hid (HS3.out.below hb4)
  have HD4 := Lib.hid (HD3.out.below hb4)
  have HBB4 := Lib.hid (HBB3.out.below hb4)
  have KP := Lib.hid (FrM.put sa d1 k1 w4 (HBA3.out.below hb4) HFA.out.short (stamp_nums HFA.out.fits))
  rw [← HFA.out.eq] at KP
  have KP := Lib.hid (show Calls Tryz.prog 10 #[.agg #[.int .i64 (x : Int), .int .i64 (y : Int), .int .i64 (z : Int), .int .i64 2, .int .i64 (d1.length : Int)], .slice a1 d1.length k1] w4 fun e w' => ∃ v, e = .returned v ∧ FrC.Own w4.heap.size w' v fa ∧ Below w4.heap.size w4 w' by have h := KP.out; rw [HSA.out] at h; exact h)
  have HM4 := Lib.hid (show mb + 2 ≤ w4.heap.size from HD4.out.low)
  obtain ⟨c0, c1, c2⟩ := HX4.out.cells
  clear hb4
  go_upto_region 8 with (go_at_call 10; refine KP.out.mono ?_; rintro e w5 ⟨v, rfl, hO5, hb5⟩; obtain ⟨a5, c5, rfl, hB5⟩ := hO5.bs)
  have HB5 := Lib.hid (HB4.out.trans (hb5.mono HB4.out.size))
  have HX5 := Lib.hid (HX4.out.below hb5)
  have HS5 := Lib.hid (HS4.out.below hb5)
  have HD5 := Lib.hid (HD4.out.below hb5)
  have HO5 := Lib.hid hO5
  have HB45 := Lib.hid hb5
  have KP := Lib.hid (FrM.put sb d2 k2 w5 (HBB4.out.below hb5) HFB.out.short (stamp_nums HFB.out.fits))
  rw [← HFB.out.eq] at KP
  have KP := Lib.hid (show Calls Tryz.prog 10 #[.agg #[.int .i64 (x : Int), .int .i64 (y : Int), .int .i64 (z : Int), .int .i64 2, .int .i64 (d2.length : Int)], .slice a2 d2.length k2] w5 fun e w' => ∃ v, e = .returned v ∧ FrC.Own w5.heap.size w' v fb ∧ Below w5.heap.size w5 w' by have h := KP.out; rw [HSB'.out] at h; exact h)
  obtain ⟨c0, c1, c2⟩ := HX5.out.cells
  clear hb5 hO5 hB5
  go_upto_region 9 with (go_at_call 10; refine KP.out.mono ?_; rintro e w6 ⟨v, rfl, hO6, hb6⟩; obtain ⟨a6, c6, rfl, hB6⟩ := hO6.bs)
  have HB6 := Lib.hid (HB5.out.trans (hb6.mono HB5.out.size))
  have HX6 := Lib.hid (HX5.out.below hb6)
  have HS6 := Lib.hid (HS5.out.below hb6)
  have HOA6 := Lib.hid (HO5.out.below hb6)
  have HOB6 := Lib.hid hO6
  obtain ⟨a5', c5', e5, hBA6⟩ := HOA6.out.bs
  cases e5
  have hM4 : mb < w4.heap.size := by have := HM4.out; omega
  have hM4' : mb + 1 < w4.heap.size := by have := HM4.out; omega
  have h45 := HB45.out.size
  have HM := Lib.hid (show mb < w4.heap.size ∧ mb + 1 < w4.heap.size ∧ mb < w5.heap.size ∧ mb + 1 < w5.heap.size by omega)
  have KQ := Lib.hid (SfB.put fa c5 sa d1 w w6 HE.out HB6.out HMW.out HS6.out (by have := HSP.out; omega) (HD5.out.below hb6) hBA6 (by have := HFA.out.len; omega) (by decide) HFA.out.get (by rw [HSA.out]; rfl) HFA.out.fits)
  rw [(put_first sa fa HFA.out.fits).1, (put_first sa fa HFA.out.fits).2, show erv aN aF aG .ok = .nilIface from rfl, show bn sa = nm 98 x y z by rw [HSA.out]; rfl] at KQ
  have KF := Lib.hid (show ∀ W, Dw.Drive (mb + 2) (mb + 1) mb W (SfP.one (nm 98 x y z) fa) false 0 → Calls Tryz.prog 19 #[.pointer (some ⟨mb + 1, 0, none⟩), .bool fl] W fun e w' => e = .returned (.tuple #[]) ∧ Dw.Drive (mb + 2) (mb + 1) mb w' (SfP.one (nm 98 x y z) fa) fl 0 ∧ Dw.Keep [mb + 1] W w' from fun W hW => DiskC.fill fl W hW)
  clear hb6 hO6 hB6 hBA6 hM4 hM4' h45 c0 c1 c2
  go_upto_region 12 with (first
    | (go_at_call 11; refine KQ.out.mono ?_; rintro e w7 ⟨rfl, hD7, hk7⟩; have HD7 := Lib.hid hD7; have HK7 := Lib.hid hk7; have HS7 := Lib.hid (HS6.out.keep hk7 (by have := HSP.out; simp; omega)); clear hD7 hk7)
    | (go_at_call 12; refine (drive _ _ _ _ HS7.out).mono ?_; rintro e w8 ⟨rfl, hw8⟩; subst hw8)
    | (go_at_call 19; refine (KF.out _ HD7.out).mono ?_; rintro e w8 ⟨rfl, hD8, hk8⟩))
  have HD8 := Lib.hid hD8
  have HS8 := Lib.hid (HS7.out.keep hk8 (by have := HSP.out; simp; omega))
  have HX8 := Lib.hid (ix_keep (ix_keep HX6.out HK7.out (by have := HL2.out; omega)) hk8 (by have := HL2.out; omega))
  have HB8 := Lib.hid (keep_below (keep_below HB6.out HK7.out HMW.out) hk8 HMW1.out)
  have HOA8 := Lib.hid (FrM.own_keep (FrM.own_keep HOA6.out HK7.out HM.out.1) hk8 HM.out.2.1)
  have HOB8 := Lib.hid (FrM.own_keep (FrM.own_keep HOB6.out HK7.out HM.out.2.2.1) hk8 HM.out.2.2.2)
  obtain ⟨a6', c6', e6, hBB8⟩ := HOB8.out.bs
  cases e6
  have KQ := Lib.hid (SfB.put fb c6 sb d2 w w8 HE.out HB8.out HMW.out HS8.out (by have := HSP.out; omega) HD8.out hBB8 (by have := HFB.out.len; omega) (by simp [SfP.one]) HFB.out.get (by rw [HSB'.out]; rfl) HFB.out.fits)
  have HNM := Lib.hid (show bn sb = nm 98 x y z by rw [HSB'.out]; rfl)
  have HGDA := Lib.hid (show DiskA.gd (nm 98 x y z) = true by rw [← HNM.out]; exact gd_bn HFB.out.fits)
  have HNS := Lib.hid (show (nm 98 x y z).length ≤ maxLen by rw [← HNM.out]; have := nm_size (x := 98) (few_node HFB.out.fits) (few_boot HFB.out.fits) (few_seq HFB.out.fits); rwa [Com.size_mk] at this)
  have HGVA := Lib.hid (show GetV fa x y z 2 = true by have h := getV_put HFA.out.fits HFA.out.short; rw [← HFA.out.eq, HSA.out] at h; exact h)
  have HGVB := Lib.hid (show GetV fb x y z 2 = true by have h := getV_put HFB.out.fits HFB.out.short; rw [← HFB.out.eq, HSB'.out] at h; exact h)
  clear hD8 hk8 hBB8
  cases fl
  · rw [← HNM.out, (put_again sb fa fb HFB.out.fits).1, (put_again sb fa fb HFB.out.fits).2, HNM.out, show erv aN aF aG .ok = .nilIface from rfl] at KQ
    go_upto_region 13 with (go_at_call 11; refine KQ.out.mono ?_; rintro e w9 ⟨rfl, hD9, hk9⟩; have HD9 := Lib.hid hD9; have HK9 := Lib.hid hk9; have HS9 := Lib.hid (HS8.out.keep hk9 (by have := HSP.out; simp; omega)); clear hD9 hk9)
    have KC := Lib.hid (DiskF.crash w9 HD9.out (by simp [SfP.one]) (one_names HNS.out))
    rw [crash_one] at KC
    go_upto_region 14 with (first
      | (go_at_call 12; refine (drive _ _ _ _ HS9.out).mono ?_; rintro e w10 ⟨rfl, hw10⟩; subst hw10)
      | (go_at_call 20; refine KC.out.mono ?_; rintro e w10 ⟨rfl, hD10, hk10⟩))
    have HD10 := Lib.hid hD10
    have HS10 := Lib.hid (HS9.out.keep hk10 (by have := HSP.out; simp; omega))
    have HX10 := Lib.hid (ix_keep (ix_keep HX8.out HK9.out (by have := HL2.out; omega)) hk10 (by have := HL2.out; omega))
    have HB10 := Lib.hid (keep_below (keep_below HB8.out HK9.out HMW.out) hk10 HMW.out)
    have HOA10 := Lib.hid (FrM.own_keep (FrM.own_keep HOA8.out HK9.out HM.out.1) hk10 HM.out.1)
    have HOB10 := Lib.hid (FrM.own_keep (FrM.own_keep HOB8.out HK9.out HM.out.2.2.1) hk10 HM.out.2.2.1)
    have hfl : fb.length ≤ 140737488351232 := by have := HFB.out.len; omega
    have KT := SfC.get x y z fb w w10 HE.out HB10.out HS10.out hD10 (one_bytes hfl) HGB.out (ask_one fb HGDA.out).1 (ask_one fb HGDA.out).2 hfl
    rw [HGVB.out] at KT
    have KT := Lib.hid (show Calls Tryz.prog 14 #[.pointer (some ⟨sp, 0, none⟩), .agg #[.int .i64 (x : Int), .int .i64 (y : Int), .int .i64 (z : Int)]] w10 fun e w' => (∃ a c, e = .returned (.tuple #[.slice a fb.length c, .nilIface]) ∧ Bs w' a fb c) ∧ Below w10.heap.size w10 w' from KT)
    obtain ⟨c0, c1, c2⟩ := HX10.out.cells
    clear hD10 hk10 hfl
    go_upto_region 15 with (go_at_call 14; refine KT.out.mono ?_; rintro e w11 ⟨⟨a11, c11, rfl, hB11⟩, hb11⟩)
    have HB11 := Lib.hid (HB10.out.trans (hb11.mono HB10.out.size))
    have HF11 := Lib.hid hB11
    have HX11 := Lib.hid (HX10.out.below hb11)
    have HS11 := Lib.hid (HS10.out.below hb11)
    have HD11 := Lib.hid (HD10.out.below hb11)
    have HOA11 := Lib.hid (HOA10.out.below hb11)
    have HOB11 := Lib.hid (HOB10.out.below hb11)
    have KW := Lib.hid (callsIn_wide.1 (SfJ.sweep_in [⟨x, y, z⟩] w11 HS11.out HD11.out (by simp [SfP.one]) (blobs_one x y z fb HGB.out) (HMX.out.below HB11.out) (HE.out.below HB11.out).tab))
    clear hb11 hB11 c0 c1 c2
    go_upto_region 19 with (go_at_call 21; refine KW.out.mono ?_; rintro e w12 ⟨rfl, hb12⟩)
    have HB12 := Lib.hid (HB11.out.trans (hb12.mono HB11.out.size))
    have HF12 := Lib.hid (HF11.out.below hb12)
    have HX12 := Lib.hid (HX11.out.below hb12)
    have HOA12 := Lib.hid (HOA11.out.below hb12)
    have HOB12 := Lib.hid (HOB11.out.below hb12)
    have KL := Lib.hid (callsIn_wide.1 (SfK.list_in [⟨x, y, z⟩] [⟨x, y, z⟩] w12 (HS11.out.below hb12) (HD11.out.below hb12) (by simp [SfP.one]) (blobs_one x y z fb HGB.out) (HMX.out.below HB12.out) (HE.out.below HB12.out).tab (fun base v W h => by have k := SfM.sort [⟨x, y, z⟩] (by simp) base v W h; rwa [SfM.srt_one] at k)))
    clear hb12
    go_upto_region 20 with (go_at_call 22; refine KL.out.mono ?_; rintro e w13 ⟨v13, rfl, hI13, hb13⟩; obtain ⟨b13, c13, rfl, i0, i1, i2⟩ := idl_one hI13)
    have HB13 := Lib.hid (HB12.out.trans (hb13.mono HB12.out.size))
    have kg := fun n => to_string ((HF12.out.below hb13).below (FrA.below_drewN (Below.refl _ w13) n))
    obtain ⟨a9, c9, e9, hB9⟩ := (HOB12.out.below hb13).bs
    cases e9
    have kf := fun n => to_string (hB9.below (FrA.below_drewN (Below.refl _ w13) n))
    have hx13 := HX12.out.below hb13
    obtain ⟨c0, c1, c2⟩ := hx13.cells
    have hq : ∀ W, (binOp .eql 23 (.agg #[.int .i64 (x : Int), .int .i64 (y : Int), .int .i64 (z : Int)]) (.agg #[.int .i64 (x : Int), .int .i64 (y : Int), .int .i64 (z : Int)])).run Tryz.prog W = .ok (.bool true) W := fun W => by have h := eqlId (x : Int) (y : Int) (z : Int) x y z W; rw [show idB (x : Int) (y : Int) (z : Int) x y z = true by simp [idB]] at h; exact h
    clear hx13 hb13 hI13 hB9
    go_quiet (fail)
    go_wp2_with fail
    go_ret
    exact ⟨rfl, FrA.below_drewN HB13.out _⟩
  · rw [← HNM.out, (put_full sb fa fb HFB.out.fits).1, (put_full sb fa fb HFB.out.fits).2, HNM.out, show erv aN aF aG .full = Err.ev aF from rfl] at KQ
    go_upto_region 13 with (go_at_call 11; refine KQ.out.mono ?_; rintro e w9 ⟨rfl, hD9, hk9⟩; have HD9 := Lib.hid hD9; have HK9 := Lib.hid hk9; have HS9 := Lib.hid (HS8.out.keep hk9 (by have := HSP.out; simp; omega)); clear hD9 hk9)
    have KC := Lib.hid (DiskF.crash w9 HD9.out (by simp [SfP.one]) (one_names HNS.out))
    rw [crash_one] at KC
    go_upto_region 14 with (first
      | (go_at_call 12; refine (drive _ _ _ _ HS9.out).mono ?_; rintro e w10 ⟨rfl, hw10⟩; subst hw10)
      | (go_at_call 20; refine KC.out.mono ?_; rintro e w10 ⟨rfl, hD10, hk10⟩))
    have HD10 := Lib.hid hD10
    have HS10 := Lib.hid (HS9.out.keep hk10 (by have := HSP.out; simp; omega))
    have HX10 := Lib.hid (ix_keep (ix_keep HX8.out HK9.out (by have := HL2.out; omega)) hk10 (by have := HL2.out; omega))
    have HB10 := Lib.hid (keep_below (keep_below HB8.out HK9.out HMW.out) hk10 HMW.out)
    have HOA10 := Lib.hid (FrM.own_keep (FrM.own_keep HOA8.out HK9.out HM.out.1) hk10 HM.out.1)
    have HOB10 := Lib.hid (FrM.own_keep (FrM.own_keep HOB8.out HK9.out HM.out.2.2.1) hk10 HM.out.2.2.1)
    have hfl : fa.length ≤ 140737488351232 := by have := HFA.out.len; omega
    have KT := SfC.get x y z fa w w10 HE.out HB10.out HS10.out hD10 (one_bytes hfl) HGB.out (ask_one fa HGDA.out).1 (ask_one fa HGDA.out).2 hfl
    rw [HGVA.out] at KT
    have KT := Lib.hid (show Calls Tryz.prog 14 #[.pointer (some ⟨sp, 0, none⟩), .agg #[.int .i64 (x : Int), .int .i64 (y : Int), .int .i64 (z : Int)]] w10 fun e w' => (∃ a c, e = .returned (.tuple #[.slice a fa.length c, .nilIface]) ∧ Bs w' a fa c) ∧ Below w10.heap.size w10 w' from KT)
    obtain ⟨c0, c1, c2⟩ := HX10.out.cells
    clear hD10 hk10 hfl
    go_upto_region 15 with (go_at_call 14; refine KT.out.mono ?_; rintro e w11 ⟨⟨a11, c11, rfl, hB11⟩, hb11⟩)
    have HB11 := Lib.hid (HB10.out.trans (hb11.mono HB10.out.size))
    have HF11 := Lib.hid hB11
    have HX11 := Lib.hid (HX10.out.below hb11)
    have HS11 := Lib.hid (HS10.out.below hb11)
    have HD11 := Lib.hid (HD10.out.below hb11)
    have HOA11 := Lib.hid (HOA10.out.below hb11)
    have HOB11 := Lib.hid (HOB10.out.below hb11)
    have KW := Lib.hid (callsIn_wide.1 (SfJ.sweep_in [⟨x, y, z⟩] w11 HS11.out HD11.out (by simp [SfP.one]) (blobs_one x y z fa HGB.out) (HMX.out.below HB11.out) (HE.out.below HB11.out).tab))
    clear hb11 hB11 c0 c1 c2
    go_upto_region 19 with (go_at_call 21; refine KW.out.mono ?_; rintro e w12 ⟨rfl, hb12⟩)
    have HB12 := Lib.hid (HB11.out.trans (hb12.mono HB11.out.size))
    have HF12 := Lib.hid (HF11.out.below hb12)
    have HX12 := Lib.hid (HX11.out.below hb12)
    have HOA12 := Lib.hid (HOA11.out.below hb12)
    have HOB12 := Lib.hid (HOB11.out.below hb12)
    have KL := Lib.hid (callsIn_wide.1 (SfK.list_in [⟨x, y, z⟩] [⟨x, y, z⟩] w12 (HS11.out.below hb12) (HD11.out.below hb12) (by simp [SfP.one]) (blobs_one x y z fa HGB.out) (HMX.out.below HB12.out) (HE.out.below HB12.out).tab (fun base v W h => by have k := SfM.sort [⟨x, y, z⟩] (by simp) base v W h; rwa [SfM.srt_one] at k)))
    clear hb12
    go_upto_region 20 with (go_at_call 22; refine KL.out.mono ?_; rintro e w13 ⟨v13, rfl, hI13, hb13⟩; obtain ⟨b13, c13, rfl, i0, i1, i2⟩ := idl_one hI13)
    have HB13 := Lib.hid (HB12.out.trans (hb13.mono HB12.out.size))
    have kg := fun n => to_string ((HF12.out.below hb13).below (FrA.below_drewN (Below.refl _ w13) n))
    obtain ⟨a9, c9, e9, hB9⟩ := (HOA12.out.below hb13).bs
    cases e9
    have kf := fun n => to_string (hB9.below (FrA.below_drewN (Below.refl _ w13) n))
    have hx13 := HX12.out.below hb13
    obtain ⟨c0, c1, c2⟩ := hx13.cells
    have hq : ∀ W, (binOp .eql 23 (.agg #[.int .i64 (x : Int), .int .i64 (y : Int), .int .i64 (z : Int)]) (.agg #[.int .i64 (x : Int), .int .i64 (y : Int), .int .i64 (z : Int)])).run Tryz.prog W = .ok (.bool true) W := fun W => by have h := eqlId (x : Int) (y : Int) (z : Int) x y z W; rw [show idB (x : Int) (y : Int) (z : Int) x y z = true by simp [idB]] at h; exact h
    have eF := (HE.out.below HB13.out).errs.full
    have heq := fun n => Err.eqErr aF (w13.drewN n)
    clear hx13 hb13 hI13 hB9
    go_quiet (fail)
    go_wp2_with fail
    go_ret
    exact ⟨rfl, FrA.below_drewN HB13.out _⟩
/-- the law -/
theorem cuts (x y z : Int) (d1 d2 : List UInt8) {a1 a2 : Option Addr} (k1 k2 : Nat) (fl : Bool) (w : World) {aL aB aD aN aF aG : Addr} (hE : Env w aL aB aD aN aF aG) (hmx : Mx w) (hbA : Bs w a1 d1 k1) (hbB : Bs w a2 d2 k2) :
    Calls Tryz.prog 5 #[.agg (oc x y z (.slice a1 d1.length k1) (.slice a2 d2.length k2) fl)] w fun e w' => e = .returned (.bool true) ∧ Below w.heap.size w w' := by
  cases hg : FrK.goodB x y z with
  | false => exact cuts_no x y z d1 d2 k1 k2 fl w hE (.inl hg)
  | true =>
    by_cases h : 1024 < d1.length ∨ 1024 < d2.length
    · exact cuts_no x y z d1 d2 k1 k2 fl w hE (.inr h)
    · have hgb : 0 ≤ x ∧ x < 16 ∧ 0 ≤ y ∧ y ≤ 1099511627776 ∧ 0 ≤ z ∧ z ≤ 1099511627776 := by unfold FrK.goodB at hg; exact of_decide_eq_true hg
      obtain ⟨x', rfl⟩ : ∃ n : Nat, x = (n : Int) := ⟨x.toNat, by omega⟩
      obtain ⟨y', rfl⟩ : ∃ n : Nat, y = (n : Int) := ⟨y.toNat, by omega⟩
      obtain ⟨z', rfl⟩ : ∃ n : Nat, z = (n : Int) := ⟨z.toNat, by omega⟩
      exact cuts_yes x' y' z' d1 d2 k1 k2 fl w hE hmx hbA hbB hg (by omega) (by omega)
end Go.Proofs.YtecnnlppinhmgaaGreatDoor.SfO
