/-
  The walks of the document's InForm and Head, where a frame's head is in form. The walk of the document's Get of a frame, where it gets something.
-/
import Derived.Test.YtecnnlppinhmgaaGreatDoorSa11
import Derived.Test.YtecnnlppinhmgaaGreatDoorSd01
namespace Go.Proofs.YtecnnlppinhmgaaGreatDoor.FrT
open Go.RowKit Go.Proofs.YtecnnlppinhmgaaGreatDoor Go.Proofs.YtecnnlppinhmgaaGreatDoor.HtW Go.Proofs.YtecnnlppinhmgaaGreatDoor.HtX Go.Proofs.YtecnnlppinhmgaaGreatDoor.App Go.Proofs.YtecnnlppinhmgaaGreatDoor.FrA Go.Proofs.YtecnnlppinhmgaaGreatDoor.FrC Go.Proofs.YtecnnlppinhmgaaGreatDoor.FrG Go.Proofs.YtecnnlppinhmgaaGreatDoor.FrH Go.Proofs.YtecnnlppinhmgaaGreatDoor.FrN Go.Proofs.YtecnnlppinhmgaaGreatDoor.FrO Go.Proofs.YtecnnlppinhmgaaGreatDoor.FrQ

set_option maxHeartbeats 2000000 in
set_option maxRecDepth 100000 in
theorem inForm_ok (s : Fp.Stamp) (w : World) (hs : s.fits) :
    Calls Tryz.prog 64 #[.agg (sc s)] w fun e w' => e = .returned (.bool true) ∧ Below w.heap.size w w' := by
  obtain ⟨w1, hw1, hb1, hx1⟩ : ∃ w1, w1 = w.alloc (.cells (sc s) 34) ∧ Below w.heap.size w w1 ∧ w1.heap[w.heap.size]? = some (.cells (sc s) 34 (0, 0)) := ⟨_, rfl, (Below.refl _ _).alloc (Nat.le_refl _) _, heap_alloc_new _ _⟩
  have c0 : w1.cell? ⟨w.heap.size, 0, none⟩ = some (.int .i64 (s.node : Int)) := by rw [Lib.cell_of_heap hx1]; rfl
  have c1 : w1.cell? ⟨w.heap.size, 1, none⟩ = some (.int .i64 (s.boot : Int)) := by rw [Lib.cell_of_heap hx1]; rfl
  have c2 : w1.cell? ⟨w.heap.size, 2, none⟩ = some (.int .i64 (s.seq : Int)) := by rw [Lib.cell_of_heap hx1]; rfl
  have KG := Lib.hid (FrK.goodId s.node s.boot s.seq w1)
  rw [show FrK.goodB s.node s.boot s.seq = true from decide_eq_true (by obtain ⟨h1, h2, h3, -, -⟩ := hs; omega)] at KG
  have HX := Lib.hid hx1
  have HB := Lib.hid hb1
  obtain ⟨-, -, -, h4, h5⟩ := hs
  have e1 : decide ((s.shard : Int) ≤ 15) = true := decide_eq_true (by omega)
  have e2 : decide ((s.size : Int) ≤ 1024) = true := decide_eq_true (by omega)
  clear hx1 hb1 h4 h5
  go_enter Tryz.func64, Tryz.ntmps64
  go_upto_region 1 with fail
  rw [← hw1]
  clear hw1
  go_wp2_with (go_at_call 9; refine KG.out.mono ?_; rintro e w2 ⟨rfl, hb2⟩; have hx2 := (hb2.block _ (Array.getElem?_eq_some_iff.1 HX.out).1).trans HX.out; have d3 : w2.cell? ⟨w.heap.size, 3, none⟩ = some (.int .i64 (s.shard : Int)) := by { rw [Lib.cell_of_heap hx2]; rfl }; have d4 : w2.cell? ⟨w.heap.size, 4, none⟩ = some (.int .i64 (s.size : Int)) := by { rw [Lib.cell_of_heap hx2]; rfl })
  go_ret
  exact ⟨rfl, HB.out.trans (hb2.mono HB.out.size)⟩

/-- numbers in a row of their own -/
def Ow (base : Nat) (w : World) (v : Value) (ns : List Nat) : Prop := w.ownsRow base 3 1 v ns.length (ns.map fun (n : Nat) => Value.int .i64 (n : Int))
theorem Ow.below {base : Nat} {w w' : World} {v : Value} {ns : List Nat} (h : Ow base w v ns) (hb : Below w.heap.size w w') : Ow base w' v ns := Com.own_below h hb
theorem Ow.keep {base B : Nat} {w w' : World} {v : Value} {ns : List Nat} (h : Ow base w v ns) (hk : Dw.Keep [B] w w') (hB : B < base) : Ow base w' v ns := by
  obtain ⟨h1, h2⟩ := h
  exact ⟨h1, h2.imp id fun ⟨r, cap, cur, k1, k2, k3, k4⟩ => ⟨r, cap, cur, k1, k2, (hk.block r (Array.getElem?_eq_some_iff.1 k3).1 (by simp; omega)).trans k3, k4⟩⟩
theorem rr_keep {B B' : Nat} {w w' : World} {l : List UInt8} {p : Nat} (h : Rr B w l p) (hk : Dw.Keep [B'] w w') (hB : B < B') : Rr B w' l p := by
  obtain ⟨a, c, h1, h2, h3⟩ := h
  refine ⟨a, c, (hk.block _ (Array.getElem?_eq_some_iff.1 h1).1 (by simp; omega)).trans h1, ⟨h2.1, h2.2.1, h2.2.2.imp id fun ⟨b, o, k1, k2, k3⟩ => ⟨b, o, k1, Nat.lt_of_lt_of_le k2 hk.size, fun j x hj => ?_⟩⟩, h3⟩
  have hne : l ≠ [] := fun h0 => by rw [h0] at hj; simp at hj
  have hn := h3 hne _ k1
  exact (hk.cell (p := ⟨b, o + j, none⟩) k2 (by simp at hn ⊢; omega)).trans (k3 j x hj)
/-- what stands while the numbers are read -/
structure Hd (w wr : World) (B1 : Nat) (f : List UInt8) (p : Nat) : Prop where
  sp : Sp w wr
  rd : Rr B1 wr f p
theorem Hd.below {w wr w' : World} {B1 : Nat} {f : List UInt8} {p : Nat} (h : Hd w wr B1 f p) (hb : Below wr.heap.size wr w') : Hd w w' B1 f p := ⟨h.sp.below hb, h.rd.below hb⟩
theorem Hd.keep {w wr w' : World} {B1 B2 : Nat} {f : List UInt8} {p : Nat} (h : Hd w wr B1 f p) (hk : Dw.Keep [B2] wr w') (h1 : w.heap.size < B2) (h2 : B1 < B2) : Hd w w' B1 f p := ⟨h.sp.keep hk h1, rr_keep h.rd hk h2⟩
theorem rr_low {B n : Nat} {w w' : World} {l : List UInt8} {p : Nat} (h : Rr B w l p) (hb : Below n w w') (hB : B < n) : Rr B w' l p := by
  obtain ⟨a, c, h1, h2, h3⟩ := h
  refine ⟨a, c, (hb.block _ hB).trans h1, ⟨h2.1, h2.2.1, h2.2.2.imp id fun ⟨b, o, k1, k2, k3⟩ => ?_⟩, h3⟩
  by_cases hne : l = []
  · subst hne; exact ⟨b, o, k1, Nat.lt_of_lt_of_le k2 hb.size, fun j x hj => by simp at hj⟩
  · have hn : b < B := h3 hne _ k1
    exact ⟨b, o, k1, Nat.lt_of_lt_of_le k2 hb.size, fun j x hj => (hb.cell (p := ⟨b, o + j, none⟩) (Nat.lt_trans hn hB)).trans (k3 j x hj)⟩
theorem hd_low {w wr w' : World} {B1 n : Nat} {f : List UInt8} {p : Nat} (h : Hd w wr B1 f p) (hb : Below n wr w') (h1 : w.heap.size < n) (h2 : B1 < n) : Hd w w' B1 f p :=
  ⟨⟨h.sp.bel.trans (hb.mono (Nat.le_of_lt h1)), (hb.block _ h1).trans h.sp.box⟩, rr_low h.rd hb h2⟩
theorem st5_cell {w : World} {B g j : Nat} (h : g ≠ B) (x y z u v : Value) : (st5 w B x y z u v).cell? ⟨g, j, none⟩ = w.cell? ⟨g, j, none⟩ := by
  refine World.cell?_of_block (a := ⟨g, j, none⟩) ?_
  simp only [st5]
  iterate 5 rw [Below.heap_setCell _ _ _ _ (fun e => absurd e (show g ≠ B from h))]
theorem nums_step {g : Nat} {l : List UInt8} {ns : List Nat} {r : List UInt8} (h : Fp.nums (g + 1) l = some (ns, r)) : ∃ n m ns', Fp.rd l = some (n, m) ∧ n ≤ 1099511627776 ∧ ns = n :: ns' ∧ Fp.nums g (l.drop m) = some (ns', r) := by
  rw [Fp.nums] at h
  split at h
  · cases h
  · rename_i n m hr
    split at h
    · cases h
    · rename_i hn
      split at h
      · cases h
      · rename_i ns' r' hk
        cases h
        exact ⟨n, m, ns', hr, by omega, rfl, hk⟩
theorem nums_len : ∀ (g : Nat) (l : List UInt8) (ns : List Nat) (r : List UInt8), Fp.nums g l = some (ns, r) → ns.length = g
  | 0, l, ns, r, h => by rw [Fp.nums] at h; cases h; rfl
  | g + 1, l, ns, r, h => by
    obtain ⟨n, m, ns', _, _, rfl, hk⟩ := nums_step h
    rw [List.length_cons, nums_len g _ _ _ hk]
theorem split_form {f r : List UInt8} {s : Fp.Stamp} {n : Nat} (h : Fp.split f = .ok (s, n, r)) :
    ∃ k c o, Fp.rd f = some (k, c) ∧ k ≤ 256 ∧ c + k ≤ f.length ∧ 5 ≤ k ∧ Fp.openB ((f.drop c).take k) = .ok o ∧ Fp.nums 7 o = some ([1, s.node, s.boot, s.seq, s.shard, s.size, n], []) ∧ s.fits ∧ n ≤ 1024 ∧ r = f.drop (c + k) := by
  unfold Fp.split at h
  split at h
  · cases h
  rename_i k c hr
  obtain ⟨k1, k2, k3⟩ := rd_le hr
  split at h
  · cases h
  rename_i hc
  split at h
  · cases h
  rename_i o ho
  split at h
  · cases h
  rename_i ns r' hn
  unfold Fp.ofNums at h
  split at h
  · rename_i m a b sq hh z k'
    split at h
    · rename_i hh'
      obtain ⟨rfl, rfl, hfit, hk'⟩ := hh'
      cases h
      refine ⟨k, c, o, hr, by omega, by omega, ?_, ho, hn, hfit, hk', rfl⟩
      obtain ⟨n0, m0, ns0, hr0, _⟩ := nums_step hn
      obtain ⟨q1, q2, _⟩ := rd_le hr0
      unfold Fp.openB at ho
      split at ho
      · cases ho
      rename_i h4
      split at ho
      · cases ho
        rw [List.length_take, List.length_take, List.length_drop] at q2
        omega
      · cases ho
    · cases h
  · cases h

set_option maxHeartbeats 8000000 in
set_option maxRecDepth 100000 in
theorem head_ok (f r : List UInt8) (s : Fp.Stamp) (n : Nat) {a : Option Addr} (c : Nat) (w : World) (hb : Bs w a f c) (hl : f.length ≤ 140737488351232) (hs : Fp.split f = .ok (s, n, r)) :
    Calls Tryz.prog 40 #[.slice a f.length c] w fun e w' => ∃ k : Nat, e = .returned (.tuple #[.agg (sc s), .int .i64 (n : Int), .int .i64 (k : Int), .int .i64 0]) ∧ k ≤ f.length ∧ r = f.drop k ∧ n ≤ 1024 ∧ Below w.heap.size w w' := by
  obtain ⟨k, c1, o, hrd, hk, hck, hk5, ho, hns, hfit, hn, hr⟩ := split_form hs
  have HR := Lib.hid hr
  have HN := Lib.hid hn
  have HNS := Lib.hid hns
  have HFIT := Lib.hid hfit
  have HCK := Lib.hid hck
  clear hs hr hn hns hfit
  obtain ⟨w1, hw1, hS1⟩ : ∃ w1, w1 = w.alloc (.cells sc0 34) ∧ Sp w w1 := ⟨_, rfl, (Below.refl _ _).alloc (Nat.le_refl _) _, heap_alloc_new _ _⟩
  have hz1 : w1.heap.size = w.heap.size + 1 := by rw [hw1]; simp
  obtain ⟨w2, hw2, hb2, hR2⟩ : ∃ w2, w2 = w1.alloc (.cells #[.slice a f.length c, .int .i64 0] 113) ∧ Below w1.heap.size w1 w2 ∧ Rr w1.heap.size w2 f 0 :=
    ⟨_, rfl, (Below.refl _ _).alloc (Nat.le_refl _) _, a, c, heap_alloc_new _ _, (hb.below hS1.bel).below ((Below.refl _ _).alloc (Nat.le_refl _) _), fun hne p hp => by
      rcases hb.2.2 with h0 | ⟨b, o', h1, h2, h3⟩
      · exact absurd h0 hne
      · rw [hp] at h1; cases h1; simp; omega⟩
  obtain ⟨B1, hB1⟩ : ∃ B1, B1 = w1.heap.size := ⟨_, rfl⟩
  rw [← hB1] at hR2
  have HB1 := Lib.hid (show B1 = w.heap.size + 1 from hB1.trans hz1)
  have KB := Lib.hid (bytes_ok B1 f 0 256 k c1 w2 hR2 hl hrd hk (by omega) (by omega))
  rw [show 0 + c1 + k = c1 + k by omega, show 0 + c1 = c1 by omega] at KB
  have HS2 := Lib.hid (hS1.below hb2)
  have hk5' : ((f.drop c1).take k).length = k := by rw [List.length_take, List.length_drop]; omega
  have HLK := Lib.hid hk5'
  have HO := Lib.hid ho
  have HK5 := Lib.hid hk5
  clear hrd hk hck ho hb hS1 hb2 hR2 hk5' hk5
  go_enter Tryz.func40, Tryz.ntmps40
  go_upto_region 1 with fail
  rw [← hw1]
  clear hw1 hz1
  go_upto_region 2 with fail
  rw [← hw2]
  clear hw2
  rw [← hB1]
  clear hB1
  go_upto_region 5 with (go_at_call 61; refine KB.out.mono ?_; rintro e w3 ⟨a3, c3, rfl, hB3, hR3, hk3⟩)
  have HD3 := Lib.hid (show Hd w w3 B1 f (c1 + k) from ⟨HS2.out.keep hk3 (by have := HB1.out; omega), hR3⟩)
  have hok := FrS.open_ok ((f.drop c1).take k) o c3 w3 hB3 (by have := HLK.out; have := HCK.out; omega) (by rw [HLK.out]; exact HK5.out) HO.out
  rw [HLK.out] at hok
  have KO := Lib.hid hok
  clear hB3 hR3 hk3 hok KB
  go_upto_region 8 with (go_at_call 62; refine KO.out.mono ?_; rintro e w4 ⟨v, rfl, hO4, hb4⟩; obtain ⟨a4, c4, rfl, hB4⟩ := hO4.bs)
  obtain ⟨w5, hw5, hb5, hR5⟩ : ∃ w5, w5 = w4.alloc (.cells #[.slice a4 o.length c4, .int .i64 0] 113) ∧ Below w4.heap.size w4 w5 ∧ Rr w4.heap.size w5 o 0 :=
    ⟨_, rfl, (Below.refl _ _).alloc (Nat.le_refl _) _, a4, c4, heap_alloc_new _ _, hB4.below ((Below.refl _ _).alloc (Nat.le_refl _) _), fun hne p hp => by
      rcases hB4.2.2 with h0 | ⟨b, o', h1, h2, h3⟩
      · exact absurd h0 hne
      · rw [hp] at h1; cases h1; exact h2⟩
  obtain ⟨w6, hw6, hb6, hO6⟩ : ∃ w6, w6 = w5.alloc (.cells #[] 3) ∧ Below w5.heap.size w5 w6 ∧ Ow w5.heap.size w6 (.slice (some ⟨w5.heap.size, 0, none⟩) 0 0) [] :=
    ⟨_, rfl, (Below.refl _ _).alloc (Nat.le_refl _) _, rfl, .inr ⟨w5.heap.size, 0, _, rfl, Nat.le_refl _, heap_alloc_new _ _, Nat.le_refl _, by unfold maxLen; omega, rfl, rfl⟩⟩
  have hB12 : B1 < w4.heap.size := Nat.lt_of_lt_of_le HD3.out.rd.lt hb4.size
  have hz5 : w5.heap.size = w4.heap.size + 1 := by rw [hw5]; simp
  have HD6 := Lib.hid (((HD3.out.below hb4).below hb5).below hb6)
  have hR6 := hR5.below hb6
  have hsz6 := hb6.size
  have HB4 := Lib.hid hB4
  have HOL := Lib.hid (show o.length ≤ 140737488351232 by
    have h1 := FrJ.openB_len HO.out
    have h2 := HLK.out
    have h3 := HCK.out
    omega)
  clear hB4 hO4 hb4 hb5 hR5 hb6 KO
  go_upto_region 9 with fail
  rw [← hw5]
  obtain ⟨B2, hB2⟩ : ∃ B2, B2 = w4.heap.size := ⟨_, rfl⟩
  rw [← hB2] at hB12 hz5 hR6 ⊢
  clear hw5 hB2
  obtain ⟨N6, hN6⟩ : ∃ N6, N6 = w5.heap.size := ⟨_, rfl⟩
  rw [← hN6] at hO6 hz5 hsz6
  have HW6 := Lib.hid hsz6
  clear hsz6
  obtain ⟨NS, hNS⟩ : ∃ NS, NS = [1, s.node, s.boot, s.seq, s.shard, s.size, n] := ⟨_, rfl⟩
  rw [← hNS] at HNS
  have HNV := Lib.hid hNS
  clear hNS
  go_wp2_with fail
  rw [← hw6, ← hN6]
  clear hw6 hN6
  have HR6 := Lib.hid hR6
  have HO6 := Lib.hid hO6
  clear hR6 hO6
  have HBP := Lib.hid HB1.out
  have HZ5 := Lib.hid hz5
  clear hz5
  go_loopg [11] 7 (fun g v11 wr => ∃ (p : Nat) (dn rm : List Nat), Hid (dn.length + g = 7) ∧ Hid (dn ++ rm = NS) ∧ Hid (Fp.nums g (o.drop p) = some (rm, [])) ∧ Hid (p ≤ o.length) ∧ Hid (Ow N6 wr v11 dn) ∧ Hid (Rr B2 wr o p) ∧ Hid (Hd w wr B1 f (c1 + k)) ∧ Hid (N6 ≤ wr.heap.size))
  case atStart => exact ⟨0, [], NS, rfl, rfl, Lib.hid (by simpa using HNS.out), Nat.zero_le _, HO6.out, HR6.out, HD6.out, HW6.out⟩
  case round =>
    obtain ⟨p, dn, rm, HDL, HDN, HNU, HP, HOW, HRR, HHD, HNW⟩ := hrel
    obtain ⟨a11, c11, ev, hcell⟩ := FrM.row_form HOW.out
    subst ev
    cases gk with
    | succ g =>
      obtain ⟨n', m', ns', hrd', hn', rfl, hnu'⟩ := nums_step HNU.out
      obtain ⟨q1, q2, q3⟩ := rd_le hrd'
      rw [List.length_drop] at q2
      have hp := HP.out
      have e1 : decide ((dn.length : Int) < 7) = true := decide_eq_true (by have := HDL.out; omega)
      have KN := Lib.hid (num_ok B2 o p 1099511627776 n' m' wr HRR.out HOL.out hrd' hn' (by omega))
      have HNU' := Lib.hid (show Fp.nums g (o.drop (p + m')) = some (ns', []) by rw [← List.drop_drop]; exact hnu')
      have HPM := Lib.hid (show p + m' ≤ o.length by omega)
      have infoI : (Tryz.prog.info? 3).map (fun i => (i.zero, i.size, i.bytes)) = some (some (.int .i64 0), 1, 8) := by kernel_rfl
      obtain ⟨i0, hi, hz0, hz1, hz2⟩ := info_parts infoI
      have HI := Lib.hid hi
      have HZ0 := Lib.hid hz0
      have HZ1 := Lib.hid hz1
      have HZ2 := Lib.hid hz2
      have HNN := Lib.hid hn'
      clear hrd' hnu' q1 q2 q3 hp infoI hi hz0 hz1 hz2 hn' hcell
      go_wp2_with (first
        | (go_at_call 63; refine KN.out.mono ?_; rintro e w8 ⟨rfl, hR8, hk8⟩; have HR8 := Lib.hid hR8; have HK8 := Lib.hid hk8; have hO8 := HOW.out.keep hk8 (by have := HZ5.out; omega); have HO8 := Lib.hid hO8; clear hR8 hk8 hO8)
        | (at_builtin; refine wpList_append_own _ rfl (.tmp 52) (.tmp 54) 58 rfl N6 3 i0 (.int .i64 0) 1 8 Tryz.underlying58 HI.out HZ0.out HZ1.out HZ2.out rfl (by decide) _ dn.length (dn.map fun (n : Nat) => Value.int .i64 (n : Int)) rfl (HO8.out.below ((Below.refl _ _).alloc (Nat.le_refl _) _)) ⟨w8.heap.size, 0, none⟩ 1 1 [.int .i64 (n' : Int)] rfl rfl (Com.cells_new _ _ _) (by intro u hu; simp at hu; subst hu; rfl) (by have := HDL.out; unfold maxLen; omega) (by have := HDL.out; omega) (by have := HK8.out.size; have := HNW.out; simp; omega) ?_; intro v9 w9 o9 g9 _))
      have hwA : Below w8.heap.size w8 (w8.alloc (.cells #[.int .i64 (n' : Int)] 3)) := (Below.refl _ _).alloc (Nat.le_refl _) _
      have hlow : Below N6 w8 w9 := (hwA.mono (Nat.le_trans HNW.out HK8.out.size)).grown g9 (by have := HK8.out.size; have := HNW.out; simp; omega) (fun q hq => ((HO8.out.below hwA).lt q hq).1)
      have HLOW := Lib.hid hlow
      have HO9 := Lib.hid (show Ow N6 w9 v9 (dn ++ [n']) by unfold Ow; rw [List.length_append, List.map_append]; exact o9)
      clear o9 g9 hlow hwA
      go_roundg g
      case measure => omega
      case rel => exact ⟨p + m', dn ++ [n'], ns', Lib.hid (by have := HDL.out; simp; omega), Lib.hid (by rw [List.append_assoc]; exact HDN.out), HNU', HPM, HO9, rr_low HR8.out HLOW.out (by have := HZ5.out; omega), hd_low (HHD.out.keep HK8.out (by have := HBP.out; omega) hB12) HLOW.out (by have := HBP.out; have := HZ5.out; omega) (by have := HZ5.out; omega), Nat.le_trans (Nat.le_trans HNW.out HK8.out.size) HLOW.out.size⟩
    | zero =>
      obtain ⟨rfl, he⟩ : rm = [] ∧ o.drop p = [] := by have := HNU.out; rw [Fp.nums] at this; simp only [Option.some.injEq, Prod.mk.injEq] at this; exact ⟨this.1.symm, this.2⟩
      have hpo : p = o.length := by have := HP.out; rw [List.drop_eq_nil_iff] at he; omega
      obtain rfl : dn = NS := by have := HDN.out; simpa using this
      have hdn := HNV.out
      subst hdn
      have ck : ∀ (j : Nat) (u : Nat), [1, s.node, s.boot, s.seq, s.shard, s.size, n][j]? = some u → ∃ g, a11 = some ⟨g, 0, none⟩ ∧ N6 ≤ g ∧ g < wr.heap.size ∧ wr.cell? ⟨g, j, none⟩ = some (.int .i64 (u : Int)) := fun j u hj => hcell j _ (by rw [List.getElem?_map, hj]; rfl)
      obtain ⟨g, rfl, hg1, hg2, k0⟩ := ck 0 1 rfl
      have kk : ∀ (j : Nat) (u : Nat), [1, s.node, s.boot, s.seq, s.shard, s.size, n][j]? = some u → wr.cell? ⟨g, j, none⟩ = some (.int .i64 (u : Int)) := fun j u hj => by
        obtain ⟨g', e, _, _, h⟩ := ck j u hj
        cases e
        exact h
      have k1 := kk 1 _ rfl
      have k2 := kk 2 _ rfl
      have k3 := kk 3 _ rfl
      have k4 := kk 4 _ rfl
      have k5 := kk 5 _ rfl
      have k6 := kk 6 _ rfl
      have HRN := Lib.hid (show Rr B2 wr o o.length from hpo ▸ HRR.out)
      have HgN := Lib.hid (show w.heap.size < g by have := HZ5.out; have := HBP.out; omega)
      clear ck kk hcell hg1 hg2 he hpo
      go_upto_region 15 with fail
      go_region_held3 (fun W => W.cell? ⟨g, 1, none⟩ = some (.int .i64 (s.node : Int)) ∧ W.cell? ⟨g, 2, none⟩ = some (.int .i64 (s.boot : Int)) ∧ W.cell? ⟨g, 3, none⟩ = some (.int .i64 (s.seq : Int)) ∧ W.cell? ⟨g, 4, none⟩ = some (.int .i64 (s.shard : Int)) ∧ W.cell? ⟨g, 5, none⟩ = some (.int .i64 (s.size : Int)))
        (first | exact ⟨k1, k2, k3, k4, k5⟩ | assumption | go_keep)
        (first | fail)
      obtain ⟨w9, hw9, hb9, hx9⟩ : ∃ w9, w9 = (wr.alloc (.cells (sc s) 34)).drew ∧ Below wr.heap.size wr w9 ∧ w9.heap[wr.heap.size]? = some (.cells (sc s) 34 (0, 0)) := ⟨_, rfl, ((Below.refl _ _).alloc (Nat.le_refl _) _).drew, heap_alloc_new _ _⟩
      have hgl := World.block_lt_of_cell? _ _ k0
      have hk0 := (hb9.cell (p := ⟨g, 0, none⟩) hgl).trans k0
      have hk6 := (hb9.cell (p := ⟨g, 6, none⟩) hgl).trans k6
      have HD9 := Lib.hid (HHD.out.below hb9)
      have hR9 := HRN.out.below hb9
      obtain ⟨b9, cc9, -, r1, -, -⟩ := hR9.cells
      obtain ⟨G, hG⟩ : ∃ G, G = wr.heap.size := ⟨_, rfl⟩
      rw [← hG] at hx9 ⊢
      have HX9 := Lib.hid hx9
      have HGN := Lib.hid (show w.heap.size < G by have := HNW.out; have := HZ5.out; have := HBP.out; omega)
      have g0 : w9.cell? ⟨G, 0, none⟩ = some (.int .i64 (s.node : Int)) := by rw [Lib.cell_of_heap hx9]; rfl
      have g1 : w9.cell? ⟨G, 1, none⟩ = some (.int .i64 (s.boot : Int)) := by rw [Lib.cell_of_heap hx9]; rfl
      have g2 : w9.cell? ⟨G, 2, none⟩ = some (.int .i64 (s.seq : Int)) := by rw [Lib.cell_of_heap hx9]; rfl
      have g3 : w9.cell? ⟨G, 3, none⟩ = some (.int .i64 (s.shard : Int)) := by rw [Lib.cell_of_heap hx9]; rfl
      have g4 : w9.cell? ⟨G, 4, none⟩ = some (.int .i64 (s.size : Int)) := by rw [Lib.cell_of_heap hx9]; rfl
      have HW9 := Lib.hid hb9
      have KI := Lib.hid (inForm_ok s w9 HFIT.out)
      have HK6 := Lib.hid hk6
      have hn6 : decide ((n : Int) > 1024) = false := decide_eq_false (by have := HN.out; omega)
      have hn7 : decide ((1024 : Int) < (n : Int)) = false := decide_eq_false (by have := HN.out; omega)
      rw [← hw9]
      clear hw9 hG k0 k1 k2 k3 k4 k5 k6 hx9 hb9 hR9
      go_upto_region 18 with (go_at_call 64; refine KI.out.mono ?_; rintro e w10 ⟨rfl, hb10⟩; have q6 := (hb10.cell (p := ⟨g, 6, none⟩) (World.block_lt_of_cell? _ _ HK6.out)).trans HK6.out; have HB10 := Lib.hid hb10)
      have hx10 := (HB10.out.block G (Array.getElem?_eq_some_iff.1 HX9.out).1).trans HX9.out
      have HD10 := Lib.hid (HD9.out.below HB10.out)
      have HD11 := Lib.hid (HD10.out.below (Below.refl _ _).drew)
      obtain ⟨b10, cc10, -, r10, -, -⟩ := HD10.out.rd.cells
      clear g0 g1 g2 g3 g4 r1 hk0 hk6 hn6 hn7
      have g0 : w10.cell? ⟨G, 0, none⟩ = some (.int .i64 (s.node : Int)) := by rw [Lib.cell_of_heap hx10]; rfl
      have g1 : w10.cell? ⟨G, 1, none⟩ = some (.int .i64 (s.boot : Int)) := by rw [Lib.cell_of_heap hx10]; rfl
      have g2 : w10.cell? ⟨G, 2, none⟩ = some (.int .i64 (s.seq : Int)) := by rw [Lib.cell_of_heap hx10]; rfl
      have g3 : w10.cell? ⟨G, 3, none⟩ = some (.int .i64 (s.shard : Int)) := by rw [Lib.cell_of_heap hx10]; rfl
      have g4 : w10.cell? ⟨G, 4, none⟩ = some (.int .i64 (s.size : Int)) := by rw [Lib.cell_of_heap hx10]; rfl
      clear hx10
      have hSS : (w10.drew.cell? ⟨G, 0, none⟩ = some (.int .i64 (s.node : Int)) ∧ w10.drew.cell? ⟨G, 1, none⟩ = some (.int .i64 (s.boot : Int)) ∧ w10.drew.cell? ⟨G, 2, none⟩ = some (.int .i64 (s.seq : Int)) ∧ w10.drew.cell? ⟨G, 3, none⟩ = some (.int .i64 (s.shard : Int)) ∧ w10.drew.cell? ⟨G, 4, none⟩ = some (.int .i64 (s.size : Int))) ∧ w10.drew.cell? ⟨g, 6, none⟩ = some (.int .i64 (n : Int)) ∧ w10.drew.cell? ⟨B1, 1, none⟩ = some (.int .i64 ((c1 + k : Nat) : Int)) := ⟨⟨g0, g1, g2, g3, g4⟩, q6, r10⟩
      refine HeldH.region (fun W => (W.cell? ⟨G, 0, none⟩ = some (.int .i64 (s.node : Int)) ∧ W.cell? ⟨G, 1, none⟩ = some (.int .i64 (s.boot : Int)) ∧ W.cell? ⟨G, 2, none⟩ = some (.int .i64 (s.seq : Int)) ∧ W.cell? ⟨G, 3, none⟩ = some (.int .i64 (s.shard : Int)) ∧ W.cell? ⟨G, 4, none⟩ = some (.int .i64 (s.size : Int))) ∧ W.cell? ⟨g, 6, none⟩ = some (.int .i64 (n : Int)) ∧ W.cell? ⟨B1, 1, none⟩ = some (.int .i64 ((c1 + k : Nat) : Int))) (by kernel_rfl) ?_
      refine HeldH.take (i := 0) (v := ?v0) rfl (by kernel_rfl) (by kernel_rfl) (by kernel_rfl) (fun _ _ _ h => h) hSS (by rfl) ?hy0 ?hr0
      case hy0 => intro W hSw; go_simp; try with_reducible rfl
      try simp only [Act.put, List.setIfInBounds_toArray]
      refine HeldH.take (i := 1) (v := ?v1) rfl (by kernel_rfl) (by kernel_rfl) (by kernel_rfl) (fun _ _ _ h => h) hSS (by rfl) ?hy1 ?hr1
      case hy1 => intro W hSw; go_simp; try with_reducible rfl
      try simp only [Act.put]
      refine HeldH.take (i := 2) (v := ?v2) rfl (by kernel_rfl) (by kernel_rfl) (by kernel_rfl) (fun _ _ _ h => h) hSS (by rfl) ?hy2 ?hr2
      case hy2 => intro W hSw; go_simp; try with_reducible rfl
      try simp only [Act.put]
      refine HeldH.take (i := 3) (v := ?v3) rfl (by kernel_rfl) (by kernel_rfl) (by kernel_rfl) (fun _ _ _ h => h) hSS (by rfl) ?hy3 ?hr3
      case hy3 => intro W hSw; go_simp; try with_reducible rfl
      try simp only [Act.put]
      refine HeldH.take (i := 4) (v := ?v4) rfl (by kernel_rfl) (by kernel_rfl) (by kernel_rfl) (fun _ _ _ h => h) hSS (by rfl) ?hy4 ?hr4
      case hy4 => intro W hSw; go_simp; try with_reducible rfl
      try simp only [Act.put]
      refine HeldH.take (i := 5) (v := ?v5) rfl (by kernel_rfl) (by kernel_rfl) (by kernel_rfl) (fun _ _ _ h => h) hSS (by rfl) ?hy5 ?hr5
      case hy5 => intro W hSw; go_simp; try with_reducible rfl
      try simp only [Act.put]
      refine HeldH.take (i := 6) (v := ?v6) rfl (by kernel_rfl) (by kernel_rfl) (by kernel_rfl) (fun _ _ _ h => h) hSS (by rfl) ?hy6 ?hr6
      case hy6 => intro W hSw; go_simp; try with_reducible rfl
      try simp only [Act.put]
      refine HeldH.take (i := 7) (v := ?v7) rfl (by kernel_rfl) (by kernel_rfl) (by kernel_rfl) (fun _ _ _ h => h) hSS (by rfl) ?hy7 ?hr7
      case hy7 => intro W hSw; go_simp; try with_reducible rfl
      try simp only [Act.put]
      generalize w10.drew = w11 at *
      obtain ⟨⟨y0, y1, y2, y3, y4⟩, f0, f1, f2, f3, f4⟩ := HD11.out.sp.cells
      have hGN : G ≠ w.heap.size := by have := HGN.out; omega
      have hgN : g ≠ w.heap.size := by have := HgN.out; omega
      have hBN : B1 ≠ w.heap.size := by have := HBP.out; omega
      refine HeldH.one (i := 8) (by kernel_rfl) rfl (fun K hK => ?_)
      go_simp
      have hcG : ∀ j, (st5 w11 w.heap.size (.int .i64 (s.node : Int)) (.int .i64 (s.boot : Int)) (.int .i64 (s.seq : Int)) (.int .i64 (s.shard : Int)) (.int .i64 (s.size : Int))).cell? ⟨G, j, none⟩ = w11.cell? ⟨G, j, none⟩ := fun j => st5_cell hGN _ _ _ _ _
      have hcg : ∀ j, (st5 w11 w.heap.size (.int .i64 (s.node : Int)) (.int .i64 (s.boot : Int)) (.int .i64 (s.seq : Int)) (.int .i64 (s.shard : Int)) (.int .i64 (s.size : Int))).cell? ⟨g, j, none⟩ = w11.cell? ⟨g, j, none⟩ := fun j => st5_cell hgN _ _ _ _ _
      have hcB : ∀ j, (st5 w11 w.heap.size (.int .i64 (s.node : Int)) (.int .i64 (s.boot : Int)) (.int .i64 (s.seq : Int)) (.int .i64 (s.shard : Int)) (.int .i64 (s.size : Int))).cell? ⟨B1, j, none⟩ = w11.cell? ⟨B1, j, none⟩ := fun j => st5_cell hBN _ _ _ _ _
      have hS' := And.intro (And.intro ((hcG 0).trans hSS.1.1) (And.intro ((hcG 1).trans hSS.1.2.1) (And.intro ((hcG 2).trans hSS.1.2.2.1) (And.intro ((hcG 3).trans hSS.1.2.2.2.1) ((hcG 4).trans hSS.1.2.2.2.2))))) (And.intro ((hcg 6).trans hSS.2.1) ((hcB 1).trans hSS.2.2))
      refine hK.out _ _ hS' ?_
      clear hK K
      try simp only [Act.put, List.setIfInBounds_toArray, List.set_cons_zero, List.set_cons_succ]
      refine HeldH.one (i := 9) (by kernel_rfl) rfl (fun K hK => ?_)
      go_simp
      refine hK.out _ _ hS' ?_
      clear hK K
      try simp only [Act.put, List.setIfInBounds_toArray, List.set_cons_zero, List.set_cons_succ]
      refine HeldH.one (i := 10) (by kernel_rfl) rfl (fun K hK => ?_)
      go_simp
      refine hK.out _ _ hS' ?_
      clear hK K
      try simp only [Act.put, List.setIfInBounds_toArray, List.set_cons_zero, List.set_cons_succ]
      refine HeldH.one (i := 11) (by kernel_rfl) rfl (fun K hK => ?_)
      go_simp
      refine hK.out _ _ hS' ?_
      clear hK K
      try simp only [Act.put, List.setIfInBounds_toArray, List.set_cons_zero, List.set_cons_succ]
      refine wpAnyH_done (by kernel_rfl) ?_ _
      clear hS' hSS hcG hcg hcB y0 y1 y2 y3 y4 f0 f1 f2 f3 f4
      go_wp2_with fail
      refine bodyPost_ret (res_split (put5 HD11.out.sp.box _ _ _ _ _) rfl rfl rfl rfl rfl rfl) rfl ⟨c1 + k, ?_, HCK.out, HR.out, HN.out, below_st5 HD11.out.sp.bel (Nat.le_refl _) _ _ _ _ _⟩
      rfl
end Go.Proofs.YtecnnlppinhmgaaGreatDoor.FrT
namespace Go.Proofs.YtecnnlppinhmgaaGreatDoor.FrU
open Go.RowKit Go.Proofs.YtecnnlppinhmgaaGreatDoor Go.Proofs.YtecnnlppinhmgaaGreatDoor.HtW Go.Proofs.YtecnnlppinhmgaaGreatDoor.HtX Go.Proofs.YtecnnlppinhmgaaGreatDoor.App Go.Proofs.YtecnnlppinhmgaaGreatDoor.Sha Go.Proofs.YtecnnlppinhmgaaGreatDoor.ShaA Go.Proofs.YtecnnlppinhmgaaGreatDoor.ShaB Go.Proofs.YtecnnlppinhmgaaGreatDoor.ShaC Go.Proofs.YtecnnlppinhmgaaGreatDoor.ShaF Go.Proofs.YtecnnlppinhmgaaGreatDoor.FrA Go.Proofs.YtecnnlppinhmgaaGreatDoor.FrC Go.Proofs.YtecnnlppinhmgaaGreatDoor.FrG Go.Proofs.YtecnnlppinhmgaaGreatDoor.FrH Go.Proofs.YtecnnlppinhmgaaGreatDoor.FrJ

theorem body_step {g m : Nat} {T x : List UInt8} (hm : m ≠ 0) (h : Fp.body (g + 1) m T = .ok x) :
    sha (T.take (min m 32)) = (T.drop (min m 32)).take 32 ∧ ∃ x', Fp.body g (m - min m 32) (T.drop (min m 32 + 32)) = .ok x' := by
  rw [Fp.body, if_neg hm] at h
  split at h
  · rename_i hs
    split at h
    · cases h
    · rename_i x' hx
      exact ⟨hs, x', hx⟩
  · cases h
theorem get_form {f d : List UInt8} {s : Fp.Stamp} (h : Fp.get f = .ok (s, d)) : ∃ n r, Fp.split f = .ok (s, n, r) ∧ r.length = n + (n + 31) / 32 * 32 ∧ ∃ x, Fp.body n n r = .ok x := by
  unfold Fp.get at h
  split at h
  · cases h
  rename_i s' n r hs
  split at h
  · cases h
  rename_i hl
  split at h
  · cases h
  rename_i x hb
  cases h
  exact ⟨n, r, hs, by simpa using hl, _, hb⟩

set_option maxHeartbeats 8000000 in
set_option maxRecDepth 100000 in
theorem get_ok (f d : List UInt8) (s : Fp.Stamp) {a : Option Addr} (c : Nat) (w : World) (hb : Bs w a f c) (hl : f.length ≤ 140737488350000) (hg : Fp.get f = .ok (s, d)) :
    Calls Tryz.prog 15 #[.slice a f.length c] w fun e w' => (∃ v, e = .returned (.tuple #[.agg (sc s), v, .int .i64 0])) ∧ Below w.heap.size w w' := by
  obtain ⟨n, r, hs, hrl, x, hx⟩ := get_form hg
  obtain ⟨w1, hw1, hS1⟩ : ∃ w1, w1 = w.alloc (.cells sc0 34) ∧ Sp w w1 := ⟨_, rfl, (Below.refl _ _).alloc (Nat.le_refl _) _, heap_alloc_new _ _⟩
  have KH := Lib.hid (FrT.head_ok f r s n c w1 (hb.below hS1.bel) (by omega) hs)
  have HS1 := Lib.hid hS1
  have HB1 := Lib.hid (hb.below hS1.bel)
  have HRL := Lib.hid hrl
  have HX := Lib.hid (show ∃ x, Fp.body n n r = .ok x from ⟨x, hx⟩)
  have hz1 : w.heap.size < w1.heap.size := (Array.getElem?_eq_some_iff.1 hS1.box).1
  clear hs hrl hx hg hb hS1 x d
  go_enter Tryz.func15, Tryz.ntmps15
  go_upto_region 1 with fail
  rw [← hw1]
  clear hw1
  go_upto_region 2 with (go_at_call 40; refine KH.out.mono ?_; rintro e w2 ⟨k, rfl, hk, hr, hn, hb2⟩)
  obtain ⟨w4, hw4, hb4, hx4⟩ : ∃ w4, w4 = w2.alloc (.cells (sc s) 34) ∧ Below w2.heap.size w2 w4 ∧ w4.heap[w2.heap.size]? = some (.cells (sc s) 34 (0, 0)) := ⟨_, rfl, (Below.refl _ _).alloc (Nat.le_refl _) _, heap_alloc_new _ _⟩
  have hz4 : w2.heap.size < w4.heap.size := (Array.getElem?_eq_some_iff.1 hx4).1
  have HX4 := Lib.hid hx4
  have hz2 := hb2.size
  have HS4 := Lib.hid (HS1.out.below (hb2.trans (hb4.mono hb2.size)))
  have HB4 := Lib.hid (HB1.out.below (hb2.trans (hb4.mono hb2.size)))
  obtain ⟨G5, hG5⟩ : ∃ G5, G5 = w2.heap.size := ⟨_, rfl⟩
  rw [← hw4, ← hG5]
  rw [← hG5] at HX4 hz4
  have hG5n : G5 ≠ w.heap.size := by omega
  clear hw4 hb4 hx4 hb2 hz2 hG5
  subst hr
  have HRL2 := HRL.out
  rw [List.length_drop] at HRL2
  have eN : ((f.length : Int) - (k : Int) != (n : Int) + 32 * (((n : Int) + 31) / 32)) = false := by rw [bne_eq_false_iff_eq]; omega
  have HRL3 := Lib.hid HRL2
  clear HRL2
  clear HRL
  obtain ⟨w5, hw5, hb5, hO5⟩ : ∃ w5, w5 = w4.alloc (.cells #[] 5) ∧ Below w4.heap.size w4 w5 ∧ Own w4.heap.size w5 (.slice (some ⟨w4.heap.size, 0, none⟩) 0 0) [] := ⟨_, rfl, (Below.refl _ _).alloc (Nat.le_refl _) _, own_nil _ _ (Nat.le_refl _)⟩
  have HB5 := Lib.hid hb5
  have HO5 := Lib.hid hO5
  clear hb5 hO5
  go_upto_region 6 with fail
  clear eN
  go_wp2_with fail
  rw [← hw5]
  clear hw5
  obtain ⟨B0, hB0⟩ : ∃ B0, B0 = w4.heap.size := ⟨_, rfl⟩
  have HB0 := Lib.hid hB0
  rw [← hB0] at hz4 HO5 ⊢
  clear hB0
  go_loopg [6, 7, 9] n (fun g v6 v7 v9 wr => ∃ (m p : Nat) (A : List UInt8), m ≤ g ∧ v6 = .int .i64 (m : Int) ∧ v7 = .int .i64 (p : Int) ∧ m ≤ 1024 ∧ p ≤ f.length ∧ A.length + m ≤ 1024 ∧ Hid (f.length - p = m + (m + 31) / 32 * 32) ∧ Hid (∃ x, Fp.body g m (f.drop p) = .ok x) ∧ Hid (Own B0 wr v9 A) ∧ Hid (Below B0 w4 wr))
  case atStart => exact ⟨n, k, [], Nat.le_refl _, rfl, rfl, hn, hk, by simpa using hn, HRL3.out, HX.out, HO5.out, Lib.hid (HB0.out ▸ HB5.out)⟩
  case round =>
    obtain ⟨m, p, A, hmg, rfl, rfl, hm, hp, hA, HT, HM, HO, HW⟩ := hrel
    by_cases h0 : m = 0
    · obtain rfl : m = 0 := h0
      have HX5 := Lib.hid ((HW.out.block _ hz4).trans HX4.out)
      have hS9 := HS4.out.below (HB0.out ▸ HW.out)
      obtain ⟨⟨c0, c1, c2, c3', c4'⟩, f0, f1, f2, f3, f4⟩ := hS9.cells
      have g0 : wr.cell? ⟨G5, 0, none⟩ = some (.int .i64 (s.node : Int)) := by rw [Lib.cell_of_heap HX5.out]; rfl
      have g1 : wr.cell? ⟨G5, 1, none⟩ = some (.int .i64 (s.boot : Int)) := by rw [Lib.cell_of_heap HX5.out]; rfl
      have g2 : wr.cell? ⟨G5, 2, none⟩ = some (.int .i64 (s.seq : Int)) := by rw [Lib.cell_of_heap HX5.out]; rfl
      have g3 : wr.cell? ⟨G5, 3, none⟩ = some (.int .i64 (s.shard : Int)) := by rw [Lib.cell_of_heap HX5.out]; rfl
      have g4 : wr.cell? ⟨G5, 4, none⟩ = some (.int .i64 (s.size : Int)) := by rw [Lib.cell_of_heap HX5.out]; rfl
      clear hmg
      go_wp2_with fail
      refine bodyPost_ret (res_get (put5 hS9.box _ _ _ _ _) rfl rfl rfl rfl rfl) rfl ⟨⟨_, rfl⟩, below_st5 hS9.bel (Nat.le_refl _) _ _ _ _ _⟩
    · have e0 : decide ((0 : Int) < (m : Int)) = true := decide_eq_true (by omega)
      obtain ⟨g, rfl⟩ : ∃ g, gk = g + 1 := ⟨gk - 1, by omega⟩
      have htl := HT.out
      obtain ⟨x, hx⟩ := HM.out
      obtain ⟨hsha, hx'⟩ := body_step h0 hx
      obtain ⟨z, hz⟩ : ∃ z, z = min m 32 := ⟨_, rfl⟩
      rw [← hz] at hsha hx'
      rw [List.drop_drop] at hsha hx'
      have hzm : z ≤ m ∧ z ≤ 32 ∧ 0 < z := by omega
      obtain ⟨hz1', hz2', hz3'⟩ := hzm
      have hmin : (if (32 : Int) < (m : Int) then (32 : Int) else (m : Int)) = (z : Int) := by
        split <;> omega
      have HZ := Lib.hid hz
      obtain ⟨a1, hsl1, hb1⟩ := Mid.mid HB4.out p z (by omega) (p : Int) ((p : Int) + (z : Int)) rfl rfl
      obtain ⟨a2, hsl2, hb2⟩ := Mid.mid HB4.out (p + z) 32 (by omega) ((p : Int) + (z : Int)) ((p : Int) + (z : Int) + 32) (by omega) (by omega)
      obtain ⟨T1, hT1⟩ : ∃ T1, T1 = (f.drop p).take z := ⟨_, rfl⟩
      rw [← hT1] at hb1 hsha
      have hk1 : T1.length = z := by rw [hT1, List.length_take, List.length_drop]; omega
      have hk2 : ((f.drop (p + z)).take 32).length = 32 := by rw [List.length_take, List.length_drop]; omega
      rw [← hsha] at hb2 hk2
      have HSZ := Lib.hid (show z ≤ 32 from hz2')
      have HW4 := Lib.hid (show Below w4.heap.size w4 wr from HB0.out ▸ HW.out)
      have KS := Lib.hid (show ∀ W, Below wr.heap.size wr W → Calls Tryz.prog 29 #[.slice a1 z (c - p)] W fun e w' => e = .returned (.agg (bcells (sha T1))) ∧ Below W.heap.size W w' from fun W hW => by
        have := RsB.sum T1 (c - p) W ((hb1.below HW4.out).below hW) (by omega)
        rwa [hk1] at this)
      have HB1' := Lib.hid hb1
      have HB2' := Lib.hid hb2
      have HK1 := Lib.hid hk1
      have HX2 := Lib.hid hx'
      have hs32 : (bcells (sha T1)).size = 32 := by rw [bcells_size, sha_length]
      have hi33 : (Tryz.prog.info? 63).map (·.size) = some (bcells (sha T1)).size := (show _ = some 32 by kernel_rfl).trans (congrArg some hs32.symm)
      have HI33 := Lib.hid hi33
      have HS32 := Lib.hid hs32
      clear hi33 hs32 hb1 hb2 hT1 hk1 hk2 htl hx hx' hsha hz
      go_upto_region 9 with fail
      try rw [hmin]
      clear hmin
      go_upto_region 11 with (first
        | (go_at_call 29; refine (KS.out _ (Below.refl _ _)).mono ?_; rintro e w6 ⟨rfl, hb6⟩)
        | (guard_target =~ wpList _ _ _ ({ dst := _, op := Op.store 63 _ _, type := _, pos := _, after := _, guard := none } :: _) _ _; refine wpList_store_row rfl 63 _ _ rfl _ (bcells (sha T1)) rfl rfl _ _ (heap_alloc_new _ _) HI33.out (Eq.trans rfl HS32.out.symm) (bcells_one _) ?_; refine lay32 rfl ?_; intro w7 hV7 hb7))
      have HW67 := Lib.hid (hb6.trans (hb7.mono hb6.size))
      rw [sha_length] at hV7
      have HV7 := Lib.hid hV7
      have HW47 := Lib.hid (HW4.out.trans (HW67.out.mono HW4.out.size))
      have hlsh : (sha T1).length = 32 := sha_length _
      have KA := Lib.hid (show ∀ W, Below w7.heap.size w7 W → (convert 24 9 (.slice (some ⟨w6.heap.size, 0, none⟩) 32 32)).run Tryz.prog W = .ok (.string ⟨(sha T1).toArray⟩) W from fun W hW => by
        have := to_string (HV7.out.below hW)
        rwa [hlsh] at this)
      have KB := Lib.hid (show ∀ W, Below w7.heap.size w7 W → (convert 24 9 (.slice a2 32 (c - (p + z)))).run Tryz.prog W = .ok (.string ⟨(sha T1).toArray⟩) W from fun W hW => by
        have := to_string ((HB2'.out.below HW47.out).below hW)
        rwa [hlsh] at this)
      obtain ⟨N6, hN6⟩ : ∃ N6, N6 = w6.heap.size := ⟨_, rfl⟩
      rw [← hN6] at KA ⊢
      have HN6 := Lib.hid hN6
      have hw1 : IntKind.i64.wrap ((p : Int) + (z : Int)) = (p : Int) + (z : Int) := IntWalk.i64_in _ ⟨by omega, by omega⟩
      have hw2 : IntKind.i64.wrap ((p : Int) + (z : Int) + 32) = (p : Int) + (z : Int) + 32 := IntWalk.i64_in _ ⟨by omega, by omega⟩
      have hbd := Lib.hid (show Below w7.heap.size w7 w7.drew from (Below.refl _ _).drew)
      clear hV7 hb6 hb7 hN6 hlsh
      refine HeldH.region (fun W => Below w7.heap.size w7 W) (by kernel_rfl) ?_
      refine HeldH.take (i := 0) (v := ?v0) rfl (by kernel_rfl) (by kernel_rfl) (by kernel_rfl) (fun _ _ _ h => h) hbd.out (by rfl) ?hy0 ?hr0
      case hy0 => intro W hSw; go_simp; try with_reducible rfl
      try simp only [Act.put, List.setIfInBounds_toArray]
      refine HeldH.take (i := 1) (v := ?v1) rfl (by kernel_rfl) (by kernel_rfl) (by kernel_rfl) (fun _ _ _ h => h) hbd.out (by rfl) ?hy1 ?hr1
      case hy1 => intro W hSw; have kc := KA.out W hSw; go_simp; try with_reducible rfl
      try simp only [Act.put]
      refine HeldH.take (i := 2) (v := ?v2) rfl (by kernel_rfl) (by kernel_rfl) (by kernel_rfl) (fun _ _ _ h => h) hbd.out (by rfl) ?hy2 ?hr2
      case hy2 => intro W hSw; go_simp; try with_reducible rfl
      try simp only [Act.put]
      refine HeldH.take (i := 3) (v := ?v3) rfl (by kernel_rfl) (by kernel_rfl) (by kernel_rfl) (fun _ _ _ h => h) hbd.out (by rfl) ?hy3 ?hr3
      case hy3 => intro W hSw; go_simp; try with_reducible rfl
      try simp only [Act.put]
      refine HeldH.take (i := 4) (v := ?v4) rfl (by kernel_rfl) (by kernel_rfl) (by kernel_rfl) (fun _ _ _ h => h) hbd.out (by rfl) ?hy4 ?hr4
      case hy4 => intro W hSw; go_simp; try with_reducible rfl
      try simp only [Act.put]
      refine HeldH.take (i := 5) (v := ?v5) rfl (by kernel_rfl) (by kernel_rfl) (by kernel_rfl) (fun _ _ _ h => h) hbd.out (by rfl) ?hy5 ?hr5
      case hy5 => intro W hSw; go_simp; try with_reducible rfl
      try simp only [Act.put]
      refine HeldH.take (i := 6) (v := ?v6) rfl (by kernel_rfl) (by kernel_rfl) (by kernel_rfl) (fun _ _ _ h => h) hbd.out (by rfl) ?hy6 ?hr6
      case hy6 => intro W hSw; go_simp; try with_reducible rfl
      try simp only [Act.put]
      refine HeldH.take (i := 7) (v := ?v7) rfl (by kernel_rfl) (by kernel_rfl) (by kernel_rfl) (fun _ _ _ h => h) hbd.out (by rfl) ?hy7 ?hr7
      case hy7 => intro W hSw; go_simp; try with_reducible rfl
      try simp only [Act.put]
      refine HeldH.take (i := 8) (v := ?v8) rfl (by kernel_rfl) (by kernel_rfl) (by kernel_rfl) (fun _ _ _ h => h) hbd.out (by rfl) ?hy8 ?hr8
      case hy8 => intro W hSw; go_simp; try with_reducible rfl
      try simp only [Act.put]
      refine HeldH.take (i := 9) (v := ?v9) rfl (by kernel_rfl) (by kernel_rfl) (by kernel_rfl) (fun _ _ _ h => h) hbd.out (by rfl) ?hy9 ?hr9
      case hy9 => intro W hSw; go_simp; try with_reducible rfl
      try simp only [Act.put]
      refine HeldH.take (i := 10) (v := ?v10) rfl (by kernel_rfl) (by kernel_rfl) (by kernel_rfl) (fun _ _ _ h => h) hbd.out (by rfl) ?hy10 ?hr10
      case hy10 => intro W hSw; go_simp; try with_reducible rfl
      try simp only [Act.put]
      refine HeldH.take (i := 11) (v := ?v11) rfl (by kernel_rfl) (by kernel_rfl) (by kernel_rfl) (fun _ _ _ h => h) hbd.out (by rfl) ?hy11 ?hr11
      case hy11 => intro W hSw; have kc := KB.out W hSw; go_simp; try with_reducible rfl
      try simp only [Act.put]
      refine HeldH.one (i := 12) (by kernel_rfl) rfl (fun K hK => ?_)
      go_simp
      refine hK.out _ _ hbd.out ?_
      clear hK K
      try simp only [Act.put, List.setIfInBounds_toArray, List.set_cons_zero, List.set_cons_succ]
      refine wpAnyH_done (by kernel_rfl) ?_ _
      have HW8 := Lib.hid (show Below B0 w4 w7.drew from (HW.out.trans (HW67.out.mono (HB0.out ▸ HW.out.size))).drew)
      have HO8 := Lib.hid ((HO.out.below HW67.out).below (Below.refl _ _).drew)
      have HB18 := Lib.hid ((HB1'.out.below HW47.out).below (Below.refl _ _).drew)
      have hB08 : B0 ≤ w7.drew.heap.size := Nat.le_trans (Nat.le_of_eq HB0.out) HW8.out.size
      have hAT : A.length + T1.length ≤ 140737488355328 := by have := HK1.out; omega
      generalize w7.drew = w8 at *
      go_wp2_with (at_builtin; refine append_more _ rfl (.tmp 63) (.tmp 64) rfl B0 A T1 HO8.out a1 (c - p) HB18.out hB08 hAT rfl (by show _ = Value.slice a1 T1.length (c - p); rw [HK1.out]; rfl) ?_; rintro a9 c9 w9 n9 rfl o9 b9)
      have HO9 := Lib.hid (show Own B0 w9 (.slice a9 (A.length + T1.length) c9) (A ++ T1) by rw [← List.length_append]; exact o9)
      have HB9 := Lib.hid (HW8.out.trans b9)
      clear o9 b9 hw1 hw2 hAT hB08
      go_roundg g
      case measure => omega
      case rel =>
        have htl := HT.out
        have hz := HZ.out
        have hk := HK1.out
        exact ⟨m - z, p + (z + 32), A ++ T1, by omega, by congr 1; omega, by congr 1, by omega, by omega, by rw [List.length_append]; omega, Lib.hid (by omega), HX2, HO9, HB9⟩
end Go.Proofs.YtecnnlppinhmgaaGreatDoor.FrU
