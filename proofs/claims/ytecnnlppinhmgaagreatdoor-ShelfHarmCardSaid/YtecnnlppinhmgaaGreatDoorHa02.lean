/-
  The law ShelfHarm: whatever bit is turned, Get answers the frame that was put, or ErrLost.
-/
import Derived.Test.YtecnnlppinhmgaaGreatDoorSd02
import Derived.Test.YtecnnlppinhmgaaGreatDoorHa01
namespace Go.Proofs.YtecnnlppinhmgaaGreatDoor.SfG
open Go.RowKit Go.Proofs.YtecnnlppinhmgaaGreatDoor Go.Proofs.YtecnnlppinhmgaaGreatDoor.HtW Go.Proofs.YtecnnlppinhmgaaGreatDoor.FrC Go.Proofs.YtecnnlppinhmgaaGreatDoor.FrG Go.Proofs.YtecnnlppinhmgaaGreatDoor.DiskB Go.Proofs.YtecnnlppinhmgaaGreatDoor.SfA Go.Proofs.YtecnnlppinhmgaaGreatDoor.SfB Go.Proofs.YtecnnlppinhmgaaGreatDoor.SfC Go.Proofs.YtecnnlppinhmgaaGreatDoor.IdBox Go.Proofs.YtecnnlppinhmgaaGreatDoor.SfP Go.Proofs.YtecnnlppinhmgaaGreatDoor.SfD

set_option maxHeartbeats 4000000 in
set_option maxRecDepth 100000 in
/-- an id that is not good, or too long a shard -/
theorem harm_no (x y z : Int) (dt : List UInt8) {a : Option Addr} (c : Nat) (bit : Int) (w : World) {aL aB aD aN aF aG : Addr} (hE : Env w aL aB aD aN aF aG) (h : FrK.goodB x y z = false ∨ 1024 < dt.length) :
    Calls Tryz.prog 3 #[.agg #[.int .i64 x, .int .i64 y, .int .i64 z], .slice a dt.length c, .int .i64 bit] w fun e w' => e = .returned (.bool true) ∧ Below w.heap.size w w' := by
  obtain ⟨w1, hw1, hb1, hx1⟩ : ∃ w1, w1 = w.alloc (.cells #[.int .i64 x, .int .i64 y, .int .i64 z] 23) ∧ Below w.heap.size w w1 ∧ Ix w1 w.heap.size x y z := ⟨_, rfl, (Below.refl _ _).alloc (Nat.le_refl _) _, heap_alloc_new _ _⟩
  have HX1 := Lib.hid hx1
  have HB1 := Lib.hid hb1
  have HE := Lib.hid hE
  have KA := Lib.hid (SfD.alive w1 (hE.below hb1))
  have KG := Lib.hid (fun W => FrK.goodId x y z W)
  have HH := Lib.hid h
  clear hb1 hx1 hE h
  go_enter Tryz.func3, Tryz.ntmps3
  go_upto_region 1 with fail
  rw [← hw1]
  clear hw1
  go_upto_region 4 with (first
    | (go_at_call 7; refine KA.out.mono ?_; rintro e w2 ⟨rfl, hb2⟩; have HB2 := Lib.hid (HB1.out.trans (hb2.mono HB1.out.size)); have HX2 := Lib.hid (HX1.out.below hb2); have KN := Lib.hid (SfA.new 1 (by decide) w2 (HE.out.below HB2.out).errs.lt); clear hb2)
    | (go_at_call 8; refine KN.out.mono ?_; rintro e w3 ⟨sb, rfl, -, -, -, hb3⟩; have HB3 := Lib.hid (HB2.out.trans (hb3.mono HB2.out.size)); have HX3 := Lib.hid (HX2.out.below hb3); clear hb3))
  obtain ⟨c0, c1, c2⟩ := HX3.out.cells
  cases hg : FrK.goodB x y z
  · rw [hg] at KG
    clear hg
    go_wp2_with (go_at_call 9; refine (KG.out _).mono ?_; rintro e w4 ⟨rfl, hb4⟩)
    go_ret
    exact ⟨rfl, HB3.out.trans (hb4.mono HB3.out.size)⟩
  · rw [hg] at KG
    have hl : 1024 < dt.length := HH.out.resolve_left (by rw [hg]; decide)
    have e1 : decide ((1024 : Int) < (dt.length : Int)) = true := decide_eq_true (by omega)
    have e2 : decide ((dt.length : Int) > 1024) = true := decide_eq_true (by omega)
    clear hg
    go_wp2_with (go_at_call 9; refine (KG.out _).mono ?_; rintro e w4 ⟨rfl, hb4⟩)
    go_ret
    exact ⟨rfl, HB3.out.trans (hb4.mono HB3.out.size)⟩

/-- the frame's stamp -/
def stp (x y z n : Nat) : Fp.Stamp := ⟨x, y, z, 1, n⟩

set_option maxHeartbeats 8000000 in
set_option maxRecDepth 100000 in
theorem harm_yes (x y z : Nat) (dt : List UInt8) {a : Option Addr} (c : Nat) (bit : Int) (w : World) {aL aB aD aN aF aG : Addr} (hE : Env w aL aB aD aN aF aG) (hb : Bs w a dt c) (hg : FrK.goodB x y z = true) (hl : dt.length ≤ 1024) (hbit : -9223372036854775808 ≤ bit ∧ bit ≤ 9223372036854775807) :
    Calls Tryz.prog 3 #[.agg #[.int .i64 (x : Int), .int .i64 (y : Int), .int .i64 (z : Int)], .slice a dt.length c, .int .i64 bit] w fun e w' => e = .returned (.bool true) ∧ Below w.heap.size w w' := by
  have hgb : 0 ≤ (x : Int) ∧ (x : Int) < 16 ∧ 0 ≤ (y : Int) ∧ (y : Int) ≤ 1099511627776 ∧ 0 ≤ (z : Int) ∧ (z : Int) ≤ 1099511627776 := by unfold FrK.goodB at hg; exact of_decide_eq_true hg
  obtain ⟨st, hst⟩ : ∃ st, st = stp x y z dt.length := ⟨_, rfl⟩
  have hfit : st.fits := by rw [hst]; exact ⟨by show x < 16; omega, by show y ≤ _; omega, by show z ≤ _; omega, by show 1 < 16; decide, hl⟩
  obtain ⟨fr, hfr⟩ : ∃ fr, fr = Fp.put st dt := ⟨_, rfl⟩
  have hget : Fp.get fr = .ok (st, dt) := by rw [hfr]; exact Fp.get_put hfit hl
  have hfl : fr.length ≤ 4096 := by rw [hfr]; have := FrN.frame_len st dt; omega
  have hf0 : fr ≠ [] := fun h => by rw [h] at hget; exact absurd hget (by simp [Fp.get, Fp.split, Fp.rd, Fp.rdF])
  have hsn : ∀ v ∈ [st.node, st.boot, st.seq, st.shard, st.size], v < 9223372036854775808 := by
    obtain ⟨h1, h2, h3, h4, h5⟩ := hfit
    intro v hv
    simp only [List.mem_cons, List.not_mem_nil, or_false] at hv
    rcases hv with rfl | rfl | rfl | rfl | rfl <;> omega
  obtain ⟨w1, hw1, hb1, hx1⟩ : ∃ w1, w1 = w.alloc (.cells #[.int .i64 (x : Int), .int .i64 (y : Int), .int .i64 (z : Int)] 23) ∧ Below w.heap.size w w1 ∧ Ix w1 w.heap.size x y z := ⟨_, rfl, (Below.refl _ _).alloc (Nat.le_refl _) _, heap_alloc_new _ _⟩
  have HX1 := Lib.hid hx1
  have HB1 := Lib.hid hb1
  have HE := Lib.hid hE
  have KA := Lib.hid (SfD.alive w1 (hE.below hb1))
  have KG := Lib.hid (fun W => FrK.goodId x y z W)
  rw [hg] at KG
  have HGB := Lib.hid hg
  have HBB := Lib.hid (hb.below hb1)
  have HFIT := Lib.hid hfit
  have HGET := Lib.hid hget
  have HFL := Lib.hid hfl
  have HF0 := Lib.hid hf0
  have HSN := Lib.hid hsn
  have HFR := Lib.hid hfr
  have HST := Lib.hid hst
  have HBIT := Lib.hid hbit
  have hl1 : w.heap.size < w1.heap.size := (Array.getElem?_eq_some_iff.1 hx1).1
  have HL1 := Lib.hid hl1
  have e1 : decide ((1024 : Int) < (dt.length : Int)) = false := decide_eq_false (by omega)
  have e2 : decide ((dt.length : Int) > 1024) = false := decide_eq_false (by omega)
  clear hb1 hx1 hE hg hb hfit hget hfl hf0 hsn hfr hst hbit hl1 hgb
  go_enter Tryz.func3, Tryz.ntmps3
  go_upto_region 1 with fail
  rw [← hw1]
  clear hw1
  go_upto_region 4 with (first
    | (go_at_call 7; refine KA.out.mono ?_; rintro e w2 ⟨rfl, hb2⟩; have HB2 := Lib.hid (HB1.out.trans (hb2.mono HB1.out.size)); have HX2 := Lib.hid (HX1.out.below hb2); have HBB2 := Lib.hid (HBB.out.below hb2); have HL2 := Lib.hid (Nat.lt_of_lt_of_le HL1.out hb2.size); have KN := Lib.hid (SfA.new 1 (by decide) w2 (HE.out.below HB2.out).errs.lt); clear hb2)
    | (go_at_call 8; refine KN.out.mono ?_; rintro e w3 ⟨sb, rfl, hS3, hsb, hD3, hb3⟩; have HS3 := Lib.hid hS3; have HSB := Lib.hid hsb; have HD3 := Lib.hid hD3; have HB23 := Lib.hid hb3; have HB3 := Lib.hid (HB2.out.trans (hb3.mono HB2.out.size)); have HX3 := Lib.hid (HX2.out.below hb3); have HBB3 := Lib.hid (HBB2.out.below hb3); clear hb3 hS3 hsb hD3))
  obtain ⟨mb, hmb⟩ : ∃ mb, mb = w2.heap.size := ⟨_, rfl⟩
  rw [← hmb] at HS3 HSB HD3 HL2
  have HMB := Lib.hid hmb
  clear hmb
  obtain ⟨c0, c1, c2⟩ := HX3.out.cells
  go_upto_region 6 with (go_at_call 9; refine (KG.out _).mono ?_; rintro e w4 ⟨rfl, hb4⟩)
  have HB4 := Lib.hid (HB3.out.trans (hb4.mono HB3.out.size))
  have HX4 := Lib.hid (HX3.out.below hb4)
  have HS4 := Lib.hid (HS3.out.below hb4)
  have HD4 := Lib.hid (HD3.out.below hb4)
  have KP := Lib.hid (FrM.put st dt c w4 (HBB3.out.below hb4) hl HSN.out)
  rw [← HFR.out] at KP
  have KP := Lib.hid (show Calls Tryz.prog 10 #[.agg #[.int .i64 (x : Int), .int .i64 (y : Int), .int .i64 (z : Int), .int .i64 1, .int .i64 (dt.length : Int)], .slice a dt.length c] w4 fun e w' => ∃ v, e = .returned v ∧ Own w4.heap.size w' v fr ∧ Below w4.heap.size w4 w' by have h := KP.out; rw [HST.out] at h; exact h)
  have HM4 := Lib.hid (show mb + 2 ≤ w4.heap.size from HD4.out.low)
  obtain ⟨c0, c1, c2⟩ := HX4.out.cells
  clear hb4
  go_upto_region 7 with (go_at_call 10; refine KP.out.mono ?_; rintro e w5 ⟨v, rfl, hO5, hb5⟩; obtain ⟨a5, c5, rfl, hB5⟩ := hO5.bs)
  have HB5 := Lib.hid (HB4.out.trans (hb5.mono HB4.out.size))
  have HX5 := Lib.hid (HX4.out.below hb5)
  have HS5 := Lib.hid (HS4.out.below hb5)
  have HO5 := Lib.hid hO5
  have hmw : w.heap.size ≤ mb := Nat.le_of_lt HL2.out
  have KQ := Lib.hid (SfB.put fr c5 st dt w w5 HE.out HB5.out hmw HS5.out (by have := HSB.out; omega) (HD4.out.below hb5) hB5 (by have := HFL.out; omega) (by decide) HGET.out (by rw [HST.out]; rfl) HFIT.out)
  rw [(put_first st fr HFIT.out).1, (put_first st fr HFIT.out).2, show erv aN aF aG .ok = .nilIface from rfl] at KQ
  obtain ⟨f', hf'⟩ : ∃ f', f' = DiskFl.flipB fr (DiskFl.bitOf bit (8 * fr.length)) := ⟨_, rfl⟩
  have hne : f' ≠ fr := by
    rw [hf']
    refine DiskFl.flip_ne (DiskFl.bitOf_lt ?_).2
    have := List.length_pos_iff.2 HF0.out
    omega
  have hln : f'.length = fr.length := by rw [hf']; exact DiskFl.flip_len _ _
  have KF := Lib.hid (show ∀ W, Dw.Drive (mb + 2) (mb + 1) mb W (SfP.one (bn st) fr) false 0 → Calls Tryz.prog 13 #[.pointer (some ⟨mb + 1, 0, none⟩), .int .i64 bit] W fun e w' => e = .returned (.bool true) ∧ Dw.Drive (mb + 2) (mb + 1) mb w' (SfP.one (bn st) f') false 0 ∧ Dw.Keep [mb] W w' from fun W hW => by
    have h := DiskFl.flip (bn st) ⟨fr, fr, true⟩ bit W hW (by have := nm_size (x := 98) (few_node HFIT.out) (few_boot HFIT.out) (few_seq HFIT.out); rwa [Com.size_mk] at this) HF0.out (by have := HFL.out; show fr.length ≤ _; omega) HBIT.out
    rw [hf']
    exact h)
  have HNE := Lib.hid hne
  have HLN := Lib.hid hln
  clear hb5 hO5 hB5 hne hln hf' c0 c1 c2
  go_upto_region 9 with (first
    | (go_at_call 11; refine KQ.out.mono ?_; rintro e w6 ⟨rfl, hD6, hk6⟩; have HD6 := Lib.hid hD6; have HK6 := Lib.hid hk6; have HS6 := Lib.hid (HS5.out.keep hk6 (by have := HSB.out; simp; omega)); clear hD6 hk6)
    | (go_at_call 12; refine (drive _ _ _ _ HS6.out).mono ?_; rintro e w7 ⟨rfl, hw7⟩; subst hw7)
    | (go_at_call 13; refine (KF.out _ HD6.out).mono ?_; rintro e w7 ⟨rfl, hD7, hk7⟩))
  have HD7 := Lib.hid hD7
  have HK57 := Lib.hid (HK6.out.trans hk7)
  have HS7 := Lib.hid (HS6.out.keep hk7 (by have := HSB.out; simp; omega))
  have HX7 := Lib.hid (ix_keep HX5.out HK57.out (by have := HL2.out; omega))
  have HB7 := Lib.hid (keep_below HB5.out HK57.out hmw)
  have hgd := gd_bn HFIT.out
  have hfl' : f'.length ≤ 140737488351232 := by rw [HLN.out]; have := HFL.out; omega
  have hnm : nm 98 x y z = bn st := by rw [HST.out]; rfl
  have hget7 := SfC.get x y z f' w w7 HE.out HB7.out HS7.out hD7 (one_bytes hfl') HGB.out (by rw [hnm]; exact (ask_one f' hgd).1) (by rw [hnm]; exact (ask_one f' hgd).2) hfl'
  obtain ⟨c0, c1, c2⟩ := HX7.out.cells
  have HGD := Lib.hid hgd
  have HNM := Lib.hid hnm
  have HFL' := Lib.hid hfl'
  clear hD7 hk7 hgd hnm hfl'
  cases hv : GetV f' x y z 1
  · rw [hv] at hget7
    have KG7 := Lib.hid (show Calls Tryz.prog 14 #[.pointer (some ⟨sb, 0, none⟩), .agg #[.int .i64 (x : Int), .int .i64 (y : Int), .int .i64 (z : Int)]] w7 fun e w' => e = .returned (.tuple #[.slice none 0 0, Err.ev aL]) ∧ Below w7.heap.size w7 w' from hget7)
    have HV := Lib.hid hv
    clear hget7 hv
    go_upto_region 13 with (go_at_call 14; refine KG7.out.mono ?_; rintro e w8 ⟨rfl, hb8⟩)
    have HB8 := Lib.hid (HB7.out.trans (hb8.mono HB7.out.size))
    have eL := (HE.out.below HB8.out).lost
    have heq := Err.eqErr aL w8
    have hX8 := HX7.out.below hb8
    obtain ⟨c0, c1, c2⟩ := hX8.cells
    have KH := Lib.hid (SfH.has x y z f' w w8 HE.out HB8.out (HS7.out.below hb8) (HD7.out.below hb8) (one_bytes HFL'.out) HGB.out (by rw [HNM.out]; exact (ask_one f' HGD.out).1) (by rw [HNM.out]; exact (ask_one f' HGD.out).2) HFL'.out)
    rw [HV.out] at KH
    clear hX8 hb8
    go_wp2_with (go_at_call 16; refine KH.out.mono ?_; rintro e w9 ⟨rfl, hb9⟩)
    go_ret
    exact ⟨rfl, HB8.out.trans (hb9.mono HB8.out.size)⟩
  · rw [hv] at hget7
    have KG7 := Lib.hid (show Calls Tryz.prog 14 #[.pointer (some ⟨sb, 0, none⟩), .agg #[.int .i64 (x : Int), .int .i64 (y : Int), .int .i64 (z : Int)]] w7 fun e w' => (∃ a c, e = .returned (.tuple #[.slice a f'.length c, .nilIface]) ∧ Bs w' a f' c) ∧ Below w7.heap.size w7 w' from hget7)
    have hok : ∃ s' d', Fp.get f' = .ok (s', d') := by
      unfold GetV at hv
      split at hv
      · cases hv
      · rename_i s' d' h; exact ⟨s', d', h⟩
    obtain ⟨s', d', hok⟩ := hok
    have HOK := Lib.hid hok
    clear hget7 hv hok
    go_upto_region 11 with (go_at_call 14; refine KG7.out.mono ?_; rintro e w8 ⟨⟨a8, c8, rfl, hB8⟩, hb8⟩)
    have HB8 := Lib.hid (HB7.out.trans (hb8.mono HB7.out.size))
    have HBF := Lib.hid hB8
    have KR := Lib.hid (FrU.get_ok f' d' s' c8 w8 hB8 (by rw [HLN.out]; have := HFL.out; omega) HOK.out)
    have hM5 : mb < w4.heap.size := by have := HM4.out; omega
    have HO8 := Lib.hid ((FrM.own_keep HO5.out HK57.out hM5).below hb8)
    clear hb8 hB8
    go_upto_region 12 with (go_at_call 15; refine KR.out.mono ?_; rintro e w9 ⟨⟨v9, rfl⟩, hb9⟩)
    obtain ⟨w10, hw10, hb10⟩ : ∃ w10, w10 = w9.alloc (.cells (sc s') 34) ∧ Below w9.heap.size w9 w10 := ⟨_, rfl, (Below.refl _ _).alloc (Nat.le_refl _) _⟩
    rw [← hw10]
    have hb910 := hb9.trans (hb10.mono hb9.size)
    have kg := to_string (HBF.out.below hb910)
    obtain ⟨a5', c5', e5', hB5'⟩ := (HO8.out.below hb910).bs
    cases e5'
    have kf := to_string hB5'
    have hns : (f' == fr) = false := beq_eq_false_iff_ne.2 HNE.out
    have HB10 := Lib.hid (HB8.out.trans (hb910.mono HB8.out.size))
    clear hw10 hb9 hb10 hb910 hB5'
    go_wp2
    go_ret
    exact ⟨rfl, HB10.out⟩

/-- the law -/
theorem harm (x y z : Int) (dt : List UInt8) {a : Option Addr} (c : Nat) (bit : Int) (w : World) {aL aB aD aN aF aG : Addr} (hE : Env w aL aB aD aN aF aG) (hb : Bs w a dt c) (hbit : -9223372036854775808 ≤ bit ∧ bit ≤ 9223372036854775807) :
    Calls Tryz.prog 3 #[.agg #[.int .i64 x, .int .i64 y, .int .i64 z], .slice a dt.length c, .int .i64 bit] w fun e w' => e = .returned (.bool true) ∧ Below w.heap.size w w' := by
  cases hg : FrK.goodB x y z with
  | false => exact harm_no x y z dt c bit w hE (.inl hg)
  | true =>
    by_cases hl : 1024 < dt.length
    · exact harm_no x y z dt c bit w hE (.inr hl)
    · have hgb : 0 ≤ x ∧ x < 16 ∧ 0 ≤ y ∧ y ≤ 1099511627776 ∧ 0 ≤ z ∧ z ≤ 1099511627776 := by unfold FrK.goodB at hg; exact of_decide_eq_true hg
      obtain ⟨x', rfl⟩ : ∃ n : Nat, x = (n : Int) := ⟨x.toNat, by omega⟩
      obtain ⟨y', rfl⟩ : ∃ n : Nat, y = (n : Int) := ⟨y.toNat, by omega⟩
      obtain ⟨z', rfl⟩ : ∃ n : Nat, z = (n : Int) := ⟨z.toNat, by omega⟩
      exact harm_yes x' y' z' dt c bit w hE hb hg (by omega) hbit
end Go.Proofs.YtecnnlppinhmgaaGreatDoor.SfG
