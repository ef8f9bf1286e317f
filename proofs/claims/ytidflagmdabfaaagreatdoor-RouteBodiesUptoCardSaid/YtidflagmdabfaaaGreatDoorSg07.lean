/-
  The walks of package mac. The walks of package mac's keyed and Sum. Plain Lean, no program in sight: what the entities of a text are, what is read back of them, and that the two fit. Decimal numerals, plain Lean: their length and their bytes.
-/
import Derived.Test.YtidflagmdabfaaaGreatDoorSg06
import Derived.Lib.ItoaNum
namespace Go.Proofs.YtidflagmdabfaaaGreatDoor.ShaH
open Go.RowKit Go.Proofs.YtidflagmdabfaaaGreatDoor Go.Proofs.YtidflagmdabfaaaGreatDoor.Sha Go.Proofs.YtidflagmdabfaaaGreatDoor.ShaA Go.Proofs.YtidflagmdabfaaaGreatDoor.ShaB Go.Proofs.YtidflagmdabfaaaGreatDoor.ShaC Go.Proofs.YtidflagmdabfaaaGreatDoor.HtW Go.Proofs.YtidflagmdabfaaaGreatDoor.Lf Go.Proofs.YtidflagmdabfaaaGreatDoor.ShaE Go.Proofs.YtidflagmdabfaaaGreatDoor.App Go.Proofs.YtidflagmdabfaaaGreatDoor.ShaF Go.Proofs.YtidflagmdabfaaaGreatDoor.ShaG

theorem xor8 (a b : UInt8) : bits .xor .u8 (a.toNat : Int) (b.toNat : Int) = ((a ^^^ b).toNat : Int) := by
  rw [u8_xor_nat _ _ (UInt8.toNat_lt a) (UInt8.toNat_lt b), UInt8.toNat_xor]
/-- a box of 64 bytes -/
def Box (O : Nat) (w : World) (l : List UInt8) : Prop := w.heap[O]? = some (.cells (bcells l) 270 (0, 0))
theorem Box.put {O : Nat} {w : World} {l : List UInt8} (h : Box O w l) (i : Nat) (b : UInt8) : Box O (w.setCell ⟨O, i, none⟩ (.int .u8 (b.toNat : Int))) (l.set i b) := by
  unfold Box at h ⊢
  rw [← bcells_set]
  exact heap_setCell_same w O i _ _ _ h
theorem Box.cell {O : Nat} {w : World} {l : List UInt8} (h : Box O w l) {i : Nat} {b : UInt8} (hi : l[i]? = some b) : w.cell? ⟨O, i, none⟩ = some (.int .u8 (b.toNat : Int)) := by
  rw [Lib.cell_of_heap h]
  unfold bcells
  rw [List.getElem?_toArray]
  exact bc_get hi
theorem Box.free {O : Nat} {w : World} {l : List UInt8} (h : Box O w l) (i : Nat) : w.frozen? ⟨O, i, none⟩ = false := Lib.frozen_of_heap h i
theorem key64_length (k : List UInt8) : (key64 k).length = 64 := by
  unfold key64
  simp only [List.length_append, List.length_replicate]
  split
  · rw [sha_length]
  · omega
theorem zeros_drop (n : Nat) : (List.replicate 64 (0 : UInt8)).drop n = List.replicate (64 - n) 0 := List.drop_replicate ..
theorem key_short {k : List UInt8} (h : ¬ 64 < k.length) : k ++ (List.replicate 64 (0 : UInt8)).drop k.length = key64 k := by
  unfold key64
  rw [if_neg h, zeros_drop]
theorem key_long {k : List UInt8} (h : 64 < k.length) : sha k ++ (List.replicate 64 (0 : UInt8)).drop (sha k).length = key64 k := by
  unfold key64
  rw [if_pos h, zeros_drop]
/-- the first j bytes turned -/
def turned (K : List UInt8) (x : UInt8) (j : Nat) : List UInt8 := (K.take j).map (· ^^^ x) ++ K.drop j
theorem turned_get {K : List UInt8} (x : UInt8) {j : Nat} {b : UInt8} (h : K[j]? = some b) : (turned K x j)[j]? = some b := by
  have hl := (List.getElem?_eq_some_iff.1 h).1
  unfold turned
  rw [List.getElem?_append_right (by rw [List.length_map, List.length_take]; omega), List.length_map, List.length_take, Nat.min_eq_left (by omega), Nat.sub_self, List.getElem?_drop, Nat.add_zero, h]
theorem turned_set {K : List UInt8} (x : UInt8) {j : Nat} {b : UInt8} (h : K[j]? = some b) : (turned K x j).set j (b ^^^ x) = turned K x (j + 1) := by
  have hl := (List.getElem?_eq_some_iff.1 h).1
  have e : K.drop j = b :: K.drop (j + 1) := by
    rw [List.drop_eq_getElem_cons hl]
    congr 1
    exact (List.getElem?_eq_some_iff.1 h).2
  unfold turned
  rw [List.set_append_right _ _ (by rw [List.length_map, List.length_take]; omega), List.length_map, List.length_take, Nat.min_eq_left (by omega), Nat.sub_self, e, List.take_add_one, h]
  simp
theorem turned_all {K : List UInt8} (x : UInt8) (h : K.length = 64) : turned K x 64 = K.map (· ^^^ x) := by
  unfold turned
  rw [List.take_of_length_le (by omega), List.drop_of_length_le (by omega), List.append_nil]

set_option maxHeartbeats 2000000 in
set_option maxRecDepth 100000 in
theorem padded (k : List UInt8) (x : UInt8) {a : Option Addr} (c : Nat) (w : World) (hb : Bs w a k c) (hl : k.length ≤ 140737488350000) :
    Calls Tryz.prog 206 #[.slice a k.length c, .int .u8 (x.toNat : Int)] w fun e w' => ∃ O, e = .returned (.slice (some ⟨O, 0, none⟩) 64 64) ∧ w.heap.size ≤ O ∧ Bs w' (some ⟨O, 0, none⟩) ((key64 k).map (· ^^^ x)) 64 ∧ Below w.heap.size w w' := by
  have HB := Lib.hid hb; clear hb
  go_enter Tryz.func206, Tryz.ntmps206
  by_cases hk : 64 < k.length
  · have hk' : (64 : Int) < (k.length : Int) := by omega
    have HK := Lib.hid (key_long hk)
    have hsl := sha_length k
    go_wp2_with (first
      | (go_at_call 70; refine (shaSum k c _ (HB.out.below ((Below.refl _ _).alloc (Nat.le_refl _) _)) hl).mono ?_; rintro e w2 ⟨rfl, hb2⟩; have hB2 := ((Below.refl w.heap.size w).alloc (Nat.le_refl _) _).trans (hb2.mono (by simp)); have h0 := (hb2.block w.heap.size (by simp)).trans (heap_alloc_new _ _); have hz2 : w.heap.size < w2.heap.size := by (have := hb2.size; simp at this; omega))
      | (guard_target =~ wpList _ _ _ ({ dst := _, op := Op.store 128 _ _, type := _, pos := _, after := _, guard := none } :: _) _ _; refine store32 rfl _ _ rfl (sha k) hsl rfl rfl rfl ?_; intro w3 z3 h3 hb3)
      | (guard_target =~ wpList _ _ _ ({ dst := _, op := Op.call { callee := Callee.builtin Builtin.copy, args := _, argTypes := _ }, type := _, pos := _, after := _, guard := none } :: _) _ _; refine copy_bs _ rfl (.tmp 14) (.tmp 15) rfl w.heap.size (List.replicate 64 0) 270 ((hb3.block _ hz2).trans h0) 64 64 (some ⟨w2.heap.size, 0, none⟩) (sha k) 32 (bs_box h3 32 (Nat.le_of_eq hsl)) (by omega) (by simp) rfl rfl ?_; intro w1 h1 hb1; rw [HK.out] at h1; have hB1 := hb1 w.heap.size w (Nat.le_refl _) (hB2.trans (hb3.mono (Nat.le_of_lt hz2)))))
    clear hb1 h3 hb3 h0 hB2
    go_loopg [17] 64 (fun g v wr => ∃ j : Nat, j + g = 64 ∧ v = .int .i64 j ∧ Hid (Box w.heap.size wr (turned (key64 k) x j)) ∧ Hid (Below w.heap.size w wr))
    case atStart => exact ⟨0, by omega, rfl, h1, hB1⟩
    case round =>
      clear h1 hB1
      obtain ⟨j, hjg, rfl, HO, HU⟩ := hrel
      have HG := Lib.hid hjg
      by_cases hlt : j < 64
      · obtain ⟨b, hbj⟩ : ∃ b, (key64 k)[j]? = some b := ⟨_, List.getElem?_eq_getElem (by rw [key64_length]; exact hlt)⟩
        have cj := HO.out.cell (turned_get x hbj)
        have fj := HO.out.free j
        have HP := Lib.hid (show Box w.heap.size (wr.setCell ⟨w.heap.size, j, none⟩ (.int .u8 ((b ^^^ x).toNat : Int))) (turned (key64 k) x (j + 1)) by
          have := HO.out.put j (b ^^^ x)
          rwa [turned_set x hbj] at this)
        have HU2 := Lib.hid (HU.out.setCell (p := ⟨w.heap.size, j, none⟩) (Nat.le_refl _) (.int .u8 ((b ^^^ x).toNat : Int)))
        have HX := Lib.hid (xor8 b x)
        have y0 : (0 : Int) ≤ (j : Int) := by omega
        have y1 : (j : Int) < 64 := by omega
        clear hjg
        go_wp2_with fail
        rw [HX.out]
        go_roundg (64 - (j + 1))
        case measure => have := HG.out; omega
        case rel => exact ⟨j + 1, by have := HG.out; omega, by go_num, HP, HU2⟩
      · obtain rfl : j = 64 := by omega
        go_wp2_with fail
        go_ret
        refine ⟨w.heap.size, rfl, Nat.le_refl _, ?_, HU.out⟩
        rw [← turned_all x (key64_length k)]
        exact bs_box HO.out 64 (by rw [turned_all x (key64_length k), List.length_map, key64_length]; exact Nat.le_refl _)
  · have hk' : (k.length : Int) ≤ 64 := by omega
    have HK := Lib.hid (key_short hk)
    go_wp2_with (guard_target =~ wpList _ _ _ ({ dst := _, op := Op.call { callee := Callee.builtin Builtin.copy, args := _, argTypes := _ }, type := _, pos := _, after := _, guard := none } :: _) _ _; refine copy_bs _ rfl (.tmp 14) (.tmp 15) rfl w.heap.size (List.replicate 64 0) 270 (heap_alloc_new _ _) 64 64 a k c (HB.out.below ((Below.refl _ _).alloc (Nat.le_refl _) _)) (by omega) (by simp) rfl rfl ?_; intro w1 h1 hb1; rw [HK.out] at h1; have hB1 := hb1 w.heap.size w (Nat.le_refl _) ((Below.refl _ _).alloc (Nat.le_refl _) _))
    clear hb1
    go_loopg [17] 64 (fun g v wr => ∃ j : Nat, j + g = 64 ∧ v = .int .i64 j ∧ Hid (Box w.heap.size wr (turned (key64 k) x j)) ∧ Hid (Below w.heap.size w wr))
    case atStart => exact ⟨0, by omega, rfl, h1, hB1⟩
    case round =>
      clear h1 hB1
      obtain ⟨j, hjg, rfl, HO, HU⟩ := hrel
      have HG := Lib.hid hjg
      by_cases hlt : j < 64
      · obtain ⟨b, hbj⟩ : ∃ b, (key64 k)[j]? = some b := ⟨_, List.getElem?_eq_getElem (by rw [key64_length]; exact hlt)⟩
        have cj := HO.out.cell (turned_get x hbj)
        have fj := HO.out.free j
        have HP := Lib.hid (show Box w.heap.size (wr.setCell ⟨w.heap.size, j, none⟩ (.int .u8 ((b ^^^ x).toNat : Int))) (turned (key64 k) x (j + 1)) by
          have := HO.out.put j (b ^^^ x)
          rwa [turned_set x hbj] at this)
        have HU2 := Lib.hid (HU.out.setCell (p := ⟨w.heap.size, j, none⟩) (Nat.le_refl _) (.int .u8 ((b ^^^ x).toNat : Int)))
        have HX := Lib.hid (xor8 b x)
        have y0 : (0 : Int) ≤ (j : Int) := by omega
        have y1 : (j : Int) < 64 := by omega
        clear hjg
        go_wp2_with fail
        rw [HX.out]
        go_roundg (64 - (j + 1))
        case measure => have := HG.out; omega
        case rel => exact ⟨j + 1, by have := HG.out; omega, by go_num, HP, HU2⟩
      · obtain rfl : j = 64 := by omega
        go_wp2_with fail
        go_ret
        refine ⟨w.heap.size, rfl, Nat.le_refl _, ?_, HU.out⟩
        rw [← turned_all x (key64_length k)]
        exact bs_box HO.out 64 (by rw [turned_all x (key64_length k), List.length_map, key64_length]; exact Nat.le_refl _)
end Go.Proofs.YtidflagmdabfaaaGreatDoor.ShaH
namespace Go.Proofs.YtidflagmdabfaaaGreatDoor.ShaI
open Go.RowKit Go.Proofs.YtidflagmdabfaaaGreatDoor Go.Proofs.YtidflagmdabfaaaGreatDoor.Sha Go.Proofs.YtidflagmdabfaaaGreatDoor.ShaA Go.Proofs.YtidflagmdabfaaaGreatDoor.ShaB Go.Proofs.YtidflagmdabfaaaGreatDoor.ShaC Go.Proofs.YtidflagmdabfaaaGreatDoor.HtW Go.Proofs.YtidflagmdabfaaaGreatDoor.Lf Go.Proofs.YtidflagmdabfaaaGreatDoor.ShaE Go.Proofs.YtidflagmdabfaaaGreatDoor.App Go.Proofs.YtidflagmdabfaaaGreatDoor.ShaF Go.Proofs.YtidflagmdabfaaaGreatDoor.ShaG Go.Proofs.YtidflagmdabfaaaGreatDoor.ShaH

def block (k : List UInt8) (x : UInt8) : List UInt8 := (key64 k).map (· ^^^ x)
theorem block_length (k : List UInt8) (x : UInt8) : (block k x).length = 64 := by
  unfold block
  rw [List.length_map, key64_length]
theorem mac_eq (k m : List UInt8) : mac k m = sha (block k 92 ++ sha (block k 54 ++ m)) := rfl
set_option maxHeartbeats 1000000 in
set_option maxRecDepth 100000 in
theorem keyed (k : List UInt8) (x : UInt8) {a : Option Addr} (c : Nat) (w : World) (hb : Bs w a k c) (hl : k.length ≤ 140737488350000) :
    Calls Tryz.prog 169 #[.slice a k.length c, .int .u8 (x.toNat : Int)] w fun e w' => ∃ p, e = .returned (.pointer (some ⟨p, 0, none⟩)) ∧ w.heap.size ≤ p ∧ Below w.heap.size w w' ∧ HashAt p w'.heap.size w' (block k x) := by
  have HB := Lib.hid hb; clear hb
  have h64 := block_length k x
  go_enter Tryz.func169, Tryz.ntmps169
  go_wp2_with fail
  refine (new w).mono ?_
  rintro e w1 ⟨p, rfl, hp, hb1, hA1⟩
  go_wp2_with fail
  refine (padded k x c w1 (HB.out.below hb1) hl).mono ?_
  rintro e w2 ⟨O, rfl, hO, hB2, hb2⟩
  change Bs w2 _ (block k x) 64 at hB2
  have hz1 := hb1.size
  have hz2 := hb2.size
  have hpl := hA1.lt
  go_wp2_with fail
  have hA2 := hA1.below hb2
  have hW := write p w1.heap.size [] (block k x) 64 w2 hA2 hB2 (fun _ q hq hh => by cases hq; simp only at hh; omega) (by rw [h64]; decide)
  rw [h64, List.nil_append] at hW
  refine hW.mono ?_
  rintro e w3 ⟨rfl, hO3, hA3⟩
  go_wp2_with fail
  go_ret
  exact ⟨p, rfl, hp, (hb1.trans (hb2.mono hz1)).trans (hO3.below hp (by omega)), hA3⟩

set_option maxHeartbeats 1000000 in
set_option maxRecDepth 100000 in
theorem macSum (k m : List UInt8) {a am : Option Addr} (c cm : Nat) (w : World) (hb : Bs w a k c) (hm : Bs w am m cm) (hl : k.length ≤ 140737488350000) (hlm : m.length ≤ 140737488340000) :
    Calls Tryz.prog 128 #[.slice a k.length c, .slice am m.length cm] w fun e w' => e = .returned (.agg (bcells (mac k m))) ∧ Below w.heap.size w w' := by
  have HB := Lib.hid hb; clear hb
  have HM := Lib.hid hm; clear hm
  have h54 := block_length k 54
  have h92 := block_length k 92
  go_enter Tryz.func128, Tryz.ntmps128
  go_wp2_with fail
  obtain ⟨w0, hw0, hb0, hz0, hR0⟩ : ∃ w0 : World, w0 = w.alloc (.cells #[.int .u8 0, .int .u8 0, .int .u8 0, .int .u8 0, .int .u8 0, .int .u8 0, .int .u8 0, .int .u8 0, .int .u8 0, .int .u8 0, .int .u8 0, .int .u8 0, .int .u8 0, .int .u8 0, .int .u8 0, .int .u8 0, .int .u8 0, .int .u8 0, .int .u8 0, .int .u8 0, .int .u8 0, .int .u8 0, .int .u8 0, .int .u8 0, .int .u8 0, .int .u8 0, .int .u8 0, .int .u8 0, .int .u8 0, .int .u8 0, .int .u8 0, .int .u8 0] 128) ∧ Below w.heap.size w w0 ∧ w0.heap.size = w.heap.size + 1 ∧ w0.heap[w.heap.size]? = some (.cells (bcells (List.replicate 32 0)) 128 (0, 0)) := ⟨_, rfl, (Below.refl _ _).alloc (Nat.le_refl _) _, World.size_alloc _ _, heap_alloc_new _ _⟩
  rw [← hw0]
  clear hw0
  refine (keyed k 54 c w0 (HB.out.below hb0) hl).mono ?_
  rintro e w1 ⟨p, rfl, hp, hb1, hA1⟩
  have hz1 := hb1.size
  have hp1 := hA1.lt
  have hB1 : Below w.heap.size w w1 := hb0.trans (hb1.mono (by omega))
  go_wp2_with fail
  refine (keyed k 92 c w1 (HB.out.below hB1) hl).mono ?_
  rintro e w2 ⟨q, rfl, hq, hb2, hA2⟩
  have hz2 := hb2.size
  have hq1 := hA2.lt
  have hB2 : Below w.heap.size w w2 := hB1.trans (hb2.mono (by omega))
  have hA12 := hA1.below hb2
  go_wp2_with fail
  have hM2 := HM.out.below hB2
  refine (write p w1.heap.size (block k 54) m cm w2 hA12 hM2 (bs_lt HM.out (by omega)) (by rw [h54]; omega)).mono ?_
  rintro e w3 ⟨rfl, hO3, hA3⟩
  have hz3 := hO3.size
  have hA23 := hA2.stay hO3.size fun j hj1 hj2 => hO3.block j hj2 (by omega)
  have hB3 : Below w.heap.size w w3 := hB2.trans (hO3.below (by omega) (by omega))
  have hR3 : w3.heap[w.heap.size]? = some (.cells (bcells (List.replicate 32 0)) 128 (0, 0)) := (hO3.block _ (by omega) (by omega)).trans ((hb2.block _ (by omega)).trans ((hb1.block _ (by omega)).trans hR0))
  go_wp2_with fail
  refine (sum p w3.heap.size (block k 54 ++ m) w3 hA3 (by rw [List.length_append, h54]; omega)).mono ?_
  rintro e w4 ⟨rfl, hb4⟩
  have hz4 := hb4.size
  obtain ⟨S, hS⟩ : ∃ S, S = sha (block k 54 ++ m) := ⟨_, rfl⟩
  have HS := Lib.hid hS
  have hsl : S.length = 32 := by rw [hS, sha_length]
  rw [← hS]
  clear hS
  go_wp2_with (guard_target =~ wpList _ _ _ ({ dst := _, op := Op.store 128 _ _, type := _, pos := _, after := _, guard := none } :: _) _ _; refine store32 rfl _ _ rfl S hsl rfl rfl rfl ?_; intro w5 z5 h5 hb5)
  have hA24 := (hA23.below hb4).below hb5
  have hB5 := bs_box h5 32 (Nat.le_of_eq hsl)
  have hW := write q w2.heap.size (block k 92) S 32 w5 hA24 hB5 (fun _ r hr hh => by cases hr; simp only at hh; omega) (by rw [h92, hsl]; decide)
  rw [hsl] at hW
  refine hW.mono ?_
  rintro e w6 ⟨rfl, hO6, hA6⟩
  have hz6 := hO6.size
  go_wp2_with fail
  refine (sum q w6.heap.size (block k 92 ++ S) w6 hA6 (by rw [List.length_append, h92, hsl]; decide)).mono ?_
  rintro e w7 ⟨rfl, hb7⟩
  have HV := Lib.hid (show bcells (sha (block k 92 ++ S)) = bcells (mac k m) by rw [HS.out, mac_eq])
  have hbA : Below w.heap.size w w7 := (((hB3.trans (hb4.mono (by omega))).trans (hb5.mono (by omega))).trans (hO6.below (by omega) (by omega))).trans (hb7.mono (by omega))
  have hR7 : w7.heap[w.heap.size]? = some (.cells (bcells (List.replicate 32 0)) 128 (0, 0)) := (hb7.block _ (by omega)).trans ((hO6.block _ (by omega) (by omega)).trans ((hb5.block _ (by omega)).trans ((hb4.block _ (by omega)).trans hR3)))
  have hu32 : Tryz.prog.underlying 128 = some (.array 32 5) := by kernel_rfl
  have hi32 : (Tryz.prog.info? 128).map (·.size) = some 32 := by kernel_rfl
  have hs32 : (bcells (sha (block k 92 ++ S))).size = 32 := by rw [bcells_size, sha_length]
  have ho32 := bcells_one (sha (block k 92 ++ S))
  have hz32 : (bcells (List.replicate 32 0)).size = 32 := by rw [bcells_size, List.length_replicate]
  clear hR0 hR3
  generalize bcells (List.replicate 32 0) = Z at *
  generalize bcells (sha (block k 92 ++ S)) = V at *
  have hi33 : (Tryz.prog.info? 128).map (·.size) = some V.size := hi32.trans (congrArg some hs32.symm)
  go_wp2_with (guard_target =~ wpList _ _ _ ({ dst := _, op := Op.store 128 _ _, type := _, pos := _, after := _, guard := none } :: _) _ _; refine wpList_store_row rfl 128 _ _ rfl _ V rfl rfl _ _ hR7 hi33 (hz32.trans hs32.symm) ho32 ?_)
  refine bodyPost_ret (results_cell_row rfl _ _ w.heap.size 128 _ _ _ rfl (heap_setRow _ hR7) hu32 rfl hi33) rfl ⟨by rw [HV.out], ?_⟩
  exact below_row hbA (Nat.le_refl _) _
end Go.Proofs.YtidflagmdabfaaaGreatDoor.ShaI
namespace Go.Proofs.YtidflagmdabfaaaGreatDoor.Xp

/-- how a byte is written; the empty list: as it is -/
def ent (c : UInt8) : List UInt8 :=
  if c = 38 then [38, 97, 109, 112, 59] else if c = 60 then [38, 108, 116, 59] else if c = 62 then [38, 103, 116, 59] else
  if c = 34 then [38, 113, 117, 111, 116, 59] else if c = 39 then [38, 97, 112, 111, 115, 59] else []
def escB (c : UInt8) : List UInt8 := if ent c = [] then [c] else ent c
def esc (l : List UInt8) : List UInt8 := l.flatMap escB
def cand : List UInt8 := [38, 60, 62, 34, 39]
/-- one byte read back -/
def un1 (s : List UInt8) : Option (UInt8 × List UInt8) := match s with
  | [] => none
  | c :: t => if c ≠ 38 then (if ent c ≠ [] then none else some (c, t)) else
      cand.findSome? fun d => if (ent d).isPrefixOf (c :: t) then some (d, (c :: t).drop (ent d).length) else none
def unF : Nat → List UInt8 → List UInt8 → Option (List UInt8)
  | _, [], acc => some acc
  | 0, _ :: _, _ => none
  | n + 1, c :: t, acc => match un1 (c :: t) with
    | none => none
    | some (d, r) => unF n r (acc ++ [d])
def unesc (s : List UInt8) : Option (List UInt8) := unF s.length s []

theorem ent_cases (d : UInt8) : (d = 38 ∧ ent d = [38, 97, 109, 112, 59]) ∨ (d = 60 ∧ ent d = [38, 108, 116, 59]) ∨ (d = 62 ∧ ent d = [38, 103, 116, 59]) ∨
    (d = 34 ∧ ent d = [38, 113, 117, 111, 116, 59]) ∨ (d = 39 ∧ ent d = [38, 97, 112, 111, 115, 59]) ∨ (d ≠ 38 ∧ d ≠ 60 ∧ d ≠ 62 ∧ d ≠ 34 ∧ d ≠ 39 ∧ ent d = []) := by
  by_cases h1 : d = 38
  · subst h1; exact .inl ⟨rfl, rfl⟩
  by_cases h2 : d = 60
  · subst h2; exact .inr (.inl ⟨rfl, rfl⟩)
  by_cases h3 : d = 62
  · subst h3; exact .inr (.inr (.inl ⟨rfl, rfl⟩))
  by_cases h4 : d = 34
  · subst h4; exact .inr (.inr (.inr (.inl ⟨rfl, rfl⟩)))
  by_cases h5 : d = 39
  · subst h5; exact .inr (.inr (.inr (.inr (.inl ⟨rfl, rfl⟩))))
  · exact .inr (.inr (.inr (.inr (.inr ⟨h1, h2, h3, h4, h5, by simp [ent, h1, h2, h3, h4, h5]⟩))))

theorem escB_plain {d : UInt8} (h : ent d = []) : escB d = [d] := by simp [escB, h]
theorem escB_ent {d : UInt8} (h : ent d ≠ []) : escB d = ent d := by simp [escB, h]
theorem escB_len (d : UInt8) : 1 ≤ (escB d).length ∧ (escB d).length ≤ 6 := by
  rcases ent_cases d with ⟨rfl, e⟩ | ⟨rfl, e⟩ | ⟨rfl, e⟩ | ⟨rfl, e⟩ | ⟨rfl, e⟩ | ⟨_, _, _, _, _, e⟩ <;> simp [escB, e]
theorem esc_nil : esc [] = [] := rfl
theorem esc_append (a b : List UInt8) : esc (a ++ b) = esc a ++ esc b := by simp [esc]
theorem esc_snoc (a : List UInt8) (c : UInt8) : esc (a ++ [c]) = esc a ++ escB c := by simp [esc]
theorem esc_cons (c : UInt8) (a : List UInt8) : esc (c :: a) = escB c ++ esc a := by simp [esc]
theorem esc_len (l : List UInt8) : (esc l).length ≤ 6 * l.length := by
  induction l with
  | nil => simp [esc]
  | cons c t ih => have := (escB_len c).2; rw [esc_cons]; simp; omega

theorem un1_hit {s : List UInt8} {d : UInt8} (h : (escB d).isPrefixOf s = true) : un1 s = some (d, s.drop (escB d).length) := by
  rw [List.isPrefixOf_iff_prefix] at h
  obtain ⟨r, rfl⟩ := h
  rcases ent_cases d with ⟨rfl, e⟩ | ⟨rfl, e⟩ | ⟨rfl, e⟩ | ⟨rfl, e⟩ | ⟨rfl, e⟩ | ⟨h1, _, _, _, _, e⟩
  · rfl
  · rfl
  · rfl
  · rfl
  · rfl
  · simp [escB_plain e, un1, h1, e]
theorem un1_miss {s : List UInt8} (h : ∀ d, (escB d).isPrefixOf s = false) : un1 s = none := by
  match s with
  | [] => rfl
  | c :: t =>
    by_cases h38 : c = 38
    · subst h38
      have e1 := h 38; have e2 := h 60; have e3 := h 62; have e4 := h 34; have e5 := h 39
      rw [escB_ent (by decide)] at e1 e2 e3 e4 e5
      simp only [un1, ne_eq, not_true_eq_false, if_false, cand, List.findSome?, e1, e2, e3, e4, e5]
      rfl
    · by_cases he : ent c = []
      · have := h c
        rw [escB_plain he] at this
        simp at this
      · simp [un1, h38, he]
theorem un1_lt {s : List UInt8} {d : UInt8} {r : List UInt8} (h : un1 s = some (d, r)) : r.length < s.length := by
  by_cases hx : ∃ x, (escB x).isPrefixOf s = true
  · obtain ⟨x, hx⟩ := hx
    rw [un1_hit hx] at h
    injection h with h
    injection h with _ h
    subst h
    have := (escB_len x).1
    rw [List.isPrefixOf_iff_prefix] at hx
    have := hx.length_le
    simp; omega
  · rw [un1_miss (fun d => Bool.eq_false_iff.2 fun h => hx ⟨d, h⟩)] at h
    cases h

theorem unF_step {n : Nat} {s acc : List UInt8} {d : UInt8} {r : List UInt8} (h : un1 s = some (d, r)) : unF (n + 1) s acc = unF n r (acc ++ [d]) := by
  cases s with
  | nil => cases h
  | cons c t => simp [unF, h]
theorem unF_stop {n : Nat} {s acc : List UInt8} (hs : s ≠ []) (h : un1 s = none) : unF n s acc = none := by
  cases s with
  | nil => exact absurd rfl hs
  | cons c t => cases n <;> simp [unF, h]
theorem unF_nil (n : Nat) (acc : List UInt8) : unF n [] acc = some acc := by cases n <;> rfl

theorem unF_esc (l : List UInt8) : ∀ (n : Nat) (acc : List UInt8), l.length ≤ n → unF n (esc l) acc = some (acc ++ l) := by
  induction l with
  | nil => intro n acc _; simp [esc, unF_nil]
  | cons c t ih =>
    intro n acc hn
    obtain ⟨m, rfl⟩ : ∃ m, n = m + 1 := ⟨n - 1, by simp at hn; omega⟩
    rw [esc_cons, unF_step (un1_hit (by rw [List.isPrefixOf_iff_prefix]; exact ⟨_, rfl⟩)), List.drop_left, ih m _ (by simp at hn; omega)]
    simp
theorem esc_len_ge (l : List UInt8) : l.length ≤ (esc l).length := by
  induction l with
  | nil => simp
  | cons c t ih => have := (escB_len c).1; rw [esc_cons]; simp; omega
theorem unesc_esc (l : List UInt8) : unesc (esc l) = some l := by
  simpa [unesc] using unF_esc l (esc l).length [] (esc_len_ge l)
theorem unF_len : ∀ (n : Nat) (s acc x : List UInt8), unF n s acc = some x → x.length ≤ acc.length + s.length := by
  intro n
  induction n with
  | zero => intro s acc x h; cases s <;> simp [unF] at h; subst h; simp
  | succ n ih =>
    intro s acc x h
    cases s with
    | nil => simp [unF] at h; subst h; simp
    | cons c t =>
      cases hu : un1 (c :: t) with
      | none => simp [unF, hu] at h
      | some p =>
        obtain ⟨d, r⟩ := p
        rw [unF_step hu] at h
        have := ih _ _ _ h
        have := un1_lt hu
        simp at *; omega

/-- no byte of an escaped text is one of < > and the two quotes -/
theorem esc_clean (l : List UInt8) : ∀ c ∈ esc l, c ≠ 60 ∧ c ≠ 62 ∧ c ≠ 34 ∧ c ≠ 39 := by
  intro c hc
  simp only [esc, List.mem_flatMap] at hc
  obtain ⟨d, _, hd⟩ := hc
  rcases ent_cases d with ⟨rfl, e⟩ | ⟨rfl, e⟩ | ⟨rfl, e⟩ | ⟨rfl, e⟩ | ⟨rfl, e⟩ | ⟨h1, h2, h3, h4, h5, e⟩
  all_goals (simp [escB, e] at hd)
  all_goals first | (rcases hd with rfl | rfl | rfl | rfl | rfl | rfl <;> decide) | (rcases hd with rfl | rfl | rfl | rfl | rfl <;> decide) | (rcases hd with rfl | rfl | rfl | rfl <;> decide) | (subst hd; exact ⟨h2, h3, h4, h5⟩)

/-- an element -/
def tag (name s : List UInt8) : List UInt8 := [60] ++ name ++ [62] ++ s ++ [60, 47] ++ name ++ [62]
theorem un1_38 {t : List UInt8} (h : ∀ j, j < 5 → (ent (cand.getD j 0)).isPrefixOf (38 :: t) = false) : un1 (38 :: t) = none := by
  have e1 := h 0 (by omega); have e2 := h 1 (by omega); have e3 := h 2 (by omega); have e4 := h 3 (by omega); have e5 := h 4 (by omega)
  simp only [cand, List.getD_cons_zero, List.getD_cons_succ] at e1 e2 e3 e4 e5
  simp only [un1, ne_eq, not_true_eq_false, if_false, cand, List.findSome?, e1, e2, e3, e4, e5]
  rfl
theorem cand_ent {j : Nat} (h : j < 5) : ent (cand.getD j 0) ≠ [] := by
  match j, h with
  | 0, _ => decide
  | 1, _ => decide
  | 2, _ => decide
  | 3, _ => decide
  | 4, _ => decide
theorem esc_one (d : UInt8) : esc [d] = escB d := by simp [esc]
theorem prefix_at {s e : List UInt8} {a : Nat} (h : e.isPrefixOf (s.drop a) = true) (ha : a ≤ s.length) : a + e.length ≤ s.length ∧ (s.take (a + e.length)).drop a = e := by
  rw [List.isPrefixOf_iff_prefix] at h
  have hl := h.length_le
  rw [List.length_drop] at hl
  refine ⟨by omega, ?_⟩
  rw [List.drop_take, Nat.add_sub_cancel_left]
  exact (List.prefix_iff_eq_take.1 h).symm
theorem prefix_of {s e : List UInt8} {a : Nat} (h : (s.take (a + e.length)).drop a = e) : e.isPrefixOf (s.drop a) = true := by
  rw [List.isPrefixOf_iff_prefix, List.prefix_iff_eq_take]
  rw [List.drop_take, Nat.add_sub_cancel_left] at h
  exact h.symm
def top : List UInt8 := [60, 63, 120, 109, 108, 32, 118, 101, 114, 115, 105, 111, 110, 61, 34, 49, 46, 48, 34, 63, 62, 10]
def docError (code : List UInt8) : List UInt8 := top ++ tag [69, 114, 114, 111, 114] (tag [67, 111, 100, 101] (esc code))
theorem tag_len (name s : List UInt8) : (tag name s).length = 2 * name.length + s.length + 5 := by simp [tag]; omega
theorem docError_alive : docError [97, 60, 98] = [60, 63, 120, 109, 108, 32, 118, 101, 114, 115, 105, 111, 110, 61, 34, 49, 46, 48, 34, 63, 62, 10, 60, 69, 114, 114, 111, 114, 62, 60, 67, 111, 100, 101, 62, 97, 38, 108, 116, 59, 98, 60, 47, 67, 111, 100, 101, 62, 60, 47, 69, 114, 114, 111, 114, 62] := rfl
/-- an entry of a page -/
structure Ent where
  name : List UInt8
  pre : Bool
  size : Int
  etag : List UInt8
  time : Int
def tName : List UInt8 := [78, 97, 109, 101]
def tPrefix : List UInt8 := [80, 114, 101, 102, 105, 120]
def tKey : List UInt8 := [75, 101, 121]
def tSize : List UInt8 := [83, 105, 122, 101]
def tEtag : List UInt8 := [69, 116, 97, 103]
def tTime : List UInt8 := [84, 105, 109, 101]
def tNext : List UInt8 := [78, 101, 120, 116]
def tList : List UInt8 := [76, 105, 115, 116]
def tBucket : List UInt8 := [66, 117, 99, 107, 101, 116]
def entKey (num : Int → List UInt8) (e : Ent) : List UInt8 := tag tName (esc e.name) ++ (tag tSize (num e.size) ++ (tag tEtag (esc e.etag) ++ tag tTime (num e.time)))
def entDoc (num : Int → List UInt8) (e : Ent) : List UInt8 := if e.pre then tag tPrefix (tag tName (esc e.name)) else tag tKey (entKey num e)
def listBody (num : Int → List UInt8) (bucket : List UInt8) (es : List Ent) (next : List UInt8) : List UInt8 :=
  tag tBucket (esc bucket) ++ ((es.map (entDoc num)).flatten ++ (if next = [] then [] else tag tNext (esc next)))
def docList (num : Int → List UInt8) (bucket : List UInt8) (es : List Ent) (next : List UInt8) : List UInt8 := top ++ tag tList (listBody num bucket es next)
end Go.Proofs.YtidflagmdabfaaaGreatDoor.Xp
namespace Go.Proofs.YtidflagmdabfaaaGreatDoor.Dec

theorem dec_len : ∀ (k u : Nat), u < 10 ^ (k + 1) → (Lib.decDigits u).length ≤ k + 1
  | 0, u, h => by
    rw [Lib.decDigits, dif_pos (by simpa using h)]
    simp
  | k + 1, u, h => by
    rw [Lib.decDigits]
    split
    · simp
    · have h2 : u / 10 < 10 ^ (k + 1) := by rw [Nat.pow_succ] at h; omega
      have := dec_len k (u / 10) h2
      simp; omega
theorem dec_pos (u : Nat) : 1 ≤ (Lib.decDigits u).length := by
  rw [Lib.decDigits]; split <;> simp
theorem dec_digit : ∀ (n u : Nat), u ≤ n → ∀ c ∈ Lib.decDigits u, 48 ≤ c.toNat ∧ c.toNat ≤ 57
  | n, u, hn, c, hc => by
    rw [Lib.decDigits] at hc
    split at hc
    · rename_i h
      rw [List.mem_singleton] at hc
      subst hc
      have : (UInt8.ofNat (48 + u)).toNat = 48 + u := by rw [UInt8.toNat_ofNat']; omega
      omega
    · rename_i h
      rw [List.mem_append] at hc
      rcases hc with hc | hc
      · cases n with
        | zero => omega
        | succ n => exact dec_digit n (u / 10) (by omega) c hc
      · rw [List.mem_singleton] at hc
        subst hc
        have : (UInt8.ofNat (48 + u % 10)).toNat = 48 + u % 10 := by rw [UInt8.toNat_ofNat']; omega
        omega
theorem itoa_len {n : Int} (h0 : -9223372036854775808 ≤ n) (h1 : n ≤ 9223372036854775807) : (Lib.itoa n).length ≤ 21 := by
  unfold Lib.itoa
  split
  · have := dec_len 19 n.natAbs (by have : n.natAbs ≤ 9223372036854775808 := by omega
                                    have : (9223372036854775808 : Nat) < 10 ^ 20 := by decide
                                    omega)
    simp; omega
  · have := dec_len 19 n.toNat (by have : n.toNat ≤ 9223372036854775807 := by omega
                                   have : (9223372036854775807 : Nat) < 10 ^ 20 := by decide
                                   omega)
    omega
theorem itoa_byte {n : Int} : ∀ c ∈ Lib.itoa n, c.toNat = 45 ∨ 48 ≤ c.toNat ∧ c.toNat ≤ 57 := by
  intro c hc
  unfold Lib.itoa at hc
  split at hc
  · rcases List.mem_cons.1 hc with rfl | hc
    · exact .inl rfl
    · exact .inr (dec_digit _ _ (Nat.le_refl _) c hc)
  · exact .inr (dec_digit _ _ (Nat.le_refl _) c hc)
theorem esc_plain {l : List UInt8} (h : ∀ c ∈ l, c.toNat = 45 ∨ 48 ≤ c.toNat ∧ c.toNat ≤ 57) : Xp.esc l = l := by
  induction l with
  | nil => rfl
  | cons c t ih =>
    rw [Xp.esc_cons, ih fun d hd => h d (List.mem_cons_of_mem _ hd)]
    have hc := h c List.mem_cons_self
    rcases Xp.ent_cases c with ⟨rfl, e⟩ | ⟨rfl, e⟩ | ⟨rfl, e⟩ | ⟨rfl, e⟩ | ⟨rfl, e⟩ | ⟨_, _, _, _, _, e⟩
    · exact absurd hc (by decide)
    · exact absurd hc (by decide)
    · exact absurd hc (by decide)
    · exact absurd hc (by decide)
    · exact absurd hc (by decide)
    · rw [Xp.escB_plain e]; rfl
theorem esc_itoa (n : Int) : Xp.esc (Lib.itoa n) = Lib.itoa n := esc_plain itoa_byte
end Go.Proofs.YtidflagmdabfaaaGreatDoor.Dec
