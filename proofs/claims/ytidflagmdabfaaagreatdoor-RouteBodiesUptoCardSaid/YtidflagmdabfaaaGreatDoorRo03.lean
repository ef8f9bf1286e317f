/-
  The walks of package command's all, GoodBucket, GoodKey. A request that is being taken apart, in memory; the walks of asking's command and get. (Printed by mkask.py.) The walks of asking's get and makeBucket; a bucket's routes. (Printed by mkaskb.py.) The walk of asking's place at a bucket's path. (Printed by mkaskc.py.)
-/
import Derived.Test.YtidflagmdabfaaaGreatDoorSg01
import Derived.Test.YtidflagmdabfaaaGreatDoorSg09
import Derived.Test.YtidflagmdabfaaaGreatDoorSg11
import Derived.Test.YtidflagmdabfaaaGreatDoorSg16
import Derived.Test.YtidflagmdabfaaaGreatDoorRo02
import Derived.WalkKit
import Derived.Below
import Derived.BigQuiet
import Derived.Deep.RegionHeld3
import Derived.IntWalk
import Derived.Deep.LoopGhost
import Derived.Lib.Hide
import Derived.Maps.OwnSet
import Derived.Maps.Views
import Derived.StringKeys
namespace Go.Proofs.YtidflagmdabfaaaGreatDoor.RtC
open Go.RowKit Go.Proofs.YtidflagmdabfaaaGreatDoor

/-- all bytes of a text in a set -/
def allIn (set s : List UInt8) : Bool := s.all fun c => decide (0 ≤ Lib.indexByte set c)

set_option maxHeartbeats 2000000 in
set_option maxRecDepth 100000 in
theorem all (s set : ByteArray) (w : World) (hs : s.size ≤ 4611686018427387904) :
    Calls Tryz.prog 147 #[.string s, .string set] w fun e w' => e = .returned (.bool (allIn set.data.toList s.data.toList)) ∧ w = w' := by
  go_enter Tryz.func147, Tryz.ntmps147
  go_wp2_with fail
  go_loopg [8] s.size (fun g v8 wr => ∃ k : Nat, k + g = s.size ∧ v8 = .int .i64 k ∧ Hid (allIn set.data.toList (s.data.toList.take k) = true) ∧ w = wr)
  case atStart => exact ⟨0, by omega, rfl, rfl, rfl⟩
  case round =>
    obtain ⟨k, hkg, rfl, HA, rfl⟩ := hrel
    have HG := Lib.hid hkg; clear hkg
    by_cases hlt : k < s.size
    · have HT := Lib.hid (show allIn set.data.toList (s.data.toList.take (k + 1)) = decide (0 ≤ Lib.indexByte set.data.toList s[k]) by
        rw [Com.take_succ s k hlt]
        unfold allIn
        rw [List.all_append]
        have := HA.out
        unfold allIn at this
        rw [this]
        simp)
      have HF := Lib.hid (show decide (0 ≤ Lib.indexByte set.data.toList s[k]) = false → allIn set.data.toList s.data.toList = false from fun h => by
        conv => lhs; rw [← List.take_append_drop (k + 1) s.data.toList]
        unfold allIn
        rw [List.all_append]
        have := HT.out
        unfold allIn at this
        rw [this, h, Bool.false_and])
      have y0 : (0 : Int) ≤ (k : Int) := by omega
      have y1 : (k : Int) < (s.size : Int) := by omega
      have KI := Lib.hid (Tryz.strings_IndexByte set (s[k].toNat : Int) w)
      go_wp2_with fail
      refine KI.out.mono ?_
      rintro e w1 ⟨rfl, hw1⟩
      obtain rfl := hw1.symm
      rw [show ((s[k].toNat : Int).toNat.toUInt8) = s[k] by simp]
      clear KI
      obtain ⟨z, hz⟩ : ∃ z, z = Lib.indexByte set.data.toList s[k] := ⟨_, rfl⟩
      have HZ := Lib.hid hz
      rw [← hz] at HT HF ⊢
      clear hz
      by_cases h0 : z < 0
      · go_wp2_with fail
        go_ret
        exact ⟨by rw [HF.out (decide_eq_false (by omega))]; rfl, rfl⟩
      · go_wp2_with fail
        go_roundg (s.size - (k + 1))
        case measure => have := HG.out; omega
        case rel => exact ⟨k + 1, by have := HG.out; omega, by go_num, by rw [HT.out]; exact decide_eq_true (by omega), rfl⟩
    · have hk : k = s.size := by have := HG.out; omega
      have HT := Lib.hid (Com.take_all s k hk)
      go_wp2_with fail
      go_ret
      exact ⟨by have := HA.out; rw [HT.out] at this; rw [this]; rfl, rfl⟩
theorem allQ (s set : ByteArray) (w : World) (n : Nat) (hs : s.size ≤ 4611686018427387904) :
    Calls Tryz.prog 147 #[.string s, .string set] (w.drewN n) fun e w' => e = .returned (.bool (allIn set.data.toList s.data.toList)) ∧ ∃ m, w' = w.drewN m :=
  (all s set _ hs).mono fun _ _ h => ⟨h.1, n, h.2.symm⟩

abbrev letters : List UInt8 := [97, 98, 99, 100, 101, 102, 103, 104, 105, 106, 107, 108, 109, 110, 111, 112, 113, 114, 115, 116, 117, 118, 119, 120, 121, 122, 48, 49, 50, 51, 52, 53, 54, 55, 56, 57]
/-- is a bucket's name good? -/
def goodB (l : List UInt8) : Bool := decide (3 ≤ l.length) && decide (l.length ≤ 63) && allIn (letters ++ [45, 46]) l && allIn letters (l.take 1 ++ l.drop (l.length - 1))

set_option maxHeartbeats 4000000 in
set_option maxRecDepth 100000 in
theorem goodBucketY (s : ByteArray) (w : World) (hgood : goodB s.data.toList = true) :
    Calls Tryz.prog 90 #[.string s] w fun e w' => e = .returned (.bool true) ∧ ∃ m, w' = w.drewN m := by
  have hg := hgood
  unfold goodB at hg
  simp only [Bool.and_eq_true, decide_eq_true_eq, Com.toList_length] at hg
  obtain ⟨⟨⟨h3, h63⟩, hb1⟩, hb2⟩ := hg
  clear hgood
  have HB1 := Lib.hid hb1
  have HB2 := Lib.hid hb2
  clear hb1 hb2
  go_enter Tryz.func90, Tryz.ntmps90
  have q1 : decide ((3 : Int) ≤ (s.size : Int)) = true := decide_eq_true (by omega)
  have q2 : decide ((s.size : Int) ≤ 63) = true := decide_eq_true (by omega)
  have K1 := Lib.hid (show ∀ W, Calls Tryz.prog 147 #[.string s, .string ⟨#[97, 98, 99, 100, 101, 102, 103, 104, 105, 106, 107, 108, 109, 110, 111, 112, 113, 114, 115, 116, 117, 118, 119, 120, 121, 122, 48, 49, 50, 51, 52, 53, 54, 55, 56, 57, 45, 46]⟩] W fun e w' => e = .returned (.bool true) ∧ W = w' from fun W =>
    (all s ⟨#[97, 98, 99, 100, 101, 102, 103, 104, 105, 106, 107, 108, 109, 110, 111, 112, 113, 114, 115, 116, 117, 118, 119, 120, 121, 122, 48, 49, 50, 51, 52, 53, 54, 55, 56, 57, 45, 46]⟩ W (by omega)).mono fun e w' h => ⟨h.1.trans (congrArg (fun b => Ending.returned (.bool b)) HB1.out), h.2⟩)
  have g0 : 0 < s.size := by omega
  have g1 : s.size - 1 < s.size := by omega
  have hx1 : s.extract 0 1 = ⟨[s[0]].toArray⟩ := Com.extract_one s 0 g0
  have hx2 : s.extract (s.size - 1) s.size = ⟨[s[s.size - 1]].toArray⟩ := by
    have := Com.extract_one s (s.size - 1) g1
    rwa [show s.size - 1 + 1 = s.size by omega] at this
  have e1 : [s[0], s[s.size - 1]] = s.data.toList.take 1 ++ s.data.toList.drop (s.data.toList.length - 1) := by
    have h1 : s.data.toList.take 1 = [s[0]] := by
      have := congrArg (fun b : ByteArray => b.data.toList) hx1
      simp only [Com.extract_data, List.drop_zero] at this
      exact this
    have h2 : s.data.toList.drop (s.size - 1) = [s[s.size - 1]] := by
      have := congrArg (fun b : ByteArray => b.data.toList) hx2
      simp only [Com.extract_data] at this
      rw [List.take_of_length_le (by rw [Com.toList_length]; exact Nat.le_refl _)] at this
      exact this
    rw [h1, Com.toList_length, h2]
    rfl
  obtain ⟨c0, hc0⟩ : ∃ c, c = s[0] := ⟨_, rfl⟩
  obtain ⟨c1, hc1⟩ : ∃ c, c = s[s.size - 1] := ⟨_, rfl⟩
  rw [← hc0] at hx1 e1
  rw [← hc1] at hx2 e1
  have e3 : allIn letters [c0, c1] = true := by rw [e1]; exact HB2.out
  clear hc0 hc1 e1 g0 g1
  have K2 := Lib.hid (show ∀ W, Calls Tryz.prog 147 #[.string ⟨#[c0, c1]⟩, .string ⟨#[97, 98, 99, 100, 101, 102, 103, 104, 105, 106, 107, 108, 109, 110, 111, 112, 113, 114, 115, 116, 117, 118, 119, 120, 121, 122, 48, 49, 50, 51, 52, 53, 54, 55, 56, 57]⟩] W fun e w' => e = .returned (.bool true) ∧ W = w' from fun W =>
    (all ⟨#[c0, c1]⟩ ⟨#[97, 98, 99, 100, 101, 102, 103, 104, 105, 106, 107, 108, 109, 110, 111, 112, 113, 114, 115, 116, 117, 118, 119, 120, 121, 122, 48, 49, 50, 51, 52, 53, 54, 55, 56, 57]⟩ W (by show (2 : Nat) ≤ _; omega)).mono fun e w' h => ⟨h.1.trans (congrArg (fun b => Ending.returned (.bool b)) e3), h.2⟩)
  clear e3
  have hz1 : IntKind.i64.wrap ((s.size : Int) - 1) = (s.size : Int) - 1 := IntWalk.i64_in _ ⟨by omega, by omega⟩
  have hz2 : ((s.size : Int) - 1).toNat = s.size - 1 := by omega
  have hz3 : (0 : Int) ≤ (s.size : Int) - 1 := by omega
  have hz4 : (s.size : Int) - 1 ≤ (s.size : Int) := by omega
  have hz5 : (1 : Int) ≤ (s.size : Int) := by omega
  have hz6 : (0 : Int) ≤ (s.size : Int) := by omega
  go_upto_region 2 with fail
  go_region_held3 (fun _ => True)
    (first | trivial | go_keep)
    (first
      | (go_at_call 147; have hd2 := hd1; refine (K2.out _).mono ?_; rintro e w2 ⟨rfl, hw2⟩; subst hw2)
      | (go_at_call 147; refine (K1.out _).mono ?_; rintro e w1 ⟨rfl, hw1⟩; subst hw1; have hd1 := True.intro))
  all_goals
    go_wp2_with fail
    go_ret
    exact ⟨rfl, 1, rfl⟩
end Go.Proofs.YtidflagmdabfaaaGreatDoor.RtC
namespace Go.Proofs.YtidflagmdabfaaaGreatDoor.RtD
open Go.RowKit Go.Proofs.YtidflagmdabfaaaGreatDoor

/-- the box -/
def Ak (B : Nat) (w : World) (C : List Value) : Prop := w.heap[B]? = some (.cells C.toArray 102 (0, 0))
theorem Ak.lt {B : Nat} {w : World} {C : List Value} (h : Ak B w C) : B < w.heap.size := (Array.getElem?_eq_some_iff.1 h).1
theorem Ak.below {B : Nat} {w w' : World} {C : List Value} (h : Ak B w C) (hb : Below w.heap.size w w') : Ak B w' C := (hb.block _ h.lt).trans h
theorem Ak.at {B : Nat} {w : World} {C : List Value} (h : Ak B w C) (i : Nat) {v : Value} (hi : C[i]? = some v) : w.cell? ⟨B, i, none⟩ = some v := by
  rw [Lib.cell_of_heap h, List.getElem?_toArray]; exact hi
theorem Ak.fr {B : Nat} {w : World} {C : List Value} (h : Ak B w C) (i : Nat) : w.frozen? ⟨B, i, none⟩ = false := Lib.frozen_of_heap h i
theorem Ak.put {B : Nat} {w : World} {C : List Value} (h : Ak B w C) (i : Nat) (v : Value) : Ak B (w.setCell ⟨B, i, none⟩ v) (C.set i v) := by
  unfold Ak at h ⊢
  simp only [World.setCell, Array.getElem?_modify, if_true, h]
  simp
theorem Ak.drew {B : Nat} {w : World} {C : List Value} (h : Ak B w C) : Ak B w.drew C := h

set_option maxHeartbeats 4000000 in
set_option maxRecDepth 100000 in
theorem command (kind : Int) {i0 i1 i2 : Int} {B : Nat} {w : World} {c0 c1 c2 c3 c4 c5 c9 c10 c11 c12 c13 c14 c15 c16 c17 c18 c19 c20 c21 c22 c23 c24 c25 c26 c27 c28 c31 c32 c33 c34 c35 c36 c37 c38 c39 c40 : Value} {bk ky : ByteArray} (h : Ak B w [c0, c1, c2, c3, c4, c5, .int .i64 i0, .int .i64 i1, .int .i64 i2, c9, c10, c11, c12, c13, c14, c15, c16, c17, c18, c19, c20, c21, c22, c23, c24, c25, c26, c27, c28, .string bk, .string ky, c31, c32, c33, c34, c35, c36, c37, c38, c39, c40]) :
    Calls Tryz.prog 177 #[.pointer (some ⟨B, 0, none⟩), .int .i64 kind] w fun e w' => e = .returned (.tuple #[]) ∧ Ak B w' [c0, c1, c2, c3, c4, c5, .int .i64 i0, .int .i64 i1, .int .i64 i2, c9, .int .i64 1, .int .i64 kind, .int .i64 i0, .int .i64 i1, .int .i64 i2, .string bk, .string ky, .int .i64 0, .int .i64 0, .int .i64 0, .int .i64 0, .int .i64 0, .int .i64 0, .int .i64 0, .string ⟨#[]⟩, .int .i64 0, .slice none 0 0, .int .i64 0, .int .i64 0, .string ⟨#[]⟩, .string ⟨#[]⟩, c31, c32, c33, c34, c35, c36, c37, c38, c39, c40] ∧ Below B w w' := by
  have x6 := h.at 6 rfl
  have x7 := h.at 7 rfl
  have x8 := h.at 8 rfl
  have x29 := h.at 29 rfl
  have x30 := h.at 30 rfl
  have f10 := h.fr 10
  have x10 := h.at 10 rfl
  have x11 := h.at 11 rfl
  have f11 := h.fr 11
  have x12 := h.at 12 rfl
  have f12 := h.fr 12
  have x13 := h.at 13 rfl
  have f13 := h.fr 13
  have x14 := h.at 14 rfl
  have f14 := h.fr 14
  have x15 := h.at 15 rfl
  have f15 := h.fr 15
  have x16 := h.at 16 rfl
  have f16 := h.fr 16
  have x17 := h.at 17 rfl
  have f17 := h.fr 17
  have x18 := h.at 18 rfl
  have f18 := h.fr 18
  have x19 := h.at 19 rfl
  have f19 := h.fr 19
  have x20 := h.at 20 rfl
  have f20 := h.fr 20
  have x21 := h.at 21 rfl
  have f21 := h.fr 21
  have x22 := h.at 22 rfl
  have f22 := h.fr 22
  have x23 := h.at 23 rfl
  have f23 := h.fr 23
  have x24 := h.at 24 rfl
  have f24 := h.fr 24
  have x25 := h.at 25 rfl
  have f25 := h.fr 25
  have x26 := h.at 26 rfl
  have f26 := h.fr 26
  have x27 := h.at 27 rfl
  have f27 := h.fr 27
  have x28 := h.at 28 rfl
  have f28 := h.fr 28
  have f29 := h.fr 29
  have f30 := h.fr 30
  go_enter Tryz.func177, Tryz.ntmps177
  go_wp2_with fail
  go_region
  have H1 := ((((((((((((((((((((h).put 10 (.int .i64 1)).put 11 (.int .i64 kind)).put 12 (.int .i64 i0)).put 13 (.int .i64 i1)).put 14 (.int .i64 i2)).put 15 (.string bk)).put 16 (.string ky)).put 17 (.int .i64 0)).put 18 (.int .i64 0)).put 19 (.int .i64 0)).put 20 (.int .i64 0)).put 21 (.int .i64 0)).put 22 (.int .i64 0)).put 23 (.int .i64 0)).put 24 (.string ⟨#[]⟩)).put 25 (.int .i64 0)).put 26 (.slice none 0 0)).put 27 (.int .i64 0)).put 28 (.int .i64 0)).drew
  have hB1 := ((((((((((((((((((((Below.refl B w).setCell (p := ⟨B, 10, none⟩) (Nat.le_refl _) (.int .i64 1)).setCell (p := ⟨B, 11, none⟩) (Nat.le_refl _) (.int .i64 kind)).setCell (p := ⟨B, 12, none⟩) (Nat.le_refl _) (.int .i64 i0)).setCell (p := ⟨B, 13, none⟩) (Nat.le_refl _) (.int .i64 i1)).setCell (p := ⟨B, 14, none⟩) (Nat.le_refl _) (.int .i64 i2)).setCell (p := ⟨B, 15, none⟩) (Nat.le_refl _) (.string bk)).setCell (p := ⟨B, 16, none⟩) (Nat.le_refl _) (.string ky)).setCell (p := ⟨B, 17, none⟩) (Nat.le_refl _) (.int .i64 0)).setCell (p := ⟨B, 18, none⟩) (Nat.le_refl _) (.int .i64 0)).setCell (p := ⟨B, 19, none⟩) (Nat.le_refl _) (.int .i64 0)).setCell (p := ⟨B, 20, none⟩) (Nat.le_refl _) (.int .i64 0)).setCell (p := ⟨B, 21, none⟩) (Nat.le_refl _) (.int .i64 0)).setCell (p := ⟨B, 22, none⟩) (Nat.le_refl _) (.int .i64 0)).setCell (p := ⟨B, 23, none⟩) (Nat.le_refl _) (.int .i64 0)).setCell (p := ⟨B, 24, none⟩) (Nat.le_refl _) (.string ⟨#[]⟩)).setCell (p := ⟨B, 25, none⟩) (Nat.le_refl _) (.int .i64 0)).setCell (p := ⟨B, 26, none⟩) (Nat.le_refl _) (.slice none 0 0)).setCell (p := ⟨B, 27, none⟩) (Nat.le_refl _) (.int .i64 0)).setCell (p := ⟨B, 28, none⟩) (Nat.le_refl _) (.int .i64 0)).drew
  clear x6 x7 x8 x29 x30 f29 f30 x10 f10 x11 f11 x12 f12 x13 f13 x14 f14 x15 f15 x16 f16 x17 f17 x18 f18 x19 f19 x20 f20 x21 f21 x22 f22 x23 f23 x24 f24 x25 f25 x26 f26 x27 f27 x28 f28
  generalize World.drew _ = w2 at H1 hB1 ⊢
  simp only [List.set_cons_zero, List.set_cons_succ] at H1
  have H2 : Ak B w2 [c0, c1, c2, c3, c4, c5, .int .i64 i0, .int .i64 i1, .int .i64 i2, c9, .int .i64 1, .int .i64 kind, .int .i64 i0, .int .i64 i1, .int .i64 i2, .string bk, .string ky, .int .i64 0, .int .i64 0, .int .i64 0, .int .i64 0, .int .i64 0, .int .i64 0, .int .i64 0, .string ⟨#[]⟩, .int .i64 0, .slice none 0 0, .int .i64 0, .int .i64 0, .string bk, .string ky, c31, c32, c33, c34, c35, c36, c37, c38, c39, c40] := H1
  clear H1
  have x29 := H2.at 29 rfl
  have x30 := H2.at 30 rfl
  have f29 := H2.fr 29
  have f30 := H2.fr 30
  have H3 := (H2.put 29 (.string ⟨#[]⟩)).put 30 (.string ⟨#[]⟩)
  simp only [List.set_cons_zero, List.set_cons_succ] at H3
  clear H2
  go_wp2_with fail
  go_end0
  exact ⟨rfl, H3, (hB1.setCell (p := ⟨B, 29, none⟩) (Nat.le_refl _) (.string ⟨#[]⟩)).setCell (p := ⟨B, 30, none⟩) (Nat.le_refl _) (.string ⟨#[]⟩)⟩
end Go.Proofs.YtidflagmdabfaaaGreatDoor.RtD
namespace Go.Proofs.YtidflagmdabfaaaGreatDoor.RtE
open Go.RowKit Go.Maps Go.Sort Go.Proofs.YtidflagmdabfaaaGreatDoor Go.WideShapes Go.WideMaps Go.Proofs.YtidflagmdabfaaaGreatDoor.RtD Go.Proofs.YtidflagmdabfaaaGreatDoor.UriC

set_option maxHeartbeats 4000000 in
set_option maxRecDepth 100000 in
theorem get {B : Nat} {w : World} {C : List Value} {p : Value} {aq : Option Addr} {cq : Nat} {ps : List (List UInt8 × List UInt8)} (n : List UInt8) (h : Ak B w C) (h0 : C[0]? = some p) (h1 : C[1]? = some (.slice aq ps.length cq)) (hp : Pairs w aq ps) (hl : ps.length ≤ 4294967296) (hs : ∃ s, p = .string s) :
    Calls Tryz.prog 178 #[.pointer (some ⟨B, 0, none⟩), .string ⟨n.toArray⟩] w fun e w' => e = .returned (.tuple #[.string ⟨((UriQ.gt ps n).getD []).toArray⟩, .bool (UriQ.gt ps n).isSome]) ∧ Below w.heap.size w w' := by
  obtain ⟨s, rfl⟩ := hs
  have x0 := h.at 0 h0
  have x1 := h.at 1 h1
  have KG := Lib.hid (UriQ.get (.string s) n cq w hp hl)
  clear h h0 h1
  go_enter Tryz.func178, Tryz.ntmps178
  go_wp2_with fail
  refine KG.out.mono ?_
  rintro e w1 ⟨rfl, hb1⟩
  go_wp2_with fail
  go_ret2
  exact ⟨rfl, hb1⟩

set_option maxHeartbeats 4000000 in
set_option maxRecDepth 100000 in
theorem makeBucket {i0 i1 i2 now : Int} {B : Nat} {w : World} {c2 c3 c4 c5 c10 c11 c12 c13 c14 c15 c16 c17 c18 c19 c20 c21 c22 c23 c24 c25 c26 c27 c28 c31 c32 c33 c34 c35 c36 c37 c38 c39 c40 : Value} {aq : Option Addr} {cq : Nat} {ps : List (List UInt8 × List UInt8)} {pa bk ky : ByteArray} (h : Ak B w [.string pa, .slice aq ps.length cq, c2, c3, c4, c5, .int .i64 i0, .int .i64 i1, .int .i64 i2, .int .i64 now, c10, c11, c12, c13, c14, c15, c16, c17, c18, c19, c20, c21, c22, c23, c24, c25, c26, c27, c28, .string bk, .string ky, c31, c32, c33, c34, c35, c36, c37, c38, c39, c40]) (hp : Pairs w aq ps) (hl : ps.length ≤ 4294967296) (hd : UriQ.gt ps [100, 97, 121, 115] = none) :
    Calls Tryz.prog 148 #[.pointer (some ⟨B, 0, none⟩)] w fun e w' => e = .returned .nilIface ∧ Ak B w' [.string pa, .slice aq ps.length cq, c2, c3, c4, c5, .int .i64 i0, .int .i64 i1, .int .i64 i2, .int .i64 now, .int .i64 1, .int .i64 1, .int .i64 i0, .int .i64 i1, .int .i64 i2, .string bk, .string ky, .int .i64 0, .int .i64 0, .int .i64 0, .int .i64 0, .int .i64 0, .int .i64 0, .int .i64 0, .string ⟨#[]⟩, .int .i64 0, .slice none 0 0, .int .i64 now, .int .i64 0, .string ⟨#[]⟩, .string ⟨#[]⟩, c31, c32, c33, c34, c35, c36, c37, c38, c39, c40] ∧ Below B w w' := by
  have KG := Lib.hid (get [100, 97, 121, 115] h rfl rfl hp hl ⟨pa, rfl⟩)
  have HA := Lib.hid h
  clear h
  go_enter Tryz.func148, Tryz.ntmps148
  go_wp2_with fail
  refine KG.out.mono ?_
  rw [hd]
  rintro e w1 ⟨rfl, hb1⟩
  have KC := Lib.hid (command 1 (HA.out.below hb1))
  have HL := Lib.hid HA.out.lt
  clear KG
  go_wp2_with fail
  refine KC.out.mono ?_
  rintro e w2 ⟨rfl, h2, hb2⟩
  have x9 := h2.at 9 rfl
  have x27 := h2.at 27 rfl
  have f27 := h2.fr 27
  have h3 := h2.put 27 (.int .i64 now)
  simp only [List.set_cons_zero, List.set_cons_succ] at h3
  clear h2 KC HA
  go_wp2_with fail
  go_ret
  exact ⟨rfl, h3, ((hb1.mono (Nat.le_of_lt HL.out)).trans hb2).setCell (p := ⟨B, 27, none⟩) (Nat.le_refl _) (.int .i64 now)⟩

/-- the routes in a map, each by its method -/
def rd (v : Value) : Option (DataW Value × List MemPlace) := some (.held v, [])
theorem rd_eq {v : Value} {d : DataW Value} {ps : List MemPlace} (h : rd v = some (d, ps)) : d = .held v := by
  simp [rd] at h; exact h.1.symm
theorem keyed : Keyed Tryz.prog 9 := string_keyed Tryz.underlying9
/-- a store into a map that is being made -/
theorem wpList_insert {w : World} {ops : Array Oper} {rest : List Oper} {o : Oper} {a : Act} {Q : Exit → Act → World → Prop} (hg : o.guard = none) (m x v : Operand) (hop : o.op = Op.insert 104 m x v)
    {b n : Nat} {D : DataW Value} (hm : a.eval m = .map (some b)) (hown : w.ownsMap Tryz.prog 9 rd b n D) (hn : n < 4294967296) (s : ByteArray) (hx : a.eval x = .string s) (hs : s.size ≤ maxLen) (val : Value) (hv : a.eval v = val)
    (hK : ∀ w', w'.ownsMap Tryz.prog 9 rd b (n + 1) (D.put (.string s.data.toList) (.held val)) → w.grownBy w' (some b) → wpList Tryz.prog ops Q rest (a.put o.dst undef) w') : wpList Tryz.prog ops Q (o :: rest) a w := by
  refine wpList_plain hg fun K' hK' => ?_
  obtain ⟨w', hrun, r1, r2⟩ := hown.update keyed Tryz.underlying104 (by unfold maxLen; omega) (keyOf_string_mk Tryz.underlying9 hs) (show rd val = some (.held val, []) from rfl)
  unfold Oper.wp
  simp [execOp, hop, hm, hx, hv, hrun, Result.andThen]
  exact hK' _ _ (hK w' r1 r2)
/-- a look-up in a route -/
theorem wpList_way {w : World} {ops : Array Oper} {rest : List Oper} {o : Oper} {a : Act} {Q : Exit → Act → World → Prop} (hg : o.guard = none) (m x : Operand) (hop : o.op = Op.lookup 104 m x true)
    {b n : Nat} {D : DataW Value} (hm : a.eval m = .map (some b)) (hown : w.ownsMap Tryz.prog 9 rd b n D) (s : ByteArray) (hx : a.eval x = .string s) (hs : s.size ≤ maxLen) {v : Value} {there : Bool} (hl : Maps.has D (.string s.data.toList) = there ∧ D.atKey (.string s.data.toList) (.held .nilFunc) = .held v)
    (hK : wpList Tryz.prog ops Q rest (a.put o.dst (.tuple #[v, .bool there])) w) : wpList Tryz.prog ops Q (o :: rest) a w :=
  wpList_lookup_own_ok w hg m x 104 hop 9 107 keyed Tryz.underlying104 rd (show (zeroValue 107).run Tryz.prog w = .ok .nilFunc w by kernel_rfl) _ [] rfl b n D hm hown (.string s) (.string s.data.toList) hx (keyOf_string_mk Tryz.underlying9 hs) (fun v' ps hv => by
    have h1 := rd_eq hv
    rw [hl.2] at h1
    obtain rfl : v = v' := by simpa using h1
    rw [hl.1]
    exact hK)

/-- the routes of a bucket -/
abbrev fnv (f : FuncId) : Value := .func (.func f) #[] #[]
def dBucket : DataW Value := (((.map [] : DataW Value).put (.string [80, 85, 84]) (.held (fnv 148))).put (.string [68, 69, 76, 69, 84, 69]) (.held (fnv 149))).put (.string [71, 69, 84]) (.held (fnv 150))
theorem below_map {base b : Nat} {w w' : World} (h : w.grownBy w' (some b)) (hb : base ≤ b) (hs : base ≤ w.heap.size) : RowKit.Below base w w' :=
  (RowKit.Below.refl base w).grown h hs fun k hk => by cases hk; exact hb

set_option maxHeartbeats 4000000 in
set_option maxRecDepth 100000 in
theorem bucket (w : World) : Calls Tryz.prog 91 #[] w fun e w' => e = .returned (.map (some w.heap.size)) ∧ w'.ownsMap Tryz.prog 9 rd w.heap.size 3 dBucket ∧ RowKit.Below w.heap.size w w' := by
  have hmm := @run_makeMap Tryz.prog
  have o0 := World.ownsMap_made w Tryz.prog 9 rd
  have hb0 := (RowKit.Below.refl w.heap.size w).alloc (Nat.le_refl _) (.map #[] 0)
  go_enter Tryz.func91, Tryz.ntmps91
  go_wp2_with (first
    | (guard_target =~ wpList _ _ _ ({ dst := _, op := Op.insert _ _ _ _, type := _, pos := _, after := _, guard := none } :: _) _ _; refine wpList_insert rfl (.tmp 1) (.const (.string ⟨#[71, 69, 84]⟩)) (.func 150) rfl rfl o2 (by decide) ⟨#[71, 69, 84]⟩ rfl (by decide) _ rfl ?_; intro w3 o3 g3)
    | (guard_target =~ wpList _ _ _ ({ dst := _, op := Op.insert _ _ _ _, type := _, pos := _, after := _, guard := none } :: _) _ _; refine wpList_insert rfl (.tmp 1) (.const (.string ⟨#[68, 69, 76, 69, 84, 69]⟩)) (.func 149) rfl rfl o1 (by decide) ⟨#[68, 69, 76, 69, 84, 69]⟩ rfl (by decide) _ rfl ?_; intro w2 o2 g2)
    | (guard_target =~ wpList _ _ _ ({ dst := _, op := Op.insert _ _ _ _, type := _, pos := _, after := _, guard := none } :: _) _ _; refine wpList_insert rfl (.tmp 1) (.const (.string ⟨#[80, 85, 84]⟩)) (.func 148) rfl rfl o0 (by decide) ⟨#[80, 85, 84]⟩ rfl (by decide) _ rfl ?_; intro w1 o1 g1))
  go_ret
  have h1 := hb0.trans (below_map g1 (Nat.le_refl _) (by simp))
  have h2 := h1.trans (below_map g2 (Nat.le_refl _) h1.size)
  exact ⟨rfl, o3, h2.trans (below_map g3 (Nat.le_refl _) h2.size)⟩
end Go.Proofs.YtidflagmdabfaaaGreatDoor.RtE
namespace Go.Proofs.YtidflagmdabfaaaGreatDoor.RtF
open Go.RowKit Go.Proofs.YtidflagmdabfaaaGreatDoor Go.Proofs.YtidflagmdabfaaaGreatDoor.RtD Go.Proofs.YtidflagmdabfaaaGreatDoor.RtE

theorem cut_free {c : UInt8} {l : List UInt8} (h : c ∉ l) : Lib.cut l [c] = (l, [], false) := by
  unfold Lib.cut
  rw [Up.index_free h, if_neg (by omega)]
theorem drewN_size (w : World) : ∀ n, (w.drewN n).heap = w.heap
  | 0 => rfl
  | n + 1 => drewN_size w n
theorem ak_drewN {B : Nat} {w : World} {C : List Value} (h : Ak B w C) (n : Nat) : Ak B (w.drewN n) C := by
  unfold Ak at h ⊢
  rw [drewN_size]; exact h
theorem drewN_add (w : World) (n m : Nat) : (w.drewN n).drewN m = w.drewN (n + m) := by
  induction m with
  | zero => rfl
  | succ m ih => exact congrArg World.drew ih

set_option maxHeartbeats 4000000 in
set_option maxRecDepth 100000 in
theorem place {B : Nat} {w : World} {c1 c2 c3 c4 c5 c6 c7 c8 c9 c10 c11 c12 c13 c14 c15 c16 c17 c18 c19 c20 c21 c22 c23 c24 c25 c26 c27 c28 c29 c30 c31 c32 c33 c34 c35 c36 c37 c38 c39 c40 : Value} {nm : List UInt8} (h : Ak B w [.string ⟨(47 :: nm).toArray⟩, c1, c2, c3, c4, c5, c6, c7, c8, c9, c10, c11, c12, c13, c14, c15, c16, c17, c18, c19, c20, c21, c22, c23, c24, c25, c26, c27, c28, c29, c30, c31, c32, c33, c34, c35, c36, c37, c38, c39, c40]) (hm : UriB.Mx w) (hg : RtC.goodB nm = true) (h47 : (47 : UInt8) ∉ nm) :
    Calls Tryz.prog 44 #[.pointer (some ⟨B, 0, none⟩)] w fun e w' => ∃ N, e = .returned (.tuple #[.map (some N), .nilIface]) ∧ w.heap.size ≤ N ∧ w'.ownsMap Tryz.prog 9 rd N 3 dBucket ∧ Ak B w' [.string ⟨(47 :: nm).toArray⟩, c1, c2, c3, c4, c5, c6, c7, c8, c9, c10, c11, c12, c13, c14, c15, c16, c17, c18, c19, c20, c21, c22, c23, c24, c25, c26, c27, c28, .string ⟨nm.toArray⟩, .string ⟨#[]⟩, c31, c32, c33, c34, c35, c36, c37, c38, c39, c40] ∧ Below B w w' := by
  obtain ⟨mx, hmx⟩ := hm
  have hlen : 3 ≤ nm.length ∧ nm.length ≤ 63 := by
    have hg2 := hg
    unfold RtC.goodB at hg2
    simp only [Bool.and_eq_true, decide_eq_true_eq] at hg2
    exact hg2.1.1
  obtain ⟨hl3, hl63⟩ := hlen
  have x0 := h.at 0 rfl
  have hx1 : (ByteArray.mk (47 :: nm).toArray).extract 1 (nm.length + 1) = ⟨nm.toArray⟩ := Com.mk_drop1 47 nm rfl
  have hx0 : (ByteArray.mk (47 :: nm).toArray).size = nm.length + 1 := by rw [Com.size_mk]; rfl
  have hne : (nm == []) = false := by
    rw [beq_eq_false_iff_ne]; rintro rfl; simp at hl3
  have KC := Lib.hid (Tryz.strings_Cut ⟨nm.toArray⟩ ⟨#[47]⟩ mx w (by rw [Com.size_mk]; omega) hmx)
  have HC := Lib.hid (show Lib.cut (ByteArray.mk nm.toArray).data.toList (ByteArray.mk #[47]).data.toList = (nm, [], false) from cut_free h47)
  have HA := Lib.hid h
  have HL := Lib.hid h.lt
  have y1 : (1 : Int) ≤ (nm.length : Int) + 1 := by omega
  clear h h47 hmx
  go_enter Tryz.func44, Tryz.ntmps44
  go_wp2_with fail
  refine KC.out.mono ?_
  rw [HC.out]
  rintro e w1 ⟨rfl, n1, rfl⟩
  have KG := Lib.hid (RtC.goodBucketY ⟨nm.toArray⟩ (w.drewN n1) hg)
  go_wp2_with fail
  refine KG.out.mono ?_
  rintro e w2 ⟨rfl, m1, rfl⟩
  rw [drewN_add]
  obtain ⟨w3, hw3⟩ : ∃ w3, w3 = w.drewN (n1 + m1) := ⟨_, rfl⟩
  have h3 : Ak B w3 [.string ⟨(47 :: nm).toArray⟩, c1, c2, c3, c4, c5, c6, c7, c8, c9, c10, c11, c12, c13, c14, c15, c16, c17, c18, c19, c20, c21, c22, c23, c24, c25, c26, c27, c28, c29, c30, c31, c32, c33, c34, c35, c36, c37, c38, c39, c40] := by rw [hw3]; exact ak_drewN HA.out _
  have hb3 : Below B w w3 := by rw [hw3]; exact HtC.below_drewN (Below.refl _ _) _
  rw [← hw3]
  clear hw3 KC KG HC HA x0 hx1 hx0
  have x29 := h3.at 29 rfl
  have x30 := h3.at 30 rfl
  have f29 := h3.fr 29
  have f30 := h3.fr 30
  have h4 := (h3.put 29 (.string ⟨nm.toArray⟩)).put 30 (.string ⟨#[]⟩)
  have hb4 := (hb3.setCell (p := ⟨B, 29, none⟩) (Nat.le_refl _) (.string ⟨nm.toArray⟩)).setCell (p := ⟨B, 30, none⟩) (Nat.le_refl _) (.string ⟨#[]⟩)
  simp only [List.set_cons_zero, List.set_cons_succ] at h4
  clear h3 hb3
  go_upto_region 9 with fail
  generalize World.setCell (World.setCell w3 _ _) _ _ = w4 at *
  clear x29 x30 f29 f30
  go_wp2_with fail
  refine (bucket w4).mono ?_
  rintro e w5 ⟨rfl, ho, hb5⟩
  go_wp2_with fail
  go_ret2
  exact ⟨_, rfl, hb4.size, ho, h4.below hb5, hb4.trans (hb5.mono (Nat.le_trans (Nat.le_of_lt HL.out) hb4.size))⟩
end Go.Proofs.YtidflagmdabfaaaGreatDoor.RtF
