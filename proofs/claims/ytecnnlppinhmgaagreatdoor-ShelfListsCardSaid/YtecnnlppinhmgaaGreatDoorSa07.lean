/-
  The walks of slices.Grow at nothing, slices.Concat of two, wire.Seal. The walks of package bollardref05's Num, Bytes and Seal. A drive's files as a list by rising name; a map's reading tied to it. Plain: of no program.
-/
import Derived.Test.YtecnnlppinhmgaaGreatDoorSa02
import Derived.Test.YtecnnlppinhmgaaGreatDoorSa06
import Derived.Lib.AppendZeros
import Derived.Sort.KeysCollected
import Derived.Maps.OwnSet
namespace Go.Proofs.YtecnnlppinhmgaaGreatDoor.FrB
open Go.RowKit Go.Proofs.YtecnnlppinhmgaaGreatDoor Go.Proofs.YtecnnlppinhmgaaGreatDoor.HtW Go.Proofs.YtecnnlppinhmgaaGreatDoor.HtX Go.Proofs.YtecnnlppinhmgaaGreatDoor.App Go.Proofs.YtecnnlppinhmgaaGreatDoor.ShaF Go.Proofs.YtecnnlppinhmgaaGreatDoor.FrA

theorem infoByte : (Tryz.prog.info? 5).map (fun i => (i.zero, i.size, i.bytes)) = some (some (.int .u8 0), 1, 1) := by kernel_rfl

set_option maxHeartbeats 1000000 in
set_option maxRecDepth 100000 in
theorem grow (n : Nat) (w : World) (h1 : 1 ≤ n) (hn : n ≤ 140737488355328) :
    Calls Tryz.prog 146 #[.slice none 0 0, .int .i64 (n : Int)] w fun e w' => ∃ v, e = .returned v ∧ (∃ c, v = .slice (some ⟨w.heap.size, 0, none⟩) 0 c) ∧ w'.ownsRow w.heap.size 5 1 v 0 [] ∧ Below w.heap.size w w' := by
  obtain ⟨i0, hi, hz0, hz1, hz2⟩ := info_parts infoByte
  have hr := Lib.run_append_nil_zeros (P := Tryz.prog) w 24 3 24 5 i0 (.int .u8 0) .i64 .i64 Tryz.underlying24 Tryz.underlying3 hi hz0 n (by omega) (by omega) (by omega) (by rw [hz2]; omega)
  obtain ⟨c, hc⟩ : ∃ c, c = grownCap w n 0 5 := ⟨_, rfl⟩
  have hcm : c ≤ maxLen := by rw [hc]; exact grownCap_le_maxLen w n 0 _ (by unfold maxLen; omega)
  have hcn : n ≤ c := by rw [hc]; exact grownCap_ge w n 0 _
  rw [← hc] at hr
  obtain ⟨C, hC⟩ : ∃ C, C = (Builtin.zeroCells (Value.int .u8 0).cells n ++ Builtin.zeroCells (Value.int .u8 0).cells (c - n)) := ⟨_, rfl⟩
  have hCs : C.size = c * 1 := by rw [hC, Array.size_append, size_zeroCells, size_zeroCells]; show n * 1 + (c - n) * 1 = c * 1; omega
  rw [← hC] at hr
  have hp : (0 : Int) < (n : Int) := by omega
  clear hC hc
  go_enter Tryz.func146, Tryz.ntmps146
  go_wp2_with (at_builtin; refine Lib.wpList_append_run _ rfl _ _ _ _ rfl _ _ rfl rfl _ _ hr ?_)
  go_ret
  refine ⟨_, rfl, ⟨c, rfl⟩, ⟨rfl, .inr ⟨w.heap.size, c, C, rfl, Nat.le_refl _, heap_alloc_new w _, Nat.zero_le _, hcm, hCs, rfl⟩⟩, ((Below.refl _ _).alloc (Nat.le_refl _) _).drew⟩

theorem own_down {w : World} {b b' : Nat} {e : TypeId} {size : Nat} {v : Value} {n : Nat} {xs : List Value} (h : w.ownsRow b e size v n xs) (hb : b' ≤ b) : w.ownsRow b' e size v n xs :=
  ⟨h.1, h.2.imp id fun ⟨g, cap, cur, h1, h2, h3⟩ => ⟨g, cap, cur, h1, Nat.le_trans hb h2, h3⟩⟩
/-- the bytes of the first k of two -/
def pre (l r : List UInt8) (k : Nat) : List UInt8 := if k = 0 then [] else if k = 1 then l else l ++ r

set_option maxHeartbeats 2000000 in
set_option maxRecDepth 100000 in
theorem concat2 (l r : List UInt8) {a a' : Option Addr} (c c' S : Nat) (w : World) (hb : Bs w a l c) (hb' : Bs w a' r c') (h0 : w.cell? ⟨S, 0, none⟩ = some (.slice a l.length c)) (h1 : w.cell? ⟨S, 1, none⟩ = some (.slice a' r.length c')) (hl : l.length + r.length ≤ 140737488355328) (hp : 1 ≤ l.length + r.length) :
    Calls Tryz.prog 121 #[.slice (some ⟨S, 0, none⟩) 2 2] w fun e w' => ∃ v, e = .returned v ∧ (∃ ar cr, v = .slice ar (l ++ r).length cr) ∧ w'.ownsRow w.heap.size 5 1 v (l ++ r).length (Lib.byteCells (l ++ r)) ∧ Below w.heap.size w w' := by
  have HB := Lib.hid hb; clear hb
  have HB' := Lib.hid hb'; clear hb'
  have H0 := Lib.hid h0
  have H1 := Lib.hid h1
  clear h0 h1
  go_enter Tryz.func121, Tryz.ntmps121
  go_wp2_with fail
  go_loopg [3, 11] 2 (fun g v3 v wr => ∃ k : Nat, k + g = 2 ∧ v = .int .i64 k ∧ v3 = .int .i64 ((pre l r k).length : Int) ∧ w = wr)
  case atStart => exact ⟨0, by omega, rfl, rfl, rfl⟩
  case round =>
    obtain ⟨k, hkg, rfl, rfl, rfl⟩ := hrel
    obtain rfl | rfl | rfl : k = 0 ∨ k = 1 ∨ k = 2 := by omega
    · have c0 := H0.out
      have e0 : ((pre l r 0).length : Int) = 0 := rfl
      have hn : ¬ ((l.length : Int) < 0) := by omega
      have HG := Lib.hid hkg; clear hkg
      go_wp2_with fail
      go_roundg 1
      case measure => have := HG.out; omega
      case rel => exact ⟨1, by omega, rfl, by simp [pre], rfl⟩
    · have c1 := H1.out
      have e1 : ((pre l r 1).length : Int) = l.length := rfl
      have hn : ¬ ((l.length : Int) + (r.length : Int) < 0) := by omega
      have HG := Lib.hid hkg; clear hkg
      go_wp2_with fail
      go_roundg 0
      case measure => have := HG.out; omega
      case rel => exact ⟨2, by omega, rfl, by simp [pre], rfl⟩
    · have e2 : ((pre l r 2).length : Int) = ((l.length + r.length : Nat) : Int) := by simp [pre]
      clear hkg
      have KG := Lib.hid (show Calls Tryz.prog 146 #[.slice none 0 0, .int .i64 ((l.length : Int) + (r.length : Int))] w fun e w' => ∃ v, e = .returned v ∧ (∃ c, v = .slice (some ⟨w.heap.size, 0, none⟩) 0 c) ∧ w'.ownsRow w.heap.size 5 1 v 0 [] ∧ Below w.heap.size w w' by
        have := grow (l.length + r.length) w hp hl
        rwa [Int.natCast_add] at this)
      go_wp2_with fail
      refine KG.out.mono ?_
      rintro e w2 ⟨v2, rfl, -, ho2, hb2⟩
      have HO2 := Lib.hid ho2
      have HB2 := Lib.hid hb2
      clear ho2 hb2 KG e2
      go_wp2_with fail
      go_loopg [6, 27] 2 (fun g v6 v wr => ∃ k : Nat, k + g = 2 ∧ v = .int .i64 k ∧ Hid (wr.ownsRow w.heap.size 5 1 v6 (pre l r k).length (Lib.byteCells (pre l r k))) ∧ Hid (Below w.heap.size w wr))
      case atStart => exact ⟨0, by omega, rfl, HO2.out, HB2.out⟩
      case round =>
        obtain ⟨k, hkg, rfl, HO, HW⟩ := hrel
        obtain rfl | rfl | rfl : k = 0 ∨ k = 1 ∨ k = 2 := by omega
        · have ck := (HW.out.cell (p := ⟨S, 0, none⟩) (World.block_lt_of_cell? _ _ H0.out)).trans H0.out
          have HG := Lib.hid hkg; clear hkg
          go_wp2_with (at_builtin; refine append_more _ rfl (.tmp 31) (.tmp 32) rfl w.heap.size (pre l r 0) l HO.out a c (HB.out.below HW.out) HW.out.size (by simp [pre]; omega) rfl rfl ?_; rintro a1 c1 w1 n1 rfl o1 b1)
          go_roundg 1
          case measure => have := HG.out; omega
          case rel => exact ⟨1, by omega, rfl, Lib.hid (by simpa [pre] using o1), HW.out.trans b1⟩
        · have ck := (HW.out.cell (p := ⟨S, 1, none⟩) (World.block_lt_of_cell? _ _ H1.out)).trans H1.out
          have HG := Lib.hid hkg; clear hkg
          go_wp2_with (at_builtin; refine append_more _ rfl (.tmp 31) (.tmp 32) rfl w.heap.size (pre l r 1) r HO.out a' c' (HB'.out.below HW.out) HW.out.size (by simp [pre]; omega) rfl rfl ?_; rintro a1 c1 w1 n1 rfl o1 b1)
          go_roundg 0
          case measure => have := HG.out; omega
          case rel => exact ⟨2, by omega, rfl, Lib.hid (by simpa [pre] using o1), HW.out.trans b1⟩
        · clear hkg
          go_wp2_with fail
          go_ret
          have ho := HO.out
          rw [show pre l r 2 = l ++ r from rfl] at ho
          exact ⟨_, rfl, (bs_of_own ho).imp fun a3 ⟨c3, h3, _⟩ => ⟨c3, h3⟩, ho, HW.out⟩

theorem cells4 (s : Nat) (hs : s < 4294967296) : #[Value.int .u8 ((s : Int) / 16777216), .int .u8 ((s : Int) / 65536 % 256), .int .u8 ((s : Int) / 256 % 256), .int .u8 ((s : Int) % 256)] = bcells (Sha.bytes4 s) := by
  have e0 : ((s : Int) / 16777216) = ((UInt8.ofNat (s / 16777216)).toNat : Int) := by rw [UInt8.toNat_ofNat']; omega
  have e1 : ((s : Int) / 65536 % 256) = ((UInt8.ofNat (s / 65536)).toNat : Int) := by rw [UInt8.toNat_ofNat']; omega
  have e2 : ((s : Int) / 256 % 256) = ((UInt8.ofNat (s / 256)).toNat : Int) := by rw [UInt8.toNat_ofNat']; omega
  have e3 : ((s : Int) % 256) = ((UInt8.ofNat s).toNat : Int) := by rw [UInt8.toNat_ofNat']; omega
  rw [e0, e1, e2, e3]
  rfl

set_option maxHeartbeats 2000000 in
set_option maxRecDepth 100000 in
theorem sealW (l : List UInt8) {a : Option Addr} (c : Nat) (w : World) (hb : Bs w a l c) (hl : l.length ≤ 140737488351232) :
    Calls Tryz.prog 101 #[.slice a l.length c] w fun e w' => ∃ v, e = .returned v ∧ (∃ ar cr, v = .slice ar (Fp.sealB l).length cr) ∧ w'.ownsRow w.heap.size 5 1 v (Fp.sealB l).length (Lib.byteCells (Fp.sealB l)) ∧ Below w.heap.size w w' := by
  have HB := Lib.hid hb; clear hb
  obtain ⟨s, hs⟩ : ∃ s, s = Fp.fnv l := ⟨_, rfl⟩
  have hlt : s < 4294967296 := by rw [hs]; exact fnv_lt _
  have KS := Lib.hid (sum l c w HB.out hl)
  rw [← hs] at KS
  have HQ := Lib.hid (show Fp.sealB l = l ++ Sha.bytes4 s by rw [Fp.sealB, hs])
  clear hs
  have hb1 := (Below.refl w.heap.size w).alloc (Nat.le_refl _) (.cells (bcells (Sha.bytes4 s)) 5)
  have hb2 := hb1.alloc (by simp) (.cells #[.slice a l.length c, .slice (some ⟨w.heap.size, 0, none⟩) 4 4] 24)
  have hx : Bs ((w.alloc (.cells (bcells (Sha.bytes4 s)) 5)).alloc (.cells #[.slice a l.length c, .slice (some ⟨w.heap.size, 0, none⟩) 4 4] 24)) (some ⟨w.heap.size, 0, none⟩) (Sha.bytes4 s) 4 :=
    (ShaG.bs_box (heap_alloc_new w _) 4 (by simp [Sha.bytes4])).below ((Below.refl _ _).alloc (Nat.le_refl _) _)
  have hq : ((w.alloc (.cells (bcells (Sha.bytes4 s)) 5)).alloc (.cells #[.slice a l.length c, .slice (some ⟨w.heap.size, 0, none⟩) 4 4] 24)).heap[w.heap.size + 1]? = some (.cells #[.slice a l.length c, .slice (some ⟨w.heap.size, 0, none⟩) 4 4] 24 (0, 0)) := by
    have := heap_alloc_new (w.alloc (.cells (bcells (Sha.bytes4 s)) 5)) (.cells #[.slice a l.length c, .slice (some ⟨w.heap.size, 0, none⟩) 4 4] 24)
    rwa [World.size_alloc] at this
  have KC := Lib.hid (concat2 l (Sha.bytes4 s) (a := a) (a' := some ⟨w.heap.size, 0, none⟩) c 4 (w.heap.size + 1) _ (HB.out.below hb2) hx (by rw [Lib.cell_of_heap hq]; rfl) (by rw [Lib.cell_of_heap hq]; rfl) (by simp [Sha.bytes4]; omega) (by simp [Sha.bytes4]))
  clear hx hq hb1 hb2
  go_enter Tryz.func101, Tryz.ntmps101
  go_wp2_with (first
    | (go_at_call 120; refine KS.out.mono ?_; rintro e w1 ⟨rfl, rfl⟩)
    | (go_at_call 121; rw [cells4 s hlt]; refine KC.out.mono ?_; rintro e w2 ⟨v2, rfl, hv2, ho2, hb2⟩))
  go_ret
  rw [← HQ.out] at hv2 ho2
  exact ⟨_, rfl, hv2, own_down ho2 (by simp; omega), (((Below.refl w.heap.size w).alloc (Nat.le_refl _) _).alloc (by simp) _).trans (hb2.mono (by simp; omega))⟩
end Go.Proofs.YtecnnlppinhmgaaGreatDoor.FrB
namespace Go.Proofs.YtecnnlppinhmgaaGreatDoor.FrC
open Go.RowKit Go.Proofs.YtecnnlppinhmgaaGreatDoor Go.Proofs.YtecnnlppinhmgaaGreatDoor.HtW Go.Proofs.YtecnnlppinhmgaaGreatDoor.HtX Go.Proofs.YtecnnlppinhmgaaGreatDoor.App Go.Proofs.YtecnnlppinhmgaaGreatDoor.ShaF Go.Proofs.YtecnnlppinhmgaaGreatDoor.FrA Go.Proofs.YtecnnlppinhmgaaGreatDoor.FrB

/-- bytes that the call owns -/
def Own (base : Nat) (w : World) (v : Value) (l : List UInt8) : Prop := w.ownsRow base 5 1 v l.length (Lib.byteCells l)
theorem Own.below {base : Nat} {w w' : World} {v : Value} {l : List UInt8} (h : Own base w v l) (hb : Below w.heap.size w w') : Own base w' v l := Com.own_below h hb
theorem Own.down {base b : Nat} {w : World} {v : Value} {l : List UInt8} (h : Own base w v l) (hb : b ≤ base) : Own b w v l := own_down h hb
theorem Own.bs {base : Nat} {w : World} {v : Value} {l : List UInt8} (h : Own base w v l) : ∃ a c, v = .slice a l.length c ∧ Bs w a l c := bs_of_own h
theorem own_nil (base : Nat) (w : World) (hb : base ≤ w.heap.size) : Own base (w.alloc (.cells #[] 5)) (.slice (some ⟨w.heap.size, 0, none⟩) 0 0) [] :=
  ⟨rfl, .inr ⟨w.heap.size, 0, _, rfl, hb, heap_alloc_new _ _, Nat.le_refl _, by unfold maxLen; omega, rfl, rfl⟩⟩
theorem bs_one (w : World) (x : UInt8) : Bs (w.alloc (.cells #[.int .u8 (x.toNat : Int)] 5)) (some ⟨w.heap.size, 0, none⟩) [x] 1 :=
  ShaG.bs_box (l := [x]) (heap_alloc_new w _) 1 (Nat.le_refl _)
theorem enc_last {f m : Nat} (h : m < 128) : Fp.encF f m = [UInt8.ofNat m] := by
  cases f with
  | zero => rfl
  | succ f => rw [Fp.encF, if_pos h]

set_option maxHeartbeats 2000000 in
set_option maxRecDepth 100000 in
theorem num (n : Nat) (w : World) (hn : n < 9223372036854775808) :
    Calls Tryz.prog 25 #[.int .i64 (n : Int)] w fun e w' => ∃ v, e = .returned v ∧ Own w.heap.size w' v (Fp.enc n) ∧ Below w.heap.size w w' := by
  go_enter Tryz.func25, Tryz.ntmps25
  go_wp2_with fail
  go_loopg [0, 3] n (fun g v0 v3 wr => ∃ (m f : Nat) (O : List UInt8), m = g ∧ v0 = .int .i64 (m : Int) ∧ Hid (O ++ Fp.encF f m = Fp.enc n) ∧ m < 128 ^ (f + 1) ∧ O.length + f ≤ 8 ∧ Hid (Own w.heap.size wr v3 O) ∧ Hid (Below w.heap.size w wr))
  case atStart => exact ⟨n, 8, [], rfl, rfl, rfl, by simpa using hn, Nat.le_refl _, own_nil _ _ (Nat.le_refl _), (Below.refl _ _).alloc (Nat.le_refl _) _⟩
  case round =>
    obtain ⟨m, f, O, hmg, rfl, HE, hm, hO, HO, HW⟩ := hrel
    have HG := Lib.hid hmg; clear hmg
    have HM := Lib.hid hm; clear hm
    have hml : m < 9223372036854775808 := Nat.lt_of_lt_of_le HM.out (Nat.le_trans (Nat.pow_le_pow_right (by omega) (show f + 1 ≤ 9 by omega)) (by decide))
    have hal := (Below.refl wr.heap.size wr).alloc (Nat.le_refl _) (.cells #[.int .u8 ((m : Int) % 128)] 5)
    by_cases h0 : m < 128
    · have e0 : (((m : Int) / 128) == 0) = true := by rw [beq_iff_eq]; omega
      have HLN := Lib.hid (show O.length + 1 = (Fp.enc n).length by rw [← HE.out, enc_last h0]; simp)
      have hx : Bs (wr.alloc (.cells #[.int .u8 ((m : Int) % 128)] 5)) (some ⟨wr.heap.size, 0, none⟩) [UInt8.ofNat m] 1 := by
        have : ((m : Int) % 128) = ((UInt8.ofNat m).toNat : Int) := by rw [UInt8.toNat_ofNat']; omega
        rw [this]; exact bs_one _ _
      have HX := Lib.hid hx
      have HR := Lib.hid (show O ++ [UInt8.ofNat m] = Fp.enc n by rw [← HE.out, enc_last h0])
      have HAL := Lib.hid hal
      have H0 := Lib.hid h0
      clear h0 hx hal
      go_wp2_with (at_builtin; refine append_more _ rfl (.tmp 13) (.tmp 15) rfl w.heap.size O [UInt8.ofNat m] (HO.out.below HAL.out) (some ⟨wr.heap.size, 0, none⟩) 1 HX.out (by have := HW.out.size; simp; omega) (by simp; omega) rfl rfl ?_; rintro a1 c1 w1 n1 rfl o1 b1)
      go_ret
      rw [HR.out] at o1
      refine ⟨_, rfl, ?_, (HW.out.trans (HAL.out.mono HW.out.size)).trans b1⟩
      show Own _ _ (.slice a1 (O.length + 1) c1) _
      rw [HLN.out]
      exact o1
    · have e0 : (((m : Int) / 128) == 0) = false := by rw [beq_eq_false_iff_ne]; omega
      obtain ⟨f', rfl⟩ : ∃ f', f = f' + 1 := by
        cases f with
        | zero => exact absurd (by simpa using HM.out) h0
        | succ f => exact ⟨f, rfl⟩
      have ek : ((m : Int) % 128 + 128) = ((UInt8.ofNat (m % 128 + 128)).toNat : Int) := by rw [UInt8.toNat_ofNat']; omega
      have hal := (Below.refl wr.heap.size wr).alloc (Nat.le_refl _) (.cells #[.int .u8 ((m : Int) % 128 + 128)] 5)
      have hx : Bs (wr.alloc (.cells #[.int .u8 ((m : Int) % 128 + 128)] 5)) (some ⟨wr.heap.size, 0, none⟩) [UInt8.ofNat (m % 128 + 128)] 1 := by
        rw [ek]; exact bs_one _ _
      have HX := Lib.hid hx
      have HR := Lib.hid (show (O ++ [UInt8.ofNat (m % 128 + 128)]) ++ Fp.encF f' (m / 128) = Fp.enc n by rw [← HE.out, Fp.encF, if_neg h0, List.append_assoc]; rfl)
      have HAL := Lib.hid hal
      have HM2 := Lib.hid (show m / 128 < 128 ^ (f' + 1) by
        have := HM.out
        rw [Nat.pow_succ] at this
        exact Nat.div_lt_of_lt_mul (by rw [Nat.mul_comm]; exact this))
      have H0 := Lib.hid h0
      clear h0 hx hal ek
      go_wp2_with (at_builtin; refine append_more _ rfl (.tmp 17) (.tmp 20) rfl w.heap.size O [UInt8.ofNat (m % 128 + 128)] (HO.out.below HAL.out) (some ⟨wr.heap.size, 0, none⟩) 1 HX.out (by have := HW.out.size; simp; omega) (by simp; omega) rfl rfl ?_; rintro a1 c1 w1 n1 rfl o1 b1)
      go_roundg (m / 128)
      case measure => have := HG.out; have := H0.out; omega
      case rel => exact ⟨m / 128, f', O ++ [UInt8.ofNat (m % 128 + 128)], rfl, by simp, HR.out, HM2.out, by simp; omega, Lib.hid (by rw [show O.length + 1 = (O ++ [UInt8.ofNat (m % 128 + 128)]).length by simp]; exact o1), (HW.out.trans (HAL.out.mono HW.out.size)).trans b1⟩

set_option maxHeartbeats 2000000 in
set_option maxRecDepth 100000 in
theorem bytes (l : List UInt8) {a : Option Addr} (c : Nat) (w : World) (hb : Bs w a l c) (hl : l.length ≤ 140737488351232) :
    Calls Tryz.prog 26 #[.slice a l.length c] w fun e w' => ∃ v, e = .returned v ∧ Own w.heap.size w' v (Fp.enc l.length ++ l) ∧ Below w.heap.size w w' := by
  have HB := Lib.hid hb; clear hb
  have KN := Lib.hid (num l.length w (by omega))
  have he := Fp.enc_len l.length
  go_enter Tryz.func26, Tryz.ntmps26
  go_wp2_with (first
    | (go_at_call 25; refine KN.out.mono ?_; rintro e w1 ⟨v1, rfl, ho1, hb1⟩; have HO1 := Lib.hid ho1; have HB1 := Lib.hid hb1; clear ho1 hb1)
    | (at_builtin; refine append_more _ rfl (.tmp 5) (.tmp 6) rfl w.heap.size (Fp.enc l.length) l HO1.out a c (HB.out.below HB1.out) HB1.out.size (by omega) rfl rfl ?_; rintro a2 c2 w2 n2 - o2 b2))
  go_ret
  exact ⟨_, rfl, o2, HB1.out.trans b2⟩

set_option maxHeartbeats 2000000 in
set_option maxRecDepth 100000 in
theorem sealR (l : List UInt8) {a : Option Addr} (c : Nat) (w : World) (hb : Bs w a l c) (hl : l.length ≤ 140737488351232) :
    Calls Tryz.prog 27 #[.slice a l.length c] w fun e w' => ∃ v, e = .returned v ∧ Own w.heap.size w' v (Fp.sealB l) ∧ Below w.heap.size w w' := by
  have HB := Lib.hid hb; clear hb
  obtain ⟨s, hs⟩ : ∃ s, s = Fp.fnv l := ⟨_, rfl⟩
  have hlt : s < 4294967296 := by rw [hs]; exact fnv_lt _
  have KS := Lib.hid (refSum l c w HB.out hl)
  rw [← hs] at KS
  have HQ := Lib.hid (show Fp.sealB l = l ++ Sha.bytes4 s by rw [Fp.sealB, hs])
  clear hs
  have C2 : ([] : List UInt8).length + l.length ≤ 140737488355328 := by simp; omega
  have C3 : l.length + (Sha.bytes4 s).length ≤ 140737488355328 := by simp [Sha.bytes4]; omega
  have hal := (Below.refl w.heap.size w).alloc (Nat.le_refl _) (.cells #[] 5)
  have HAL := Lib.hid hal
  clear hal
  have OW := Lib.hid (own_nil w.heap.size w (Nat.le_refl _))
  go_enter Tryz.func27, Tryz.ntmps27
  go_wp2_with (first
    | (go_at_call 47; refine KS.out.mono ?_; rintro e w1 ⟨rfl, rfl⟩)
    | (at_builtin; refine append_more _ rfl (.tmp 6) (.tmp 7) rfl w.heap.size [] l OW.out a c (HB.out.below HAL.out) HAL.out.size C2 rfl rfl ?_; rintro a2 c2 w2 n2 rfl o2 b2; rw [List.nil_append] at o2; have HO2 := Lib.hid o2; have HB2 := Lib.hid (HAL.out.trans b2); clear o2 b2)
    | (at_builtin; rw [cells4 s hlt]; refine append_more _ rfl (.tmp 8) (.tmp 20) rfl w.heap.size l (Sha.bytes4 s) (Com.own_below HO2.out ((Below.refl _ _).alloc (Nat.le_refl _) _)) (some ⟨w2.heap.size, 0, none⟩) 4 (ShaG.bs_box (heap_alloc_new w2 _) 4 (by simp [Sha.bytes4])) (by have := HB2.out.size; simp; omega) C3 rfl rfl ?_; rintro a3 c3 w3 n3 - o3 b3))
  go_ret
  rw [← HQ.out] at o3
  exact ⟨_, rfl, o3, (HB2.out.alloc HB2.out.size _).trans b3⟩
end Go.Proofs.YtecnnlppinhmgaaGreatDoor.FrC
namespace Go.Proofs.YtecnnlppinhmgaaGreatDoor.Dp
open Go.WideShapes Go.Maps Go.Sort

structure File where
  bytes : List UInt8
  safe : List UInt8
  kept : Bool
deriving DecidableEq
abbrev Files := List (List UInt8 × File)

def look : Files → List UInt8 → Option File
  | [], _ => none
  | p :: r, n => if p.1 = n then some p.2 else look r n
def put : Files → List UInt8 → File → Files
  | [], n, f => [(n, f)]
  | p :: r, n, f => if n < p.1 then (n, f) :: p :: r else if p.1 = n then (n, f) :: r else p :: put r n f
def del : Files → List UInt8 → Files
  | [], _ => []
  | p :: r, n => if p.1 = n then del r n else p :: del r n
def crash : Files → Files
  | [] => []
  | p :: r => if p.2.kept then (p.1, ⟨p.2.safe, p.2.safe, true⟩) :: crash r else crash r
def names (M : Files) : List (List UInt8) := M.map (·.1)
def Up (M : Files) : Prop := M.Pairwise fun p q => p.1 < q.1

theorem look_put_same (M : Files) (n : List UInt8) (f : File) : look (put M n f) n = some f := by
  induction M with
  | nil => simp [put, look]
  | cons p r ih =>
    unfold put
    split
    · simp [look]
    · split
      · simp [look]
      · rename_i h; simp [look, h, ih]
theorem look_put_other (M : Files) (n m : List UInt8) (f : File) (h : m ≠ n) : look (put M n f) m = look M m := by
  induction M with
  | nil => simp [put, look, Ne.symm h]
  | cons p r ih =>
    unfold put
    split
    · simp [look, Ne.symm h]
    · split
      · rename_i e; subst e; simp [look, Ne.symm h]
      · simp [look, ih]
theorem look_del_same (M : Files) (n : List UInt8) : look (del M n) n = none := by
  induction M with
  | nil => rfl
  | cons p r ih =>
    unfold del
    split
    · exact ih
    · rename_i h; simp [look, h, ih]
theorem look_del_other (M : Files) (n m : List UInt8) (h : m ≠ n) : look (del M n) m = look M m := by
  induction M with
  | nil => rfl
  | cons p r ih =>
    unfold del
    split
    · rename_i e; subst e; simp [look, ih, Ne.symm h]
    · simp [look, ih]
theorem put_mem {M : Files} {n : List UInt8} {f : File} {p : List UInt8 × File} (h : p ∈ put M n f) : p = (n, f) ∨ p ∈ M := by
  induction M with
  | nil => simpa [put] using h
  | cons q r ih =>
    unfold put at h
    split at h
    · simpa using h
    · split at h
      · rcases List.mem_cons.1 h with h | h
        · exact .inl h
        · exact .inr (List.mem_cons_of_mem _ h)
      · rcases List.mem_cons.1 h with h | h
        · exact .inr (h ▸ List.mem_cons_self)
        · rcases ih h with h | h
          · exact .inl h
          · exact .inr (List.mem_cons_of_mem _ h)
theorem del_mem {M : Files} {n : List UInt8} {p : List UInt8 × File} (h : p ∈ del M n) : p ∈ M := by
  induction M with
  | nil => cases h
  | cons q r ih =>
    unfold del at h
    split at h
    · exact List.mem_cons_of_mem _ (ih h)
    · rcases List.mem_cons.1 h with h | h
      · exact h ▸ List.mem_cons_self
      · exact List.mem_cons_of_mem _ (ih h)
theorem up_put {M : Files} (h : Up M) (n : List UInt8) (f : File) : Up (put M n f) := by
  induction M with
  | nil => simp [put, Up]
  | cons p r ih =>
    obtain ⟨h1, h2⟩ := List.pairwise_cons.1 h
    unfold put
    split
    · rename_i hlt
      refine List.pairwise_cons.2 ⟨fun q hq => ?_, h⟩
      rcases List.mem_cons.1 hq with rfl | hq
      · exact hlt
      · exact List.lt_trans hlt (h1 q hq)
    · split
      · rename_i e
        subst e
        exact List.pairwise_cons.2 ⟨h1, h2⟩
      · rename_i a b
        refine List.pairwise_cons.2 ⟨fun q hq => ?_, ih h2⟩
        rcases put_mem hq with rfl | hq
        · by_cases hlt : p.1 < n
          · exact hlt
          · exact absurd (List.le_antisymm (List.not_lt.1 a) (List.not_lt.1 hlt)) b
        · exact h1 q hq
theorem up_del {M : Files} (h : Up M) (n : List UInt8) : Up (del M n) := by
  induction M with
  | nil => exact h
  | cons p r ih =>
    obtain ⟨h1, h2⟩ := List.pairwise_cons.1 h
    unfold del
    split
    · exact ih h2
    · exact List.pairwise_cons.2 ⟨fun q hq => h1 q (del_mem hq), ih h2⟩
theorem look_none {M : Files} {n : List UInt8} (h : ∀ p ∈ M, p.1 ≠ n) : look M n = none := by
  induction M with
  | nil => rfl
  | cons p r ih => simp [look, h p List.mem_cons_self, ih fun q hq => h q (List.mem_cons_of_mem _ hq)]
theorem look_some {M : Files} {n : List UInt8} {f : File} (h : look M n = some f) : (n, f) ∈ M := by
  induction M with
  | nil => cases h
  | cons p r ih =>
    unfold look at h
    split at h
    · rename_i e
      obtain rfl : p.2 = f := by simpa using h
      subst e
      exact List.mem_cons_self
    · exact List.mem_cons_of_mem _ (ih h)
theorem look_of_mem {M : Files} (hu : Up M) {n : List UInt8} {f : File} (h : (n, f) ∈ M) : look M n = some f := by
  induction M with
  | nil => cases h
  | cons p r ih =>
    obtain ⟨h1, h2⟩ := List.pairwise_cons.1 hu
    unfold look
    rcases List.mem_cons.1 h with rfl | h
    · simp
    · have := h1 _ h
      rw [if_neg (fun e => List.lt_irrefl n (by rw [e] at this; exact this))]
      exact ih h2 h
theorem length_put (M : Files) (hu : Up M) (n : List UInt8) (f : File) : (put M n f).length = if (look M n).isSome then M.length else M.length + 1 := by
  induction M with
  | nil => simp [put, look]
  | cons p r ih =>
    obtain ⟨h1, h2⟩ := List.pairwise_cons.1 hu
    unfold put look
    split
    · rename_i hlt
      have e1 : p.1 ≠ n := fun e => List.lt_irrefl n (by rw [e] at hlt; exact hlt)
      have e2 : look r n = none := look_none fun q hq e => List.lt_irrefl n (by
        have := List.lt_trans hlt (h1 q hq)
        rw [e] at this
        exact this)
      simp [e1, e2]
    · split
      · rename_i e; simp
      · rename_i e
        simp only [List.length_cons, ih h2]
        split <;> simp_all
theorem length_del (M : Files) (hu : Up M) (n : List UInt8) : (del M n).length + (if (look M n).isSome then 1 else 0) = M.length := by
  induction M with
  | nil => simp [del, look]
  | cons p r ih =>
    obtain ⟨h1, h2⟩ := List.pairwise_cons.1 hu
    unfold del look
    have ih := ih h2
    split
    · rename_i e
      have e2 : look r n = none := look_none fun q hq e' => List.lt_irrefl n (by
        have := h1 q hq
        rw [e, e'] at this
        exact this)
      rw [e2] at ih
      simp at ih ⊢
      exact ih
    · simp only [List.length_cons]; omega
theorem nodup_names {M : Files} (hu : Up M) : (names M).Nodup := by
  refine List.pairwise_map.2 (List.Pairwise.imp (fun {p q : List UInt8 × File} (h : p.1 < q.1) => ?_) hu)
  intro e
  rw [e] at h
  exact List.lt_irrefl q.1 h
theorem mem_names {M : Files} {n : List UInt8} : n ∈ names M ↔ (look M n).isSome = true := by
  induction M with
  | nil => simp [names, look]
  | cons p r ih =>
    unfold names at ih
    simp only [names, List.map_cons, List.mem_cons, ih, look]
    split
    · rename_i e; simp [e]
    · rename_i e; simp [Ne.symm e]
theorem sorted_names {M : Files} (hu : Up M) : (names M).mergeSort (fun x y => decide (x ≤ y)) = names M :=
  List.mergeSort_of_pairwise (List.pairwise_map.2 (hu.imp fun {p q} h => by simpa using List.le_of_lt h))

/-- the map's reading is that list; each file's value stands for it by Q -/
structure Tie (Q : Value → File → Prop) (D : DataW Value) (M : Files) : Prop where
  up : Up M
  tidy : Tidy D
  size : size D = M.length
  miss : ∀ n, look M n = none → has D (.string n) = false
  hit : ∀ n f, look M n = some f → has D (.string n) = true ∧ ∃ v, (∀ z, D.atKey (.string n) z = .held v) ∧ Q v f

theorem isKey (n : List UInt8) : WideAt.IsKeyLit (.string n) := by simp [WideAt.IsKeyLit]
theorem lit_ne {n m : List UInt8} (h : n ≠ m) : Lit.string n ≠ .string m := fun e => h (by simpa using e)

theorem Tie.empty (Q : Value → File → Prop) : Tie Q (.map []) [] :=
  ⟨List.Pairwise.nil, tidy_empty, rfl, fun _ _ => rfl, fun _ _ h => by cases h⟩
theorem Tie.mono {Q Q' : Value → File → Prop} {D : DataW Value} {M : Files} (h : Tie Q D M) (hq : ∀ v f, Q v f → Q' v f) : Tie Q' D M :=
  ⟨h.up, h.tidy, h.size, h.miss, fun n f hf => let ⟨a, v, b, c⟩ := h.hit n f hf; ⟨a, v, b, hq v f c⟩⟩
theorem Tie.has {Q : Value → File → Prop} {D : DataW Value} {M : Files} (h : Tie Q D M) (n : List UInt8) : has D (.string n) = (look M n).isSome := by
  cases e : look M n with
  | none => exact h.miss n e
  | some f => exact (h.hit n f e).1
theorem Tie.put {Q : Value → File → Prop} {D : DataW Value} {M : Files} (h : Tie Q D M) {n : List UInt8} {v : Value} {f : File} (hv : Q v f) : Tie Q (D.put (.string n) (.held v)) (put M n f) := by
  refine ⟨up_put h.up n f, h.tidy.put (isKey n) _, ?_, fun m hm => ?_, fun m g hg => ?_⟩
  · rw [size_put h.tidy, length_put M h.up, h.has n, h.size]
  · by_cases e : m = n
    · subst e; rw [look_put_same] at hm; cases hm
    · rw [look_put_other _ _ _ _ e] at hm
      rw [has_put_other (lit_ne e)]
      exact h.miss m hm
  · by_cases e : m = n
    · subst e
      rw [look_put_same] at hg
      obtain rfl : f = g := by simpa using hg
      exact ⟨has_put_same h.tidy.isMap (isKey m) _, v, fun z => atKey_put_same h.tidy.isMap (isKey m) _ z, hv⟩
    · rw [look_put_other _ _ _ _ e] at hg
      obtain ⟨a, v', b, c⟩ := h.hit m g hg
      exact ⟨by rw [has_put_other (lit_ne e)]; exact a, v', fun z => by rw [atKey_put_other (lit_ne e)]; exact b z, c⟩
theorem Tie.del {Q : Value → File → Prop} {D : DataW Value} {M : Files} (h : Tie Q D M) (n : List UInt8) : Tie Q (D.del (.string n)) (del M n) := by
  refine ⟨up_del h.up n, h.tidy.del _, ?_, fun m hm => ?_, fun m g hg => ?_⟩
  · have h1 := size_del (k := .string n) h.tidy
    have h2 := length_del M h.up n
    rw [h.has n, h.size] at h1
    omega
  · by_cases e : m = n
    · subst e; exact has_del_same
    · rw [look_del_other _ _ _ e] at hm
      rw [has_del_other (lit_ne e)]
      exact h.miss m hm
  · by_cases e : m = n
    · subst e; rw [look_del_same] at hg; cases hg
    · rw [look_del_other _ _ _ e] at hg
      obtain ⟨a, v', b, c⟩ := h.hit m g hg
      exact ⟨by rw [has_del_other (lit_ne e)]; exact a, v', fun z => by rw [atKey_del_other (lit_ne e)]; exact b z, c⟩
/-- the keys, sorted, are the names -/
theorem Tie.sorted {Q : Value → File → Prop} {es : List (Lit × DataW Value)} {M : Files} (h : Tie Q (.map es) M) (hk : ∀ p ∈ es, ∃ x, p.1 = .string x) {ss : List (List UInt8)} (hp : ss.Perm (strKeys (.map es))) :
    ss.mergeSort (fun x y => decide (x ≤ y)) = names M := by
  obtain ⟨es', he, hap⟩ := h.tidy
  obtain rfl : es = es' := by simpa using he
  have h1 : (names M).Perm (strKeys (.map es)) := perm_strKeys hap hk (nodup_names h.up) fun x => by rw [h.has x]; exact mem_names
  rw [mergeSort_of_perm (hp.trans h1.symm)]
  exact sorted_names h.up

theorem crash_names {M : Files} {p : List UInt8 × File} (h : p ∈ crash M) : ∃ q ∈ M, q.1 = p.1 := by
  induction M with
  | nil => cases h
  | cons q r ih =>
    unfold crash at h
    split at h
    · rcases List.mem_cons.1 h with rfl | h
      · exact ⟨q, List.mem_cons_self, rfl⟩
      · obtain ⟨x, hx, e⟩ := ih h; exact ⟨x, List.mem_cons_of_mem _ hx, e⟩
    · obtain ⟨x, hx, e⟩ := ih h; exact ⟨x, List.mem_cons_of_mem _ hx, e⟩


theorem put_mid {B r : Files} {n : List UInt8} {g : File} (f : File) (h : ∀ q ∈ B, q.1 < n) : put (B ++ (n, g) :: r) n f = B ++ (n, f) :: r := by
  induction B with
  | nil => simp [put, List.lt_irrefl]
  | cons q B ih =>
    have h1 := h q List.mem_cons_self
    rw [List.cons_append, put, if_neg (fun h2 => List.lt_irrefl _ (List.lt_trans h1 h2)), if_neg (fun e => List.lt_irrefl n (by rw [e] at h1; exact h1)), ih fun q hq => h q (List.mem_cons_of_mem _ hq)]
    rfl
theorem del_none {r : Files} {n : List UInt8} (h : ∀ q ∈ r, q.1 ≠ n) : del r n = r := by
  induction r with
  | nil => rfl
  | cons q r ih => rw [del, if_neg (h q List.mem_cons_self), ih fun q hq => h q (List.mem_cons_of_mem _ hq)]
theorem del_mid {B r : Files} {n : List UInt8} {g : File} (h : ∀ q ∈ B, q.1 < n) (h2 : ∀ q ∈ r, n < q.1) : del (B ++ (n, g) :: r) n = B ++ r := by
  induction B with
  | nil =>
    rw [List.nil_append, del, if_pos rfl]
    exact del_none fun q hq e => List.lt_irrefl n (by have := h2 q hq; rw [e] at this; exact this)
  | cons q B ih =>
    have h1 := h q List.mem_cons_self
    rw [List.cons_append, del, if_neg (fun e => List.lt_irrefl n (by rw [e] at h1; exact h1)), ih fun q hq => h q (List.mem_cons_of_mem _ hq)]
    rfl
theorem look_mid {B r : Files} {n : List UInt8} {g : File} (h : ∀ q ∈ B, q.1 < n) : look (B ++ (n, g) :: r) n = some g := by
  induction B with
  | nil => simp [look]
  | cons q B ih =>
    have h1 := h q List.mem_cons_self
    rw [List.cons_append, look, if_neg (fun e => List.lt_irrefl n (by rw [e] at h1; exact h1)), ih fun q hq => h q (List.mem_cons_of_mem _ hq)]
theorem crash_append (A B : Files) : crash (A ++ B) = crash A ++ crash B := by
  induction A with
  | nil => rfl
  | cons p A ih => rw [List.cons_append, crash, crash]; split <;> simp [ih]
/-- one round of a crash -/
theorem crash_round {A r : Files} {p : List UInt8 × File} (hu : Up (A ++ p :: r)) :
    look (crash A ++ p :: r) p.1 = some p.2 ∧
    (p.2.kept = true → put (crash A ++ p :: r) p.1 ⟨p.2.safe, p.2.safe, true⟩ = crash (A ++ [p]) ++ r) ∧
    (p.2.kept = false → del (crash A ++ p :: r) p.1 = crash (A ++ [p]) ++ r) := by
  obtain ⟨h1, h2, h3⟩ := List.pairwise_append.1 hu
  obtain ⟨h4, h5⟩ := List.pairwise_cons.1 h2
  have hA : ∀ q ∈ crash A, q.1 < p.1 := fun q hq => by
    obtain ⟨x, hx, e⟩ := crash_names hq
    rw [← e]
    exact h3 x hx p List.mem_cons_self
  refine ⟨look_mid hA, fun hk => ?_, fun hk => ?_⟩
  · rw [crash_append, show p = (p.1, p.2) from rfl, put_mid _ hA]
    simp [crash, hk]
  · rw [crash_append, show p = (p.1, p.2) from rfl, del_mid hA h4]
    simp [crash, hk]
end Go.Proofs.YtecnnlppinhmgaaGreatDoor.Dp
