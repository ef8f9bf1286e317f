/-
  The walk of the document's keyed digest (bollardref04.Sum). The walks of the documents' Decimal and Signed. The walks of the document's derived keys, digits and signature.
-/
import Derived.Test.YtidflagmdabfaaaGreatDoorSg01
import Derived.Test.YtidflagmdabfaaaGreatDoorSg07
import Derived.Test.YtidflagmdabfaaaGreatDoorSg08
import Derived.Test.YtidflagmdabfaaaGreatDoorSg09
import Derived.Test.YtidflagmdabfaaaGreatDoorSg10
import Derived.Test.YtidflagmdabfaaaGreatDoorSc05
import Derived.Deep.CutRange
import Derived.WalkKit
import Derived.WalkSpells
import Derived.WalkLawsBesides
import Derived.WalkSmall
import Derived.Outline
import Derived.Deep.LoopGhost
import Derived.Lib.Hide
import Derived.Test.YtidflagmdabfaaaGreatDoorProg
namespace Go.Proofs.YtidflagmdabfaaaGreatDoor.RsM
open Go.RowKit Go.Proofs.YtidflagmdabfaaaGreatDoor Go.Proofs.YtidflagmdabfaaaGreatDoor.Sha Go.Proofs.YtidflagmdabfaaaGreatDoor.ShaA Go.Proofs.YtidflagmdabfaaaGreatDoor.ShaB Go.Proofs.YtidflagmdabfaaaGreatDoor.HtW Go.Proofs.YtidflagmdabfaaaGreatDoor.Lf Go.Proofs.YtidflagmdabfaaaGreatDoor.ShaF Go.Proofs.YtidflagmdabfaaaGreatDoor.ShaG Go.Proofs.YtidflagmdabfaaaGreatDoor.ShaI Go.Proofs.YtidflagmdabfaaaGreatDoor.App

theorem madeB : madeCells #[.int .u8 0] 64 = bcells (List.replicate 64 0) := by
  have h : bcells (List.replicate 64 0) = Array.replicate 64 (.int .u8 0) := by rfl
  rw [h]
  refine Array.ext (by simp [madeCells]) fun i h1 h2 => ?_
  simp [madeCells, Nat.mod_one]
/-- a list while it is laid over zeros -/
def ft (l : List UInt8) (i : Nat) : List UInt8 := l.take i ++ List.replicate (64 - i) 0
theorem ft_zero (l : List UInt8) : ft l 0 = List.replicate 64 0 := rfl
theorem ft_all {l : List UInt8} (h : l.length = 64) : ft l 64 = l := by
  unfold ft
  rw [List.take_of_length_le (by omega)]
  exact List.append_nil _
theorem ft_length {l : List UInt8} (h : l.length = 64) {i : Nat} (hi : i ≤ 64) : (ft l i).length = 64 := by
  unfold ft
  rw [List.length_append, List.length_take, List.length_replicate]
  omega
/-- a row of bytes of its own -/
def Row (P : Nat) (w : World) (l : List UInt8) : Prop := w.heap[P]? = some (.cells (bcells l) 5 (0, 0))
theorem Row.lt {P : Nat} {w : World} {l : List UInt8} (h : Row P w l) : P < w.heap.size := (Array.getElem?_eq_some_iff.1 h).1
theorem Row.cell {P : Nat} {w : World} {l : List UInt8} (h : Row P w l) {i : Nat} {b : UInt8} (hi : l[i]? = some b) : w.cell? ⟨P, i, none⟩ = some (.int .u8 (b.toNat : Int)) := by
  rw [Lib.cell_of_heap h]
  unfold bcells
  rw [List.getElem?_toArray]
  exact bc_get hi
theorem Row.free {P : Nat} {w : World} {l : List UInt8} (h : Row P w l) (i : Nat) : w.frozen? ⟨P, i, none⟩ = false := Lib.frozen_of_heap h i
theorem Row.put {P : Nat} {w : World} {l : List UInt8} (h : Row P w l) (i : Nat) (b : UInt8) : Row P (w.setCell ⟨P, i, none⟩ (.int .u8 (b.toNat : Int))) (l.set i b) := by
  refine (heap_setCell_same w P i _ _ _ h).trans ?_
  unfold bcells Lib.byteCells
  simp [List.map_set]
theorem Row.other {P : Nat} {w : World} {l : List UInt8} (h : Row P w l) {q : Addr} (hq : P ≠ q.block) (v : Value) : Row P (w.setCell q v) l := (Below.heap_setCell _ _ _ _ hq).trans h
theorem Row.below {P : Nat} {w w' : World} {l : List UInt8} (h : Row P w l) (hb : Below w.heap.size w w') : Row P w' l := (hb.block _ h.lt).trans h
theorem ft_set {l : List UInt8} {i : Nat} {x : UInt8} (hx : l[i]? = some x) (hi : i < 64) : (ft l i).set i x = ft l (i + 1) := by
  have hl := (List.getElem?_eq_some_iff.1 hx).1
  unfold ft
  rw [List.set_append_right _ _ (by rw [List.length_take]; omega), List.length_take, Nat.min_eq_left (Nat.le_of_lt hl), Nat.sub_self]
  obtain ⟨n, hn⟩ : ∃ n, 64 - i = n + 1 := ⟨63 - i, by omega⟩
  rw [hn, show 64 - (i + 1) = n by omega, List.take_add_one, hx, List.append_assoc]
  rfl
theorem ft_own {l : List UInt8} (h : l.length = 64) {i : Nat} (hi : i < 64) : (ft l i)[i]? = some 0 := by
  unfold ft
  rw [List.getElem?_append_right (by rw [List.length_take]; omega), List.length_take, Nat.min_eq_left (by omega), Nat.sub_self]
  obtain ⟨n, hn⟩ : ∃ n, 64 - i = n + 1 := ⟨63 - i, by omega⟩
  rw [hn]
  rfl
theorem Row.own {P : Nat} {w : World} {l : List UInt8} (h : Row P w l) (hl : l.length = 64) {base : Nat} (hb : base ≤ P) : w.ownsRow base 5 1 (.slice (some ⟨P, 0, none⟩) 64 64) l.length (Lib.byteCells l) := by
  refine ⟨by rw [HtX.byteCells_length, Nat.mul_one], .inr ⟨P, 64, bcells l, by rw [hl], hb, h, by omega, by unfold maxLen; omega, by rw [bcells_size, hl], ?_⟩⟩
  rw [Nat.mul_one, List.take_of_length_le (by rw [Array.length_toList, bcells_size]; exact Nat.le_refl _)]
  rfl

theorem rows_a {w : World} {Z : Array Value} (h : Z = bcells (List.replicate 64 0)) {l : List UInt8} : Row w.heap.size (((w.alloc (.cells Z 5)).alloc (.cells Z 5)).drew) (ft l 0) := by
  subst h
  exact (Below.heap_alloc _ _ _ (by simp)).trans (heap_alloc_new _ _)
theorem rows_b {w : World} {Z : Array Value} (h : Z = bcells (List.replicate 64 0)) {l : List UInt8} : Row (w.heap.size + 1) (((w.alloc (.cells Z 5)).alloc (.cells Z 5)).drew) (ft l 0) := by
  subst h
  have := heap_alloc_new (w.alloc (.cells (bcells (List.replicate 64 0)) 5)) (.cells (bcells (List.replicate 64 0)) 5)
  rw [World.size_alloc] at this
  exact this
theorem short_key {k : List UInt8} (h : ¬ 64 < k.length) : k ++ List.replicate (64 - k.length) 0 = key64 k := by
  rw [← ShaH.key_short h, ShaH.zeros_drop]
theorem long_key {k : List UInt8} (h : 64 < k.length) : sha k ++ List.replicate (64 - (sha k).length) 0 = key64 k := by
  rw [← ShaH.key_long h, ShaH.zeros_drop]
theorem block_at {k k' : List UInt8} (x : UInt8) (h : k' ++ List.replicate (64 - k'.length) 0 = key64 k) {n : Nat} {b : UInt8} (hb : k'[n]? = some b) : (block k x)[n]? = some (b ^^^ x) := by
  unfold block
  rw [List.getElem?_map, ← h, List.getElem?_append_left (List.getElem?_eq_some_iff.1 hb).1, hb]
  rfl
theorem block_at0 {k k' : List UInt8} (x : UInt8) (h : k' ++ List.replicate (64 - k'.length) 0 = key64 k) {n : Nat} (hn : ¬ n < k'.length) (h64 : n < 64) : (block k x)[n]? = some (0 ^^^ x) := by
  unfold block
  rw [List.getElem?_map, ← h, List.getElem?_append_right (by omega), List.getElem?_replicate, if_pos (by omega)]
  rfl

set_option maxHeartbeats 4000000 in
set_option maxRecDepth 100000 in
theorem rmac (k m : List UInt8) {a am : Option Addr} (c cm : Nat) (w : World) (hb : Bs w a k c) (hm : Bs w am m cm) (hl : k.length ≤ 140737488350000) (hlm : m.length ≤ 140737488340000) :
    Calls Tryz.prog 83 #[.slice a k.length c, .slice am m.length cm] w fun e w' => e = .returned (.agg (bcells (mac k m))) ∧ Below w.heap.size w w' := by
  have HB := Lib.hid hb; clear hb
  have HM := Lib.hid hm; clear hm
  have h54 := block_length k 54
  have h92 := block_length k 92
  go_enter Tryz.func83, Tryz.ntmps83
  go_upto_if 13 with fail
  generalize hW1 : w.alloc _ = W1
  obtain ⟨o1, ho1, hO1⟩ : ∃ o : Array Value, o.size = 32 ∧ W1.heap[w.heap.size]? = some (.cells o 128 (0, 0)) := by rw [← hW1]; exact ⟨_, rfl, heap_alloc_new _ _⟩
  have hB1 : Below w.heap.size w W1 := by rw [← hW1]; exact (Below.refl _ _).alloc (Nat.le_refl _) _
  have hz1 : w.heap.size < W1.heap.size := (Array.getElem?_eq_some_iff.1 hO1).1
  have HB1 := Lib.hid (HB.out.below hB1)
  have HM1 := Lib.hid (HM.out.below hB1)
  have HO1 := Lib.hid hO1
  have HBW := Lib.hid hB1
  obtain ⟨N, hN⟩ : ∃ N, N = w.heap.size := ⟨_, rfl⟩
  rw [← hN] at HO1 HBW hz1 ⊢
  have HN := Lib.hid hN
  clear hW1 hO1 hB1 hN HB HM
  go_cut [0] from 11 to 18 (fun v0 wc => ∃ (k' : List UInt8) (a' : Option Addr) (c' : Nat), v0 = .slice a' k'.length c' ∧ Hid (k' ++ List.replicate (64 - k'.length) 0 = key64 k) ∧ k'.length ≤ 64 ∧ Hid (Bs wc a' k' c') ∧ Hid (Below W1.heap.size W1 wc))
  case first =>
    by_cases hk : 64 < k.length
    · have HK := Lib.hid (long_key hk)
      have hsl := sha_length k
      have hk' : (64 : Int) < (k.length : Int) := by omega
      obtain ⟨V, hV⟩ : ∃ V, V = sha k := ⟨_, rfl⟩
      rw [← hV] at hsl HK
      have KS := Lib.hid (RsB.sum k c W1 HB1.out hl)
      rw [← hV] at KS
      clear hV hk
      go_wp2_with (first
        | (go_at_call 76; refine KS.out.mono ?_; rintro e w2 ⟨rfl, hb2⟩)
        | (guard_target =~ wpList _ _ _ ({ dst := _, op := Op.store 128 _ _, type := _, pos := _, after := _, guard := none } :: _) _ _; refine store32 rfl _ _ rfl V hsl rfl rfl rfl ?_; intro w3 z3 h3 hb3; clear z3)
        | (at_builtin; refine append_more _ rfl (.tmp 16) (.tmp 17) rfl w3.heap.size [] V (HtX.own_fresh w3 _ (Nat.le_refl _)) (some ⟨w2.heap.size, 0, none⟩) 32 ((bs_box h3 32 (Nat.le_of_eq hsl)).below ((Below.refl _ _).alloc (Nat.le_refl _) _)) (by simp) (by simp; omega) rfl (by rw [hsl]; rfl) ?_; intro ar cr w4 n4 hn4 ho4 hb4; rw [List.nil_append] at hn4 ho4; subst hn4))
      go_meet
      case rel =>
        have hz3 := hb3.size
        have hz2 := hb2.size
        exact ⟨V, ar, cr, by rw [hsl], HK, by omega, (HtX.bs_own ho4).1, (hb2.trans (hb3.mono hz2)).trans ((((Below.refl w3.heap.size w3).alloc (Nat.le_refl _) _).trans hb4).mono (by omega))⟩
    · have HK := Lib.hid (short_key hk)
      have hk' : ¬ (64 : Int) < (k.length : Int) := by omega
      go_wp2_with fail
      go_meet
      case rel => exact ⟨k, a, c, rfl, HK, by omega, HB1.out, Below.refl _ _⟩
  case rest =>
    obtain ⟨k', a', c', rfl, HK, hk64, HB2, HU2⟩ := hcut
    obtain ⟨w5, hw5⟩ : ∃ w5, w5 = wc := ⟨_, rfl⟩
    subst hw5
    obtain ⟨Z, hZ⟩ : ∃ Z, Z = bcells (List.replicate 64 0) := ⟨_, rfl⟩
    have hmk : ∀ w : World, (Instr.makeSlice 23 (.int .i64 64) (.int .i64 64)).run Tryz.prog w = .ok (.slice (some ⟨w.heap.size, 0, none⟩) 64 64) (w.alloc (.cells Z 5)) := fun w => by
      have := run_make_row' (P := Tryz.prog) 23 5 (.int .u8 0) 1 Tryz.underlying23 (by kernel_rfl) rfl .i64 .i64 64 (by decide) (by decide) w
      rw [madeB, ← hZ] at this
      exact this
    have HZ := Lib.hid hZ; clear hZ
    go_upto_region 4 with fail
    go_cut [6, 7] from 19 to 20 (fun v6 v7 wx => ∃ P Q : Nat, v6 = .slice (some ⟨P, 0, none⟩) 64 64 ∧ v7 = .slice (some ⟨Q, 0, none⟩) 64 64 ∧ P ≠ Q ∧ w5.heap.size ≤ P ∧ w5.heap.size ≤ Q ∧ Hid (Row P wx (ft (block k 54) 0)) ∧ Hid (Row Q wx (ft (block k 92) 0)) ∧ Hid (Below w5.heap.size w5 wx))
    case first =>
      go_region
      all_goals
        go_wp2_with fail
        go_meet
      all_goals
        first
          | exact ⟨w5.heap.size, w5.heap.size + 1, rfl, rfl, by omega, Nat.le_refl _, by omega, rows_a HZ.out, rows_b HZ.out, (((Below.refl _ _).alloc (Nat.le_refl _) _).alloc (by simp) _).drew⟩
          | exact ⟨w5.heap.size + 1, w5.heap.size, rfl, rfl, by omega, by omega, Nat.le_refl _, rows_b HZ.out, rows_a HZ.out, (((Below.refl _ _).alloc (Nat.le_refl _) _).alloc (by simp) _).drew⟩
    case rest =>
      clear hmk
      obtain ⟨P, Q, rfl, rfl, hPQ, hP, hQ, HP, HQ, HU3⟩ := hcut
      have HB3 := Lib.hid (HB2.out.below HU3.out)
      go_wp2_with fail
      go_loopg [23] 64 (fun g v wr => ∃ n : Nat, n + g = 64 ∧ v = .int .i64 n ∧ Hid (Row P wr (ft (block k 54) n)) ∧ Hid (Row Q wr (ft (block k 92) n)) ∧ Hid (Below w5.heap.size w5 wr))
      case atStart => exact ⟨0, by omega, rfl, HP, HQ, HU3⟩
      case round =>
        clear HP HQ HU3 HB3
        obtain ⟨n, hng, rfl, HP, HQ, HU⟩ := hrel
        have HG := Lib.hid hng
        have hQP : ¬ Q = P := fun h => hPQ h.symm
        by_cases hlt : n < 64
        · have c1 := HP.out.cell (ft_own h54 hlt)
          have c2 := HQ.out.cell (ft_own h92 hlt)
          have f1 := HP.out.free n
          have f2 := HQ.out.free n
          have hpl := HP.out.lt
          have hql := HQ.out.lt
          have y0 : (0 : Int) ≤ (n : Int) := by omega
          have y1 : (n : Int) < 64 := by omega
          by_cases hk : n < k'.length
          · obtain ⟨x, hx⟩ : ∃ x, k'[n]? = some x := ⟨_, List.getElem?_eq_getElem hk⟩
            have hb4 := HB2.out.below HU.out
            obtain ⟨gk', ok', hak, hgk, hck⟩ := Hex.bs_at hb4 hx
            subst hak
            have y2 : (n : Int) < (k'.length : Int) := by omega
            have HV1 := Lib.hid (show bits .xor .u8 (x.toNat : Int) 54 = ((x ^^^ 54).toNat : Int) from ShaH.xor8 x 54)
            have HV2 := Lib.hid (show bits .xor .u8 (x.toNat : Int) 92 = ((x ^^^ 92).toNat : Int) from ShaH.xor8 x 92)
            have HPP := Lib.hid (show Row P ((wr.setCell ⟨P, n, none⟩ (.int .u8 ((x ^^^ 54).toNat : Int))).setCell ⟨Q, n, none⟩ (.int .u8 ((x ^^^ 92).toNat : Int))) (ft (block k 54) (n + 1)) by
              have := HP.out.put n (x ^^^ 54)
              rw [ft_set (block_at 54 HK.out hx) hlt] at this
              exact this.other (by simp only; exact hPQ) _)
            have HPQ := Lib.hid (show Row Q ((wr.setCell ⟨P, n, none⟩ (.int .u8 ((x ^^^ 54).toNat : Int))).setCell ⟨Q, n, none⟩ (.int .u8 ((x ^^^ 92).toNat : Int))) (ft (block k 92) (n + 1)) by
              have := (HQ.out.other (q := ⟨P, n, none⟩) (by simp only; exact hQP) (.int .u8 ((x ^^^ 54).toNat : Int))).put n (x ^^^ 92)
              rw [ft_set (block_at 92 HK.out hx) hlt] at this
              exact this)
            have HPU := Lib.hid ((HU.out.setCell (p := ⟨P, n, none⟩) hP (.int .u8 ((x ^^^ 54).toNat : Int))).setCell (p := ⟨Q, n, none⟩) hQ (.int .u8 ((x ^^^ 92).toNat : Int)))
            clear hx hb4 hlt hk hng
            go_wp2_with fail
            rw [HV1.out, HV2.out]
            go_roundg (64 - (n + 1))
            case measure => have := HG.out; omega
            case rel => exact ⟨n + 1, by have := HG.out; omega, by go_num, HPP.out, HPQ.out, HPU.out⟩
          · have y2 : ¬ (n : Int) < (k'.length : Int) := by omega
            have HPP := Lib.hid (show Row P ((wr.setCell ⟨P, n, none⟩ (.int .u8 54)).setCell ⟨Q, n, none⟩ (.int .u8 92)) (ft (block k 54) (n + 1)) by
              have := HP.out.put n (0 ^^^ 54)
              rw [ft_set (block_at0 54 HK.out hk hlt) hlt] at this
              exact this.other (by simp only; exact hPQ) _)
            have HPQ := Lib.hid (show Row Q ((wr.setCell ⟨P, n, none⟩ (.int .u8 54)).setCell ⟨Q, n, none⟩ (.int .u8 92)) (ft (block k 92) (n + 1)) by
              have := (HQ.out.other (q := ⟨P, n, none⟩) (by simp only; exact hQP) (.int .u8 54)).put n (0 ^^^ 92)
              rw [ft_set (block_at0 92 HK.out hk hlt) hlt] at this
              exact this)
            have HPU := Lib.hid ((HU.out.setCell (p := ⟨P, n, none⟩) hP (.int .u8 54)).setCell (p := ⟨Q, n, none⟩) hQ (.int .u8 92))
            clear hlt hk hng
            go_wp2_with fail
            go_roundg (64 - (n + 1))
            case measure => have := HG.out; omega
            case rel => exact ⟨n + 1, by have := HG.out; omega, by go_num, HPP.out, HPQ.out, HPU.out⟩
        · obtain rfl : n = 64 := by omega
          rw [ft_all h54] at HP
          rw [ft_all h92] at HQ
          clear hlt hng HG
          have hP64 := HP.out.own h54 hP
          have hQ64 := HQ.out.own h92 hQ
          have hB5w := HU2.out.trans (HU.out.mono HU2.out.size)
          have HM5 := Lib.hid (HM1.out.below hB5w)
          have HO5 := Lib.hid ((hB5w.block N hz1).trans HO1.out)
          have hzr := HU.out.size
          have hzN : N < wr.heap.size := by have := hB5w.size; omega
          have HB5 := Lib.hid (HBW.out.trans (hB5w.mono (Nat.le_of_lt hz1)))
          have hql := HQ.out.lt
          have HQR := Lib.hid HQ.out
          have HMA := Lib.hid (mac_eq k m)
          have hsl := sha_length (block k 54 ++ m)
          have HL1 := Lib.hid (show (block k 54 ++ m).length = 64 + m.length by rw [List.length_append, h54])
          obtain ⟨L1, hL1⟩ : ∃ L1, L1 = block k 54 ++ m := ⟨_, rfl⟩
          obtain ⟨V, hV⟩ : ∃ V, V = sha L1 := ⟨_, rfl⟩
          rw [← hL1] at hsl HL1 HMA
          rw [← hV] at hsl HMA
          have HL := Lib.hid hL1
          have HV := Lib.hid hV
          rw [h54] at hP64
          rw [h92] at hQ64
          have HP6 := Lib.hid hP64
          have HQ6 := Lib.hid hQ64
          have hi32 : (Tryz.prog.info? 128).map (·.size) = some 32 := by kernel_rfl
          have hu32 : Tryz.prog.underlying 128 = some (.array 32 5) := by kernel_rfl
          clear hL1 hV hP64 hQ64 hB5w hP hQ
          go_wp2_with (first
            | (at_builtin; refine HtX.wpList_append_bytes wr rfl (.tmp 45) (.tmp 46) rfl w5.heap.size (.slice (some ⟨P, 0, none⟩) 64 64) (block k 54) m (by rw [h54]; exact HP6.out) am cm HM5.out hzr (by rw [h54]; omega) rfl rfl ?_; intro ar cr w6 ho6 hg6 hb6; rw [h54]))
          have hS1 := RsB.sum L1 cr w6 (by rw [HL.out]; exact (HtX.bs_own ho6).1) (by rw [HL1.out]; omega)
          rw [HL1.out, ← HV.out] at hS1
          refine hS1.mono ?_
          rintro e w7 ⟨rfl, hb7⟩
          have hq6 := HQ6.out.kept hg6 (.inr (fun h => hQP (by simpa [Value.ownBlock] using h)))
          have hz6 := hb6.size
          have hz7 := hb7.size
          have HQ7 := Lib.hid (Com.own_below hq6 hb7)
          have HU7 := Lib.hid (show Below w5.heap.size w5 w7 from (HU.out.trans hb6).trans (hb7.mono (by omega)))
          clear hS1 ho6 hg6 hb6 hb7 hq6 hz6
          go_wp2_with (first
            | (guard_target =~ wpList _ _ _ ({ dst := _, op := Op.store 128 (.tmp 10) _, type := _, pos := _, after := _, guard := none } :: _) _ _; refine store32 rfl _ _ rfl V hsl rfl rfl rfl ?_; intro w8 z8 h8 hb8; clear z8)
            | (at_builtin; refine HtX.wpList_append_bytes w8 rfl (.tmp 49) (.tmp 50) rfl w5.heap.size (.slice (some ⟨Q, 0, none⟩) 64 64) (block k 92) V (by rw [h92]; exact Com.own_below HQ7.out hb8) (some ⟨w7.heap.size, 0, none⟩) 32 (bs_box h8 32 (Nat.le_of_eq hsl)) (by have := HU7.out.size; have := hb8.size; omega) (by rw [h92, hsl]; decide) rfl (by rw [hsl]; rfl) ?_; intro ar2 cr2 w9 ho9 hg9 hb9; rw [h92, hsl]))
          have HU8 := Lib.hid (show Below w5.heap.size w5 w8 from HU7.out.trans (hb8.mono HU7.out.size))
          have HU9 := Lib.hid (HU8.out.trans hb9)
          have hS2 := RsB.sum (block k 92 ++ V) cr2 w9 (HtX.bs_own ho9).1 (by rw [List.length_append, h92, hsl]; decide)
          rw [List.length_append, h92, hsl, ← HMA.out] at hS2
          refine hS2.mono ?_
          rintro e w10 ⟨rfl, hb10⟩
          have HU10 := Lib.hid (HU9.out.trans (hb10.mono HU9.out.size))
          have hN5 : N < w5.heap.size := by have := HU2.out.size; omega
          have hO10 := (HU10.out.block N hN5).trans ((HU2.out.block N hz1).trans HO1.out)
          have hB10 := (HBW.out.trans (HU2.out.mono (Nat.le_of_lt hz1))).trans (HU10.out.mono (Nat.le_of_lt hN5))
          have hms : (bcells (mac k m)).size = 32 := by rw [bcells_size, mac_length]
          have hmo := bcells_one (mac k m)
          obtain ⟨C, hC⟩ : ∃ C, C = bcells (mac k m) := ⟨_, rfl⟩
          rw [← hC] at hms hmo ⊢
          have hi33 : (Tryz.prog.info? 128).map (·.size) = some C.size := hi32.trans (congrArg some hms.symm)
          have HC := Lib.hid hC
          clear hC hS2 ho9 hg9 hb9 hb10 h8 hb8
          go_wp2_with (guard_target =~ wpList _ _ _ ({ dst := _, op := Op.store 128 _ _, type := _, pos := _, after := _, guard := none } :: _) _ _; refine wpList_store_row rfl 128 _ _ rfl _ C rfl rfl _ _ hO10 hi33 (ho1.trans hms.symm) hmo ?_)
          refine bodyPost_ret (results_cell_row rfl _ _ N 128 _ _ _ rfl (heap_setRow _ hO10) hu32 rfl hi33) rfl ⟨by rw [HC.out], ?_⟩
          rw [← HN.out]
          exact below_row hB10 (Nat.le_refl _) _
end Go.Proofs.YtidflagmdabfaaaGreatDoor.RsM
namespace Go.Proofs.YtidflagmdabfaaaGreatDoor.DecW
open Go.RowKit Go.Proofs.YtidflagmdabfaaaGreatDoor

/-- the digits that stand ahead of those that are written -/
def ahead (u : Nat) : List UInt8 := if u = 0 then [] else Lib.decDigits u
theorem ahead_step (u : Nat) (l : List UInt8) (h : u ≠ 0) : ahead (u / 10) ++ (UInt8.ofNat (48 + u % 10) :: l) = ahead u ++ l := by
  unfold ahead
  rw [if_neg h]
  conv => rhs; rw [Lib.decDigits]
  by_cases h2 : u < 10
  · rw [dif_pos h2, if_pos (by omega), show u % 10 = u by omega]
    rfl
  · rw [dif_neg h2, if_neg (by omega)]
    simp
theorem dec_first (n : Nat) : ahead (n / 10) ++ [UInt8.ofNat (48 + n % 10)] = Lib.decDigits n := by
  by_cases h : n = 0
  · subst h
    rw [Lib.decDigits, dif_pos (by omega)]
    rfl
  · have := ahead_step n [] h
    rw [List.append_nil] at this
    rw [this]
    unfold ahead
    rw [if_neg h]

theorem one (wr : World) (u : Nat) : ∃ d : UInt8, Hid (d = UInt8.ofNat (48 + u % 10)) ∧ (convert 23 9 (.slice (some ⟨wr.heap.size, 0, none⟩) 1 1)).run Tryz.prog (wr.alloc (.cells #[.int .u8 (48 + (u : Int) % 10)] 5)) = .ok (.string ⟨[d].toArray⟩) (wr.alloc (.cells #[.int .u8 (48 + (u : Int) % 10)] 5)) := by
  have h := Com.one_byte (P := Tryz.prog) wr 23 9 5 Tryz.underlying23 Tryz.underlying5 Tryz.underlying9 (48 + u % 10) (by omega)
  rw [show (48 + (u : Int) % 10) = ((48 + u % 10 : Nat) : Int) by omega]
  exact ⟨_, rfl, h⟩
theorem len_of {u m : Nat} {l : List UInt8} (h : ahead u ++ l = Lib.decDigits m) (hm : m ≤ 9223372036854775808) : l.length ≤ 20 := by
  have h1 := congrArg List.length h
  have h2 := Dec.dec_len 19 m (by have : (9223372036854775808 : Nat) < 10 ^ 20 := by decide
                                  omega)
  rw [List.length_append] at h1
  omega

set_option maxHeartbeats 1000000 in
set_option maxRecDepth 100000 in
theorem decimal (n : Nat) (hn : n ≤ 9223372036854775807) (w : World) :
    Calls Tryz.prog 58 #[.int .i64 n] w fun e w' => e = .returned (.string ⟨(Lib.decDigits n).toArray⟩) ∧ Below w.heap.size w w' := by
  go_enter Tryz.func58, Tryz.ntmps58
  go_wp2
  go_loopg [0, 3] (n + 1) (fun g t s wr => ∃ (u : Nat) (l : List UInt8), t = .int .i64 u ∧ s = .string ⟨l.toArray⟩ ∧ u ≤ 9223372036854775807 ∧ Below w.heap.size w wr ∧ ((l = [] ∧ u = n ∧ g = n + 1) ∨ (l ≠ [] ∧ u = g ∧ Hid (ahead u ++ l = Lib.decDigits n))))
  case atStart => exact ⟨n, [], rfl, rfl, hn, Below.refl _ _, .inl ⟨rfl, rfl, rfl⟩⟩
  case round =>
    obtain ⟨u, l, rfl, rfl, hu, hb, h⟩ := hrel
    have hsz := hb.size
    obtain ⟨d, HX, conv⟩ := one wr u
    rcases h with ⟨rfl, rfl, rfl⟩ | ⟨hl, rfl, H⟩
    · have HD := Lib.hid (dec_first u)
      rw [← HX.out] at HD
      go_wp2
      go_roundg (u / 10)
      case measure => omega
      case rel =>
        exact ⟨u / 10, [d], by go_num, Com.cat rfl, by omega, hb.alloc hsz _, .inr ⟨by simp, rfl, HD⟩⟩
    · have he : l.isEmpty = false := by cases l with
        | nil => exact absurd rfl hl
        | cons _ _ => rfl
      have hll := len_of H.out (by omega)
      clear hl
      by_cases h0 : u = 0
      · subst h0
        go_wp2
        go_ret
        exact ⟨Com.str_eq rfl (by rw [← H.out]; rfl), hb⟩
      · have HD := Lib.hid ((ahead_step u l h0).trans H.out)
        rw [← HX.out] at HD
        clear H
        go_wp2
        go_roundg (u / 10)
        case measure => omega
        case rel =>
          exact ⟨u / 10, d :: l, by go_num, Com.cat rfl, by omega, hb.alloc hsz _, .inr ⟨by simp, rfl, HD⟩⟩

set_option maxHeartbeats 1000000 in
set_option maxRecDepth 100000 in
theorem signed (n : Int) (h0 : -9223372036854775808 ≤ n) (h1 : n ≤ 9223372036854775807) (w : World) :
    Calls Tryz.prog 160 #[.int .i64 n] w fun e w' => e = .returned (.string ⟨(Lib.itoa n).toArray⟩) ∧ Below w.heap.size w w' := by
  by_cases hn : 0 ≤ n
  · obtain ⟨m, rfl⟩ : ∃ m : Nat, n = m := ⟨n.toNat, by omega⟩
    have HI := Lib.hid (show Lib.itoa (m : Int) = Lib.decDigits m by unfold Lib.itoa; rw [if_neg (by omega)]; rfl)
    have hm : m ≤ 9223372036854775807 := by omega
    clear h0 h1 hn
    go_enter Tryz.func160, Tryz.ntmps160
    go_wp2_with fail
    refine (decimal m hm w).mono ?_
    rintro e w1 ⟨rfl, b1⟩
    go_wp2
    go_ret
    exact ⟨Com.str_eq rfl HI.out.symm, b1⟩
  · obtain ⟨m, rfl⟩ : ∃ m : Nat, n = -(m : Int) := ⟨n.natAbs, by omega⟩
    have hm0 : m ≠ 0 := by omega
    have hm : m ≤ 9223372036854775808 := by omega
    have HI := Lib.hid (show Lib.itoa (-(m : Int)) = 45 :: Lib.decDigits m by unfold Lib.itoa; rw [if_pos (by omega), Int.natAbs_neg, Int.natAbs_natCast])
    clear h0 h1
    go_enter Tryz.func160, Tryz.ntmps160
    go_wp2
    go_loopg [0, 3] m (fun g t s wr => ∃ (l : List UInt8), t = .int .i64 (-(g : Int)) ∧ s = .string ⟨l.toArray⟩ ∧ g ≤ m ∧ Below w.heap.size w wr ∧ Hid (ahead g ++ l = Lib.decDigits m))
    case atStart => exact ⟨[], rfl, rfl, Nat.le_refl _, Below.refl _ _, (show Hid _ by unfold Hid ahead; rw [if_neg hm0, List.append_nil])⟩
    case round =>
      obtain ⟨l, rfl, rfl, hu, hb, H⟩ := hrel
      have hsz := hb.size
      obtain ⟨d, HX, conv⟩ := one wr gk
      have hll := len_of H.out hm
      by_cases h0 : gk = 0
      · subst h0
        go_wp2
        go_ret
        exact ⟨Com.str_eq rfl (by rw [HI.out, ← H.out]; rfl), hb⟩
      · have HD := Lib.hid ((ahead_step gk l h0).trans H.out)
        rw [← HX.out] at HD
        have hne : (-(gk : Int) != 0) = true := by simp only [bne_iff_ne, ne_eq]; omega
        clear H
        go_wp2
        go_roundg (gk / 10)
        case measure => omega
        case rel =>
          exact ⟨d :: l, by go_num, Com.cat rfl, by omega, hb.alloc hsz _, HD⟩
end Go.Proofs.YtidflagmdabfaaaGreatDoor.DecW
namespace Go.Proofs.YtidflagmdabfaaaGreatDoor.RsS
open Go.Proofs.YtidflagmdabfaaaGreatDoor.ShaD (region_tail)
open Go.RowKit Go.Proofs.YtidflagmdabfaaaGreatDoor Go.Proofs.YtidflagmdabfaaaGreatDoor.Sha Go.Proofs.YtidflagmdabfaaaGreatDoor.HtW Go.Proofs.YtidflagmdabfaaaGreatDoor.Lf Go.Proofs.YtidflagmdabfaaaGreatDoor.ShaF Go.Proofs.YtidflagmdabfaaaGreatDoor.ShaG Go.Proofs.YtidflagmdabfaaaGreatDoor.ShaJ Go.Proofs.YtidflagmdabfaaaGreatDoor.App

set_option maxHeartbeats 2000000 in
set_option maxRecDepth 100000 in
theorem rderive (s : List UInt8) (ws : List (List UInt8)) {a : Option Addr} (c : Nat) (w : World) (hw : Wd w a ws) (hs : s.length ≤ 140737488340000) (hx : ∀ x ∈ ws, x.length ≤ 140737488340000) (hwl : ws.length ≤ 4294967296) :
    Calls Tryz.prog 84 #[.string ⟨s.toArray⟩, .slice a ws.length c] w fun e w' => ∃ ar cr, e = .returned (.slice ar (derive s ws).length cr) ∧ Bs w' ar (derive s ws) cr ∧ Below w.heap.size w w' := by
  have HW := Lib.hid hw; clear hw
  have hcat : (⟨#[66, 79, 76, 76, 65, 82, 68]⟩ : ByteArray) ++ ⟨s.toArray⟩ = ⟨(derive s []).toArray⟩ := Com.mk_append lead s
  have hd0 : (derive s []).length = s.length + 7 := by simp [derive, lead]
  have hsz : (ByteArray.mk (derive s []).toArray).size = (derive s []).length := Com.size_mk _
  have kc := fun w s => Lib.run_convert_string_bytes (P := Tryz.prog) w 9 23 5 s Tryz.underlying9 Tryz.underlying23 Tryz.underlying5
  have hc0 := conv_bs w (derive s [])
  have hb0 := Lib.bytesWorld_below w 5 ⟨(derive s []).toArray⟩
  have hle : (derive s []).length ≤ 140737488340040 := by omega
  obtain ⟨D0, hD0⟩ : ∃ D0, D0 = derive s [] := ⟨_, rfl⟩
  have HD0 := Lib.hid hD0
  rw [← hD0] at hcat hsz hc0 hb0 hle
  clear hD0 hd0
  go_enter Tryz.func84, Tryz.ntmps84
  go_wp2_with fail
  have hc1 := Lib.hid hc0
  have hb1 := Lib.hid hb0
  clear hc0 hb0 hcat hsz
  generalize Lib.bytesWorld w 5 ⟨D0.toArray⟩ = W0 at *
  generalize grownCap w D0.length 0 5 = cp0 at *
  go_loopg [5, 14] ws.length (fun g v5 v14 wr => ∃ (j : Nat) (D : List UInt8) (ar : Option Addr) (cr : Nat), j + g = ws.length ∧ v14 = .int .i64 j ∧ v5 = .slice ar D.length cr ∧ Hid (D = derive s (ws.take j)) ∧ Hid (Bs wr ar D cr) ∧ Hid (Below w.heap.size w wr))
  case atStart => exact ⟨0, D0, _, _, by omega, rfl, rfl, by rw [List.take_zero]; exact HD0.out, hc1, hb1⟩
  case round =>
    clear hc1 hb1
    obtain ⟨j, D, ar, cr, hjg, rfl, rfl, HD, HB, HU⟩ := hrel
    have HG := Lib.hid hjg
    have hdl : D.length ≤ 140737488340040 := by
      have := derive_len s (ws.take j)
      rw [HD.out]
      omega
    by_cases hlt : j < ws.length
    · obtain ⟨x, hxj⟩ : ∃ x, ws[j]? = some x := ⟨_, List.getElem?_eq_getElem hlt⟩
      have hxl := hx x (List.mem_of_getElem? hxj)
      obtain ⟨b, o, rfl, hb, hc⟩ := (HW.out.below HU.out).at hxj
      have HD2 := Lib.hid (show mac D x = derive s (ws.take (j + 1)) by
        rw [List.take_add_one, hxj, HD.out]
        exact (derive_snoc _ _ _).symm)
      have hsx : (ByteArray.mk x.toArray).size = x.length := Com.size_mk _
      have hxc := conv_bs wr x
      have hxb := Lib.bytesWorld_below wr 5 ⟨x.toArray⟩
      have HBX := HB.out.below hxb
      have hzx := hxb.size
      have y0 : (0 : Int) ≤ (j : Int) := by omega
      have y1 : (j : Int) < (ws.length : Int) := by omega
      have hzz := HU.out.size
      clear hjg hxj
      go_wp2_with (first
        | (go_at_call 83; refine (RsM.rmac D x cr (grownCap wr x.length 0 5) _ HBX hxc (by omega) hxl).mono ?_; rintro e w2 ⟨rfl, hb2⟩)
        | (guard_target =~ wpList _ _ _ ({ dst := _, op := Op.store 128 _ _, type := _, pos := _, after := _, guard := none } :: _) _ _; refine store32 rfl _ _ rfl (mac D x) (mac_length D x) rfl rfl rfl ?_; intro w3 z3 h3 hb3; clear z3)
        | (at_builtin; refine append_more _ rfl (.tmp 22) (.tmp 23) rfl w3.heap.size [] (mac D x) (HtX.own_fresh w3 _ (Nat.le_refl _)) (some ⟨w2.heap.size, 0, none⟩) 32 ((bs_box h3 32 (Nat.le_of_eq (mac_length D x))).below ((Below.refl _ _).alloc (Nat.le_refl _) _)) (by simp) (by rw [mac_length]; decide) rfl (by rw [mac_length]; rfl) ?_; intro ar4 cr4 w4 n4 hn4 ho4 hb4; rw [List.nil_append] at hn4 ho4; subst hn4))
      go_roundg (ws.length - (j + 1))
      case measure => have := HG.out; omega
      case rel =>
        refine ⟨j + 1, mac D x, ar4, cr4, by have := HG.out; omega, by go_num, by rw [mac_length], HD2.out, (HtX.bs_own ho4).1, ?_⟩
        have hz3 := hb3.size
        have hz2 := hb2.size
        exact (((HU.out.trans (hxb.mono hzz)).trans (hb2.mono (by omega))).trans (hb3.mono (by omega))).trans ((((Below.refl w3.heap.size w3).alloc (Nat.le_refl _) _).trans hb4).mono (by omega))
    · have hj : j = ws.length := by omega
      have HE := Lib.hid (show D = derive s ws by rw [HD.out, hj, List.take_length])
      clear hjg
      go_wp2_with fail
      go_ret
      refine ⟨ar, cr, by rw [HE.out]; rfl, ?_, HU.out⟩
      rw [← HE.out]
      exact HB.out

theorem two_bs (w : World) (x y : UInt8) : Bs (w.alloc (.cells #[.int .u8 (x.toNat : Int), .int .u8 (y.toNat : Int)] 5)) (some ⟨w.heap.size, 0, none⟩) [x, y] 2 := by
  refine ⟨by simp, (fun h => by cases h), .inr ⟨w.heap.size, 0, rfl, by simp, fun j z hj => ?_⟩⟩
  match j, hj with
  | 0, hj => simp at hj; subst hj; rw [Lib.cell_of_heap (heap_alloc_new _ _)]; rfl
  | 1, hj => simp at hj; subst hj; rw [Lib.cell_of_heap (heap_alloc_new _ _)]; rfl
  | j + 2, hj => simp at hj
theorem append_two {ops : Array Oper} {rest : List Oper} {o : Oper} {a : Act} {Q : Exit → Act → World → Prop} (w : World) (hg : o.guard = none) (s x : Operand) (hop : o.op = Op.call { callee := Callee.builtin Builtin.append, args := #[s, x], argTypes := #[23, 23] })
    (base : Nat) (l : List UInt8) (b d : UInt8) {v : Value} (hown : w.ownsRow base 5 1 v l.length (Lib.byteCells l)) (hbase : base ≤ w.heap.size) (hlen : l.length + 2 ≤ 140737488355328)
    (hs : a.eval s = v) (hx : a.eval x = .slice (some ⟨w.heap.size, 0, none⟩) 2 2)
    (hK : ∀ ar cr w' n, n = (l ++ [b, d]).length → w'.ownsRow base 5 1 (.slice ar n cr) (l ++ [b, d]).length (Lib.byteCells (l ++ [b, d])) → Below base w w' → wpList Tryz.prog ops Q rest (a.put o.dst (.slice ar n cr)) w') :
    wpList Tryz.prog ops Q (o :: rest) a (w.alloc (.cells #[.int .u8 (b.toNat : Int), .int .u8 (d.toNat : Int)] 5)) := by
  refine append_more _ hg s x hop base l [b, d] (own_alloc hown _) _ 2 (two_bs w b d) (by simp; omega) hlen hs hx ?_
  intro ar cr w' n hn h1 h2
  exact hK ar cr w' n hn h1 (((Below.refl base w).alloc hbase _).trans h2)

theorem own_drew {w : World} {base : Nat} {e : TypeId} {size : Nat} {v : Value} {n : Nat} {xs : List Value} (h : w.ownsRow base e size v n xs) : w.drew.ownsRow base e size v n xs := h
theorem bs_drew {w : World} {a : Option Addr} {l : List UInt8} {c : Nat} (h : Bs w a l c) : Bs w.drew a l c := h
theorem step_append_bs {ops : Array Oper} {o : Oper} {a : Act} {w : World} {K : Act → World → Prop} {Q : Exit → Act → World → Prop} {E : Prop} (hg : o.guard = none) (s x : Operand) (hop : o.op = Op.call { callee := Callee.builtin Builtin.append, args := #[s, x], argTypes := #[23, 23] })
    (base : Nat) (l r : List UInt8) (aR : Option Addr) (cR : Nat) {v : Value} (hown : w.ownsRow base 5 1 v l.length (Lib.byteCells l)) (hB : Bs w aR r cR) (hbase : base ≤ w.heap.size) (hlen : l.length + r.length ≤ 140737488355328)
    (hs : a.eval s = v) (hx : a.eval x = .slice aR r.length cR)
    (hK : ∀ ar cr w', w'.ownsRow base 5 1 (.slice ar (l.length + r.length) cr) (l ++ r).length (Lib.byteCells (l ++ r)) → Below base w w' → K (a.put o.dst (.slice ar (l.length + r.length) cr)) w') :
    if Region.wanted o (yielded ops a.tmps) = true then Oper.wp Tryz.prog o a w K Q else E := by
  have hw : Region.wanted o (yielded ops a.tmps) = true := by simp [Region.wanted, hg]
  rw [if_pos hw]
  obtain ⟨ar, cr, w', hrun, h1, _, h3⟩ := HtX.run_append_bytes w base v l r hown aR cR hB hbase hlen o.type
  unfold Oper.wp
  simp [execOp, hop, resolve, invoke, builtin, hs, hx, hrun, Result.andThen]
  exact hK ar cr w' h1 h3

set_option maxHeartbeats 4000000 in
set_option maxRecDepth 100000 in
theorem rhex (l : List UInt8) {a : Option Addr} (c : Nat) (w : World) (hb : Bs w a l c) (hl : l.length ≤ 16777216) :
    Calls Tryz.prog 77 #[.slice a l.length c] w fun e w' => e = .returned (.string ⟨(Nm.hex l).toArray⟩) ∧ Below w.heap.size w w' := by
  have HB := Lib.hid hb; clear hb
  have ho0 := Lib.hid (HtX.own_fresh w w.heap.size (Nat.le_refl _))
  go_enter Tryz.func77, Tryz.ntmps77
  go_wp2_with fail
  go_loopg [4, 10] l.length (fun g v4 v10 wr => ∃ (k : Nat) (ar : Option Addr) (cr : Nat), k + g = l.length ∧ v10 = .int .i64 k ∧ v4 = .slice ar (Nm.hex (l.take k)).length cr ∧ Hid (wr.ownsRow w.heap.size 5 1 (.slice ar (Nm.hex (l.take k)).length cr) (Nm.hex (l.take k)).length (Lib.byteCells (Nm.hex (l.take k)))) ∧ Hid (Below w.heap.size w wr))
  case atStart => exact ⟨0, some ⟨w.heap.size, 0, none⟩, 0, by omega, rfl, rfl, ho0.out, (Below.refl _ w).alloc (Nat.le_refl _) _⟩
  case round =>
    clear ho0
    obtain ⟨k, ar, cr, hkg, rfl, rfl, HO, HU⟩ := hrel
    have HG := Lib.hid hkg
    have hzz := HU.out.size
    by_cases hlt : k < l.length
    · obtain ⟨x, hx⟩ : ∃ x, l[k]? = some x := ⟨_, List.getElem?_eq_getElem hlt⟩
      obtain ⟨g, o, rfl, hg, hc⟩ := Hex.bs_at (HB.out.below HU.out) hx
      have HN := Lib.hid (show Nm.hex (l.take (k + 1)) = Nm.hex (l.take k) ++ [Nm.hx (x.toNat / 16), Nm.hx (x.toNat % 16)] by
        rw [List.take_add_one, hx]
        exact Nm.hex_snoc _ _)
      have hhl : (Nm.hex (l.take k)).length ≤ 2 * l.length := by rw [Nm.hex_length, List.length_take]; omega
      have hxl := UInt8.toNat_lt x
      obtain ⟨X, hX⟩ : ∃ X, X = Nm.hex (l.take k) := ⟨_, rfl⟩
      rw [← hX] at HO HN hhl ⊢
      have HX := Lib.hid hX
      have y0 : (0 : Int) ≤ (k : Int) := by omega
      have y1 : (k : Int) < (l.length : Int) := by omega
      have q1 : (x.toNat : Int) / 16 < 16 := by omega
      have q2 : (x.toNat : Int) % 16 < 16 := by omega
      have q3 : (0 : Int) ≤ (x.toNat : Int) / 16 := by omega
      have d1 : ((x.toNat : Int) / 16).toNat = x.toNat / 16 := by omega
      have d2 : ((x.toNat : Int) % 16).toNat = x.toNat % 16 := by omega
      have q5 : IntKind.u8.wrap ((x.toNat : Int) / 16) = (x.toNat : Int) / 16 := IntWalk.u8_in _ ⟨by omega, by omega⟩
      have q6 : IntKind.u8.wrap ((x.toNat : Int) % 16) = (x.toNat : Int) % 16 := IntWalk.u8_in _ ⟨by omega, by omega⟩
      have q7 : (x.toNat : Int).tmod 16 = (x.toNat : Int) % 16 := Int.tmod_eq_emod_of_nonneg (by omega)
      have q4 : (0 : Int) ≤ (x.toNat : Int) % 16 := by omega
      clear hkg hx hX
      have hw8 := HO.out
      have hbz := hzz
      go_wp2_with fail
      go_region_held3 (fun _ => True)
        (first | trivial | go_keep)
        (first | (refine step_append_bs (by rfl) (.tmp 14) (.tmp 23) (by rfl) w.heap.size X _ (some ⟨wr.heap.size, 0, none⟩) 2 (own_drew (own_alloc hw8 _)) (bs_drew (two_bs wr _ _)) (by show w.heap.size ≤ (World.alloc wr _).heap.size; rw [World.size_alloc]; omega) (by simp; omega) (by rfl) (by rfl) ?_; intro ar2 cr2 w2 h2 b2))
      all_goals
        rw [Hex.dig_get, Hex.dig_get] at h2
        have H2 := Lib.hid h2; clear h2
        go_wp2_with fail
        go_roundg (l.length - (k + 1))
        case measure => have := HG.out; omega
        case rel =>
          refine ⟨k + 1, ar2, cr2, by have := HG.out; omega, by go_num, ?_, ?_, ?_⟩
          · rw [HN.out, List.length_append]; rfl
          · rw [HN.out, List.length_append]; have e1 := H2.out; rw [List.length_append] at e1; exact e1
          · exact ((HU.out.alloc hbz _).drew).trans b2
    · have hk2 : k = l.length := by omega
      have HK := Lib.hid (show l.take k = l by rw [hk2, List.take_length])
      clear hkg hk2
      rw [HK.out] at HO ⊢
      have hk := to_string (HtX.bs_own HO.out).1
      go_wp2_with fail
      go_ret
      exact ⟨rfl, HU.out⟩

set_option maxHeartbeats 1000000 in
set_option maxRecDepth 100000 in
theorem rsig (t s : List UInt8) (n : Nat) (w : World) (ht : t.length ≤ 140737488340000) (hs : s.length ≤ 140737488340000) (h1 : n ≤ 9223372036854775807) :
    Calls Tryz.prog 41 #[.string ⟨t.toArray⟩, .string ⟨s.toArray⟩, .int .i64 n] w fun e w' => e = .returned (.string ⟨(Sg.sigOf t s n).toArray⟩) ∧ Below w.heap.size w w' := by
  have kc := fun w s => Lib.run_convert_string_bytes (P := Tryz.prog) w 9 23 5 s Tryz.underlying9 Tryz.underlying23 Tryz.underlying5
  have hst : (ByteArray.mk t.toArray).size = t.length := Com.size_mk _
  have hil := Dec.itoa_len (n := (n : Int)) (by omega) (by omega)
  have hit : Lib.decDigits n = Lib.itoa n := by unfold Lib.itoa; rw [if_neg (by omega)]; rfl
  go_enter Tryz.func41, Tryz.ntmps41
  go_wp2_with fail
  refine (DecW.decimal n h1 w).mono ?_
  rintro e w1 ⟨rfl, hb1⟩
  rw [hit]
  go_wp2_with fail
  have hb2 := hb1.alloc hb1.size (.cells #[.string ⟨(Lib.itoa n).toArray⟩, .string ⟨#[115, 51]⟩] 9)
  have hwd := SgA.words_two w1 (Lib.itoa n) [115, 51] 9
  generalize w1.alloc (.cells #[.string ⟨(Lib.itoa n).toArray⟩, .string ⟨#[115, 51]⟩] 9) = w2 at *
  have hdl := ShaJ.derive_len s [Lib.itoa n, [115, 51]]
  refine (rderive s [Lib.itoa n, [115, 51]] 2 w2 hwd hs (by intro x hx; simp at hx; rcases hx with rfl | rfl; (omega); (decide)) (by simp)).mono ?_
  rintro e w3 ⟨ak, ck, rfl, hK, hb3⟩
  obtain ⟨D, hD⟩ : ∃ D, D = ShaJ.derive s [Lib.itoa n, [115, 51]] := ⟨_, rfl⟩
  have HD := Lib.hid hD
  rw [← hD] at hK hdl ⊢
  clear hD
  have hzk := hb2.size
  have hB3 := hb2.trans (hb3.mono hzk)
  have hxc := ShaJ.conv_bs w3 t
  have hxb := Lib.bytesWorld_below w3 5 ⟨t.toArray⟩
  have hKX := hK.below hxb
  have hB4 := hB3.trans (hxb.mono hB3.size)
  obtain ⟨V, hV⟩ : ∃ V, V = Sha.mac D t := ⟨_, rfl⟩
  have hvl : V.length = 32 := by rw [hV, Sha.mac_length]
  have HV := Lib.hid hV
  have hmac := RsM.rmac D t ck (grownCap w3 t.length 0 5) _ hKX hxc (by omega) ht
  rw [← hV] at hmac
  clear hV
  go_wp2_with (first
    | (go_at_call 83; refine hmac.mono ?_; rintro e w5 ⟨rfl, hb5⟩)
    | (guard_target =~ wpList _ _ _ ({ dst := _, op := Op.store 128 _ _, type := _, pos := _, after := _, guard := none } :: _) _ _; refine store32 rfl _ _ rfl V hvl rfl rfl rfl ?_; intro w6 z6 h6 hb6))
  have hhex := rhex V 32 w6 (bs_box h6 32 (Nat.le_of_eq hvl)) (by omega)
  rw [hvl] at hhex
  refine hhex.mono ?_
  rintro e w7 ⟨rfl, hb7⟩
  go_wp2_with fail
  go_ret
  have hz5 := hb5.size
  have hz4 := hB4.size
  have hz6 := hb6.size
  refine ⟨?_, ((hB4.trans (hb5.mono hz4)).trans (hb6.mono (by omega))).trans (hb7.mono (by omega))⟩
  rw [show Sg.sigOf t s n = Nm.hex V by rw [HV.out, HD.out]; rfl]
  rfl
end Go.Proofs.YtidflagmdabfaaaGreatDoor.RsS
