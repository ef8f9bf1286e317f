/-
  The walks of the document's message and constants (package bollardref03).
-/
import Derived.Test.YtecnnlppinhmgaaGreatDoorSa02
import Derived.Test.YtecnnlppinhmgaaGreatDoorSa11
import Derived.IntWalk
import Derived.Deep.CutRange
import Derived.Deep.CutBlock
namespace Go.Proofs.YtecnnlppinhmgaaGreatDoor.RsA
open Go.RowKit Go.Proofs.YtecnnlppinhmgaaGreatDoor Go.Proofs.YtecnnlppinhmgaaGreatDoor.Sha Go.Proofs.YtecnnlppinhmgaaGreatDoor.ShaA Go.Proofs.YtecnnlppinhmgaaGreatDoor.ShaB Go.Proofs.YtecnnlppinhmgaaGreatDoor.ShaC  Go.Proofs.YtecnnlppinhmgaaGreatDoor.RsP Go.Proofs.YtecnnlppinhmgaaGreatDoor.HtW Go.Proofs.YtecnnlppinhmgaaGreatDoor.App

theorem byte_div (L : Nat) (i : Nat) : ((UInt8.ofNat (8 * L / 2 ^ i)).toNat : Int) = IntKind.u8.wrap (Int.tdiv ((8 * L : Nat) : Int) ((2 ^ i : Nat) : Int)) := by
  rw [IntKind.wrap_u8', UInt8.toNat_ofNat', Int.tdiv_eq_ediv_of_nonneg (by omega)]
  rfl
set_option maxHeartbeats 4000000 in
set_option maxRecDepth 100000 in
theorem message (b : List UInt8) {a : Option Addr} (c : Nat) (w : World) (hb : Bs w a b c) (hl : b.length ≤ 140737488350000) :
    Calls Tryz.prog 48 #[.slice a b.length c] w fun e w' => ∃ am cm, e = .returned (.slice am (pad b).length cm) ∧ w'.ownsRow w.heap.size 5 1 (.slice am (pad b).length cm) (pad b).length (Lib.byteCells (pad b)) ∧ Below w.heap.size w w' := by
  have HB := Lib.hid hb; clear hb
  go_enter Tryz.func48, Tryz.ntmps48
  go_wp2_with (first
    | (at_builtin; refine append_one w1 rfl (.tmp 8) (.tmp 9) rfl w.heap.size b 128 rfl ho1 (by have := hb1.size; simp at this; omega) (by omega) rfl rfl ?_; intro ar2 cr2 w2 n2 hn2 ho2 hb2)
    | (at_builtin; refine append_more _ rfl (.tmp 6) (.tmp 7) rfl w.heap.size [] b (HtX.own_fresh w _ (Nat.le_refl _)) a c (HB.out.below ((Below.refl _ _).alloc (Nat.le_refl _) _)) (by simp) (by simp; omega) rfl rfl ?_; intro ar cr w1 n1 hn1 ho1 hb1; rw [List.nil_append] at hn1 ho1; subst hn1))
  have hz1 := hb1.size
  simp at hz1
  have HB2 := Lib.hid (show Below w.heap.size w w2 from ((Below.refl _ _).alloc (Nat.le_refl _) _).trans ((hb1.trans hb2)))
  have e0 : b ++ [128] = fill b 0 := rfl
  rw [e0] at hn2 ho2
  subst hn2
  have HO2 := Lib.hid ho2
  clear ho1 ho2 hb1 hb2 hz1 e0
  go_loopg [3] (zeros b.length) (fun g v3 wr => ∃ (z : Nat) (ar : Option Addr) (cr : Nat), z + g = zeros b.length ∧ v3 = .slice ar (fill b z).length cr ∧ Hid (wr.ownsRow w.heap.size 5 1 (.slice ar (fill b z).length cr) (fill b z).length (Lib.byteCells (fill b z))) ∧ Hid (Below w.heap.size w wr))
  case atStart => exact ⟨0, ar2, cr2, by omega, congrArg (fun n => Value.slice ar2 n cr2) (by rw [fill_length]), HO2, HB2⟩
  case round =>
    clear HO2 HB2
    obtain ⟨z, az, cz, hzg, rfl, HO, HU⟩ := hrel
    have HG := Lib.hid hzg
    have hfl := fill_length b z
    have hzz : zeros b.length < 64 := Nat.mod_lt _ (by decide)
    have hbase := HU.out.size
    obtain ⟨X, hX⟩ : ∃ X, (fill b z).length = X := ⟨_, rfl⟩
    rw [hX] at hfl HO ⊢
    have hrem : Int.tmod (X : Int) 64 = ((X % 64 : Nat) : Int) := by
      rw [Int.tmod_eq_emod_of_nonneg (by omega)]
      rfl
    by_cases hm : X % 64 = 56
    · have hz := fill_done (show z ≤ zeros b.length by omega) (by rw [← hfl]; exact hm)
      subst hz
      rw [hm] at hrem
      have hm2 : (X : Int) % 64 = 56 := by omega
      have HM : Hid (tail b 0 = fill b (zeros b.length)) := tail_zero b
      have HX := Lib.hid (hX.symm.trans (congrArg List.length HM.out.symm))
      rw [← HM.out] at HO
      clear hfl hX hm hzg
      have h8 : IntKind.u64.wrap ((b.length : Int) * 8) = ((8 * b.length : Nat) : Int) := by rw [IntKind.wrap_u64]; omega
      have h8' : IntKind.u64.wrap (b.length : Int) = (b.length : Int) := by rw [IntKind.wrap_u64]; omega
      go_wp2_with fail
      clear h8 h8' hrem hm2
      rw [HX.out]
      rw [HX.out] at HO
      have HBB := Lib.hid hbase
      clear hbase HX
      go_loopg [3, 5] 8 (fun g v3 v5 wr => ∃ (i : Nat) (ar : Option Addr) (cr : Nat), i + g = 8 ∧ v5 = .int .i64 i ∧ v3 = .slice ar (tail b i).length cr ∧ Hid (wr.ownsRow w.heap.size 5 1 (.slice ar (tail b i).length cr) (tail b i).length (Lib.byteCells (tail b i))) ∧ Hid (Below w.heap.size w wr))
      case atStart => exact ⟨0, az, cz, by omega, rfl, rfl, HO, HU⟩
      case round =>
        clear HO HU
        obtain ⟨i, a3, c3, hig, rfl, rfl, HO, HU⟩ := hrel
        have HG := Lib.hid hig
        have hbase := HU.out.size
        have htl := tail_length b (i := i) (by omega)
        obtain ⟨X, hX⟩ : ∃ X, (tail b i).length = X := ⟨_, rfl⟩
        rw [hX] at HO htl ⊢
        have HX := Lib.hid hX
        by_cases hlt : i < 8
        · have hXl : X + 1 ≤ 140737488355328 := by omega
          have hi8 := lt8 hlt
          rw [← hX] at HO
          clear hX hig hlt htl
          rcases hi8 with rfl | rfl | rfl | rfl | rfl | rfl | rfl | rfl
          · have HT : Hid (tail b 0 ++ [UInt8.ofNat (8 * b.length / 72057594037927936)] = tail b 1) := tail_succ b (i := 0) (by decide)
            go_wp2_with (at_builtin; refine append_one wr rfl (.tmp 26) (.tmp 35) rfl w.heap.size (tail b 0) (UInt8.ofNat (8 * b.length / 72057594037927936)) ?hz0 HO.out hbase (by rw [HX.out]; exact hXl) (by rw [HX.out]; rfl) rfl ?_; rotate_left; intro ar3 cr3 w3 n3 hn3 ho3 hb3)
            · go_roundg 7
              case measure => have := HG.out; omega
              case rel =>
                rw [HT.out] at hn3 ho3
                subst hn3
                exact ⟨1, ar3, cr3, by omega, rfl, congrArg (fun n => Value.slice ar3 n cr3) (by rw [tail_length b (by decide), tail_length b (by decide)]), ho3, HU.out.trans hb3⟩
            · rw [UInt8.toNat_ofNat']; omega
          · have HT : Hid (tail b 1 ++ [UInt8.ofNat (8 * b.length / 281474976710656)] = tail b 2) := tail_succ b (i := 1) (by decide)
            go_wp2_with (at_builtin; refine append_one wr rfl (.tmp 26) (.tmp 35) rfl w.heap.size (tail b 1) (UInt8.ofNat (8 * b.length / 281474976710656)) ?hz1 HO.out hbase (by rw [HX.out]; exact hXl) (by rw [HX.out]; rfl) rfl ?_; rotate_left; intro ar3 cr3 w3 n3 hn3 ho3 hb3)
            · go_roundg 6
              case measure => have := HG.out; omega
              case rel =>
                rw [HT.out] at hn3 ho3
                subst hn3
                exact ⟨2, ar3, cr3, by omega, rfl, congrArg (fun n => Value.slice ar3 n cr3) (by rw [tail_length b (by decide), tail_length b (by decide)]), ho3, HU.out.trans hb3⟩
            · rw [UInt8.toNat_ofNat']; omega
          · have HT : Hid (tail b 2 ++ [UInt8.ofNat (8 * b.length / 1099511627776)] = tail b 3) := tail_succ b (i := 2) (by decide)
            go_wp2_with (at_builtin; refine append_one wr rfl (.tmp 26) (.tmp 35) rfl w.heap.size (tail b 2) (UInt8.ofNat (8 * b.length / 1099511627776)) ?hz2 HO.out hbase (by rw [HX.out]; exact hXl) (by rw [HX.out]; rfl) rfl ?_; rotate_left; intro ar3 cr3 w3 n3 hn3 ho3 hb3)
            · go_roundg 5
              case measure => have := HG.out; omega
              case rel =>
                rw [HT.out] at hn3 ho3
                subst hn3
                exact ⟨3, ar3, cr3, by omega, rfl, congrArg (fun n => Value.slice ar3 n cr3) (by rw [tail_length b (by decide), tail_length b (by decide)]), ho3, HU.out.trans hb3⟩
            · rw [UInt8.toNat_ofNat']; omega
          · have HT : Hid (tail b 3 ++ [UInt8.ofNat (8 * b.length / 4294967296)] = tail b 4) := tail_succ b (i := 3) (by decide)
            go_wp2_with (at_builtin; refine append_one wr rfl (.tmp 26) (.tmp 35) rfl w.heap.size (tail b 3) (UInt8.ofNat (8 * b.length / 4294967296)) ?hz3 HO.out hbase (by rw [HX.out]; exact hXl) (by rw [HX.out]; rfl) rfl ?_; rotate_left; intro ar3 cr3 w3 n3 hn3 ho3 hb3)
            · go_roundg 4
              case measure => have := HG.out; omega
              case rel =>
                rw [HT.out] at hn3 ho3
                subst hn3
                exact ⟨4, ar3, cr3, by omega, rfl, congrArg (fun n => Value.slice ar3 n cr3) (by rw [tail_length b (by decide), tail_length b (by decide)]), ho3, HU.out.trans hb3⟩
            · rw [UInt8.toNat_ofNat']; omega
          · have HT : Hid (tail b 4 ++ [UInt8.ofNat (8 * b.length / 16777216)] = tail b 5) := tail_succ b (i := 4) (by decide)
            go_wp2_with (at_builtin; refine append_one wr rfl (.tmp 26) (.tmp 35) rfl w.heap.size (tail b 4) (UInt8.ofNat (8 * b.length / 16777216)) ?hz4 HO.out hbase (by rw [HX.out]; exact hXl) (by rw [HX.out]; rfl) rfl ?_; rotate_left; intro ar3 cr3 w3 n3 hn3 ho3 hb3)
            · go_roundg 3
              case measure => have := HG.out; omega
              case rel =>
                rw [HT.out] at hn3 ho3
                subst hn3
                exact ⟨5, ar3, cr3, by omega, rfl, congrArg (fun n => Value.slice ar3 n cr3) (by rw [tail_length b (by decide), tail_length b (by decide)]), ho3, HU.out.trans hb3⟩
            · rw [UInt8.toNat_ofNat']; omega
          · have HT : Hid (tail b 5 ++ [UInt8.ofNat (8 * b.length / 65536)] = tail b 6) := tail_succ b (i := 5) (by decide)
            go_wp2_with (at_builtin; refine append_one wr rfl (.tmp 26) (.tmp 35) rfl w.heap.size (tail b 5) (UInt8.ofNat (8 * b.length / 65536)) ?hz5 HO.out hbase (by rw [HX.out]; exact hXl) (by rw [HX.out]; rfl) rfl ?_; rotate_left; intro ar3 cr3 w3 n3 hn3 ho3 hb3)
            · go_roundg 2
              case measure => have := HG.out; omega
              case rel =>
                rw [HT.out] at hn3 ho3
                subst hn3
                exact ⟨6, ar3, cr3, by omega, rfl, congrArg (fun n => Value.slice ar3 n cr3) (by rw [tail_length b (by decide), tail_length b (by decide)]), ho3, HU.out.trans hb3⟩
            · rw [UInt8.toNat_ofNat']; omega
          · have HT : Hid (tail b 6 ++ [UInt8.ofNat (8 * b.length / 256)] = tail b 7) := tail_succ b (i := 6) (by decide)
            go_wp2_with (at_builtin; refine append_one wr rfl (.tmp 26) (.tmp 35) rfl w.heap.size (tail b 6) (UInt8.ofNat (8 * b.length / 256)) ?hz6 HO.out hbase (by rw [HX.out]; exact hXl) (by rw [HX.out]; rfl) rfl ?_; rotate_left; intro ar3 cr3 w3 n3 hn3 ho3 hb3)
            · go_roundg 1
              case measure => have := HG.out; omega
              case rel =>
                rw [HT.out] at hn3 ho3
                subst hn3
                exact ⟨7, ar3, cr3, by omega, rfl, congrArg (fun n => Value.slice ar3 n cr3) (by rw [tail_length b (by decide), tail_length b (by decide)]), ho3, HU.out.trans hb3⟩
            · rw [UInt8.toNat_ofNat']; omega
          · have HT : Hid (tail b 7 ++ [UInt8.ofNat (8 * b.length / 1)] = tail b 8) := tail_succ b (i := 7) (by decide)
            go_wp2_with (at_builtin; refine append_one wr rfl (.tmp 26) (.tmp 35) rfl w.heap.size (tail b 7) (UInt8.ofNat (8 * b.length / 1)) ?hz7 HO.out hbase (by rw [HX.out]; exact hXl) (by rw [HX.out]; rfl) rfl ?_; rotate_left; intro ar3 cr3 w3 n3 hn3 ho3 hb3)
            · go_roundg 0
              case measure => have := HG.out; omega
              case rel =>
                rw [HT.out] at hn3 ho3
                subst hn3
                exact ⟨8, ar3, cr3, by omega, rfl, congrArg (fun n => Value.slice ar3 n cr3) (by rw [tail_length b (by decide), tail_length b (by decide)]), ho3, HU.out.trans hb3⟩
            · rw [UInt8.toNat_ofNat']; omega
        · obtain rfl : i = 8 := by omega
          have HT : Hid (tail b 8 = pad b) := tail_all b
          rw [← hX, HT.out] at HO
          rw [← hX, HT.out]
          clear hX hig hlt htl HX
          go_wp2_with fail
          go_ret
          exact ⟨a3, c3, rfl, HO.out, HU.out⟩
    · have hm1 : ¬ ((X % 64 : Nat) : Int) = 56 := by omega
      have hm2 : ¬ (X : Int) % 64 = 56 := by omega
      have HE := Lib.hid (fill_succ b z)
      have HF := Lib.hid (fill_length b (z + 1))
      have hzlt : z < zeros b.length := by
        have : z ≠ zeros b.length := fun e => hm (by rw [hfl, e]; exact zeros_spec b.length)
        omega
      have HX := Lib.hid hX
      rw [← hX] at HO
      clear hm hzg hX
      go_wp2_with (at_builtin; refine append_one wr rfl (.tmp 15) (.tmp 16) rfl w.heap.size (fill b z) 0 rfl HO.out hbase (by rw [HX.out]; omega) (by rw [HX.out]; rfl) rfl ?_; intro ar3 cr3 w3 n3 hn3 ho3 hb3)
      go_roundg (zeros b.length - (z + 1))
      case measure => have := HG.out; omega
      case rel =>
        rw [HE.out] at hn3 ho3
        subst hn3
        exact ⟨z + 1, ar3, cr3, by omega, congrArg (fun n => Value.slice ar3 n cr3) (by rw [fill_length, fill_length]; omega), ho3, HU.out.trans hb3⟩
/-- the constants as the code lays them -/
def kcells : Array Value := #[.int .u32 1116352408, .int .u32 1899447441, .int .u32 3049323471, .int .u32 3921009573, .int .u32 961987163, .int .u32 1508970993, .int .u32 2453635748, .int .u32 2870763221, .int .u32 3624381080, .int .u32 310598401, .int .u32 607225278, .int .u32 1426881987, .int .u32 1925078388, .int .u32 2162078206, .int .u32 2614888103, .int .u32 3248222580, .int .u32 3835390401, .int .u32 4022224774, .int .u32 264347078, .int .u32 604807628, .int .u32 770255983, .int .u32 1249150122, .int .u32 1555081692, .int .u32 1996064986, .int .u32 2554220882, .int .u32 2821834349, .int .u32 2952996808, .int .u32 3210313671, .int .u32 3336571891, .int .u32 3584528711, .int .u32 113926993, .int .u32 338241895, .int .u32 666307205, .int .u32 773529912, .int .u32 1294757372, .int .u32 1396182291, .int .u32 1695183700, .int .u32 1986661051, .int .u32 2177026350, .int .u32 2456956037, .int .u32 2730485921, .int .u32 2820302411, .int .u32 3259730800, .int .u32 3345764771, .int .u32 3516065817, .int .u32 3600352804, .int .u32 4094571909, .int .u32 275423344, .int .u32 430227734, .int .u32 506948616, .int .u32 659060556, .int .u32 883997877, .int .u32 958139571, .int .u32 1322822218, .int .u32 1537002063, .int .u32 1747873779, .int .u32 1955562222, .int .u32 2024104815, .int .u32 2227730452, .int .u32 2361852424, .int .u32 2428436474, .int .u32 2756734187, .int .u32 3204031479, .int .u32 3329325298]
theorem kcells_eq : kcells = wcells K := rfl
theorem kcells_get {t : Nat} (h : t < 64) : kcells[t]? = some (w32 (K.getD t 0)) := by
  rw [kcells_eq]
  refine wcells_get ?_
  rw [List.getD_eq_getElem?_getD, List.getElem?_eq_getElem (show t < K.length from h)]
  rfl
set_option maxHeartbeats 4000000 in
set_option maxRecDepth 100000 in
theorem k (t : Nat) (ht : t < 64) (w : World) :
    Calls Tryz.prog 50 #[.int .i64 t] w fun e w' => e = .returned (w32 (K.getD t 0)) ∧ Below w.heap.size w w' := by
  have hc : (w.alloc (.cells kcells 90)).cell? ⟨w.heap.size, t, none⟩ = some (w32 (K.getD t 0)) := by rw [Lib.cell_of_heap (heap_alloc_new _ _), kcells_get ht]
  have hb := (Below.refl w.heap.size w).alloc (Nat.le_refl _) (.cells kcells 90)
  generalize K.getD t 0 = kk at *
  go_enter Tryz.func50, Tryz.ntmps50
  go_upto_region 2 with fail
  change Code.wp _ _ _ _ (w.alloc (.cells kcells 90))
  generalize w.alloc (.cells kcells 90) = w1 at *
  go_wp2_with fail
  go_ret
  exact ⟨rfl, hb⟩
end Go.Proofs.YtecnnlppinhmgaaGreatDoor.RsA
