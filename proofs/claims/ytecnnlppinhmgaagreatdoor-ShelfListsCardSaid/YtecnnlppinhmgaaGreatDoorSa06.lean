/-
  The walk of package sha's Hash.Sum. The walks of package sha's Sum, of package mac's padded and keyed.
-/
import Derived.Test.YtecnnlppinhmgaaGreatDoorSa02
import Derived.Test.YtecnnlppinhmgaaGreatDoorSa05
import Derived.Laws.CopyOwn
namespace Go.Proofs.YtecnnlppinhmgaaGreatDoor.ShaF
open Go.RowKit Go.Proofs.YtecnnlppinhmgaaGreatDoor Go.Proofs.YtecnnlppinhmgaaGreatDoor.Sha Go.Proofs.YtecnnlppinhmgaaGreatDoor.ShaA Go.Proofs.YtecnnlppinhmgaaGreatDoor.ShaB Go.Proofs.YtecnnlppinhmgaaGreatDoor.ShaC Go.Proofs.YtecnnlppinhmgaaGreatDoor.HtW Go.Proofs.YtecnnlppinhmgaaGreatDoor.Lf Go.Proofs.YtecnnlppinhmgaaGreatDoor.ShaE Go.Proofs.YtecnnlppinhmgaaGreatDoor.App

/-- bytes, as cells -/
def bcells (l : List UInt8) : Array Value := (Lib.byteCells l).toArray
theorem bcells_size (l : List UInt8) : (bcells l).size = l.length := by simp [bcells, Lib.byteCells]
theorem bcells_one (l : List UInt8) : (bcells l).all (·.oneCell') = true := all_oneCell_toArray (HtX.byteCells_one l)
theorem rem64 (n : Nat) : Int.tmod (n : Int) 64 = ((n % 64 : Nat) : Int) := by
  rw [Int.tmod_eq_emod_of_nonneg (by omega)]
  rfl
theorem be8_get (N : Nat) {t : Nat} (h : t < 8) : (be8 N)[t]? = some (UInt8.ofNat (N / 2 ^ (56 - 8 * t))) := by
  rcases (by omega : t = 0 ∨ t = 1 ∨ t = 2 ∨ t = 3 ∨ t = 4 ∨ t = 5 ∨ t = 6 ∨ t = 7) with rfl | rfl | rfl | rfl | rfl | rfl | rfl | rfl <;> rfl
theorem be8_more (N : Nat) {t : Nat} (h : t < 8) : (be8 N).take (t + 1) = (be8 N).take t ++ [UInt8.ofNat (N / 2 ^ (56 - 8 * t))] := by
  rw [List.take_add_one, be8_get N h]
  rfl
theorem be8_length (N : Nat) : (be8 N).length = 8 := rfl
/-- what stands behind the message so far: the zeros -/
def zs (r : List UInt8) (j : Nat) : List UInt8 := r ++ 128 :: List.replicate j 0
theorem zs_length (r : List UInt8) (j : Nat) : (zs r j).length = r.length + 1 + j := by
  unfold zs
  rw [List.length_append, List.length_cons, List.length_replicate]
  omega
theorem zs_more (r : List UInt8) (j : Nat) : zs r j ++ [0] = zs r (j + 1) := by
  unfold zs
  rw [List.append_assoc, List.cons_append, List.replicate_succ']
theorem zs_zero (r : List UInt8) : r ++ [128] = zs r 0 := rfl
theorem tail_eq (r : List UInt8) (n : Nat) : zs r (zeros n) ++ be8 (8 * n) = r ++ tail n := by
  unfold zs tail
  simp
theorem pow_toNat (i : Nat) : ((2 : Int) ^ i) = ((2 ^ i : Nat) : Int) := by rw [Int.natCast_pow]; rfl
theorem byte_of (N i : Nat) : IntKind.u8.wrap ((N : Int) / 2 ^ i) = ((UInt8.ofNat (N / 2 ^ i)).toNat : Int) := by
  rw [pow_toNat, ← Int.natCast_ediv, IntKind.wrap_u8', UInt8.toNat_ofNat']
  omega

theorem byte_of' (n i : Nat) : (n : Int) * 8 / 2 ^ i % 256 = ((UInt8.ofNat (8 * n / 2 ^ i)).toNat : Int) := by
  have := byte_of (8 * n) i
  rw [IntKind.wrap_u8', Int.natCast_mul, Int.mul_comm] at this
  exact this
theorem put8_ws {p : Nat} {t : TypeId} {w : World} {s : St} (h : Ws p t w (stw s)) (s' : St) : Ws p t (put8w w p s') (stw s') := by
  have h0 := heap_setCell_same w p 0 _ _ (w32 s'.a) h
  have h1 := heap_setCell_same _ p 1 _ _ (w32 s'.b) h0
  have h2 := heap_setCell_same _ p 2 _ _ (w32 s'.c) h1
  have h3 := heap_setCell_same _ p 3 _ _ (w32 s'.d) h2
  have h4 := heap_setCell_same _ p 4 _ _ (w32 s'.e) h3
  have h5 := heap_setCell_same _ p 5 _ _ (w32 s'.f) h4
  have h6 := heap_setCell_same _ p 6 _ _ (w32 s'.g) h5
  have h7 := heap_setCell_same _ p 7 _ _ (w32 s'.h) h6
  unfold Ws put8w
  rw [h7, wc8, wc8]
  simp
theorem below_put8 {B p : Nat} {w w' : World} (h : Below B w w') (hB : B ≤ p) (s : St) : Below B w (put8w w' p s) :=
  (((((((h.setCell (p := ⟨p, 0, none⟩) hB _).setCell (p := ⟨p, 1, none⟩) hB _).setCell (p := ⟨p, 2, none⟩) hB _).setCell (p := ⟨p, 3, none⟩) hB _).setCell (p := ⟨p, 4, none⟩) hB _).setCell (p := ⟨p, 5, none⟩) hB _).setCell (p := ⟨p, 6, none⟩) hB _).setCell (p := ⟨p, 7, none⟩) hB _
theorem lay0 {P : Program} {ops : Array Oper} {rest : List Oper} {a : Act} {Q : Exit → Act → World → Prop} {w4 : World} {o1 : Array Value} {T : TypeId}
    (h : ∀ w5 : World, w5.heap.size = w4.heap.size + 1 → w5.heap[w4.heap.size]? = some (.cells o1 T (0, 0)) → Below w4.heap.size w4 w5 → wpList P ops Q rest a w5) :
    wpList P ops Q rest a (w4.alloc (.cells o1 T)) :=
  h _ (by simp) (heap_alloc_new _ _) ((Below.refl _ _).alloc (Nat.le_refl _) _)
/-- the digest's bytes so far, and zeros -/
def ob (X : St) (j : Nat) : List UInt8 := (Sha.out X).take (4 * j) ++ List.replicate (32 - 4 * j) 0
theorem bt (x d : Nat) : (x : Int) / (d : Int) % 256 = ((UInt8.ofNat (x / d)).toNat : Int) := by
  rw [← Int.natCast_ediv, UInt8.toNat_ofNat']
  omega
theorem bt0 (x : Nat) : (x : Int) % 256 = ((UInt8.ofNat x).toNat : Int) := by
  rw [UInt8.toNat_ofNat']
  omega
def Bo (O : Nat) (w : World) (l : List UInt8) : Prop := w.heap[O]? = some (.cells (bcells l) 63 (0, 0))
theorem bcells_set (l : List UInt8) (i : Nat) (b : UInt8) : (bcells l).setIfInBounds i (.int .u8 (b.toNat : Int)) = bcells (l.set i b) := by
  unfold bcells Lib.byteCells
  simp [List.map_set]
theorem Bo.put {O : Nat} {w : World} {l : List UInt8} (h : Bo O w l) (i : Nat) (b : UInt8) : Bo O (w.setCell ⟨O, i, none⟩ (.int .u8 (b.toNat : Int))) (l.set i b) := by
  unfold Bo at h ⊢
  rw [← bcells_set]
  exact heap_setCell_same w O i _ _ _ h
theorem Bo.cell {O : Nat} {w : World} {l : List UInt8} (h : Bo O w l) {i : Nat} {b : UInt8} (hi : l[i]? = some b) : w.cell? ⟨O, i, none⟩ = some (.int .u8 (b.toNat : Int)) := by
  rw [Lib.cell_of_heap h]
  unfold bcells
  rw [List.getElem?_toArray]
  exact bc_get hi
theorem Bo.free {O : Nat} {w : World} {l : List UInt8} (h : Bo O w l) (i : Nat) : w.frozen? ⟨O, i, none⟩ = false := Lib.frozen_of_heap h i
theorem Bo.put4 {O : Nat} {w : World} {X : St} {j x : Nat} (h : Bo O w (ob X j)) (hj : j < 8) (hx : (stw X)[j]? = some x) : Bo O ((((w.setCell ⟨O, 4 * j, none⟩ (.int .u8 ((x : Int) / 16777216 % 256))).setCell ⟨O, 4 * j + 1, none⟩ (.int .u8 ((x : Int) / 65536 % 256))).setCell ⟨O, 4 * j + 2, none⟩ (.int .u8 ((x : Int) / 256 % 256))).setCell ⟨O, 4 * j + 3, none⟩ (.int .u8 ((x : Int) % 256))) (ob X (j + 1)) := by
  have := (((h.put (4 * j) (UInt8.ofNat (x / 16777216))).put (4 * j + 1) (UInt8.ofNat (x / 65536))).put (4 * j + 2) (UInt8.ofNat (x / 256))).put (4 * j + 3) (UInt8.ofNat x)
  rw [← bt x 16777216, ← bt x 65536, ← bt x 256, ← bt0] at this
  have e : (((((ob X j).set (4 * j) (UInt8.ofNat (x / 16777216))).set (4 * j + 1) (UInt8.ofNat (x / 65536))).set (4 * j + 2) (UInt8.ofNat (x / 256))).set (4 * j + 3) (UInt8.ofNat x)) = ob X (j + 1) := by
    rcases ShaD.lt8 hj with rfl | rfl | rfl | rfl | rfl | rfl | rfl | rfl <;> cases hx <;> rfl
  rw [e] at this
  exact this
theorem index_arr (C : Array Value) (j x : Nat) (hj8 : j < 8) (hj : C[j]? = some (w32 x)) (W : World) : (Instr.index 167 (.agg C) (.int .i64 (j : Int))).run Tryz.prog W = .ok (w32 x) W := by
  have hu : Tryz.prog.underlying 167 = some (.array 8 90) := by kernel_rfl
  have hs : (Go.sizeOf 90).run Tryz.prog W = .ok 1 W := by kernel_rfl
  have hp : (part 90 C j).run Tryz.prog W = .ok (w32 x) W := by
    simp [part, hj, go_sem]
  simp [Instr.index, run_underlying hu, asIntOf, hs, hp, hj8]
theorem put_none (A : Act) (v : Value) : A.put none v = A := rfl
theorem blocks_step (s : St) (i : Nat) (F : List UInt8) : blocks s (i + 1) F = Sha.digest (blocks s i F) ((F.drop (64 * i)).take 64) := by
  rw [blocks_add 1 i]
  rfl

set_option maxHeartbeats 4000000 in
set_option maxRecDepth 100000 in
theorem sumS (p : Nat) (s : St) (hs : s.ok) (r : List UInt8) (n : Nat) {a : Option Addr} (c : Nat) (w : World) (hb : Hb p w s (.slice a r.length c) n) (hr : Bs w a r c) (hn : n % 64 = r.length % 64) (h64 : r.length ≤ 140737488350000) (hn2 : n ≤ 140737488355328) :
    Calls Tryz.prog 80 #[.pointer (some ⟨p, 0, none⟩)] w fun e w' => e = .returned (.agg (bcells (Sha.out (blocks s ((r ++ tail n).length / 64) (r ++ tail n))))) ∧ Below w.heap.size w w' := by
  have HB := Lib.hid hb; clear hb
  have HR := Lib.hid hr; clear hr
  have e8 := HB.out.left
  have hpl := HB.out.lt
  go_enter Tryz.func80, Tryz.ntmps80
  go_wp2_with (first
    | (at_builtin; refine append_nil _ rfl (.const (.slice none 0 0)) (.tmp 13) rfl (w.heap.size + 1) r a c (HR.out.below ((Below.refl _ _).alloc (Nat.le_refl _) _)) (Nat.le_of_eq (World.size_alloc _ _).symm) (by omega) rfl rfl ?_; intro ar cr w1 ho1 hb1)
    | (at_builtin; refine append_one w1 rfl (.tmp 15) (.tmp 16) rfl (w.heap.size + 1) r 128 rfl ho1 (by have h := hb1.size; rw [World.size_alloc] at h; omega) (by omega) rfl rfl ?_; intro ar2 cr2 w2 n2 hn2' ho2 hb2; have HN2 := Lib.hid hn2'; clear hn2'))
  have hz1 : w.heap.size + 1 ≤ w1.heap.size := by have := hb1.size; simp at this; omega
  have hz2 := hb2.size
  obtain ⟨Z, hZ, hZs⟩ : ∃ Z : Array Value, w2.heap[w.heap.size]? = some (.cells Z 63 (0, 0)) ∧ Z.size = 32 := ⟨_, (hb2.block _ (by omega)).trans ((hb1.block _ (by omega)).trans (heap_alloc_new _ _)), rfl⟩
  have hB2 : Below w.heap.size w w2 := ((Below.refl w.heap.size w).alloc (Nat.le_refl _) _).trans ((hb1.mono (Nat.le_succ _)).trans (hb2.mono (Nat.le_succ _)))
  clear hb1 hb2 ho1
  go_loopg [3] (zeros n) (fun g v wr => ∃ (j : Nat) (ar : Option Addr) (cr : Nat), j + g = zeros n ∧ v = .slice ar (r.length + 1 + j) cr ∧ Hid (wr.ownsRow (w.heap.size + 1) 5 1 v (zs r j).length (Lib.byteCells (zs r j))) ∧ Hid (Below (w.heap.size + 1) w2 wr))
  case atStart => exact ⟨0, ar2, cr2, by omega, by rw [HN2.out]; simp, by rw [HN2.out] at ho2 ⊢; exact ho2, Below.refl _ _⟩
  case round =>
    obtain ⟨j, ar3, cr3, hjg, rfl, HO, HU⟩ := hrel
    have HG := Lib.hid hjg
    have hz := HU.out.size
    obtain ⟨L3, hL3⟩ : ∃ L3, r.length + 1 + j = L3 := ⟨_, rfl⟩
    have HL3 := Lib.hid hL3
    rw [hL3] at HO ⊢
    have hzl : j ≤ zeros n := by omega
    have hlt := zeros_lt n
    have hm := zeros_more hn hzl
    have hmod := rem64 L3
    clear hL3
    by_cases hj : j = zeros n
    · have h56 : L3 % 64 = 56 := by rw [← HL3.out]; exact hm.2 hj
      rw [h56] at hmod
      clear hm
      have hb3 : Hb p wr s (.slice a r.length c) n := ((hB2.trans (HU.out.mono (Nat.le_succ _))).block p hpl).trans HB.out
      have e9 := hb3.count
      obtain rfl := hj
      have HLL := Lib.hid (show (zs r (zeros n)).length = L3 by rw [zs_length, HL3.out])
      clear hjg HG hzl
      go_wp2_with fail
      obtain ⟨W3, hW3⟩ : ∃ W3, W3 = wr := ⟨_, rfl⟩
      go_loopg [3, 5] 8 (fun g v3 v5 wr => ∃ (t : Nat) (ar : Option Addr) (cr : Nat), t + g = 8 ∧ v3 = .slice ar (L3 + t) cr ∧ v5 = .int .i64 (56 - 8 * (t : Int)) ∧ Hid (wr.ownsRow (w.heap.size + 1) 5 1 v3 (zs r (zeros n) ++ (be8 (8 * n)).take t).length (Lib.byteCells (zs r (zeros n) ++ (be8 (8 * n)).take t))) ∧ Hid (Below (w.heap.size + 1) w2 wr))
      case atStart => exact ⟨0, ar3, cr3, by omega, rfl, rfl, by rw [List.take_zero, List.append_nil]; exact HO, HU⟩
      case round =>
        obtain ⟨t, ar5, cr5, htg, rfl, rfl, HO, HU⟩ := hrel
        have HG := Lib.hid htg
        have ht : t ≤ 8 := by omega
        have hlq : (zs r (zeros n) ++ (be8 (8 * n)).take t).length = L3 + t := by rw [List.length_append, HLL.out, List.length_take, be8_length]; omega
        have hzz := HU.out.size
        by_cases hlt : t < 8
        · have HM := Lib.hid (be8_more (8 * n) hlt)
          obtain ⟨q, hq⟩ : ∃ q, q + 8 * t = 56 := ⟨56 - 8 * t, by omega⟩
          rw [show 56 - 8 * (t : Int) = (q : Int) by omega]
          rw [show 56 - 8 * t = q by omega] at HM
          have hq0 : (0 : Int) ≤ (q : Int) := by omega
          have hL3b : L3 ≤ 140737488350065 := by have := HL3.out; omega
          clear htg
          go_wp2_with (at_builtin; refine append_one wr rfl (.tmp 35) (.tmp 40) rfl (w.heap.size + 1) (zs r (zeros n) ++ (be8 (8 * n)).take t) (UInt8.ofNat (8 * n / 2 ^ q)) (byte_of' n q) HO.out (by omega) (by omega) rfl rfl ?_; intro ar6 cr6 w6 n6 hn6 ho6 hb6; have HN6 := Lib.hid hn6; clear hn6)
          rw [List.append_assoc, ← HM.out] at HN6 ho6
          have hl6 : (zs r (zeros n) ++ (be8 (8 * n)).take (t + 1)).length = L3 + (t + 1) := by rw [List.length_append, HLL.out, List.length_take, be8_length]; omega
          go_roundg (8 - (t + 1))
          case measure => have := HG.out; omega
          case rel => exact ⟨t + 1, ar6, cr6, by have := HG.out; omega, by rw [HN6.out, hl6], by go_num, ho6, HU.out.trans hb6⟩
        · obtain rfl : t = 8 := by omega
          have hF : zs r (zeros n) ++ (be8 (8 * n)).take 8 = r ++ tail n := tail_eq r n
          rw [hF] at HO hlq
          obtain ⟨F, hFE⟩ : ∃ F, F = r ++ tail n := ⟨_, rfl⟩
          have HFE := Lib.hid hFE
          rw [← hFE] at HO hlq
          clear hFE hF ht htg hlt HG
          have HFM := Lib.hid (show F.length % 64 = 0 by
            rw [hlq, ← HL3.out]
            have := (zeros_more hn (Nat.le_refl _)).2 rfl
            omega)
          have hFl : F.length ≤ 140737488350100 := by rw [hlq, ← HL3.out]; omega
          have hFp : 0 < F.length := by rw [hlq]; omega
          obtain ⟨gF, hvF, hcF⟩ : ∃ g, ar5 = some ⟨g, 0, none⟩ ∧ g < wr.heap.size := by
            rcases HO.out.2 with ⟨_, e2⟩ | ⟨g, cap, cur, e1, _, e3, _⟩
            · omega
            · simp only [Value.slice.injEq] at e1
              exact ⟨g, e1.1, (Array.getElem?_eq_some_iff.1 e3).1⟩
          subst hvF
          have hcap : F.length ≤ cr5 := by
            rcases HO.out.2 with ⟨_, e2⟩ | ⟨g, cap, cur, e1, _, e3, e4, _⟩
            · omega
            · simp only [Value.slice.injEq] at e1
              rw [e1.2.2]; exact e4
          have HFC := Lib.hid (show ∀ (j : Nat) (x : UInt8), F[j]? = some x → wr.cell? ⟨gF, j, none⟩ = some (.int .u8 (x.toNat : Int)) from fun j x hj => by
            have := HO.out.cells (g := gF) rfl j (.int .u8 (x.toNat : Int)) (bc_get hj)
            rwa [addr_add, Nat.zero_add] at this)
          rw [← hlq]
          clear HO hlq HLL HL3
          have hb4 : Hb p wr s (.slice a r.length c) n := ((hB2.trans (HU.out.mono (Nat.le_succ _))).block p hpl).trans HB.out
          have hst := hb4.state
          have hi8 : (Tryz.prog.info? 167).map (·.size) = some 8 := by kernel_rfl
          have hu8 : Tryz.prog.underlying 167 = some (.array 8 90) := by kernel_rfl
          have hsS : (wcells (stw s)).size = 8 := rfl
          have hoS := wcells_one (stw s)
          go_wp2_with (first
            | (guard_target =~ wpList _ _ _ ({ dst := _, op := Op.load 167 (.tmp 44), type := _, pos := _, after := _, guard := none } :: _) _ _; refine wpList_load_mid rfl 167 _ rfl p 0 rfl _ (.array 8 90) hst hu8 rfl hi8 ?_; rw [show ((stw s).map w32).toArray = wcells (stw s) from rfl])
            | (guard_target =~ wpList _ _ _ ({ dst := _, op := Op.store 167 (.tmp 6) _, type := _, pos := _, after := _, guard := none } :: _) _ _; refine wpList_store_row rfl 167 _ _ rfl _ (wcells (stw s)) rfl rfl _ _ (heap_alloc_new _ _) hi8 hsS hoS ?_; refine ShaD.lay1 rfl ?_; intro w6 z6 hS6 hB6))
          rw [put_none]
          have hB7 := HU.out.trans (hB6.mono (by omega))
          have HFC := Lib.hid (show ∀ (j : Nat) (x : UInt8), F[j]? = some x → w6.cell? ⟨gF, j, none⟩ = some (.int .u8 (x.toNat : Int)) from fun j x hj => (hB6.cell (p := ⟨gF, j, none⟩) hcF).trans (HFC.out j x hj))
          obtain ⟨SB, hSB⟩ : ∃ SB, SB = wr.heap.size := ⟨_, rfl⟩
          rw [← hSB] at hS6 hcF z6 hzz ⊢
          have hSBl : w.heap.size + 1 ≤ SB := by omega
          clear hb4 hst HU hB6 hSB
          go_loopg [3] (F.length / 64) (fun g v wr => ∃ (i o c : Nat), i + g = F.length / 64 ∧ v = .slice (some ⟨gF, o, none⟩) (F.drop (64 * i)).length c ∧ (F.drop (64 * i)).length ≤ c ∧ (64 * i < F.length → o = 64 * i) ∧ Hid (∀ (j : Nat) (x : UInt8), F[j]? = some x → wr.cell? ⟨gF, j, none⟩ = some (.int .u8 (x.toNat : Int))) ∧ Hid (Ws SB 167 wr (stw (blocks s i F))) ∧ Hid (Below (w.heap.size + 1) w2 wr))
          case atStart => exact ⟨0, 0, cr5, by omega, rfl, hcap, fun _ => rfl, HFC, hS6, hB7⟩
          case round =>
            clear HFC hS6 hB7
            obtain ⟨i, o, c3, hig, rfl, hc3, ho3, HFC, HS, HU⟩ := hrel
            have HG := Lib.hid hig
            have HDL := Lib.hid (show (F.drop (64 * i)).length = F.length - 64 * i from List.length_drop)
            have HBS := Lib.hid (blocks_step s i F)
            have HDR := Lib.hid (show (F.drop (64 * i)).drop 64 = F.drop (64 * (i + 1)) by rw [List.drop_drop]; congr 1)
            have HFC2 := HFC
            by_cases hlt : 64 * i < F.length
            · obtain rfl := ho3 hlt
              have HQ := Lib.hid (show ∀ (j : Nat) (x : UInt8), ((F.drop (64 * i)).take 64)[j]? = some x → wr.drew.cell? ⟨gF, 64 * i + j, none⟩ = some (.int .u8 (x.toNat : Int)) from fun j x hj => by
                show wr.cell? _ = _
                rw [List.getElem?_take] at hj
                split at hj
                · rw [List.getElem?_drop] at hj
                  exact HFC.out _ x hj
                · cases hj)
              obtain ⟨R, hRE⟩ : ∃ R, F.drop (64 * i) = R := ⟨_, rfl⟩
              have HRE := Lib.hid hRE
              rw [hRE] at HDL HBS HDR HQ hc3 ⊢
              clear hRE
              have hR64 : 64 ≤ R.length := by have := HFM.out; have := HDL.out; omega
              have hok := blocks_ok i F hs
              generalize blocks s i F = X at *
              have e0 := HS.out.cell (j := 0) (x := X.a) rfl
              have e1 := HS.out.cell (j := 1) (x := X.b) rfl
              have e2 := HS.out.cell (j := 2) (x := X.c) rfl
              have e3 := HS.out.cell (j := 3) (x := X.d) rfl
              have e4 := HS.out.cell (j := 4) (x := X.e) rfl
              have e5 := HS.out.cell (j := 5) (x := X.f) rfl
              have e6 := HS.out.cell (j := 6) (x := X.g) rfl
              have e7 := HS.out.cell (j := 7) (x := X.h) rfl
              have HSD := Lib.hid (show Ws SB 167 wr.drew (stw X) from HS.out)
              have hSl := HS.out.lt
              have z1 : (64 : Int) ≤ (c3 : Int) := by omega
              have z2 : (0 : Int) < (R.length : Int) := by omega
              have hz2' : (R.take 64).length = 64 := by rw [List.length_take]; omega
              have hgl : gF < wr.drew.heap.size := Nat.lt_of_lt_of_le hcF (Nat.le_of_lt hSl)
              clear hig ho3
              go_wp2_with fail
              go_region_law (first | (go_simp; go_at_call 103; refine (ShaD.digest X hok (R.take 64) gF (64 * i) c3 wr.drew hz2' HQ.out hgl).mono ?_; rintro e w4 ⟨rfl, hb2⟩; obtain ⟨X2, hX2⟩ : ∃ X2, X2 = blocks s (i + 1) F := ⟨_, rfl⟩; have HX2 := Lib.hid hX2; rw [← HBS.out, ← hX2, wc8 X2]; clear hX2; have hb3 := HSD.out.below hb2; have d0 := hb3.cell (j := 0) (x := X.a) rfl; have d1 := hb3.cell (j := 1) (x := X.b) rfl; have d2 := hb3.cell (j := 2) (x := X.c) rfl; have d3 := hb3.cell (j := 3) (x := X.d) rfl; have d4 := hb3.cell (j := 4) (x := X.e) rfl; have d5 := hb3.cell (j := 5) (x := X.f) rfl; have d6 := hb3.cell (j := 6) (x := X.g) rfl; have d7 := hb3.cell (j := 7) (x := X.h) rfl; have d8 := hb3.free 0; have d9 := hb3.free 1; have d10 := hb3.free 2; have d11 := hb3.free 3; have d12 := hb3.free 4; have d13 := hb3.free 5; have d14 := hb3.free 6; have d15 := hb3.free 7))
              all_goals
                have hws := put8_ws hb3 X2
                have hU4 := below_put8 ((HU.out.drew).trans (hb2.mono (Nat.le_trans hSBl (Nat.le_of_lt hSl)))) hSBl X2
                have HF4 := Lib.hid (show ∀ (j : Nat) (x : UInt8), F[j]? = some x → (put8w w4 SB X2).cell? ⟨gF, j, none⟩ = some (.int .u8 (x.toNat : Int)) from fun j x hj => ((World.cell?_of_block (a := ⟨gF, j, none⟩) (put8_other w4 X2 (by simp only; omega))).trans (hb2.cell (p := ⟨gF, j, none⟩) hgl)).trans (HFC.out j x hj))
                clear hb3 d0 d1 d2 d3 d4 d5 d6 d7 d8 d9 d10 d11 d12 d13 d14 d15 e0 e1 e2 e3 e4 e5 e6 e7
                change Exit.inBlock _ _ _ _ (put8w w4 SB X2)
                generalize put8w w4 SB X2 = w7 at *
                obtain ⟨o', ho', hcut⟩ := Slc.cut_from (P := Tryz.prog) Tryz.underlying24 (s := 1) sizeByte gF (64 * i) R.length c3 64 64 rfl hR64
                go_wp2_with fail
                rw [show R.length - 64 = (R.drop 64).length by rw [List.length_drop]]
                have hc4 : (R.drop 64).length ≤ c3 - 64 := by rw [List.length_drop]; omega
                rw [HDR.out] at hc4 ⊢
                go_roundg (F.length / 64 - (i + 1))
                case measure =>
                  have := HG.out
                  have := HDL.out
                  omega
                case rel => exact ⟨i + 1, o', c3 - 64, by have := HG.out; have := HDL.out; omega, rfl, hc4, fun h => by have h2 := ho' (by have := HDL.out; omega); omega, HF4, by rw [← HX2.out]; exact hws, hU4⟩
            · have hi : i = F.length / 64 := by have := HFM.out; omega
              have hz0 : (F.drop (64 * i)).length = 0 := by rw [HDL.out]; omega
              have HXE := Lib.hid (show blocks s i F = blocks s (F.length / 64) F by rw [hi])
              have hok := blocks_ok i F hs
              rw [hz0]
              generalize hX : blocks s i F = X at *
              clear hX hig ho3 hc3 HBS HDR HFC2
              have hsX : (wcells (stw X)).size = 8 := rfl
              go_wp2_with (first
                | (guard_target =~ wpList _ _ _ ({ dst := _, op := Op.load 167 (.tmp 6), type := _, pos := _, after := _, guard := none } :: _) _ _; refine lay0 ?_; intro w8 z8 hO8 hB8; refine wpList_load_row rfl 167 _ rfl SB rfl _ _ _ _ ((hB8.block _ HS.out.lt).trans HS.out) hu8 rfl hi8 ?_))
              have hO9 := Lib.hid (show Bo wr.heap.size w8 (ob X 0) from hO8)
              have hU8 := Lib.hid (HU.out.trans (hB8.mono (Nat.le_trans hSBl (Nat.le_of_lt HS.out.lt))))
              have hOl : w.heap.size + 1 ≤ wr.heap.size := Nat.le_trans hSBl (Nat.le_of_lt HS.out.lt)
              have hgC : ∀ (j : Nat) (x : Nat), (stw X)[j]? = some x → (wcells (stw X))[j]? = some (w32 x) := fun j x h => wcells_get h
              generalize wcells (stw X) = C at *
              clear hO8 hB8 HU HS HFC
              generalize wr.heap.size = O at *
              clear z8
              go_loopg [56] 8 (fun g v wr => ∃ j : Nat, j + g = 8 ∧ v = .int .i64 j ∧ Hid (Bo O wr (ob X j)) ∧ Hid (Below (w.heap.size + 1) w2 wr))
              case atStart => exact ⟨0, by omega, rfl, hO9, hU8⟩
              case round =>
                clear hO9 hU8
                obtain ⟨j, hjg, rfl, HO, HU⟩ := hrel
                have HG := Lib.hid hjg
                by_cases hlt : j < 8
                · clear hjg
                  obtain ⟨x, hx⟩ : ∃ x, (stw X)[j]? = some x := ⟨_, ShaD.stw_get X hlt⟩
                  have hix := fun W => index_arr C j x hlt (hgC j x hx) W
                  have HP := Lib.hid (HO.out.put4 hlt hx)
                  have c0 := HO.out.cell (i := 4 * j) (b := 0) (by rcases ShaD.lt8 hlt with rfl | rfl | rfl | rfl | rfl | rfl | rfl | rfl <;> rfl)
                  have c1 := HO.out.cell (i := 4 * j + 1) (b := 0) (by rcases ShaD.lt8 hlt with rfl | rfl | rfl | rfl | rfl | rfl | rfl | rfl <;> rfl)
                  have c2 := HO.out.cell (i := 4 * j + 2) (b := 0) (by rcases ShaD.lt8 hlt with rfl | rfl | rfl | rfl | rfl | rfl | rfl | rfl <;> rfl)
                  have c3 := HO.out.cell (i := 4 * j + 3) (b := 0) (by rcases ShaD.lt8 hlt with rfl | rfl | rfl | rfl | rfl | rfl | rfl | rfl <;> rfl)
                  have f0 := HO.out.free (4 * j)
                  have f1 := HO.out.free (4 * j + 1)
                  have f2 := HO.out.free (4 * j + 2)
                  have f3 := HO.out.free (4 * j + 3)
                  have q0 : IntKind.i64.wrap (4 * (j : Int)) = ((4 * j : Nat) : Int) := (IntWalk.i64_in _ ⟨by omega, by omega⟩).trans (by omega)
                  have q1 : IntKind.i64.wrap (((4 * j : Nat) : Int) + 1) = ((4 * j + 1 : Nat) : Int) := (IntWalk.i64_in _ ⟨by omega, by omega⟩).trans (by omega)
                  have y0 : (0 : Int) ≤ (j : Int) := by omega
                  have y1 : (j : Int) < 8 := by omega
                  clear hgC
                  have HU2 := Lib.hid ((((HU.out.setCell (p := ⟨O, 4 * j, none⟩) hOl (.int .u8 ((x : Int) / 16777216 % 256))).setCell (p := ⟨O, 4 * j + 1, none⟩) hOl (.int .u8 ((x : Int) / 65536 % 256))).setCell (p := ⟨O, 4 * j + 2, none⟩) hOl (.int .u8 ((x : Int) / 256 % 256))).setCell (p := ⟨O, 4 * j + 3, none⟩) hOl (.int .u8 ((x : Int) % 256)))
                  go_wp2_with fail
                  go_roundg (8 - (j + 1))
                  case measure => have := HG.out; omega
                  case rel => exact ⟨j + 1, by have := HG.out; omega, by go_num, HP, HU2⟩
                · obtain rfl : j = 8 := by omega
                  have hR8 : wr.heap[w.heap.size]? = some (.cells Z 63 (0, 0)) := (HU.out.block _ (Nat.lt_succ_self _)).trans hZ
                  have hu32 : Tryz.prog.underlying 63 = some (.array 32 5) := by kernel_rfl
                  have hi32 : (Tryz.prog.info? 63).map (·.size) = some 32 := by kernel_rfl
                  have HX := Lib.hid (show bcells (ob X 8) = bcells (Sha.out (blocks s ((r ++ tail n).length / 64) (r ++ tail n))) by
                    rw [← HFE.out, ← HXE.out]
                    rfl)
                  have hs32 : (bcells (ob X 8)).size = 32 := by rw [bcells_size]; rfl
                  have ho32 := bcells_one (ob X 8)
                  have hO8 : wr.heap[O]? = some (.cells (bcells (ob X 8)) 63 (0, 0)) := HO.out
                  generalize bcells (ob X 8) = V at *
                  have hi33 : (Tryz.prog.info? 63).map (·.size) = some V.size := hi32.trans (congrArg some hs32.symm)
                  clear hgC
                  go_wp2_with (first
                    | (guard_target =~ wpList _ _ _ ({ dst := _, op := Op.load 63 _, type := _, pos := _, after := _, guard := none } :: _) _ _; refine wpList_load_row rfl 63 _ rfl O rfl _ _ _ _ hO8 hu32 rfl hi33 ?_)
                    | (guard_target =~ wpList _ _ _ ({ dst := _, op := Op.store 63 _ _, type := _, pos := _, after := _, guard := none } :: _) _ _; refine wpList_store_row rfl 63 _ _ rfl _ V rfl rfl _ _ hR8 hi33 (hZs.trans hs32.symm) ho32 ?_))
                  refine bodyPost_ret (results_cell_row rfl _ _ w.heap.size 63 _ _ _ rfl (heap_setRow _ hR8) hu32 rfl hi33) rfl ⟨by rw [HX.out], ?_⟩
                  exact below_row (hB2.trans (HU.out.mono (Nat.le_succ _))) (Nat.le_refl _) _
    · have h56 : ¬ L3 % 64 = 56 := fun h => hj (hm.1 (by rw [HL3.out]; exact h))
      have h57 : ((L3 % 64 : Nat) : Int) ≠ 56 := by omega
      have hlen := zs_length r j
      clear hm
      go_wp2_with (at_builtin; refine append_one wr rfl (.tmp 22) (.tmp 23) rfl (w.heap.size + 1) (zs r j) 0 rfl HO.out (by omega) (by omega) rfl rfl ?_; intro ar4 cr4 w4 n4 hn4 ho4 hb4; have HN4 := Lib.hid hn4; clear hn4)
      go_roundg (zeros n - (j + 1))
      case measure => have := HG.out; omega
      case rel => exact ⟨j + 1, ar4, cr4, by have := HG.out; omega, by rw [HN4.out, zs_more, zs_length], by rw [zs_more] at ho4; exact ho4, HU.out.trans hb4⟩
/-- the digest of what a hash was given -/
theorem sum (p hi : Nat) (l : List UInt8) (w : World) (h : HashAt p hi w l) (hl : l.length ≤ 140737488350000) :
    Calls Tryz.prog 80 #[.pointer (some ⟨p, 0, none⟩)] w fun e w' => e = .returned (.agg (bcells (sha l))) ∧ Below w.heap.size w w' := by
  obtain ⟨k, a, c, h1, h2, h3, h4⟩ := h.ex
  have hn : l.length - 64 * k = (l.drop (64 * k)).length := by rw [List.length_drop]
  rw [hn] at h3
  rw [sha_fin k l h1]
  exact sumS p (st k l) (st_ok k l) (l.drop (64 * k)) l.length c w h3 h4.bs (by rw [← hn]; omega) (by rw [← hn]; omega) (by omega)
end Go.Proofs.YtecnnlppinhmgaaGreatDoor.ShaF
namespace Go.Proofs.YtecnnlppinhmgaaGreatDoor.ShaG
open Go.RowKit Go.Proofs.YtecnnlppinhmgaaGreatDoor Go.Proofs.YtecnnlppinhmgaaGreatDoor.Sha Go.Proofs.YtecnnlppinhmgaaGreatDoor.ShaA Go.Proofs.YtecnnlppinhmgaaGreatDoor.ShaB Go.Proofs.YtecnnlppinhmgaaGreatDoor.ShaC Go.Proofs.YtecnnlppinhmgaaGreatDoor.HtW Go.Proofs.YtecnnlppinhmgaaGreatDoor.Lf Go.Proofs.YtecnnlppinhmgaaGreatDoor.ShaE Go.Proofs.YtecnnlppinhmgaaGreatDoor.App Go.Proofs.YtecnnlppinhmgaaGreatDoor.ShaF

theorem bs_lt {w : World} {a : Option Addr} {l : List UInt8} {c : Nat} (h : Bs w a l c) {p hi : Nat} (hp : w.heap.size ≤ p) : l ≠ [] → ∀ q, a = some q → ¬ (p ≤ q.block ∧ q.block < hi) := by
  intro hl q hq hh
  rcases h.2.2 with h0 | ⟨b, o, h1, h3, _⟩
  · exact hl h0
  · rw [h1] at hq
    cases hq
    simp only at hh
    omega
/-- a whole array of 32 bytes is laid into a new box -/
theorem store32 {ops : Array Oper} {rest : List Oper} {o : Oper} {a : Act} {Q : Exit → Act → World → Prop} {w4 : World} {o1 : Array Value} (hgd : o.guard = none) (x y : Operand) (ho : o.op = .store 63 x y) (l : List UInt8) (hl : l.length = 32) (hx : a.eval x = .pointer (some ⟨w4.heap.size, 0, none⟩)) (hy : a.eval y = .agg (bcells l)) (h1 : o1.size = 32)
    (h : ∀ w5 : World, w5.heap.size = w4.heap.size + 1 → w5.heap[w4.heap.size]? = some (.cells (bcells l) 63 (0, 0)) → Below w4.heap.size w4 w5 → wpList Tryz.prog ops Q rest (a.put o.dst undef) w5) :
    wpList Tryz.prog ops Q (o :: rest) a (w4.alloc (.cells o1 63)) := by
  have hi32 : (Tryz.prog.info? 63).map (·.size) = some 32 := by kernel_rfl
  have hs : (bcells l).size = 32 := by rw [bcells_size, hl]
  refine wpList_store_row hgd 63 x y ho _ (bcells l) hx hy _ _ (heap_alloc_new _ _) (hi32.trans (congrArg some hs.symm)) (h1.trans hs.symm) (bcells_one l) ?_
  exact h _ (by simp) (heap_setRow _ (heap_alloc_new _ _)) (below_row ((Below.refl _ _).alloc (Nat.le_refl _) _) (Nat.le_refl _) _)
/-- a box of bytes, as a slice -/
theorem bs_box {w : World} {g : Nat} {l : List UInt8} {t : TypeId} {fr : Nat × Nat} (h : w.heap[g]? = some (.cells (bcells l) t fr)) (c : Nat) (hc : l.length ≤ c) : Bs w (some ⟨g, 0, none⟩) l c := by
  refine ⟨hc, (fun h => by cases h), .inr ⟨g, 0, rfl, (Array.getElem?_eq_some_iff.1 h).1, fun j x hj => ?_⟩⟩
  rw [Nat.zero_add, Lib.cell_of_heap h]
  unfold bcells
  rw [List.getElem?_toArray]
  exact bc_get hj
theorem copy_cells (r L : List UInt8) : ((bcells L).toList.take 0 ++ (Lib.byteCells r ++ (bcells L).toList.drop (0 + r.length))).toArray = bcells (r ++ L.drop r.length) := by
  unfold bcells
  rw [HtX.byteCells_append, List.take_zero, List.nil_append, Nat.zero_add]
  simp only [Lib.byteCells, List.map_drop]
theorem copy_bs {ops : Array Oper} {rest : List Oper} {op : Oper} {A : Act} {Q : Exit → Act → World → Prop} (w : World) (hg : op.guard = none) (d s : Operand) (hop : op.op = .call { callee := .builtin .copy, args := #[d, s], argTypes := #[24, 24] })
    (g : Nat) (L : List UInt8) (t : TypeId) (hrow : w.heap[g]? = some (.cells (bcells L) t (0, 0))) (dLen dCap : Nat) (aR : Option Addr) (r : List UInt8) (cR : Nat) (hB : Bs w aR r cR) (hr : r.length ≤ dLen) (hL : dLen ≤ L.length)
    (hd : A.eval d = .slice (some ⟨g, 0, none⟩) dLen dCap) (hs : A.eval s = .slice aR r.length cR)
    (h : ∀ w' : World, w'.heap[g]? = some (.cells (bcells (r ++ L.drop r.length)) t (0, 0)) → (∀ B w0, B ≤ g → Below B w0 w → Below B w0 w') → wpList Tryz.prog ops Q rest (A.put op.dst (goInt r.length)) w') :
    wpList Tryz.prog ops Q (op :: rest) A w := by
  have hsz : (Tryz.prog.info? 5).map (·.size) = some 1 := by kernel_rfl
  by_cases hr0 : r = []
  · subst hr0
    refine wpList_copy_nothing hg d s _ _ hop 5 Tryz.underlying24 hsz _ _ _ _ _ _ hd hs (Nat.min_eq_left (Nat.zero_le _)) ?_
    exact h w (by simpa using hrow) fun _ _ _ h => h
  · obtain ⟨p, rfl⟩ : ∃ p, aR = some p := by
      rcases hB.2.2 with h | ⟨b', o', h, _⟩
      · exact absurd h hr0
      · exact ⟨_, h⟩
    have hbl : (Lib.byteCells r).length = r.length := HtX.byteCells_length r
    have hcs : (bcells L).size = L.length := bcells_size L
    refine wpList_copy_own hg d s _ _ hop 5 Tryz.underlying24 hsz g 0 dLen dCap p r.length cR hd hs _ _ hrow (Lib.byteCells r) (by rw [hbl]; exact (Nat.min_eq_left hr).symm) hB.cells (by rw [hbl, hcs]; omega) (HtX.byteCells_one r) ?_
    rw [hbl]
    refine h _ ?_ fun B w0 hB hb => below_row hb hB _
    rw [copy_cells]
    exact heap_setRow _ hrow

set_option maxHeartbeats 1000000 in
set_option maxRecDepth 100000 in
theorem shaSum (b : List UInt8) {a : Option Addr} (c : Nat) (w : World) (hb : Bs w a b c) (hl : b.length ≤ 140737488350000) :
    Calls Tryz.prog 52 #[.slice a b.length c] w fun e w' => e = .returned (.agg (bcells (sha b))) ∧ Below w.heap.size w w' := by
  have HB := Lib.hid hb; clear hb
  go_enter Tryz.func52, Tryz.ntmps52
  go_wp2_with fail
  have hz0 : ∀ o : Obj, (w.alloc o).heap.size = w.heap.size + 1 := fun o => World.size_alloc w o
  obtain ⟨w0, hw0, hb0, hz0, hR0⟩ : ∃ w0 : World, w0 = w.alloc (.cells #[.int .u8 0, .int .u8 0, .int .u8 0, .int .u8 0, .int .u8 0, .int .u8 0, .int .u8 0, .int .u8 0, .int .u8 0, .int .u8 0, .int .u8 0, .int .u8 0, .int .u8 0, .int .u8 0, .int .u8 0, .int .u8 0, .int .u8 0, .int .u8 0, .int .u8 0, .int .u8 0, .int .u8 0, .int .u8 0, .int .u8 0, .int .u8 0, .int .u8 0, .int .u8 0, .int .u8 0, .int .u8 0, .int .u8 0, .int .u8 0, .int .u8 0, .int .u8 0] 63) ∧ Below w.heap.size w w0 ∧ w0.heap.size = w.heap.size + 1 ∧ w0.heap[w.heap.size]? = some (.cells (bcells (List.replicate 32 0)) 63 (0, 0)) := ⟨_, rfl, (Below.refl _ _).alloc (Nat.le_refl _) _, World.size_alloc _ _, heap_alloc_new _ _⟩
  rw [← hw0]
  clear hw0
  refine (new w0).mono ?_
  rintro e w1 ⟨p, rfl, hp, hb1, hA1⟩
  go_wp2_with fail
  have hB1 := HB.out.below (hb0.trans (hb1.mono (by omega)))
  refine (write p w1.heap.size [] b c w1 hA1 hB1 (bs_lt HB.out (by omega)) (by simp; omega)).mono ?_
  rintro e w2 ⟨rfl, hO2, hA2⟩
  go_wp2_with fail
  refine (sum p w2.heap.size ([] ++ b) w2 hA2 (by simpa using hl)).mono ?_
  rintro e w3 ⟨rfl, hb3⟩
  rw [List.nil_append]
  have hz1 := hb1.size
  have hz2 := hO2.size
  have hbA : Below w.heap.size w w3 := (hb0.trans (hb1.mono (by omega))).trans ((hO2.below (b := w.heap.size) (by omega) (by omega)).trans (hb3.mono (by omega)))
  have hR3 : w3.heap[w.heap.size]? = some (.cells (bcells (List.replicate 32 0)) 63 (0, 0)) := (hb3.block _ (by omega)).trans ((hO2.block _ (by omega) (by omega)).trans ((hb1.block _ (by omega)).trans hR0))
  have hu32 : Tryz.prog.underlying 63 = some (.array 32 5) := by kernel_rfl
  have hi32 : (Tryz.prog.info? 63).map (·.size) = some 32 := by kernel_rfl
  have hs32 : (bcells (sha b)).size = 32 := by rw [bcells_size, sha_length]
  have ho32 := bcells_one (sha b)
  have hz32 : (bcells (List.replicate 32 0)).size = 32 := by rw [bcells_size, List.length_replicate]
  generalize bcells (List.replicate 32 0) = Z at *
  obtain ⟨V, hV⟩ : ∃ V, V = bcells (sha b) := ⟨_, rfl⟩
  have HV := Lib.hid hV
  rw [← hV] at hs32 ho32 ⊢
  clear hV
  have hi33 : (Tryz.prog.info? 63).map (·.size) = some V.size := hi32.trans (congrArg some hs32.symm)
  go_wp2_with (guard_target =~ wpList _ _ _ ({ dst := _, op := Op.store 63 _ _, type := _, pos := _, after := _, guard := none } :: _) _ _; refine wpList_store_row rfl 63 _ _ rfl _ V rfl rfl _ _ hR3 hi33 (hz32.trans hs32.symm) ho32 ?_)
  refine bodyPost_ret (results_cell_row rfl _ _ w.heap.size 63 _ _ _ rfl (heap_setRow _ hR3) hu32 rfl hi33) rfl ⟨by rw [HV.out], ?_⟩
  exact below_row hbA (Nat.le_refl _) _
end Go.Proofs.YtecnnlppinhmgaaGreatDoor.ShaG
