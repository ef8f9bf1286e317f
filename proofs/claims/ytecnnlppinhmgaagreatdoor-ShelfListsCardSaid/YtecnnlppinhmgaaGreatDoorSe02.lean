/-
  The walk of package disk's Rename. Contracts of the library on the sorted keys of a map at this seat, laid by the kit's own programs, in plain words. The walk of package disk's names. The walk of package disk's Crash. Package shelf: names; the walks of its name, New and Drive.
-/
import Derived.Test.YtecnnlppinhmgaaGreatDoorSa01
import Derived.Test.YtecnnlppinhmgaaGreatDoorSa15
import Derived.Test.YtecnnlppinhmgaaGreatDoorSe01
import Derived.Shelf.SlIter.Nil
import Derived.Shelf.SortM.Plain
import Derived.Shelf.SortM.SortNone
import Derived.Ground.GgzProg
import Derived.Ground.SlgmProg
import Derived.Test.YtecnnlppinhmgaaGreatDoorProg
import Derived.OwnWalkIn
import Derived.TacticsInMore
import Derived.Lib.ItoaNum
import Derived.Deep.RegionHeld3
namespace Go.Proofs.YtecnnlppinhmgaaGreatDoor.DiskD
open Go.RowKit Go.Proofs.YtecnnlppinhmgaaGreatDoor Go.Proofs.YtecnnlppinhmgaaGreatDoor.Dw Go.Proofs.YtecnnlppinhmgaaGreatDoor.DiskB Go.Proofs.YtecnnlppinhmgaaGreatDoor.DiskC

set_option maxHeartbeats 2000000 in
set_option maxRecDepth 100000 in
theorem rename_bad1 (d : Value) (n t : ByteArray) (w : World) {aN aF aG : Addr} (he : Errs w aN aF aG) (hg : DiskA.gd n.data.toList = false) :
    Calls Tryz.prog 34 #[d, .string n, .string t] w fun e w' => e = .returned (ev aN) ∧ w = w' := by
  have hn := he.name
  go_enter Tryz.func34, Tryz.ntmps34
  go_wp2_with (go_at_call 55; refine (DiskA.good _ _).mono ?_; rintro e w' ⟨rfl, rfl⟩)
  go_ret
  exact ⟨rfl, rfl⟩
set_option maxHeartbeats 2000000 in
set_option maxRecDepth 100000 in
theorem rename_bad2 (d : Value) (n t : ByteArray) (w : World) {aN aF aG : Addr} (he : Errs w aN aF aG) (hg : DiskA.gd n.data.toList = true) (hg2 : DiskA.gd t.data.toList = false) :
    Calls Tryz.prog 34 #[d, .string n, .string t] w fun e w' => e = .returned (ev aN) ∧ w = w' := by
  have hn := he.name
  go_enter Tryz.func34, Tryz.ntmps34
  go_wp2_with (go_at_call 55; refine (DiskA.good _ _).mono ?_; rintro e w' ⟨rfl, rfl⟩)
  go_ret
  exact ⟨rfl, rfl⟩
set_option maxHeartbeats 2000000 in
set_option maxRecDepth 100000 in
theorem rename_no {lo d mb : Nat} {M : Dp.Files} {full : Bool} {lost : Int} (n t : ByteArray) (w : World) {aN aF aG : Addr} (hd : Drive lo d mb w M full lost) (he : Errs w aN aF aG) (hs : n.size ≤ maxLen) (hg : DiskA.gd n.data.toList = true) (hg2 : DiskA.gd t.data.toList = true) (hno : askE M n.data.toList ≠ .ok) :
    Calls Tryz.prog 34 #[.pointer (some ⟨d, 0, none⟩), .string n, .string t] w fun e w' => e = .returned (erv aN aF aG (askE M n.data.toList)) ∧ Below w.heap.size w w' := by
  go_enter Tryz.func34, Tryz.ntmps34
  go_wp2_with (first
    | (go_at_call 55; refine (DiskA.good _ _).mono ?_; rintro e w' ⟨rfl, rfl⟩)
    | (go_at_call 56; refine (find_err n _ hd he hs hno).mono ?_; rintro e w1 ⟨⟨x, hx, rfl⟩, hb⟩; have HX := Lib.hid hx; clear hx))
  go_ret
  exact ⟨by rw [HX.out]; rfl, hb.alloc (hb.size) _⟩
set_option maxHeartbeats 2000000 in
set_option maxRecDepth 100000 in
theorem rename_ok {d mb m : Nat} {D : DataW Value} (n t : ByteArray) (a1 : Option Addr) (n1 c1 : Nat) (a2 : Option Addr) (n2 c2 : Nat) (k : Bool) (w : World)
    (hdl : d < w.heap.size) (c0 : w.cell? ⟨d, 0, none⟩ = some (.map (some mb))) (ho : w.ownsMap Tryz.prog 9 rd mb m D) (hL : Looks D n.data.toList (.agg #[.slice a1 n1 c1, .slice a2 n2 c2, .bool k]) true) (hne : d ≠ mb)
    (hs : n.size ≤ maxLen) (hst : t.size ≤ maxLen) (hg : DiskA.gd n.data.toList = true) (hg2 : DiskA.gd t.data.toList = true) (hmx : m < 4294967296) :
    Calls Tryz.prog 34 #[.pointer (some ⟨d, 0, none⟩), .string n, .string t] w fun e w' => e = .returned .nilIface ∧
      w'.ownsMap Tryz.prog 9 rd mb (m + 1) ((D.del (.string n.data.toList)).put (.string t.data.toList) (.held (.agg #[.slice a1 n1 c1, .slice a2 n2 c2, .bool k]))) ∧ Keep [mb] w w' := by
  have hml := ho.lt
  go_enter Tryz.func34, Tryz.ntmps34
  go_wp2_with (first
    | (go_at_call 55; refine (DiskA.good _ _).mono ?_; rintro e w' ⟨rfl, rfl⟩)
    | (go_at_call 56; refine (find_hit n a1 n1 c1 a2 n2 c2 k _ ⟨hdl, c0, _, D, ho, hL⟩ hs hg).mono ?_; rintro e w1 ⟨rfl, hb⟩; have c1' := (hb.cell (p := ⟨d, 0, none⟩) hdl).trans c0; have hz := hb.size; have hd1 : d < w1.heap.size := (by omega); have hm1 : mb < w1.heap.size := (by omega))
    | (at_delete; refine wpList_drop rfl _ _ rfl rfl ((ownsMap_below ho hb).alloc _) n rfl hs ?_; intro w2 ho2 ht2; have K2 := Keep.of_turned ht2; have g0 := (K2.cell (p := ⟨d, 0, none⟩) (by simp; omega) (by simp; exact hne)).trans ((World.cell?_alloc_lt w1 _ _ hd1).trans c1'); obtain ⟨q0, q1, q2⟩ := three_turned hm1 ht2))
  refine region_tail 6 (by kernel_rfl) ?_
  simp only [List.take_succ_cons, List.take_zero, List.drop_succ_cons, List.drop_zero]
  repeat still_step
  refine wpStill_nil ?_
  go_wp2_with (at_mapUpdate; refine wpList_store rfl _ _ _ rfl rfl ho2.drew hmx t rfl hst _ rfl ?_; intro w3 ho3 ht3)
  go_ret
  exact ⟨rfl, ho3, ((((Keep.of_below hb _).alloc _).trans K2).drew).trans (Keep.of_turned ht3)⟩

/-- Rename -/
theorem rename {lo d mb : Nat} {M : Dp.Files} {full : Bool} {lost : Int} (n t : ByteArray) (w : World) {aN aF aG : Addr} (hd : Drive lo d mb w M full lost) (he : Errs w aN aF aG) (hs : n.size ≤ maxLen) (hst : t.size ≤ maxLen) (hmx : M.length < 4294967296) :
    Calls Tryz.prog 34 #[.pointer (some ⟨d, 0, none⟩), .string n, .string t] w fun e w' => e = .returned (erv aN aF aG (reE M n.data.toList t.data.toList)) ∧ Drive lo d mb w' (reM M n.data.toList t.data.toList) full lost ∧ Keep [mb] w w' := by
  cases hg : DiskA.gd n.data.toList
  · have h1 : reE M n.data.toList t.data.toList = .name := by simp [reE, hg]
    refine (rename_bad1 _ n t w he hg).mono ?_
    rintro e w' ⟨rfl, rfl⟩
    exact ⟨by rw [h1]; rfl, by simpa [reM, h1] using hd, Keep.refl _ _⟩
  cases hg2 : DiskA.gd t.data.toList
  · have h1 : reE M n.data.toList t.data.toList = .name := by simp [reE, hg2]
    refine (rename_bad2 _ n t w he hg hg2).mono ?_
    rintro e w' ⟨rfl, rfl⟩
    exact ⟨by rw [h1]; rfl, by simpa [reM, h1] using hd, Keep.refl _ _⟩
  have h1 : reE M n.data.toList t.data.toList = askE M n.data.toList := by simp [reE, hg, hg2]
  by_cases ha : askE M n.data.toList = .ok
  · obtain ⟨_, hk⟩ := ask_ok ha
    obtain ⟨D, ho, ht⟩ := hd.own
    obtain ⟨a1, c1, a2, c2, hL, hb1, hb2⟩ := looks_hit ht hk
    refine (rename_ok n t a1 _ c1 a2 _ c2 _ w hd.names_lt.1 hd.cell0 ho hL hd.dmb hs hst hg hg2 hmx).mono ?_
    rintro e w' ⟨rfl, ho', hkp⟩
    refine ⟨by rw [h1, ha]; rfl, ?_, hkp⟩
    rw [reM, h1, if_pos ha]
    have hlo : ∀ k ∈ [mb], k < lo := by simp; exact hd.mlo
    exact hd.turned hkp ho' (((ht.mono fun v f hf => hf.keep hkp hlo).del _).put ⟨a1, c1, a2, c2, rfl, hb1.keep hkp hlo, hb2.keep hkp hlo⟩)
  · refine (rename_no n t w hd he hs hg hg2 ha).mono ?_
    rintro e w' ⟨rfl, hb⟩
    exact ⟨by rw [h1], by simpa [reM, h1, ha] using hd.below hb, Keep.of_below hb _⟩
end Go.Proofs.YtecnnlppinhmgaaGreatDoor.DiskD
namespace Go.Proofs
open Go.Shelf
def Tryz.keys58_ren : Go.Shelf.Ren := ⟨fun | 7 => 58 | 10 => 84 | n => n, fun | 23 => 71 | 26 => 9 | 3 => 75 | 28 => 85 | 0 => 0 | 27 => 84 | 33 => 101 | 4 => 4 | n => n, fun | n => n⟩
theorem Tryz.keys58 : Go.Proofs.SlLaysZ.n7 Tryz.prog Tryz.keys58_ren := {
  mixed := by kernel_rfl
  f7 := ⟨Tryz.f58.name, by decide, Tryz.func58.trans (congrArg some (by kernel_rfl))⟩
  f10 := ⟨Tryz.f84.name, by decide, Tryz.func84.trans (congrArg some (by kernel_rfl))⟩
  t0 := Tryz.underlying0
  a0 := Tryz.isAgg0
  z0 := Tryz.sizeOf0
  v0 := Tryz.zeroValue0
  t4 := Tryz.underlying4
  a4 := Tryz.isAgg4
  z4 := Tryz.sizeOf4
  v4 := Tryz.zeroValue4
  t23 := Tryz.underlying71
  a23 := Tryz.isAgg71
  z23 := Tryz.sizeOf71
  v23 := Tryz.zeroValue71
  t26 := Tryz.underlying9
  a26 := Tryz.isAgg9
  z26 := Tryz.sizeOf9
  v26 := Tryz.zeroValue9
  t27 := Tryz.underlying84
  a27 := Tryz.isAgg84
  z27 := Tryz.sizeOf84
  v27 := Tryz.zeroValue84
  t28 := Tryz.underlying85
  a28 := Tryz.isAgg85
  z28 := Tryz.sizeOf85
  v28 := Tryz.zeroValue85
  t33 := Tryz.underlying101
  a33 := Tryz.isAgg101
  z33 := Tryz.sizeOf101
  v33 := Tryz.zeroValue101 }
def Tryz.sorted57_ren : Go.Shelf.Ren := ⟨fun | 6 => 57 | 8 => 82 | 9 => 83 | 11 => 105 | 13 => 70 | 12 => 106 | 23 => 98 | 24 => 99 | 14 => 129 | 15 => 130 | 16 => 131 | 17 => 132 | 18 => 133 | 19 => 134 | 20 => 135 | 21 => 136 | 22 => 137 | 25 => 152 | 26 => 116 | 27 => 117 | 28 => 153 | 29 => 154 | 30 => 155 | 31 => 165 | n => n, fun | 26 => 9 | 28 => 85 | 24 => 76 | 0 => 0 | 3 => 3 | 37 => 92 | 48 => 90 | 50 => 127 | 4 => 4 | 40 => 156 | 39 => 155 | 45 => 160 | 5 => 5 | 9 => 9 | 51 => 183 | 55 => 187 | 57 => 213 | 58 => 117 | 33 => 101 | n => n, fun | n => n⟩
theorem Tryz.sorted57 : Go.Proofs.SlLaysZ.n6 Tryz.prog Tryz.sorted57_ren := {
  mixed := by kernel_rfl
  f6 := ⟨Tryz.f57.name, by decide, Tryz.func57.trans (congrArg some (by kernel_rfl))⟩
  f8 := ⟨Tryz.f82.name, by decide, Tryz.func82.trans (congrArg some (by kernel_rfl))⟩
  f11 := ⟨Tryz.f105.name, by decide, Tryz.func105.trans (congrArg some (by kernel_rfl))⟩
  t0 := Tryz.underlying0
  a0 := Tryz.isAgg0
  z0 := Tryz.sizeOf0
  v0 := Tryz.zeroValue0
  t24 := Tryz.underlying76
  a24 := Tryz.isAgg76
  z24 := Tryz.sizeOf76
  v24 := Tryz.zeroValue76
  t26 := Tryz.underlying9
  a26 := Tryz.isAgg9
  z26 := Tryz.sizeOf9
  v26 := Tryz.zeroValue9
  t28 := Tryz.underlying85
  a28 := Tryz.isAgg85
  z28 := Tryz.sizeOf85
  v28 := Tryz.zeroValue85
  i26 := by kernel_rfl }
def Tryz.sort83_ren : Go.Shelf.Ren := ⟨fun | 6 => 83 | 8 => 70 | 9 => 106 | 19 => 98 | 20 => 99 | 21 => 129 | 22 => 130 | 23 => 131 | 24 => 132 | 25 => 133 | 26 => 134 | 27 => 135 | 28 => 136 | 29 => 137 | 36 => 152 | 31 => 116 | 32 => 117 | 37 => 153 | 38 => 154 | 39 => 155 | 41 => 165 | n => n, fun | 27 => 76 | 29 => 9 | 3 => 3 | 32 => 92 | 26 => 76 | 0 => 0 | 44 => 90 | 46 => 127 | 4 => 4 | 36 => 156 | 35 => 155 | 41 => 160 | 5 => 5 | 9 => 9 | 53 => 183 | 57 => 187 | 63 => 213 | 64 => 117 | n => n, fun | n => n⟩
theorem Tryz.sort83 : Go.Proofs.SlLaysM.n6 Tryz.prog Tryz.sort83_ren := {
  mixed := by kernel_rfl
  f6 := ⟨Tryz.f83.name, by decide, Tryz.func83.trans (congrArg some (by kernel_rfl))⟩
  f8 := Tryz.func70.trans (congrArg some (by kernel_rfl))
  f9 := ⟨Tryz.f106.name, by decide, Tryz.func106.trans (congrArg some (by kernel_rfl))⟩
  f19 := Tryz.func98.trans (congrArg some (by kernel_rfl))
  f20 := Tryz.func99.trans (congrArg some (by kernel_rfl))
  f21 := ⟨Tryz.f129.name, by decide, Tryz.func129.trans (congrArg some (by kernel_rfl))⟩
  f22 := ⟨Tryz.f130.name, by decide, Tryz.func130.trans (congrArg some (by kernel_rfl))⟩
  f23 := ⟨Tryz.f131.name, by decide, Tryz.func131.trans (congrArg some (by kernel_rfl))⟩
  f24 := ⟨Tryz.f132.name, by decide, Tryz.func132.trans (congrArg some (by kernel_rfl))⟩
  f25 := ⟨Tryz.f133.name, by decide, Tryz.func133.trans (congrArg some (by kernel_rfl))⟩
  f26 := ⟨Tryz.f134.name, by decide, Tryz.func134.trans (congrArg some (by kernel_rfl))⟩
  f27 := ⟨Tryz.f135.name, by decide, Tryz.func135.trans (congrArg some (by kernel_rfl))⟩
  f28 := ⟨Tryz.f136.name, by decide, Tryz.func136.trans (congrArg some (by kernel_rfl))⟩
  f29 := ⟨Tryz.f137.name, by decide, Tryz.func137.trans (congrArg some (by kernel_rfl))⟩
  f31 := Tryz.func116.trans (congrArg some (by kernel_rfl))
  f32 := Tryz.func117.trans (congrArg some (by kernel_rfl))
  f36 := ⟨Tryz.f152.name, by decide, Tryz.func152.trans (congrArg some (by kernel_rfl))⟩
  f37 := ⟨Tryz.f153.name, by decide, Tryz.func153.trans (congrArg some (by kernel_rfl))⟩
  f38 := ⟨Tryz.f154.name, by decide, Tryz.func154.trans (congrArg some (by kernel_rfl))⟩
  f39 := ⟨Tryz.f155.name, by decide, Tryz.func155.trans (congrArg some (by kernel_rfl))⟩
  f41 := ⟨Tryz.f165.name, by decide, Tryz.func165.trans (congrArg some (by kernel_rfl))⟩
  t0 := Tryz.underlying0
  a0 := Tryz.isAgg0
  z0 := Tryz.sizeOf0
  v0 := Tryz.zeroValue0
  t3 := Tryz.underlying3
  a3 := Tryz.isAgg3
  z3 := Tryz.sizeOf3
  v3 := Tryz.zeroValue3
  t4 := Tryz.underlying4
  a4 := Tryz.isAgg4
  z4 := Tryz.sizeOf4
  v4 := Tryz.zeroValue4
  t5 := Tryz.underlying5
  a5 := Tryz.isAgg5
  z5 := Tryz.sizeOf5
  v5 := Tryz.zeroValue5
  t9 := Tryz.underlying9
  a9 := Tryz.isAgg9
  z9 := Tryz.sizeOf9
  v9 := Tryz.zeroValue9
  t26 := Tryz.underlying76
  a26 := Tryz.isAgg76
  z26 := Tryz.sizeOf76
  v26 := Tryz.zeroValue76
  t27 := Tryz.underlying76
  a27 := Tryz.isAgg76
  z27 := Tryz.sizeOf76
  v27 := Tryz.zeroValue76
  t29 := Tryz.underlying9
  a29 := Tryz.isAgg9
  z29 := Tryz.sizeOf9
  v29 := Tryz.zeroValue9
  t32 := Tryz.underlying92
  a32 := Tryz.isAgg92
  z32 := Tryz.sizeOf92
  v32 := Tryz.zeroValue92
  t35 := Tryz.underlying155
  a35 := Tryz.isAgg155
  z35 := Tryz.sizeOf155
  v35 := Tryz.zeroValue155
  t36 := Tryz.underlying156
  a36 := Tryz.isAgg156
  z36 := Tryz.sizeOf156
  v36 := Tryz.zeroValue156
  t41 := Tryz.underlying160
  a41 := Tryz.isAgg160
  z41 := Tryz.sizeOf160
  v41 := Tryz.zeroValue160
  t44 := Tryz.underlying90
  a44 := Tryz.isAgg90
  z44 := Tryz.sizeOf90
  v44 := Tryz.zeroValue90
  t46 := Tryz.underlying127
  a46 := Tryz.isAgg127
  z46 := Tryz.sizeOf127
  v46 := Tryz.zeroValue127
  t53 := Tryz.underlying183
  a53 := Tryz.isAgg183
  z53 := Tryz.sizeOf183
  v53 := Tryz.zeroValue183
  t57 := Tryz.underlying187
  a57 := Tryz.isAgg187
  z57 := Tryz.sizeOf187
  v57 := Tryz.zeroValue187
  t63 := Tryz.underlying213
  a63 := Tryz.isAgg213
  z63 := Tryz.sizeOf213
  v63 := Tryz.zeroValue213
  t64 := Tryz.underlying117
  a64 := Tryz.isAgg117
  z64 := Tryz.sizeOf117
  v64 := Tryz.zeroValue117 }

open Go.RowKit Go.Maps Go.Sort


/-- slices.Sort's two contracts at this dump, at the fence that asks nothing. -/
theorem Tryz.sorts57 (m : Nat) : AnyZ.SortsIn Tryz.prog Tryz.sorted57_ren Fence.wide m :=
  ⟨fun blk off cap ss W hH hblk hsz => callsIn_wide.2 (AnyM.slices_Sort_string Tryz.sort83 blk off cap ss W hH hblk hsz),
   fun p cap W => callsIn_wide.2 (AnyM.slices_Sort_string_none Tryz.sort83 p cap W)⟩

/-- **maps.Keys[map[string]bollard/disk.file,string,bollard/disk.file], at whatever map, the nil one too:** a function value over ONE NEW BLOCK, which holds the map. -/
theorem Tryz.maps_Keys_58 (mb : Option Nat) (W : World) : CallsIn Fence.wide 5 Tryz.prog 58 #[.map mb] W fun e w' => e = .returned (.func (.func 84) #[] #[.pointer (some ⟨W.heap.size, 0, none⟩)]) ∧ w' = W.alloc (.cells #[.map mb] 71) :=
  AnyZ.keys_in Tryz.keys58 Fence.wide 5 trivial rfl mb W

set_option maxHeartbeats 1000000 in
/-- **slices.Sorted[string] AT WHAT maps.Keys[map[string]bollard/disk.file,string,bollard/disk.file] HANDED BACK FOR A MAP THAT IS NOT nil** ('w': the world AHEAD of maps.Keys' call): A NEW SLICE THAT HOLDS THE MAP's KEYS, SORTED; nil just where it has none; nothing that lay before has turned. -/
theorem Tryz.slices_Sorted_keys_57_58 {H : Type} (b nn : Nat) (D0 : DataW H) (R : Value → Option (DataW H × List MemPlace)) (w : World) (hown : w.ownsMap Tryz.prog 9 R b nn D0) (hmax : Maps.size D0 ≤ maxLen) (hbytes : Maps.size D0 * 16 ≤ 140737488355328) :
    CallsIn Fence.wide 5 Tryz.prog 57 #[.func (.func 84) #[] #[.pointer (some ⟨w.heap.size, 0, none⟩)]] (w.alloc (.cells #[.map (some b)] 71)) fun e w' => ∃ (v : Value) (ss : List (List UInt8)), e = .returned v ∧ ss.Perm (strKeys D0) ∧
      w'.ownsRow (w.alloc (.cells #[.map (some b)] 71)).heap.size 9 1 v ss.length ((ss.mergeSort (fun x y => decide (x ≤ y))).map encStr) ∧ (v = .slice none 0 0 ↔ ss = []) ∧ Below (w.alloc (.cells #[.map (some b)] 71)).heap.size (w.alloc (.cells #[.map (some b)] 71)) w' := by
  have hbl := hown.lt
  have hseq : SeqGives Fence.wide 2 Tryz.prog 84 #[.pointer (some ⟨w.heap.size, 0, none⟩)] encStr (fun ss => ss.Perm (strKeys D0)) (Maps.size D0) (w.alloc (.cells #[.map (some b)] 71)) :=
    AnyZ.keys_gives (ρ := Tryz.keys58_ren) { Tryz.keys58 with } Fence.wide _ trivial rfl (by omega) w.heap.size b nn D0 _ (by simp) (by simp) (by
      obtain ⟨es, clock, hb, Ft, hs, hD⟩ := hown
      exact ⟨es, clock, (Below.heap_alloc _ _ b hbl).trans hb, Ft, hs, hD⟩)
  exact AnyZ.sorted_in Tryz.sorted57 Fence.wide 5 trivial trivial trivial trivial rfl (by omega) (Tryz.sorts57 _) (enters_of Tryz.func83 (by kernel_rfl) rfl) 84 #[.pointer (some ⟨w.heap.size, 0, none⟩)] trivial (enters_of Tryz.func84 (by kernel_rfl) rfl) _ _ hmax hbytes _ hseq

set_option maxHeartbeats 1000000 in
/-- **.. AND FOR THE nil MAP: nil.** -/
theorem Tryz.slices_Sorted_keys_nil_57_58 (w : World) :
    CallsIn Fence.wide 5 Tryz.prog 57 #[.func (.func 84) #[] #[.pointer (some ⟨w.heap.size, 0, none⟩)]] (w.alloc (.cells #[.map none] 71)) fun e w' => ∃ (v : Value) (ss : List (List UInt8)), e = .returned v ∧ ss = [] ∧
      w'.ownsRow (w.alloc (.cells #[.map none] 71)).heap.size 9 1 v ss.length ((ss.mergeSort (fun x y => decide (x ≤ y))).map encStr) ∧ (v = .slice none 0 0 ↔ ss = []) ∧ Below (w.alloc (.cells #[.map none] 71)).heap.size (w.alloc (.cells #[.map none] 71)) w' := by
  have hseq : SeqGives Fence.wide 2 Tryz.prog 84 #[.pointer (some ⟨w.heap.size, 0, none⟩)] encStr (fun ss : List (List UInt8) => ss = []) 0 (w.alloc (.cells #[.map none] 71)) :=
    AnyZ.keys_gives_nil (ρ := Tryz.keys58_ren) { Tryz.keys58 with } Fence.wide _ trivial rfl w.heap.size _ (by simp) (by simp)
  exact AnyZ.sorted_in Tryz.sorted57 Fence.wide 5 trivial trivial trivial trivial rfl (by omega) (Tryz.sorts57 _) (enters_of Tryz.func83 (by kernel_rfl) rfl) 84 #[.pointer (some ⟨w.heap.size, 0, none⟩)] trivial (enters_of Tryz.func84 (by kernel_rfl) rfl) _ 0 (Nat.zero_le _) (by omega) _ hseq



end Go.Proofs
namespace Go.Proofs.YtecnnlppinhmgaaGreatDoor.DiskE
open Go.RowKit Go.Proofs.YtecnnlppinhmgaaGreatDoor Go.Proofs.YtecnnlppinhmgaaGreatDoor.Dw Go.Proofs.YtecnnlppinhmgaaGreatDoor.DiskB Go.Proofs.YtecnnlppinhmgaaGreatDoor.DiskC Go.Maps Go.Sort

set_option maxHeartbeats 2000000 in
set_option maxRecDepth 100000 in
theorem names0 {d b nn : Nat} {D0 : DataW Value} (w : World) (c0 : w.cell? ⟨d, 0, none⟩ = some (.map (some b))) (hown : w.ownsMap Tryz.prog 9 rd b nn D0) (hmax : Maps.size D0 ≤ maxLen) (hbytes : Maps.size D0 * 16 ≤ 140737488355328) :
    Calls Tryz.prog 35 #[.pointer (some ⟨d, 0, none⟩)] w fun e w' => ∃ (v : Value) (ss : List (List UInt8)), e = .returned v ∧ ss.Perm (strKeys D0) ∧ w'.ownsRow w.heap.size 9 1 v ss.length ((ss.mergeSort (fun x y => decide (x ≤ y))).map Go.Proofs.encStr) ∧ Below w.heap.size w w' := by
  refine (callsIn_wide (n := 6)).1 ?_
  have hfK : Fence.wide.fn 58 := trivial
  have hfS : Fence.wide.fn 57 := trivial
  refine callsIn_of_wp Tryz.func35 rfl trivial ?_ rfl
  simp only [Tryz.ntmps35, List.size_toArray, List.length_cons, List.length_nil, Nat.reduceAdd, Nat.reduceSub, Array.replicate_succ, Array.replicate_zero, List.push_toArray, List.append_toArray, List.nil_append, List.cons_append]
  gi_wp2_with (first
    | (gi_at_call 58; refine (Tryz.maps_Keys_58 _ _).mono ?_; rintro e w' ⟨rfl, rfl⟩)
    | (gi_at_call 57; refine (Tryz.slices_Sorted_keys_57_58 b nn D0 rd w hown hmax hbytes).mono ?_; rintro e w' ⟨v, ss, rfl, hS, hrow, hnil, hb⟩))
  go_ret
  exact ⟨v, ss, rfl, hS, ownsRow_base_a hrow (by simp), ((Below.refl _ w).alloc (Nat.le_refl _) _).trans (hb.mono (by simp))⟩

/-- names -/
theorem names {lo d mb : Nat} {M : Dp.Files} {full : Bool} {lost : Int} (w : World) (hd : Drive lo d mb w M full lost) (hmx : M.length ≤ 4294967296) :
    Calls Tryz.prog 35 #[.pointer (some ⟨d, 0, none⟩)] w fun e w' => (∃ a c, e = .returned (.slice a M.length c) ∧ Ns w.heap.size w' a (Dp.names M)) ∧ Below w.heap.size w w' := by
  obtain ⟨D, ho, ht⟩ := hd.own
  refine (names0 w hd.cell0 ho (by rw [ht.size]; unfold maxLen; omega) (by rw [ht.size]; omega)).mono ?_
  rintro e w' ⟨v, ss, rfl, hp, hrow, hb⟩
  obtain ⟨es, rfl, hko⟩ := ho.keysOf
  have hs := ht.sorted (fun p hp' => by obtain ⟨v, hv⟩ := hko p hp'; obtain ⟨x, _, hx, _⟩ := Maps.keyOf_str Tryz.underlying9 hv; exact ⟨x, hx⟩) hp
  rw [hs] at hrow
  have hl : ss.length = (Dp.names M).length := by rw [← hs, List.length_mergeSort]
  rw [hl] at hrow
  obtain ⟨a, c, rfl, hn⟩ := ns_of_own hrow
  exact ⟨⟨a, c, by simp [Dp.names], hn⟩, hb⟩
end Go.Proofs.YtecnnlppinhmgaaGreatDoor.DiskE
namespace Go.Proofs.YtecnnlppinhmgaaGreatDoor.DiskF
open Go.RowKit Go.Proofs.YtecnnlppinhmgaaGreatDoor Go.Proofs.YtecnnlppinhmgaaGreatDoor.Dw Go.Proofs.YtecnnlppinhmgaaGreatDoor.DiskB Go.Proofs.YtecnnlppinhmgaaGreatDoor.DiskC

theorem crash_len (A : Dp.Files) : (Dp.crash A).length ≤ A.length := by
  induction A with
  | nil => exact Nat.le_refl _
  | cons p A ih => rw [Dp.crash]; split <;> simp <;> omega

set_option maxHeartbeats 4000000 in
set_option maxRecDepth 100000 in
/-- Crash -/
theorem crash {lo d mb : Nat} {M : Dp.Files} {full : Bool} {lost : Int} (w : World) (hd : Drive lo d mb w M full lost) (hmx : M.length < 4294967295) (hnl : ∀ p ∈ M, p.1.length ≤ maxLen) :
    Calls Tryz.prog 20 #[.pointer (some ⟨d, 0, none⟩)] w fun e w' => e = .returned (.tuple #[]) ∧ Drive lo d mb w' (Dp.crash M) full lost ∧ Keep [mb] w w' := by
  obtain ⟨D0, _, ht0⟩ := hd.own
  have hup := Lib.hid ht0.up
  have hml := hd.names_lt.2
  have hdl := hd.names_lt.1
  go_enter Tryz.func20, Tryz.ntmps20
  go_wp2_with (go_at_call 35; refine (DiskE.names _ hd (by omega)).mono ?_; rintro e w1 ⟨⟨a, c, rfl, hns⟩, hb⟩)
  have HNL := Lib.hid hnl; clear hnl
  have hd1 := hd.below hb
  go_loopg [8] M.length (fun g i wr => ∃ A r, M = A ++ r ∧ r.length = g ∧ i = .int .i64 (A.length : Int) ∧ Drive lo d mb wr (Dp.crash A ++ r) full lost ∧ Ns w.heap.size wr a (Dp.names M) ∧ Keep [mb] w1 wr)
  case atStart => exact ⟨[], M, rfl, rfl, rfl, hd1, hns, Keep.refl _ _⟩
  case round =>
    obtain ⟨A, r, hM, hrl, rfl, hdr, hnr, hkr⟩ := hrel
    have HM := Lib.hid hM
    have HR := Lib.hid hrl
    have hlen : M.length = A.length + r.length := by rw [hM]; simp
    clear hM hrl
    cases r with
    | nil =>
      have hlt : ¬ ((A.length : Int) < (M.length : Int)) := by simp at hlen; omega
      have HL := Lib.hid hlen; clear hlen
      go_wp2
      go_end0
      have hA : M = A := by simpa using HM.out
      exact ⟨rfl, by simpa [hA] using hdr, (Keep.of_below hb _).trans hkr⟩
    | cons p r =>
      have hlt : A.length < M.length := by simp at hlen; omega
      have HL := Lib.hid hlen; clear hlen
      obtain ⟨nm, f⟩ := p
      obtain ⟨bt, sf, kp⟩ := f
      have hup' := hup.out
      rw [HM.out] at hup'
      obtain ⟨hlk, hput, hdel⟩ := Dp.crash_round hup'
      clear hup'
      simp only at hlk hput hdel
      have hnm : nm.length ≤ maxLen := HNL.out (nm, ⟨bt, sf, kp⟩) (by rw [HM.out]; simp)
      rcases hnr with h0 | ⟨b, o, rfl, hb1, hb2, hc⟩
      · have : (Dp.names M).length = M.length := by simp [Dp.names]
        rw [h0] at this
        simp at this
        omega
      have hcell := hc A.length nm (by rw [HM.out]; simp [Dp.names])
      have HC := Lib.hid hc; clear hc
      obtain ⟨D, ho, ht⟩ := hdr.own
      obtain ⟨a1, c1, a2, c2, hL, hbs1, hbs2⟩ := looks_hit ht hlk
      have HBS := Lib.hid hbs2; clear hbs1 hbs2
      have hsz : (⟨nm.toArray⟩ : ByteArray).size ≤ maxLen := by rw [Com.size_mk]; exact hnm
      have hL' : Looks D (⟨nm.toArray⟩ : ByteArray).data.toList (.agg #[.slice a1 bt.length c1, .slice a2 sf.length c2, .bool kp]) true := hL
      clear hL
      have c0 := hdr.cell0
      have hdr1 := hdr.names_lt.1
      have hmr1 := hdr.names_lt.2
      have hne := hdr.dmb
      have HLK := Lib.hid hlk; clear hlk
      have hix : ((A.length : Int)).toNat = A.length := by simp
      cases kp
      · have HDL := Lib.hid (hdel rfl)
        clear hput hdel
        go_wp2_with (first
          | (at_lookup; refine wpList_look1 rfl _ _ rfl rfl ho ⟨nm.toArray⟩ rfl hsz hL' ?_)
          | (at_delete; refine wpList_drop rfl _ _ rfl rfl (ho.alloc _) ⟨nm.toArray⟩ rfl hsz ?_; intro w2 ho2 ht2))
        have hlo : ∀ k ∈ [mb], k < lo := by simp; exact hdr.mlo
        have hkp : Keep [mb] wr w2 := ((Keep.refl _ wr).alloc _).trans (Keep.of_turned ht2)
        have hdr2 := hdr.turned hkp ho2 ((ht.mono fun v f hf => hf.keep hkp hlo).del nm)
        have hns2 : Ns w.heap.size w2 (some ⟨b, o, none⟩) (Dp.names M) := Ns.keep (.inr ⟨b, o, rfl, hb1, hb2, HC.out⟩) hkp (by simp; exact hml)
        rw [HDL.out] at hdr2
        go_roundg (gk - 1)
        case measure => have := HR.out; simp at this; omega
        case rel => exact ⟨A ++ [(nm, ⟨bt, sf, false⟩)], r, by rw [HM.out]; simp, by have := HR.out; simp at this; omega, by simp, hdr2, hns2, hkr.trans hkp⟩
      · have HPT := Lib.hid (hput rfl)
        clear hdel hput
        go_wp2_with (at_lookup; refine wpList_look1 rfl _ _ rfl rfl ho ⟨nm.toArray⟩ rfl hsz hL' ?_)
        refine region_tail 6 (by kernel_rfl) ?_
        simp only [List.take_succ_cons, List.take_zero, List.drop_succ_cons, List.drop_zero]
        repeat still_step
        refine wpStill_nil ?_
        have hmlen : (Dp.crash A ++ (nm, Dp.File.mk bt sf true) :: r).length < 4294967296 := by
          have h2 := crash_len A
          have h3 := HL.out
          simp only [List.length_append, List.length_cons] at h2 h3 ⊢
          omega
        have HML := Lib.hid hmlen; clear hmlen
        go_wp2_with (at_mapUpdate; refine wpList_store rfl _ _ _ rfl rfl ((ho.alloc _).drew) HML.out ⟨nm.toArray⟩ rfl hsz _ rfl ?_; intro w2 ho2 ht2)
        have hlo : ∀ k ∈ [mb], k < lo := by simp; exact hdr.mlo
        have hkp : Keep [mb] wr w2 := (((Keep.refl _ wr).alloc _).drew).trans (Keep.of_turned ht2)
        have hbs := HBS.out.keep hkp hlo
        have hdr2 := hdr.turned hkp ho2 ((ht.mono fun v f hf => hf.keep hkp hlo).put (n := nm) (f := ⟨sf, sf, true⟩) ⟨a2, c2, a2, c2, rfl, hbs, hbs⟩)
        have hns2 : Ns w.heap.size w2 (some ⟨b, o, none⟩) (Dp.names M) := Ns.keep (.inr ⟨b, o, rfl, hb1, hb2, HC.out⟩) hkp (by simp; exact hml)
        rw [HPT.out] at hdr2
        go_roundg (gk - 1)
        case measure => have := HR.out; simp at this; omega
        case rel => exact ⟨A ++ [(nm, ⟨bt, sf, true⟩)], r, by rw [HM.out]; simp, by have := HR.out; simp at this; omega, by simp, hdr2, hns2, hkr.trans hkp⟩
end Go.Proofs.YtecnnlppinhmgaaGreatDoor.DiskF
namespace Go.Proofs.YtecnnlppinhmgaaGreatDoor.SfA
open Go.RowKit Go.Proofs.YtecnnlppinhmgaaGreatDoor

theorem dec_len : ∀ (k u : Nat), u < 10 ^ (k + 1) → (Lib.decDigits u).length ≤ k + 1
  | 0, u, h => by
    rw [Lib.decDigits, dif_pos (by simpa using h)]
    simp
  | k + 1, u, h => by
    rw [Lib.decDigits]
    split
    · simp
    · have h2 : u / 10 < 10 ^ (k + 1) := by rw [Nat.pow_succ] at h; omega
      have := dec_len k (u / 10) h2
      simp; omega
theorem dec_pos (u : Nat) : 1 ≤ (Lib.decDigits u).length := by
  rw [Lib.decDigits]; split <;> simp
theorem dec_digit : ∀ (n u : Nat), u ≤ n → ∀ c ∈ Lib.decDigits u, 48 ≤ c.toNat ∧ c.toNat ≤ 57
  | n, u, hn, c, hc => by
    rw [Lib.decDigits] at hc
    split at hc
    · rename_i h
      rw [List.mem_singleton] at hc
      subst hc
      have : (UInt8.ofNat (48 + u)).toNat = 48 + u := by rw [UInt8.toNat_ofNat']; omega
      omega
    · rename_i h
      rw [List.mem_append] at hc
      rcases hc with hc | hc
      · cases n with
        | zero => omega
        | succ n => exact dec_digit n (u / 10) (by omega) c hc
      · rw [List.mem_singleton] at hc
        subst hc
        have : (UInt8.ofNat (48 + u % 10)).toNat = 48 + u % 10 := by rw [UInt8.toNat_ofNat']; omega
        omega
/-- a blob's name behind a letter -/
def nm (x : UInt8) (a b c : Int) : List UInt8 := x :: 45 :: (Lib.itoa a ++ 45 :: (Lib.itoa b ++ 45 :: Lib.itoa c))
def Carry (w0 w : World) : Prop := Itoa.Tab w ∧ Below w0.heap.size w0 w
theorem Carry.below {w0 w w' : World} (h : Carry w0 w) (hb : Below w.heap.size w w') : Carry w0 w' := ⟨h.1.below hb, h.2.trans (hb.mono h.2.size)⟩
theorem Carry.drew {w0 w : World} (h : Carry w0 w) : Carry w0 w.drew := h.below (Below.refl _ _).drew
theorem Carry.alloc {w0 w : World} (h : Carry w0 w) (o : Obj) : Carry w0 (w.alloc o) := h.below ((Below.refl _ _).alloc (Nat.le_refl _) o)
theorem itoaK (n : Int) (w0 : World) (g : Nat) (v0 v1 v2 : Value) (w : World) (i0 : -9223372036854775808 ≤ n) (i1 : n ≤ 9223372036854775807) (ht : Carry w0 w) (h0 : w.cell? ⟨g, 0, none⟩ = some v0) (h1 : w.cell? ⟨g, 1, none⟩ = some v1) (h2 : w.cell? ⟨g, 2, none⟩ = some v2) :
    Calls Tryz.prog 54 #[.int .i64 n] w fun e w' => e = .returned (.string ⟨(Lib.itoa n).toArray⟩) ∧ (w'.cell? ⟨g, 0, none⟩ = some v0 ∧ w'.cell? ⟨g, 1, none⟩ = some v1 ∧ w'.cell? ⟨g, 2, none⟩ = some v2) ∧ Carry w0 w' := by
  refine (Itoa.itoa n i0 i1 _ ht.1).mono ?_
  rintro e w1 ⟨rfl, hb1⟩
  have hg := World.block_lt_of_cell? w _ h0
  exact ⟨rfl, ⟨(hb1.cell (p := ⟨g, 0, none⟩) hg).trans h0, (hb1.cell (p := ⟨g, 1, none⟩) hg).trans h1, (hb1.cell (p := ⟨g, 2, none⟩) hg).trans h2⟩, ht.below hb1⟩
theorem nmv (x : UInt8) (a b c : Int) : ((((((((⟨#[x]⟩ : ByteArray) ++ ⟨#[45]⟩) ++ ⟨(Lib.itoa a).toArray⟩) ++ ⟨#[45]⟩) ++ ⟨(Lib.itoa b).toArray⟩) ++ ⟨#[45]⟩) ++ ⟨(Lib.itoa c).toArray⟩)) = ⟨(nm x a b c).toArray⟩ := by
  unfold nm
  rw [show (⟨#[x]⟩ : ByteArray) = ⟨[x].toArray⟩ from rfl, show (⟨#[45]⟩ : ByteArray) = ⟨[45].toArray⟩ from rfl]
  simp only [Com.mk_append]
  simp
/-- a number's digits are few -/
def Few (n : Int) : Prop := 0 ≤ n ∧ n ≤ 1099511627776
theorem Few.len {n : Int} (h : Few n) : (Lib.itoa n).length ≤ 13 := by
  unfold Lib.itoa
  obtain ⟨h0, h1⟩ := h
  rw [if_neg (by omega)]
  exact dec_len 12 n.toNat (by omega)

theorem Few.okc {n : Int} (h : Few n) : ∀ c ∈ Lib.itoa n, DiskA.okc c = true := by
  intro c hc
  unfold Lib.itoa at hc
  rw [if_neg (by have := h.1; omega)] at hc
  have := dec_digit _ _ (Nat.le_refl _) c hc
  simp [DiskA.okc]
  omega
theorem gd_nm {x : UInt8} {a b c : Int} (hx : DiskA.okc x = true) (ha : Few a) (hb : Few b) (hc : Few c) : DiskA.gd (nm x a b c) = true := by
  have la := ha.len
  have lb := hb.len
  have lc := hc.len
  have h45 : DiskA.okc 45 = true := by decide
  unfold DiskA.gd nm
  rw [Bool.and_eq_true, Bool.and_eq_true, decide_eq_true_iff, decide_eq_true_iff, List.all_eq_true]
  refine ⟨⟨by simp, by simp; omega⟩, fun y hy => ?_⟩
  simp only [List.mem_cons, List.mem_append] at hy
  rcases hy with rfl | rfl | hy | rfl | hy | rfl | hy
  · exact hx
  · exact h45
  · exact ha.okc y hy
  · exact h45
  · exact hb.okc y hy
  · exact h45
  · exact hc.okc y hy
theorem nm_size {x : UInt8} {a b c : Int} (ha : Few a) (hb : Few b) (hc : Few c) : (ByteArray.mk (nm x a b c).toArray).size ≤ maxLen := by
  have la := ha.len
  have lb := hb.len
  have lc := hc.len
  rw [Com.size_mk]
  unfold nm maxLen
  simp
  omega

set_option maxHeartbeats 2000000 in
theorem name (x : UInt8) (a b c : Int) (w : World) (ha : Few a) (hb : Few b) (hc : Few c) (ht : Itoa.Tab w) :
    Calls Tryz.prog 31 #[.string ⟨#[x]⟩, .agg #[.int .i64 a, .int .i64 b, .int .i64 c]] w fun e w' => e = .returned (.string ⟨(nm x a b c).toArray⟩) ∧ Below w.heap.size w w' := by
  have la := ha.len
  have lb := hb.len
  have lc := hc.len
  obtain ⟨a0, a1⟩ := ha
  obtain ⟨b0, b1⟩ := hb
  obtain ⟨c0, c1⟩ := hc
  have HT : Carry w (w.alloc (.cells #[.int .i64 a, .int .i64 b, .int .i64 c] 23)) := Carry.alloc ⟨ht, Below.refl _ _⟩ _
  have s1 : ¬ 9223372036854775807 < 2 + (Lib.itoa a).length := by omega
  have s2 : ¬ 9223372036854775807 < 2 + (Lib.itoa a).length + 1 := by omega
  have s3 : ¬ 9223372036854775807 < 2 + (Lib.itoa a).length + 1 + (Lib.itoa b).length := by omega
  have s4 : ¬ 9223372036854775807 < 2 + (Lib.itoa a).length + 1 + (Lib.itoa b).length + 1 := by omega
  have s5 : ¬ 9223372036854775807 < 2 + (Lib.itoa a).length + 1 + (Lib.itoa b).length + 1 + (Lib.itoa c).length := by omega
  clear ht
  go_enter Tryz.func31, Tryz.ntmps31
  go_wp2_with fail
  go_region_held3 (fun w' => w'.cell? ⟨w.heap.size, 0, none⟩ = some (.int .i64 a) ∧ w'.cell? ⟨w.heap.size, 1, none⟩ = some (.int .i64 b) ∧ w'.cell? ⟨w.heap.size, 2, none⟩ = some (.int .i64 c))
    (first | go_keep)
    (first
      | (go_at_call 54; refine (itoaK _ w w.heap.size (.int .i64 a) (.int .i64 b) (.int .i64 c) _ ?_ ?_ ?_ ?_ ?_ ?_).mono ?_; omega; omega; (first | assumption | exact HT | exact HT.drew); (simp [*]); (simp [*]); (simp [*]); rintro e w' ⟨rfl, k0, t0⟩))
  go_wp2
  go_ret
  exact ⟨congrArg (fun x => Ending.returned (.string x)) (nmv x a b c), t0.2⟩

/-- a shelf's box -/
def Sf (w : World) (sb : Nat) (node : Int) (d : Nat) : Prop := w.heap[sb]? = some (.cells #[.int .i64 node, .pointer (some ⟨d, 0, none⟩)] 57 (0, 0))
theorem Sf.below {w w' : World} {sb d : Nat} {node : Int} (h : Sf w sb node d) (hb : Below w.heap.size w w') : Sf w' sb node d := (hb.block _ (Array.getElem?_eq_some_iff.1 h).1).trans h
theorem Sf.keep {w w' : World} {sb d : Nat} {l : List Nat} {node : Int} (h : Sf w sb node d) (hk : Dw.Keep l w w') (hs : sb ∉ l) : Sf w' sb node d := (hk.block _ (Array.getElem?_eq_some_iff.1 h).1 hs).trans h
theorem Sf.cells {w : World} {sb d : Nat} {node : Int} (h : Sf w sb node d) : w.cell? ⟨sb, 0, none⟩ = some (.int .i64 node) ∧ w.cell? ⟨sb, 1, none⟩ = some (.pointer (some ⟨d, 0, none⟩)) := by
  constructor
  all_goals (rw [Lib.cell_of_heap h]; rfl)
set_option maxHeartbeats 1000000 in
theorem drive (sb d : Nat) (node : Int) (w : World) (h : Sf w sb node d) : Calls Tryz.prog 12 #[.pointer (some ⟨sb, 0, none⟩)] w fun e w' => e = .returned (.pointer (some ⟨d, 0, none⟩)) ∧ w = w' := by
  obtain ⟨-, c1⟩ := h.cells
  clear h
  go_enter Tryz.func12, Tryz.ntmps12
  go_wp2_with fail
  go_ret
  exact ⟨rfl, rfl⟩
set_option maxHeartbeats 1000000 in
theorem new (n : Nat) (hn : n < 16) (w : World) (ht : Dw.top < w.heap.size) :
    Calls Tryz.prog 8 #[.int .i64 (n : Int)] w fun e w' => ∃ sb, e = .returned (.tuple #[.pointer (some ⟨sb, 0, none⟩), .nilIface]) ∧ Sf w' sb n (w.heap.size + 1) ∧ w.heap.size + 2 ≤ sb ∧ Dw.Drive (w.heap.size + 2) (w.heap.size + 1) w.heap.size w' [] false 0 ∧ Below w.heap.size w w' := by
  have e0 : decide ((n : Int) < 0) = false := decide_eq_false (by omega)
  have e1 : decide ((n : Int) ≥ 16) = false := decide_eq_false (by omega)
  have e2 : decide ((16 : Int) ≤ (n : Int)) = false := decide_eq_false (by omega)
  have KN := Lib.hid (DiskB.new w ht)
  clear hn ht
  go_enter Tryz.func8, Tryz.ntmps8
  go_wp2_with (go_at_call 24; refine KN.out.mono ?_; rintro e w1 ⟨rfl, hD1, hb1⟩)
  refine bodyPost_ret (results_tmp2 rfl _ _ _) rfl ⟨_, rfl, heap_alloc_new _ _, hD1.low, hD1.below ((Below.refl _ _).alloc (Nat.le_refl _) _), hb1.alloc hb1.size _⟩
end Go.Proofs.YtecnnlppinhmgaaGreatDoor.SfA
