/-
  Contracts of the library on the sorted keys of a map at this seat, laid by the kit's own programs, in plain words.
-/
import Derived.Shelf.SlIter.Nil
import Derived.Shelf.SortM.Plain
import Derived.Shelf.SortM.SortNone
import Derived.Ground.GgzProg
import Derived.Ground.SlgmProg
import Derived.Test.YtmimkgfkicgfiaaDoorProg
namespace Go.Proofs
open Go.Shelf
def Tryd.keys111_ren : Go.Shelf.Ren := ⟨fun | 7 => 111 | 10 => 139 | n => n, fun | 23 => 126 | 26 => 9 | 3 => 130 | 28 => 74 | 0 => 0 | 27 => 73 | 33 => 33 | 4 => 4 | n => n, fun | n => n⟩
theorem Tryd.keys111 : Go.Proofs.SlLaysZ.n7 Tryd.prog Tryd.keys111_ren := {
  mixed := by kernel_rfl
  f7 := ⟨Tryd.f111.name, by decide, Tryd.func111.trans (congrArg some (by kernel_rfl))⟩
  f10 := ⟨Tryd.f139.name, by decide, Tryd.func139.trans (congrArg some (by kernel_rfl))⟩
  t0 := Tryd.underlying0
  a0 := Tryd.isAgg0
  z0 := Tryd.sizeOf0
  v0 := Tryd.zeroValue0
  t4 := Tryd.underlying4
  a4 := Tryd.isAgg4
  z4 := Tryd.sizeOf4
  v4 := Tryd.zeroValue4
  t23 := Tryd.underlying126
  a23 := Tryd.isAgg126
  z23 := Tryd.sizeOf126
  v23 := Tryd.zeroValue126
  t26 := Tryd.underlying9
  a26 := Tryd.isAgg9
  z26 := Tryd.sizeOf9
  v26 := Tryd.zeroValue9
  t27 := Tryd.underlying73
  a27 := Tryd.isAgg73
  z27 := Tryd.sizeOf73
  v27 := Tryd.zeroValue73
  t28 := Tryd.underlying74
  a28 := Tryd.isAgg74
  z28 := Tryd.sizeOf74
  v28 := Tryd.zeroValue74
  t33 := Tryd.underlying33
  a33 := Tryd.isAgg33
  z33 := Tryd.sizeOf33
  v33 := Tryd.zeroValue33 }
def Tryd.sorted110_ren : Go.Shelf.Ren := ⟨fun | 6 => 110 | 8 => 137 | 9 => 138 | 11 => 163 | 13 => 119 | 12 => 164 | 23 => 148 | 24 => 149 | 14 => 181 | 15 => 182 | 16 => 183 | 17 => 184 | 18 => 185 | 19 => 186 | 20 => 187 | 21 => 188 | 22 => 189 | 25 => 197 | 26 => 166 | 27 => 167 | 28 => 198 | 29 => 199 | 30 => 120 | 31 => 202 | n => n, fun | 26 => 9 | 28 => 74 | 24 => 95 | 0 => 0 | 3 => 3 | 37 => 112 | 48 => 187 | 50 => 189 | 4 => 4 | 40 => 180 | 39 => 179 | 45 => 184 | 5 => 5 | 9 => 9 | 51 => 201 | 55 => 205 | 57 => 227 | 58 => 160 | 33 => 33 | n => n, fun | n => n⟩
theorem Tryd.sorted110 : Go.Proofs.SlLaysZ.n6 Tryd.prog Tryd.sorted110_ren := {
  mixed := by kernel_rfl
  f6 := ⟨Tryd.f110.name, by decide, Tryd.func110.trans (congrArg some (by kernel_rfl))⟩
  f8 := ⟨Tryd.f137.name, by decide, Tryd.func137.trans (congrArg some (by kernel_rfl))⟩
  f11 := ⟨Tryd.f163.name, by decide, Tryd.func163.trans (congrArg some (by kernel_rfl))⟩
  t0 := Tryd.underlying0
  a0 := Tryd.isAgg0
  z0 := Tryd.sizeOf0
  v0 := Tryd.zeroValue0
  t24 := Tryd.underlying95
  a24 := Tryd.isAgg95
  z24 := Tryd.sizeOf95
  v24 := Tryd.zeroValue95
  t26 := Tryd.underlying9
  a26 := Tryd.isAgg9
  z26 := Tryd.sizeOf9
  v26 := Tryd.zeroValue9
  t28 := Tryd.underlying74
  a28 := Tryd.isAgg74
  z28 := Tryd.sizeOf74
  v28 := Tryd.zeroValue74
  i26 := by kernel_rfl }
def Tryd.sort138_ren : Go.Shelf.Ren := ⟨fun | 6 => 138 | 8 => 119 | 9 => 164 | 19 => 148 | 20 => 149 | 21 => 181 | 22 => 182 | 23 => 183 | 24 => 184 | 25 => 185 | 26 => 186 | 27 => 187 | 28 => 188 | 29 => 189 | 36 => 197 | 31 => 166 | 32 => 167 | 37 => 198 | 38 => 199 | 39 => 120 | 41 => 202 | n => n, fun | 27 => 95 | 29 => 9 | 3 => 3 | 32 => 112 | 26 => 95 | 0 => 0 | 44 => 187 | 46 => 189 | 4 => 4 | 36 => 180 | 35 => 179 | 41 => 184 | 5 => 5 | 9 => 9 | 53 => 201 | 57 => 205 | 63 => 227 | 64 => 160 | n => n, fun | n => n⟩
theorem Tryd.sort138 : Go.Proofs.SlLaysM.n6 Tryd.prog Tryd.sort138_ren := {
  mixed := by kernel_rfl
  f6 := ⟨Tryd.f138.name, by decide, Tryd.func138.trans (congrArg some (by kernel_rfl))⟩
  f8 := Tryd.func119.trans (congrArg some (by kernel_rfl))
  f9 := ⟨Tryd.f164.name, by decide, Tryd.func164.trans (congrArg some (by kernel_rfl))⟩
  f19 := Tryd.func148.trans (congrArg some (by kernel_rfl))
  f20 := Tryd.func149.trans (congrArg some (by kernel_rfl))
  f21 := ⟨Tryd.f181.name, by decide, Tryd.func181.trans (congrArg some (by kernel_rfl))⟩
  f22 := ⟨Tryd.f182.name, by decide, Tryd.func182.trans (congrArg some (by kernel_rfl))⟩
  f23 := ⟨Tryd.f183.name, by decide, Tryd.func183.trans (congrArg some (by kernel_rfl))⟩
  f24 := ⟨Tryd.f184.name, by decide, Tryd.func184.trans (congrArg some (by kernel_rfl))⟩
  f25 := ⟨Tryd.f185.name, by decide, Tryd.func185.trans (congrArg some (by kernel_rfl))⟩
  f26 := ⟨Tryd.f186.name, by decide, Tryd.func186.trans (congrArg some (by kernel_rfl))⟩
  f27 := ⟨Tryd.f187.name, by decide, Tryd.func187.trans (congrArg some (by kernel_rfl))⟩
  f28 := ⟨Tryd.f188.name, by decide, Tryd.func188.trans (congrArg some (by kernel_rfl))⟩
  f29 := ⟨Tryd.f189.name, by decide, Tryd.func189.trans (congrArg some (by kernel_rfl))⟩
  f31 := Tryd.func166.trans (congrArg some (by kernel_rfl))
  f32 := Tryd.func167.trans (congrArg some (by kernel_rfl))
  f36 := ⟨Tryd.f197.name, by decide, Tryd.func197.trans (congrArg some (by kernel_rfl))⟩
  f37 := ⟨Tryd.f198.name, by decide, Tryd.func198.trans (congrArg some (by kernel_rfl))⟩
  f38 := ⟨Tryd.f199.name, by decide, Tryd.func199.trans (congrArg some (by kernel_rfl))⟩
  f39 := ⟨Tryd.f120.name, by decide, Tryd.func120.trans (congrArg some (by kernel_rfl))⟩
  f41 := ⟨Tryd.f202.name, by decide, Tryd.func202.trans (congrArg some (by kernel_rfl))⟩
  t0 := Tryd.underlying0
  a0 := Tryd.isAgg0
  z0 := Tryd.sizeOf0
  v0 := Tryd.zeroValue0
  t3 := Tryd.underlying3
  a3 := Tryd.isAgg3
  z3 := Tryd.sizeOf3
  v3 := Tryd.zeroValue3
  t4 := Tryd.underlying4
  a4 := Tryd.isAgg4
  z4 := Tryd.sizeOf4
  v4 := Tryd.zeroValue4
  t5 := Tryd.underlying5
  a5 := Tryd.isAgg5
  z5 := Tryd.sizeOf5
  v5 := Tryd.zeroValue5
  t9 := Tryd.underlying9
  a9 := Tryd.isAgg9
  z9 := Tryd.sizeOf9
  v9 := Tryd.zeroValue9
  t26 := Tryd.underlying95
  a26 := Tryd.isAgg95
  z26 := Tryd.sizeOf95
  v26 := Tryd.zeroValue95
  t27 := Tryd.underlying95
  a27 := Tryd.isAgg95
  z27 := Tryd.sizeOf95
  v27 := Tryd.zeroValue95
  t29 := Tryd.underlying9
  a29 := Tryd.isAgg9
  z29 := Tryd.sizeOf9
  v29 := Tryd.zeroValue9
  t32 := Tryd.underlying112
  a32 := Tryd.isAgg112
  z32 := Tryd.sizeOf112
  v32 := Tryd.zeroValue112
  t35 := Tryd.underlying179
  a35 := Tryd.isAgg179
  z35 := Tryd.sizeOf179
  v35 := Tryd.zeroValue179
  t36 := Tryd.underlying180
  a36 := Tryd.isAgg180
  z36 := Tryd.sizeOf180
  v36 := Tryd.zeroValue180
  t41 := Tryd.underlying184
  a41 := Tryd.isAgg184
  z41 := Tryd.sizeOf184
  v41 := Tryd.zeroValue184
  t44 := Tryd.underlying187
  a44 := Tryd.isAgg187
  z44 := Tryd.sizeOf187
  v44 := Tryd.zeroValue187
  t46 := Tryd.underlying189
  a46 := Tryd.isAgg189
  z46 := Tryd.sizeOf189
  v46 := Tryd.zeroValue189
  t53 := Tryd.underlying201
  a53 := Tryd.isAgg201
  z53 := Tryd.sizeOf201
  v53 := Tryd.zeroValue201
  t57 := Tryd.underlying205
  a57 := Tryd.isAgg205
  z57 := Tryd.sizeOf205
  v57 := Tryd.zeroValue205
  t63 := Tryd.underlying227
  a63 := Tryd.isAgg227
  z63 := Tryd.sizeOf227
  v63 := Tryd.zeroValue227
  t64 := Tryd.underlying160
  a64 := Tryd.isAgg160
  z64 := Tryd.sizeOf160
  v64 := Tryd.zeroValue160 }

open Go.RowKit Go.Maps Go.Sort


/-- slices.Sort's two contracts at this dump, at the fence that asks nothing. -/
theorem Tryd.sorts110 (m : Nat) : AnyZ.SortsIn Tryd.prog Tryd.sorted110_ren Fence.wide m :=
  ⟨fun blk off cap ss W hH hblk hsz => callsIn_wide.2 (AnyM.slices_Sort_string Tryd.sort138 blk off cap ss W hH hblk hsz),
   fun p cap W => callsIn_wide.2 (AnyM.slices_Sort_string_none Tryd.sort138 p cap W)⟩

/-- **maps.Keys[map[string]bollard/disk.file,string,bollard/disk.file], at whatever map, the nil one too:** a function value over ONE NEW BLOCK, which holds the map. -/
theorem Tryd.maps_Keys_111 (mb : Option Nat) (W : World) : CallsIn Fence.wide 5 Tryd.prog 111 #[.map mb] W fun e w' => e = .returned (.func (.func 139) #[] #[.pointer (some ⟨W.heap.size, 0, none⟩)]) ∧ w' = W.alloc (.cells #[.map mb] 126) :=
  AnyZ.keys_in Tryd.keys111 Fence.wide 5 trivial rfl mb W

set_option maxHeartbeats 1000000 in
/-- **slices.Sorted[string] AT WHAT maps.Keys[map[string]bollard/disk.file,string,bollard/disk.file] HANDED BACK FOR A MAP THAT IS NOT nil** ('w': the world AHEAD of maps.Keys' call): A NEW SLICE THAT HOLDS THE MAP's KEYS, SORTED; nil just where it has none; nothing that lay before has turned. -/
theorem Tryd.slices_Sorted_keys_110_111 {H : Type} (b nn : Nat) (D0 : DataW H) (R : Value → Option (DataW H × List MemPlace)) (w : World) (hown : w.ownsMap Tryd.prog 9 R b nn D0) (hmax : Maps.size D0 ≤ maxLen) (hbytes : Maps.size D0 * 16 ≤ 140737488355328) :
    CallsIn Fence.wide 5 Tryd.prog 110 #[.func (.func 139) #[] #[.pointer (some ⟨w.heap.size, 0, none⟩)]] (w.alloc (.cells #[.map (some b)] 126)) fun e w' => ∃ (v : Value) (ss : List (List UInt8)), e = .returned v ∧ ss.Perm (strKeys D0) ∧
      w'.ownsRow (w.alloc (.cells #[.map (some b)] 126)).heap.size 9 1 v ss.length ((ss.mergeSort (fun x y => decide (x ≤ y))).map encStr) ∧ (v = .slice none 0 0 ↔ ss = []) ∧ Below (w.alloc (.cells #[.map (some b)] 126)).heap.size (w.alloc (.cells #[.map (some b)] 126)) w' := by
  have hbl := hown.lt
  have hseq : SeqGives Fence.wide 2 Tryd.prog 139 #[.pointer (some ⟨w.heap.size, 0, none⟩)] encStr (fun ss => ss.Perm (strKeys D0)) (Maps.size D0) (w.alloc (.cells #[.map (some b)] 126)) :=
    AnyZ.keys_gives (ρ := Tryd.keys111_ren) { Tryd.keys111 with } Fence.wide _ trivial rfl (by omega) w.heap.size b nn D0 _ (by simp) (by simp) (by
      obtain ⟨es, clock, hb, Ft, hs, hD⟩ := hown
      exact ⟨es, clock, (Below.heap_alloc _ _ b hbl).trans hb, Ft, hs, hD⟩)
  exact AnyZ.sorted_in Tryd.sorted110 Fence.wide 5 trivial trivial trivial trivial rfl (by omega) (Tryd.sorts110 _) (enters_of Tryd.func138 (by kernel_rfl) rfl) 139 #[.pointer (some ⟨w.heap.size, 0, none⟩)] trivial (enters_of Tryd.func139 (by kernel_rfl) rfl) _ _ hmax hbytes _ hseq

set_option maxHeartbeats 1000000 in
/-- **.. AND FOR THE nil MAP: nil.** -/
theorem Tryd.slices_Sorted_keys_nil_110_111 (w : World) :
    CallsIn Fence.wide 5 Tryd.prog 110 #[.func (.func 139) #[] #[.pointer (some ⟨w.heap.size, 0, none⟩)]] (w.alloc (.cells #[.map none] 126)) fun e w' => ∃ (v : Value) (ss : List (List UInt8)), e = .returned v ∧ ss = [] ∧
      w'.ownsRow (w.alloc (.cells #[.map none] 126)).heap.size 9 1 v ss.length ((ss.mergeSort (fun x y => decide (x ≤ y))).map encStr) ∧ (v = .slice none 0 0 ↔ ss = []) ∧ Below (w.alloc (.cells #[.map none] 126)).heap.size (w.alloc (.cells #[.map none] 126)) w' := by
  have hseq : SeqGives Fence.wide 2 Tryd.prog 139 #[.pointer (some ⟨w.heap.size, 0, none⟩)] encStr (fun ss : List (List UInt8) => ss = []) 0 (w.alloc (.cells #[.map none] 126)) :=
    AnyZ.keys_gives_nil (ρ := Tryd.keys111_ren) { Tryd.keys111 with } Fence.wide _ trivial rfl w.heap.size _ (by simp) (by simp)
  exact AnyZ.sorted_in Tryd.sorted110 Fence.wide 5 trivial trivial trivial trivial rfl (by omega) (Tryd.sorts110 _) (enters_of Tryd.func138 (by kernel_rfl) rfl) 139 #[.pointer (some ⟨w.heap.size, 0, none⟩)] trivial (enters_of Tryd.func139 (by kernel_rfl) rfl) _ 0 (Nat.zero_le _) (by omega) _ hseq



end Go.Proofs
