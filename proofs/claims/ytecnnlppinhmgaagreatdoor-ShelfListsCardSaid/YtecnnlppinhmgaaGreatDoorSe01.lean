/-
  Contracts of the library at this seat, laid by the kit's own two programs, in plain words; those that are used. strconv.Itoa, and the table that it reads. The walks of package disk's New, find, Write, Sync, Delete, Read, Rename, Fill. The walks of package disk's Sync, Delete, Read, Rename, Fill.
-/
import Derived.Test.YtecnnlppinhmgaaGreatDoorSa01
import Derived.Test.YtecnnlppinhmgaaGreatDoorSa08
import Derived.Shelf.Small.Bits
import Derived.Shelf.Small.Wraps
import Derived.Shelf.Utf8.RuneCount
import Derived.Shelf.Strconv.Atoi
import Derived.Shelf.Strconv.Itoa0
import Derived.Shelf.Strconv.Itoa1
import Derived.Shelf.LaysM
import Derived.Shelf.Strconv.Itoa2
import Derived.Shelf.Strconv.Itoa3
import Derived.Shelf.Strconv.AtoiErrFast
import Derived.Shelf.Strconv.ParseIntEmpty
import Derived.Shelf.Strconv.AtoiFail
import Derived.Shelf.Strconv.Clone
import Derived.Shelf.Strconv.SyntaxError
import Derived.Shelf.LaysC
import Derived.Shelf.Strconv.ToError
import Derived.Shelf.Strconv.Lower
import Derived.Shelf.Strconv.ParseUint10
import Derived.Shelf.Strconv.ParseUint10Empty
import Derived.Shelf.Strconv.ParseUint10Any
import Derived.Shelf.Strconv.ParseInt10
import Derived.Shelf.Strconv.AtoiLong
import Derived.Shelf.Strconv.AtoiInnerAll
import Derived.Shelf.Strconv.RangeError
import Derived.Shelf.Strconv.ToErrorRange
import Derived.Shelf.Strconv.AtoiAll
import Derived.Shelf.Strconv.ErrVarAll
import Derived.Shelf.Strings.Search1
import Derived.Shelf.Strings.Search2
import Derived.Shelf.Strings.Search3
import Derived.Shelf.Strings.Count
import Derived.Shelf.Strings.Shaped
import Derived.Shelf.Strings.Split
import Derived.Shelf.Strings.SplitShaped
import Derived.Shelf.Unicode.DecodeSlow
import Derived.Ground.SlgmProg
import Derived.Shelf.SortM.Plain
import Derived.Shelf.SortM.SortNone
import Derived.Test.YtecnnlppinhmgaaGreatDoorProg
import Derived.Below
import Derived.WalkKit
import Derived.Lib.AppendIntMem
import Derived.WalkSmall
import Derived.RegionTactic
import Derived.BigRegion
import Derived.ChangeAlike
import Derived.Carry
import Derived.StillTailTactics
namespace Go.Proofs
open Go.Shelf
def Tryz.laysM171_ren : Go.Shelf.Ren := ⟨fun | 171 => 54 | 243 => 81 | 246 => 104 | 283 => 125 | 284 => 126 | 285 => 127 | 286 => 128 | 129 => 99 | 317 => 148 | 318 => 149 | 319 => 150 | 320 => 151 | 337 => 163 | 338 => 164 | n => n, fun | 3 => 3 | 9 => 9 | 2 => 2 | 4 => 4 | 171 => 194 | 0 => 0 | 53 => 127 | 37 => 24 | 5 => 5 | 173 => 196 | 212 => 218 | 51 => 90 | 20 => 20 | 213 => 219 | 46 => 92 | 232 => 63 | 233 => 234 | n => n, fun | 17 => 9 | 18 => 13 | 19 => 14 | n => n⟩
theorem Tryz.laysM171 : Go.Proofs.LaysM.n171 Tryz.prog Tryz.laysM171_ren := {
  mixed := by kernel_rfl
  f129 := Tryz.func99.trans (congrArg some (by kernel_rfl))
  f171 := Tryz.func54.trans (congrArg some (by kernel_rfl))
  f243 := Tryz.func81.trans (congrArg some (by kernel_rfl))
  f246 := Tryz.func104.trans (congrArg some (by kernel_rfl))
  f283 := Tryz.func125.trans (congrArg some (by kernel_rfl))
  f284 := Tryz.func126.trans (congrArg some (by kernel_rfl))
  f285 := Tryz.func127.trans (congrArg some (by kernel_rfl))
  f286 := Tryz.func128.trans (congrArg some (by kernel_rfl))
  f317 := Tryz.func148.trans (congrArg some (by kernel_rfl))
  f318 := Tryz.func149.trans (congrArg some (by kernel_rfl))
  f319 := Tryz.func150.trans (congrArg some (by kernel_rfl))
  f320 := Tryz.func151.trans (congrArg some (by kernel_rfl))
  f337 := Tryz.func163.trans (congrArg some (by kernel_rfl))
  f338 := Tryz.func164.trans (congrArg some (by kernel_rfl))
  t0 := Tryz.underlying0
  a0 := Tryz.isAgg0
  z0 := Tryz.sizeOf0
  v0 := Tryz.zeroValue0
  t2 := Tryz.underlying2
  a2 := Tryz.isAgg2
  z2 := Tryz.sizeOf2
  v2 := Tryz.zeroValue2
  t3 := Tryz.underlying3
  a3 := Tryz.isAgg3
  z3 := Tryz.sizeOf3
  v3 := Tryz.zeroValue3
  t4 := Tryz.underlying4
  a4 := Tryz.isAgg4
  z4 := Tryz.sizeOf4
  v4 := Tryz.zeroValue4
  t5 := Tryz.underlying5
  a5 := Tryz.isAgg5
  z5 := Tryz.sizeOf5
  v5 := Tryz.zeroValue5
  t9 := Tryz.underlying9
  a9 := Tryz.isAgg9
  z9 := Tryz.sizeOf9
  v9 := Tryz.zeroValue9
  t20 := Tryz.underlying20
  a20 := Tryz.isAgg20
  z20 := Tryz.sizeOf20
  v20 := Tryz.zeroValue20
  t37 := Tryz.underlying24
  a37 := Tryz.isAgg24
  z37 := Tryz.sizeOf24
  v37 := Tryz.zeroValue24
  t46 := Tryz.underlying92
  a46 := Tryz.isAgg92
  z46 := Tryz.sizeOf92
  v46 := Tryz.zeroValue92
  t51 := Tryz.underlying90
  a51 := Tryz.isAgg90
  z51 := Tryz.sizeOf90
  v51 := Tryz.zeroValue90
  t53 := Tryz.underlying127
  a53 := Tryz.isAgg127
  z53 := Tryz.sizeOf127
  v53 := Tryz.zeroValue127
  t171 := Tryz.underlying194
  a171 := Tryz.isAgg194
  z171 := Tryz.sizeOf194
  v171 := Tryz.zeroValue194
  t173 := Tryz.underlying196
  a173 := Tryz.isAgg196
  z173 := Tryz.sizeOf196
  v173 := Tryz.zeroValue196
  t212 := Tryz.underlying218
  a212 := Tryz.isAgg218
  z212 := Tryz.sizeOf218
  v212 := Tryz.zeroValue218
  t213 := Tryz.underlying219
  a213 := Tryz.isAgg219
  z213 := Tryz.sizeOf219
  t232 := Tryz.underlying63
  a232 := Tryz.isAgg63
  z232 := Tryz.sizeOf63
  v232 := Tryz.zeroValue63
  t233 := Tryz.underlying234
  a233 := Tryz.isAgg234
  z233 := Tryz.sizeOf234
  v233 := Tryz.zeroValue234
  g17 := by kernel_rfl
  g18 := by kernel_rfl
  g19 := by kernel_rfl
  i0 := by kernel_rfl
  i2 := by kernel_rfl
  i3 := by kernel_rfl
  i4 := by kernel_rfl
  i5 := by kernel_rfl
  i9 := by kernel_rfl
  i20 := by kernel_rfl
  i37 := by kernel_rfl
  i46 := by kernel_rfl
  i51 := by kernel_rfl
  i53 := by kernel_rfl
  i171 := by kernel_rfl
  i173 := by kernel_rfl
  i212 := by kernel_rfl
  i232 := by kernel_rfl
  i233 := by kernel_rfl
  m17 := by kernel_rfl
  m18 := by kernel_rfl
  m19 := by kernel_rfl }
open Go.RowKit Go.Sort Go.Lib in
theorem Tryz.strconv_Itoa (n : Int) (h0 : -9223372036854775808 ≤ n) (h1 : n ≤ 9223372036854775807) (w : World) (htab : Lib.TabIs Tryz.prog w "internal/strconv.uint64pow10" .u64 Lib.pow10Tab) :
    Calls Tryz.prog 54 #[.int .i64 n] w fun e w' => e = .returned (.string ⟨(Lib.itoa n).toArray⟩) ∧ ∃ k os, w' = grow (w.drewN k) os := Any.strconv_Itoa Tryz.laysM171 n h0 h1 w htab
end Go.Proofs
namespace Go.Proofs.YtecnnlppinhmgaaGreatDoor.Itoa
open Go.Shelf Go.RowKit Go.Proofs.YtecnnlppinhmgaaGreatDoor

def Tab (w : World) : Prop := Lib.TabIs Tryz.prog w "internal/strconv.uint64pow10" .u64 Lib.pow10Tab
theorem tabNum : Tryz.prog.globalNamed "internal/strconv.uint64pow10" = some 9 := by kernel_rfl
theorem Tab.below {w w' : World} (h : Tab w) (hb : Below w.heap.size w w') : Tab w' := by
  refine var?_below hb tabNum ?_ h
  unfold Tab Lib.TabIs World.var? at h
  simp only [tabNum, Option.bind_some] at h
  rcases Nat.lt_or_ge 9 w.heap.size with h1 | h1
  · exact h1
  · rw [Array.getElem?_eq_none h1] at h
    cases h
theorem itoa (n : Int) (h0 : -9223372036854775808 ≤ n) (h1 : n ≤ 9223372036854775807) (w : World) (ht : Tab w) :
    Calls Tryz.prog 54 #[.int .i64 n] w fun e w' => e = .returned (.string ⟨(Lib.itoa n).toArray⟩) ∧ Below w.heap.size w w' := by
  refine (Tryz.strconv_Itoa n h0 h1 _ ht).mono ?_
  rintro e w1 ⟨rfl, k, os, rfl⟩
  exact ⟨rfl, Lib.below_grow w.heap.size w (Nat.le_refl _) k os⟩
end Go.Proofs.YtecnnlppinhmgaaGreatDoor.Itoa
namespace Go.Proofs.YtecnnlppinhmgaaGreatDoor.DiskB
open Go.RowKit Go.Proofs.YtecnnlppinhmgaaGreatDoor Go.Proofs.YtecnnlppinhmgaaGreatDoor.Dw

/-- how a call ends -/
inductive Er where | ok | name | full | gone
deriving DecidableEq
def erv (aN aF aG : Addr) : Er → Value
  | .ok => .nilIface
  | .name => ev aN
  | .full => ev aF
  | .gone => ev aG
def old (M : Dp.Files) (n : List UInt8) : Dp.File := (Dp.look M n).getD ⟨[], [], false⟩
def askE (M : Dp.Files) (n : List UInt8) : Er := if DiskA.gd n = true then (if (Dp.look M n).isSome = true then .ok else .gone) else .name
def wrE (M : Dp.Files) (full : Bool) (n : List UInt8) : Er := if DiskA.gd n = true then (if full = true ∨ ((Dp.look M n).isSome = false ∧ 512 ≤ M.length) then .full else .ok) else .name
def wrM (M : Dp.Files) (full : Bool) (n l : List UInt8) : Dp.Files := if wrE M full n = .ok then Dp.put M n ⟨l, (old M n).safe, (old M n).kept⟩ else M
def syE (M : Dp.Files) (full : Bool) (n : List UInt8) : Er := if askE M n = .ok then (if full = true then .full else .ok) else askE M n
def syM (M : Dp.Files) (full : Bool) (n : List UInt8) : Dp.Files := if syE M full n = .ok then Dp.put M n ⟨(old M n).bytes, (old M n).bytes, true⟩ else M
def deM (M : Dp.Files) (n : List UInt8) : Dp.Files := if askE M n = .ok then Dp.del M n else M
def reE (M : Dp.Files) (n t : List UInt8) : Er := if DiskA.gd n = true ∧ DiskA.gd t = true then askE M n else .name
def reM (M : Dp.Files) (n t : List UInt8) : Dp.Files := if reE M n t = .ok then Dp.put (Dp.del M n) t (old M n) else M
def rdL (M : Dp.Files) (n : List UInt8) : List UInt8 := if askE M n = .ok then (old M n).bytes else []

theorem looks_old {lo : Nat} {w : World} {D : DataW Value} {M : Dp.Files} (ht : Dp.Tie (FileIs lo w) D M) (n : List UInt8) :
    ∃ a1 c1 a2 c2, Looks D n (fileV a1 c1 a2 c2 (old M n)) (Dp.look M n).isSome ∧ Bs lo w a1 (old M n).bytes c1 ∧ Bs lo w a2 (old M n).safe c2 := by
  cases hk : Dp.look M n with
  | none => exact ⟨none, 0, none, 0, by simp only [old, hk, Option.getD_none, Option.isSome_none]; exact looks_gone ht hk, by simpa [old, hk] using Bs.nil _ _ _ _ fun _ => rfl, by simpa [old, hk] using Bs.nil _ _ _ _ fun _ => rfl⟩
  | some f =>
    obtain ⟨a1, c1, a2, c2, h1, h2, h3⟩ := looks_hit ht hk
    exact ⟨a1, c1, a2, c2, by simpa [old, hk] using h1, by simpa [old, hk] using h2, by simpa [old, hk] using h3⟩

theorem ret_pair {a b c d : Value} (h1 : a = c) (h2 : b = d) : Ending.returned (.tuple #[a, b]) = .returned (.tuple #[c, d]) := by rw [h1, h2]

set_option maxHeartbeats 1000000 in
set_option maxRecDepth 100000 in
theorem find_bad (d : Value) (n : ByteArray) (w : World) {aN aF aG : Addr} (he : Errs w aN aF aG) (hg : DiskA.gd n.data.toList = false) :
    Calls Tryz.prog 56 #[d, .string n] w fun e w' => e = .returned (.tuple #[noFileV, ev aN]) ∧ Below w.heap.size w w' := by
  have hn := he.name
  have hlt := World.block_lt_of_cell? w _ hn
  simp only at hlt
  have hn' : ∀ x, (w.alloc x).cell? ⟨5, 0, none⟩ = some (.iface 224 (.pointer (some aN))) := fun x => (World.cell?_alloc_lt w x _ hlt).trans hn
  go_enter Tryz.func56, Tryz.ntmps56
  go_wp2_with (go_at_call 55; refine (DiskA.good n _).mono ?_; rintro e w' ⟨rfl, rfl⟩)
  go_region
  go_wp2
  refine bodyPost_ret (v := .tuple #[noFileV, ev aN]) (by simp [results, Tryz.results56, go_sem]) rfl ⟨rfl, ?_⟩
  exact ((Below.refl _ w).alloc (Nat.le_refl _) _).drew

set_option maxHeartbeats 1000000 in
set_option maxRecDepth 100000 in
theorem find_gone {lo d mb : Nat} {M : Dp.Files} {full : Bool} {lost : Int} (n : ByteArray) (w : World) {aN aF aG : Addr} (hd : Drive lo d mb w M full lost) (he : Errs w aN aF aG) (hs : n.size ≤ maxLen) (hg : DiskA.gd n.data.toList = true) (hl : Dp.look M n.data.toList = none) :
    Calls Tryz.prog 56 #[.pointer (some ⟨d, 0, none⟩), .string n] w fun e w' => e = .returned (.tuple #[noFileV, ev aG]) ∧ Below w.heap.size w w' := by
  have hn := he.gone
  have hlt := World.block_lt_of_cell? w _ hn
  simp only at hlt
  obtain ⟨D, ho, ht⟩ := hd.own
  have hL := looks_gone ht hl
  have hdl := hd.names_lt.1
  have c0 := hd.cell0
  go_enter Tryz.func56, Tryz.ntmps56
  go_wp2_with (first
    | (go_at_call 55; refine (DiskA.good n _).mono ?_; rintro e w' ⟨rfl, rfl⟩)
    | (at_lookup; refine wpList_look rfl _ _ rfl rfl (ho.alloc _) n rfl hs hL ?_))
  have hn' : ∀ x y, ((w.alloc x).alloc y).cell? ⟨6, 0, none⟩ = some (.iface 224 (.pointer (some aG))) := fun x y => (World.cell?_alloc_lt _ y _ (by simp; omega)).trans ((World.cell?_alloc_lt w x _ hlt).trans hn)
  go_region
  go_wp2
  refine bodyPost_ret (v := .tuple #[noFileV, ev aG]) (by simp [results, Tryz.results56, go_sem]) rfl ⟨rfl, ?_⟩
  exact (((Below.refl _ w).alloc (Nat.le_refl _) _).alloc (by simp) _).drew

/-- what the drive's map gives at a name -/
structure At (d mb : Nat) (w : World) (l : List UInt8) (v : Value) : Prop where
  lt : d < w.heap.size
  cell : w.cell? ⟨d, 0, none⟩ = some (.map (some mb))
  look : ∃ k D, w.ownsMap Tryz.prog 9 rd mb k D ∧ Looks D l v true

theorem at_of {lo d mb : Nat} {M : Dp.Files} {full : Bool} {lost : Int} {w : World} (hd : Drive lo d mb w M full lost) {l : List UInt8} {f : Dp.File} (hl : Dp.look M l = some f) :
    ∃ a1 c1 a2 c2, At d mb w l (fileV a1 c1 a2 c2 f) ∧ Bs lo w a1 f.bytes c1 ∧ Bs lo w a2 f.safe c2 := by
  obtain ⟨D, ho, ht⟩ := hd.own
  obtain ⟨a1, c1, a2, c2, h1, h2, h3⟩ := looks_hit ht hl
  exact ⟨a1, c1, a2, c2, ⟨hd.names_lt.1, hd.cell0, _, D, ho, h1⟩, h2, h3⟩

set_option maxHeartbeats 1000000 in
set_option maxRecDepth 100000 in
theorem find_hit {d mb : Nat} (n : ByteArray) (a1 : Option Addr) (n1 c1 : Nat) (a2 : Option Addr) (n2 c2 : Nat) (k : Bool) (w : World) (ha : At d mb w n.data.toList (.agg #[.slice a1 n1 c1, .slice a2 n2 c2, .bool k])) (hs : n.size ≤ maxLen) (hg : DiskA.gd n.data.toList = true) :
    Calls Tryz.prog 56 #[.pointer (some ⟨d, 0, none⟩), .string n] w fun e w' => e = .returned (.tuple #[.agg #[.slice a1 n1 c1, .slice a2 n2 c2, .bool k], .nilIface]) ∧ Below w.heap.size w w' := by
  obtain ⟨hdl, c0, m, D, ho, hL⟩ := ha
  go_enter Tryz.func56, Tryz.ntmps56
  go_wp2_with (first
    | (go_at_call 55; refine (DiskA.good n _).mono ?_; rintro e w' ⟨rfl, rfl⟩)
    | (at_lookup; refine wpList_look rfl _ _ rfl rfl (ho.alloc _) n rfl hs hL ?_))
  refine bodyPost_ret (v := .tuple #[.agg #[.slice a1 n1 c1, .slice a2 n2 c2, .bool k], .nilIface]) (by simp [results, Tryz.results56, go_sem]) rfl ⟨rfl, ?_⟩
  exact ((Below.refl _ w).alloc (Nat.le_refl _) _).alloc (by simp) _

set_option maxHeartbeats 1000000 in
set_option maxRecDepth 100000 in
theorem new0 (w : World) : Calls Tryz.prog 24 #[] w fun e w' => e = .returned (.pointer (some ⟨w.heap.size + 1, 0, none⟩)) ∧ w' = (w.alloc (.map #[] 0)).alloc (.cells #[.map (some w.heap.size), .bool false, .int .i64 0] 73) := by
  have hmm := @run_makeMap Tryz.prog
  go_enter Tryz.func24, Tryz.ntmps24
  go_wp2
  go_ret
  exact ⟨rfl, rfl⟩
/-- a new drive -/
theorem new (w : World) (ht : top < w.heap.size) : Calls Tryz.prog 24 #[] w fun e w' => e = .returned (.pointer (some ⟨w.heap.size + 1, 0, none⟩)) ∧ Drive (w.heap.size + 2) (w.heap.size + 1) w.heap.size w' [] false 0 ∧ Below w.heap.size w w' := by
  refine (new0 w).mono ?_
  rintro e w' ⟨rfl, rfl⟩
  refine ⟨rfl, ⟨by omega, ht, by omega, by omega, by omega, by simp, ?_, .map [], ?_, Dp.Tie.empty _⟩, ((Below.refl _ w).alloc (Nat.le_refl _) _).alloc (by simp) _⟩
  · have := heap_alloc_new (w.alloc (.map #[] 0)) (.cells #[.map (some w.heap.size), .bool false, .int .i64 0] 73)
    rw [World.size_alloc] at this
    exact this
  · exact (World.ownsMap_made w _ _ _).alloc _

/-- what a look-up in the drive's map gives, and what may be stored there -/
structure Holds (d mb : Nat) (w : World) (M : Dp.Files) (l : List UInt8) (v : Value) (there : Bool) : Prop where
  lt : d < w.heap.size
  cell : w.cell? ⟨d, 0, none⟩ = some (.map (some mb))
  look : ∃ D, w.ownsMap Tryz.prog 9 rd mb M.length D ∧ Looks D l v there

theorem region_tail {id : Nat} {Q : Exit → Act → World → Prop} {a : Act} {w : World} {l : List Oper} (n : Nat) (hB : Region.lexTailB .any l.toArray n = true)
    (h : wpStill Tryz.prog l.toArray w.drew (fun a' => wpList Tryz.prog l.toArray Q (l.drop n) a' w.drew) (l.take n) a) : (Code.region id l.toArray true).wp Tryz.prog Q a w :=
  wp_region_still_tail n (by kernel_rfl) hB h

/-- a file's box, and the drive's cell, behind a call that made memory -/
theorem boxed {w w1 : World} {v0 v1 v2 : Value} {t : TypeId} (hb : Below (w.alloc (.cells #[v0, v1, v2] t)).heap.size (w.alloc (.cells #[v0, v1, v2] t)) w1) :
    (w1.cell? ⟨w.heap.size, 0, none⟩ = some v0 ∧ w1.cell? ⟨w.heap.size, 1, none⟩ = some v1 ∧ w1.cell? ⟨w.heap.size, 2, none⟩ = some v2) ∧ (∀ i, w1.frozen? ⟨w.heap.size, i, none⟩ = false) ∧ w.heap.size < w1.heap.size ∧ Below w.heap.size w w1 := by
  have h : w1.heap[w.heap.size]? = some (.cells #[v0, v1, v2] t (0, 0)) := (hb.block _ (by simp)).trans (heap_alloc_new _ _)
  refine ⟨⟨?_, ?_, ?_⟩, fun i => Lib.frozen_of_heap h i, by have := hb.size; simp at this; omega, ((Below.refl _ w).alloc (Nat.le_refl _) _).trans (hb.mono (by simp))⟩
  all_goals (rw [Lib.cell_of_heap h]; rfl)

theorem write_keep {w w1 w2 : World} {mb : Nat} {v : Value} (hb : Below w.heap.size w w1) (ht : (w1.setCell ⟨w.heap.size, 0, none⟩ v).drew.mapTurned w2 mb) : Keep [mb] w w2 := by
  have h1 : Keep [mb] w (w1.setCell ⟨w.heap.size, 0, none⟩ v).drew := ((Keep.of_below hb _).setCell (.inr (Nat.le_refl _)) _).drew
  exact h1.trans (Keep.of_turned ht)
theorem write_end {w w1 w2 : World} {x : Obj} {mb : Nat} {v : Value} {a : Option Addr} {l : List UInt8} {c : Nat} (hbs : Bs (w.alloc x).heap.size w1 a l c) (hm : mb < w.heap.size)
    (ht : (w1.setCell ⟨w.heap.size, 0, none⟩ v).drew.mapTurned w2 mb) : Bs w.heap.size w2 a l c := by
  have h1 : Keep [w.heap.size, mb] w1 (w1.setCell ⟨w.heap.size, 0, none⟩ v).drew := ((Keep.refl _ w1).setCell (.inl (by simp)) _).drew
  have h2 : Keep [w.heap.size, mb] w1 w2 := h1.trans ((Keep.of_turned ht).mono (by simp))
  exact (hbs.keep h2 (by simp; omega)).lower (by simp)

set_option maxHeartbeats 2000000 in
set_option maxRecDepth 100000 in
theorem write0 {d mb m : Nat} {D : DataW Value} (n : ByteArray) (a : Option Addr) (l : List UInt8) (c : Nat) (a1 : Option Addr) (n1 c1 : Nat) (a2 : Option Addr) (n2 c2 : Nat) (k : Bool) (there : Bool) (w : World)
    (hdl : d < w.heap.size) (c0 : w.cell? ⟨d, 0, none⟩ = some (.map (some mb))) (f0 : w.cell? ⟨d, 1, none⟩ = some (.bool false)) (ho : w.ownsMap Tryz.prog 9 rd mb m D) (hm : Maps.size D = m) (hL : Looks D n.data.toList (.agg #[.slice a1 n1 c1, .slice a2 n2 c2, .bool k]) there)
    (hs : n.size ≤ maxLen) (hg : DiskA.gd n.data.toList = true) (hroom : there = false → m < 512) (hl : l.length ≤ 140737488351232) (hb : Bs 0 w a l c) (hmx : m < 4294967296) :
    Calls Tryz.prog 32 #[.pointer (some ⟨d, 0, none⟩), .string n, .slice a l.length c] w fun e w' => e = .returned .nilIface ∧
      ∃ a' c', Bs w.heap.size w' a' l c' ∧ w'.ownsMap Tryz.prog 9 rd mb (m + 1) (D.put (.string n.data.toList) (.held (.agg #[.slice a' l.length c', .slice a2 n2 c2, .bool k]))) ∧ Keep [mb] w w' := by
  have hlen : ∀ x ty, (Builtin.len_ #[71] ty #[.map (some mb)]).run Tryz.prog (w.alloc x) = .ok (.int .i64 m) (w.alloc x) := fun x ty => by rw [(ho.alloc x).len Tryz.underlying71 ty, hm]
  have HM := Lib.hid hm; clear hm
  cases there
  · have hr : decide ((512 : Int) ≤ (m : Int)) = false := by have := hroom rfl; simp; omega
    clear hroom
    go_enter Tryz.func32, Tryz.ntmps32
    go_wp2_with (first
      | (go_at_call 55; refine (DiskA.good n _).mono ?_; rintro e w' ⟨rfl, rfl⟩)
      | (go_at_call 36; refine (DiskA.clone a l c _ hl (hb.below ((Below.refl _ w).alloc (Nat.le_refl _) _))).mono ?_; rintro e w1 ⟨⟨a', c', rfl, hbs⟩, hbel⟩; obtain ⟨⟨q0, q1, q2⟩, qf, qz, qb⟩ := boxed hbel; have c0' := (qb.cell (p := ⟨d, 0, none⟩) hdl).trans c0)
      | (at_lookup; refine wpList_look rfl _ _ rfl rfl ho n rfl hs hL ?_))
    refine region_tail 6 (by kernel_rfl) ?_
    simp only [List.take_succ_cons, List.take_zero, List.drop_succ_cons, List.drop_zero]
    repeat still_step
    refine wpStill_nil ?_
    go_wp2_with (at_mapUpdate; refine wpList_store rfl _ _ _ rfl rfl (((ownsMap_below ho qb).setCell (by simp; have := ho.lt; omega) _).drew) hmx n rfl hs _ rfl ?_; intro w2 ho2 ht2)
    go_ret
    exact ⟨rfl, a', c', write_end hbs ho.lt ht2, ho2, write_keep qb ht2⟩
  · clear hroom
    go_enter Tryz.func32, Tryz.ntmps32
    go_wp2_with (first
      | (go_at_call 55; refine (DiskA.good n _).mono ?_; rintro e w' ⟨rfl, rfl⟩)
      | (go_at_call 36; refine (DiskA.clone a l c _ hl (hb.below ((Below.refl _ w).alloc (Nat.le_refl _) _))).mono ?_; rintro e w1 ⟨⟨a', c', rfl, hbs⟩, hbel⟩; obtain ⟨⟨q0, q1, q2⟩, qf, qz, qb⟩ := boxed hbel; have c0' := (qb.cell (p := ⟨d, 0, none⟩) hdl).trans c0)
      | (at_lookup; refine wpList_look rfl _ _ rfl rfl ho n rfl hs hL ?_))
    refine region_tail 6 (by kernel_rfl) ?_
    simp only [List.take_succ_cons, List.take_zero, List.drop_succ_cons, List.drop_zero]
    repeat still_step
    refine wpStill_nil ?_
    go_wp2_with (at_mapUpdate; refine wpList_store rfl _ _ _ rfl rfl (((ownsMap_below ho qb).setCell (by simp; have := ho.lt; omega) _).drew) hmx n rfl hs _ rfl ?_; intro w2 ho2 ht2)
    go_ret
    exact ⟨rfl, a', c', write_end hbs ho.lt ht2, ho2, write_keep qb ht2⟩

set_option maxHeartbeats 2000000 in
set_option maxRecDepth 100000 in
theorem write_bad (d : Value) (n : ByteArray) (b : Value) (w : World) {aN aF aG : Addr} (he : Errs w aN aF aG) (hg : DiskA.gd n.data.toList = false) :
    Calls Tryz.prog 32 #[d, .string n, b] w fun e w' => e = .returned (ev aN) ∧ w = w' := by
  have hn := he.name
  go_enter Tryz.func32, Tryz.ntmps32
  go_wp2_with (go_at_call 55; refine (DiskA.good n _).mono ?_; rintro e w' ⟨rfl, rfl⟩)
  go_ret
  exact ⟨rfl, rfl⟩

set_option maxHeartbeats 2000000 in
set_option maxRecDepth 100000 in
theorem write_full {d mb m : Nat} {D : DataW Value} (n : ByteArray) (b : Value) (a1 : Option Addr) (n1 c1 : Nat) (a2 : Option Addr) (n2 c2 : Nat) (k : Bool) (there full : Bool) (w : World) {aN aF aG : Addr} (he : Errs w aN aF aG)
    (hdl : d < w.heap.size) (c0 : w.cell? ⟨d, 0, none⟩ = some (.map (some mb))) (f0 : w.cell? ⟨d, 1, none⟩ = some (.bool full)) (ho : w.ownsMap Tryz.prog 9 rd mb m D) (hm : Maps.size D = m) (hL : Looks D n.data.toList (.agg #[.slice a1 n1 c1, .slice a2 n2 c2, .bool k]) there)
    (hs : n.size ≤ maxLen) (hg : DiskA.gd n.data.toList = true) (hroom : full = true ∨ (there = false ∧ 512 ≤ m)) (hmx : m < 4294967296) :
    Calls Tryz.prog 32 #[.pointer (some ⟨d, 0, none⟩), .string n, b] w fun e w' => e = .returned (ev aF) ∧ Below w.heap.size w w' := by
  have hlen : ∀ x ty, (Builtin.len_ #[71] ty #[.map (some mb)]).run Tryz.prog (w.alloc x) = .ok (.int .i64 m) (w.alloc x) := fun x ty => by rw [(ho.alloc x).len Tryz.underlying71 ty, hm]
  have HM := Lib.hid hm; clear hm
  have hn := he.full
  have hlt := World.block_lt_of_cell? w _ hn
  simp only at hlt
  have hn' : ∀ x, (w.alloc x).cell? ⟨1, 0, none⟩ = some (.iface 224 (.pointer (some aF))) := fun x => (World.cell?_alloc_lt w x _ hlt).trans hn
  cases full
  · obtain ⟨rfl, hr0⟩ : there = false ∧ 512 ≤ m := by simpa using hroom
    have hr : decide ((512 : Int) ≤ (m : Int)) = true := by simp; omega
    clear hroom hr0
    go_enter Tryz.func32, Tryz.ntmps32
    go_wp2_with (first
      | (go_at_call 55; refine (DiskA.good n _).mono ?_; rintro e w' ⟨rfl, rfl⟩)
      | (at_lookup; refine wpList_look rfl _ _ rfl rfl ho n rfl hs hL ?_))
    go_ret
    exact ⟨rfl, (Below.refl _ w).alloc (Nat.le_refl _) _⟩
  · clear hroom
    go_enter Tryz.func32, Tryz.ntmps32
    go_wp2_with (first
      | (go_at_call 55; refine (DiskA.good n _).mono ?_; rintro e w' ⟨rfl, rfl⟩)
      | (at_lookup; refine wpList_look rfl _ _ rfl rfl ho n rfl hs hL ?_))
    go_ret
    exact ⟨rfl, (Below.refl _ w).alloc (Nat.le_refl _) _⟩

/-- Write -/
theorem write {lo d mb : Nat} {M : Dp.Files} {full : Bool} {lost : Int} (n : ByteArray) (a : Option Addr) (l : List UInt8) (c : Nat) (w : World) {aN aF aG : Addr} (hd : Drive lo d mb w M full lost) (he : Errs w aN aF aG)
    (hs : n.size ≤ maxLen) (hl : l.length ≤ 140737488351232) (hb : Bs 0 w a l c) (hmx : M.length < 4294967296) :
    Calls Tryz.prog 32 #[.pointer (some ⟨d, 0, none⟩), .string n, .slice a l.length c] w fun e w' => e = .returned (erv aN aF aG (wrE M full n.data.toList)) ∧ Drive lo d mb w' (wrM M full n.data.toList l) full lost ∧ Keep [mb] w w' := by
  cases hg : DiskA.gd n.data.toList
  · have h1 : wrE M full n.data.toList = .name := by simp [wrE, hg]
    refine (write_bad _ n _ w he hg).mono ?_
    rintro e w' ⟨rfl, rfl⟩
    exact ⟨by rw [h1]; rfl, by simpa [wrM, h1] using hd, Keep.refl _ _⟩
  · obtain ⟨D, ho, ht⟩ := hd.own
    have hz := ht.size
    obtain ⟨a1, c1, a2, c2, hL, _, hb2⟩ := looks_old ht n.data.toList
    by_cases hf : full = true ∨ ((Dp.look M n.data.toList).isSome = false ∧ 512 ≤ M.length)
    · have h1 : wrE M full n.data.toList = .full := by simp only [wrE, hg, if_true]; rw [if_pos hf]
      refine (write_full n _ a1 _ c1 a2 _ c2 _ _ full w he hd.names_lt.1 hd.cell0 hd.cell1 ho hz hL hs hg hf hmx).mono ?_
      rintro e w' ⟨rfl, hk⟩
      exact ⟨by rw [h1]; rfl, by simpa [wrM, h1] using hd.below hk, Keep.of_below hk _⟩
    · have h1 : wrE M full n.data.toList = .ok := by simp only [wrE, hg, if_true]; rw [if_neg hf]
      obtain rfl : full = false := by cases full <;> simp_all
      refine (write0 n a l c a1 _ c1 a2 _ c2 _ _ w hd.names_lt.1 hd.cell0 hd.cell1 ho hz hL hs hg (fun h0 => by simp [h0] at hf; exact hf) hl hb hmx).mono ?_
      rintro e w' ⟨rfl, a', c', hbs, ho', hk⟩
      refine ⟨by rw [h1]; rfl, ?_, hk⟩
      rw [wrM, if_pos h1]
      have hlo : ∀ k ∈ [mb], k < lo := by simp; exact hd.mlo
      exact hd.turned hk ho' ((ht.mono fun v f hf => hf.keep hk hlo).put ⟨a', c', a2, c2, rfl, hbs.lower hd.low, hb2.keep hk hlo⟩)
end Go.Proofs.YtecnnlppinhmgaaGreatDoor.DiskB
namespace Go.Proofs.YtecnnlppinhmgaaGreatDoor.DiskC
open Go.RowKit Go.Proofs.YtecnnlppinhmgaaGreatDoor Go.Proofs.YtecnnlppinhmgaaGreatDoor.Dw Go.Proofs.YtecnnlppinhmgaaGreatDoor.DiskB

/-- a file's box, behind a turn of the map -/
theorem three_turned {w1 w2 : World} {v0 v1 v2 : Value} {t : TypeId} {mb : Nat} (hm : mb < w1.heap.size) (ht : (w1.alloc (.cells #[v0, v1, v2] t)).mapTurned w2 mb) :
    w2.cell? ⟨w1.heap.size, 0, none⟩ = some v0 ∧ w2.cell? ⟨w1.heap.size, 1, none⟩ = some v1 ∧ w2.cell? ⟨w1.heap.size, 2, none⟩ = some v2 := by
  have h : w2.heap[w1.heap.size]? = some (.cells #[v0, v1, v2] t (0, 0)) := ((Keep.of_turned ht).block _ (by simp) (by simp; omega)).trans (heap_alloc_new _ _)
  refine ⟨?_, ?_, ?_⟩
  all_goals (rw [Lib.cell_of_heap h]; rfl)

theorem find_err {lo d mb : Nat} {M : Dp.Files} {full : Bool} {lost : Int} (n : ByteArray) (w : World) {aN aF aG : Addr} (hd : Drive lo d mb w M full lost) (he : Errs w aN aF aG) (hs : n.size ≤ maxLen) (hno : askE M n.data.toList ≠ .ok) :
    Calls Tryz.prog 56 #[.pointer (some ⟨d, 0, none⟩), .string n] w fun e w' => (∃ x : Addr, erv aN aF aG (askE M n.data.toList) = ev x ∧ e = .returned (.tuple #[noFileV, ev x])) ∧ Below w.heap.size w w' := by
  cases hg : DiskA.gd n.data.toList
  · refine (find_bad _ n w he hg).mono ?_
    rintro e w' ⟨rfl, hb⟩
    exact ⟨⟨aN, by simp [askE, hg, erv], rfl⟩, hb⟩
  · cases hk : Dp.look M n.data.toList with
    | none =>
      refine (find_gone n w hd he hs hg hk).mono ?_
      rintro e w' ⟨rfl, hb⟩
      exact ⟨⟨aG, by simp [askE, hg, hk, erv], rfl⟩, hb⟩
    | some f => exact absurd (by simp [askE, hg, hk]) hno
theorem ask_ok {M : Dp.Files} {n : List UInt8} (h : askE M n = .ok) : DiskA.gd n = true ∧ Dp.look M n = some (old M n) := by
  unfold askE at h
  split at h
  · rename_i hg
    split at h
    · rename_i hk
      obtain ⟨f, hf⟩ := Option.isSome_iff_exists.1 hk
      exact ⟨hg, by simp [old, hf]⟩
    · cases h
  · cases h

set_option maxHeartbeats 2000000 in
set_option maxRecDepth 100000 in
theorem sync_no {lo d mb : Nat} {M : Dp.Files} {full : Bool} {lost : Int} (n : ByteArray) (w : World) {aN aF aG : Addr} (hd : Drive lo d mb w M full lost) (he : Errs w aN aF aG) (hs : n.size ≤ maxLen) (hno : askE M n.data.toList ≠ .ok) :
    Calls Tryz.prog 33 #[.pointer (some ⟨d, 0, none⟩), .string n] w fun e w' => e = .returned (erv aN aF aG (askE M n.data.toList)) ∧ Below w.heap.size w w' := by
  go_enter Tryz.func33, Tryz.ntmps33
  go_wp2_with (go_at_call 56; refine (find_err n _ hd he hs hno).mono ?_; rintro e w1 ⟨⟨x, hx, rfl⟩, hb⟩; have HX := Lib.hid hx; clear hx)
  go_ret
  exact ⟨by rw [HX.out]; rfl, hb.alloc (hb.size) _⟩

set_option maxHeartbeats 2000000 in
set_option maxRecDepth 100000 in
theorem sync_full {d mb : Nat} (n : ByteArray) (a1 : Option Addr) (n1 c1 : Nat) (a2 : Option Addr) (n2 c2 : Nat) (k : Bool) (w : World) {aN aF aG : Addr} (he : Errs w aN aF aG) (ha : At d mb w n.data.toList (.agg #[.slice a1 n1 c1, .slice a2 n2 c2, .bool k])) (f0 : w.cell? ⟨d, 1, none⟩ = some (.bool true)) (hs : n.size ≤ maxLen) (hg : DiskA.gd n.data.toList = true) :
    Calls Tryz.prog 33 #[.pointer (some ⟨d, 0, none⟩), .string n] w fun e w' => e = .returned (ev aF) ∧ Below w.heap.size w w' := by
  have hdl := ha.lt
  go_enter Tryz.func33, Tryz.ntmps33
  go_wp2_with (go_at_call 56; refine (find_hit n a1 n1 c1 a2 n2 c2 k _ ha hs hg).mono ?_; rintro e w1 ⟨rfl, hb⟩; have f1 := (hb.cell (p := ⟨d, 1, none⟩) hdl).trans f0; have hz := hb.size; have hd1 : d < w1.heap.size := (by omega); have e1 := (he.below hb).full; have el := World.block_lt_of_cell? w1 _ e1; simp only at el)
  go_ret
  exact ⟨rfl, hb.alloc hb.size _⟩

set_option maxHeartbeats 2000000 in
set_option maxRecDepth 100000 in
theorem sync_ok {d mb m : Nat} {D : DataW Value} (n : ByteArray) (a1 : Option Addr) (n1 c1 : Nat) (a2 : Option Addr) (n2 c2 : Nat) (k : Bool) (w : World)
    (hdl : d < w.heap.size) (c0 : w.cell? ⟨d, 0, none⟩ = some (.map (some mb))) (f0 : w.cell? ⟨d, 1, none⟩ = some (.bool false)) (ho : w.ownsMap Tryz.prog 9 rd mb m D) (hL : Looks D n.data.toList (.agg #[.slice a1 n1 c1, .slice a2 n2 c2, .bool k]) true)
    (hs : n.size ≤ maxLen) (hg : DiskA.gd n.data.toList = true) (hmx : m < 4294967296) :
    Calls Tryz.prog 33 #[.pointer (some ⟨d, 0, none⟩), .string n] w fun e w' => e = .returned .nilIface ∧
      w'.ownsMap Tryz.prog 9 rd mb (m + 1) (D.put (.string n.data.toList) (.held (.agg #[.slice a1 n1 c1, .slice a1 n1 c1, .bool true]))) ∧ Keep [mb] w w' := by
  have hml := ho.lt
  go_enter Tryz.func33, Tryz.ntmps33
  go_wp2_with (go_at_call 56; refine (find_hit n a1 n1 c1 a2 n2 c2 k _ ⟨hdl, c0, _, D, ho, hL⟩ hs hg).mono ?_; rintro e w1 ⟨rfl, hb⟩; have f1 := (hb.cell (p := ⟨d, 1, none⟩) hdl).trans f0; have c1' := (hb.cell (p := ⟨d, 0, none⟩) hdl).trans c0; have hz := hb.size; have hd1 : d < w1.heap.size := (by omega))
  refine region_tail 6 (by kernel_rfl) ?_
  simp only [List.take_succ_cons, List.take_zero, List.drop_succ_cons, List.drop_zero]
  repeat still_step
  refine wpStill_nil ?_
  go_wp2_with (at_mapUpdate; refine wpList_store rfl _ _ _ rfl rfl (((ownsMap_below ho hb).alloc _).drew) hmx n rfl hs _ rfl ?_; intro w2 ho2 ht2)
  go_ret
  exact ⟨rfl, ho2, (((Keep.of_below hb _).alloc _).drew).trans (Keep.of_turned ht2)⟩

/-- Sync -/
theorem sync {lo d mb : Nat} {M : Dp.Files} {full : Bool} {lost : Int} (n : ByteArray) (w : World) {aN aF aG : Addr} (hd : Drive lo d mb w M full lost) (he : Errs w aN aF aG) (hs : n.size ≤ maxLen) (hmx : M.length < 4294967296) :
    Calls Tryz.prog 33 #[.pointer (some ⟨d, 0, none⟩), .string n] w fun e w' => e = .returned (erv aN aF aG (syE M full n.data.toList)) ∧ Drive lo d mb w' (syM M full n.data.toList) full lost ∧ Keep [mb] w w' := by
  by_cases ha : askE M n.data.toList = .ok
  · obtain ⟨hg, hk⟩ := ask_ok ha
    cases full
    · have h1 : syE M false n.data.toList = .ok := by simp [syE, ha]
      obtain ⟨D, ho, ht⟩ := hd.own
      obtain ⟨a1, c1, a2, c2, hL, hb1, hb2⟩ := looks_hit ht hk
      refine (sync_ok n a1 _ c1 a2 _ c2 _ w hd.names_lt.1 hd.cell0 hd.cell1 ho hL hs hg hmx).mono ?_
      rintro e w' ⟨rfl, ho', hkp⟩
      refine ⟨by rw [h1]; rfl, ?_, hkp⟩
      rw [syM, if_pos h1]
      have hlo : ∀ k ∈ [mb], k < lo := by simp; exact hd.mlo
      exact hd.turned hkp ho' ((ht.mono fun v f hf => hf.keep hkp hlo).put ⟨a1, c1, a1, c1, rfl, hb1.keep hkp hlo, hb1.keep hkp hlo⟩)
    · have h1 : syE M true n.data.toList = .full := by simp [syE, ha]
      obtain ⟨a1, c1, a2, c2, hA, _⟩ := at_of hd hk
      refine (sync_full n a1 _ c1 a2 _ c2 _ w he hA hd.cell1 hs hg).mono ?_
      rintro e w' ⟨rfl, hb⟩
      exact ⟨by rw [h1]; rfl, by simpa [syM, h1] using hd.below hb, Keep.of_below hb _⟩
  · have h1 : syE M full n.data.toList = askE M n.data.toList := by simp [syE, ha]
    have h2 : syE M full n.data.toList ≠ .ok := by rw [h1]; exact ha
    refine (sync_no n w hd he hs ha).mono ?_
    rintro e w' ⟨rfl, hb⟩
    exact ⟨by rw [h1], by simpa [syM, h2] using hd.below hb, Keep.of_below hb _⟩

set_option maxHeartbeats 2000000 in
set_option maxRecDepth 100000 in
theorem delete_no {lo d mb : Nat} {M : Dp.Files} {full : Bool} {lost : Int} (n : ByteArray) (w : World) {aN aF aG : Addr} (hd : Drive lo d mb w M full lost) (he : Errs w aN aF aG) (hs : n.size ≤ maxLen) (hno : askE M n.data.toList ≠ .ok) :
    Calls Tryz.prog 45 #[.pointer (some ⟨d, 0, none⟩), .string n] w fun e w' => e = .returned (erv aN aF aG (askE M n.data.toList)) ∧ Below w.heap.size w w' := by
  go_enter Tryz.func45, Tryz.ntmps45
  go_wp2_with (go_at_call 56; refine (find_err n _ hd he hs hno).mono ?_; rintro e w1 ⟨⟨x, hx, rfl⟩, hb⟩; have HX := Lib.hid hx; clear hx)
  go_ret
  exact ⟨by rw [HX.out]; rfl, hb.alloc (hb.size) _⟩

set_option maxHeartbeats 2000000 in
set_option maxRecDepth 100000 in
theorem delete_ok {d mb m : Nat} {D : DataW Value} (n : ByteArray) (a1 : Option Addr) (n1 c1 : Nat) (a2 : Option Addr) (n2 c2 : Nat) (k : Bool) (w : World)
    (hdl : d < w.heap.size) (c0 : w.cell? ⟨d, 0, none⟩ = some (.map (some mb))) (ho : w.ownsMap Tryz.prog 9 rd mb m D) (hL : Looks D n.data.toList (.agg #[.slice a1 n1 c1, .slice a2 n2 c2, .bool k]) true)
    (hs : n.size ≤ maxLen) (hg : DiskA.gd n.data.toList = true) :
    Calls Tryz.prog 45 #[.pointer (some ⟨d, 0, none⟩), .string n] w fun e w' => e = .returned .nilIface ∧
      w'.ownsMap Tryz.prog 9 rd mb m (D.del (.string n.data.toList)) ∧ Keep [mb] w w' := by
  go_enter Tryz.func45, Tryz.ntmps45
  go_wp2_with (first
    | (go_at_call 56; refine (find_hit n a1 n1 c1 a2 n2 c2 k _ ⟨hdl, c0, _, D, ho, hL⟩ hs hg).mono ?_; rintro e w1 ⟨rfl, hb⟩; have c1' := (hb.cell (p := ⟨d, 0, none⟩) hdl).trans c0; have hz := hb.size; have hd1 : d < w1.heap.size := (by omega))
    | (at_delete; refine wpList_drop rfl _ _ rfl rfl ((ownsMap_below ho hb).alloc _) n rfl hs ?_; intro w2 ho2 ht2))
  go_ret
  exact ⟨rfl, ho2, ((Keep.of_below hb _).alloc _).trans (Keep.of_turned ht2)⟩

/-- Delete -/
theorem delete {lo d mb : Nat} {M : Dp.Files} {full : Bool} {lost : Int} (n : ByteArray) (w : World) {aN aF aG : Addr} (hd : Drive lo d mb w M full lost) (he : Errs w aN aF aG) (hs : n.size ≤ maxLen) :
    Calls Tryz.prog 45 #[.pointer (some ⟨d, 0, none⟩), .string n] w fun e w' => e = .returned (erv aN aF aG (askE M n.data.toList)) ∧ Drive lo d mb w' (deM M n.data.toList) full lost ∧ Keep [mb] w w' := by
  by_cases ha : askE M n.data.toList = .ok
  · obtain ⟨hg, hk⟩ := ask_ok ha
    obtain ⟨D, ho, ht⟩ := hd.own
    obtain ⟨a1, c1, a2, c2, hL, hb1, hb2⟩ := looks_hit ht hk
    refine (delete_ok n a1 _ c1 a2 _ c2 _ w hd.names_lt.1 hd.cell0 ho hL hs hg).mono ?_
    rintro e w' ⟨rfl, ho', hkp⟩
    refine ⟨by rw [ha]; rfl, ?_, hkp⟩
    rw [deM, if_pos ha]
    have hlo : ∀ k ∈ [mb], k < lo := by simp; exact hd.mlo
    exact hd.turned hkp ho' ((ht.mono fun v f hf => hf.keep hkp hlo).del _)
  · refine (delete_no n w hd he hs ha).mono ?_
    rintro e w' ⟨rfl, hb⟩
    exact ⟨rfl, by simpa [deM, ha] using hd.below hb, Keep.of_below hb _⟩

set_option maxHeartbeats 2000000 in
set_option maxRecDepth 100000 in
theorem read_no {lo d mb : Nat} {M : Dp.Files} {full : Bool} {lost : Int} (n : ByteArray) (w : World) {aN aF aG : Addr} (hd : Drive lo d mb w M full lost) (he : Errs w aN aF aG) (hs : n.size ≤ maxLen) (hno : askE M n.data.toList ≠ .ok) :
    Calls Tryz.prog 38 #[.pointer (some ⟨d, 0, none⟩), .string n] w fun e w' => e = .returned (.tuple #[.slice none 0 0, erv aN aF aG (askE M n.data.toList)]) ∧ Below w.heap.size w w' := by
  go_enter Tryz.func38, Tryz.ntmps38
  go_wp2_with (first
    | (go_at_call 56; refine (find_err n _ hd he hs hno).mono ?_; rintro e w1 ⟨⟨x, hx, rfl⟩, hb⟩; have HX := Lib.hid hx; clear hx)
    | (go_at_call 36; refine (DiskA.clone_nil _).mono ?_; rintro e w' ⟨rfl, rfl⟩))
  go_ret2
  exact ⟨by rw [HX.out]; rfl, hb.alloc (hb.size) _⟩

set_option maxHeartbeats 2000000 in
set_option maxRecDepth 100000 in
theorem read_ok {d mb : Nat} (n : ByteArray) (a1 : Option Addr) (l : List UInt8) (c1 : Nat) (a2 : Option Addr) (n2 c2 : Nat) (k : Bool) (w : World) (ha : At d mb w n.data.toList (.agg #[.slice a1 l.length c1, .slice a2 n2 c2, .bool k])) (hs : n.size ≤ maxLen) (hg : DiskA.gd n.data.toList = true)
    (hl : l.length ≤ 140737488351232) (hbs : Bs 0 w a1 l c1) :
    Calls Tryz.prog 38 #[.pointer (some ⟨d, 0, none⟩), .string n] w fun e w' => (∃ a c, e = .returned (.tuple #[.slice a l.length c, .nilIface]) ∧ Bs w.heap.size w' a l c) ∧ Below w.heap.size w w' := by
  go_enter Tryz.func38, Tryz.ntmps38
  go_wp2_with (first
    | (go_at_call 56; refine (find_hit n a1 l.length c1 a2 n2 c2 k _ ha hs hg).mono ?_; rintro e w1 ⟨rfl, hb⟩)
    | (go_at_call 36; refine (DiskA.clone a1 l c1 _ hl ((hbs.below hb).below ((Below.refl _ _).alloc (Nat.le_refl _) _))).mono ?_; rintro e w2 ⟨⟨a', c', rfl, hbs2⟩, hb2⟩))
  go_ret2
  have hz := hb.size
  exact ⟨⟨a', c', rfl, hbs2.lower (by simp; omega)⟩, (hb.alloc hb.size _).trans (hb2.mono (by simp; omega))⟩

/-- Read -/
theorem read {lo d mb : Nat} {M : Dp.Files} {full : Bool} {lost : Int} (n : ByteArray) (w : World) {aN aF aG : Addr} (hd : Drive lo d mb w M full lost) (he : Errs w aN aF aG) (hs : n.size ≤ maxLen) (hl : ∀ p ∈ M, p.2.bytes.length ≤ 140737488351232) :
    Calls Tryz.prog 38 #[.pointer (some ⟨d, 0, none⟩), .string n] w fun e w' => (∃ a c, e = .returned (.tuple #[.slice a (rdL M n.data.toList).length c, erv aN aF aG (askE M n.data.toList)]) ∧ Bs w.heap.size w' a (rdL M n.data.toList) c) ∧ Below w.heap.size w w' := by
  by_cases ha : askE M n.data.toList = .ok
  · obtain ⟨hg, hk⟩ := ask_ok ha
    obtain ⟨a1, c1, a2, c2, hA, hb1, hb2⟩ := at_of hd hk
    refine (read_ok n a1 (old M n.data.toList).bytes c1 a2 _ c2 _ w hA hs hg (hl _ (Dp.look_some hk)) (hb1.lower (Nat.zero_le _))).mono ?_
    rintro e w' ⟨⟨a, c, rfl, hbs⟩, hb⟩
    exact ⟨⟨a, c, by simp only [rdL, ha, if_true]; rfl, by simpa only [rdL, ha, if_true] using hbs⟩, hb⟩
  · refine (read_no n w hd he hs ha).mono ?_
    rintro e w' ⟨rfl, hb⟩
    exact ⟨⟨none, 0, by simp [rdL, ha], by simp only [rdL, ha, if_false]; exact Bs.nil _ _ _ _ fun _ => rfl⟩, hb⟩

set_option maxHeartbeats 2000000 in
set_option maxRecDepth 100000 in
/-- Fill -/
theorem fill {lo d mb : Nat} {M : Dp.Files} {full : Bool} {lost : Int} (b : Bool) (w : World) (hd : Drive lo d mb w M full lost) :
    Calls Tryz.prog 19 #[.pointer (some ⟨d, 0, none⟩), .bool b] w fun e w' => e = .returned (.tuple #[]) ∧ Drive lo d mb w' M b lost ∧ Keep [d] w w' := by
  have f0 := hd.cell1
  have fz : w.frozen? ⟨d, 1, none⟩ = false := Lib.frozen_of_heap hd.cells 1
  go_enter Tryz.func19, Tryz.ntmps19
  go_wp2
  go_end0
  have hk : Keep [d] w (w.setCell ⟨d, 1, none⟩ (.bool b)) := (Keep.refl _ w).setCell (.inl (by simp)) _
  obtain ⟨D, ho, ht⟩ := hd.own
  refine ⟨rfl, ⟨hd.dtop, hd.mtop, hd.dlo, hd.mlo, hd.dmb, Nat.le_trans hd.low hk.size, ?_, D, ho.setCell (fun e => hd.dmb e.symm) _, ht.mono fun v f hf => hf.keep hk (by simp; exact hd.dlo)⟩, hk⟩
  have := hd.cells
  simp only [World.setCell, Array.getElem?_modify, if_true, this]
  rfl
end Go.Proofs.YtecnnlppinhmgaaGreatDoor.DiskC
