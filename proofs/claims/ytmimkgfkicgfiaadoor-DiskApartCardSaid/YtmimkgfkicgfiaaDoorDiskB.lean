/-
  The walks of package disk's New, find, Write, Sync, Delete, Read, Rename, Fill.
-/
import Derived.Test.YtmimkgfkicgfiaaDoorDiskA
import Derived.RegionTactic
import Derived.BigRegion
import Derived.ChangeAlike
import Derived.Carry
import Derived.StillTailTactics
namespace Go.Proofs.YtmimkgfkicgfiaaDoor.DiskB
open Go.RowKit Go.Proofs.YtmimkgfkicgfiaaDoor Go.Proofs.YtmimkgfkicgfiaaDoor.Dw

/-- how a call ends -/
inductive Er where | ok | name | full | gone
deriving DecidableEq
def erv (aN aF aG : Addr) : Er → Value
  | .ok => .nilIface
  | .name => ev aN
  | .full => ev aF
  | .gone => ev aG
def old (M : Dp.Files) (n : List UInt8) : Dp.File := (Dp.look M n).getD ⟨[], [], false⟩
def askE (M : Dp.Files) (n : List UInt8) : Er := if DiskA.gd n = true then (if (Dp.look M n).isSome = true then .ok else .gone) else .name
def wrE (M : Dp.Files) (full : Bool) (n : List UInt8) : Er := if DiskA.gd n = true then (if full = true ∨ ((Dp.look M n).isSome = false ∧ 512 ≤ M.length) then .full else .ok) else .name
def wrM (M : Dp.Files) (full : Bool) (n l : List UInt8) : Dp.Files := if wrE M full n = .ok then Dp.put M n ⟨l, (old M n).safe, (old M n).kept⟩ else M
def syE (M : Dp.Files) (full : Bool) (n : List UInt8) : Er := if askE M n = .ok then (if full = true then .full else .ok) else askE M n
def syM (M : Dp.Files) (full : Bool) (n : List UInt8) : Dp.Files := if syE M full n = .ok then Dp.put M n ⟨(old M n).bytes, (old M n).bytes, true⟩ else M
def deM (M : Dp.Files) (n : List UInt8) : Dp.Files := if askE M n = .ok then Dp.del M n else M
def reE (M : Dp.Files) (n t : List UInt8) : Er := if DiskA.gd n = true ∧ DiskA.gd t = true then askE M n else .name
def reM (M : Dp.Files) (n t : List UInt8) : Dp.Files := if reE M n t = .ok then Dp.put (Dp.del M n) t (old M n) else M
def rdL (M : Dp.Files) (n : List UInt8) : List UInt8 := if askE M n = .ok then (old M n).bytes else []

theorem looks_old {lo : Nat} {w : World} {D : DataW Value} {M : Dp.Files} (ht : Dp.Tie (FileIs lo w) D M) (n : List UInt8) :
    ∃ a1 c1 a2 c2, Looks D n (fileV a1 c1 a2 c2 (old M n)) (Dp.look M n).isSome ∧ Bs lo w a1 (old M n).bytes c1 ∧ Bs lo w a2 (old M n).safe c2 := by
  cases hk : Dp.look M n with
  | none => exact ⟨none, 0, none, 0, by simp only [old, hk, Option.getD_none, Option.isSome_none]; exact looks_gone ht hk, by simpa [old, hk] using Bs.nil _ _ _ _ fun _ => rfl, by simpa [old, hk] using Bs.nil _ _ _ _ fun _ => rfl⟩
  | some f =>
    obtain ⟨a1, c1, a2, c2, h1, h2, h3⟩ := looks_hit ht hk
    exact ⟨a1, c1, a2, c2, by simpa [old, hk] using h1, by simpa [old, hk] using h2, by simpa [old, hk] using h3⟩

theorem ret_pair {a b c d : Value} (h1 : a = c) (h2 : b = d) : Ending.returned (.tuple #[a, b]) = .returned (.tuple #[c, d]) := by rw [h1, h2]

set_option maxHeartbeats 1000000 in
set_option maxRecDepth 100000 in
theorem find_bad (d : Value) (n : ByteArray) (w : World) {aN aF aG : Addr} (he : Errs w aN aF aG) (hg : DiskA.gd n.data.toList = false) :
    Calls Tryd.prog 74 #[d, .string n] w fun e w' => e = .returned (.tuple #[noFileV, ev aN]) ∧ Below w.heap.size w w' := by
  have hn := he.name
  have hlt := World.block_lt_of_cell? w _ hn
  simp only at hlt
  have hn' : ∀ x, (w.alloc x).cell? ⟨1, 0, none⟩ = some (.iface 233 (.pointer (some aN))) := fun x => (World.cell?_alloc_lt w x _ hlt).trans hn
  go_enter Tryd.func74, Tryd.ntmps74
  go_wp2_with (go_at_call 72; refine (DiskA.good n _).mono ?_; rintro e w' ⟨rfl, rfl⟩)
  go_region
  go_wp2
  refine bodyPost_ret (v := .tuple #[noFileV, ev aN]) (by simp [results, Tryd.results74, go_sem]) rfl ⟨rfl, ?_⟩
  exact ((Below.refl _ w).alloc (Nat.le_refl _) _).drew

set_option maxHeartbeats 1000000 in
set_option maxRecDepth 100000 in
theorem find_gone {lo d mb : Nat} {M : Dp.Files} {full : Bool} {lost : Int} (n : ByteArray) (w : World) {aN aF aG : Addr} (hd : Drive lo d mb w M full lost) (he : Errs w aN aF aG) (hs : n.size ≤ maxLen) (hg : DiskA.gd n.data.toList = true) (hl : Dp.look M n.data.toList = none) :
    Calls Tryd.prog 74 #[.pointer (some ⟨d, 0, none⟩), .string n] w fun e w' => e = .returned (.tuple #[noFileV, ev aG]) ∧ Below w.heap.size w w' := by
  have hn := he.gone
  have hlt := World.block_lt_of_cell? w _ hn
  simp only at hlt
  obtain ⟨D, ho, ht⟩ := hd.own
  have hL := looks_gone ht hl
  have hdl := hd.names_lt.1
  have c0 := hd.cell0
  go_enter Tryd.func74, Tryd.ntmps74
  go_wp2_with (first
    | (go_at_call 72; refine (DiskA.good n _).mono ?_; rintro e w' ⟨rfl, rfl⟩)
    | (at_lookup; refine wpList_look rfl _ _ rfl rfl (ho.alloc _) n rfl hs hL ?_))
  have hn' : ∀ x y, ((w.alloc x).alloc y).cell? ⟨3, 0, none⟩ = some (.iface 233 (.pointer (some aG))) := fun x y => (World.cell?_alloc_lt _ y _ (by simp; omega)).trans ((World.cell?_alloc_lt w x _ hlt).trans hn)
  go_region
  go_wp2
  refine bodyPost_ret (v := .tuple #[noFileV, ev aG]) (by simp [results, Tryd.results74, go_sem]) rfl ⟨rfl, ?_⟩
  exact (((Below.refl _ w).alloc (Nat.le_refl _) _).alloc (by simp) _).drew

/-- what the drive's map gives at a name -/
structure At (d mb : Nat) (w : World) (l : List UInt8) (v : Value) : Prop where
  lt : d < w.heap.size
  cell : w.cell? ⟨d, 0, none⟩ = some (.map (some mb))
  look : ∃ k D, w.ownsMap Tryd.prog 9 rd mb k D ∧ Looks D l v true

theorem at_of {lo d mb : Nat} {M : Dp.Files} {full : Bool} {lost : Int} {w : World} (hd : Drive lo d mb w M full lost) {l : List UInt8} {f : Dp.File} (hl : Dp.look M l = some f) :
    ∃ a1 c1 a2 c2, At d mb w l (fileV a1 c1 a2 c2 f) ∧ Bs lo w a1 f.bytes c1 ∧ Bs lo w a2 f.safe c2 := by
  obtain ⟨D, ho, ht⟩ := hd.own
  obtain ⟨a1, c1, a2, c2, h1, h2, h3⟩ := looks_hit ht hl
  exact ⟨a1, c1, a2, c2, ⟨hd.names_lt.1, hd.cell0, _, D, ho, h1⟩, h2, h3⟩

set_option maxHeartbeats 1000000 in
set_option maxRecDepth 100000 in
theorem find_hit {d mb : Nat} (n : ByteArray) (a1 : Option Addr) (n1 c1 : Nat) (a2 : Option Addr) (n2 c2 : Nat) (k : Bool) (w : World) (ha : At d mb w n.data.toList (.agg #[.slice a1 n1 c1, .slice a2 n2 c2, .bool k])) (hs : n.size ≤ maxLen) (hg : DiskA.gd n.data.toList = true) :
    Calls Tryd.prog 74 #[.pointer (some ⟨d, 0, none⟩), .string n] w fun e w' => e = .returned (.tuple #[.agg #[.slice a1 n1 c1, .slice a2 n2 c2, .bool k], .nilIface]) ∧ Below w.heap.size w w' := by
  obtain ⟨hdl, c0, m, D, ho, hL⟩ := ha
  go_enter Tryd.func74, Tryd.ntmps74
  go_wp2_with (first
    | (go_at_call 72; refine (DiskA.good n _).mono ?_; rintro e w' ⟨rfl, rfl⟩)
    | (at_lookup; refine wpList_look rfl _ _ rfl rfl (ho.alloc _) n rfl hs hL ?_))
  refine bodyPost_ret (v := .tuple #[.agg #[.slice a1 n1 c1, .slice a2 n2 c2, .bool k], .nilIface]) (by simp [results, Tryd.results74, go_sem]) rfl ⟨rfl, ?_⟩
  exact ((Below.refl _ w).alloc (Nat.le_refl _) _).alloc (by simp) _

set_option maxHeartbeats 1000000 in
set_option maxRecDepth 100000 in
theorem new0 (w : World) : Calls Tryd.prog 34 #[] w fun e w' => e = .returned (.pointer (some ⟨w.heap.size + 1, 0, none⟩)) ∧ w' = (w.alloc (.map #[] 0)).alloc (.cells #[.map (some w.heap.size), .bool false, .int .i64 0] 128) := by
  have hmm := @run_makeMap Tryd.prog
  go_enter Tryd.func34, Tryd.ntmps34
  go_wp2
  go_ret
  exact ⟨rfl, rfl⟩
/-- a new drive -/
theorem new (w : World) (ht : top < w.heap.size) : Calls Tryd.prog 34 #[] w fun e w' => e = .returned (.pointer (some ⟨w.heap.size + 1, 0, none⟩)) ∧ Drive (w.heap.size + 2) (w.heap.size + 1) w.heap.size w' [] false 0 ∧ Below w.heap.size w w' := by
  refine (new0 w).mono ?_
  rintro e w' ⟨rfl, rfl⟩
  refine ⟨rfl, ⟨by omega, ht, by omega, by omega, by omega, by simp, ?_, .map [], ?_, Dp.Tie.empty _⟩, ((Below.refl _ w).alloc (Nat.le_refl _) _).alloc (by simp) _⟩
  · have := heap_alloc_new (w.alloc (.map #[] 0)) (.cells #[.map (some w.heap.size), .bool false, .int .i64 0] 128)
    rw [World.size_alloc] at this
    exact this
  · exact (World.ownsMap_made w _ _ _).alloc _

/-- what a look-up in the drive's map gives, and what may be stored there -/
structure Holds (d mb : Nat) (w : World) (M : Dp.Files) (l : List UInt8) (v : Value) (there : Bool) : Prop where
  lt : d < w.heap.size
  cell : w.cell? ⟨d, 0, none⟩ = some (.map (some mb))
  look : ∃ D, w.ownsMap Tryd.prog 9 rd mb M.length D ∧ Looks D l v there

theorem region_tail {id : Nat} {Q : Exit → Act → World → Prop} {a : Act} {w : World} {l : List Oper} (n : Nat) (hB : Region.lexTailB .any l.toArray n = true)
    (h : wpStill Tryd.prog l.toArray w.drew (fun a' => wpList Tryd.prog l.toArray Q (l.drop n) a' w.drew) (l.take n) a) : (Code.region id l.toArray true).wp Tryd.prog Q a w :=
  wp_region_still_tail n (by kernel_rfl) hB h

/-- a file's box, and the drive's cell, behind a call that made memory -/
theorem boxed {w w1 : World} {v0 v1 v2 : Value} {t : TypeId} (hb : Below (w.alloc (.cells #[v0, v1, v2] t)).heap.size (w.alloc (.cells #[v0, v1, v2] t)) w1) :
    (w1.cell? ⟨w.heap.size, 0, none⟩ = some v0 ∧ w1.cell? ⟨w.heap.size, 1, none⟩ = some v1 ∧ w1.cell? ⟨w.heap.size, 2, none⟩ = some v2) ∧ (∀ i, w1.frozen? ⟨w.heap.size, i, none⟩ = false) ∧ w.heap.size < w1.heap.size ∧ Below w.heap.size w w1 := by
  have h : w1.heap[w.heap.size]? = some (.cells #[v0, v1, v2] t (0, 0)) := (hb.block _ (by simp)).trans (heap_alloc_new _ _)
  refine ⟨⟨?_, ?_, ?_⟩, fun i => Lib.frozen_of_heap h i, by have := hb.size; simp at this; omega, ((Below.refl _ w).alloc (Nat.le_refl _) _).trans (hb.mono (by simp))⟩
  all_goals (rw [Lib.cell_of_heap h]; rfl)

theorem write_keep {w w1 w2 : World} {mb : Nat} {v : Value} (hb : Below w.heap.size w w1) (ht : (w1.setCell ⟨w.heap.size, 0, none⟩ v).drew.mapTurned w2 mb) : Keep [mb] w w2 := by
  have h1 : Keep [mb] w (w1.setCell ⟨w.heap.size, 0, none⟩ v).drew := ((Keep.of_below hb _).setCell (.inr (Nat.le_refl _)) _).drew
  exact h1.trans (Keep.of_turned ht)
theorem write_end {w w1 w2 : World} {x : Obj} {mb : Nat} {v : Value} {a : Option Addr} {l : List UInt8} {c : Nat} (hbs : Bs (w.alloc x).heap.size w1 a l c) (hm : mb < w.heap.size)
    (ht : (w1.setCell ⟨w.heap.size, 0, none⟩ v).drew.mapTurned w2 mb) : Bs w.heap.size w2 a l c := by
  have h1 : Keep [w.heap.size, mb] w1 (w1.setCell ⟨w.heap.size, 0, none⟩ v).drew := ((Keep.refl _ w1).setCell (.inl (by simp)) _).drew
  have h2 : Keep [w.heap.size, mb] w1 w2 := h1.trans ((Keep.of_turned ht).mono (by simp))
  exact (hbs.keep h2 (by simp; omega)).lower (by simp)

set_option maxHeartbeats 2000000 in
set_option maxRecDepth 100000 in
theorem write0 {d mb m : Nat} {D : DataW Value} (n : ByteArray) (a : Option Addr) (l : List UInt8) (c : Nat) (a1 : Option Addr) (n1 c1 : Nat) (a2 : Option Addr) (n2 c2 : Nat) (k : Bool) (there : Bool) (w : World)
    (hdl : d < w.heap.size) (c0 : w.cell? ⟨d, 0, none⟩ = some (.map (some mb))) (f0 : w.cell? ⟨d, 1, none⟩ = some (.bool false)) (ho : w.ownsMap Tryd.prog 9 rd mb m D) (hm : Maps.size D = m) (hL : Looks D n.data.toList (.agg #[.slice a1 n1 c1, .slice a2 n2 c2, .bool k]) there)
    (hs : n.size ≤ maxLen) (hg : DiskA.gd n.data.toList = true) (hroom : there = false → m < 512) (hl : l.length ≤ 140737488351232) (hb : Bs 0 w a l c) (hmx : m < 4294967296) :
    Calls Tryd.prog 35 #[.pointer (some ⟨d, 0, none⟩), .string n, .slice a l.length c] w fun e w' => e = .returned .nilIface ∧
      ∃ a' c', Bs w.heap.size w' a' l c' ∧ w'.ownsMap Tryd.prog 9 rd mb (m + 1) (D.put (.string n.data.toList) (.held (.agg #[.slice a' l.length c', .slice a2 n2 c2, .bool k]))) ∧ Keep [mb] w w' := by
  have hlen : ∀ x ty, (Builtin.len_ #[126] ty #[.map (some mb)]).run Tryd.prog (w.alloc x) = .ok (.int .i64 m) (w.alloc x) := fun x ty => by rw [(ho.alloc x).len Tryd.underlying126 ty, hm]
  have HM := Lib.hid hm; clear hm
  cases there
  · have hr : decide ((512 : Int) ≤ (m : Int)) = false := by have := hroom rfl; simp; omega
    clear hroom
    go_enter Tryd.func35, Tryd.ntmps35
    go_wp2_with (first
      | (go_at_call 72; refine (DiskA.good n _).mono ?_; rintro e w' ⟨rfl, rfl⟩)
      | (go_at_call 73; refine (DiskA.clone a l c _ hl (hb.below ((Below.refl _ w).alloc (Nat.le_refl _) _))).mono ?_; rintro e w1 ⟨⟨a', c', rfl, hbs⟩, hbel⟩; obtain ⟨⟨q0, q1, q2⟩, qf, qz, qb⟩ := boxed hbel; have c0' := (qb.cell (p := ⟨d, 0, none⟩) hdl).trans c0)
      | (at_lookup; refine wpList_look rfl _ _ rfl rfl ho n rfl hs hL ?_))
    refine region_tail 6 (by kernel_rfl) ?_
    simp only [List.take_succ_cons, List.take_zero, List.drop_succ_cons, List.drop_zero]
    repeat still_step
    refine wpStill_nil ?_
    go_wp2_with (at_mapUpdate; refine wpList_store rfl _ _ _ rfl rfl (((ownsMap_below ho qb).setCell (by simp; have := ho.lt; omega) _).drew) hmx n rfl hs _ rfl ?_; intro w2 ho2 ht2)
    go_ret
    exact ⟨rfl, a', c', write_end hbs ho.lt ht2, ho2, write_keep qb ht2⟩
  · clear hroom
    go_enter Tryd.func35, Tryd.ntmps35
    go_wp2_with (first
      | (go_at_call 72; refine (DiskA.good n _).mono ?_; rintro e w' ⟨rfl, rfl⟩)
      | (go_at_call 73; refine (DiskA.clone a l c _ hl (hb.below ((Below.refl _ w).alloc (Nat.le_refl _) _))).mono ?_; rintro e w1 ⟨⟨a', c', rfl, hbs⟩, hbel⟩; obtain ⟨⟨q0, q1, q2⟩, qf, qz, qb⟩ := boxed hbel; have c0' := (qb.cell (p := ⟨d, 0, none⟩) hdl).trans c0)
      | (at_lookup; refine wpList_look rfl _ _ rfl rfl ho n rfl hs hL ?_))
    refine region_tail 6 (by kernel_rfl) ?_
    simp only [List.take_succ_cons, List.take_zero, List.drop_succ_cons, List.drop_zero]
    repeat still_step
    refine wpStill_nil ?_
    go_wp2_with (at_mapUpdate; refine wpList_store rfl _ _ _ rfl rfl (((ownsMap_below ho qb).setCell (by simp; have := ho.lt; omega) _).drew) hmx n rfl hs _ rfl ?_; intro w2 ho2 ht2)
    go_ret
    exact ⟨rfl, a', c', write_end hbs ho.lt ht2, ho2, write_keep qb ht2⟩

set_option maxHeartbeats 2000000 in
set_option maxRecDepth 100000 in
theorem write_bad (d : Value) (n : ByteArray) (b : Value) (w : World) {aN aF aG : Addr} (he : Errs w aN aF aG) (hg : DiskA.gd n.data.toList = false) :
    Calls Tryd.prog 35 #[d, .string n, b] w fun e w' => e = .returned (ev aN) ∧ w = w' := by
  have hn := he.name
  go_enter Tryd.func35, Tryd.ntmps35
  go_wp2_with (go_at_call 72; refine (DiskA.good n _).mono ?_; rintro e w' ⟨rfl, rfl⟩)
  go_ret
  exact ⟨rfl, rfl⟩

set_option maxHeartbeats 2000000 in
set_option maxRecDepth 100000 in
theorem write_full {d mb m : Nat} {D : DataW Value} (n : ByteArray) (b : Value) (a1 : Option Addr) (n1 c1 : Nat) (a2 : Option Addr) (n2 c2 : Nat) (k : Bool) (there full : Bool) (w : World) {aN aF aG : Addr} (he : Errs w aN aF aG)
    (hdl : d < w.heap.size) (c0 : w.cell? ⟨d, 0, none⟩ = some (.map (some mb))) (f0 : w.cell? ⟨d, 1, none⟩ = some (.bool full)) (ho : w.ownsMap Tryd.prog 9 rd mb m D) (hm : Maps.size D = m) (hL : Looks D n.data.toList (.agg #[.slice a1 n1 c1, .slice a2 n2 c2, .bool k]) there)
    (hs : n.size ≤ maxLen) (hg : DiskA.gd n.data.toList = true) (hroom : full = true ∨ (there = false ∧ 512 ≤ m)) (hmx : m < 4294967296) :
    Calls Tryd.prog 35 #[.pointer (some ⟨d, 0, none⟩), .string n, b] w fun e w' => e = .returned (ev aF) ∧ Below w.heap.size w w' := by
  have hlen : ∀ x ty, (Builtin.len_ #[126] ty #[.map (some mb)]).run Tryd.prog (w.alloc x) = .ok (.int .i64 m) (w.alloc x) := fun x ty => by rw [(ho.alloc x).len Tryd.underlying126 ty, hm]
  have HM := Lib.hid hm; clear hm
  have hn := he.full
  have hlt := World.block_lt_of_cell? w _ hn
  simp only at hlt
  have hn' : ∀ x, (w.alloc x).cell? ⟨2, 0, none⟩ = some (.iface 233 (.pointer (some aF))) := fun x => (World.cell?_alloc_lt w x _ hlt).trans hn
  cases full
  · obtain ⟨rfl, hr0⟩ : there = false ∧ 512 ≤ m := by simpa using hroom
    have hr : decide ((512 : Int) ≤ (m : Int)) = true := by simp; omega
    clear hroom hr0
    go_enter Tryd.func35, Tryd.ntmps35
    go_wp2_with (first
      | (go_at_call 72; refine (DiskA.good n _).mono ?_; rintro e w' ⟨rfl, rfl⟩)
      | (at_lookup; refine wpList_look rfl _ _ rfl rfl ho n rfl hs hL ?_))
    go_ret
    exact ⟨rfl, (Below.refl _ w).alloc (Nat.le_refl _) _⟩
  · clear hroom
    go_enter Tryd.func35, Tryd.ntmps35
    go_wp2_with (first
      | (go_at_call 72; refine (DiskA.good n _).mono ?_; rintro e w' ⟨rfl, rfl⟩)
      | (at_lookup; refine wpList_look rfl _ _ rfl rfl ho n rfl hs hL ?_))
    go_ret
    exact ⟨rfl, (Below.refl _ w).alloc (Nat.le_refl _) _⟩

/-- Write -/
theorem write {lo d mb : Nat} {M : Dp.Files} {full : Bool} {lost : Int} (n : ByteArray) (a : Option Addr) (l : List UInt8) (c : Nat) (w : World) {aN aF aG : Addr} (hd : Drive lo d mb w M full lost) (he : Errs w aN aF aG)
    (hs : n.size ≤ maxLen) (hl : l.length ≤ 140737488351232) (hb : Bs 0 w a l c) (hmx : M.length < 4294967296) :
    Calls Tryd.prog 35 #[.pointer (some ⟨d, 0, none⟩), .string n, .slice a l.length c] w fun e w' => e = .returned (erv aN aF aG (wrE M full n.data.toList)) ∧ Drive lo d mb w' (wrM M full n.data.toList l) full lost ∧ Keep [mb] w w' := by
  cases hg : DiskA.gd n.data.toList
  · have h1 : wrE M full n.data.toList = .name := by simp [wrE, hg]
    refine (write_bad _ n _ w he hg).mono ?_
    rintro e w' ⟨rfl, rfl⟩
    exact ⟨by rw [h1]; rfl, by simpa [wrM, h1] using hd, Keep.refl _ _⟩
  · obtain ⟨D, ho, ht⟩ := hd.own
    have hz := ht.size
    obtain ⟨a1, c1, a2, c2, hL, _, hb2⟩ := looks_old ht n.data.toList
    by_cases hf : full = true ∨ ((Dp.look M n.data.toList).isSome = false ∧ 512 ≤ M.length)
    · have h1 : wrE M full n.data.toList = .full := by simp only [wrE, hg, if_true]; rw [if_pos hf]
      refine (write_full n _ a1 _ c1 a2 _ c2 _ _ full w he hd.names_lt.1 hd.cell0 hd.cell1 ho hz hL hs hg hf hmx).mono ?_
      rintro e w' ⟨rfl, hk⟩
      exact ⟨by rw [h1]; rfl, by simpa [wrM, h1] using hd.below hk, Keep.of_below hk _⟩
    · have h1 : wrE M full n.data.toList = .ok := by simp only [wrE, hg, if_true]; rw [if_neg hf]
      obtain rfl : full = false := by cases full <;> simp_all
      refine (write0 n a l c a1 _ c1 a2 _ c2 _ _ w hd.names_lt.1 hd.cell0 hd.cell1 ho hz hL hs hg (fun h0 => by simp [h0] at hf; exact hf) hl hb hmx).mono ?_
      rintro e w' ⟨rfl, a', c', hbs, ho', hk⟩
      refine ⟨by rw [h1]; rfl, ?_, hk⟩
      rw [wrM, if_pos h1]
      have hlo : ∀ k ∈ [mb], k < lo := by simp; exact hd.mlo
      exact hd.turned hk ho' ((ht.mono fun v f hf => hf.keep hk hlo).put ⟨a', c', a2, c2, rfl, hbs.lower hd.low, hb2.keep hk hlo⟩)
end Go.Proofs.YtmimkgfkicgfiaaDoor.DiskB
