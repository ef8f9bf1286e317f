/-
  The walk of bollardnum's Num: the errors of package api by their numbers.
-/
import Derived.Test.YtnhjbcjeeilicaaGreatDoorProg
import Derived.Test.YtnhjbcjeeilicaaGreatDoorCom
import Derived.WalkKit
import Derived.Below
import Derived.LaidEql
import Derived.Deep.LoopGhost
import Derived.Stop.LaidErr
import Derived.Lib.Hide
namespace Go.Proofs.YtnhjbcjeeilicaaGreatDoor.Err
open Go.RowKit Go.Proofs.YtnhjbcjeeilicaaGreatDoor

abbrev ev (a : Addr) : Value := .iface 126 (.pointer (some a))
theorem infoErr : (Tryz.prog.info? 126).map (·.comparable) = some true := by kernel_rfl
theorem infoErr2 : (Tryz.prog.info? 128).map (·.size) = some 1 := by kernel_rfl
theorem eqErr (a : Addr) (w : World) : (binOp .eql 29 (ev a) (ev a)).run Tryz.prog w = .ok (.bool true) w := by
  obtain ⟨i, hi, hc⟩ := Option.map_eq_some_iff.1 infoErr
  obtain ⟨j, hj, _⟩ := Option.map_eq_some_iff.1 infoErr2
  exact run_eql_iface_ptr_same w a Tryz.underlying29 Tryz.underlying126 hi hc hj
theorem neErr {a b : Addr} {w : World} {ca cb : Array Value} {ta tb : TypeId} (hne : a ≠ b) (ha : w.heap[a.block]? = some (.cells ca ta (0, 0))) (hb : w.heap[b.block]? = some (.cells cb tb (0, 0))) : (binOp .eql 29 (ev a) (ev b)).run Tryz.prog w = .ok (.bool false) w := by
  obtain ⟨i, hi, hc⟩ := Option.map_eq_some_iff.1 infoErr
  obtain ⟨j, hj, hs⟩ := Option.map_eq_some_iff.1 infoErr2
  exact run_eql_iface_ptr_other w Tryz.underlying29 Tryz.underlying126 hi hc hj (by rw [hs]; decide) hne ha hb
/-- an error in its variable -/
structure Er (w : World) (g : Nat) (text : List UInt8) (a : Addr) : Prop where
  cell : w.cell? ⟨g, 0, none⟩ = some (ev a)
  text : ∃ s, w.cell? a = some (.string s) ∧ s.data.toList = text
  block : ∃ c t, w.heap[a.block]? = some (.cells c t (0, 0))
theorem Er.below {w w' : World} {g : Nat} {text : List UInt8} {a : Addr} (h : Er w g text a) (hb : Below w.heap.size w w') : Er w' g text a := by
  obtain ⟨s, h1, h2⟩ := h.text
  obtain ⟨c, t, h3⟩ := h.block
  exact ⟨(hb.cell (p := ⟨g, 0, none⟩) (World.block_lt_of_cell? w _ h.cell)).trans h.cell, ⟨s, (hb.cell (World.block_lt_of_cell? w _ h1)).trans h1, h2⟩, ⟨c, t, (hb.block _ (Array.getElem?_eq_some_iff.1 h3).1).trans h3⟩⟩
theorem Er.ne {w : World} {g g' : Nat} {text text' : List UInt8} {a a' : Addr} (h : Er w g text a) (h' : Er w g' text' a') (ht : text ≠ text') : a ≠ a' := by
  rintro rfl
  obtain ⟨s, h1, h2⟩ := h.text
  obtain ⟨s', h1', h2'⟩ := h'.text
  rw [h1] at h1'
  cases h1'
  exact ht (h2.symm.trans h2')
theorem Er.eq {w : World} {g : Nat} {text : List UInt8} {a a' : Addr} (h : Er w g text a) (h' : w.cell? ⟨g, 0, none⟩ = some (ev a')) : a' = a := by
  have := h'.symm.trans h.cell
  simpa using this

/-- the errors' texts, by number -/
def texts : List (List UInt8) := [[98, 111, 108, 108, 97, 114, 100, 58, 32, 112, 97, 114, 97, 109, 115], [98, 111, 108, 108, 97, 114, 100, 58, 32, 110, 117, 109, 98, 101, 114], [98, 111, 108, 108, 97, 114, 100, 58, 32, 100, 97, 116, 97], [98, 111, 108, 108, 97, 114, 100, 58, 32, 108, 111, 115, 116], [98, 111, 108, 108, 97, 114, 100, 58, 32, 98, 121, 116, 101, 115], [98, 111, 108, 108, 97, 114, 100, 58, 32, 100, 105, 103, 101, 115, 116], [98, 111, 108, 108, 97, 114, 100, 58, 32, 110, 97, 109, 101], [98, 111, 108, 108, 97, 114, 100, 58, 32, 103, 111, 110, 101], [98, 111, 108, 108, 97, 114, 100, 58, 32, 116, 104, 101, 114, 101], [98, 111, 108, 108, 97, 114, 100, 58, 32, 102, 117, 108, 108], [98, 111, 108, 108, 97, 114, 100, 58, 32, 108, 97, 114, 103, 101], [98, 111, 108, 108, 97, 114, 100, 58, 32, 98, 97, 108, 108, 111, 116], [98, 111, 108, 108, 97, 114, 100, 58, 32, 114, 101, 113, 117, 101, 115, 116], [98, 111, 108, 108, 97, 114, 100, 58, 32, 117, 114, 105], [98, 111, 108, 108, 97, 114, 100, 58, 32, 100, 101, 110, 105, 101, 100], [98, 111, 108, 108, 97, 114, 100, 58, 32, 115, 107, 101, 119], [98, 111, 108, 108, 97, 114, 100, 58, 32, 109, 101, 116, 104, 111, 100], [98, 111, 108, 108, 97, 114, 100, 58, 32, 115, 116, 97, 116, 101]]
theorem texts_inj : ∀ i, i < 18 → ∀ j, j < 18 → texts[i]? = texts[j]? → i = j := by decide +kernel
/-- the errors' variables, by number -/
def vars : List Nat := [1, 2, 3, 4, 5, 6, 7, 8, 9, 10, 0, 11, 12, 13, 14, 15, 16, 17]
/-- all of them -/
structure All (w : World) (es : List Addr) : Prop where
  len : es.length = 18
  er : ∀ (i : Nat) (t : List UInt8) (g : Nat) (a : Addr), texts[i]? = some t → vars[i]? = some g → es[i]? = some a → Er w g t a
theorem All.below {w w' : World} {es : List Addr} (h : All w es) (hb : Below w.heap.size w w') : All w' es := ⟨h.len, fun i t g a h1 h2 h3 => (h.er i t g a h1 h2 h3).below hb⟩
theorem All.at {w : World} {es : List Addr} (h : All w es) {i : Nat} (hi : i < 18) : ∃ t g a, texts[i]? = some t ∧ vars[i]? = some g ∧ es[i]? = some a ∧ Er w g t a := by
  have h1 : i < texts.length := hi
  have h2 : i < vars.length := hi
  have h3 : i < es.length := by rw [h.len]; exact hi
  exact ⟨_, _, _, List.getElem?_eq_getElem h1, List.getElem?_eq_getElem h2, List.getElem?_eq_getElem h3, h.er i _ _ _ (List.getElem?_eq_getElem h1) (List.getElem?_eq_getElem h2) (List.getElem?_eq_getElem h3)⟩
theorem All.ne {w : World} {es : List Addr} (h : All w es) {i j : Nat} (hi : i < 18) (hj : j < 18) (hij : i ≠ j) {a b : Addr} (ha : es[i]? = some a) (hb : es[j]? = some b) : a ≠ b := by
  obtain ⟨t, g, a', h1, h2, h3, h4⟩ := h.at hi
  obtain ⟨t', g', b', h1', h2', h3', h4'⟩ := h.at hj
  rw [ha] at h3; cases h3
  rw [hb] at h3'; cases h3'
  refine h4.ne h4' fun e => hij ?_
  subst e
  exact texts_inj i hi j hj (h1.trans h1'.symm)

set_option maxHeartbeats 1000000 in
set_option maxRecDepth 100000 in
theorem num_nil (w : World) : Calls Tryz.prog 9 #[.nilIface] w fun e w' => e = .returned (.int .i64 0) ∧ w = w' := by
  go_enter Tryz.func9, Tryz.ntmps9
  go_wp2
  go_ret
  exact ⟨rfl, rfl⟩

set_option maxHeartbeats 4000000 in
set_option maxRecDepth 100000 in
theorem num (w : World) {es : List Addr} (h : All w es) (k : Nat) (hk : k < 18) {a : Addr} (ha : es[k]? = some a) : Calls Tryz.prog 9 #[ev a] w fun e w' => e = .returned (.int .i64 (k + 1 : Nat)) ∧ Below w.heap.size w w' := by
  have HA := Lib.hid h
  obtain ⟨a0, a1, a2, a3, a4, a5, a6, a7, a8, a9, a10, a11, a12, a13, a14, a15, a16, a17, rfl⟩ : ∃ a0 a1 a2 a3 a4 a5 a6 a7 a8 a9 a10 a11 a12 a13 a14 a15 a16 a17, es = [a0, a1, a2, a3, a4, a5, a6, a7, a8, a9, a10, a11, a12, a13, a14, a15, a16, a17] := by
    have hl := h.len
    match es, hl with
    | [a0, a1, a2, a3, a4, a5, a6, a7, a8, a9, a10, a11, a12, a13, a14, a15, a16, a17], _ => exact ⟨a0, a1, a2, a3, a4, a5, a6, a7, a8, a9, a10, a11, a12, a13, a14, a15, a16, a17, rfl⟩
  have c0 := (h.er 0 _ _ _ rfl rfl rfl).cell
  have c1 := (h.er 1 _ _ _ rfl rfl rfl).cell
  have c2 := (h.er 2 _ _ _ rfl rfl rfl).cell
  have c3 := (h.er 3 _ _ _ rfl rfl rfl).cell
  have c4 := (h.er 4 _ _ _ rfl rfl rfl).cell
  have c5 := (h.er 5 _ _ _ rfl rfl rfl).cell
  have c6 := (h.er 6 _ _ _ rfl rfl rfl).cell
  have c7 := (h.er 7 _ _ _ rfl rfl rfl).cell
  have c8 := (h.er 8 _ _ _ rfl rfl rfl).cell
  have c9 := (h.er 9 _ _ _ rfl rfl rfl).cell
  have c10 := (h.er 10 _ _ _ rfl rfl rfl).cell
  have c11 := (h.er 11 _ _ _ rfl rfl rfl).cell
  have c12 := (h.er 12 _ _ _ rfl rfl rfl).cell
  have c13 := (h.er 13 _ _ _ rfl rfl rfl).cell
  have c14 := (h.er 14 _ _ _ rfl rfl rfl).cell
  have c15 := (h.er 15 _ _ _ rfl rfl rfl).cell
  have c16 := (h.er 16 _ _ _ rfl rfl rfl).cell
  have c17 := (h.er 17 _ _ _ rfl rfl rfl).cell
  have HAT := Lib.hid ha
  clear h ha
  go_enter Tryz.func9, Tryz.ntmps9
  go_wp2
  have hal : Below w.heap.size w (w.alloc (.cells #[ev a0, ev a1, ev a2, ev a3, ev a4, ev a5, ev a6, ev a7, ev a8, ev a9, ev a10, ev a11, ev a12, ev a13, ev a14, ev a15, ev a16, ev a17] 29)) := (Below.refl _ _).alloc (Nat.le_refl _) _
  have hcell : ∀ (j : Nat) (b : Addr), [a0, a1, a2, a3, a4, a5, a6, a7, a8, a9, a10, a11, a12, a13, a14, a15, a16, a17][j]? = some b → (w.alloc (.cells #[ev a0, ev a1, ev a2, ev a3, ev a4, ev a5, ev a6, ev a7, ev a8, ev a9, ev a10, ev a11, ev a12, ev a13, ev a14, ev a15, ev a16, ev a17] 29)).cell? ⟨w.heap.size, j, none⟩ = some (ev b) := by
    intro j b hj
    rw [Lib.cell_of_heap (heap_alloc_new _ _), show (#[ev a0, ev a1, ev a2, ev a3, ev a4, ev a5, ev a6, ev a7, ev a8, ev a9, ev a10, ev a11, ev a12, ev a13, ev a14, ev a15, ev a16, ev a17] : Array Value) = ([a0, a1, a2, a3, a4, a5, a6, a7, a8, a9, a10, a11, a12, a13, a14, a15, a16, a17].map ev).toArray from rfl, List.getElem?_toArray, List.getElem?_map, hj]
    rfl
  have HC := Lib.hid hcell
  have HB := Lib.hid hal
  clear hcell hal
  generalize w.alloc (.cells #[ev a0, ev a1, ev a2, ev a3, ev a4, ev a5, ev a6, ev a7, ev a8, ev a9, ev a10, ev a11, ev a12, ev a13, ev a14, ev a15, ev a16, ev a17] 29) = W at *
  have HL := Lib.hid (show [a0, a1, a2, a3, a4, a5, a6, a7, a8, a9, a10, a11, a12, a13, a14, a15, a16, a17].length = 18 from rfl)
  generalize [a0, a1, a2, a3, a4, a5, a6, a7, a8, a9, a10, a11, a12, a13, a14, a15, a16, a17] = es at *
  go_loopg [29] k (fun g v wr => ∃ j : Nat, j + g = k ∧ v = .int .i64 j ∧ wr = W)
  case atStart => exact ⟨0, by omega, rfl, rfl⟩
  case round =>
    obtain ⟨j, hj, rfl, rfl⟩ := hrel
    have HG := Lib.hid hj
    have hjk : j ≤ k := by omega
    clear hj
    have z0 : (0 : Int) ≤ j := by omega
    have z1 : (j : Int) < 18 := by omega
    by_cases hlt : j < k
    · obtain ⟨b, hb⟩ : ∃ b, es[j]? = some b := ⟨es[j]'(by rw [HL.out]; omega), List.getElem?_eq_getElem _⟩
      have cb := HC.out j b hb
      have hne := HA.out.ne (i := k) (j := j) (by omega) (by omega) (by omega) HAT.out hb
      obtain ⟨_, _, a', _, _, h3, h4⟩ := HA.out.at (i := k) (by omega)
      obtain ⟨_, _, b', _, _, h3', h4'⟩ := HA.out.at (i := j) (by omega)
      rw [HAT.out] at h3; cases h3
      rw [hb] at h3'; cases h3'
      obtain ⟨ca, ta, ha⟩ := (h4.below HB.out).block
      obtain ⟨cb', tb, hbb⟩ := (h4'.below HB.out).block
      have heq := neErr hne ha hbb
      clear hne h4 h4' ha hbb hb
      go_wp2_with fail
      go_roundg (k - (j + 1))
      case measure => have := HG.out; omega
      case rel => exact ⟨j + 1, by omega, by go_num, rfl⟩
    · obtain rfl : j = k := by omega
      have cb := HC.out j a HAT.out
      have heq := eqErr a wr
      go_wp2_with fail
      go_ret
      exact ⟨rfl, HB.out⟩
end Go.Proofs.YtnhjbcjeeilicaaGreatDoor.Err
