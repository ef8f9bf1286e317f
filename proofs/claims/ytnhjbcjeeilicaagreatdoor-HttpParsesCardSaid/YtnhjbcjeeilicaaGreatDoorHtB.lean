/-
  The walk of package http's lower.
-/
import Derived.Test.YtnhjbcjeeilicaaGreatDoorHtW
import Derived.Lib.ConvBytes
import Derived.Lib.AtoiErrMem
import Derived.Deep.LoopGhost
namespace Go.Proofs.YtnhjbcjeeilicaaGreatDoor.HtB
open Go.RowKit Go.Proofs.YtnhjbcjeeilicaaGreatDoor Go.Proofs.YtnhjbcjeeilicaaGreatDoor.Ht Go.Proofs.YtnhjbcjeeilicaaGreatDoor.HtW

/-- a conversion's row holds the bytes l -/
def Row (w : World) (B : Nat) (l : List UInt8) : Prop :=
  ∃ (cur : Array Value) (n : Nat), w.heap[B]? = some (.cells cur 5 (n, n + 1)) ∧ l.length ≤ n ∧ cur.size = n ∧ ∀ (j : Nat) x, l[j]? = some x → cur[j]? = some (.int .u8 (x.toNat : Int))
theorem Row.cell {w : World} {B : Nat} {l : List UInt8} (h : Row w B l) {j : Nat} {x : UInt8} (hj : l[j]? = some x) : w.cell? ⟨B, j, none⟩ = some (.int .u8 (x.toNat : Int)) := by
  obtain ⟨cur, n, h1, h2, h3, h4⟩ := h
  simp [World.cell?, h1, h4 j x hj]
theorem Row.frozen {w : World} {B : Nat} {l : List UInt8} (h : Row w B l) {j : Nat} (hj : j < l.length) : w.frozen? ⟨B, j, none⟩ = false := by
  obtain ⟨cur, n, h1, h2, h3, h4⟩ := h
  simp [World.frozen?, h1]
  omega
theorem Row.put {w : World} {B : Nat} {l : List UInt8} (h : Row w B l) {k : Nat} (hk : k < l.length) (x : UInt8) : Row (w.setCell ⟨B, k, none⟩ (.int .u8 (x.toNat : Int))) B (l.set k x) := by
  obtain ⟨cur, n, h1, h2, h3, h4⟩ := h
  refine ⟨cur.setIfInBounds k (.int .u8 (x.toNat : Int)), n, ?_, by rw [List.length_set]; exact h2, by simp [h3], fun j y hy => ?_⟩
  · simp only [World.setCell, Array.getElem?_modify, if_true, h1]
    rfl
  · rw [List.getElem?_set] at hy
    rw [Array.getElem?_setIfInBounds]
    split
    · rename_i e
      subst e
      rw [if_pos (by omega)]
      rw [if_pos rfl, if_pos hk] at hy
      cases hy
      rfl
    · rename_i e
      rw [if_neg e] at hy
      exact h4 j y hy
theorem Row.start (w : World) (s : ByteArray) : Row (Lib.bytesWorld w 5 s) w.heap.size s.data.toList := by
  refine ⟨_, _, Lib.bytesWorld_at_new w 5 s, ?_, rfl, fun j x hj => ?_⟩
  · simp [Lib.bytesCells]
  · have hjl : j < s.size := by have := (List.getElem?_eq_some_iff.1 hj).1; rwa [Com.toList_length] at this
    have h := Lib.bytesWorld_cell w 5 s j hjl
    simp only [World.cell?, Lib.bytesWorld_at_new] at h
    rw [List.getD_eq_getElem?_getD, hj] at h
    simpa using h

/-- the name with k letters made small -/
def lpart (l : List UInt8) (k : Nat) : List UInt8 := (l.take k).map lc ++ l.drop k
theorem lpart_length (l : List UInt8) (k : Nat) : (lpart l k).length = l.length := by simp [lpart]; omega
theorem lpart_at {l : List UInt8} {k : Nat} (h : k < l.length) : (lpart l k)[k]? = some l[k] := by
  unfold lpart
  rw [List.getElem?_append_right (by simp; omega), List.length_map, List.length_take, Nat.min_eq_left (by omega), Nat.sub_self]
  simp [h]
theorem lpart_set {l : List UInt8} {k : Nat} (h : k < l.length) : (lpart l k).set k (lc l[k]) = lpart l (k + 1) := by
  unfold lpart
  rw [List.drop_eq_getElem_cons h, List.set_append_right _ _ (by simp; omega), List.length_map, List.length_take, Nat.min_eq_left (by omega), Nat.sub_self, List.set_cons_zero, List.take_add_one, List.getElem?_eq_getElem h]
  simp only [List.map_append, Option.toList_some, List.map_cons, List.map_nil, List.append_assoc, List.singleton_append]
theorem lpart_same {l : List UInt8} {k : Nat} (h : k < l.length) (e : lc l[k] = l[k]) : lpart l k = lpart l (k + 1) := by
  rw [← lpart_set h, e]
  refine (List.ext_getElem? fun j => ?_)
  rw [List.getElem?_set]
  split
  · rename_i e2
    subst e2
    rw [lpart_at h, if_pos (by rw [lpart_length]; exact h)]
  · rfl

theorem up_iff (c : UInt8) : upc c = true ↔ 65 ≤ c.toNat ∧ c.toNat ≤ 90 := by simp [upc, rng]; omega
theorem nm_iff (c : UInt8) : nmc c = true ↔ (65 ≤ c.toNat ∧ c.toNat ≤ 90) ∨ (97 ≤ c.toNat ∧ c.toNat ≤ 122) ∨ (48 ≤ c.toNat ∧ c.toNat ≤ 57) ∨ c.toNat = 45 := by
  have e : (c == 45) = true ↔ c.toNat = 45 := by
    rw [beq_iff_eq]
    exact ⟨fun h => by rw [h]; rfl, fun h => UInt8.toNat_inj.1 h⟩
  simp only [nmc, Bool.or_eq_true, e, up_iff]
  simp [rng]
  omega
theorem lc_up {c : UInt8} (h : 65 ≤ c.toNat ∧ c.toNat ≤ 90) : (lc c).toNat = c.toNat + 32 := by
  have : upc c = true := (up_iff c).2 h
  unfold lc
  rw [if_pos this, UInt8.toNat_add]
  have : (32 : UInt8).toNat = 32 := rfl
  rw [this]
  omega
theorem lc_no {c : UInt8} (h : ¬ (65 ≤ c.toNat ∧ c.toNat ≤ 90)) : lc c = c := by
  have : ¬ upc c = true := fun h2 => h ((up_iff c).1 h2)
  unfold lc
  rw [if_neg this]
theorem lower_no {l : List UInt8} {k : Nat} (h : k < l.length) (hn : nmc l[k] = false) : Ht.lower l = ([], false) := by
  unfold Ht.lower
  rw [if_neg (fun h2 => by have := List.all_eq_true.1 h2 _ (List.getElem_mem h); rw [hn] at this; cases this)]

end Go.Proofs.YtnhjbcjeeilicaaGreatDoor.HtB
