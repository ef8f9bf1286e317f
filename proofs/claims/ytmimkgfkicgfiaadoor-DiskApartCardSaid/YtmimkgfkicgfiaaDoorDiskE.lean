/-
  The walk of package disk's names.
-/
import Derived.Test.YtmimkgfkicgfiaaDoorDiskD
import Derived.Test.YtmimkgfkicgfiaaDoorIter
import Derived.OwnWalkIn
import Derived.TacticsInMore
namespace Go.Proofs.YtmimkgfkicgfiaaDoor.DiskE
open Go.RowKit Go.Proofs.YtmimkgfkicgfiaaDoor Go.Proofs.YtmimkgfkicgfiaaDoor.Dw Go.Proofs.YtmimkgfkicgfiaaDoor.DiskB Go.Proofs.YtmimkgfkicgfiaaDoor.DiskC Go.Maps Go.Sort

set_option maxHeartbeats 2000000 in
set_option maxRecDepth 100000 in
theorem names0 {d b nn : Nat} {D0 : DataW Value} (w : World) (c0 : w.cell? ⟨d, 0, none⟩ = some (.map (some b))) (hown : w.ownsMap Tryd.prog 9 rd b nn D0) (hmax : Maps.size D0 ≤ maxLen) (hbytes : Maps.size D0 * 16 ≤ 140737488355328) :
    Calls Tryd.prog 75 #[.pointer (some ⟨d, 0, none⟩)] w fun e w' => ∃ (v : Value) (ss : List (List UInt8)), e = .returned v ∧ ss.Perm (strKeys D0) ∧ w'.ownsRow w.heap.size 9 1 v ss.length ((ss.mergeSort (fun x y => decide (x ≤ y))).map Go.Proofs.encStr) ∧ Below w.heap.size w w' := by
  refine (callsIn_wide (n := 6)).1 ?_
  have hfK : Fence.wide.fn 111 := trivial
  have hfS : Fence.wide.fn 110 := trivial
  refine callsIn_of_wp Tryd.func75 rfl trivial ?_ rfl
  simp only [Tryd.ntmps75, List.size_toArray, List.length_cons, List.length_nil, Nat.reduceAdd, Nat.reduceSub, Array.replicate_succ, Array.replicate_zero, List.push_toArray, List.append_toArray, List.nil_append, List.cons_append]
  gi_wp2_with (first
    | (gi_at_call 111; refine (Tryd.maps_Keys_111 _ _).mono ?_; rintro e w' ⟨rfl, rfl⟩)
    | (gi_at_call 110; refine (Tryd.slices_Sorted_keys_110_111 b nn D0 rd w hown hmax hbytes).mono ?_; rintro e w' ⟨v, ss, rfl, hS, hrow, hnil, hb⟩))
  go_ret
  exact ⟨v, ss, rfl, hS, ownsRow_base_a hrow (by simp), ((Below.refl _ w).alloc (Nat.le_refl _) _).trans (hb.mono (by simp))⟩

/-- names -/
theorem names {lo d mb : Nat} {M : Dp.Files} {full : Bool} {lost : Int} (w : World) (hd : Drive lo d mb w M full lost) (hmx : M.length ≤ 4294967296) :
    Calls Tryd.prog 75 #[.pointer (some ⟨d, 0, none⟩)] w fun e w' => (∃ a c, e = .returned (.slice a M.length c) ∧ Ns w.heap.size w' a (Dp.names M)) ∧ Below w.heap.size w w' := by
  obtain ⟨D, ho, ht⟩ := hd.own
  refine (names0 w hd.cell0 ho (by rw [ht.size]; unfold maxLen; omega) (by rw [ht.size]; omega)).mono ?_
  rintro e w' ⟨v, ss, rfl, hp, hrow, hb⟩
  obtain ⟨es, rfl, hko⟩ := ho.keysOf
  have hs := ht.sorted (fun p hp' => by obtain ⟨v, hv⟩ := hko p hp'; obtain ⟨x, _, hx, _⟩ := Maps.keyOf_str Tryd.underlying9 hv; exact ⟨x, hx⟩) hp
  rw [hs] at hrow
  have hl : ss.length = (Dp.names M).length := by rw [← hs, List.length_mergeSort]
  rw [hl] at hrow
  obtain ⟨a, c, rfl, hn⟩ := ns_of_own hrow
  exact ⟨⟨a, c, by simp [Dp.names], hn⟩, hb⟩
end Go.Proofs.YtmimkgfkicgfiaaDoor.DiskE
