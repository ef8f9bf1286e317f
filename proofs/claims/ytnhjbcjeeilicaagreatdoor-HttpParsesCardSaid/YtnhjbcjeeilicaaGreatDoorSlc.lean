/-
  A slice of a slice, with no parting on its capacity: the new spot is told under its condition.
-/
import Derived.Test.YtnhjbcjeeilicaaGreatDoorProg
import Derived.Laws.Slices
import Derived.WalkKit
import Derived.Lib.Hide
namespace Go.Proofs.YtnhjbcjeeilicaaGreatDoor.Slc
open Go.RowKit Go.Proofs.YtnhjbcjeeilicaaGreatDoor

theorem sized {t : TypeId} {s : Nat} {P : Program} (hs : ∀ W, (sizeOf (P.elem t)).run P W = .ok s W) : ∀ W, (sizeOf (P.elem t)).run P W = .ok s W := hs
theorem addr_if (g o l s : Nat) (p : Prop) [Decidable p] : (if p then (some ⟨g, o, none⟩ : Option Addr) else (some ⟨g, o, none⟩ : Option Addr).map (·.add (l * s))) = some ⟨g, if p then o else o + l * s, none⟩ := by
  by_cases h : p
  · rw [if_pos h, if_pos h]
  · rw [if_neg h, if_neg h]
    simp only [Option.map_some, Option.some.injEq]
    unfold Addr.add
    split <;> simp_all
/-- x[l:] -/
theorem cut_from {P : Program} {t : TypeId} (ht : P.underlying t = some (.slice (P.elem t))) {s : Nat} (hs : ∀ W, (sizeOf (P.elem t)).run P W = .ok s W) (g o n c l : Nat) (z : Int) (hz : z = l) (h : l ≤ n) :
    ∃ o', (l < c → o' = o + l * s) ∧ ∀ W, (Instr.sliceAt t (.slice (some ⟨g, o, none⟩) n c) (some (.int .i64 z)) none none).run P W = .ok (.slice (some ⟨g, o', none⟩) (n - l) (c - l)) W := by
  subst hz
  refine ⟨if c = l then o else o + l * s, fun h => if_neg (by omega), fun W => ?_⟩
  rw [run_sliceAt_slice W t _ _ _ _ ht, run_slice_l W t _ n c ht .i64 l (by omega) (by omega), hs]
  simp only [Result.andThen, sliced, Int.toNat_natCast, addr_if]
/-- x[l:h] -/
theorem cut_mid {P : Program} {t : TypeId} (ht : P.underlying t = some (.slice (P.elem t))) {s : Nat} (hs : ∀ W, (sizeOf (P.elem t)).run P W = .ok s W) (g o n c l k : Nat) (z y : Int) (hz : z = l) (hy : y = l + k) (h : l + k ≤ c) :
    ∃ o', (l < c → o' = o + l * s) ∧ ∀ W, (Instr.sliceAt t (.slice (some ⟨g, o, none⟩) n c) (some (.int .i64 z)) (some (.int .i64 y)) none).run P W = .ok (.slice (some ⟨g, o', none⟩) k (c - l)) W := by
  subst hz hy
  refine ⟨if c = l then o else o + l * s, fun h => if_neg (by omega), fun W => ?_⟩
  rw [run_sliceAt_slice W t _ _ _ _ ht, run_slice_lh W t _ n c ht .i64 .i64 l (l + k) (by omega) (by omega) (by omega), hs]
  have e : ((l : Int) + (k : Int)).toNat = l + k := by omega
  simp only [Result.andThen, sliced, Int.toNat_natCast, e, addr_if, Nat.add_sub_cancel_left]
end Go.Proofs.YtnhjbcjeeilicaaGreatDoor.Slc
