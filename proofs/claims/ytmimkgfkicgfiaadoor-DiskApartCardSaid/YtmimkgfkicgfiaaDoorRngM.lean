/-
  A function with many ranges over iterators in a loop: each leaves a mark among its deferred calls; the way out takes them all.
-/
import Derived.Test.YtmimkgfkicgfiaaDoorRng
import Derived.RangeFuncLeaves
import Derived.RangeFuncRecord
namespace Go.Proofs.YtmimkgfkicgfiaaDoor.RngM
open Go.RowKit

abbrev mark (D : Nat) : Deferred := { target := .collected D, args := #[] }
def marks (Ds : List Nat) : List Deferred := Ds.map mark
theorem marks_cons (D : Nat) (Ds : List Nat) : mark D :: marks Ds = marks (D :: Ds) := rfl

/-- nothing has turned but the blocks of Ds -/
def Shut (Ds : List Nat) (w w' : World) : Prop := w'.os = w.os ∧ w'.tape = w.tape ∧ w'.output = w.output ∧ w'.heap.size = w.heap.size ∧ ∀ k, k ∉ Ds → w'.heap[k]? = w.heap[k]?

variable {P : Program} {F : Fence} {n : Nat}
/-- the way out: all marks are taken -/
theorem leaves {fn : Func} {tmps : Array Value} {R : Ending → World → Prop} : ∀ (Ds : List Nat) (w : World), Ds.Nodup → (∀ D ∈ Ds, w.heap[D]? = some (.deferred (some []))) →
    (∀ w', Shut Ds w w' → ∃ v, (results fn tmps).run P w' = .ok v w' ∧ R (.returned v) w') → LeavesInM F n P fn tmps R (marks Ds) .returning w := by
  intro Ds
  induction Ds with
  | nil =>
    intro w _ _ h
    exact h w ⟨rfl, rfl, rfl, rfl, fun _ _ => rfl⟩
  | cons D Ds ih =>
    intro w hn hd h
    obtain ⟨h1, h2⟩ := List.nodup_cons.1 hn
    have hD := hd D List.mem_cons_self
    refine ⟨by simp, .inl ⟨D, _, rfl, run_takeDeferred hD, ?_⟩⟩
    refine ih _ h2 (fun E hE => ?_) (fun w' hw => ?_)
    · exact (World.putObj_heap_other (fun e => h1 (by rw [← e]; exact hE))).trans (hd E (List.mem_cons_of_mem _ hE))
    · refine h w' ⟨hw.1, hw.2.1, hw.2.2.1, hw.2.2.2.1.trans (by simp), fun k hk => ?_⟩
      exact (hw.2.2.2.2 k fun hm => hk (List.mem_cons_of_mem _ hm)).trans (World.putObj_heap_other (fun e => hk (by rw [e]; exact List.mem_cons_self)))

theorem Shut.below {Ds : List Nat} {w w' : World} {b : Nat} {w0 : World} (h : Shut Ds w w') (hb : Below b w0 w) (hd : ∀ D ∈ Ds, b ≤ D) : Below b w0 w' :=
  ⟨h.1.trans hb.os, h.2.1.trans hb.tape, h.2.2.1.trans hb.output, Nat.le_trans hb.size (Nat.le_of_eq h.2.2.2.1.symm), fun k hk => (h.2.2.2.2 k fun hm => by have := hd k hm; omega).trans (hb.block k hk)⟩
end Go.Proofs.YtmimkgfkicgfiaaDoor.RngM
