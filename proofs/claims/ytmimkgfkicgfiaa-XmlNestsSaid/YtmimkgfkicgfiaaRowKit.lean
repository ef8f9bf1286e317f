/-
  What every law's row of this seat needs: the arguments read again behind the call; the post of a call that answers true; bounds out of the bulk.
-/
import Derived.Test.YtmimkgfkicgfiaaRows
import Derived.WalkKit
import Derived.ProofKit
import Derived.OpenShut
import Derived.ShutString
import Derived.ChangeOld
import Derived.Below
import Derived.Carry
import Derived.SliceStrings
import Derived.JoinedCond
import Derived.Lib.SmallJoins
import Derived.Test.YtmimkgfkicgfiaaCom
namespace Go.Proofs.Ytmimkgfkicgfiaa.RowKit2
open Go.ChangeShapes Go.WideShapes Go.ChangeAt Go.RowKit
open Go.ChangeMaps (open_string shut_string)

theorem own : ownKnob Try.prog.godebug = none := by kernel_rfl
theorem laidOut : laidOutB Try.prog = true := by kernel_rfl

theorem trodAll_below {H : Type} {enc : TypeId × Value → H} {P : Program} (hl : laidOutB P = true) {W W' : World} (hb : Below W.heap.size W W') : ∀ (ts : List TypeId) (vs : List Value) (ds : List (DataW H)) (ps : List MemPlace),
    (ts.all fun t => P.readableRec t && decide (t < P.types.size)) = true → DataW.TrodAll enc P W 0 (fun _ => true) true ts vs ds ps → (∀ x ∈ ps, x.block < W.heap.size) →
    DataW.TrodAll enc P W' 0 (fun b => decide (b < W.heap.size)) true ts vs ds ps
  | [], vs, ds, ps, _, h, _ => by
    obtain ⟨rfl, rfl, rfl⟩ := trodAll_nil h
    exact trodAll_mk0
  | t :: ts, vs, ds, ps, ht, h, hlt => by
    obtain ⟨v, vs', d, ds', p, q, rfl, rfl, rfl, h1, h2⟩ := trodAll_cons h
    simp only [List.all_cons, Bool.and_eq_true, decide_eq_true_eq] at ht
    exact trodAll_cons_mk (Below.trod hl ht.1.1 ht.1.2 h1 hb (fun x hx => hlt x (by simp [hx]))) (trodAll_below hl hb ts vs' ds' q (by simpa using ht.2) h2 (fun x hx => hlt x (by simp [hx])))

/-- a law's call answered true and turned nothing that was there -/
theorem law_post {H : Type} {enc : TypeId × Value → H} {f : Func} {s : ChangeSpec} {W W' : World} {args : Array Value} {ds gs : List (DataW H)} {before : List MemPlace} {e : Ending}
    (hv : s.vars = []) (hr : f.resultTypes = #[4]) (hread : (f.params.toList.all fun t => Try.prog.readableRec t && decide (t < Try.prog.types.size)) = true)
    (hfn : s.fn H (ds ++ gs) = { results := [.lit (.bool true)], args := ds })
    (hW : DataW.Whole enc Try.prog f.params.toList s.vars false W args.toList ds gs before) (he : e = .returned (.bool true)) (hb : Below W.heap.size W W') :
    ∃ v, e = .returned v ∧ s.post enc Try.prog f false true false false W args v W' := by
  have hW' := hW
  have hlt : ∀ x ∈ before, x.block < W.heap.size := fun x hx => hW'.lt x hx
  obtain ⟨p, q, hA, hV, rfl, hfz, hnd⟩ := hW
  rw [hv] at hV
  obtain ⟨rfl, rfl⟩ := trodVars_none hV
  subst he
  refine ⟨_, rfl, ds, [], _, [], p, [], hW', ?_, ?_, ?_, hb.frame _, fun h => by cases h⟩
  · rw [hr, hfn]
    exact trodAll_mk1 (shut_bool Try.underlying4 true)
  · rw [hfn]
    exact trodAll_below laidOut hb _ _ _ _ hread hA (fun x hx => hlt x (by simp [hx]))
  · rw [hv, hfn]
    rfl

theorem one_le {H : Type} (d : DataW H) : 1 ≤ Rows.uptoBulk d := by
  cases d with
  | lit l => cases l <;> simp [Rows.uptoBulk]
  | nil => simp [Rows.uptoBulk]
  | ptr d => simp [Rows.uptoBulk]
  | slice elems spare => simp [Rows.uptoBulk]
  | agg parts => simp [Rows.uptoBulk]
  | iface t d => simp [Rows.uptoBulk]
  | map entries => simp [Rows.uptoBulk]
  | held h => simp [Rows.uptoBulk]
theorem bulk_append {H : Type} (l r : List (DataW H)) : Rows.uptoBulkAll (l ++ r) = Rows.uptoBulkAll l + Rows.uptoBulkAll r := by
  induction l with
  | nil => simp [Rows.uptoBulkAll]
  | cons x l ih => simp only [List.cons_append, Rows.uptoBulkAll, ih]; omega
theorem bulk_length {H : Type} (l : List (DataW H)) : l.length ≤ Rows.uptoBulkAll l := by
  induction l with
  | nil => simp [Rows.uptoBulkAll]
  | cons x r ih => have := one_le x; simp only [Rows.uptoBulkAll, List.length_cons]; omega
theorem bulk_part {H : Type} {d : DataW H} {l : List (DataW H)} (h : d ∈ l) : Rows.uptoBulk d ≤ Rows.uptoBulkAll l := by
  induction l with
  | nil => cases h
  | cons x r ih =>
    simp only [Rows.uptoBulkAll]
    cases List.mem_cons.1 h with
    | inl e => subst e; omega
    | inr e => have := ih e; omega
theorem bulk_string {H : Type} (bytes : List UInt8) : Rows.uptoBulk (DataW.lit (H := H) (.string bytes)) = bytes.length + 1 := by
  simp [Rows.uptoBulk]
theorem bound {H : Type} {l : List (DataW H)} (hk : Rows.uptoSmall H l = true) : Rows.uptoBulkAll l ≤ 1048576 := of_decide_eq_true hk
theorem bulk_strs {H : Type} (ss : List ByteArray) : Rows.uptoBulkAll (strs (H := H) ss) = ((ss.map (·.data.toList)).flatten).length + ss.length := by
  induction ss with
  | nil => simp [strs, Rows.uptoBulkAll]
  | cons x r ih =>
    have : strs (H := H) (x :: r) = .lit (.string x.data.toList) :: strs r := rfl
    rw [this]
    simp only [Rows.uptoBulkAll, ih, bulk_string, List.map_cons, List.flatten_cons, List.length_append, List.length_cons]
    omega
theorem cells_string : Try.prog.cellsOf 9 = 1 := by kernel_rfl

/-- an argument that is a slice of strings -/
theorem open_strs {H : Type} {enc : TypeId × Value → H} {W : World} {a2 : Option Addr} {len2 cap2 : Nat} {d : DataW H} {p : List MemPlace}
    (h : DataW.Trod enc Try.prog W 0 (fun _ => true) true 22 (.slice a2 len2 cap2) d p) (hlt : ∀ x ∈ p, x.block < W.heap.size) :
    ∃ xs : List ByteArray, len2 = xs.length ∧ xs.length ≤ cap2 ∧ Com.Strs W a2 xs ∧ (Com.flat xs).length + xs.length ≤ Rows.uptoBulk d := by
  obtain ⟨fuel, hf⟩ := h
  rcases open_strings Try.underlying22 Try.underlying9 cells_string hf with ⟨hcs, hx⟩ | ⟨a, len', cap', ss, hcs, _, hl, hm, hz, hx, hcell, hws⟩
  · simp [Value.cells] at hcs
    obtain ⟨rfl, rfl, rfl⟩ := hcs
    exact ⟨[], rfl, Nat.le_refl _, .inl rfl, by simp [Com.flat]⟩
  · simp [Value.cells] at hcs
    obtain ⟨rfl, rfl, rfl⟩ := hcs
    simp at hz
    simp only [Prod.mk.injEq] at hx
    obtain ⟨rfl, rfl⟩ := hx
    refine ⟨ss.take len2, by simp; omega, by simp; omega, ?_, ?_⟩
    · rcases Nat.eq_zero_or_pos ss.length with h0 | h0
      · left; apply List.eq_nil_of_length_eq_zero; simp; omega
      · have hc0 := hcell 0 h0
        obtain ⟨b, off, spot⟩ := a
        obtain rfl : spot = none := by simpa [Addr.add] using World.cell?_spot hc0
        refine .inr ⟨b, off, rfl, ?_, fun j x hj => ?_⟩
        · have := hlt (.cell b off) (by simp [MemPlace.row]; exact h0)
          simpa [MemPlace.block] using this
        · rw [List.getElem?_take] at hj
          split at hj
          · have hjl := (List.getElem?_eq_some_iff.1 hj).1
            have := hcell j hjl
            rw [List.getD, hj] at this
            by_cases h0 : j = 0
            · subst h0; simpa [Addr.add] using this
            · simpa [Addr.add, h0] using this
          · cases hj
    · simp only [Rows.uptoBulk, bulk_strs, Com.flat]
      omega
end Go.Proofs.Ytmimkgfkicgfiaa.RowKit2
