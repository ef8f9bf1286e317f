/-
  Bytes appended to a row of the call's own.
-/
import Derived.Test.YtnhjbcjeeilicaaGreatDoorHtW
import Derived.Deep.Upon
namespace Go.Proofs.YtnhjbcjeeilicaaGreatDoor.HtX
open Go.RowKit Go.Proofs.YtnhjbcjeeilicaaGreatDoor Go.Proofs.YtnhjbcjeeilicaaGreatDoor.Ht Go.Proofs.YtnhjbcjeeilicaaGreatDoor.HtW

theorem own_fresh (w : World) (base : Nat) (h : base ≤ w.heap.size) : (w.alloc (.cells #[] 5)).ownsRow base 5 1 (.slice (some ⟨w.heap.size, 0, none⟩) 0 0) 0 [] :=
  ⟨rfl, .inr ⟨w.heap.size, 0, #[], rfl, h, heap_alloc_new _ _, Nat.le_refl _, by unfold maxLen; omega, rfl, rfl⟩⟩
theorem byteCells_append (l r : List UInt8) : Lib.byteCells (l ++ r) = Lib.byteCells l ++ Lib.byteCells r := by simp [Lib.byteCells]
theorem byteCells_length (l : List UInt8) : (Lib.byteCells l).length = l.length := by simp [Lib.byteCells]
theorem byteCells_one (l : List UInt8) : ∀ u ∈ Lib.byteCells l, u.oneCell' = true := by
  intro u hu
  simp only [Lib.byteCells, List.mem_map] at hu
  obtain ⟨x, _, rfl⟩ := hu
  rfl
theorem run_append_bytes (w : World) (base : Nat) (v : Value) (l r : List UInt8) (hown : w.ownsRow base 5 1 v l.length (Lib.byteCells l)) (aR : Option Addr) (cR : Nat) (hB : Bs w aR r cR) (hbase : base ≤ w.heap.size) (hlen : l.length + r.length ≤ 140737488355328) (ty : TypeId) :
    ∃ ar cr w', (Builtin.append_ #[22, 22] ty #[v, .slice aR r.length cR]).run Tryz.prog w = .ok (.slice ar (l.length + r.length) cr) w' ∧ w'.ownsRow base 5 1 (.slice ar (l.length + r.length) cr) (l ++ r).length (Lib.byteCells (l ++ r)) ∧ w.grownBy w' v.ownBlock ∧ Below base w w' := by
  obtain ⟨i0, hi, hz0, hz1, hz2⟩ := info_parts infoByte
  by_cases hr : r = []
  · subst hr
    obtain ⟨a, c, rfl, hb⟩ := bs_of_own hown
    refine ⟨a, c, w, ?_, by simpa using hown, ⟨rfl, rfl, rfl, Nat.le_refl _, fun _ _ _ => rfl⟩, Below.refl _ _⟩
    refine run_append_nothing w _ _ _ 5 i0 Tryz.underlying22 hi _ _ _ hb.1 _ ?_
    cases aR with
    | none => rw [hB.2.1 rfl]; exact Src.ofNil w Tryz.underlying22 0
    | some p => exact Src.ofSlice w Tryz.underlying22 p 0 cR [] (by simp) (fun j u h => by cases h) (fun u h => by cases h)
  · obtain ⟨p, rfl⟩ : ∃ p, aR = some p := by
      rcases hB.2.2 with h | ⟨b', o', h, _⟩
      · exact absurd h hr
      · exact ⟨_, h⟩
    obtain ⟨v', w', h1, h2, h3, _⟩ := run_append_own (P := Tryz.prog) w base 22 ty 5 i0 _ 1 1 Tryz.underlying22 hi hz0 hz1 hz2 rfl (by decide) v l.length (Lib.byteCells l) hown p r.length cR (Lib.byteCells r) (by rw [byteCells_length, Nat.mul_one]) hB.cells (byteCells_one r) (by unfold maxLen; omega) (by omega) hbase
    rw [← byteCells_append, ← List.length_append] at h2
    obtain ⟨a, c, rfl, hb⟩ := bs_of_own h2
    rw [List.length_append] at h1
    refine ⟨a, c, w', h1, by rw [← List.length_append]; exact h2, h3, (Below.refl base w).grown h3 hbase fun k hk => ?_⟩
    exact (hown.lt k hk).1
theorem wpList_append_bytes {ops : Array Oper} {rest : List Oper} {o : Oper} {a : Act} {Q : Exit → Act → World → Prop} (w : World) (hg : o.guard = none) (s x : Operand) (hop : o.op = Op.call { callee := Callee.builtin Builtin.append, args := #[s, x], argTypes := #[22, 22] })
    (base : Nat) (v : Value) (l r : List UInt8) (hown : w.ownsRow base 5 1 v l.length (Lib.byteCells l)) (aR : Option Addr) (cR : Nat) (hB : Bs w aR r cR) (hbase : base ≤ w.heap.size) (hlen : l.length + r.length ≤ 140737488355328)
    (hs : a.eval s = v) (hx : a.eval x = .slice aR r.length cR)
    (hK : ∀ ar cr w', w'.ownsRow base 5 1 (.slice ar (l.length + r.length) cr) (l ++ r).length (Lib.byteCells (l ++ r)) → w.grownBy w' v.ownBlock → Below base w w' → wpList Tryz.prog ops Q rest (a.put o.dst (.slice ar (l.length + r.length) cr)) w') :
    wpList Tryz.prog ops Q (o :: rest) a w := by
  refine wpList_plain hg fun K hK' => ?_
  obtain ⟨ar, cr, w', hrun, h1, h2, h3⟩ := run_append_bytes w base v l r hown aR cR hB hbase hlen o.type
  unfold Oper.wp
  simp [execOp, hop, resolve, invoke, builtin, hs, hx, hrun, Result.andThen]
  exact hK' _ _ (hK ar cr w' h1 h2 h3)
theorem bs_own {w : World} {base : Nat} {a : Option Addr} {n c : Nat} {l : List UInt8} (h : w.ownsRow base 5 1 (.slice a n c) l.length (Lib.byteCells l)) : Bs w a l c ∧ n = l.length := by
  obtain ⟨a', c', hv, hb⟩ := bs_of_own h
  cases hv
  exact ⟨hb, rfl⟩
end Go.Proofs.YtnhjbcjeeilicaaGreatDoor.HtX
