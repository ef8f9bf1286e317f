/-
  Bytes appended to a conversion's row, as one step of a region that draws its order.
-/
import Derived.Test.YtnhjbcjeeilicaaGreatDoorHtK
import Derived.Deep.RegionLawGrows
import Derived.Deep.Upon
import Derived.Lib.EndianMore
import Derived.Lib.AtoiErrMem
namespace Go.Proofs.YtnhjbcjeeilicaaGreatDoor.HtM
open Go.RowKit Go.Proofs.YtnhjbcjeeilicaaGreatDoor Go.Proofs.YtnhjbcjeeilicaaGreatDoor.Ht Go.Proofs.YtnhjbcjeeilicaaGreatDoor.HtW

theorem setCells_size (b : Nat) : ∀ (vs : List Value) (o : Nat) (w : World), (w.setCells b o vs).heap.size = w.heap.size
  | [], _, _ => rfl
  | v :: r, o, w => by rw [World.setCells, setCells_size b r]; simp [World.setCell]

theorem run_append_bs (w : World) (base b : Nat) (hbb : base ≤ b) (hbs : base ≤ w.heap.size) (cur : Array Value) (k : Nat) (hrow : w.heap[b]? = some (.cells cur 5 (k, k + 1))) (hk : cur.size = k) (l bd : List UInt8) (cap : Nat) (hcap : l.length ≤ cap) (hcapk : cap ≤ k)
    (hl : ∀ (j : Nat) x, l[j]? = some x → cur[j]? = some (.int .u8 (x.toNat : Int))) (aB : Option Addr) (cB : Nat) (hB : Bs w aB bd cB) (hlen : l.length + bd.length ≤ 140737488355328) (ty : TypeId) :
    ∃ ar cr w', (Builtin.append_ #[22, 22] ty #[.slice (some ⟨b, 0, none⟩) l.length cap, .slice aB bd.length cB]).run Tryz.prog w = .ok (.slice ar (l.length + bd.length) cr) w' ∧ Bs w' ar (l ++ bd) cr ∧ (∀ p, ar = some p → base ≤ p.block) ∧ Below base w w' := by
  obtain ⟨i0, hi, hz0, hz1, hz2⟩ := info_parts infoByte
  have hblt : b < w.heap.size := (Array.getElem?_eq_some_iff.1 hrow).1
  have hcell : ∀ (j : Nat) x, l[j]? = some x → w.cell? ⟨b, j, none⟩ = some (.int .u8 (x.toNat : Int)) := by
    intro j x hj
    simp [World.cell?, hrow, hl j x hj]
  have hlB : Bs w (some ⟨b, 0, none⟩) l cap := ⟨hcap, (fun h => by cases h), .inr ⟨b, 0, rfl, hblt, fun j x hj => by rw [Nat.zero_add]; exact hcell j x hj⟩⟩
  by_cases hbd : bd = []
  · subst hbd
    refine ⟨some ⟨b, 0, none⟩, cap, w, ?_, by rw [List.append_nil]; exact hlB, fun p hp => by cases hp; exact hbb, Below.refl _ _⟩
    refine run_append_nothing w _ _ _ 5 i0 Tryz.underlying22 hi _ _ _ hcap _ ?_
    cases aB with
    | none => rw [hB.2.1 rfl]; exact Src.ofNil w Tryz.underlying22 0
    | some p => exact Src.ofSlice w Tryz.underlying22 p 0 cB [] (by simp) (fun j u h => by cases h) (fun u h => by cases h)
  · have hpos : 0 < bd.length := List.length_pos_iff.2 hbd
    obtain ⟨p, rfl⟩ : ∃ p, aB = some p := by
      rcases hB.2.2 with h | ⟨b', o', h, _⟩
      · exact absurd h hbd
      · exact ⟨_, h⟩
    have hnl : (Lib.byteCells bd).length = bd.length := by simp [Lib.byteCells]
    have hone : ∀ u ∈ Lib.byteCells bd, u.oneCell' = true := by
      intro u hu
      simp only [Lib.byteCells, List.mem_map] at hu
      obtain ⟨x, _, rfl⟩ := hu
      rfl
    by_cases hr : l.length + bd.length ≤ cap
    · have hsp : ∀ j, j < (Lib.byteCells bd).length → (w.cell? ⟨b, 0 + l.length + j, none⟩).isSome = true ∧ w.frozen? ⟨b, 0 + l.length + j, none⟩ = false := by
        intro j hj
        rw [hnl] at hj
        refine ⟨?_, ?_⟩
        · simp only [World.cell?, hrow]
          rw [Array.getElem?_eq_getElem (by omega)]
          rfl
        · simp [World.frozen?, hrow]
          omega
      have hrun := run_append_room_cells (P := Tryz.prog) w 22 ty 5 i0 Tryz.underlying22 hi b 0 l.length cap p bd.length cB (Lib.byteCells bd) (by rw [hnl, hz1, Nat.mul_one]) hB.cells hone hr (fun j hj => by rw [hz1, Nat.mul_one]; exact (hsp j hj).1) (fun j hj => by rw [hz1, Nat.mul_one]; exact (hsp j hj).2)
      rw [hz1, Nat.mul_one] at hrun
      refine ⟨some ⟨b, 0, none⟩, cap, _, hrun, ⟨by rw [List.length_append]; exact hr, (fun h => by cases h), .inr ⟨b, 0, rfl, by rw [setCells_size]; exact hblt, fun j x hj => ?_⟩⟩, fun p hp => by cases hp; exact hbb, Lib.below_setCells_w hbb _ _ _⟩
      rcases Nat.lt_or_ge j l.length with h | h
      · rw [List.getElem?_append_left h] at hj
        rw [World.cell?_setCells_out _ _ _ _ _ (fun _ _ => Or.inl (by simp only; omega)), Nat.zero_add]
        exact hcell j x hj
      · rw [List.getElem?_append_right h] at hj
        have hjl : j - l.length < (Lib.byteCells bd).length := by rw [hnl]; exact (List.getElem?_eq_some_iff.1 hj).1
        have hin := World.cell?_setCells_in b (Lib.byteCells bd) (0 + l.length) w (fun j hj => (hsp j hj).1) (j - l.length) hjl
        rw [show 0 + l.length + (j - l.length) = 0 + j by omega] at hin
        rw [hin, ← List.getElem?_eq_getElem hjl]
        simp [Lib.byteCells, hj]
    · obtain ⟨v', w', hrun, r1, r2⟩ := run_append_arg_grows (P := Tryz.prog) w 22 ty 5 i0 _ 1 1 Tryz.underlying22 hi hz0 hz1 hz2 rfl (by decide) ⟨b, 0, none⟩ l.length cap (Lib.byteCells l) (by simp [Lib.byteCells]) hlB.cells p bd.length cB (Lib.byteCells bd) (by rw [hnl, Nat.mul_one]) hB.cells (by omega) (by unfold maxLen; omega) (by omega)
      have r1' : w'.ownsRow w.heap.size 5 1 v' (l ++ bd).length (Lib.byteCells (l ++ bd)) := by
        rw [List.length_append, show Lib.byteCells (l ++ bd) = Lib.byteCells l ++ Lib.byteCells bd by simp [Lib.byteCells]]
        exact r1
      obtain ⟨g, cap', cur', hv, hb', hg', _⟩ := r1'.2.resolve_left (fun h => by have := h.2; rw [List.length_append] at this; omega)
      obtain ⟨a, c, hv2, hB2⟩ := bs_of_own r1'
      subst hv
      cases hv2
      refine ⟨some ⟨g, 0, none⟩, cap', w', by rw [hrun, List.length_append], hB2, fun p hp => by cases hp; exact Nat.le_trans hbs hb', ?_⟩
      exact (Below.refl base w).grown r2 hbs (fun k hk => by cases hk)

theorem step_append_bs {ops : Array Oper} {o : Oper} {a : Act} {w : World} {K : Act → World → Prop} {Q : Exit → Act → World → Prop} {E : Prop}
    (hg : o.guard = none) (s x : Operand) (hop : o.op = Op.call { callee := Callee.builtin Builtin.append, args := #[s, x], argTypes := #[22, 22] })
    (base b : Nat) (hbb : base ≤ b) (hbs : base ≤ w.heap.size) (cur : Array Value) (k : Nat) (hrow : w.heap[b]? = some (.cells cur 5 (k, k + 1))) (hk : cur.size = k) (l bd : List UInt8) (cap : Nat) (hcap : l.length ≤ cap) (hcapk : cap ≤ k)
    (hl : ∀ (j : Nat) x, l[j]? = some x → cur[j]? = some (.int .u8 (x.toNat : Int))) (aB : Option Addr) (cB : Nat) (hB : Bs w aB bd cB) (hlen : l.length + bd.length ≤ 140737488355328)
    (hs : a.eval s = .slice (some ⟨b, 0, none⟩) l.length cap) (hx : a.eval x = .slice aB bd.length cB)
    (hK : ∀ ar cr w', Bs w' ar (l ++ bd) cr → (∀ p, ar = some p → base ≤ p.block) → Below base w w' → K (a.put o.dst (.slice ar (l.length + bd.length) cr)) w') :
    if Region.wanted o (yielded ops a.tmps) = true then Oper.wp Tryz.prog o a w K Q else E := by
  have hw : Region.wanted o (yielded ops a.tmps) = true := by simp [Region.wanted, hg]
  rw [if_pos hw]
  obtain ⟨ar, cr, w', hrun, h1, h2, h3⟩ := run_append_bs w base b hbb hbs cur k hrow hk l bd cap hcap hcapk hl aB cB hB hlen o.type
  unfold Oper.wp
  simp [execOp, hop, resolve, invoke, builtin, hs, hx, hrun, Result.andThen]
  exact hK ar cr w' h1 h2 h3

/-- the row that a conversion has made -/
theorem conv_row (w : World) (l : List UInt8) : ∃ (cur : Array Value) (k : Nat), (Lib.bytesWorld w 5 ⟨l.toArray⟩).heap[w.heap.size]? = some (.cells cur 5 (k, k + 1)) ∧ cur.size = k ∧ l.length ≤ grownCap w l.length 0 5 ∧ grownCap w l.length 0 5 ≤ k ∧ ∀ (j : Nat) x, l[j]? = some x → cur[j]? = some (.int .u8 (x.toNat : Int)) := by
  have hge := grownCap_ge w l.length 0 5
  refine ⟨_, _, Lib.bytesWorld_at_new w 5 ⟨l.toArray⟩, rfl, hge, ?_, fun j x hj => ?_⟩
  · simp [Lib.bytesCells, Com.size_mk]
    omega
  · have hjl : j < l.length := (List.getElem?_eq_some_iff.1 hj).1
    have h := Lib.bytesWorld_cell w 5 ⟨l.toArray⟩ j (by rw [Com.size_mk]; exact hjl)
    simp only [World.cell?, Lib.bytesWorld_at_new] at h
    rw [List.getD_eq_getElem?_getD, hj] at h
    simpa using h
end Go.Proofs.YtnhjbcjeeilicaaGreatDoor.HtM
