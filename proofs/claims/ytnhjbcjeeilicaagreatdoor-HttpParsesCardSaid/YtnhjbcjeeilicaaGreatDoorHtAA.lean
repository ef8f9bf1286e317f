/-
  Small contracts on the document's Same and the program's Parse; appends of bytes.
-/
import Derived.Test.YtnhjbcjeeilicaaGreatDoorHtN
import Derived.Test.YtnhjbcjeeilicaaGreatDoorHtU
import Derived.Test.YtnhjbcjeeilicaaGreatDoorHtV
import Derived.Test.YtnhjbcjeeilicaaGreatDoorHtX
namespace Go.Proofs.YtnhjbcjeeilicaaGreatDoor.HtAA
open Go.RowKit Go.Proofs.YtnhjbcjeeilicaaGreatDoor Go.Proofs.YtnhjbcjeeilicaaGreatDoor.Ht Go.Proofs.YtnhjbcjeeilicaaGreatDoor.HtW Go.Proofs.YtnhjbcjeeilicaaGreatDoor.HtC Go.Proofs.YtnhjbcjeeilicaaGreatDoor.HtG Go.Proofs.YtnhjbcjeeilicaaGreatDoor.HtI Go.Proofs.YtnhjbcjeeilicaaGreatDoor.HtK Go.Proofs.YtnhjbcjeeilicaaGreatDoor.HtN Go.Proofs.YtnhjbcjeeilicaaGreatDoor.HtU Go.Proofs.YtnhjbcjeeilicaaGreatDoor.HtX

theorem no_same (w : World) : Calls Tryz.prog 8 #[noReq, noReq] w fun e w' => e = .returned (.bool true) ∧ Below w.heap.size w w' := by
  refine (same [] [] [] [] [] [] [] [] (a := none) (a' := none) (ab := none) (ab' := none) 0 0 0 0 w (.inl rfl) (.inl rfl) ⟨Nat.le_refl _, fun _ => rfl, .inl rfl⟩ ⟨Nat.le_refl _, fun _ => rfl, .inl rfl⟩ (by simp)).mono ?_
  rintro e w' ⟨rfl, hb⟩
  exact ⟨by rw [eqR_yes], hb⟩
theorem box_no (w : World) : Rq w.heap.size (w.alloc (.cells #[.string ⟨#[]⟩, .string ⟨#[]⟩, .slice none 0 0, .slice none 0 0] 27)) (.string ⟨#[]⟩) (.string ⟨#[]⟩) (.slice none 0 0) (.slice none 0 0) := heap_alloc_new _ _

theorem own_fresh' (w : World) (base n : Nat) (hn : n = w.heap.size) (h : base ≤ n) : (w.alloc (.cells #[] 5)).ownsRow base 5 1 (.slice (some ⟨n, 0, none⟩) 0 0) 0 [] := by
  subst hn
  exact own_fresh w base h
theorem parse' (a : Option Addr) (b : List UInt8) (c n : Nat) (w : World) {aR aL : Addr} (hn : n = b.length) (hb : Bs w a b c) (hs : b.length ≤ 140737488355328) (hm : Mx w) (he : Errs w aR aL) :
    Calls Tryz.prog 6 #[.slice a n c] w fun e w' => ParsePost w b aR aL e w' ∧ Below w.heap.size w w' := by
  subst hn
  exact parse a b c w hb hs hm he
theorem n_le {b m t : List UInt8} {fs : List Fld} {body : List UInt8} {n : Nat} (h : Ht.parse b = .ok m t fs body n) : n ≤ 3072 := by
  obtain ⟨i, k, h1, _, h3, _, _, h6⟩ := HtV.parse_ok h
  have := HtV.at_some h1
  have := size_le h3
  omega
/-- append onto an empty row of its own -/
theorem append_first {ops : Array Oper} {rest : List Oper} {o : Oper} {a : Act} {Q : Exit → Act → World → Prop} (w : World) (hg : o.guard = none) (s x : Operand) (hop : o.op = Op.call { callee := Callee.builtin Builtin.append, args := #[s, x], argTypes := #[22, 22] })
    (base n : Nat) (r : List UInt8) (hown : w.ownsRow base 5 1 (.slice (some ⟨n, 0, none⟩) 0 0) 0 []) (aR : Option Addr) (cR : Nat) (hB : Bs w aR r cR) (hbase : base ≤ w.heap.size) (hlen : r.length ≤ 140737488355328)
    (hs : a.eval s = .slice (some ⟨n, 0, none⟩) 0 0) (hx : a.eval x = .slice aR r.length cR)
    (hK : ∀ ar cr w', w'.ownsRow base 5 1 (.slice ar r.length cr) r.length (Lib.byteCells r) → Below base w w' → wpList Tryz.prog ops Q rest (a.put o.dst (.slice ar r.length cr)) w') :
    wpList Tryz.prog ops Q (o :: rest) a w := by
  refine wpList_append_bytes w hg s x hop base _ [] r hown aR cR hB hbase (by simpa using hlen) hs hx ?_
  intro ar cr w' h1 _ h3
  rw [List.length_nil, Nat.zero_add, List.nil_append] at *
  exact hK ar cr w' h1 h3
/-- append onto a row of its own -/
theorem append_more {ops : Array Oper} {rest : List Oper} {o : Oper} {a : Act} {Q : Exit → Act → World → Prop} (w : World) (hg : o.guard = none) (s x : Operand) (hop : o.op = Op.call { callee := Callee.builtin Builtin.append, args := #[s, x], argTypes := #[22, 22] })
    (base : Nat) (l r : List UInt8) {v : Value} (hown : w.ownsRow base 5 1 v l.length (Lib.byteCells l)) (aR : Option Addr) (cR : Nat) (hB : Bs w aR r cR) (hbase : base ≤ w.heap.size) (hlen : l.length + r.length ≤ 140737488355328)
    (hs : a.eval s = v) (hx : a.eval x = .slice aR r.length cR)
    (hK : ∀ ar cr w' n, n = (l ++ r).length → w'.ownsRow base 5 1 (.slice ar n cr) (l ++ r).length (Lib.byteCells (l ++ r)) → Below base w w' → wpList Tryz.prog ops Q rest (a.put o.dst (.slice ar n cr)) w') :
    wpList Tryz.prog ops Q (o :: rest) a w := by
  refine wpList_append_bytes w hg s x hop base _ l r hown aR cR hB hbase hlen hs hx ?_
  intro ar cr w' h1 _ h3
  exact hK ar cr w' _ List.length_append.symm h1 h3
end Go.Proofs.YtnhjbcjeeilicaaGreatDoor.HtAA
