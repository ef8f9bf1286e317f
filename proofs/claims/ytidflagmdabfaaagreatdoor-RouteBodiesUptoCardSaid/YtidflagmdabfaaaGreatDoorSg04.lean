/-
  Fields of HTTP in memory; two of package api's errors. Bytes appended to a row of the call's own. A slice of bytes that its holder owns, wherever in its row it begins; what append makes of it. A slice of a slice, with no parting on its capacity: the new spot is told under its condition.
-/
import Derived.Test.YtidflagmdabfaaaGreatDoorSg01
import Derived.Test.YtidflagmdabfaaaGreatDoorSg03
import Derived.Test.YtidflagmdabfaaaGreatDoorProg
import Derived.Below
import Derived.WalkKit
import Derived.OwnWalk
import Derived.Laws.AppendOwn
import Derived.Deep.Upon
import Derived.ArgAppend
import Derived.Lib.EndianMore
import Derived.Laws.Slices
import Derived.Lib.Hide
namespace Go.Proofs.YtidflagmdabfaaaGreatDoor.HtW
open Go.RowKit Go.Proofs.YtidflagmdabfaaaGreatDoor Go.Proofs.YtidflagmdabfaaaGreatDoor.Ht

theorem infoField : (Tryz.prog.info? 91).map (fun i => (i.zero, i.size, i.bytes)) = some (some (.agg #[.string ⟨#[]⟩, .string ⟨#[]⟩]), 2, 32) := by kernel_rfl
theorem infoByte : (Tryz.prog.info? 5).map (fun i => (i.zero, i.size, i.bytes)) = some (some (.int .u8 0), 1, 1) := by kernel_rfl
theorem info_parts {o : Option TypeInfo} {z : Value} {s b : Nat} (h : o.map (fun i => (i.zero, i.size, i.bytes)) = some (some z, s, b)) : ∃ i0, o = some i0 ∧ i0.zero = some z ∧ i0.size = s ∧ i0.bytes = b := by
  cases o with
  | none => cases h
  | some i => simp at h; exact ⟨i, rfl, h.1, h.2.1, h.2.2⟩
theorem addr_add (b off k : Nat) : (⟨b, off, none⟩ : Addr).add k = ⟨b, off + k, none⟩ := by
  unfold Addr.add; split <;> simp_all
/-- fields, as cells -/
def fcells (fs : List Fld) : List Value := fs.flatMap fun p => [.string ⟨p.1.toArray⟩, .string ⟨p.2.toArray⟩]
theorem fcells_snoc (fs : List Fld) (n v : List UInt8) : fcells (fs ++ [(n, v)]) = fcells fs ++ [.string ⟨n.toArray⟩, .string ⟨v.toArray⟩] := by simp [fcells]
theorem fcells_length (fs : List Fld) : (fcells fs).length = fs.length * 2 := by
  induction fs with
  | nil => rfl
  | cons p r ih => simp only [fcells, List.flatMap_cons, List.length_append, List.length_cons] at ih ⊢; simp only [List.length_nil]; omega
theorem fcells_get {fs : List Fld} : ∀ {j : Nat} {p : Fld}, fs[j]? = some p → (fcells fs)[j * 2]? = some (.string ⟨p.1.toArray⟩) ∧ (fcells fs)[j * 2 + 1]? = some (.string ⟨p.2.toArray⟩) := by
  induction fs with
  | nil => intro j p h; simp at h
  | cons q r ih =>
    intro j p h
    cases j with
    | zero => simp at h; subst h; simp [fcells]
    | succ j =>
      have := ih (j := j) (p := p) (by simpa using h)
      simp only [fcells, List.flatMap_cons] at this ⊢
      rw [show (j + 1) * 2 = j * 2 + 2 by omega, show j * 2 + 2 + 1 = (j * 2 + 1) + 2 by omega]
      simpa using this
/-- fields lie at a -/
def Fs (w : World) (a : Option Addr) (fs : List Fld) : Prop :=
  fs = [] ∨ ∃ b o, a = some ⟨b, o, none⟩ ∧ b < w.heap.size ∧ ∀ (j : Nat) p, fs[j]? = some p → w.cell? ⟨b, o + j * 2, none⟩ = some (.string ⟨p.1.toArray⟩) ∧ w.cell? ⟨b, o + j * 2 + 1, none⟩ = some (.string ⟨p.2.toArray⟩)
theorem Fs.below {w w' : World} {a : Option Addr} {fs : List Fld} (h : Fs w a fs) (hb : Below w.heap.size w w') : Fs w' a fs :=
  h.imp id fun ⟨b, o, h1, h2, h3⟩ => ⟨b, o, h1, Nat.lt_of_lt_of_le h2 hb.size, fun j p hj => ⟨(hb.cell (p := ⟨b, _, none⟩) h2).trans (h3 j p hj).1, (hb.cell (p := ⟨b, _, none⟩) h2).trans (h3 j p hj).2⟩⟩
theorem Fs.at {w : World} {a : Option Addr} {fs : List Fld} (hp : Fs w a fs) {k : Nat} {q : Fld} (h : fs[k]? = some q) : ∃ b o, a = some ⟨b, o, none⟩ ∧ b < w.heap.size ∧ w.cell? ⟨b, o + k * 2, none⟩ = some (.string ⟨q.1.toArray⟩) ∧ w.cell? ⟨b, o + k * 2 + 1, none⟩ = some (.string ⟨q.2.toArray⟩) := by
  rcases hp with hp | ⟨b, o, h1, h2, h3⟩
  · subst hp; cases h
  · exact ⟨b, o, h1, h2, h3 k q h⟩
theorem fs_of_own {w : World} {base : Nat} {v : Value} {fs : List Fld} (h : w.ownsRow base 91 2 v fs.length (fcells fs)) :
    ∃ a c, v = .slice a fs.length c ∧ fs.length ≤ c ∧ Fs w a fs := by
  rcases h.2 with ⟨rfl, h0⟩ | ⟨g, cap, cur, hv, hb, hg, hn, hm, hcs, htk⟩
  · have h0 : fs = [] := List.eq_nil_of_length_eq_zero h0
    subst h0
    exact ⟨none, 0, rfl, Nat.le_refl _, .inl rfl⟩
  · refine ⟨some ⟨g, 0, none⟩, cap, hv, hn, .inr ⟨g, 0, rfl, (Array.getElem?_eq_some_iff.1 hg).1, fun j p hj => ?_⟩⟩
    obtain ⟨q1, q2⟩ := fcells_get hj
    have c1 := h.cells (g := g) (by rw [hv]; rfl) _ _ q1
    have c2 := h.cells (g := g) (by rw [hv]; rfl) _ _ q2
    rw [addr_add] at c1 c2
    exact ⟨c1, c2⟩
theorem cells_two (w : World) (v0 v1 : Value) (t : TypeId) : ∀ (j : Nat) u, [v0, v1][j]? = some u → (w.alloc (.cells #[v0, v1] t)).cell? ((⟨w.heap.size, 0, none⟩ : Addr).add j) = some u := by
  intro j u hj
  match j, hj with
  | 0, hj => simp at hj; subst hj; simp [Addr.add]
  | 1, hj => simp at hj; subst hj; simp [Addr.add]

/-- the bytes l lie at a -/
def Bs (w : World) (a : Option Addr) (l : List UInt8) (c : Nat) : Prop :=
  l.length ≤ c ∧ (a = none → c = 0) ∧ (l = [] ∨ ∃ b o, a = some ⟨b, o, none⟩ ∧ b < w.heap.size ∧ ∀ j x, l[j]? = some x → w.cell? ⟨b, o + j, none⟩ = some (.int .u8 (x.toNat : Int)))
theorem Bs.below {w w' : World} {a : Option Addr} {l : List UInt8} {c : Nat} (h : Bs w a l c) (hb : Below w.heap.size w w') : Bs w' a l c :=
  ⟨h.1, h.2.1, h.2.2.imp id fun ⟨b, o, h1, h3, h4⟩ => ⟨b, o, h1, Nat.lt_of_lt_of_le h3 hb.size, fun j x hx => (hb.cell (p := ⟨b, o + j, none⟩) h3).trans (h4 j x hx)⟩⟩
theorem Bs.cells {w : World} {p : Addr} {l : List UInt8} {c : Nat} (h : Bs w (some p) l c) : ∀ (j : Nat) u, (Lib.byteCells l)[j]? = some u → w.cell? (p.add j) = some u := by
  intro j u hj
  obtain ⟨x, hx, rfl⟩ : ∃ x, l[j]? = some x ∧ Value.int .u8 (x.toNat : Int) = u := by
    simp only [Lib.byteCells, List.getElem?_map, Option.map_eq_some_iff] at hj; exact hj
  rcases h.2.2 with h0 | ⟨b, o, hp, hlt, hc⟩
  · subst h0; simp at hx
  · obtain rfl : p = ⟨b, o, none⟩ := by simpa using hp
    rw [addr_add]
    exact hc j x hx
theorem bs_of_own {w : World} {base : Nat} {e : TypeId} {v : Value} {l : List UInt8} (h : w.ownsRow base e 1 v l.length (Lib.byteCells l)) :
    ∃ a c, v = .slice a l.length c ∧ Bs w a l c := by
  rcases h.2 with ⟨rfl, h0⟩ | ⟨g, cap, cur, hv, hb, hg, hn, hm, hcs, htk⟩
  · have h0 : l = [] := List.eq_nil_of_length_eq_zero h0
    subst h0
    exact ⟨none, 0, rfl, Nat.le_refl _, fun _ => rfl, .inl rfl⟩
  · refine ⟨some ⟨g, 0, none⟩, cap, hv, hn, (fun h => by cases h), .inr ⟨g, 0, rfl, (Array.getElem?_eq_some_iff.1 hg).1, fun j x hx => ?_⟩⟩
    have := h.cells (g := g) (by rw [hv]; rfl) j (.int .u8 (x.toNat : Int)) (by simp [Lib.byteCells, hx])
    rwa [addr_add] at this
/-- a part of bytes -/
theorem Bs.part {w : World} {b o : Nat} {l : List UInt8} {c : Nat} (h : Bs w (some ⟨b, o, none⟩) l c) (i n : Nat) (hn : i + n ≤ l.length) (c' : Nat) (hc : n ≤ c') : Bs w (some ⟨b, o + i, none⟩) ((l.drop i).take n) c' := by
  refine ⟨by rw [List.length_take]; omega, (fun h => by cases h), ?_⟩
  rcases h.2.2 with h0 | ⟨b', o', hp, hlt, hcs⟩
  · left; subst h0; simp
  · cases hp
    refine .inr ⟨b, o + i, rfl, hlt, fun j x hx => ?_⟩
    rw [List.getElem?_take] at hx
    split at hx
    · rw [List.getElem?_drop] at hx
      rw [Nat.add_assoc]
      exact hcs _ x hx
    · cases hx
/-- bytes as a string -/
theorem to_string {w : World} {a : Option Addr} {l : List UInt8} {c : Nat} (h : Bs w a l c) : (convert 23 9 (.slice a l.length c)).run Tryz.prog w = .ok (.string ⟨l.toArray⟩) w := by
  cases a with
  | none =>
    obtain rfl := h.2.1 rfl
    obtain rfl : l = [] := List.eq_nil_of_length_eq_zero (by have := h.1; omega)
    kernel_rfl
  | some p =>
    refine run_convert_bytes_back w 23 9 5 p c l Tryz.underlying23 Tryz.underlying5 Tryz.underlying9 fun j hj => ?_
    exact h.cells j _ (by simp [Lib.byteCells, List.getElem?_eq_getElem hj])

/-- an error's value -/
abbrev ev (a : Addr) : Value := .iface 288 (.pointer (some a))
/-- two of package api's errors, in their variables -/
structure Errs (w : World) (aR aL : Addr) : Prop where
  req : w.cell? ⟨12, 0, none⟩ = some (.iface 288 (.pointer (some aR)))
  large : w.cell? ⟨10, 0, none⟩ = some (.iface 288 (.pointer (some aL)))
theorem Errs.below {w w' : World} {aR aL : Addr} (h : Errs w aR aL) (hb : Below w.heap.size w w') : Errs w' aR aL :=
  ⟨(hb.cell (World.block_lt_of_cell? w _ h.req)).trans h.req, (hb.cell (World.block_lt_of_cell? w _ h.large)).trans h.large⟩
def erv (aR aL : Addr) : Er → Value
  | .bad => ev aR
  | .large => ev aL
end Go.Proofs.YtidflagmdabfaaaGreatDoor.HtW
namespace Go.Proofs.YtidflagmdabfaaaGreatDoor.HtX
open Go.RowKit Go.Proofs.YtidflagmdabfaaaGreatDoor Go.Proofs.YtidflagmdabfaaaGreatDoor.Ht Go.Proofs.YtidflagmdabfaaaGreatDoor.HtW

theorem own_fresh (w : World) (base : Nat) (h : base ≤ w.heap.size) : (w.alloc (.cells #[] 5)).ownsRow base 5 1 (.slice (some ⟨w.heap.size, 0, none⟩) 0 0) 0 [] :=
  ⟨rfl, .inr ⟨w.heap.size, 0, #[], rfl, h, heap_alloc_new _ _, Nat.le_refl _, by unfold maxLen; omega, rfl, rfl⟩⟩
theorem byteCells_append (l r : List UInt8) : Lib.byteCells (l ++ r) = Lib.byteCells l ++ Lib.byteCells r := by simp [Lib.byteCells]
theorem byteCells_length (l : List UInt8) : (Lib.byteCells l).length = l.length := by simp [Lib.byteCells]
theorem byteCells_one (l : List UInt8) : ∀ u ∈ Lib.byteCells l, u.oneCell' = true := by
  intro u hu
  simp only [Lib.byteCells, List.mem_map] at hu
  obtain ⟨x, _, rfl⟩ := hu
  rfl
theorem run_append_bytes (w : World) (base : Nat) (v : Value) (l r : List UInt8) (hown : w.ownsRow base 5 1 v l.length (Lib.byteCells l)) (aR : Option Addr) (cR : Nat) (hB : Bs w aR r cR) (hbase : base ≤ w.heap.size) (hlen : l.length + r.length ≤ 140737488355328) (ty : TypeId) :
    ∃ ar cr w', (Builtin.append_ #[23, 23] ty #[v, .slice aR r.length cR]).run Tryz.prog w = .ok (.slice ar (l.length + r.length) cr) w' ∧ w'.ownsRow base 5 1 (.slice ar (l.length + r.length) cr) (l ++ r).length (Lib.byteCells (l ++ r)) ∧ w.grownBy w' v.ownBlock ∧ Below base w w' := by
  obtain ⟨i0, hi, hz0, hz1, hz2⟩ := info_parts infoByte
  by_cases hr : r = []
  · subst hr
    obtain ⟨a, c, rfl, hb⟩ := bs_of_own hown
    refine ⟨a, c, w, ?_, by simpa using hown, ⟨rfl, rfl, rfl, Nat.le_refl _, fun _ _ _ => rfl⟩, Below.refl _ _⟩
    refine run_append_nothing w _ _ _ 5 i0 Tryz.underlying23 hi _ _ _ hb.1 _ ?_
    cases aR with
    | none => rw [hB.2.1 rfl]; exact Src.ofNil w Tryz.underlying23 0
    | some p => exact Src.ofSlice w Tryz.underlying23 p 0 cR [] (by simp) (fun j u h => by cases h) (fun u h => by cases h)
  · obtain ⟨p, rfl⟩ : ∃ p, aR = some p := by
      rcases hB.2.2 with h | ⟨b', o', h, _⟩
      · exact absurd h hr
      · exact ⟨_, h⟩
    obtain ⟨v', w', h1, h2, h3, _⟩ := run_append_own (P := Tryz.prog) w base 23 ty 5 i0 _ 1 1 Tryz.underlying23 hi hz0 hz1 hz2 rfl (by decide) v l.length (Lib.byteCells l) hown p r.length cR (Lib.byteCells r) (by rw [byteCells_length, Nat.mul_one]) hB.cells (byteCells_one r) (by unfold maxLen; omega) (by omega) hbase
    rw [← byteCells_append, ← List.length_append] at h2
    obtain ⟨a, c, rfl, hb⟩ := bs_of_own h2
    rw [List.length_append] at h1
    refine ⟨a, c, w', h1, by rw [← List.length_append]; exact h2, h3, (Below.refl base w).grown h3 hbase fun k hk => ?_⟩
    exact (hown.lt k hk).1
theorem wpList_append_bytes {ops : Array Oper} {rest : List Oper} {o : Oper} {a : Act} {Q : Exit → Act → World → Prop} (w : World) (hg : o.guard = none) (s x : Operand) (hop : o.op = Op.call { callee := Callee.builtin Builtin.append, args := #[s, x], argTypes := #[23, 23] })
    (base : Nat) (v : Value) (l r : List UInt8) (hown : w.ownsRow base 5 1 v l.length (Lib.byteCells l)) (aR : Option Addr) (cR : Nat) (hB : Bs w aR r cR) (hbase : base ≤ w.heap.size) (hlen : l.length + r.length ≤ 140737488355328)
    (hs : a.eval s = v) (hx : a.eval x = .slice aR r.length cR)
    (hK : ∀ ar cr w', w'.ownsRow base 5 1 (.slice ar (l.length + r.length) cr) (l ++ r).length (Lib.byteCells (l ++ r)) → w.grownBy w' v.ownBlock → Below base w w' → wpList Tryz.prog ops Q rest (a.put o.dst (.slice ar (l.length + r.length) cr)) w') :
    wpList Tryz.prog ops Q (o :: rest) a w := by
  refine wpList_plain hg fun K hK' => ?_
  obtain ⟨ar, cr, w', hrun, h1, h2, h3⟩ := run_append_bytes w base v l r hown aR cR hB hbase hlen o.type
  unfold Oper.wp
  simp [execOp, hop, resolve, invoke, builtin, hs, hx, hrun, Result.andThen]
  exact hK' _ _ (hK ar cr w' h1 h2 h3)
theorem bs_own {w : World} {base : Nat} {a : Option Addr} {n c : Nat} {l : List UInt8} (h : w.ownsRow base 5 1 (.slice a n c) l.length (Lib.byteCells l)) : Bs w a l c ∧ n = l.length := by
  obtain ⟨a', c', hv, hb⟩ := bs_of_own h
  cases hv
  exact ⟨hb, rfl⟩
end Go.Proofs.YtidflagmdabfaaaGreatDoor.HtX
namespace Go.Proofs.YtidflagmdabfaaaGreatDoor.Lf
open Go.RowKit Go.Proofs.YtidflagmdabfaaaGreatDoor Go.Proofs.YtidflagmdabfaaaGreatDoor.HtW

/-- the bytes l lie at a, in a row of their holder's own, the spots behind them too -/
def Own (lo hi : Nat) (w : World) (a : Option Addr) (l : List UInt8) (c : Nat) : Prop :=
  (a = none ∧ l = [] ∧ c = 0) ∨ ∃ g o cur, a = some ⟨g, o, none⟩ ∧ lo ≤ g ∧ g < hi ∧ w.heap[g]? = some (.cells cur 5 (0, 0)) ∧ l.length ≤ c ∧ (c = 0 ∨ o + c ≤ cur.size) ∧ ∀ (j : Nat) x, l[j]? = some x → cur[o + j]? = some (.int .u8 (x.toNat : Int))
theorem Own.block {lo hi : Nat} {w w' : World} {a : Option Addr} {l : List UInt8} {c : Nat} (h : Own lo hi w a l c) (hk : ∀ k, lo ≤ k → k < hi → w'.heap[k]? = w.heap[k]?) : Own lo hi w' a l c :=
  h.imp id fun ⟨g, o, cur, h1, h2, h3, h4, h5⟩ => ⟨g, o, cur, h1, h2, h3, (hk g h2 h3).trans h4, h5⟩
theorem Own.bs {lo hi : Nat} {w : World} {a : Option Addr} {l : List UInt8} {c : Nat} (h : Own lo hi w a l c) : Bs w a l c := by
  rcases h with ⟨rfl, rfl, rfl⟩ | ⟨g, o, cur, rfl, h2, h3, h4, h5, h6, h7⟩
  · exact ⟨Nat.le_refl _, fun _ => rfl, .inl rfl⟩
  · refine ⟨h5, (fun h => by cases h), .inr ⟨g, o, rfl, (Array.getElem?_eq_some_iff.1 h4).1, fun j x hj => ?_⟩⟩
    rw [Lib.cell_of_heap h4]
    exact h7 j x hj
theorem Own.mono {lo hi lo' hi' : Nat} {w : World} {a : Option Addr} {l : List UInt8} {c : Nat} (h : Own lo hi w a l c) (h1 : lo' ≤ lo) (h2 : hi ≤ hi') : Own lo' hi' w a l c :=
  h.imp id fun ⟨g, o, cur, e1, e2, e3, e4⟩ => ⟨g, o, cur, e1, Nat.le_trans h1 e2, Nat.lt_of_lt_of_le e3 h2, e4⟩
/-- what lies outside the blocks from p on, below hi, stays -/
structure Out (p hi : Nat) (w w' : World) : Prop where
  os : w'.os = w.os
  tape : w'.tape = w.tape
  output : w'.output = w.output
  size : w.heap.size ≤ w'.heap.size
  block : ∀ k, k < w.heap.size → ¬ (p ≤ k ∧ k < hi) → w'.heap[k]? = w.heap[k]?
theorem Out.refl (p hi : Nat) (w : World) : Out p hi w w := ⟨rfl, rfl, rfl, Nat.le_refl _, fun _ _ _ => rfl⟩
theorem Out.below {p hi b : Nat} {w w' : World} (h : Out p hi w w') (hb : b ≤ p) (hs : b ≤ w.heap.size) : Below b w w' :=
  ⟨h.os, h.tape, h.output, h.size, fun k hk => h.block k (Nat.lt_of_lt_of_le hk hs) fun hh => by omega⟩
theorem Out.trans {p hi hi' : Nat} {a b c : World} (h : Out p hi a b) (k : Out p hi' b c) (hh : hi' ≤ hi ∨ a.heap.size ≤ hi' ∧ hi = a.heap.size ∨ hi' ≤ b.heap.size ∧ a.heap.size ≤ hi) : Out p hi a c :=
  ⟨k.os.trans h.os, k.tape.trans h.tape, k.output.trans h.output, Nat.le_trans h.size k.size, fun i hi1 hn => (k.block i (Nat.lt_of_lt_of_le hi1 h.size) fun hm => hn ⟨hm.1, by omega⟩).trans (h.block i hi1 hn)⟩
theorem Out.of_below {p hi : Nat} {w w' : World} (h : Below w.heap.size w w') : Out p hi w w' :=
  ⟨h.os, h.tape, h.output, h.size, fun k hk _ => h.block k hk⟩

theorem bc_get {l : List UInt8} {j : Nat} {x : UInt8} (h : l[j]? = some x) : (Lib.byteCells l)[j]? = some (.int .u8 (x.toNat : Int)) := by
  simp only [Lib.byteCells, List.getElem?_map, h, Option.map_some]
theorem append (lo hi : Nat) (w : World) (hlo : lo ≤ w.heap.size) (a : Option Addr) (l : List UInt8) (c : Nat) (h : Own lo hi w a l c) (aR : Option Addr) (r : List UInt8) (cR : Nat) (hB : Bs w aR r cR) (hlen : l.length + r.length ≤ 140737488355328) (ty : TypeId) :
    ∃ ar cr w', (Builtin.append_ #[23, 23] ty #[.slice a l.length c, .slice aR r.length cR]).run Tryz.prog w = .ok (.slice ar (l.length + r.length) cr) w' ∧ (Own lo hi w' ar (l ++ r) cr ∨ Own lo w'.heap.size w' ar (l ++ r) cr) ∧ Out lo hi w w' := by
  obtain ⟨i0, hi0, hz0, hz1, hz2⟩ := info_parts infoByte
  by_cases hbd : r = []
  · subst hbd
    refine ⟨a, c, w, ?_, .inl (by rw [List.append_nil]; exact h), Out.refl _ _ _⟩
    refine run_append_nothing w _ _ _ 5 i0 Tryz.underlying23 hi0 _ _ _ h.bs.1 _ ?_
    cases aR with
    | none => rw [hB.2.1 rfl]; exact Src.ofNil w Tryz.underlying23 0
    | some p => exact Src.ofSlice w Tryz.underlying23 p 0 cR [] (by simp) (fun j u h => by cases h) (fun u h => by cases h)
  · have hpos : 0 < r.length := List.length_pos_iff.2 hbd
    obtain ⟨p, rfl⟩ : ∃ p, aR = some p := by
      rcases hB.2.2 with h | ⟨b', o', h, _⟩
      · exact absurd h hbd
      · exact ⟨_, h⟩
    have hnl : (Lib.byteCells r).length = r.length := by simp [Lib.byteCells]
    have hone := HtX.byteCells_one r
    rcases h with ⟨rfl, rfl, rfl⟩ | ⟨g, o, cur, rfl, h2, h3, h4, h5, h6, h7⟩
    · obtain ⟨ar, cr, w', hrun, h1, h2, h3⟩ := HtX.run_append_bytes w w.heap.size (.slice none 0 0) [] r ⟨rfl, .inl ⟨rfl, rfl⟩⟩ (some p) cR hB (Nat.le_refl _) hlen ty
      refine ⟨ar, cr, w', hrun, .inr ?_, Out.of_below h3⟩
      rcases h1.2 with ⟨e1, e2⟩ | ⟨g, cap, cur, hv, hb, hg, hn, hm, hcs, htk⟩
      · simp at e2; exact absurd e2 hbd
      · simp only [Value.slice.injEq] at hv
        obtain ⟨rfl, hv2, rfl⟩ := hv
        simp only [List.nil_append] at *
        refine .inr ⟨g, 0, cur, rfl, Nat.le_trans hlo hb, (Array.getElem?_eq_some_iff.1 hg).1, hg, hn, .inr (by omega), fun j x hj => ?_⟩
        have := h1.cells (g := g) rfl j (.int .u8 (x.toNat : Int)) (bc_get hj)
        rw [addr_add, Lib.cell_of_heap hg] at this
        exact this
    · by_cases hr : l.length + r.length ≤ c
      · have hsp : ∀ j, j < (Lib.byteCells r).length → (w.cell? ⟨g, o + l.length + j, none⟩).isSome = true ∧ w.frozen? ⟨g, o + l.length + j, none⟩ = false := by
          intro j hj
          rw [hnl] at hj
          refine ⟨?_, ?_⟩
          · rw [Lib.cell_of_heap h4, Array.getElem?_eq_getElem (by omega)]
            rfl
          · exact Lib.frozen_of_heap h4 _
        have hrun := run_append_room_cells (P := Tryz.prog) w 23 ty 5 i0 Tryz.underlying23 hi0 g o l.length c p r.length cR (Lib.byteCells r) (by rw [hnl, hz1, Nat.mul_one]) hB.cells hone hr (fun j hj => by rw [hz1, Nat.mul_one]; exact (hsp j hj).1) (fun j hj => by rw [hz1, Nat.mul_one]; exact (hsp j hj).2)
        rw [hz1, Nat.mul_one] at hrun
        obtain ⟨cur', hc', hsz, hin, hout⟩ : ∃ cur' : Array Value, (w.setCells g (o + l.length) (Lib.byteCells r)).heap[g]? = some (.cells cur' 5 (0, 0)) ∧ cur'.size = cur.size ∧ (∀ (j : Nat) x, r[j]? = some x → cur'[o + l.length + j]? = some (.int .u8 (x.toNat : Int))) ∧ ∀ j, j < o + l.length → cur'[j]? = cur[j]? := by
          have key : ∀ (vs : List Value) (q : Nat) (w : World) (cur : Array Value), w.heap[g]? = some (.cells cur 5 (0, 0)) → q + vs.length ≤ cur.size → ∃ cur' : Array Value, (w.setCells g q vs).heap[g]? = some (.cells cur' 5 (0, 0)) ∧ cur'.size = cur.size ∧ (∀ (j : Nat) x, vs[j]? = some x → cur'[q + j]? = some x) ∧ ∀ j, j < q → cur'[j]? = cur[j]? := by
            intro vs
            induction vs with
            | nil => intro q w cur hc _; exact ⟨cur, hc, rfl, fun j x h => by simp at h, fun _ _ => rfl⟩
            | cons v vs ih =>
              intro q w cur hc hq
              rw [List.length_cons] at hq
              have h1 := heap_setCell_same w g q _ _ v hc
              obtain ⟨cur', e1, e2, e3, e4⟩ := ih (q + 1) _ _ h1 (by rw [Array.size_setIfInBounds]; omega)
              refine ⟨cur', e1, by rw [e2, Array.size_setIfInBounds], ?_, ?_⟩
              · intro j x hj
                cases j with
                | zero =>
                  simp at hj
                  subst hj
                  rw [Nat.add_zero, e4 q (by omega)]
                  simp [show q < cur.size by omega]
                | succ j =>
                  have := e3 j x (by simpa using hj)
                  rwa [show q + (j + 1) = q + 1 + j by omega]
              · intro j hj
                rw [e4 j (by omega), Array.getElem?_setIfInBounds_ne (by omega)]
          obtain ⟨cur', e1, e2, e3, e4⟩ := key (Lib.byteCells r) (o + l.length) w cur h4 (by rw [hnl]; omega)
          exact ⟨cur', e1, e2, fun j x hj => e3 j _ (by simp [Lib.byteCells, hj]), e4⟩
        refine ⟨some ⟨g, o, none⟩, c, _, hrun, .inl (.inr ⟨g, o, cur', rfl, h2, h3, hc', by rw [List.length_append]; exact hr, .inr (by omega), fun j x hj => ?_⟩), ?_⟩
        · rcases Nat.lt_or_ge j l.length with hj1 | hj1
          · rw [List.getElem?_append_left hj1] at hj
            rw [hout _ (by omega)]
            exact h7 j x hj
          · rw [List.getElem?_append_right hj1] at hj
            have := hin _ x hj
            rwa [show o + l.length + (j - l.length) = o + j by omega] at this
        · have hbl := Lib.below_setCells_w (B := 0) (Nat.zero_le g) (Lib.byteCells r) (o + l.length) w
          refine ⟨hbl.os, hbl.tape, hbl.output, hbl.size, fun k hk hn => ?_⟩
          have key : ∀ (vs : List Value) (q : Nat) (w : World), (w.setCells g q vs).heap[k]? = w.heap[k]? := by
            intro vs
            induction vs with
            | nil => intro q w; rfl
            | cons v vs ih => intro q w; rw [World.setCells, ih, heap_setCell_other _ _ _ _ (fun e => by simp only at e; omega)]
          exact key _ _ _
      · obtain ⟨v', w', hrun, r1, r2⟩ := run_append_arg_grows (P := Tryz.prog) w 23 ty 5 i0 _ 1 1 Tryz.underlying23 hi0 hz0 hz1 hz2 rfl (by decide) ⟨g, o, none⟩ l.length c (Lib.byteCells l) (by simp [Lib.byteCells]) (fun j u hj => (Own.bs (.inr ⟨g, o, cur, rfl, h2, h3, h4, h5, h6, h7⟩ : Own lo hi w _ l c)).cells j u hj) p r.length cR (Lib.byteCells r) (by rw [hnl, Nat.mul_one]) hB.cells (by omega) (by unfold maxLen; omega) (by omega)
        have r1' : w'.ownsRow w.heap.size 5 1 v' (l ++ r).length (Lib.byteCells (l ++ r)) := by
          rw [List.length_append, HtX.byteCells_append]
          exact r1
        obtain ⟨g', cap', cur', hv, hb', hg', hn, hm, hcs, htk⟩ := r1'.2.resolve_left (fun h => by have := h.2; rw [List.length_append] at this; omega)
        subst hv
        refine ⟨some ⟨g', 0, none⟩, cap', w', by rw [hrun, List.length_append], .inr (.inr ⟨g', 0, cur', rfl, by omega, (Array.getElem?_eq_some_iff.1 hg').1, hg', hn, .inr (by omega), fun j x hj => ?_⟩), ?_⟩
        · have := r1'.cells (g := g') rfl j (.int .u8 (x.toNat : Int)) (bc_get hj)
          rw [addr_add, Lib.cell_of_heap hg'] at this
          exact this
        · exact ⟨r2.os, r2.tape, r2.output, r2.size, fun k hk _ => r2.block k hk (fun h => by cases h)⟩
theorem wpList_own {ops : Array Oper} {rest : List Oper} {op : Oper} {A : Act} {Q : Exit → Act → World → Prop} (w : World) (hg : op.guard = none) (s x : Operand) (hop : op.op = Op.call { callee := Callee.builtin Builtin.append, args := #[s, x], argTypes := #[23, 23] })
    (lo hi : Nat) (hlo : lo ≤ w.heap.size) (hhi : hi ≤ w.heap.size) (a : Option Addr) (l : List UInt8) (c : Nat) (h : Own lo hi w a l c) (aR : Option Addr) (r : List UInt8) (cR : Nat) (hB : Bs w aR r cR) (hlen : l.length + r.length ≤ 140737488355328)
    (hs : A.eval s = .slice a l.length c) (hx : A.eval x = .slice aR r.length cR)
    (hK : ∀ ar cr w' n, n = (l ++ r).length → Own lo w'.heap.size w' ar (l ++ r) cr → Out lo hi w w' → wpList Tryz.prog ops Q rest (A.put op.dst (.slice ar n cr)) w') :
    wpList Tryz.prog ops Q (op :: rest) A w := by
  refine wpList_plain hg fun K hK' => ?_
  obtain ⟨ar, cr, w', hrun, h1, h2⟩ := append lo hi w hlo a l c h aR r cR hB hlen op.type
  unfold Oper.wp
  simp [execOp, hop, resolve, invoke, builtin, hs, hx, hrun, Result.andThen]
  refine hK' _ _ (hK ar cr w' _ List.length_append.symm ?_ h2)
  rcases h1 with h1 | h1
  · exact h1.mono (Nat.le_refl _) (Nat.le_trans hhi h2.size)
  · exact h1
theorem bs_out {w w' : World} {a : Option Addr} {l : List UInt8} {c p hi : Nat} (h : Bs w a l c) (ho : Out p hi w w') (hd : l ≠ [] → ∀ q, a = some q → ¬ (p ≤ q.block ∧ q.block < hi)) : Bs w' a l c := by
  by_cases hl : l = []
  · exact ⟨h.1, h.2.1, .inl hl⟩
  · exact ⟨h.1, h.2.1, h.2.2.imp id fun ⟨b, o, h1, h3, h4⟩ => ⟨b, o, h1, Nat.lt_of_lt_of_le h3 ho.size, fun j x hj => (World.cell?_of_block (a := ⟨b, o + j, none⟩) (ho.block b h3 (hd hl _ h1))).trans (h4 j x hj)⟩⟩
theorem Out.setCell {p hi : Nat} {w w' : World} (h : Out p hi w w') {q : Addr} (hq : q.block = p) (hp : p < hi) (u : Value) : Out p hi w (w'.setCell q u) :=
  ⟨h.os, h.tape, h.output, by simpa [World.setCell] using h.size, fun k hk hn => by
    rw [Below.heap_setCell _ _ _ _ (fun e => by subst e; omega)]
    exact h.block k hk hn⟩
theorem Out.mono {p hi p' hi' : Nat} {w w' : World} (h : Out p hi w w') (h1 : p' ≤ p) (h2 : hi ≤ hi') : Out p' hi' w w' :=
  ⟨h.os, h.tape, h.output, h.size, fun k hk hn => h.block k hk fun hm => hn ⟨by omega, by omega⟩⟩
theorem Out.drew {p hi : Nat} {w w' : World} (h : Out p hi w w') : Out p hi w w'.drew := ⟨h.os, h.tape, h.output, h.size, h.block⟩
theorem Own.drew {lo hi : Nat} {w : World} {a : Option Addr} {l : List UInt8} {c : Nat} (h : Own lo hi w a l c) : Own lo hi w.drew a l c := h
theorem Own.cut {lo hi : Nat} {w : World} {g o : Nat} {l : List UInt8} {c : Nat} (h : Own lo hi w (some ⟨g, o, none⟩) l c) (n : Nat) (hn : n ≤ l.length) (o' : Nat) (ho : n < c → o' = o + n * 1) : Own lo hi w (some ⟨g, o', none⟩) (l.drop n) (c - n) := by
  rcases h with ⟨h, _⟩ | ⟨g1, o1, cur, h1, h2, h3, h4, h5, h6, h7⟩
  · cases h
  · cases h1
    refine .inr ⟨g, o', cur, rfl, h2, h3, h4, by rw [List.length_drop]; omega, ?_, fun j x hj => ?_⟩
    · by_cases hc : n < c
      · right; have := ho hc; omega
      · left; omega
    · rw [List.getElem?_drop] at hj
      have hl := (List.getElem?_eq_some_iff.1 hj).1
      have := ho (by omega)
      rw [this, Nat.mul_one, Nat.add_assoc]
      exact h7 _ x hj
end Go.Proofs.YtidflagmdabfaaaGreatDoor.Lf
namespace Go.Proofs.YtidflagmdabfaaaGreatDoor.Slc
open Go.RowKit Go.Proofs.YtidflagmdabfaaaGreatDoor

theorem sized {t : TypeId} {s : Nat} {P : Program} (hs : ∀ W, (sizeOf (P.elem t)).run P W = .ok s W) : ∀ W, (sizeOf (P.elem t)).run P W = .ok s W := hs
theorem addr_if (g o l s : Nat) (p : Prop) [Decidable p] : (if p then (some ⟨g, o, none⟩ : Option Addr) else (some ⟨g, o, none⟩ : Option Addr).map (·.add (l * s))) = some ⟨g, if p then o else o + l * s, none⟩ := by
  by_cases h : p
  · rw [if_pos h, if_pos h]
  · rw [if_neg h, if_neg h]
    simp only [Option.map_some, Option.some.injEq]
    unfold Addr.add
    split <;> simp_all
/-- x[l:] -/
theorem cut_from {P : Program} {t : TypeId} (ht : P.underlying t = some (.slice (P.elem t))) {s : Nat} (hs : ∀ W, (sizeOf (P.elem t)).run P W = .ok s W) (g o n c l : Nat) (z : Int) (hz : z = l) (h : l ≤ n) :
    ∃ o', (l < c → o' = o + l * s) ∧ ∀ W, (Instr.sliceAt t (.slice (some ⟨g, o, none⟩) n c) (some (.int .i64 z)) none none).run P W = .ok (.slice (some ⟨g, o', none⟩) (n - l) (c - l)) W := by
  subst hz
  refine ⟨if c = l then o else o + l * s, fun h => if_neg (by omega), fun W => ?_⟩
  rw [run_sliceAt_slice W t _ _ _ _ ht, run_slice_l W t _ n c ht .i64 l (by omega) (by omega), hs]
  simp only [Result.andThen, sliced, Int.toNat_natCast, addr_if]
/-- x[l:h] -/
theorem cut_mid {P : Program} {t : TypeId} (ht : P.underlying t = some (.slice (P.elem t))) {s : Nat} (hs : ∀ W, (sizeOf (P.elem t)).run P W = .ok s W) (g o n c l k : Nat) (z y : Int) (hz : z = l) (hy : y = l + k) (h : l + k ≤ c) :
    ∃ o', (l < c → o' = o + l * s) ∧ ∀ W, (Instr.sliceAt t (.slice (some ⟨g, o, none⟩) n c) (some (.int .i64 z)) (some (.int .i64 y)) none).run P W = .ok (.slice (some ⟨g, o', none⟩) k (c - l)) W := by
  subst hz hy
  refine ⟨if c = l then o else o + l * s, fun h => if_neg (by omega), fun W => ?_⟩
  rw [run_sliceAt_slice W t _ _ _ _ ht, run_slice_lh W t _ n c ht .i64 .i64 l (l + k) (by omega) (by omega) (by omega), hs]
  have e : ((l : Int) + (k : Int)).toNat = l + k := by omega
  simp only [Result.andThen, sliced, Int.toNat_natCast, e, addr_if, Nat.add_sub_cancel_left]
end Go.Proofs.YtidflagmdabfaaaGreatDoor.Slc
