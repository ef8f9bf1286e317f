/-
  Fields of HTTP in memory; two of package api's errors.
-/
import Derived.Test.YtnhjbcjeeilicaaGreatDoorProg
import Derived.Test.YtnhjbcjeeilicaaGreatDoorHtPlain
import Derived.Test.YtnhjbcjeeilicaaGreatDoorCom
import Derived.Below
import Derived.WalkKit
import Derived.OwnWalk
import Derived.Laws.AppendOwn
namespace Go.Proofs.YtnhjbcjeeilicaaGreatDoor.HtW
open Go.RowKit Go.Proofs.YtnhjbcjeeilicaaGreatDoor Go.Proofs.YtnhjbcjeeilicaaGreatDoor.Ht

theorem infoField : (Tryz.prog.info? 39).map (fun i => (i.zero, i.size, i.bytes)) = some (some (.agg #[.string ⟨#[]⟩, .string ⟨#[]⟩]), 2, 32) := by kernel_rfl
theorem infoByte : (Tryz.prog.info? 5).map (fun i => (i.zero, i.size, i.bytes)) = some (some (.int .u8 0), 1, 1) := by kernel_rfl
theorem info_parts {o : Option TypeInfo} {z : Value} {s b : Nat} (h : o.map (fun i => (i.zero, i.size, i.bytes)) = some (some z, s, b)) : ∃ i0, o = some i0 ∧ i0.zero = some z ∧ i0.size = s ∧ i0.bytes = b := by
  cases o with
  | none => cases h
  | some i => simp at h; exact ⟨i, rfl, h.1, h.2.1, h.2.2⟩
theorem addr_add (b off k : Nat) : (⟨b, off, none⟩ : Addr).add k = ⟨b, off + k, none⟩ := by
  unfold Addr.add; split <;> simp_all
/-- fields, as cells -/
def fcells (fs : List Fld) : List Value := fs.flatMap fun p => [.string ⟨p.1.toArray⟩, .string ⟨p.2.toArray⟩]
theorem fcells_snoc (fs : List Fld) (n v : List UInt8) : fcells (fs ++ [(n, v)]) = fcells fs ++ [.string ⟨n.toArray⟩, .string ⟨v.toArray⟩] := by simp [fcells]
theorem fcells_length (fs : List Fld) : (fcells fs).length = fs.length * 2 := by
  induction fs with
  | nil => rfl
  | cons p r ih => simp only [fcells, List.flatMap_cons, List.length_append, List.length_cons] at ih ⊢; simp only [List.length_nil]; omega
theorem fcells_get {fs : List Fld} : ∀ {j : Nat} {p : Fld}, fs[j]? = some p → (fcells fs)[j * 2]? = some (.string ⟨p.1.toArray⟩) ∧ (fcells fs)[j * 2 + 1]? = some (.string ⟨p.2.toArray⟩) := by
  induction fs with
  | nil => intro j p h; simp at h
  | cons q r ih =>
    intro j p h
    cases j with
    | zero => simp at h; subst h; simp [fcells]
    | succ j =>
      have := ih (j := j) (p := p) (by simpa using h)
      simp only [fcells, List.flatMap_cons] at this ⊢
      rw [show (j + 1) * 2 = j * 2 + 2 by omega, show j * 2 + 2 + 1 = (j * 2 + 1) + 2 by omega]
      simpa using this
/-- fields lie at a -/
def Fs (w : World) (a : Option Addr) (fs : List Fld) : Prop :=
  fs = [] ∨ ∃ b o, a = some ⟨b, o, none⟩ ∧ b < w.heap.size ∧ ∀ (j : Nat) p, fs[j]? = some p → w.cell? ⟨b, o + j * 2, none⟩ = some (.string ⟨p.1.toArray⟩) ∧ w.cell? ⟨b, o + j * 2 + 1, none⟩ = some (.string ⟨p.2.toArray⟩)
theorem Fs.below {w w' : World} {a : Option Addr} {fs : List Fld} (h : Fs w a fs) (hb : Below w.heap.size w w') : Fs w' a fs :=
  h.imp id fun ⟨b, o, h1, h2, h3⟩ => ⟨b, o, h1, Nat.lt_of_lt_of_le h2 hb.size, fun j p hj => ⟨(hb.cell (p := ⟨b, _, none⟩) h2).trans (h3 j p hj).1, (hb.cell (p := ⟨b, _, none⟩) h2).trans (h3 j p hj).2⟩⟩
theorem Fs.at {w : World} {a : Option Addr} {fs : List Fld} (hp : Fs w a fs) {k : Nat} {q : Fld} (h : fs[k]? = some q) : ∃ b o, a = some ⟨b, o, none⟩ ∧ b < w.heap.size ∧ w.cell? ⟨b, o + k * 2, none⟩ = some (.string ⟨q.1.toArray⟩) ∧ w.cell? ⟨b, o + k * 2 + 1, none⟩ = some (.string ⟨q.2.toArray⟩) := by
  rcases hp with hp | ⟨b, o, h1, h2, h3⟩
  · subst hp; cases h
  · exact ⟨b, o, h1, h2, h3 k q h⟩
theorem fs_of_own {w : World} {base : Nat} {v : Value} {fs : List Fld} (h : w.ownsRow base 39 2 v fs.length (fcells fs)) :
    ∃ a c, v = .slice a fs.length c ∧ fs.length ≤ c ∧ Fs w a fs := by
  rcases h.2 with ⟨rfl, h0⟩ | ⟨g, cap, cur, hv, hb, hg, hn, hm, hcs, htk⟩
  · have h0 : fs = [] := List.eq_nil_of_length_eq_zero h0
    subst h0
    exact ⟨none, 0, rfl, Nat.le_refl _, .inl rfl⟩
  · refine ⟨some ⟨g, 0, none⟩, cap, hv, hn, .inr ⟨g, 0, rfl, (Array.getElem?_eq_some_iff.1 hg).1, fun j p hj => ?_⟩⟩
    obtain ⟨q1, q2⟩ := fcells_get hj
    have c1 := h.cells (g := g) (by rw [hv]; rfl) _ _ q1
    have c2 := h.cells (g := g) (by rw [hv]; rfl) _ _ q2
    rw [addr_add] at c1 c2
    exact ⟨c1, c2⟩
theorem cells_two (w : World) (v0 v1 : Value) (t : TypeId) : ∀ (j : Nat) u, [v0, v1][j]? = some u → (w.alloc (.cells #[v0, v1] t)).cell? ((⟨w.heap.size, 0, none⟩ : Addr).add j) = some u := by
  intro j u hj
  match j, hj with
  | 0, hj => simp at hj; subst hj; simp [Addr.add]
  | 1, hj => simp at hj; subst hj; simp [Addr.add]

/-- the bytes l lie at a -/
def Bs (w : World) (a : Option Addr) (l : List UInt8) (c : Nat) : Prop :=
  l.length ≤ c ∧ (a = none → c = 0) ∧ (l = [] ∨ ∃ b o, a = some ⟨b, o, none⟩ ∧ b < w.heap.size ∧ ∀ j x, l[j]? = some x → w.cell? ⟨b, o + j, none⟩ = some (.int .u8 (x.toNat : Int)))
theorem Bs.below {w w' : World} {a : Option Addr} {l : List UInt8} {c : Nat} (h : Bs w a l c) (hb : Below w.heap.size w w') : Bs w' a l c :=
  ⟨h.1, h.2.1, h.2.2.imp id fun ⟨b, o, h1, h3, h4⟩ => ⟨b, o, h1, Nat.lt_of_lt_of_le h3 hb.size, fun j x hx => (hb.cell (p := ⟨b, o + j, none⟩) h3).trans (h4 j x hx)⟩⟩
theorem Bs.cells {w : World} {p : Addr} {l : List UInt8} {c : Nat} (h : Bs w (some p) l c) : ∀ (j : Nat) u, (Lib.byteCells l)[j]? = some u → w.cell? (p.add j) = some u := by
  intro j u hj
  obtain ⟨x, hx, rfl⟩ : ∃ x, l[j]? = some x ∧ Value.int .u8 (x.toNat : Int) = u := by
    simp only [Lib.byteCells, List.getElem?_map, Option.map_eq_some_iff] at hj; exact hj
  rcases h.2.2 with h0 | ⟨b, o, hp, hlt, hc⟩
  · subst h0; simp at hx
  · obtain rfl : p = ⟨b, o, none⟩ := by simpa using hp
    rw [addr_add]
    exact hc j x hx
theorem bs_of_own {w : World} {base : Nat} {e : TypeId} {v : Value} {l : List UInt8} (h : w.ownsRow base e 1 v l.length (Lib.byteCells l)) :
    ∃ a c, v = .slice a l.length c ∧ Bs w a l c := by
  rcases h.2 with ⟨rfl, h0⟩ | ⟨g, cap, cur, hv, hb, hg, hn, hm, hcs, htk⟩
  · have h0 : l = [] := List.eq_nil_of_length_eq_zero h0
    subst h0
    exact ⟨none, 0, rfl, Nat.le_refl _, fun _ => rfl, .inl rfl⟩
  · refine ⟨some ⟨g, 0, none⟩, cap, hv, hn, (fun h => by cases h), .inr ⟨g, 0, rfl, (Array.getElem?_eq_some_iff.1 hg).1, fun j x hx => ?_⟩⟩
    have := h.cells (g := g) (by rw [hv]; rfl) j (.int .u8 (x.toNat : Int)) (by simp [Lib.byteCells, hx])
    rwa [addr_add] at this
/-- a part of bytes -/
theorem Bs.part {w : World} {b o : Nat} {l : List UInt8} {c : Nat} (h : Bs w (some ⟨b, o, none⟩) l c) (i n : Nat) (hn : i + n ≤ l.length) (c' : Nat) (hc : n ≤ c') : Bs w (some ⟨b, o + i, none⟩) ((l.drop i).take n) c' := by
  refine ⟨by rw [List.length_take]; omega, (fun h => by cases h), ?_⟩
  rcases h.2.2 with h0 | ⟨b', o', hp, hlt, hcs⟩
  · left; subst h0; simp
  · cases hp
    refine .inr ⟨b, o + i, rfl, hlt, fun j x hx => ?_⟩
    rw [List.getElem?_take] at hx
    split at hx
    · rw [List.getElem?_drop] at hx
      rw [Nat.add_assoc]
      exact hcs _ x hx
    · cases hx
/-- bytes as a string -/
theorem to_string {w : World} {a : Option Addr} {l : List UInt8} {c : Nat} (h : Bs w a l c) : (convert 22 9 (.slice a l.length c)).run Tryz.prog w = .ok (.string ⟨l.toArray⟩) w := by
  cases a with
  | none =>
    obtain rfl := h.2.1 rfl
    obtain rfl : l = [] := List.eq_nil_of_length_eq_zero (by have := h.1; omega)
    kernel_rfl
  | some p =>
    refine run_convert_bytes_back w 22 9 5 p c l Tryz.underlying22 Tryz.underlying5 Tryz.underlying9 fun j hj => ?_
    exact h.cells j _ (by simp [Lib.byteCells, List.getElem?_eq_getElem hj])

/-- an error's value -/
abbrev ev (a : Addr) : Value := .iface 126 (.pointer (some a))
/-- two of package api's errors, in their variables -/
structure Errs (w : World) (aR aL : Addr) : Prop where
  req : w.cell? ⟨12, 0, none⟩ = some (.iface 126 (.pointer (some aR)))
  large : w.cell? ⟨0, 0, none⟩ = some (.iface 126 (.pointer (some aL)))
theorem Errs.below {w w' : World} {aR aL : Addr} (h : Errs w aR aL) (hb : Below w.heap.size w w') : Errs w' aR aL :=
  ⟨(hb.cell (World.block_lt_of_cell? w _ h.req)).trans h.req, (hb.cell (World.block_lt_of_cell? w _ h.large)).trans h.large⟩
def erv (aR aL : Addr) : Er → Value
  | .bad => ev aR
  | .large => ev aL
end Go.Proofs.YtnhjbcjeeilicaaGreatDoor.HtW
