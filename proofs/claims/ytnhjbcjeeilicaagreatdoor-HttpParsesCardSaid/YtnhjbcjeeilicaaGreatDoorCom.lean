/-
  Small lemmas on bytes, strings and cells, of no program.
-/
import Derived.WalkKit
import Derived.Lib.Hide
import Derived.Lib.Strings
import Derived.Lib.Builder
import Derived.Lib.AppendStr
import Derived.Lib.UnsafeStr
namespace Go.Proofs.YtnhjbcjeeilicaaGreatDoor.Com
open Go.RowKit

theorem u8_ne {c d : UInt8} (h : c ≠ d) {n : Int} (hn : n = (d.toNat : Int)) : ((c.toNat : Int) == n) = false := by
  subst hn
  simp only [beq_eq_false_iff_ne, ne_eq]
  intro e
  exact h (UInt8.toNat_inj.1 (by omega))
theorem u8_bne {c d : UInt8} (h : c ≠ d) {n : Int} (hn : n = (d.toNat : Int)) : ((c.toNat : Int) != n) = true := by
  rw [bne, u8_ne h hn]; rfl
theorem mk_get0 (c : UInt8) (t : List UInt8) : ∀ h, (ByteArray.mk (c :: t).toArray)[0]'h = c := fun _ => rfl
theorem mk_drop1 (c : UInt8) (t : List UInt8) {n : Nat} (hn : n = t.length + 1) : (ByteArray.mk (c :: t).toArray).extract 1 n = ⟨t.toArray⟩ := by
  subst hn
  simp [ByteArray.extract, ByteArray.copySlice]
theorem take_succ (s : ByteArray) (k : Nat) (h : k < s.size) : s.data.toList.take (k + 1) = s.data.toList.take k ++ [s[k]] := by
  rw [List.take_succ_eq_append_getElem (by simpa using h)]; rfl
theorem byteCells_append (a b : List UInt8) : Lib.byteCells (a ++ b) = Lib.byteCells a ++ Lib.byteCells b := by simp [Lib.byteCells]
theorem byteCells_length (a : List UInt8) : (Lib.byteCells a).length = a.length := by simp [Lib.byteCells]
theorem byteCells_snoc (a : List UInt8) (c : UInt8) : Lib.byteCells (a ++ [c]) = Lib.byteCells a ++ [.int .u8 c.toNat] := by simp [Lib.byteCells]
theorem strCells_mk (a : List UInt8) : Lib.strCells ⟨a.toArray⟩ = Lib.byteCells a := by simp [Lib.strCells, Lib.byteCells]
theorem size_mk (a : List UInt8) : (ByteArray.mk a.toArray).size = a.length := by show a.toArray.size = _; simp
theorem mk_data (s : ByteArray) : (⟨s.data.toList.toArray⟩ : ByteArray) = s := by cases s; simp
theorem str_eq {v : Value} {a b : List UInt8} (hv : v = .string ⟨a.toArray⟩) (h : a = b) : Ending.returned v = .returned (.string ⟨b.toArray⟩) := by rw [hv, h]
theorem mk_append (a b : List UInt8) : (⟨a.toArray⟩ : ByteArray) ++ ⟨b.toArray⟩ = ⟨(a ++ b).toArray⟩ := by simp [ByteArray.mk_append_mk]
theorem toList_length (s : ByteArray) : s.data.toList.length = s.size := rfl
theorem cat {a b c : List UInt8} (h : c = a ++ b) : Value.string ((⟨a.toArray⟩ : ByteArray) ++ ⟨b.toArray⟩) = .string ⟨c.toArray⟩ := by rw [mk_append, h]
theorem extract_data (s : ByteArray) (i j : Nat) : (s.extract i j).data.toList = (s.data.toList.take j).drop i := by
  simp [ByteArray.data_extract, List.drop_take]
theorem extract_one (s : ByteArray) (k : Nat) (h : k < s.size) : s.extract k (k + 1) = ⟨[s[k]].toArray⟩ := by
  rw [← mk_data (s.extract k (k + 1)), extract_data, take_succ s k h, List.drop_append_of_le_length (by rw [List.length_take, toList_length]; omega), List.drop_eq_nil_of_le (by rw [List.length_take]; omega)]
  rfl
theorem take_all (s : ByteArray) (k : Nat) (h : k = s.size) : s.data.toList.take k = s.data.toList := List.take_of_length_le (by rw [toList_length, h]; exact Nat.le_refl _)
theorem builderAt_alloc {T e : TypeId} {B b : Nat} {p : Value} {bs : List Value} {w : World} (h : Lib.BuilderAt T e B b p bs w) (o : Obj) : Lib.BuilderAt T e B b p bs (w.alloc o) := by
  have hlt := h.lt
  obtain ⟨hB, v, hb, hown, hne⟩ := h
  exact ⟨hB, v, (Lib.alloc_old w o b hlt).trans hb, hown.alloc _, hne⟩
theorem isBuilder_alloc {T e : TypeId} {B b : Nat} {bs : List Value} {w : World} (h : Lib.IsBuilder T e B b bs w) (o : Obj) : Lib.IsBuilder T e B b bs (w.alloc o) :=
  h.imp (builderAt_alloc · o) (builderAt_alloc · o)
theorem toList_mk (l : List UInt8) : (ByteArray.mk l.toArray).toList = l := by simp
theorem toList_data (s : ByteArray) : s.toList = s.data.toList := by rw [← mk_data s, toList_mk]
theorem one_byte {P : Program} (w : World) (src dst e : TypeId) (hs : P.underlying src = some (.slice e)) (he : P.underlying e = some (.int .u8)) (hd : P.underlying dst = some .string) (j : Nat) (h : j < 256) :
    (convert src dst (.slice (some ⟨w.heap.size, 0, none⟩) 1 1)).run P (w.alloc (.cells #[.int .u8 (j : Int)] e)) = .ok (.string ⟨[UInt8.ofNat j].toArray⟩) (w.alloc (.cells #[.int .u8 (j : Int)] e)) := by
  refine run_convert_bytes_back (w.alloc (.cells #[.int .u8 (j : Int)] e)) src dst e ⟨w.heap.size, 0, none⟩ 1 [UInt8.ofNat j] hs he hd fun i hi => ?_
  obtain rfl : i = 0 := by simpa using hi
  have : (UInt8.ofNat j).toNat = j := by simp; omega
  simp [Addr.add, this]
theorem own_below {w w' : World} {base : Nat} {e : TypeId} {size : Nat} {v : Value} {n : Nat} {xs : List Value} (h : w.ownsRow base e size v n xs) (hb : Below w.heap.size w w') : w'.ownsRow base e size v n xs :=
  h.kept (row := none) ⟨hb.os, hb.tape, hb.output, hb.size, fun i hi _ => hb.block i hi⟩ (Classical.em _)
theorem cells_new (w : World) (v : Value) (t : TypeId) : ∀ (j : Nat) u, [v][j]? = some u → (w.alloc (.cells #[v] t)).cell? ((⟨w.heap.size, 0, none⟩ : Addr).add j) = some u := by
  intro j u hj
  match j, hj with
  | 0, hj => simp at hj; subst hj; simp [Addr.add]
theorem intercalate_nil (xs : List (List UInt8)) : ([] : List UInt8).intercalate xs = xs.flatten := by
  unfold List.intercalate
  induction xs with
  | nil => rfl
  | cons x r ih =>
    cases r with
    | nil => rfl
    | cons y r => simp only [List.intersperse_cons_cons, List.flatten_cons, List.nil_append]; rw [ih]; rfl
/-- a slice of strings, read at its elements -/
def Strs (w : World) (a : Option Addr) (xs : List ByteArray) : Prop :=
  xs = [] ∨ ∃ b o, a = some ⟨b, o, none⟩ ∧ b < w.heap.size ∧ ∀ j x, xs[j]? = some x → w.cell? ⟨b, o + j, none⟩ = some (.string x)
/-- the bytes of a list of strings, one behind the other -/
def flat (xs : List ByteArray) : List UInt8 := (xs.map (·.data.toList)).flatten
theorem flat_nil : flat [] = [] := rfl
theorem flat_snoc (xs : List ByteArray) (x : ByteArray) : flat (xs ++ [x]) = flat xs ++ x.data.toList := by simp [flat]
theorem flat_append (xs ys : List ByteArray) : flat (xs ++ ys) = flat xs ++ flat ys := by simp [flat]
theorem flat_one (x : ByteArray) : flat [x] = x.data.toList := by simp [flat]
theorem flat_take_le (xs : List ByteArray) (k : Nat) : (flat (xs.take k)).length ≤ (flat xs).length := by
  conv => rhs; rw [← List.take_append_drop k xs, flat_append]
  simp
theorem Strs.below {w w' : World} {a : Option Addr} {xs : List ByteArray} (h : Strs w a xs) (hb : Below w.heap.size w w') : Strs w' a xs := by
  rcases h with h | ⟨b, o, h1, h2, h3⟩
  · exact .inl h
  · exact .inr ⟨b, o, h1, Nat.lt_of_lt_of_le h2 hb.size, fun j x hx => (hb.cell (p := ⟨b, o + j, none⟩) h2).trans (h3 j x hx)⟩
theorem strs_of_own {w : World} {base : Nat} {e : TypeId} {v : Value} {ts : List ByteArray} (h : w.ownsRow base e 1 v ts.length (ts.map Value.string)) :
    ∃ A c, v = .slice A ts.length c ∧ ts.length ≤ c ∧ Strs w A ts := by
  rcases h.2 with ⟨rfl, h0⟩ | ⟨g, cap, cur, hv, hb, hg, hn, hm, hcs, htk⟩
  · rw [List.eq_nil_of_length_eq_zero h0]
    exact ⟨none, 0, rfl, Nat.le_refl _, .inl rfl⟩
  · refine ⟨some ⟨g, 0, none⟩, cap, hv, hn, .inr ⟨g, 0, rfl, (Array.getElem?_eq_some_iff.1 hg).1, fun j x hx => ?_⟩⟩
    have := h.cells (g := g) (by rw [hv]; rfl) j (.string x) (by rw [List.getElem?_map, hx]; rfl)
    rw [Nat.zero_add]
    by_cases h0 : j = 0
    · subst h0; simpa [Addr.add] using this
    · simpa [Addr.add, h0] using this

end Go.Proofs.YtnhjbcjeeilicaaGreatDoor.Com
