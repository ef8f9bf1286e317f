/-
  Small lemmas on bytes, strings and cells, of no program. The walk of bollardnum's Num: the errors of package api by their numbers. errors.Is over the errors of errors.New's make, at the Shelf's seat (turned from the worked proof Sentry). SHA-256 and keyed digests on lists of bytes. Plain: of no program. Plain Lean: numbers, lists and sums as bytes (wire), a shard as a file (frame).
-/
import Derived.WalkKit
import Derived.Lib.Hide
import Derived.Lib.Strings
import Derived.Lib.Builder
import Derived.Lib.AppendStr
import Derived.Lib.UnsafeStr
import Derived.Test.YtecnnlppinhmgaaGreatDoorProg
import Derived.Below
import Derived.LaidEql
import Derived.Deep.LoopGhost
import Derived.Stop.LaidErr
import Derived.Stop.Asserts
import Derived.RowKitTokens
import Derived.Laws.BitsLemmas
namespace Go.Proofs.YtecnnlppinhmgaaGreatDoor.Com
open Go.RowKit

theorem u8_ne {c d : UInt8} (h : c ≠ d) {n : Int} (hn : n = (d.toNat : Int)) : ((c.toNat : Int) == n) = false := by
  subst hn
  simp only [beq_eq_false_iff_ne, ne_eq]
  intro e
  exact h (UInt8.toNat_inj.1 (by omega))
theorem u8_bne {c d : UInt8} (h : c ≠ d) {n : Int} (hn : n = (d.toNat : Int)) : ((c.toNat : Int) != n) = true := by
  rw [bne, u8_ne h hn]; rfl
theorem mk_get0 (c : UInt8) (t : List UInt8) : ∀ h, (ByteArray.mk (c :: t).toArray)[0]'h = c := fun _ => rfl
theorem mk_drop1 (c : UInt8) (t : List UInt8) {n : Nat} (hn : n = t.length + 1) : (ByteArray.mk (c :: t).toArray).extract 1 n = ⟨t.toArray⟩ := by
  subst hn
  simp [ByteArray.extract, ByteArray.copySlice]
theorem take_succ (s : ByteArray) (k : Nat) (h : k < s.size) : s.data.toList.take (k + 1) = s.data.toList.take k ++ [s[k]] := by
  rw [List.take_succ_eq_append_getElem (by simpa using h)]; rfl
theorem byteCells_append (a b : List UInt8) : Lib.byteCells (a ++ b) = Lib.byteCells a ++ Lib.byteCells b := by simp [Lib.byteCells]
theorem byteCells_length (a : List UInt8) : (Lib.byteCells a).length = a.length := by simp [Lib.byteCells]
theorem byteCells_snoc (a : List UInt8) (c : UInt8) : Lib.byteCells (a ++ [c]) = Lib.byteCells a ++ [.int .u8 c.toNat] := by simp [Lib.byteCells]
theorem strCells_mk (a : List UInt8) : Lib.strCells ⟨a.toArray⟩ = Lib.byteCells a := by simp [Lib.strCells, Lib.byteCells]
theorem size_mk (a : List UInt8) : (ByteArray.mk a.toArray).size = a.length := by show a.toArray.size = _; simp
theorem mk_data (s : ByteArray) : (⟨s.data.toList.toArray⟩ : ByteArray) = s := by cases s; simp
theorem str_eq {v : Value} {a b : List UInt8} (hv : v = .string ⟨a.toArray⟩) (h : a = b) : Ending.returned v = .returned (.string ⟨b.toArray⟩) := by rw [hv, h]
theorem mk_append (a b : List UInt8) : (⟨a.toArray⟩ : ByteArray) ++ ⟨b.toArray⟩ = ⟨(a ++ b).toArray⟩ := by simp [ByteArray.mk_append_mk]
theorem toList_length (s : ByteArray) : s.data.toList.length = s.size := rfl
theorem cat {a b c : List UInt8} (h : c = a ++ b) : Value.string ((⟨a.toArray⟩ : ByteArray) ++ ⟨b.toArray⟩) = .string ⟨c.toArray⟩ := by rw [mk_append, h]
theorem extract_data (s : ByteArray) (i j : Nat) : (s.extract i j).data.toList = (s.data.toList.take j).drop i := by
  simp [ByteArray.data_extract, List.drop_take]
theorem extract_one (s : ByteArray) (k : Nat) (h : k < s.size) : s.extract k (k + 1) = ⟨[s[k]].toArray⟩ := by
  rw [← mk_data (s.extract k (k + 1)), extract_data, take_succ s k h, List.drop_append_of_le_length (by rw [List.length_take, toList_length]; omega), List.drop_eq_nil_of_le (by rw [List.length_take]; omega)]
  rfl
theorem take_all (s : ByteArray) (k : Nat) (h : k = s.size) : s.data.toList.take k = s.data.toList := List.take_of_length_le (by rw [toList_length, h]; exact Nat.le_refl _)
theorem builderAt_alloc {T e : TypeId} {B b : Nat} {p : Value} {bs : List Value} {w : World} (h : Lib.BuilderAt T e B b p bs w) (o : Obj) : Lib.BuilderAt T e B b p bs (w.alloc o) := by
  have hlt := h.lt
  obtain ⟨hB, v, hb, hown, hne⟩ := h
  exact ⟨hB, v, (Lib.alloc_old w o b hlt).trans hb, hown.alloc _, hne⟩
theorem isBuilder_alloc {T e : TypeId} {B b : Nat} {bs : List Value} {w : World} (h : Lib.IsBuilder T e B b bs w) (o : Obj) : Lib.IsBuilder T e B b bs (w.alloc o) :=
  h.imp (builderAt_alloc · o) (builderAt_alloc · o)
theorem toList_mk (l : List UInt8) : (ByteArray.mk l.toArray).toList = l := by simp
theorem toList_data (s : ByteArray) : s.toList = s.data.toList := by rw [← mk_data s, toList_mk]
theorem one_byte {P : Program} (w : World) (src dst e : TypeId) (hs : P.underlying src = some (.slice e)) (he : P.underlying e = some (.int .u8)) (hd : P.underlying dst = some .string) (j : Nat) (h : j < 256) :
    (convert src dst (.slice (some ⟨w.heap.size, 0, none⟩) 1 1)).run P (w.alloc (.cells #[.int .u8 (j : Int)] e)) = .ok (.string ⟨[UInt8.ofNat j].toArray⟩) (w.alloc (.cells #[.int .u8 (j : Int)] e)) := by
  refine run_convert_bytes_back (w.alloc (.cells #[.int .u8 (j : Int)] e)) src dst e ⟨w.heap.size, 0, none⟩ 1 [UInt8.ofNat j] hs he hd fun i hi => ?_
  obtain rfl : i = 0 := by simpa using hi
  have : (UInt8.ofNat j).toNat = j := by simp; omega
  simp [Addr.add, this]
theorem own_below {w w' : World} {base : Nat} {e : TypeId} {size : Nat} {v : Value} {n : Nat} {xs : List Value} (h : w.ownsRow base e size v n xs) (hb : Below w.heap.size w w') : w'.ownsRow base e size v n xs :=
  h.kept (row := none) ⟨hb.os, hb.tape, hb.output, hb.size, fun i hi _ => hb.block i hi⟩ (Classical.em _)
theorem cells_new (w : World) (v : Value) (t : TypeId) : ∀ (j : Nat) u, [v][j]? = some u → (w.alloc (.cells #[v] t)).cell? ((⟨w.heap.size, 0, none⟩ : Addr).add j) = some u := by
  intro j u hj
  match j, hj with
  | 0, hj => simp at hj; subst hj; simp [Addr.add]
theorem intercalate_nil (xs : List (List UInt8)) : ([] : List UInt8).intercalate xs = xs.flatten := by
  unfold List.intercalate
  induction xs with
  | nil => rfl
  | cons x r ih =>
    cases r with
    | nil => rfl
    | cons y r => simp only [List.intersperse_cons_cons, List.flatten_cons, List.nil_append]; rw [ih]; rfl
/-- a slice of strings, read at its elements -/
def Strs (w : World) (a : Option Addr) (xs : List ByteArray) : Prop :=
  xs = [] ∨ ∃ b o, a = some ⟨b, o, none⟩ ∧ b < w.heap.size ∧ ∀ j x, xs[j]? = some x → w.cell? ⟨b, o + j, none⟩ = some (.string x)
/-- the bytes of a list of strings, one behind the other -/
def flat (xs : List ByteArray) : List UInt8 := (xs.map (·.data.toList)).flatten
theorem flat_nil : flat [] = [] := rfl
theorem flat_snoc (xs : List ByteArray) (x : ByteArray) : flat (xs ++ [x]) = flat xs ++ x.data.toList := by simp [flat]
theorem flat_append (xs ys : List ByteArray) : flat (xs ++ ys) = flat xs ++ flat ys := by simp [flat]
theorem flat_one (x : ByteArray) : flat [x] = x.data.toList := by simp [flat]
theorem flat_take_le (xs : List ByteArray) (k : Nat) : (flat (xs.take k)).length ≤ (flat xs).length := by
  conv => rhs; rw [← List.take_append_drop k xs, flat_append]
  simp
theorem Strs.below {w w' : World} {a : Option Addr} {xs : List ByteArray} (h : Strs w a xs) (hb : Below w.heap.size w w') : Strs w' a xs := by
  rcases h with h | ⟨b, o, h1, h2, h3⟩
  · exact .inl h
  · exact .inr ⟨b, o, h1, Nat.lt_of_lt_of_le h2 hb.size, fun j x hx => (hb.cell (p := ⟨b, o + j, none⟩) h2).trans (h3 j x hx)⟩
theorem strs_of_own {w : World} {base : Nat} {e : TypeId} {v : Value} {ts : List ByteArray} (h : w.ownsRow base e 1 v ts.length (ts.map Value.string)) :
    ∃ A c, v = .slice A ts.length c ∧ ts.length ≤ c ∧ Strs w A ts := by
  rcases h.2 with ⟨rfl, h0⟩ | ⟨g, cap, cur, hv, hb, hg, hn, hm, hcs, htk⟩
  · rw [List.eq_nil_of_length_eq_zero h0]
    exact ⟨none, 0, rfl, Nat.le_refl _, .inl rfl⟩
  · refine ⟨some ⟨g, 0, none⟩, cap, hv, hn, .inr ⟨g, 0, rfl, (Array.getElem?_eq_some_iff.1 hg).1, fun j x hx => ?_⟩⟩
    have := h.cells (g := g) (by rw [hv]; rfl) j (.string x) (by rw [List.getElem?_map, hx]; rfl)
    rw [Nat.zero_add]
    by_cases h0 : j = 0
    · subst h0; simpa [Addr.add] using this
    · simpa [Addr.add, h0] using this

end Go.Proofs.YtecnnlppinhmgaaGreatDoor.Com
namespace Go.Proofs.YtecnnlppinhmgaaGreatDoor.Err
open Go.RowKit Go.Proofs.YtecnnlppinhmgaaGreatDoor

abbrev ev (a : Addr) : Value := .iface 224 (.pointer (some a))
theorem infoErr : (Tryz.prog.info? 224).map (·.comparable) = some true := by kernel_rfl
theorem infoErr2 : (Tryz.prog.info? 226).map (·.size) = some 1 := by kernel_rfl
theorem eqErr (a : Addr) (w : World) : (binOp .eql 28 (ev a) (ev a)).run Tryz.prog w = .ok (.bool true) w := by
  obtain ⟨i, hi, hc⟩ := Option.map_eq_some_iff.1 infoErr
  obtain ⟨j, hj, _⟩ := Option.map_eq_some_iff.1 infoErr2
  exact run_eql_iface_ptr_same w a Tryz.underlying28 Tryz.underlying224 hi hc hj
theorem neErr {a b : Addr} {w : World} {ca cb : Array Value} {ta tb : TypeId} (hne : a ≠ b) (ha : w.heap[a.block]? = some (.cells ca ta (0, 0))) (hb : w.heap[b.block]? = some (.cells cb tb (0, 0))) : (binOp .eql 28 (ev a) (ev b)).run Tryz.prog w = .ok (.bool false) w := by
  obtain ⟨i, hi, hc⟩ := Option.map_eq_some_iff.1 infoErr
  obtain ⟨j, hj, hs⟩ := Option.map_eq_some_iff.1 infoErr2
  exact run_eql_iface_ptr_other w Tryz.underlying28 Tryz.underlying224 hi hc hj (by rw [hs]; decide) hne ha hb
/-- an error in its variable -/
structure Er (w : World) (g : Nat) (text : List UInt8) (a : Addr) : Prop where
  cell : w.cell? ⟨g, 0, none⟩ = some (ev a)
  text : ∃ s, w.cell? a = some (.string s) ∧ s.data.toList = text
  block : ∃ c t, w.heap[a.block]? = some (.cells c t (0, 0))
theorem Er.below {w w' : World} {g : Nat} {text : List UInt8} {a : Addr} (h : Er w g text a) (hb : Below w.heap.size w w') : Er w' g text a := by
  obtain ⟨s, h1, h2⟩ := h.text
  obtain ⟨c, t, h3⟩ := h.block
  exact ⟨(hb.cell (p := ⟨g, 0, none⟩) (World.block_lt_of_cell? w _ h.cell)).trans h.cell, ⟨s, (hb.cell (World.block_lt_of_cell? w _ h1)).trans h1, h2⟩, ⟨c, t, (hb.block _ (Array.getElem?_eq_some_iff.1 h3).1).trans h3⟩⟩
theorem Er.ne {w : World} {g g' : Nat} {text text' : List UInt8} {a a' : Addr} (h : Er w g text a) (h' : Er w g' text' a') (ht : text ≠ text') : a ≠ a' := by
  rintro rfl
  obtain ⟨s, h1, h2⟩ := h.text
  obtain ⟨s', h1', h2'⟩ := h'.text
  rw [h1] at h1'
  cases h1'
  exact ht (h2.symm.trans h2')
theorem Er.eq {w : World} {g : Nat} {text : List UInt8} {a a' : Addr} (h : Er w g text a) (h' : w.cell? ⟨g, 0, none⟩ = some (ev a')) : a' = a := by
  have := h'.symm.trans h.cell
  simpa using this

/-- the errors' texts, by number -/
def texts : List (List UInt8) := [[98, 111, 108, 108, 97, 114, 100, 58, 32, 112, 97, 114, 97, 109, 115], [98, 111, 108, 108, 97, 114, 100, 58, 32, 110, 117, 109, 98, 101, 114], [98, 111, 108, 108, 97, 114, 100, 58, 32, 100, 97, 116, 97], [98, 111, 108, 108, 97, 114, 100, 58, 32, 108, 111, 115, 116], [98, 111, 108, 108, 97, 114, 100, 58, 32, 98, 121, 116, 101, 115], [98, 111, 108, 108, 97, 114, 100, 58, 32, 100, 105, 103, 101, 115, 116], [98, 111, 108, 108, 97, 114, 100, 58, 32, 110, 97, 109, 101], [98, 111, 108, 108, 97, 114, 100, 58, 32, 103, 111, 110, 101], [98, 111, 108, 108, 97, 114, 100, 58, 32, 116, 104, 101, 114, 101], [98, 111, 108, 108, 97, 114, 100, 58, 32, 102, 117, 108, 108], [98, 111, 108, 108, 97, 114, 100, 58, 32, 108, 97, 114, 103, 101], [98, 111, 108, 108, 97, 114, 100, 58, 32, 98, 97, 108, 108, 111, 116], [98, 111, 108, 108, 97, 114, 100, 58, 32, 114, 101, 113, 117, 101, 115, 116], [98, 111, 108, 108, 97, 114, 100, 58, 32, 117, 114, 105], [98, 111, 108, 108, 97, 114, 100, 58, 32, 100, 101, 110, 105, 101, 100], [98, 111, 108, 108, 97, 114, 100, 58, 32, 115, 107, 101, 119], [98, 111, 108, 108, 97, 114, 100, 58, 32, 109, 101, 116, 104, 111, 100], [98, 111, 108, 108, 97, 114, 100, 58, 32, 115, 116, 97, 116, 101]]
theorem texts_inj : ∀ i, i < 18 → ∀ j, j < 18 → texts[i]? = texts[j]? → i = j := by decide +kernel
end Go.Proofs.YtecnnlppinhmgaaGreatDoor.Err
namespace Go.Proofs.YtecnnlppinhmgaaGreatDoor.IsF
open Go.RowKit Go.Extern.Stop Go.Stop Go.Extern Go.Proofs.YtecnnlppinhmgaaGreatDoor Go.Proofs.YtecnnlppinhmgaaGreatDoor.Err

theorem isTypeOf (v : Value) (w : World) : (Extern.ReflectliteType.typeOf #[.iface 224 v]).run Tryz.prog w = .ok (.iface 141 (.agg #[.pointer (some ⟨15, 224, none⟩)])) w := by kernel_rfl
def cmpF : TypeId → Sem Value := fun t => do Go.Extern.Rtype.noPackHeld "Comparable" t; pure (.bool (← typeInfo t).comparable)
theorem isComparable (w : World) : ((Extern.ReflectliteType.method cmpF) #[.agg #[.pointer (some ⟨15, 224, none⟩)]]).run Tryz.prog w = .ok (.bool true) w := by kernel_rfl
theorem isMethodComparable (v : Value) (w : World) : (Go.method 366 141 v "Comparable").run Tryz.prog w = .ok (187, v) w := by kernel_rfl
theorem noIsF (v : Value) (xT : TypeId) (w : World) : (Instr.typeAssert (.iface 224 v) xT 143 true).run Tryz.prog w = .ok (.tuple #[.nilIface, .bool false]) w := run_typeAssert_lacksB Tryz.underlying143 (by kernel_rfl) (by kernel_rfl) v xT w
theorem noUnwrapE (v : Value) (xT : TypeId) (w : World) : (Instr.typeAssert (.iface 224 v) xT 146 true).run Tryz.prog w = .ok (.tuple #[.nilIface, .bool false]) w := run_typeAssert_lacksB Tryz.underlying146 (by kernel_rfl) (by kernel_rfl) v xT w
theorem noUnwrapsE (v : Value) (xT : TypeId) (w : World) : (Instr.typeAssert (.iface 224 v) xT 147 true).run Tryz.prog w = .ok (.tuple #[.nilIface, .bool false]) w := run_typeAssert_lacksB Tryz.underlying147 (by kernel_rfl) (by kernel_rfl) v xT w

/-- errors.Is(nil, x) -/
theorem is_nil (b : Addr) (w : World) : Calls Tryz.prog 39 #[.nilIface, ev b] w fun e w' => e = .returned (.bool false) ∧ w = w' := by
  have hn := run_eql_iface_nil_left (P := Tryz.prog) w 224 (.pointer (some b)) Tryz.underlying28
  go_enter Tryz.func39, Tryz.ntmps39
  go_wp2
  go_ret
  exact ⟨rfl, rfl⟩
/-- errors.is(x, x) -/
theorem iss_same (a : Addr) (w : World) : Calls Tryz.prog 60 #[ev a, ev a, .bool true] w fun e w' => e = .returned (.bool true) ∧ w = w' := by
  have heq := eqErr a w
  go_enter Tryz.func60, Tryz.ntmps60
  go_wp2
  refine wp_loop_rounds 1 ?_
  rw [rounds_succ]
  go_wp2
  go_ret
  exact ⟨rfl, rfl⟩
/-- errors.is(x, y) at two other errors -/
theorem iss_other {a b : Addr} {ca cb : Array Value} {ta tb : TypeId} {w : World} (hne : a ≠ b) (ha : w.heap[a.block]? = some (.cells ca ta (0, 0))) (hb : w.heap[b.block]? = some (.cells cb tb (0, 0))) : Calls Tryz.prog 60 #[ev a, ev b, .bool true] w fun e w' => e = .returned (.bool false) ∧ w = w' := by
  have heq := neErr hne ha hb
  have nE := noIsF
  have uE := noUnwrapE
  have vE := noUnwrapsE
  go_enter Tryz.func60, Tryz.ntmps60
  go_wp2
  refine wp_loop_rounds 1 ?_
  rw [rounds_succ]
  go_wp2
  go_ret
  exact ⟨rfl, rfl⟩
set_option maxHeartbeats 1000000 in
set_option maxRecDepth 100000 in
/-- errors.Is(x, x) -/
theorem is_same (a : Addr) (w : World) : Calls Tryz.prog 39 #[ev a, ev a] w fun e w' => e = .returned (.bool true) ∧ w = w' := by
  have h8 := @run_callFunc_extern Tryz.prog 59 _ Extern.ReflectliteType.typeOf Tryz.func59 (by kernel_rfl) (by kernel_rfl) (by kernel_rfl) (by kernel_rfl)
  have h32 := @run_callFunc_extern Tryz.prog 187 _ (Extern.ReflectliteType.method cmpF) Tryz.func187 (by kernel_rfl) (by kernel_rfl) (by kernel_rfl) (by kernel_rfl)
  have tT := isTypeOf
  have cT := isComparable
  have mR := isMethodComparable
  go_enter Tryz.func39, Tryz.ntmps39
  go_wp2_with (go_at_call 60; refine (iss_same a _).mono ?_; rintro e w1 ⟨rfl, hw1⟩; subst hw1)
  go_ret
  exact ⟨rfl, rfl⟩
set_option maxHeartbeats 1000000 in
set_option maxRecDepth 100000 in
/-- errors.Is(x, y) at two other errors -/
theorem is_other {a b : Addr} {ca cb : Array Value} {ta tb : TypeId} {w : World} (hne : a ≠ b) (ha : w.heap[a.block]? = some (.cells ca ta (0, 0))) (hb : w.heap[b.block]? = some (.cells cb tb (0, 0))) : Calls Tryz.prog 39 #[ev a, ev b] w fun e w' => e = .returned (.bool false) ∧ w = w' := by
  have h8 := @run_callFunc_extern Tryz.prog 59 _ Extern.ReflectliteType.typeOf Tryz.func59 (by kernel_rfl) (by kernel_rfl) (by kernel_rfl) (by kernel_rfl)
  have h32 := @run_callFunc_extern Tryz.prog 187 _ (Extern.ReflectliteType.method cmpF) Tryz.func187 (by kernel_rfl) (by kernel_rfl) (by kernel_rfl) (by kernel_rfl)
  have tT := isTypeOf
  have cT := isComparable
  have mR := isMethodComparable
  have HN := Lib.hid hne
  have HA := Lib.hid ha
  have HB := Lib.hid hb
  clear hne ha hb
  go_enter Tryz.func39, Tryz.ntmps39
  go_wp2_with (go_at_call 60; refine (iss_other HN.out HA.out HB.out).mono ?_; rintro e w1 ⟨rfl, hw1⟩; subst hw1)
  go_ret
  exact ⟨rfl, rfl⟩

/-- errors.Is at two errors in their variables -/
theorem is_er {w : World} {g g' : Nat} {t t' : List UInt8} {a b : Addr} (h : Er w g t a) (h' : Er w g' t' b) (hne : t ≠ t') : Calls Tryz.prog 39 #[ev a, ev b] w fun e w' => e = .returned (.bool false) ∧ w = w' := by
  obtain ⟨ca, ta, ha⟩ := h.block
  obtain ⟨cb, tb, hb⟩ := h'.block
  exact is_other (h.ne h' hne) ha hb
end Go.Proofs.YtecnnlppinhmgaaGreatDoor.IsF
namespace Go.Proofs.YtecnnlppinhmgaaGreatDoor.Sha

abbrev M : Nat := 4294967296
/-- turned to the right -/
def rotr (x n : Nat) : Nat := (x >>> n) ||| ((x <<< (32 - n)) % M)
def s0 (x : Nat) : Nat := rotr x 7 ^^^ rotr x 18 ^^^ (x >>> 3)
def s1 (x : Nat) : Nat := rotr x 17 ^^^ rotr x 19 ^^^ (x >>> 10)
def e0 (x : Nat) : Nat := rotr x 2 ^^^ rotr x 13 ^^^ rotr x 22
def e1 (x : Nat) : Nat := rotr x 6 ^^^ rotr x 11 ^^^ rotr x 25
def ch (e f g : Nat) : Nat := (e &&& f) ^^^ ((e ^^^ 4294967295) &&& g)
def maj (a b c : Nat) : Nat := (a &&& b) ^^^ (a &&& c) ^^^ (b &&& c)
def K : List Nat := [
  0x428a2f98, 0x71374491, 0xb5c0fbcf, 0xe9b5dba5, 0x3956c25b, 0x59f111f1, 0x923f82a4, 0xab1c5ed5,
  0xd807aa98, 0x12835b01, 0x243185be, 0x550c7dc3, 0x72be5d74, 0x80deb1fe, 0x9bdc06a7, 0xc19bf174,
  0xe49b69c1, 0xefbe4786, 0x0fc19dc6, 0x240ca1cc, 0x2de92c6f, 0x4a7484aa, 0x5cb0a9dc, 0x76f988da,
  0x983e5152, 0xa831c66d, 0xb00327c8, 0xbf597fc7, 0xc6e00bf3, 0xd5a79147, 0x06ca6351, 0x14292967,
  0x27b70a85, 0x2e1b2138, 0x4d2c6dfc, 0x53380d13, 0x650a7354, 0x766a0abb, 0x81c2c92e, 0x92722c85,
  0xa2bfe8a1, 0xa81a664b, 0xc24b8b70, 0xc76c51a3, 0xd192e819, 0xd6990624, 0xf40e3585, 0x106aa070,
  0x19a4c116, 0x1e376c08, 0x2748774c, 0x34b0bcb5, 0x391c0cb3, 0x4ed8aa4a, 0x5b9cca4f, 0x682e6ff3,
  0x748f82ee, 0x78a5636f, 0x84c87814, 0x8cc70208, 0x90befffa, 0xa4506ceb, 0xbef9a3f7, 0xc67178f2]
/-- the eight words -/
structure St where
  a : Nat
  b : Nat
  c : Nat
  d : Nat
  e : Nat
  f : Nat
  g : Nat
  h : Nat
deriving DecidableEq
def St.ok (s : St) : Prop := s.a < M ∧ s.b < M ∧ s.c < M ∧ s.d < M ∧ s.e < M ∧ s.f < M ∧ s.g < M ∧ s.h < M
def init : St := ⟨0x6a09e667, 0xbb67ae85, 0x3c6ef372, 0xa54ff53a, 0x510e527f, 0x9b05688c, 0x1f83d9ab, 0x5be0cd19⟩
/-- a block's word -/
def word (l : List UInt8) (t : Nat) : Nat := (((l.getD (4 * t) 0).toNat * 256 + (l.getD (4 * t + 1) 0).toNat) * 256 + (l.getD (4 * t + 2) 0).toNat) * 256 + (l.getD (4 * t + 3) 0).toNat
/-- the word behind t words -/
def next (l : List UInt8) (w : List Nat) (t : Nat) : Nat :=
  if t < 16 then word l t else (((w.getD (t - 16) 0 + s0 (w.getD (t - 15) 0)) % M + w.getD (t - 7) 0) % M + s1 (w.getD (t - 2) 0)) % M
/-- the first t words -/
def sched (l : List UInt8) : Nat → List Nat
  | 0 => []
  | t + 1 => sched l t ++ [next l (sched l t) t]
def t1 (s : St) (k w : Nat) : Nat := ((((s.h + e1 s.e) % M + ch s.e s.f s.g) % M + k) % M + w) % M
def t2 (s : St) : Nat := (e0 s.a + maj s.a s.b s.c) % M
def round (s : St) (k w : Nat) : St := ⟨(t1 s k w + t2 s) % M, s.a, s.b, s.c, (s.d + t1 s k w) % M, s.e, s.f, s.g⟩
/-- the state behind t rounds -/
def rounds (s : St) (w : List Nat) : Nat → St
  | 0 => s
  | t + 1 => round (rounds s w t) (K.getD t 0) (w.getD t 0)
def add (s r : St) : St := ⟨(r.a + s.a) % M, (r.b + s.b) % M, (r.c + s.c) % M, (r.d + s.d) % M, (r.e + s.e) % M, (r.f + s.f) % M, (r.g + s.g) % M, (r.h + s.h) % M⟩
/-- the state behind a block -/
def digest (s : St) (l : List UInt8) : St := add s (rounds s (sched l 64) 64)
/-- the state behind n blocks -/
def blocks (s : St) : Nat → List UInt8 → St
  | 0, _ => s
  | n + 1, l => blocks (digest s (l.take 64)) n (l.drop 64)
/-- a number as eight bytes -/
def be8 (n : Nat) : List UInt8 := [56, 48, 40, 32, 24, 16, 8, 0].map fun i => UInt8.ofNat (n / 2 ^ i)
/-- how many zeros stand behind the mark -/
def zeros (n : Nat) : Nat := (55 + 64 - n % 64) % 64
/-- a message, filled up -/
def pad (l : List UInt8) : List UInt8 := l ++ 128 :: (List.replicate (zeros l.length) 0 ++ be8 (8 * l.length))
def bytes4 (x : Nat) : List UInt8 := [UInt8.ofNat (x / 16777216), UInt8.ofNat (x / 65536), UInt8.ofNat (x / 256), UInt8.ofNat x]
def out (s : St) : List UInt8 := bytes4 s.a ++ bytes4 s.b ++ bytes4 s.c ++ bytes4 s.d ++ bytes4 s.e ++ bytes4 s.f ++ bytes4 s.g ++ bytes4 s.h
/-- the digest -/
def sha (l : List UInt8) : List UInt8 := out (blocks init ((pad l).length / 64) (pad l))

theorem xor_lt {x y : Nat} (hx : x < M) (hy : y < M) : x ^^^ y < M := Nat.xor_lt_two_pow (n := 32) hx hy
theorem and_lt {x y : Nat} (hy : y < M) : x &&& y < M := Nat.lt_of_le_of_lt Nat.and_le_right hy
theorem or_lt {x y : Nat} (hx : x < M) (hy : y < M) : x ||| y < M := Nat.or_lt_two_pow (n := 32) hx hy
theorem shr_lt {x : Nat} (n : Nat) (hx : x < M) : x >>> n < M := Nat.lt_of_le_of_lt (Nat.shiftRight_le _ _) hx
theorem rotr_lt {x : Nat} (n : Nat) (hx : x < M) : rotr x n < M := or_lt (shr_lt n hx) (Nat.mod_lt _ (by decide))
theorem s0_lt {x : Nat} (hx : x < M) : s0 x < M := xor_lt (xor_lt (rotr_lt _ hx) (rotr_lt _ hx)) (shr_lt _ hx)
theorem s1_lt {x : Nat} (hx : x < M) : s1 x < M := xor_lt (xor_lt (rotr_lt _ hx) (rotr_lt _ hx)) (shr_lt _ hx)
theorem e0_lt {x : Nat} (hx : x < M) : e0 x < M := xor_lt (xor_lt (rotr_lt _ hx) (rotr_lt _ hx)) (rotr_lt _ hx)
theorem e1_lt {x : Nat} (hx : x < M) : e1 x < M := xor_lt (xor_lt (rotr_lt _ hx) (rotr_lt _ hx)) (rotr_lt _ hx)
theorem ch_lt {e f g : Nat} (hf : f < M) (hg : g < M) : ch e f g < M := xor_lt (and_lt hf) (and_lt hg)
theorem maj_lt {a b c : Nat} (hb : b < M) (hc : c < M) : maj a b c < M := xor_lt (xor_lt (and_lt hb) (and_lt hc)) (and_lt hc)
theorem word_lt (l : List UInt8) (t : Nat) : word l t < M := by
  have h0 := UInt8.toNat_lt (l.getD (4 * t) 0)
  have h1 := UInt8.toNat_lt (l.getD (4 * t + 1) 0)
  have h2 := UInt8.toNat_lt (l.getD (4 * t + 2) 0)
  have h3 := UInt8.toNat_lt (l.getD (4 * t + 3) 0)
  show word l t < 4294967296
  unfold word
  omega
theorem next_lt (l : List UInt8) (w : List Nat) (t : Nat) : next l w t < M := by
  unfold next
  split
  · exact word_lt l t
  · exact Nat.mod_lt _ (by decide)
theorem sched_length (l : List UInt8) : ∀ t, (sched l t).length = t
  | 0 => rfl
  | t + 1 => by rw [sched, List.length_append, sched_length l t]; rfl
theorem sched_lt (l : List UInt8) : ∀ t, ∀ x ∈ sched l t, x < M
  | 0, x, h => by simp [sched] at h
  | t + 1, x, h => by
    rw [sched] at h
    rcases List.mem_append.1 h with h | h
    · exact sched_lt l t x h
    · obtain rfl := List.mem_singleton.1 h
      exact next_lt _ _ _
theorem sched_at (l : List UInt8) {j : Nat} : ∀ {t : Nat}, j < t → (sched l t)[j]? = some (next l (sched l j) j)
  | 0, h => absurd h (Nat.not_lt_zero _)
  | t + 1, h => by
    rw [sched]
    rcases Nat.lt_or_ge j t with h2 | h2
    · rw [List.getElem?_append_left (by rw [sched_length]; exact h2)]
      exact sched_at l h2
    · obtain rfl : j = t := by omega
      rw [List.getElem?_append_right (by rw [sched_length]; exact Nat.le_refl _), sched_length, Nat.sub_self]
      rfl
theorem getD_lt {w : List Nat} (h : ∀ x ∈ w, x < M) (j : Nat) : w.getD j 0 < M := by
  rw [List.getD_eq_getElem?_getD]
  cases e : w[j]? with
  | none => decide
  | some x => exact h x (List.mem_of_getElem? e)
theorem K_lt : ∀ x ∈ K, x < M := by decide +kernel
theorem K_length : K.length = 64 := rfl
theorem round_ok {s : St} {k w : Nat} (h : s.ok) : (round s k w).ok := by
  obtain ⟨h0, h1, h2, h3, h4, h5, h6, h7⟩ := h
  exact ⟨Nat.mod_lt _ (by decide), h0, h1, h2, Nat.mod_lt _ (by decide), h4, h5, h6⟩
theorem rounds_ok {s : St} {w : List Nat} (h : s.ok) : ∀ t, (rounds s w t).ok
  | 0 => h
  | t + 1 => round_ok (rounds_ok h t)
theorem add_ok (s r : St) : (add s r).ok := by
  refine ⟨?_, ?_, ?_, ?_, ?_, ?_, ?_, ?_⟩ <;> exact Nat.mod_lt _ (by decide)
theorem digest_ok (s : St) (l : List UInt8) : (digest s l).ok := add_ok _ _
theorem init_ok : init.ok := ⟨by decide, by decide, by decide, by decide, by decide, by decide, by decide, by decide⟩
theorem blocks_ok : ∀ (n : Nat) {s : St} (l : List UInt8), s.ok → (blocks s n l).ok
  | 0, _, _, h => h
  | n + 1, _, _, _ => blocks_ok n _ (digest_ok _ _)
theorem blocks_add (m : Nat) : ∀ (n : Nat) (s : St) (l : List UInt8), blocks s (n + m) l = blocks (blocks s n l) m (l.drop (64 * n))
  | 0, s, l => by simp [blocks]
  | n + 1, s, l => by
    rw [show n + 1 + m = (n + m) + 1 by omega, blocks, blocks_add m n, blocks, List.drop_drop, show 64 + 64 * n = 64 * (n + 1) by omega]
theorem blocks_app : ∀ (n : Nat) (s : St) (l r : List UInt8), 64 * n ≤ l.length → blocks s n (l ++ r) = blocks s n l
  | 0, s, l, r, _ => rfl
  | n + 1, s, l, r, h => by
    rw [blocks, blocks, List.take_append_of_le_length (by omega), List.drop_append_of_le_length (by omega)]
    exact blocks_app n _ _ r (by rw [List.length_drop]; omega)
theorem zeros_spec (n : Nat) : (n + 1 + zeros n) % 64 = 56 := by
  unfold zeros
  omega
theorem pad_length (l : List UInt8) : (pad l).length = l.length + 1 + zeros l.length + 8 := by
  unfold pad be8
  simp only [List.length_append, List.length_cons, List.length_replicate, List.length_map, List.length_nil]
  omega
theorem pad_mod (l : List UInt8) : (pad l).length % 64 = 0 := by
  have := zeros_spec l.length
  rw [pad_length]
  omega
theorem out_length (s : St) : (out s).length = 32 := rfl
theorem sha_length (l : List UInt8) : (sha l).length = 32 := rfl

/-- keyed -/
def key64 (k : List UInt8) : List UInt8 := let k' := if 64 < k.length then sha k else k
  k' ++ List.replicate (64 - k'.length) 0
def mac (k m : List UInt8) : List UInt8 := sha ((key64 k).map (· ^^^ 92) ++ sha ((key64 k).map (· ^^^ 54) ++ m))
theorem mac_length (k m : List UInt8) : (mac k m).length = 32 := rfl
end Go.Proofs.YtecnnlppinhmgaaGreatDoor.Sha
namespace Go.Proofs.YtecnnlppinhmgaaGreatDoor.Fp

/-- the sum of bytes -/
def fnv (l : List UInt8) : Nat := l.foldl (fun s c => ((s ^^^ c.toNat) * 16777619) % 4294967296) 2166136261
def sealB (l : List UInt8) : List UInt8 := l ++ Sha.bytes4 (fnv l)
/-- a number's bytes -/
def encF : Nat → Nat → List UInt8
  | 0, n => [UInt8.ofNat n]
  | f + 1, n => if n < 128 then [UInt8.ofNat n] else UInt8.ofNat (n % 128 + 128) :: encF f (n / 128)
def enc (n : Nat) : List UInt8 := encF 8 n
/-- the number at the head of bytes, and how many bytes it has -/
def rdF : Nat → Nat → Nat → List UInt8 → Option (Nat × Nat)
  | 0, _, _, _ => none
  | _ + 1, _, _, [] => none
  | f + 1, i, n, c :: t => if c.toNat < 128 then (if c.toNat ≠ 0 ∨ i = 0 then some (n + c.toNat % 128 * 128 ^ i, i + 1) else none) else rdF f (i + 1) (n + c.toNat % 128 * 128 ^ i) t
def rd (l : List UInt8) : Option (Nat × Nat) := rdF 9 0 0 l
/-- numbers, one behind the other -/
def nums : Nat → List UInt8 → Option (List Nat × List UInt8)
  | 0, l => some ([], l)
  | k + 1, l => match rd l with
    | none => none
    | some (n, c) => if 1099511627776 < n then none else match nums k (l.drop c) with
      | none => none
      | some (ns, r) => some (n :: ns, r)
structure Stamp where
  node : Nat
  boot : Nat
  seq : Nat
  shard : Nat
  size : Nat
deriving DecidableEq
def Stamp.fits (s : Stamp) : Prop := s.node < 16 ∧ s.boot ≤ 1099511627776 ∧ s.seq ≤ 1099511627776 ∧ s.shard < 16 ∧ s.size ≤ 1024
instance (s : Stamp) : Decidable s.fits := by unfold Stamp.fits; infer_instance
/-- errors by their number: 4 bytes, 5 digest -/
def openB (l : List UInt8) : Except Nat (List UInt8) := if l.length < 4 then .error 4 else if sealB (l.take (l.length - 4)) = l then .ok (l.take (l.length - 4)) else .error 5
def ofNums (ns : List Nat) (r rest : List UInt8) : Except Nat (Stamp × Nat × List UInt8) :=
  match ns with
  | [m, a, b, s, h, z, k] => if m = 1 ∧ r = [] ∧ Stamp.fits ⟨a, b, s, h, z⟩ ∧ k ≤ 1024 then .ok (⟨a, b, s, h, z⟩, k, rest) else .error 4
  | _ => .error 4
def split (f : List UInt8) : Except Nat (Stamp × Nat × List UInt8) :=
  match rd f with
  | none => .error 4
  | some (n, c) => if 256 < n ∨ f.length - c < n then .error 4 else
    match openB ((f.drop c).take n) with
    | .error e => .error e
    | .ok o => match nums 7 o with
      | none => .error 4
      | some (ns, r) => ofNums ns r (f.drop (c + n))
def body : Nat → Nat → List UInt8 → Except Nat (List UInt8)
  | 0, _, _ => .ok []
  | g + 1, n, rest => if n = 0 then .ok [] else
    if Sha.sha (rest.take (min n 32)) = (rest.drop (min n 32)).take 32 then
      match body g (n - min n 32) (rest.drop (min n 32 + 32)) with
      | .error e => .error e
      | .ok l => .ok (rest.take (min n 32) ++ l)
    else .error 5
def get (f : List UInt8) : Except Nat (Stamp × List UInt8) :=
  match split f with
  | .error e => .error e
  | .ok (s, n, rest) => if rest.length ≠ n + (n + 31) / 32 * 32 then .error 4 else
    match body n n rest with
    | .error e => .error e
    | .ok l => .ok (s, l)
/-- the frame -/
def blks : Nat → List UInt8 → List UInt8
  | 0, _ => []
  | g + 1, l => if l = [] then [] else l.take 32 ++ Sha.sha (l.take 32) ++ blks g (l.drop 32)
def headOf (s : Stamp) (n : Nat) : List UInt8 := 1 :: (enc s.node ++ (enc s.boot ++ (enc s.seq ++ (enc s.shard ++ (enc s.size ++ enc n)))))
def put (s : Stamp) (l : List UInt8) : List UInt8 := let q := sealB (headOf s l.length); enc q.length ++ (q ++ blks l.length l)

theorem encF_len : ∀ f n, 1 ≤ (encF f n).length ∧ (encF f n).length ≤ f + 1
  | 0, n => by simp [encF]
  | f + 1, n => by
    unfold encF
    split
    · simp
    · have := encF_len f (n / 128)
      simp; omega
theorem enc_len (n : Nat) : 1 ≤ (enc n).length ∧ (enc n).length ≤ 9 := encF_len 8 n
theorem enc_small {n : Nat} (h : n < 128) : enc n = [UInt8.ofNat n] := by
  unfold enc encF; rw [if_pos h]
theorem rdF_enc : ∀ (f g i m n : Nat) (t : List UInt8), n < 128 ^ (f + 1) → f < g → (n ≠ 0 ∨ i = 0) → rdF g i m (encF f n ++ t) = some (m + n * 128 ^ i, i + (encF f n).length)
  | f, 0, _, _, _, _, _, h, _ => absurd h (Nat.not_lt_zero _)
  | 0, g + 1, i, m, n, t, hn, _, h0 => by
    have h1 : n < 128 := by simpa using hn
    have e : (UInt8.ofNat n).toNat = n := by rw [UInt8.toNat_ofNat']; exact Nat.mod_eq_of_lt (by omega)
    simp only [encF, List.cons_append, List.nil_append, rdF, e, if_pos h1, if_pos h0, Nat.mod_eq_of_lt h1, List.length_cons, List.length_nil]
  | f + 1, g + 1, i, m, n, t, hn, hg, h0 => by
    unfold encF
    by_cases h1 : n < 128
    · have e : (UInt8.ofNat n).toNat = n := by rw [UInt8.toNat_ofNat']; exact Nat.mod_eq_of_lt (by omega)
      simp only [if_pos h1, List.cons_append, List.nil_append, rdF, e, if_pos h0, Nat.mod_eq_of_lt h1, List.length_cons, List.length_nil]
    · have e : (UInt8.ofNat (n % 128 + 128)).toNat = n % 128 + 128 := by rw [UInt8.toNat_ofNat']; exact Nat.mod_eq_of_lt (by omega)
      have h2 : ¬ n % 128 + 128 < 128 := by omega
      have h3 : (n % 128 + 128) % 128 = n % 128 := by omega
      have h4 : n / 128 < 128 ^ (f + 1) := by
        rw [Nat.pow_succ] at hn
        exact Nat.div_lt_of_lt_mul (by rw [Nat.mul_comm]; exact hn)
      simp only [if_neg h1, List.cons_append, rdF, e, if_neg h2, h3, List.length_cons]
      rw [rdF_enc f g (i + 1) _ (n / 128) t h4 (by omega) (.inl (by omega))]
      have h5 : n % 128 * 128 ^ i + n / 128 * 128 ^ (i + 1) = n * 128 ^ i := by
        rw [Nat.pow_succ, Nat.mul_comm (128 ^ i) 128, ← Nat.mul_assoc, ← Nat.add_mul]
        congr 1
        omega
      rw [Nat.add_assoc, h5]
      congr 2
      omega
theorem rd_enc {n : Nat} (t : List UInt8) (h : n < 9223372036854775808) : rd (enc n ++ t) = some (n, (enc n).length) := by
  unfold rd enc
  rw [rdF_enc 8 9 0 0 n t (by simpa using h) (by omega) (.inr rfl)]
  simp
theorem nums_enc : ∀ (ns : List Nat) (t : List UInt8), (∀ n ∈ ns, n ≤ 1099511627776) → nums ns.length ((ns.map enc).flatten ++ t) = some (ns, t)
  | [], t, _ => by simp [nums]
  | n :: ns, t, h => by
    have h1 := h n List.mem_cons_self
    simp only [List.length_cons, nums, List.map_cons, List.flatten_cons, List.append_assoc]
    rw [rd_enc _ (by omega)]
    simp only
    rw [if_neg (by omega), List.drop_left, nums_enc ns t (fun x hx => h x (List.mem_cons_of_mem _ hx))]
theorem seal_len (l : List UInt8) : (sealB l).length = l.length + 4 := by simp [sealB, Sha.bytes4]
theorem open_seal (l : List UInt8) : openB (sealB l) = .ok l := by
  unfold openB
  have h1 := seal_len l
  have h2 : (sealB l).take ((sealB l).length - 4) = l := by
    rw [h1, Nat.add_sub_cancel]; unfold sealB; exact List.take_left
  rw [if_neg (by omega), h2, if_pos rfl]
theorem sha_len (l : List UInt8) : (Sha.sha l).length = 32 := by simp [Sha.sha, Sha.out, Sha.bytes4]
theorem blks_len : ∀ (g : Nat) (l : List UInt8), l.length ≤ g → (blks g l).length = l.length + (l.length + 31) / 32 * 32
  | 0, l, h => by
    have : l = [] := List.length_eq_zero_iff.1 (by omega)
    subst this; rfl
  | g + 1, l, h => by
    unfold blks
    split
    · next e => subst e; rfl
    · next e =>
      have h0 : l.length ≠ 0 := fun h => e (List.length_eq_zero_iff.1 h)
      rw [List.length_append, List.length_append, List.length_take, sha_len, blks_len g (l.drop 32) (by rw [List.length_drop]; omega), List.length_drop]
      omega
theorem body_blks : ∀ (g : Nat) (l : List UInt8), l.length ≤ g → body g l.length (blks g l) = .ok l
  | 0, l, h => by
    have : l = [] := List.length_eq_zero_iff.1 (by omega)
    subst this; rfl
  | g + 1, l, h => by
    unfold body blks
    by_cases e : l = []
    · subst e; rfl
    · have h0 : l.length ≠ 0 := fun h => e (List.length_eq_zero_iff.1 h)
      have hm : (l.take 32).length = min l.length 32 := by rw [List.length_take]; omega
      rw [if_neg h0, if_neg e]
      have e1 : (l.take 32 ++ Sha.sha (l.take 32) ++ blks g (l.drop 32)).take (min l.length 32) = l.take 32 := by
        rw [← hm, List.append_assoc, List.take_left]
      have e2 : ((l.take 32 ++ Sha.sha (l.take 32) ++ blks g (l.drop 32)).drop (min l.length 32)).take 32 = Sha.sha (l.take 32) := by
        rw [← hm, List.append_assoc, List.drop_left]
        exact List.take_left' (sha_len _)
      have e3 : (l.take 32 ++ Sha.sha (l.take 32) ++ blks g (l.drop 32)).drop (min l.length 32 + 32) = blks g (l.drop 32) := by
        have : min l.length 32 + 32 = (l.take 32 ++ Sha.sha (l.take 32)).length := by rw [List.length_append, hm, sha_len]
        rw [this, List.drop_left]
      have e4 : l.length - min l.length 32 = (l.drop 32).length := by rw [List.length_drop]; omega
      rw [e1, e2, e3, if_pos rfl, e4, body_blks g (l.drop 32) (by rw [List.length_drop]; omega)]
      simp [List.take_append_drop]
theorem head_eq (s : Stamp) (n : Nat) : headOf s n = ([1, s.node, s.boot, s.seq, s.shard, s.size, n].map enc).flatten ++ [] := by
  simp [headOf, enc_small (show 1 < 128 by decide)]
theorem head_len (s : Stamp) (n : Nat) : (headOf s n).length ≤ 61 := by
  have h1 := enc_len s.node
  have h2 := enc_len s.boot
  have h3 := enc_len s.seq
  have h4 := enc_len s.shard
  have h5 := enc_len s.size
  have h6 := enc_len n
  simp only [headOf, List.length_cons, List.length_append]; omega
theorem get_put {s : Stamp} {l : List UInt8} (hs : s.fits) (hl : l.length ≤ 1024) : get (put s l) = .ok (s, l) := by
  have hq := seal_len (headOf s l.length)
  have hh := head_len s l.length
  obtain ⟨f1, f2, f3, f4, f5⟩ := hs
  have e1 : split (put s l) = .ok (s, l.length, blks l.length l) := by
    unfold split put
    simp only
    rw [rd_enc _ (by omega)]
    simp only
    rw [if_neg (by rw [List.length_append, List.length_append]; omega), List.drop_left, List.take_left, open_seal]
    simp only
    rw [head_eq, show (7 : Nat) = [1, s.node, s.boot, s.seq, s.shard, s.size, l.length].length from rfl, nums_enc _ _ (by
      intro n hn
      simp only [List.mem_cons, List.not_mem_nil, or_false] at hn
      rcases hn with rfl | rfl | rfl | rfl | rfl | rfl | rfl <;> omega)]
    unfold ofNums
    simp only
    rw [if_pos (by exact ⟨trivial, trivial, ⟨f1, f2, f3, f4, f5⟩, hl⟩)]
    have : (enc (sealB (headOf s l.length)).length ++ (sealB (headOf s l.length) ++ blks l.length l)).drop ((enc (sealB (headOf s l.length)).length).length + (sealB (headOf s l.length)).length) = blks l.length l := by
      rw [← List.append_assoc, ← List.length_append, List.drop_left]
    rw [head_eq] at this
    rw [this]
  unfold get
  rw [e1]
  simp only
  rw [if_neg (by rw [blks_len _ _ (Nat.le_refl _)]; omega), body_blks _ _ (Nat.le_refl _)]
end Go.Proofs.YtecnnlppinhmgaaGreatDoor.Fp
