/-
  A drive in memory: what a world holds of it; what a call may turn.
-/
import Derived.Test.YtmimkgfkicgfiaaDoorProg
import Derived.Test.YtmimkgfkicgfiaaDoorDiskPlain
import Derived.Test.YtmimkgfkicgfiaaDoorCom
import Derived.Below
import Derived.StringKeys
import Derived.WalkKit
namespace Go.Proofs.YtmimkgfkicgfiaaDoor.Dw
open Go.RowKit Go.Maps Go.Sort Go.Proofs.YtmimkgfkicgfiaaDoor Go.WideShapes Go.WideMaps

/-- nothing that lay in w has turned but the blocks of l -/
structure Keep (l : List Nat) (w w' : World) : Prop where
  os : w'.os = w.os
  tape : w'.tape = w.tape
  output : w'.output = w.output
  size : w.heap.size ≤ w'.heap.size
  block : ∀ k, k < w.heap.size → k ∉ l → w'.heap[k]? = w.heap[k]?

theorem Keep.refl (l : List Nat) (w : World) : Keep l w w := ⟨rfl, rfl, rfl, Nat.le_refl _, fun _ _ _ => rfl⟩
theorem Keep.trans {l : List Nat} {a b c : World} (h : Keep l a b) (k : Keep l b c) : Keep l a c :=
  ⟨k.os.trans h.os, k.tape.trans h.tape, k.output.trans h.output, Nat.le_trans h.size k.size, fun i hi hn => (k.block i (Nat.lt_of_lt_of_le hi h.size) hn).trans (h.block i hi hn)⟩
theorem Keep.mono {l l' : List Nat} {a b : World} (h : Keep l a b) (hl : ∀ k ∈ l, k ∈ l') : Keep l' a b :=
  ⟨h.os, h.tape, h.output, h.size, fun i hi hn => h.block i hi fun hm => hn (hl i hm)⟩
theorem Keep.of_below {a b : World} (h : Below a.heap.size a b) (l : List Nat) : Keep l a b :=
  ⟨h.os, h.tape, h.output, h.size, fun i hi _ => h.block i hi⟩
theorem Keep.below {l : List Nat} {a b c : World} (h : Below a.heap.size a b) (k : Keep l b c) (hl : ∀ i ∈ l, a.heap.size ≤ i) : Below a.heap.size a c :=
  ⟨k.os.trans h.os, k.tape.trans h.tape, k.output.trans h.output, Nat.le_trans h.size k.size, fun i hi => (k.block i (Nat.lt_of_lt_of_le hi h.size) fun hm => by have := hl i hm; omega).trans (h.block i hi)⟩
theorem Keep.of_grown {l : List Nat} {a b : World} {row : Option Nat} (h : a.grownBy b row) (hr : ∀ k, row = some k → k ∈ l ∨ a.heap.size ≤ k) : Keep l a b :=
  ⟨h.os, h.tape, h.output, h.size, fun i hi hn => h.block i hi fun e => by
    rcases hr i e.symm with h | h
    · exact hn h
    · omega⟩
theorem Keep.alloc {l : List Nat} {a b : World} (h : Keep l a b) (o : Obj) : Keep l a (b.alloc o) :=
  h.trans (Keep.of_below ((Below.refl _ _).alloc (Nat.le_refl _) _) l)
theorem Keep.drew {l : List Nat} {a b : World} (h : Keep l a b) : Keep l a b.drew := ⟨h.os, h.tape, h.output, h.size, h.block⟩
theorem Keep.setCell {l : List Nat} {a b : World} (h : Keep l a b) {p : Addr} (hp : p.block ∈ l ∨ a.heap.size ≤ p.block) (u : Value) : Keep l a (b.setCell p u) :=
  ⟨h.os, h.tape, h.output, by simpa [World.setCell] using h.size, fun i hi hn => by
    rw [Below.heap_setCell _ _ _ _ (fun e => by subst e; rcases hp with hp | hp; exact hn hp; omega)]
    exact h.block i hi hn⟩
theorem Keep.cell {l : List Nat} {a b : World} (h : Keep l a b) {p : Addr} (h1 : p.block < a.heap.size) (h2 : p.block ∉ l) : b.cell? p = a.cell? p := World.cell?_of_block (w := a) (h.block p.block h1 h2)

/-- the bytes l lie at a, from block lo on -/
def Bs (lo : Nat) (w : World) (a : Option Addr) (l : List UInt8) (c : Nat) : Prop :=
  l.length ≤ c ∧ (a = none → c = 0) ∧ (l = [] ∨ ∃ b o, a = some ⟨b, o, none⟩ ∧ lo ≤ b ∧ b < w.heap.size ∧ ∀ j x, l[j]? = some x → w.cell? ⟨b, o + j, none⟩ = some (.int .u8 (x.toNat : Int)))
theorem Bs.nil (lo : Nat) (w : World) (a : Option Addr) (c : Nat) (h : a = none → c = 0) : Bs lo w a [] c := ⟨Nat.zero_le _, h, .inl rfl⟩
theorem Bs.keep {lo : Nat} {l : List Nat} {w w' : World} {a : Option Addr} {x : List UInt8} {c : Nat} (h : Bs lo w a x c) (hk : Keep l w w') (hl : ∀ k ∈ l, k < lo) : Bs lo w' a x c := by
  refine ⟨h.1, h.2.1, ?_⟩
  rcases h.2.2 with h | ⟨b, o, h1, h2, h3, h4⟩
  · exact .inl h
  · exact .inr ⟨b, o, h1, h2, Nat.lt_of_lt_of_le h3 hk.size, fun j y hy => (hk.cell (p := ⟨b, o + j, none⟩) h3 (fun hm => by have := hl b hm; omega)).trans (h4 j y hy)⟩
theorem Bs.below {lo : Nat} {w w' : World} {a : Option Addr} {x : List UInt8} {c : Nat} (h : Bs lo w a x c) (hk : Below w.heap.size w w') : Bs lo w' a x c :=
  h.keep (Keep.of_below hk []) (fun k hk => by cases hk)
theorem Bs.lower {lo lo' : Nat} {w : World} {a : Option Addr} {x : List UInt8} {c : Nat} (h : Bs lo w a x c) (hl : lo' ≤ lo) : Bs lo' w a x c := by
  refine ⟨h.1, h.2.1, ?_⟩
  rcases h.2.2 with h | ⟨b, o, h1, h2, h3⟩
  · exact .inl h
  · exact .inr ⟨b, o, h1, Nat.le_trans hl h2, h3⟩

theorem addr_add (b off k : Nat) : (⟨b, off, none⟩ : Addr).add k = ⟨b, off + k, none⟩ := by
  unfold Addr.add; split <;> simp_all
theorem bs_of_own {w : World} {base : Nat} {e : TypeId} {v : Value} {l : List UInt8} (h : w.ownsRow base e 1 v l.length (Lib.byteCells l)) :
    ∃ a c, v = .slice a l.length c ∧ Bs base w a l c := by
  rcases h.2 with ⟨rfl, h0⟩ | ⟨g, cap, cur, hv, hb, hg, hn, hm, hcs, htk⟩
  · have h0 : l = [] := List.eq_nil_of_length_eq_zero h0
    subst h0
    exact ⟨none, 0, rfl, Bs.nil _ _ _ _ fun _ => rfl⟩
  · refine ⟨some ⟨g, 0, none⟩, cap, hv, hn, (fun h => by cases h), .inr ⟨g, 0, rfl, hb, (Array.getElem?_eq_some_iff.1 hg).1, fun j x hx => ?_⟩⟩
    have := h.cells (g := g) (by rw [hv]; rfl) j (.int .u8 (x.toNat : Int)) (by simp [Lib.byteCells, hx])
    rwa [addr_add] at this
/-- a slice of bytes that can be read, as the cells that append asks for -/
theorem Bs.cells {lo : Nat} {w : World} {p : Addr} {l : List UInt8} {c : Nat} (h : Bs lo w (some p) l c) : ∀ (j : Nat) u, (Lib.byteCells l)[j]? = some u → w.cell? (p.add j) = some u := by
  intro j u hj
  obtain ⟨x, hx, rfl⟩ : ∃ x, l[j]? = some x ∧ Value.int .u8 (x.toNat : Int) = u := by
    simp only [Lib.byteCells, List.getElem?_map, Option.map_eq_some_iff] at hj; exact hj
  rcases h.2.2 with h0 | ⟨b, o, hp, _, hlt, hc⟩
  · subst h0; simp at hx
  · obtain rfl : p = ⟨b, o, none⟩ := by simpa using hp
    rw [addr_add]
    exact hc j x hx
theorem one_cells (l : List UInt8) : ∀ u ∈ Lib.byteCells l, u.oneCell' = true := by
  intro u hu
  obtain ⟨x, _, rfl⟩ : ∃ x ∈ l, Value.int .u8 (x.toNat : Int) = u := by simpa [Lib.byteCells] using hu
  rfl

/-- bytes that lie below block b -/
def BsIn (b : Nat) (w : World) (a : Option Addr) (l : List UInt8) (c : Nat) : Prop :=
  Bs 0 w a l c ∧ (l = [] ∨ ∃ g o, a = some ⟨g, o, none⟩ ∧ g < b ∧ g < w.heap.size ∧ ∀ (j : Nat) x, l[j]? = some x → w.cell? ⟨g, o + j, none⟩ = some (.int .u8 (x.toNat : Int)))
theorem BsIn.mk {w : World} {a : Option Addr} {l : List UInt8} {c : Nat} (h : Bs 0 w a l c) : BsIn w.heap.size w a l c :=
  ⟨h, h.2.2.imp id fun ⟨g, o, h1, _, h3, h4⟩ => ⟨g, o, h1, h3, h3, h4⟩⟩

/-- a file's value -/
abbrev fileV (a1 : Option Addr) (c1 : Nat) (a2 : Option Addr) (c2 : Nat) (f : Dp.File) : Value := .agg #[.slice a1 f.bytes.length c1, .slice a2 f.safe.length c2, .bool f.kept]
def FileIs (lo : Nat) (w : World) (v : Value) (f : Dp.File) : Prop :=
  ∃ a1 c1 a2 c2, v = fileV a1 c1 a2 c2 f ∧ Bs lo w a1 f.bytes c1 ∧ Bs lo w a2 f.safe c2
theorem FileIs.keep {lo : Nat} {l : List Nat} {w w' : World} {v : Value} {f : Dp.File} (h : FileIs lo w v f) (hk : Keep l w w') (hl : ∀ k ∈ l, k < lo) : FileIs lo w' v f := by
  obtain ⟨a1, c1, a2, c2, h1, h2, h3⟩ := h
  exact ⟨a1, c1, a2, c2, h1, h2.keep hk hl, h3.keep hk hl⟩

/-- an error's value -/
abbrev ev (a : Addr) : Value := .iface 233 (.pointer (some a))
/-- three of package api's errors, in their variables -/
structure Errs (w : World) (aN aF aG : Addr) : Prop where
  name : w.cell? ⟨1, 0, none⟩ = some (.iface 233 (.pointer (some aN)))
  full : w.cell? ⟨2, 0, none⟩ = some (.iface 233 (.pointer (some aF)))
  gone : w.cell? ⟨3, 0, none⟩ = some (.iface 233 (.pointer (some aG)))
/-- their variables lie below it -/
def top : Nat := max 1 (max 2 3)
theorem Errs.keep {l : List Nat} {w w' : World} {aN aF aG : Addr} (h : Errs w aN aF aG) (hk : Keep l w w') (hl : ∀ k ∈ l, top < k) : Errs w' aN aF aG := by
  have n : ∀ g, g ≤ top → g ∉ l := fun g hg hm => by have := hl g hm; omega
  exact ⟨(hk.cell (World.block_lt_of_cell? w _ h.name) (n _ (by simp [top]))).trans h.name, (hk.cell (World.block_lt_of_cell? w _ h.full) (n _ (by simp [top]))).trans h.full, (hk.cell (World.block_lt_of_cell? w _ h.gone) (n _ (by simp [top]))).trans h.gone⟩
theorem Errs.below {w w' : World} {aN aF aG : Addr} (h : Errs w aN aF aG) (hk : Below w.heap.size w w') : Errs w' aN aF aG := h.keep (Keep.of_below hk []) (fun k hk => by cases hk)
theorem Errs.lt {w : World} {aN aF aG : Addr} (h : Errs w aN aF aG) : top < w.heap.size := by
  have h1 := World.block_lt_of_cell? w _ h.name
  have h2 := World.block_lt_of_cell? w _ h.full
  have h3 := World.block_lt_of_cell? w _ h.gone
  simp only at h1 h2 h3
  simp only [top]; omega

/-- every value of the map reads as itself -/
def rd (v : Value) : Option (DataW Value × List MemPlace) := some (.held v, [])
theorem rd_eq {v : Value} {d : DataW Value} {ps : List MemPlace} (h : rd v = some (d, ps)) : d = .held v := by
  simp [rd] at h; exact h.1.symm

/-- a drive at block d, its map at block mb, all its files' bytes from block lo on -/
structure Drive (lo d mb : Nat) (w : World) (M : Dp.Files) (full : Bool) (lost : Int) : Prop where
  dtop : top < d
  mtop : top < mb
  dlo : d < lo
  mlo : mb < lo
  dmb : d ≠ mb
  low : lo ≤ w.heap.size
  cells : w.heap[d]? = some (.cells #[.map (some mb), .bool full, .int .i64 lost] 128 (0, 0))
  own : ∃ D, w.ownsMap Tryd.prog 9 rd mb M.length D ∧ Dp.Tie (FileIs lo w) D M

theorem ownsMap_block {w w' : World} {P : Program} {k : TypeId} {R : Value → Option (DataW Value × List MemPlace)} {b n : Nat} {D : DataW Value} (h : w.ownsMap P k R b n D) (hb : w'.heap[b]? = w.heap[b]?) : w'.ownsMap P k R b n D := by
  obtain ⟨es, clock, h1, h2⟩ := h
  exact ⟨es, clock, hb.trans h1, h2⟩
/-- as many entries as the reading has -/
theorem ownsMap_tight {w : World} {P : Program} {k : TypeId} {R : Value → Option (DataW Value × List MemPlace)} {b n : Nat} {D : DataW Value} (h : w.ownsMap P k R b n D) : w.ownsMap P k R b (Maps.size D) D := by
  obtain ⟨es, clock, h1, h2, h3, rfl⟩ := h
  refine ⟨es, clock, h1, h2, ?_, rfl⟩
  simp [Maps.size, length_sorted]
theorem Drive.keep {lo d mb : Nat} {l : List Nat} {w w' : World} {M : Dp.Files} {full : Bool} {lost : Int} (h : Drive lo d mb w M full lost) (hk : Keep l w w') (hl : ∀ k ∈ l, k < lo) (h1 : d ∉ l) (h2 : mb ∉ l) : Drive lo d mb w' M full lost := by
  obtain ⟨D, ho, ht⟩ := h.own
  exact ⟨h.dtop, h.mtop, h.dlo, h.mlo, h.dmb, Nat.le_trans h.low hk.size, (hk.block d (Nat.lt_of_lt_of_le h.dlo h.low) h1).trans h.cells,
    D, ownsMap_block ho (hk.block mb (Nat.lt_of_lt_of_le h.mlo h.low) h2), ht.mono fun v f hf => hf.keep hk hl⟩
theorem Drive.below {lo d mb : Nat} {w w' : World} {M : Dp.Files} {full : Bool} {lost : Int} (h : Drive lo d mb w M full lost) (hk : Below w.heap.size w w') : Drive lo d mb w' M full lost :=
  h.keep (Keep.of_below hk []) (fun k hk => by cases hk) (by simp) (by simp)
theorem Drive.cell0 {lo d mb : Nat} {w : World} {M : Dp.Files} {full : Bool} {lost : Int} (h : Drive lo d mb w M full lost) : w.cell? ⟨d, 0, none⟩ = some (.map (some mb)) := by
  rw [Lib.cell_of_heap h.cells]; rfl
theorem Drive.cell1 {lo d mb : Nat} {w : World} {M : Dp.Files} {full : Bool} {lost : Int} (h : Drive lo d mb w M full lost) : w.cell? ⟨d, 1, none⟩ = some (.bool full) := by
  rw [Lib.cell_of_heap h.cells]; rfl
theorem Drive.cell2 {lo d mb : Nat} {w : World} {M : Dp.Files} {full : Bool} {lost : Int} (h : Drive lo d mb w M full lost) : w.cell? ⟨d, 2, none⟩ = some (.int .i64 lost) := by
  rw [Lib.cell_of_heap h.cells]; rfl
/-- the map has turned alone -/
theorem Drive.turned {lo d mb : Nat} {w w' : World} {M M' : Dp.Files} {full : Bool} {lost : Int} (h : Drive lo d mb w M full lost) (hk : Keep [mb] w w') {D : DataW Value} {n : Nat} (ho : w'.ownsMap Tryd.prog 9 rd mb n D) (ht : Dp.Tie (FileIs lo w') D M') : Drive lo d mb w' M' full lost :=
  ⟨h.dtop, h.mtop, h.dlo, h.mlo, h.dmb, Nat.le_trans h.low hk.size, (hk.block d (Nat.lt_of_lt_of_le h.dlo h.low) (by simp; exact h.dmb)).trans h.cells, D, by rw [← ht.size]; exact ownsMap_tight ho, ht⟩
theorem Drive.names_lt {lo d mb : Nat} {w : World} {M : Dp.Files} {full : Bool} {lost : Int} (h : Drive lo d mb w M full lost) : d < w.heap.size ∧ mb < w.heap.size := ⟨Nat.lt_of_lt_of_le h.dlo h.low, Nat.lt_of_lt_of_le h.mlo h.low⟩


/-- no file's value -/
abbrev noFileV : Value := .agg #[.slice none 0 0, .slice none 0 0, .bool false]
/-- what a look-up in the map gives -/
def Looks (D : DataW Value) (l : List UInt8) (v : Value) (there : Bool) : Prop := Maps.has D (.string l) = there ∧ D.atKey (.string l) (.held noFileV) = .held v
theorem zeroFile (w : World) : (zeroValue 130).run Tryd.prog w = .ok noFileV w := by kernel_rfl
theorem keyed : Keyed Tryd.prog 9 := string_keyed Tryd.underlying9
theorem looks_gone {lo : Nat} {w : World} {D : DataW Value} {M : Dp.Files} (h : Dp.Tie (FileIs lo w) D M) {l : List UInt8} (hl : Dp.look M l = none) : Looks D l noFileV false :=
  ⟨h.miss l hl, atKey_of_not_has (h.miss l hl) _⟩
theorem looks_hit {lo : Nat} {w : World} {D : DataW Value} {M : Dp.Files} (h : Dp.Tie (FileIs lo w) D M) {l : List UInt8} {f : Dp.File} (hl : Dp.look M l = some f) :
    ∃ a1 c1 a2 c2, Looks D l (fileV a1 c1 a2 c2 f) true ∧ Bs lo w a1 f.bytes c1 ∧ Bs lo w a2 f.safe c2 := by
  obtain ⟨h1, v, h2, a1, c1, a2, c2, rfl, h3, h4⟩ := h.hit l f hl
  exact ⟨a1, c1, a2, c2, ⟨h1, h2 _⟩, h3, h4⟩
/-- the look-up, at the operation -/
theorem wpList_look {w : World} {ops : Array Oper} {rest : List Oper} {o : Oper} {a : Act} {Q : Exit → Act → World → Prop} (hg : o.guard = none) (m x : Operand) (hop : o.op = Op.lookup 126 m x true)
    {b n : Nat} {D : DataW Value} (hm : a.eval m = .map (some b)) (hown : w.ownsMap Tryd.prog 9 rd b n D) (s : ByteArray) (hx : a.eval x = .string s) (hs : s.size ≤ maxLen) {v : Value} {there : Bool} (hl : Looks D s.data.toList v there)
    (hK : wpList Tryd.prog ops Q rest (a.put o.dst (.tuple #[v, .bool there])) w) : wpList Tryd.prog ops Q (o :: rest) a w :=
  wpList_lookup_own_ok w hg m x 126 hop 9 130 keyed Tryd.underlying126 rd (zeroFile w) _ [] rfl b n D hm hown (.string s) (.string s.data.toList) hx (keyOf_string_mk Tryd.underlying9 hs) (fun v' ps hv => by
    have h1 := rd_eq hv
    rw [hl.2] at h1
    obtain rfl : v = v' := by simpa using h1
    rw [hl.1]
    exact hK)
/-- the look-up without a second answer -/
theorem wpList_look1 {w : World} {ops : Array Oper} {rest : List Oper} {o : Oper} {a : Act} {Q : Exit → Act → World → Prop} (hg : o.guard = none) (m x : Operand) (hop : o.op = Op.lookup 126 m x false)
    {b n : Nat} {D : DataW Value} (hm : a.eval m = .map (some b)) (hown : w.ownsMap Tryd.prog 9 rd b n D) (s : ByteArray) (hx : a.eval x = .string s) (hs : s.size ≤ maxLen) {v : Value} {there : Bool} (hl : Looks D s.data.toList v there)
    (hK : wpList Tryd.prog ops Q rest (a.put o.dst v) w) : wpList Tryd.prog ops Q (o :: rest) a w := by
  refine wpList_plain hg fun K' hK' => ?_
  obtain ⟨v', ps, hrun, hv⟩ := hown.lookup keyed Tryd.underlying126 (zeroFile w) (zd := .held noFileV) (zp := []) rfl (keyOf_string_mk Tryd.underlying9 hs)
  have h1 := rd_eq hv
  rw [hl.2] at h1
  obtain rfl : v = v' := by simpa using h1
  unfold Oper.wp
  simp [execOp, hop, hm, hx, hrun, Result.andThen]
  exact hK' _ _ hK
/-- the store, at the operation -/
theorem wpList_store {w : World} {ops : Array Oper} {rest : List Oper} {o : Oper} {a : Act} {Q : Exit → Act → World → Prop} (hg : o.guard = none) (m x v : Operand) (hop : o.op = Op.mapUpdate 126 m x v)
    {b n : Nat} {D : DataW Value} (hm : a.eval m = .map (some b)) (hown : w.ownsMap Tryd.prog 9 rd b n D) (hn : n < 4294967296) (s : ByteArray) (hx : a.eval x = .string s) (hs : s.size ≤ maxLen) (val : Value) (hv : a.eval v = val)
    (hK : ∀ w', w'.ownsMap Tryd.prog 9 rd b (n + 1) (D.put (.string s.data.toList) (.held val)) → w.mapTurned w' b → wpList Tryd.prog ops Q rest (a.put o.dst undef) w') : wpList Tryd.prog ops Q (o :: rest) a w :=
  wpList_mapUpdate_in w hg m x v 126 hop 9 130 keyed Tryd.underlying126 rd b n D hm hown (by unfold maxLen; omega) (.string s) val (.string s.data.toList) hx hv (keyOf_string_mk Tryd.underlying9 hs) (.held val) [] rfl hK
/-- the deletion, at the operation -/
theorem wpList_drop {w : World} {ops : Array Oper} {rest : List Oper} {o : Oper} {a : Act} {Q : Exit → Act → World → Prop} (hg : o.guard = none) (m x : Operand) (hop : o.op = Op.call { callee := Callee.builtin Builtin.delete, args := #[m, x], argTypes := #[126, 9] })
    {b n : Nat} {D : DataW Value} (hm : a.eval m = .map (some b)) (hown : w.ownsMap Tryd.prog 9 rd b n D) (s : ByteArray) (hx : a.eval x = .string s) (hs : s.size ≤ maxLen)
    (hK : ∀ w', w'.ownsMap Tryd.prog 9 rd b n (D.del (.string s.data.toList)) → w.mapTurned w' b → wpList Tryd.prog ops Q rest (a.put o.dst (.tuple #[])) w') : wpList Tryd.prog ops Q (o :: rest) a w :=
  wpList_delete_own w hg m x 126 9 hop 130 keyed Tryd.underlying126 rd b n D hm hown (.string s) (.string s.data.toList) hx (keyOf_string_mk Tryd.underlying9 hs) hK
theorem Keep.of_turned {w w' : World} {b : Nat} (h : w.mapTurned w' b) : Keep [b] w w' := Keep.of_grown h.grown (fun k hk => .inl (by simpa using hk.symm))
theorem ownsMap_below {w w' : World} {k : TypeId} {R : Value → Option (DataW Value × List MemPlace)} {b n : Nat} {D : DataW Value} (h : w.ownsMap Tryd.prog k R b n D) (hb : Below w.heap.size w w') : w'.ownsMap Tryd.prog k R b n D :=
  ownsMap_block h (hb.block b h.lt)

/-- names lie at a, from block lo on -/
def Ns (lo : Nat) (w : World) (a : Option Addr) (xs : List (List UInt8)) : Prop :=
  xs = [] ∨ ∃ b o, a = some ⟨b, o, none⟩ ∧ lo ≤ b ∧ b < w.heap.size ∧ ∀ (j : Nat) x, xs[j]? = some x → w.cell? ⟨b, o + j, none⟩ = some (.string ⟨x.toArray⟩)
theorem Ns.keep {lo : Nat} {l : List Nat} {w w' : World} {a : Option Addr} {xs : List (List UInt8)} (h : Ns lo w a xs) (hk : Keep l w w') (hl : ∀ k ∈ l, k < lo) : Ns lo w' a xs := by
  rcases h with h | ⟨b, o, h1, h2, h3, h4⟩
  · exact .inl h
  · exact .inr ⟨b, o, h1, h2, Nat.lt_of_lt_of_le h3 hk.size, fun j y hy => (hk.cell (p := ⟨b, o + j, none⟩) h3 (fun hm => by have := hl b hm; omega)).trans (h4 j y hy)⟩
theorem ns_of_own {w : World} {base : Nat} {e : TypeId} {v : Value} {xs : List (List UInt8)} (h : w.ownsRow base e 1 v xs.length (xs.map Go.Proofs.encStr)) :
    ∃ a c, v = .slice a xs.length c ∧ Ns base w a xs := by
  rcases h.2 with ⟨rfl, h0⟩ | ⟨g, cap, cur, hv, hb, hg, hn, hm, hcs, htk⟩
  · have h0 : xs = [] := List.eq_nil_of_length_eq_zero h0
    subst h0
    exact ⟨none, 0, rfl, .inl rfl⟩
  · refine ⟨some ⟨g, 0, none⟩, cap, hv, .inr ⟨g, 0, rfl, hb, (Array.getElem?_eq_some_iff.1 hg).1, fun j x hx => ?_⟩⟩
    have := h.cells (g := g) (by rw [hv]; rfl) j (.string ⟨x.toArray⟩) (by simp [hx, Go.Proofs.encStr])
    rwa [addr_add] at this
end Go.Proofs.YtmimkgfkicgfiaaDoor.Dw
