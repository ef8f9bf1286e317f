/-
  A drive in memory: what a world holds of it; what a call may turn. The walks of package disk's good and of slices.Clone at bytes. The walks of package wire's Reader. A part of bytes x[i:j], x[:j], x[i:] with no parting on the capacity.
-/
import Derived.Test.YtecnnlppinhmgaaGreatDoorSa01
import Derived.Test.YtecnnlppinhmgaaGreatDoorSa02
import Derived.Test.YtecnnlppinhmgaaGreatDoorSa05
import Derived.Test.YtecnnlppinhmgaaGreatDoorSa07
import Derived.Test.YtecnnlppinhmgaaGreatDoorProg
import Derived.Below
import Derived.StringKeys
import Derived.WalkKit
import Derived.WalkSpells
import Derived.WalkLawsBesides
import Derived.WalkSmall
import Derived.Outline
import Derived.Deep.LoopGhost
import Derived.Lib.Hide
import Derived.Lib.AppendStr
import Derived.Lib.SliceRun
import Derived.Laws.AppendOwn
namespace Go.Proofs.YtecnnlppinhmgaaGreatDoor.Dw
open Go.RowKit Go.Maps Go.Sort Go.Proofs.YtecnnlppinhmgaaGreatDoor Go.WideShapes Go.WideMaps

/-- nothing that lay in w has turned but the blocks of l -/
structure Keep (l : List Nat) (w w' : World) : Prop where
  os : w'.os = w.os
  tape : w'.tape = w.tape
  output : w'.output = w.output
  size : w.heap.size ≤ w'.heap.size
  block : ∀ k, k < w.heap.size → k ∉ l → w'.heap[k]? = w.heap[k]?

theorem Keep.refl (l : List Nat) (w : World) : Keep l w w := ⟨rfl, rfl, rfl, Nat.le_refl _, fun _ _ _ => rfl⟩
theorem Keep.trans {l : List Nat} {a b c : World} (h : Keep l a b) (k : Keep l b c) : Keep l a c :=
  ⟨k.os.trans h.os, k.tape.trans h.tape, k.output.trans h.output, Nat.le_trans h.size k.size, fun i hi hn => (k.block i (Nat.lt_of_lt_of_le hi h.size) hn).trans (h.block i hi hn)⟩
theorem Keep.mono {l l' : List Nat} {a b : World} (h : Keep l a b) (hl : ∀ k ∈ l, k ∈ l') : Keep l' a b :=
  ⟨h.os, h.tape, h.output, h.size, fun i hi hn => h.block i hi fun hm => hn (hl i hm)⟩
theorem Keep.of_below {a b : World} (h : Below a.heap.size a b) (l : List Nat) : Keep l a b :=
  ⟨h.os, h.tape, h.output, h.size, fun i hi _ => h.block i hi⟩
theorem Keep.below {l : List Nat} {a b c : World} (h : Below a.heap.size a b) (k : Keep l b c) (hl : ∀ i ∈ l, a.heap.size ≤ i) : Below a.heap.size a c :=
  ⟨k.os.trans h.os, k.tape.trans h.tape, k.output.trans h.output, Nat.le_trans h.size k.size, fun i hi => (k.block i (Nat.lt_of_lt_of_le hi h.size) fun hm => by have := hl i hm; omega).trans (h.block i hi)⟩
theorem Keep.of_grown {l : List Nat} {a b : World} {row : Option Nat} (h : a.grownBy b row) (hr : ∀ k, row = some k → k ∈ l ∨ a.heap.size ≤ k) : Keep l a b :=
  ⟨h.os, h.tape, h.output, h.size, fun i hi hn => h.block i hi fun e => by
    rcases hr i e.symm with h | h
    · exact hn h
    · omega⟩
theorem Keep.alloc {l : List Nat} {a b : World} (h : Keep l a b) (o : Obj) : Keep l a (b.alloc o) :=
  h.trans (Keep.of_below ((Below.refl _ _).alloc (Nat.le_refl _) _) l)
theorem Keep.drew {l : List Nat} {a b : World} (h : Keep l a b) : Keep l a b.drew := ⟨h.os, h.tape, h.output, h.size, h.block⟩
theorem Keep.setCell {l : List Nat} {a b : World} (h : Keep l a b) {p : Addr} (hp : p.block ∈ l ∨ a.heap.size ≤ p.block) (u : Value) : Keep l a (b.setCell p u) :=
  ⟨h.os, h.tape, h.output, by simpa [World.setCell] using h.size, fun i hi hn => by
    rw [Below.heap_setCell _ _ _ _ (fun e => by subst e; rcases hp with hp | hp; exact hn hp; omega)]
    exact h.block i hi hn⟩
theorem Keep.cell {l : List Nat} {a b : World} (h : Keep l a b) {p : Addr} (h1 : p.block < a.heap.size) (h2 : p.block ∉ l) : b.cell? p = a.cell? p := World.cell?_of_block (w := a) (h.block p.block h1 h2)

/-- the bytes l lie at a, from block lo on -/
def Bs (lo : Nat) (w : World) (a : Option Addr) (l : List UInt8) (c : Nat) : Prop :=
  l.length ≤ c ∧ (a = none → c = 0) ∧ (l = [] ∨ ∃ b o, a = some ⟨b, o, none⟩ ∧ lo ≤ b ∧ b < w.heap.size ∧ ∀ j x, l[j]? = some x → w.cell? ⟨b, o + j, none⟩ = some (.int .u8 (x.toNat : Int)))
theorem Bs.nil (lo : Nat) (w : World) (a : Option Addr) (c : Nat) (h : a = none → c = 0) : Bs lo w a [] c := ⟨Nat.zero_le _, h, .inl rfl⟩
theorem Bs.keep {lo : Nat} {l : List Nat} {w w' : World} {a : Option Addr} {x : List UInt8} {c : Nat} (h : Bs lo w a x c) (hk : Keep l w w') (hl : ∀ k ∈ l, k < lo) : Bs lo w' a x c := by
  refine ⟨h.1, h.2.1, ?_⟩
  rcases h.2.2 with h | ⟨b, o, h1, h2, h3, h4⟩
  · exact .inl h
  · exact .inr ⟨b, o, h1, h2, Nat.lt_of_lt_of_le h3 hk.size, fun j y hy => (hk.cell (p := ⟨b, o + j, none⟩) h3 (fun hm => by have := hl b hm; omega)).trans (h4 j y hy)⟩
theorem Bs.below {lo : Nat} {w w' : World} {a : Option Addr} {x : List UInt8} {c : Nat} (h : Bs lo w a x c) (hk : Below w.heap.size w w') : Bs lo w' a x c :=
  h.keep (Keep.of_below hk []) (fun k hk => by cases hk)
theorem Bs.lower {lo lo' : Nat} {w : World} {a : Option Addr} {x : List UInt8} {c : Nat} (h : Bs lo w a x c) (hl : lo' ≤ lo) : Bs lo' w a x c := by
  refine ⟨h.1, h.2.1, ?_⟩
  rcases h.2.2 with h | ⟨b, o, h1, h2, h3⟩
  · exact .inl h
  · exact .inr ⟨b, o, h1, Nat.le_trans hl h2, h3⟩

theorem addr_add (b off k : Nat) : (⟨b, off, none⟩ : Addr).add k = ⟨b, off + k, none⟩ := by
  unfold Addr.add; split <;> simp_all
theorem bs_of_own {w : World} {base : Nat} {e : TypeId} {v : Value} {l : List UInt8} (h : w.ownsRow base e 1 v l.length (Lib.byteCells l)) :
    ∃ a c, v = .slice a l.length c ∧ Bs base w a l c := by
  rcases h.2 with ⟨rfl, h0⟩ | ⟨g, cap, cur, hv, hb, hg, hn, hm, hcs, htk⟩
  · have h0 : l = [] := List.eq_nil_of_length_eq_zero h0
    subst h0
    exact ⟨none, 0, rfl, Bs.nil _ _ _ _ fun _ => rfl⟩
  · refine ⟨some ⟨g, 0, none⟩, cap, hv, hn, (fun h => by cases h), .inr ⟨g, 0, rfl, hb, (Array.getElem?_eq_some_iff.1 hg).1, fun j x hx => ?_⟩⟩
    have := h.cells (g := g) (by rw [hv]; rfl) j (.int .u8 (x.toNat : Int)) (by simp [Lib.byteCells, hx])
    rwa [addr_add] at this
/-- a slice of bytes that can be read, as the cells that append asks for -/
theorem Bs.cells {lo : Nat} {w : World} {p : Addr} {l : List UInt8} {c : Nat} (h : Bs lo w (some p) l c) : ∀ (j : Nat) u, (Lib.byteCells l)[j]? = some u → w.cell? (p.add j) = some u := by
  intro j u hj
  obtain ⟨x, hx, rfl⟩ : ∃ x, l[j]? = some x ∧ Value.int .u8 (x.toNat : Int) = u := by
    simp only [Lib.byteCells, List.getElem?_map, Option.map_eq_some_iff] at hj; exact hj
  rcases h.2.2 with h0 | ⟨b, o, hp, _, hlt, hc⟩
  · subst h0; simp at hx
  · obtain rfl : p = ⟨b, o, none⟩ := by simpa using hp
    rw [addr_add]
    exact hc j x hx
theorem one_cells (l : List UInt8) : ∀ u ∈ Lib.byteCells l, u.oneCell' = true := by
  intro u hu
  obtain ⟨x, _, rfl⟩ : ∃ x ∈ l, Value.int .u8 (x.toNat : Int) = u := by simpa [Lib.byteCells] using hu
  rfl

/-- bytes that lie below block b -/
def BsIn (b : Nat) (w : World) (a : Option Addr) (l : List UInt8) (c : Nat) : Prop :=
  Bs 0 w a l c ∧ (l = [] ∨ ∃ g o, a = some ⟨g, o, none⟩ ∧ g < b ∧ g < w.heap.size ∧ ∀ (j : Nat) x, l[j]? = some x → w.cell? ⟨g, o + j, none⟩ = some (.int .u8 (x.toNat : Int)))
theorem BsIn.mk {w : World} {a : Option Addr} {l : List UInt8} {c : Nat} (h : Bs 0 w a l c) : BsIn w.heap.size w a l c :=
  ⟨h, h.2.2.imp id fun ⟨g, o, h1, _, h3, h4⟩ => ⟨g, o, h1, h3, h3, h4⟩⟩

/-- a file's value -/
abbrev fileV (a1 : Option Addr) (c1 : Nat) (a2 : Option Addr) (c2 : Nat) (f : Dp.File) : Value := .agg #[.slice a1 f.bytes.length c1, .slice a2 f.safe.length c2, .bool f.kept]
def FileIs (lo : Nat) (w : World) (v : Value) (f : Dp.File) : Prop :=
  ∃ a1 c1 a2 c2, v = fileV a1 c1 a2 c2 f ∧ Bs lo w a1 f.bytes c1 ∧ Bs lo w a2 f.safe c2
theorem FileIs.keep {lo : Nat} {l : List Nat} {w w' : World} {v : Value} {f : Dp.File} (h : FileIs lo w v f) (hk : Keep l w w') (hl : ∀ k ∈ l, k < lo) : FileIs lo w' v f := by
  obtain ⟨a1, c1, a2, c2, h1, h2, h3⟩ := h
  exact ⟨a1, c1, a2, c2, h1, h2.keep hk hl, h3.keep hk hl⟩

/-- an error's value -/
abbrev ev (a : Addr) : Value := .iface 224 (.pointer (some a))
/-- three of package api's errors, in their variables -/
structure Errs (w : World) (aN aF aG : Addr) : Prop where
  name : w.cell? ⟨5, 0, none⟩ = some (.iface 224 (.pointer (some aN)))
  full : w.cell? ⟨1, 0, none⟩ = some (.iface 224 (.pointer (some aF)))
  gone : w.cell? ⟨6, 0, none⟩ = some (.iface 224 (.pointer (some aG)))
/-- their variables lie below it -/
def top : Nat := max 5 (max 1 6)
theorem Errs.keep {l : List Nat} {w w' : World} {aN aF aG : Addr} (h : Errs w aN aF aG) (hk : Keep l w w') (hl : ∀ k ∈ l, top < k) : Errs w' aN aF aG := by
  have n : ∀ g, g ≤ top → g ∉ l := fun g hg hm => by have := hl g hm; omega
  exact ⟨(hk.cell (World.block_lt_of_cell? w _ h.name) (n _ (by simp [top]))).trans h.name, (hk.cell (World.block_lt_of_cell? w _ h.full) (n _ (by simp [top]))).trans h.full, (hk.cell (World.block_lt_of_cell? w _ h.gone) (n _ (by simp [top]))).trans h.gone⟩
theorem Errs.below {w w' : World} {aN aF aG : Addr} (h : Errs w aN aF aG) (hk : Below w.heap.size w w') : Errs w' aN aF aG := h.keep (Keep.of_below hk []) (fun k hk => by cases hk)
theorem Errs.lt {w : World} {aN aF aG : Addr} (h : Errs w aN aF aG) : top < w.heap.size := by
  have h1 := World.block_lt_of_cell? w _ h.name
  have h2 := World.block_lt_of_cell? w _ h.full
  have h3 := World.block_lt_of_cell? w _ h.gone
  simp only at h1 h2 h3
  simp only [top]; omega

/-- every value of the map reads as itself -/
def rd (v : Value) : Option (DataW Value × List MemPlace) := some (.held v, [])
theorem rd_eq {v : Value} {d : DataW Value} {ps : List MemPlace} (h : rd v = some (d, ps)) : d = .held v := by
  simp [rd] at h; exact h.1.symm

/-- a drive at block d, its map at block mb, all its files' bytes from block lo on -/
structure Drive (lo d mb : Nat) (w : World) (M : Dp.Files) (full : Bool) (lost : Int) : Prop where
  dtop : top < d
  mtop : top < mb
  dlo : d < lo
  mlo : mb < lo
  dmb : d ≠ mb
  low : lo ≤ w.heap.size
  cells : w.heap[d]? = some (.cells #[.map (some mb), .bool full, .int .i64 lost] 73 (0, 0))
  own : ∃ D, w.ownsMap Tryz.prog 9 rd mb M.length D ∧ Dp.Tie (FileIs lo w) D M

theorem ownsMap_block {w w' : World} {P : Program} {k : TypeId} {R : Value → Option (DataW Value × List MemPlace)} {b n : Nat} {D : DataW Value} (h : w.ownsMap P k R b n D) (hb : w'.heap[b]? = w.heap[b]?) : w'.ownsMap P k R b n D := by
  obtain ⟨es, clock, h1, h2⟩ := h
  exact ⟨es, clock, hb.trans h1, h2⟩
/-- as many entries as the reading has -/
theorem ownsMap_tight {w : World} {P : Program} {k : TypeId} {R : Value → Option (DataW Value × List MemPlace)} {b n : Nat} {D : DataW Value} (h : w.ownsMap P k R b n D) : w.ownsMap P k R b (Maps.size D) D := by
  obtain ⟨es, clock, h1, h2, h3, rfl⟩ := h
  refine ⟨es, clock, h1, h2, ?_, rfl⟩
  simp [Maps.size, length_sorted]
theorem Drive.keep {lo d mb : Nat} {l : List Nat} {w w' : World} {M : Dp.Files} {full : Bool} {lost : Int} (h : Drive lo d mb w M full lost) (hk : Keep l w w') (hl : ∀ k ∈ l, k < lo) (h1 : d ∉ l) (h2 : mb ∉ l) : Drive lo d mb w' M full lost := by
  obtain ⟨D, ho, ht⟩ := h.own
  exact ⟨h.dtop, h.mtop, h.dlo, h.mlo, h.dmb, Nat.le_trans h.low hk.size, (hk.block d (Nat.lt_of_lt_of_le h.dlo h.low) h1).trans h.cells,
    D, ownsMap_block ho (hk.block mb (Nat.lt_of_lt_of_le h.mlo h.low) h2), ht.mono fun v f hf => hf.keep hk hl⟩
theorem Drive.below {lo d mb : Nat} {w w' : World} {M : Dp.Files} {full : Bool} {lost : Int} (h : Drive lo d mb w M full lost) (hk : Below w.heap.size w w') : Drive lo d mb w' M full lost :=
  h.keep (Keep.of_below hk []) (fun k hk => by cases hk) (by simp) (by simp)
theorem Drive.cell0 {lo d mb : Nat} {w : World} {M : Dp.Files} {full : Bool} {lost : Int} (h : Drive lo d mb w M full lost) : w.cell? ⟨d, 0, none⟩ = some (.map (some mb)) := by
  rw [Lib.cell_of_heap h.cells]; rfl
theorem Drive.cell1 {lo d mb : Nat} {w : World} {M : Dp.Files} {full : Bool} {lost : Int} (h : Drive lo d mb w M full lost) : w.cell? ⟨d, 1, none⟩ = some (.bool full) := by
  rw [Lib.cell_of_heap h.cells]; rfl
theorem Drive.cell2 {lo d mb : Nat} {w : World} {M : Dp.Files} {full : Bool} {lost : Int} (h : Drive lo d mb w M full lost) : w.cell? ⟨d, 2, none⟩ = some (.int .i64 lost) := by
  rw [Lib.cell_of_heap h.cells]; rfl
/-- the map has turned alone -/
theorem Drive.turned {lo d mb : Nat} {w w' : World} {M M' : Dp.Files} {full : Bool} {lost : Int} (h : Drive lo d mb w M full lost) (hk : Keep [mb] w w') {D : DataW Value} {n : Nat} (ho : w'.ownsMap Tryz.prog 9 rd mb n D) (ht : Dp.Tie (FileIs lo w') D M') : Drive lo d mb w' M' full lost :=
  ⟨h.dtop, h.mtop, h.dlo, h.mlo, h.dmb, Nat.le_trans h.low hk.size, (hk.block d (Nat.lt_of_lt_of_le h.dlo h.low) (by simp; exact h.dmb)).trans h.cells, D, by rw [← ht.size]; exact ownsMap_tight ho, ht⟩
theorem Drive.names_lt {lo d mb : Nat} {w : World} {M : Dp.Files} {full : Bool} {lost : Int} (h : Drive lo d mb w M full lost) : d < w.heap.size ∧ mb < w.heap.size := ⟨Nat.lt_of_lt_of_le h.dlo h.low, Nat.lt_of_lt_of_le h.mlo h.low⟩


/-- no file's value -/
abbrev noFileV : Value := .agg #[.slice none 0 0, .slice none 0 0, .bool false]
/-- what a look-up in the map gives -/
def Looks (D : DataW Value) (l : List UInt8) (v : Value) (there : Bool) : Prop := Maps.has D (.string l) = there ∧ D.atKey (.string l) (.held noFileV) = .held v
theorem zeroFile (w : World) : (zeroValue 75).run Tryz.prog w = .ok noFileV w := by kernel_rfl
theorem keyed : Keyed Tryz.prog 9 := string_keyed Tryz.underlying9
theorem looks_gone {lo : Nat} {w : World} {D : DataW Value} {M : Dp.Files} (h : Dp.Tie (FileIs lo w) D M) {l : List UInt8} (hl : Dp.look M l = none) : Looks D l noFileV false :=
  ⟨h.miss l hl, atKey_of_not_has (h.miss l hl) _⟩
theorem looks_hit {lo : Nat} {w : World} {D : DataW Value} {M : Dp.Files} (h : Dp.Tie (FileIs lo w) D M) {l : List UInt8} {f : Dp.File} (hl : Dp.look M l = some f) :
    ∃ a1 c1 a2 c2, Looks D l (fileV a1 c1 a2 c2 f) true ∧ Bs lo w a1 f.bytes c1 ∧ Bs lo w a2 f.safe c2 := by
  obtain ⟨h1, v, h2, a1, c1, a2, c2, rfl, h3, h4⟩ := h.hit l f hl
  exact ⟨a1, c1, a2, c2, ⟨h1, h2 _⟩, h3, h4⟩
/-- the look-up, at the operation -/
theorem wpList_look {w : World} {ops : Array Oper} {rest : List Oper} {o : Oper} {a : Act} {Q : Exit → Act → World → Prop} (hg : o.guard = none) (m x : Operand) (hop : o.op = Op.lookup 71 m x true)
    {b n : Nat} {D : DataW Value} (hm : a.eval m = .map (some b)) (hown : w.ownsMap Tryz.prog 9 rd b n D) (s : ByteArray) (hx : a.eval x = .string s) (hs : s.size ≤ maxLen) {v : Value} {there : Bool} (hl : Looks D s.data.toList v there)
    (hK : wpList Tryz.prog ops Q rest (a.put o.dst (.tuple #[v, .bool there])) w) : wpList Tryz.prog ops Q (o :: rest) a w :=
  wpList_lookup_own_ok w hg m x 71 hop 9 75 keyed Tryz.underlying71 rd (zeroFile w) _ [] rfl b n D hm hown (.string s) (.string s.data.toList) hx (keyOf_string_mk Tryz.underlying9 hs) (fun v' ps hv => by
    have h1 := rd_eq hv
    rw [hl.2] at h1
    obtain rfl : v = v' := by simpa using h1
    rw [hl.1]
    exact hK)
/-- the look-up without a second answer -/
theorem wpList_look1 {w : World} {ops : Array Oper} {rest : List Oper} {o : Oper} {a : Act} {Q : Exit → Act → World → Prop} (hg : o.guard = none) (m x : Operand) (hop : o.op = Op.lookup 71 m x false)
    {b n : Nat} {D : DataW Value} (hm : a.eval m = .map (some b)) (hown : w.ownsMap Tryz.prog 9 rd b n D) (s : ByteArray) (hx : a.eval x = .string s) (hs : s.size ≤ maxLen) {v : Value} {there : Bool} (hl : Looks D s.data.toList v there)
    (hK : wpList Tryz.prog ops Q rest (a.put o.dst v) w) : wpList Tryz.prog ops Q (o :: rest) a w := by
  refine wpList_plain hg fun K' hK' => ?_
  obtain ⟨v', ps, hrun, hv⟩ := hown.lookup keyed Tryz.underlying71 (zeroFile w) (zd := .held noFileV) (zp := []) rfl (keyOf_string_mk Tryz.underlying9 hs)
  have h1 := rd_eq hv
  rw [hl.2] at h1
  obtain rfl : v = v' := by simpa using h1
  unfold Oper.wp
  simp [execOp, hop, hm, hx, hrun, Result.andThen]
  exact hK' _ _ hK
/-- the store, at the operation -/
theorem wpList_store {w : World} {ops : Array Oper} {rest : List Oper} {o : Oper} {a : Act} {Q : Exit → Act → World → Prop} (hg : o.guard = none) (m x v : Operand) (hop : o.op = Op.mapUpdate 71 m x v)
    {b n : Nat} {D : DataW Value} (hm : a.eval m = .map (some b)) (hown : w.ownsMap Tryz.prog 9 rd b n D) (hn : n < 4294967296) (s : ByteArray) (hx : a.eval x = .string s) (hs : s.size ≤ maxLen) (val : Value) (hv : a.eval v = val)
    (hK : ∀ w', w'.ownsMap Tryz.prog 9 rd b (n + 1) (D.put (.string s.data.toList) (.held val)) → w.mapTurned w' b → wpList Tryz.prog ops Q rest (a.put o.dst undef) w') : wpList Tryz.prog ops Q (o :: rest) a w :=
  wpList_mapUpdate_in w hg m x v 71 hop 9 75 keyed Tryz.underlying71 rd b n D hm hown (by unfold maxLen; omega) (.string s) val (.string s.data.toList) hx hv (keyOf_string_mk Tryz.underlying9 hs) (.held val) [] rfl hK
/-- the deletion, at the operation -/
theorem wpList_drop {w : World} {ops : Array Oper} {rest : List Oper} {o : Oper} {a : Act} {Q : Exit → Act → World → Prop} (hg : o.guard = none) (m x : Operand) (hop : o.op = Op.call { callee := Callee.builtin Builtin.delete, args := #[m, x], argTypes := #[71, 9] })
    {b n : Nat} {D : DataW Value} (hm : a.eval m = .map (some b)) (hown : w.ownsMap Tryz.prog 9 rd b n D) (s : ByteArray) (hx : a.eval x = .string s) (hs : s.size ≤ maxLen)
    (hK : ∀ w', w'.ownsMap Tryz.prog 9 rd b n (D.del (.string s.data.toList)) → w.mapTurned w' b → wpList Tryz.prog ops Q rest (a.put o.dst (.tuple #[])) w') : wpList Tryz.prog ops Q (o :: rest) a w :=
  wpList_delete_own w hg m x 71 9 hop 75 keyed Tryz.underlying71 rd b n D hm hown (.string s) (.string s.data.toList) hx (keyOf_string_mk Tryz.underlying9 hs) hK
theorem Keep.of_turned {w w' : World} {b : Nat} (h : w.mapTurned w' b) : Keep [b] w w' := Keep.of_grown h.grown (fun k hk => .inl (by simpa using hk.symm))
theorem ownsMap_below {w w' : World} {k : TypeId} {R : Value → Option (DataW Value × List MemPlace)} {b n : Nat} {D : DataW Value} (h : w.ownsMap Tryz.prog k R b n D) (hb : Below w.heap.size w w') : w'.ownsMap Tryz.prog k R b n D :=
  ownsMap_block h (hb.block b h.lt)

/-- names lie at a, from block lo on -/
def Ns (lo : Nat) (w : World) (a : Option Addr) (xs : List (List UInt8)) : Prop :=
  xs = [] ∨ ∃ b o, a = some ⟨b, o, none⟩ ∧ lo ≤ b ∧ b < w.heap.size ∧ ∀ (j : Nat) x, xs[j]? = some x → w.cell? ⟨b, o + j, none⟩ = some (.string ⟨x.toArray⟩)
theorem Ns.keep {lo : Nat} {l : List Nat} {w w' : World} {a : Option Addr} {xs : List (List UInt8)} (h : Ns lo w a xs) (hk : Keep l w w') (hl : ∀ k ∈ l, k < lo) : Ns lo w' a xs := by
  rcases h with h | ⟨b, o, h1, h2, h3, h4⟩
  · exact .inl h
  · exact .inr ⟨b, o, h1, h2, Nat.lt_of_lt_of_le h3 hk.size, fun j y hy => (hk.cell (p := ⟨b, o + j, none⟩) h3 (fun hm => by have := hl b hm; omega)).trans (h4 j y hy)⟩
theorem ns_of_own {w : World} {base : Nat} {e : TypeId} {v : Value} {xs : List (List UInt8)} (h : w.ownsRow base e 1 v xs.length (xs.map Go.Proofs.encStr)) :
    ∃ a c, v = .slice a xs.length c ∧ Ns base w a xs := by
  rcases h.2 with ⟨rfl, h0⟩ | ⟨g, cap, cur, hv, hb, hg, hn, hm, hcs, htk⟩
  · have h0 : xs = [] := List.eq_nil_of_length_eq_zero h0
    subst h0
    exact ⟨none, 0, rfl, .inl rfl⟩
  · refine ⟨some ⟨g, 0, none⟩, cap, hv, .inr ⟨g, 0, rfl, hb, (Array.getElem?_eq_some_iff.1 hg).1, fun j x hx => ?_⟩⟩
    have := h.cells (g := g) (by rw [hv]; rfl) j (.string ⟨x.toArray⟩) (by simp [hx, Go.Proofs.encStr])
    rwa [addr_add] at this
end Go.Proofs.YtecnnlppinhmgaaGreatDoor.Dw
namespace Go.Proofs.YtecnnlppinhmgaaGreatDoor.DiskA
open Go.RowKit Go.Proofs.YtecnnlppinhmgaaGreatDoor

def okc (c : UInt8) : Bool := decide (33 ≤ c.toNat) && decide (c.toNat ≤ 126)
/-- may a file be called so? -/
def gd (l : List UInt8) : Bool := decide (1 ≤ l.length) && decide (l.length ≤ 63) && l.all okc

theorem ret_bool {a b : Bool} (h : a = b) : Ending.returned (.bool a) = .returned (.bool b) := by rw [h]

set_option maxHeartbeats 1000000 in
theorem good (s : ByteArray) (w : World) :
    Calls Tryz.prog 55 #[.string s] w fun e w' => e = .returned (.bool (gd s.data.toList)) ∧ w = w' := by
  by_cases h1 : s.size < 1
  · go_enter Tryz.func55, Tryz.ntmps55
    go_wp2
    go_ret
    exact ⟨ret_bool (by simp [gd]; intro h; omega), rfl⟩
  have h1' : ¬ ((s.size : Int) < 1) := by omega
  by_cases h2 : 63 < s.size
  · go_enter Tryz.func55, Tryz.ntmps55
    go_wp2
    go_ret
    exact ⟨ret_bool (by simp [gd]; intro _ h; omega), rfl⟩
  go_enter Tryz.func55, Tryz.ntmps55
  go_wp2
  go_loop [3, 14] (fun _ i => ∃ k : Nat, k ≤ s.size ∧ i = .int .i64 k ∧ (s.data.toList.take k).all okc = true) (fun _ i => s.size - (intOf i).toNat)
  case atStart => exact ⟨0, Nat.zero_le _, rfl, rfl⟩
  case round =>
    obtain ⟨k, hk, rfl, hall⟩ := hrel
    have HA := Lib.hid hall; clear hall
    by_cases hlt : k < s.size
    · have hts := Com.take_succ s k hlt
      have hmem : s[k] ∈ s.data.toList := by
        have h3 : s[k] ∈ s.data.toList.take (k + 1) := by rw [hts]; simp
        exact List.mem_of_mem_take h3
      have HT := Lib.hid hts; clear hts
      have HM := Lib.hid hmem; clear hmem
      by_cases a1 : (s[k].toNat : Int) < 33
      · go_wp2
        go_ret
        refine ⟨ret_bool ?_, rfl⟩
        have : (gd s.data.toList) = false := by
          have hk : okc s[k] = false := by simp [okc]; omega
          have : s.data.toList.all okc = false := List.all_eq_false.2 ⟨_, HM.out, by simp [hk]⟩
          simp [gd, this]
        exact this.symm
      · by_cases a2 : 126 < (s[k].toNat : Int)
        · go_wp2
          go_ret
          refine ⟨ret_bool ?_, rfl⟩
          have : (gd s.data.toList) = false := by
            have hk : okc s[k] = false := by simp [okc]; omega
            have : s.data.toList.all okc = false := List.all_eq_false.2 ⟨_, HM.out, by simp [hk]⟩
            simp [gd, this]
          exact this.symm
        · go_wp2
          go_round
          case rel =>
            refine ⟨k + 1, by omega, by go_num, ?_⟩
            rw [HT.out, List.all_append, HA.out]
            simp [okc]
            omega
          case measure => simp [intOf]; omega
    · go_wp2
      go_ret
      refine ⟨ret_bool ?_, rfl⟩
      have : (s.data.toList).all okc = true := by rw [← Com.take_all s k (by omega)]; exact HA.out
      simp only [gd, this, Bool.and_true, Com.toList_length]
      simp; omega

theorem infoByte : (Tryz.prog.info? 5).map (fun i => (i.zero, i.size, i.bytes)) = some (some (.int .u8 0), 1, 1) := by kernel_rfl

/-- a slice's value -/
def sl (a : Option Addr) (n c : Nat) : Value := .slice a n c

set_option maxHeartbeats 1000000 in
set_option maxRecDepth 100000 in
theorem clone_nil (w : World) : Calls Tryz.prog 36 #[.slice none 0 0] w fun e w' => e = .returned (.slice none 0 0) ∧ w = w' := by
  have kn := fun (w : World) (a : Option Addr) (n c : Nat) => Lib.run_eql_slice_nil (P := Tryz.prog) w 24 5 a n c 0 0 Tryz.underlying24
  go_enter Tryz.func36, Tryz.ntmps36
  go_wp2
  go_ret
  exact ⟨rfl, rfl⟩

set_option maxHeartbeats 1000000 in
set_option maxRecDepth 100000 in
theorem clone_some (p : Addr) (l : List UInt8) (c : Nat) (w : World) (hl : l.length ≤ 140737488351232) (hb : Dw.Bs 0 w (some p) l c) :
    Calls Tryz.prog 36 #[.slice (some p) l.length c] w fun e w' => (∃ a' c', e = .returned (.slice a' l.length c') ∧ Dw.Bs w.heap.size w' a' l c') ∧ Below w.heap.size w w' := by
  obtain ⟨i0, hi, hz0, hz1, hz2⟩ := info_parts infoByte
  have kn := fun (w : World) (a : Option Addr) (n c : Nat) => Lib.run_eql_slice_nil (P := Tryz.prog) w 24 5 a n c 0 0 Tryz.underlying24
  go_enter Tryz.func36, Tryz.ntmps36
  have hown : (w.alloc (.cells #[] 5)).ownsRow w.heap.size 5 1 (.slice (some ⟨w.heap.size, 0, none⟩) 0 0) 0 [] :=
    ⟨rfl, .inr ⟨w.heap.size, 0, _, rfl, Nat.le_refl _, heap_alloc_new _ _, Nat.le_refl _, by unfold maxLen; omega, rfl, rfl⟩⟩
  go_wp2_with (at_builtin; refine wpList_append_own _ rfl _ _ 24 rfl w.heap.size 5 i0 (.int .u8 0) 1 1 Tryz.underlying24 hi hz0 hz1 hz2 rfl (by decide) _ _ _ rfl hown p l.length c (Lib.byteCells l) rfl (by simp [Com.byteCells_length]) ?c1 ?c2 ?c3 ?c4 ?c5 ?_)
  case c1 => exact (hb.below ((Below.refl _ _).alloc (Nat.le_refl _) _)).cells
  case c2 => exact Dw.one_cells l
  case c3 => unfold maxLen; omega
  case c4 => omega
  case c5 => simp
  intro v' w1 hown' hgrow _
  have hown1 : w1.ownsRow w.heap.size 5 1 v' l.length (Lib.byteCells l) := by simpa using hown'
  clear hown'
  obtain ⟨a', c', hv, hbs⟩ := Dw.bs_of_own hown1
  subst hv
  have hbel : Below w.heap.size w w1 := ((Below.refl _ w).alloc (Nat.le_refl _) _).grown hgrow (by simp) (fun k hk => by simp [Value.ownBlock] at hk; omega)
  have HO := Lib.hid hown1; clear hown1
  have HB := Lib.hid hbs; clear hbs
  go_wp2
  go_ret
  exact ⟨⟨a', c', rfl, HB.out⟩, hbel⟩
/-- a copy of a slice of bytes -/
theorem clone (a : Option Addr) (l : List UInt8) (c : Nat) (w : World) (hl : l.length ≤ 140737488351232) (hb : Dw.Bs 0 w a l c) :
    Calls Tryz.prog 36 #[.slice a l.length c] w fun e w' => (∃ a' c', e = .returned (.slice a' l.length c') ∧ Dw.Bs w.heap.size w' a' l c') ∧ Below w.heap.size w w' := by
  cases a with
  | none =>
    obtain rfl := hb.2.1 rfl
    have h0 : l = [] := by
      have := hb.1
      exact List.eq_nil_of_length_eq_zero (by omega)
    subst h0
    exact (clone_nil w).mono fun e w' ⟨h, hw⟩ => by subst hw; exact ⟨⟨none, 0, h, Dw.Bs.nil _ _ _ _ fun _ => rfl⟩, Below.refl _ _⟩
  | some p => exact (clone_some p l c w hl hb).mono fun e w' ⟨⟨a', c', h1, h2⟩, hw⟩ => ⟨⟨a', c', h1, h2⟩, hw⟩
end Go.Proofs.YtecnnlppinhmgaaGreatDoor.DiskA
namespace Go.Proofs.YtecnnlppinhmgaaGreatDoor.FrD
open Go.RowKit Go.Proofs.YtecnnlppinhmgaaGreatDoor Go.Proofs.YtecnnlppinhmgaaGreatDoor.HtW Go.Proofs.YtecnnlppinhmgaaGreatDoor.HtX Go.Proofs.YtecnnlppinhmgaaGreatDoor.App Go.Proofs.YtecnnlppinhmgaaGreatDoor.FrA Go.Proofs.YtecnnlppinhmgaaGreatDoor.FrC

/-- a reader's box: its bytes, and where it stands -/
def Rd (B : Nat) (w : World) (l : List UInt8) (at' : Nat) : Prop := ∃ a c, w.heap[B]? = some (.cells #[.slice a l.length c, .int .i64 (at' : Int)] 165 (0, 0)) ∧ Bs w a l c ∧ (l ≠ [] → ∀ p, a = some p → p.block < B)
theorem Rd.below {B : Nat} {w w' : World} {l : List UInt8} {k : Nat} (h : Rd B w l k) (hb : Below w.heap.size w w') : Rd B w' l k := by
  obtain ⟨a, c, h1, h2, h3⟩ := h
  exact ⟨a, c, (hb.block _ (Array.getElem?_eq_some_iff.1 h1).1).trans h1, h2.below hb, h3⟩
theorem Rd.lt {B : Nat} {w : World} {l : List UInt8} {k : Nat} (h : Rd B w l k) : B < w.heap.size := by
  obtain ⟨a, c, h1, h2, h3⟩ := h
  exact (Array.getElem?_eq_some_iff.1 h1).1
theorem to_dw {w : World} {a : Option Addr} {l : List UInt8} {c : Nat} (h : Bs w a l c) : Dw.Bs 0 w a l c :=
  ⟨h.1, h.2.1, h.2.2.imp id fun ⟨b, o, h1, h2, h3⟩ => ⟨b, o, h1, Nat.zero_le _, h2, h3⟩⟩
theorem of_dw {lo : Nat} {w : World} {a : Option Addr} {l : List UInt8} {c : Nat} (h : Dw.Bs lo w a l c) : Bs w a l c :=
  ⟨h.1, h.2.1, h.2.2.imp id fun ⟨b, o, h1, _, h2, h3⟩ => ⟨b, o, h1, h2, h3⟩⟩
theorem dw_lo {lo : Nat} {w : World} {a : Option Addr} {l : List UInt8} {c : Nat} (h : Dw.Bs lo w a l c) (hl : l ≠ []) {p : Addr} (hp : a = some p) : lo ≤ p.block ∧ p.block < w.heap.size := by
  rcases h.2.2 with h0 | ⟨b, o, h1, h2, h3, _⟩
  · exact absurd h0 hl
  · rw [hp] at h1; cases h1; exact ⟨h2, h3⟩

set_option maxHeartbeats 2000000 in
set_option maxRecDepth 100000 in
theorem newReader (l : List UInt8) {a : Option Addr} (c : Nat) (w : World) (hb : Bs w a l c) (hl : l.length ≤ 140737488351232) :
    Calls Tryz.prog 71 #[.slice a l.length c] w fun e w' => ∃ B, e = .returned (.pointer (some ⟨B, 0, none⟩)) ∧ w.heap.size ≤ B ∧ Rd B w' l 0 ∧ Below w.heap.size w w' := by
  have KC := Lib.hid (DiskA.clone a l c w hl (to_dw hb))
  clear hb
  go_enter Tryz.func71, Tryz.ntmps71
  go_wp2_with (go_at_call 36; refine KC.out.mono ?_; rintro e w1 ⟨⟨a1, c1, rfl, hB1⟩, hb1⟩; have HB1 := Lib.hid hB1; have HW1 := Lib.hid hb1; clear hB1 hb1)
  go_ret
  have hb2 := (Below.refl w1.heap.size w1).alloc (Nat.le_refl _) (.cells #[.slice a1 l.length c1, .int .i64 0] 165)
  exact ⟨_, rfl, HW1.out.size, ⟨a1, c1, heap_alloc_new _ _, (of_dw HB1.out).below hb2, fun hne p hp => (dw_lo HB1.out hne hp).2⟩, HW1.out.alloc HW1.out.size _⟩

theorem ofInt64 (a : Nat) (ha : a < 18446744073709551616) : (BitVec.ofInt 64 (a : Int)).toNat = a := by
  rw [BitVec.ofInt_natCast, BitVec.toNat_ofNat]; exact Nat.mod_eq_of_lt (by omega)
theorem i64_or (a b : Nat) (ha : a < 9223372036854775808) (hb : b < 9223372036854775808) : bits .or .i64 (a : Int) (b : Int) = ((a ||| b : Nat) : Int) := by
  have hx : a ||| b < 2 ^ 63 := Nat.or_lt_two_pow (by omega) (by omega)
  show IntKind.i64.wrap ((BitVec.ofInt 64 (a : Int) ||| BitVec.ofInt 64 (b : Int)).toNat : Int) = _
  rw [BitVec.toNat_or, ofInt64 a (by omega), ofInt64 b (by omega), IntWalk.i64_in _ ⟨by omega, by omega⟩]
theorem or_step (n x i : Nat) (hn : n < 128 ^ i) (hx : x < 256) (hi : i < 9) : bits .or .i64 (n : Int) (wrap64 (wrap64 (bits .and .u8 (x : Int) 127) * 2 ^ (7 * i))) = ((n + x % 128 * 128 ^ i : Nat) : Int) := by
  have e1 : bits .and .u8 (x : Int) 127 = ((x % 128 : Nat) : Int) := by
    rw [show (127 : Int) = ((127 : Nat) : Int) from rfl, u8_and_nat x 127 hx (by decide)]
    congr 1
    exact Nat.and_two_pow_sub_one_eq_mod x 7
  have e2 : wrap64 ((x % 128 : Nat) : Int) = ((x % 128 : Nat) : Int) := by unfold wrap64; omega
  have hp : (2 : Nat) ^ (7 * i) = 128 ^ i := by rw [Nat.pow_mul]
  have hle : 128 ^ i ≤ 128 ^ 8 := Nat.pow_le_pow_right (by decide) (by omega)
  have hm : x % 128 * 128 ^ i < 9223372036854775808 := by
    have h1 : x % 128 * 128 ^ i ≤ 127 * 128 ^ 8 := Nat.mul_le_mul (by omega) hle
    omega
  have e3 : (((x % 128 : Nat) : Int) * 2 ^ (7 * i)) = ((x % 128 * 128 ^ i : Nat) : Int) := by
    rw [← hp]; simp
  have e4 : ∀ X : Nat, X < 9223372036854775808 → wrap64 (X : Int) = (X : Int) := fun X h => by unfold wrap64; omega
  rw [e1, e2, e3, e4 _ hm, i64_or _ _ (by omega) hm]
  congr 1
  rw [← hp] at hn ⊢
  rw [Nat.or_comm, Nat.mul_comm (x % 128), ← Nat.two_pow_add_eq_or_of_lt hn, Nat.add_comm]

/-- what number answers at the place k -/
def NPost (k : Nat) : Option (Nat × Nat) → Ending → Prop
  | some (n, m), e => e = .returned (.tuple #[.int .i64 (n : Int), .int .i64 ((k : Int) + (m : Int)), .bool true])
  | none, e => ∃ n m : Int, e = .returned (.tuple #[.int .i64 n, .int .i64 m, .bool false])
set_option maxHeartbeats 2000000 in
set_option maxRecDepth 100000 in
theorem number (B : Nat) (l : List UInt8) (p k : Nat) (w : World) (h : Rd B w l p) (hl : l.length ≤ 140737488351232) (hk : k ≤ 140737488351232) :
    Calls Tryz.prog 100 #[.pointer (some ⟨B, 0, none⟩), .int .i64 (k : Int)] w fun e w' => NPost k (Fp.rd (l.drop k)) e ∧ w = w' := by
  obtain ⟨a, c, h1, h2, -⟩ := h
  have c0 : w.cell? ⟨B, 0, none⟩ = some (.slice a l.length c) := by rw [Lib.cell_of_heap h1]; rfl
  have HB := Lib.hid h2
  clear h1 h2
  go_enter Tryz.func100, Tryz.ntmps100
  go_wp2_with fail
  go_loopg [7, 10] 9 (fun g v7 v10 wr => ∃ i n : Nat, i + g = 9 ∧ v10 = .int .i64 (i : Int) ∧ v7 = .int .i64 (n : Int) ∧ Hid (Fp.rd (l.drop k) = Fp.rdF g i n (l.drop (k + i))) ∧ Hid (n < 128 ^ i) ∧ w = wr)
  case atStart => exact ⟨0, 0, by omega, rfl, rfl, rfl, Nat.one_pos, rfl⟩
  case round =>
    obtain ⟨i, n, hig, rfl, rfl, HR, HN, rfl⟩ := hrel
    have HG := Lib.hid hig
    by_cases hi : i < 9
    · clear hig
      by_cases hlt : k + i < l.length
      · obtain ⟨x, hx⟩ : ∃ x, l[k + i]? = some x := ⟨l[k + i], List.getElem?_eq_getElem hlt⟩
        obtain ⟨b, o, rfl, hb, ck⟩ := bs_at HB.out hx
        obtain ⟨g, rfl⟩ : ∃ g, gk = g + 1 := ⟨gk - 1, by have := HG.out; omega⟩
        have hxl := UInt8.toNat_lt x
        obtain ⟨n', hn'⟩ : ∃ n', n' = n + x.toNat % 128 * 128 ^ i := ⟨_, rfl⟩
        have ev : bits .or .i64 (n : Int) (wrap64 (wrap64 (bits .and .u8 (x.toNat : Int) 127) * 2 ^ (7 * i))) = (n' : Int) := by rw [hn']; exact or_step n x.toNat i HN.out hxl hi
        have hd : l.drop (k + i) = x :: l.drop (k + (i + 1)) := by
          rw [List.drop_eq_getElem_cons hlt]
          congr 1
          exact Option.some.inj ((List.getElem?_eq_getElem hlt).symm.trans hx)
        have HD := Lib.hid hd
        have HN2 := Lib.hid hn'
        clear hx hd hn'
        by_cases h8 : x.toNat < 128
        · have e8 : decide ((x.toNat : Int) < 128) = true := decide_eq_true (by omega)
          by_cases h9 : x.toNat ≠ 0 ∨ i = 0
          · have hr : Fp.rd (l.drop k) = some (n', i + 1) := by
              rw [HR.out, HD.out, Fp.rdF, if_pos h8, if_pos h9, HN2.out]
            have HR2 := Lib.hid hr
            have HRR := Lib.hid h9
            have hpk : (((x.toNat : Int) != 0) = true ∨ (((x.toNat : Int) != 0) = false ∧ ((i : Int) == 0) = true)) := by
              by_cases h0 : x.toNat = 0
              · rcases h9 with h9 | h9
                · exact absurd h0 h9
                · exact .inr ⟨by rw [h0]; rfl, by rw [h9]; rfl⟩
              · exact .inl (by rw [bne_iff_ne]; omega)
            clear hr h9 h8
            rcases hpk with q1 | ⟨q1, q2⟩
            all_goals
              go_wp2_with fail
              go_ret3
              rw [HR2.out]
              exact ⟨by show _ = Ending.returned (.tuple #[.int .i64 (n' : Int), .int .i64 ((k : Int) + ((i + 1 : Nat) : Int)), .bool true]); rw [show ((k : Int) + ((i + 1 : Nat) : Int)) = (k : Int) + (i : Int) + 1 by omega]; rfl, rfl⟩
          · have hr : Fp.rd (l.drop k) = none := by
              rw [HR.out, HD.out, Fp.rdF, if_pos h8, if_neg h9]
            have HR2 := Lib.hid hr
            have q1 : ((x.toNat : Int) != 0) = false := by
              by_cases h0 : x.toNat = 0
              · rw [h0]; rfl
              · exact absurd (.inl h0) h9
            have q2 : ((i : Int) == 0) = false := by
              rw [beq_eq_false_iff_ne]
              intro h
              exact h9 (.inr (by omega))
            have HRR := Lib.hid h9
            clear hr h9 h8
            go_wp2_with fail
            go_ret3
            rw [HR2.out]
            exact ⟨⟨_, _, rfl⟩, rfl⟩
        · have e8 : decide ((x.toNat : Int) < 128) = false := decide_eq_false (by omega)
          have hr : Fp.rd (l.drop k) = Fp.rdF g (i + 1) n' (l.drop (k + (i + 1))) := by
            rw [HR.out, HD.out, Fp.rdF, if_neg h8, HN2.out]
          have hlt2 : n' < 128 ^ (i + 1) := by
            have h1 : x.toNat % 128 * 128 ^ i ≤ 127 * 128 ^ i := Nat.mul_le_mul_right _ (by omega)
            have h2 := HN.out
            rw [HN2.out, Nat.pow_succ]
            omega
          have HR2 := Lib.hid hr
          have HL2 := Lib.hid hlt2
          have H8 := Lib.hid h8
          clear hr hlt2 h8
          go_wp2_with fail
          go_roundg g
          case measure => omega
          case rel => exact ⟨i + 1, n', by have := HG.out; omega, by go_num, rfl, HR2.out, HL2.out, rfl⟩
      · have hd : l.drop (k + i) = [] := List.drop_eq_nil_of_le (by omega)
        obtain ⟨g, rfl⟩ : ∃ g, gk = g + 1 := ⟨gk - 1, by have := HG.out; omega⟩
        have HR2 := Lib.hid (show Fp.rd (l.drop k) = none by rw [HR.out, hd]; rfl)
        have h9 : (l.length : Int) ≤ (k : Int) + (i : Int) := by omega
        clear hd hlt
        go_wp2_with fail
        go_ret3
        rw [HR2.out]
        exact ⟨⟨_, _, rfl⟩, rfl⟩
    · obtain rfl : gk = 0 := by omega
      have HR2 := Lib.hid (show Fp.rd (l.drop k) = none by rw [HR.out]; rfl)
      have h9 : (9 : Int) ≤ (i : Int) := by omega
      clear hig hi
      go_wp2_with fail
      go_ret3
      rw [HR2.out]
      exact ⟨⟨_, _, rfl⟩, rfl⟩
end Go.Proofs.YtecnnlppinhmgaaGreatDoor.FrD
namespace Go.Proofs.YtecnnlppinhmgaaGreatDoor.Mid
open Go.RowKit Go.Proofs.YtecnnlppinhmgaaGreatDoor Go.Proofs.YtecnnlppinhmgaaGreatDoor.HtW

theorem bs_mid {w : World} {a : Option Addr} {l : List UInt8} {c : Nat} (h : Bs w a l c) (i n : Nat) (hn : i + n ≤ l.length) : Bs w (if c = i then a else a.map (·.add (i * 1))) ((l.drop i).take n) (c - i) := by
  obtain ⟨h1, h2, h3⟩ := h
  refine ⟨by rw [List.length_take, List.length_drop]; omega, fun hnone => ?_, ?_⟩
  · by_cases hc : c = i
    · omega
    · rw [if_neg hc] at hnone
      have := h2 (Option.map_eq_none_iff.1 hnone)
      omega
  · rcases h3 with h0 | ⟨b, o, rfl, hb, hx⟩
    · left; rw [h0]; simp
    · by_cases hc : c = i
      · left
        rw [List.drop_eq_nil_of_le (by omega)]; simp
      · right
        refine ⟨b, o + i, by rw [if_neg hc]; simp [Addr.add], hb, fun j x hj => ?_⟩
        have hjl := (List.getElem?_eq_some_iff.1 hj).1
        rw [List.length_take] at hjl
        rw [List.getElem?_take, if_pos (by omega), List.getElem?_drop] at hj
        rw [Nat.add_assoc]
        exact hx (i + j) x hj
theorem mid {w : World} {a : Option Addr} {l : List UInt8} {c : Nat} (h : Bs w a l c) (i n : Nat) (hn : i + n ≤ l.length) (z y : Int) (hz : z = i) (hy : y = i + n) :
    ∃ a', (∀ W, (Instr.sliceAt 24 (.slice a l.length c) (some (.int .i64 z)) (some (.int .i64 y)) none).run Tryz.prog W = .ok (.slice a' n (c - i)) W) ∧ Bs w a' ((l.drop i).take n) (c - i) := by
  subst hz hy
  have hc := h.1
  have ht : Tryz.prog.underlying 24 = some (.slice (Tryz.prog.elem 24)) := by kernel_rfl
  have hs : ∀ W, (sizeOf (Tryz.prog.elem 24)).run Tryz.prog W = .ok 1 W := fun _ => by kernel_rfl
  refine ⟨_, fun W => ?_, bs_mid h i n hn⟩
  rw [run_sliceAt_slice W _ _ _ _ _ ht, run_slice_lh W _ _ _ c ht .i64 .i64 i (i + n) (by omega) (by omega) (by omega), hs]
  have e : ((i : Int) + (n : Int)).toNat = i + n := by omega
  simp only [Result.andThen, sliced, Int.toNat_natCast, e, Nat.add_sub_cancel_left]
/-- x[:j] -/
theorem pre {w : World} {a : Option Addr} {l : List UInt8} {c : Nat} (h : Bs w a l c) (n : Nat) (hn : n ≤ l.length) (y : Int) (hy : y = n) :
    ∃ a', (∀ W, (Instr.sliceAt 24 (.slice a l.length c) none (some (.int .i64 y)) none).run Tryz.prog W = .ok (.slice a' n c) W) ∧ Bs w a' (l.take n) c := by
  subst hy
  have hc := h.1
  have ht : Tryz.prog.underlying 24 = some (.slice (Tryz.prog.elem 24)) := by kernel_rfl
  have hs : ∀ W, (sizeOf (Tryz.prog.elem 24)).run Tryz.prog W = .ok 1 W := fun _ => by kernel_rfl
  refine ⟨_, fun W => ?_, by have := bs_mid h 0 n (by omega); rwa [List.drop_zero, Nat.sub_zero] at this⟩
  rw [run_sliceAt_slice W _ _ _ _ _ ht, run_slice_h W _ _ _ c ht .i64 (n : Int) (by omega) (by omega), hs]
  simp only [Result.andThen, sliced, Int.toNat_natCast, Nat.sub_zero]
/-- x[i:] -/
theorem suf {w : World} {a : Option Addr} {l : List UInt8} {c : Nat} (h : Bs w a l c) (i : Nat) (hi : i ≤ l.length) (z : Int) (hz : z = i) :
    ∃ a', (∀ W, (Instr.sliceAt 24 (.slice a l.length c) (some (.int .i64 z)) none none).run Tryz.prog W = .ok (.slice a' (l.length - i) (c - i)) W) ∧ Bs w a' (l.drop i) (c - i) := by
  subst hz
  have hc := h.1
  have ht : Tryz.prog.underlying 24 = some (.slice (Tryz.prog.elem 24)) := by kernel_rfl
  have hs : ∀ W, (sizeOf (Tryz.prog.elem 24)).run Tryz.prog W = .ok 1 W := fun _ => by kernel_rfl
  refine ⟨_, fun W => ?_, by have := bs_mid h i (l.length - i) (by omega); rwa [List.take_of_length_le (by rw [List.length_drop]; omega)] at this⟩
  rw [run_sliceAt_slice W _ _ _ _ _ ht, run_slice_l W _ _ _ c ht .i64 (i : Int) (by omega) (by omega), hs]
  simp only [Result.andThen, sliced, Int.toNat_natCast]
end Go.Proofs.YtecnnlppinhmgaaGreatDoor.Mid
