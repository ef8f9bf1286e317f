/-
  A range over an iterator that gives a known list of strings and writes between two rounds one cell block that it has captured (strings.SplitSeq): the iterator's contract, and the statement's law. The walk of strings.Cut at one byte; strings.SplitSeq at one byte, as an iterator.
-/
import Derived.Test.YtidflagmdabfaaaGreatDoorSg10
import Derived.RangeFuncFrom
import Derived.RangeFuncCalls
import Derived.RangeFuncBound
import Derived.Shelf.Abstract
import Derived.OwnWalkIn
import Derived.TacticsInMore
import Derived.LoopNIn
import Derived.LoopIn
import Derived.RangeFuncLeaves
import Derived.Sort.LoopGhostIn
namespace Go.Proofs.YtidflagmdabfaaaGreatDoor.Rng
open Go.RowKit

/-- the blocks from lo on, below hi, lie as they lay -/
def Span (lo hi : Nat) (W W' : World) : Prop := ∀ k, lo ≤ k → k < hi → W'.heap[k]? = W.heap[k]?
theorem Span.refl (lo hi : Nat) (W : World) : Span lo hi W W := fun _ _ _ => rfl
theorem Span.trans {lo hi : Nat} {A B C : World} (h : Span lo hi A B) (k : Span lo hi B C) : Span lo hi A C := fun i h1 h2 => (k i h1 h2).trans (h i h1 h2)
theorem Span.put {lo hi : Nat} (W : World) {l : Nat} (o : Obj) (h : hi ≤ l) : Span lo hi W (W.putObj l o) := fun _ _ h2 => World.putObj_heap_other (by omega)
theorem Span.alloc {lo hi : Nat} (W : World) (o : Obj) (h : hi ≤ W.heap.size) : Span lo hi W (W.alloc o) := fun _ _ h2 => Below.heap_alloc _ _ _ (by omega)
theorem Span.of_below {lo hi n : Nat} {W W' : World} (h : Below n W W') (hn : hi ≤ n) : Span lo hi W W' := fun k _ h2 => h.block k (by omega)

/-- J says nothing of block c, nor of what lies from B on and is no cells -/
def Bides {β : Type} (B c : Nat) (J : β → World → Prop) : Prop :=
  ∀ s W W' row, J s W → W.grownBy W' row → (∀ r, row = some r → r = c ∨ (B ≤ r ∧ ∃ o : Obj, W.heap[r]? = some o ∧ o.isCells = false)) → J s W'
theorem Bides.put {β : Type} {B c : Nat} {J : β → World → Prop} (h : Bides B c J) {s : β} {W : World} {l : Nat} {o : Obj} (o' : Obj) (hs : J s W) (hB : B ≤ l) (hl : W.heap[l]? = some o) (ho : o.isCells = false) : J s (W.putObj l o') :=
  h s W _ (some l) hs (grownBy_putObj' W l o') (fun r e => by cases e; exact .inr ⟨hB, o, hl, ho⟩)
theorem Bides.alloc {β : Type} {B c : Nat} {J : β → World → Prop} (h : Bides B c J) {s : β} {W : World} (o : Obj) (hs : J s W) : J s (W.alloc o) :=
  h s W _ none hs (World.grownBy_alloc W o none) (fun r e => by cases e)
theorem Bides.and {β : Type} {B c : Nat} {I J : β → World → Prop} (h : Bides B c I) (h' : Bides B c J) : Bides B c (fun s W => I s W ∧ J s W) :=
  fun s W W' row hs hg hr => ⟨h s W W' row hs.1 hg hr, h' s W W' row hs.2 hg hr⟩
theorem Bides.below {β : Type} {n₀ B c : Nat} {w₀ : World} (hn : n₀ ≤ w₀.heap.size) (hB : n₀ ≤ B) (hc : n₀ ≤ c) : Bides B c (fun (_ : β) W => Below n₀ w₀ W) :=
  fun _ _ _ _ hs hg hr => hs.grown hg (Nat.le_trans hn hs.size) (fun k e => by
    rcases hr k e with h | h
    · omega
    · exact Nat.le_trans hB h.1)
theorem Bides.pure {β : Type} {B c : Nat} {J : β → Prop} : Bides B c (fun s _ => J s) := fun _ _ _ _ hs _ _ => hs
/-- a block of cells, not c, that J speaks of -/
theorem keeps_cells {B c k : Nat} {W W' : World} {row : Option Nat} {o : Obj} (hk : W.heap[k]? = some o) (ho : o.isCells = true) (hc : k ≠ c) (hg : W.grownBy W' row)
    (hr : ∀ r, row = some r → r = c ∨ (B ≤ r ∧ ∃ o : Obj, W.heap[r]? = some o ∧ o.isCells = false)) : W'.heap[k]? = W.heap[k]? := by
  refine hg.block k (Array.getElem?_eq_some_iff.1 hk).1 fun e => ?_
  rcases hr k e.symm with h | ⟨_, o', h, h'⟩
  · exact hc h
  · rw [hk] at h; cases h; rw [ho] at h'; cases h'

section
variable {F : Fence} {n : Nat} {P : Program}

/-- the iterator g with captures lb gives xs, one string a round, and writes block c alone between them; it reads its blocks lo.. below hi -/
def Gives (F : Fence) (n : Nat) (P : Program) (g : Nat) (lb : Array Value) (lo hi c : Nat) (xs : List ByteArray) (w0 : World) : Prop :=
  ∀ (l : Nat) (J Jx : List ByteArray → World → Prop) (W : World), w0.heap.size ≤ W.heap.size → Span lo hi w0 W → Bides W.heap.size c J → Bides W.heap.size c Jx →
    (∀ pre x W1, J pre W1 → (pre ++ [x]) <+: xs → YieldAt F (n - 1) P l #[.string x] W1 fun e W' =>
      (e = .returned (.bool true) ∧ J (pre ++ [x]) W' ∧ Span lo hi W1 W') ∨ (e = .returned (.bool false) ∧ Jx (pre ++ [x]) W')) →
    J [] W →
    CallsIn F n P g (#[.func (.yield l) #[] #[]] ++ lb) W fun e W' => (∃ v, e = .returned v) ∧ (J xs W' ∨ ∃ pre, pre <+: xs ∧ Jx pre W')

/-- how a round's body may be left -/
def Post (lo hi : Nat) (I : List ByteArray → World → Prop) (Ix : Code → List ByteArray → World → Prop) (xs : List ByteArray) (W : World) : Exit → Act → World → Prop
  | .normal, _, W' => KeepsOthers W W' ∧ Span lo hi W W' ∧ I xs W'
  | .ret, _, W' => KeepsOthers W W' ∧ Ix .ret xs W'
  | .exit id, _, W' => KeepsOthers W W' ∧ Ix (.exit id) xs W'
  | .goto t, _, W' => KeepsOthers W W' ∧ Ix (.goto t) xs W'
  | .panic _, _, _ => False
  | .outgrown, _, _ => False

theorem range {g : Operand} {p : Tmp} {assign body : Code} {Q : Exit → Act → World → Prop} {a : Act} {w : World}
    (hro : F.round = none) (h1 : 1 ≤ n) {gf : Nat} {lb : Array Value} (hg : a.eval g = .func (.func gf) #[] lb) (hFg : F.fn gf) (eg : ∀ args w, (callFunc gf args).run P w = .ok (.enter gf args) w)
    {lo hi c : Nat} {xs : List ByteArray} (hc : c < w.heap.size) (hh : hi ≤ w.heap.size) (hseq : Gives F (n - 1) P gf lb lo hi c xs w)
    (I : List ByteArray → World → Prop) (Ix : Code → List ByteArray → World → Prop) (hI : Bides w.heap.size c I) (hIx : ∀ k, Bides w.heap.size c (Ix k)) (h0 : I [] w) (a₁ : ByteArray → Act)
    (hassign : ∀ (l : Nat) (x : ByteArray) (W : World) (K : Act → World → Prop), K (a₁ x) W →
      assign.wpIn (F.inRound l) (n - 1 - 1) P (Exit.then K (fun _ _ _ => False)) { tmps := a.tmps.setIfInBounds p (.string x), defers := [] } W)
    (hbody : ∀ (l : Nat) (pre : List ByteArray) (x : ByteArray) (W : World), I pre W → (pre ++ [x]) <+: xs → w.heap.size ≤ W.heap.size → body.wpIn (F.inRound l) (n - 1 - 1) P (Post lo hi I Ix (pre ++ [x]) W) (a₁ x) W)
    (hdone : ∀ (D : Nat) (W : World), w.heap.size ≤ D → I xs W → W.heap[D]? = some (.deferred (some [])) → Q .normal { a with defers := { target := .collected D, args := #[] } :: a.defers } W)
    (hstop : ∀ (D : Nat) (k : Code) (pre : List ByteArray) (W : World), w.heap.size ≤ D → pre <+: xs → Ix k pre W → W.heap[D]? = some (.deferred (some [])) → k.wpIn F n P Q { a with defers := { target := .collected D, args := #[] } :: a.defers } W) :
    (Code.rangeFunc g #[p] assign body).wpIn F n P Q a w := by
  refine wpIn_rangeFunc fun fn hfn => ?_
  rw [hro]
  let D := w.heap.size
  let l := w.heap.size + 1
  let rec0 : LoopState → Option Code → Loop := fun st pe => { state := st, pending := pe, fn, tmps := a.tmps, params := #[p], assign, body, defers := D }
  let W1 := (w.alloc (.deferred (some []))).alloc (.loop (rec0 .ready none))
  have hL1 : W1.heap[l]? = some (.loop (rec0 .ready none)) := by
    have := World.alloc_heap_new (w.alloc (.deferred (some []))) (.loop (rec0 .ready none))
    rwa [World.size_alloc] at this
  have hK1 : W1.heap[D]? = some (.deferred (some [])) := (Below.heap_alloc _ _ _ (by simp [D])).trans (World.alloc_heap_new w _)
  have hS1 : W1.heap.size = w.heap.size + 2 := by simp [W1]
  have hb1 : Below w.heap.size w W1 := ((Below.refl _ w).alloc (Nat.le_refl _) _).alloc (by simp) _
  -- between two rounds: the caller's word, the record and the block of deferred calls
  let J : List ByteArray → World → Prop := fun pre W => I pre W ∧ W.heap[l]? = some (.loop (rec0 .ready none)) ∧ W.heap[D]? = some (.deferred (some []))
  let Jx : List ByteArray → World → Prop := fun pre W => ∃ k, Ix k pre W ∧ W.heap[l]? = some (.loop (rec0 .done (some k))) ∧ W.heap[D]? = some (.deferred (some []))
  have far : ∀ {A B : World} {row : Option Nat} {k : Nat} {o : Obj}, A.heap[k]? = some o → A.grownBy B row → k = l ∨ k = D → (∀ r, row = some r → r = c ∨ (W1.heap.size ≤ r ∧ ∃ o : Obj, A.heap[r]? = some o ∧ o.isCells = false)) → B.heap[k]? = some o := by
    intro A B row k o hk hgr hkl hr
    refine (hgr.block k (Array.getElem?_eq_some_iff.1 hk).1 fun e => ?_).trans hk
    rcases hr k e.symm with h | ⟨h, _⟩
    · rcases hkl with rfl | rfl <;> (simp only [l, D] at h; omega)
    · rcases hkl with rfl | rfl <;> (simp only [l, D] at h; omega)
  have wid : ∀ {A : World} {row : Option Nat}, (∀ r, row = some r → r = c ∨ (W1.heap.size ≤ r ∧ ∃ o : Obj, A.heap[r]? = some o ∧ o.isCells = false)) → (∀ r, row = some r → r = c ∨ (w.heap.size ≤ r ∧ ∃ o : Obj, A.heap[r]? = some o ∧ o.isCells = false)) :=
    fun hr r e => (hr r e).imp id fun h => ⟨by omega, h.2⟩
  have hJ : Bides W1.heap.size c J := fun s A B row hs hgr hr => ⟨hI s A B row hs.1 hgr (wid hr), far hs.2.1 hgr (.inl rfl) hr, far hs.2.2 hgr (.inr rfl) hr⟩
  have hJx : Bides W1.heap.size c Jx := fun s A B row hs hgr hr => by
    obtain ⟨k, h1, h2, h3⟩ := hs
    exact ⟨k, hIx k s A B row h1 hgr (wid hr), far h2 hgr (.inl rfl) hr, far h3 hgr (.inr rfl) hr⟩
  have one : ∀ pre x W, J pre W → (pre ++ [x]) <+: xs → YieldAt F (n - 1 - 1) P l #[.string x] W fun e W' =>
      (e = .returned (.bool true) ∧ J (pre ++ [x]) W' ∧ Span lo hi W W') ∨ (e = .returned (.bool false) ∧ Jx (pre ++ [x]) W') := by
    rintro pre x W ⟨hi0, hl, hk⟩ hpx
    have hlt : l < W.heap.size := (Array.getElem?_eq_some_iff.1 hl).1
    refine ⟨fn, a.tmps.setIfInBounds p (.string x), assign, body, ?_, ?_⟩
    · have := run_yield (P := P) (args := #[.string x]) hl rfl
      simpa [rec0] using this
    refine roundIn_of_wpIn hfn (hassign _ x W _ ⟨_, run_beginRound hl rfl, ?_⟩)
    let W2 := W.putObj l (.loop { rec0 .ready none with state := .busy })
    have hl2 : W2.heap[l]? = some (.loop { rec0 .ready none with state := .busy }) := World.putObj_heap_same hlt
    have hk2 : W2.heap[D]? = some (.deferred (some [])) := (World.putObj_heap_other (by simp [l, D])).trans hk
    have hs2 : Span lo hi W W2 := Span.put _ _ (by simp only [l]; omega)
    refine wpIn_mono (hbody _ pre x W2 (hI.put _ hi0 (by simp [l]) hl rfl) hpx (by simp [W2]; simp only [l] at hlt; omega)) ?_
    -- the round's end: the record is laid back
    have fin : ∀ (jump : Option Code) (W3 : World), KeepsOthers W2 W3 →
        (Instr.endRound l jump).run P W3 = .ok (.bool jump.isNone) (W3.putObj l (.loop (rec0 (if jump.isNone then .ready else .done) jump))) ∧
        W3.heap[l]? = some (.loop { rec0 .ready none with state := .busy }) ∧
        (W3.putObj l (.loop (rec0 (if jump.isNone then .ready else .done) jump))).heap[l]? = some (.loop (rec0 (if jump.isNone then .ready else .done) jump)) ∧
        (W3.putObj l (.loop (rec0 (if jump.isNone then .ready else .done) jump))).heap[D]? = some (.deferred (some [])) := fun jump W3 hk3 => by
      have hl3 := hk3.same _ _ hl2 rfl
      exact ⟨run_endRound (P := P) jump hl3, hl3, World.putObj_heap_same (Array.getElem?_eq_some_iff.1 hl3).1, (World.putObj_heap_other (by simp [l, D])).trans (hk3.same _ _ hk2 rfl)⟩
    have out : ∀ (k : Code) (W3 : World), KeepsOthers W2 W3 → Ix k (pre ++ [x]) W3 → ∃ v W4, (Instr.endRound l (some k)).run P W3 = .ok v W4 ∧ ((Ending.returned v = .returned (.bool true) ∧ J (pre ++ [x]) W4 ∧ Span lo hi W W4) ∨ (Ending.returned v = .returned (.bool false) ∧ Jx (pre ++ [x]) W4)) := by
      intro k W3 hk3 hi3
      obtain ⟨hr, hl3, hl4, hk4⟩ := fin (some k) W3 hk3
      exact ⟨_, _, hr, .inr ⟨rfl, k, (hIx _).put _ hi3 (by simp [l]) hl3 rfl, hl4, hk4⟩⟩
    rintro e a3 W3 hp
    cases e with
    | normal =>
      obtain ⟨hk3, hs3, hi3⟩ := hp
      obtain ⟨hr, hl3, hl4, hk4⟩ := fin none W3 hk3
      exact ⟨_, _, hr, .inl ⟨rfl, ⟨hI.put _ hi3 (by simp [l]) hl3 rfl, hl4, hk4⟩, (hs2.trans hs3).trans (Span.put _ _ (by simp only [l]; omega))⟩⟩
    | ret => exact out .ret W3 hp.1 hp.2
    | exit id => exact out (.exit id) W3 hp.1 hp.2
    | goto t => exact out (.goto t) W3 hp.1 hp.2
    | panic ch => exact hp.elim
    | outgrown => exact hp.elim
  refine ⟨l, [{ target := .collected D, args := #[] }], W1, { target := .fn (.func gf) lb, args := #[.func (.yield l) #[] #[]] }, W1, gf, #[.func (.yield l) #[] #[]] ++ lb, W1, ?_, ?_, ?_, ?_, fun _ => h1, ?_⟩
  · exact run_enterLoop_outer _ _ _ _ _
  · simp only [resolve, hg]
    simp [go_sem]
  · intro f' hf'; simp [Target.leads] at hf'; subst hf'; exact hFg
  · simp [invoke, go_sem, eg]
  · refine (hseq l J Jx W1 hb1.size (Span.of_below hb1 hh) hJ hJx one ⟨hI.alloc _ (hI.alloc _ h0), hL1, hK1⟩).mono ?_
    rintro e W2 ⟨⟨v, rfl⟩, (⟨h1, hl, hk⟩ | ⟨pre, hp, k, h1, hl, hk⟩)⟩
    · exact ⟨none, _, run_endLoop (P := P) hl (by simp [rec0]), hdone _ _ (Nat.le_refl _) (hI.put _ h1 (by simp [l]) hl rfl) ((World.putObj_heap_other (by simp [l, D])).trans hk)⟩
    · exact ⟨some k, _, run_endLoop (P := P) hl (by simp [rec0]), hstop _ k pre _ (Nat.le_refl _) hp ((hIx k).put _ h1 (by simp [l]) hl rfl) ((World.putObj_heap_other (by simp [l, D])).trans hk)⟩
end
end Go.Proofs.YtidflagmdabfaaaGreatDoor.Rng
namespace Go.Proofs.YtidflagmdabfaaaGreatDoor.UriB
open Go.RowKit Go.Proofs.YtidflagmdabfaaaGreatDoor

theorem ib_free {c : UInt8} {s : List UInt8} (h : c ∉ s) : Lib.indexByte s c = -1 := by
  induction s with
  | nil => rfl
  | cons x t ih =>
    have h1 : x ≠ c := fun e => h (by simp [e])
    have h2 : c ∉ t := fun e => h (by simp [e])
    simp [Lib.indexByte, h1, ih h2]
theorem ib_at {c : UInt8} {a b : List UInt8} (h : c ∉ a) : Lib.indexByte (a ++ c :: b) c = a.length := by
  induction a with
  | nil => simp [Lib.indexByte]
  | cons x t ih =>
    have h1 : x ≠ c := fun e => h (by simp [e])
    have h2 : c ∉ t := fun e => h (by simp [e])
    simp [Lib.indexByte, h1, ih h2]
    try omega

/-- package bytealg's variable holds some number -/
def Mx (w : World) : Prop := ∃ m, w.cell? ⟨18, 0, none⟩ = some (.int .i64 m)
theorem Mx.below {w w' : World} (h : Mx w) (hb : Below w.heap.size w w') : Mx w' := by
  obtain ⟨m, hm⟩ := h
  exact ⟨m, (hb.cell (World.block_lt_of_cell? w _ hm)).trans hm⟩
theorem Mx.shaped {w : World} (h : w.ShapedOpen Tryz.prog) : Mx w := Tryz.laysM145.s1_3 w h
theorem cut (c : UInt8) (s : ByteArray) (w : World) (hs : s.size < 4294967281) (h : Mx w) :
    Calls Tryz.prog 85 #[.string s, .string ⟨#[c]⟩] w fun e w' => (∃ b, e = .returned (.tuple #[.string ⟨(Up.cutAt c s.data.toList).1.toArray⟩, .string ⟨(Up.cutAt c s.data.toList).2.toArray⟩, .bool b])) ∧ Below w.heap.size w w' := by
  obtain ⟨m, hm⟩ := h
  refine (Tryz.strings_Cut s ⟨#[c]⟩ m w hs hm).mono ?_
  rintro e w' ⟨rfl, n, rfl⟩
  have := Up.cut_eq c s.data.toList
  exact ⟨⟨_, by rw [show (⟨#[c]⟩ : ByteArray).data.toList = [c] from rfl, this.1, this.2]⟩, UriA.below_drewN (Below.refl _ _) n⟩

attribute [local go_sem] Oper.semAt_some

set_option maxHeartbeats 1000000 in
theorem splitSeq_in (F : Fence) (n : Nat) (h1 : F.fn 144) (hro : F.round = none) (s sep : ByteArray) (k : Int) (w : World) :
    CallsIn F n Tryz.prog 144 #[.string s, .string sep, .int .i64 k] w fun e w' => e = .returned (.func (.func 174) #[] #[.pointer (some ⟨w.heap.size + 1, 0, none⟩), .pointer (some ⟨w.heap.size, 0, none⟩), .pointer (some ⟨w.heap.size + 2, 0, none⟩)]) ∧
      w' = ((w.alloc (.cells #[.string s] 9)).alloc (.cells #[.string sep] 9)).alloc (.cells #[.int .i64 k] 3) := by
  refine callsIn_of_wp Tryz.func144 rfl h1 ?_ hro
  simp only [Tryz.ntmps144, List.size_toArray, List.length_cons, List.length_nil, Nat.reduceAdd, Nat.reduceSub, Array.replicate_succ, Array.replicate_zero, List.push_toArray, List.append_toArray, List.nil_append, List.cons_append]
  gi_wp2
  go_ret
  exact ⟨rfl, rfl⟩
set_option maxHeartbeats 1000000 in
theorem SplitSeq_in (F : Fence) (n : Nat) (h0 : F.fn 88) (h1 : F.fn 144) (hro : F.round = none) (hn : 1 ≤ n) (s sep : ByteArray) (w : World) :
    CallsIn F n Tryz.prog 88 #[.string s, .string sep] w fun e w' => e = .returned (.func (.func 174) #[] #[.pointer (some ⟨w.heap.size + 1, 0, none⟩), .pointer (some ⟨w.heap.size, 0, none⟩), .pointer (some ⟨w.heap.size + 2, 0, none⟩)]) ∧
      w' = ((w.alloc (.cells #[.string s] 9)).alloc (.cells #[.string sep] 9)).alloc (.cells #[.int .i64 0] 3) := by
  refine callsIn_of_wp Tryz.func88 rfl h0 ?_ hro
  simp only [Tryz.ntmps88, List.size_toArray, List.length_cons, List.length_nil, Nat.reduceAdd, Nat.reduceSub, Array.replicate_succ, Array.replicate_zero, List.push_toArray, List.append_toArray, List.nil_append, List.cons_append]
  gi_wp2_with (gi_at_call 144; refine (splitSeq_in F (n - 1) h1 hro _ _ _ _).mono ?_; rintro e w' ⟨rfl, rfl⟩)
  go_ret
  exact ⟨rfl, rfl⟩

/-- the pieces, as strings -/
def pieces (c : UInt8) (l : List UInt8) : List ByteArray := (Up.splits c l).map fun x => ⟨x.toArray⟩

set_option maxRecDepth 100000 in
set_option maxHeartbeats 4000000 in
theorem gives (n : Nat) (hn : 2 ≤ n) (B : Nat) (c : UInt8) (s : ByteArray) (w0 : World)
    (hb0 : w0.heap[B]? = some (.cells #[.string s] 9 (0, 0))) (hb1 : w0.heap[B + 1]? = some (.cells #[.string ⟨#[c]⟩] 9 (0, 0))) (hb2 : w0.heap[B + 2]? = some (.cells #[.int .i64 0] 3 (0, 0))) (hs : s.size ≤ 4294967280) :
    Rng.Gives Fence.wide n Tryz.prog 174 #[.pointer (some ⟨B + 1, 0, none⟩), .pointer (some ⟨B, 0, none⟩), .pointer (some ⟨B + 2, 0, none⟩)] B (B + 3) B (pieces c s.data.toList) w0 := by
  intro l J Jx W hsz hsp hJ hJx hY h0
  have g0 : W.heap[B]? = some (.cells #[.string s] 9 (0, 0)) := (hsp B (by omega) (by omega)).trans hb0
  have g1 : W.heap[B + 1]? = some (.cells #[.string ⟨#[c]⟩] 9 (0, 0)) := (hsp (B + 1) (by omega) (by omega)).trans hb1
  have g2 : W.heap[B + 2]? = some (.cells #[.int .i64 0] 3 (0, 0)) := (hsp (B + 2) (by omega) (by omega)).trans hb2
  have G0 := Lib.hid g0; have G1 := Lib.hid g1; have G2 := Lib.hid g2
  have q0 : W.cell? ⟨B, 0, none⟩ = some (.string s) := by rw [Lib.cell_of_heap g0]; rfl
  have q1 : W.cell? ⟨B + 1, 0, none⟩ = some (.string ⟨#[c]⟩) := by rw [Lib.cell_of_heap g1]; rfl
  clear g0 g1 g2 hb0 hb1 hb2
  refine callsIn_of_wp Tryz.func174 rfl trivial ?_ rfl
  simp only [Tryz.ntmps174, List.size_toArray, List.length_cons, List.length_nil, Nat.reduceAdd, Nat.reduceSub, Array.replicate_succ, Array.replicate_zero, List.push_toArray, List.append_toArray, List.nil_append, List.cons_append]
  gi_wp2_with fail
  gi_loopg [7, 8] s.size (fun g v7 v8 wr => ∃ (pre : List (List UInt8)) (r : List UInt8), Up.splits c s.data.toList = pre ++ Up.splits c r ∧ r.length = g ∧ r.length ≤ s.size ∧ wr.heap[B]? = some (.cells #[.string ⟨r.toArray⟩] 9 (0, 0)) ∧ wr.heap[B + 1]? = some (.cells #[.string ⟨#[c]⟩] 9 (0, 0)) ∧ wr.heap[B + 2]? = some (.cells #[.int .i64 0] 3 (0, 0)) ∧ J (pre.map fun x => ⟨x.toArray⟩) wr)
  case atStart => exact ⟨[], s.data.toList, rfl, rfl, Nat.le_refl _, by rw [Com.mk_data]; exact G0.out, G1.out, G2.out, h0⟩
  case round =>
    obtain ⟨pre, r, hsp2, hrg, hrs, g0, g1, g2, hj⟩ := hrel
    have HSP := Lib.hid hsp2; clear hsp2
    have HG := Lib.hid hrg; clear hrg
    have q0 : wr.cell? ⟨B, 0, none⟩ = some (.string ⟨r.toArray⟩) := by rw [Lib.cell_of_heap g0]; rfl
    have q1 : wr.cell? ⟨B + 1, 0, none⟩ = some (.string ⟨#[c]⟩) := by rw [Lib.cell_of_heap g1]; rfl
    have q2 : wr.cell? ⟨B + 2, 0, none⟩ = some (.int .i64 0) := by rw [Lib.cell_of_heap g2]; rfl
    have HG0 := Lib.hid g0; have HG1 := Lib.hid g1; have HG2 := Lib.hid g2
    clear g0 g1 g2
    by_cases hc : c ∈ r
    · obtain ⟨a, b, rfl, ha⟩ := Up.parts hc
      have hix : Lib.indexByte (a ++ c :: b) c = (a.length : Int) := ib_at ha
      have hal : a.length ≤ 4294967280 := by simp at hrs; omega
      have hE1 : (ByteArray.mk (a ++ c :: b).toArray).extract 0 a.length = ⟨a.toArray⟩ := by
        rw [← Com.mk_data ((ByteArray.mk (a ++ c :: b).toArray).extract 0 a.length), Com.extract_data]
        simp
      have hpx : (pre.map fun x => (⟨x.toArray⟩ : ByteArray)) ++ [⟨a.toArray⟩] <+: pieces c s.data.toList := by
        unfold pieces
        rw [HSP.out, Up.splits_at ha, List.map_append, List.map_cons]
        exact ⟨(Up.splits c b).map fun x => ⟨x.toArray⟩, by simp⟩
      obtain ⟨fn, tmps, assign, body, hy, hR⟩ := hY _ ⟨a.toArray⟩ wr hj hpx
      have HPX := Lib.hid hpx; clear hpx
      have hfI : Fence.wide.fn 176 := trivial
      have h1 : 1 ≤ n := by omega
      gi_wp2_with (gi_at_call 176; refine (callsIn_wide.2 (Tryz.strings_Index_one ⟨(a ++ c :: b).toArray⟩ c _)).mono ?_; rintro e w' ⟨rfl, rfl⟩)
      refine hR.mono ?_
      rintro e W3 (⟨rfl, hJ3, hk3⟩ | ⟨rfl, hJx3⟩)
      · have g0 := (hk3 B (by omega) (by omega)).trans HG0.out
        have g1 := (hk3 (B + 1) (by omega) (by omega)).trans HG1.out
        have g2 := (hk3 (B + 2) (by omega) (by omega)).trans HG2.out
        have p0 : W3.cell? ⟨B, 0, none⟩ = some (.string ⟨(a ++ c :: b).toArray⟩) := by rw [Lib.cell_of_heap g0]; rfl
        have p1 : W3.cell? ⟨B + 1, 0, none⟩ = some (.string ⟨#[c]⟩) := by rw [Lib.cell_of_heap g1]; rfl
        have pf : W3.frozen? ⟨B, 0, none⟩ = false := Lib.frozen_of_heap g0 0
        have P0 := Lib.hid g0; have P1 := Lib.hid g1; have P2 := Lib.hid g2
        clear g0 g1 g2
        have hE2 : (ByteArray.mk (a ++ c :: b).toArray).extract (a.length + 1) (a.length + (b.length + 1)) = ⟨b.toArray⟩ := by
          rw [← Com.mk_data ((ByteArray.mk (a ++ c :: b).toArray).extract (a.length + 1) (a.length + (b.length + 1))), Com.extract_data]
          simp [List.drop_append, List.take_of_length_le]
        gi_wp2
        have hgr : W3.grownBy (W3.setCell ⟨B, 0, none⟩ (.string ⟨b.toArray⟩)) (some B) :=
          ⟨rfl, rfl, rfl, by simp [World.setCell], fun k _ hk => Below.heap_setCell _ _ _ _ (fun e => hk (by rw [e]))⟩
        have hj4 := hJ _ _ _ _ hJ3 hgr (fun r e => by cases e; exact .inl rfl)
        have n0 : (W3.setCell ⟨B, 0, none⟩ (.string ⟨b.toArray⟩)).heap[B]? = some (.cells #[.string ⟨b.toArray⟩] 9 (0, 0)) := by
          simp only [World.setCell, Array.getElem?_modify, if_true, P0.out]
          rfl
        have n1 := (Below.heap_setCell W3 ⟨B, 0, none⟩ (.string ⟨b.toArray⟩) (B + 1) (by simp)).trans P1.out
        have n2 := (Below.heap_setCell W3 ⟨B, 0, none⟩ (.string ⟨b.toArray⟩) (B + 2) (by simp)).trans P2.out
        gi_roundg b.length
        case measure => have := HG.out; simp at this; omega
        case rel => exact ⟨pre ++ [a], b, by rw [HSP.out, Up.splits_at ha]; simp, rfl, by simp at hrs; omega, n0, n1, n2, by rw [List.map_append]; exact hj4⟩
      · gi_wp2
        refine bodyPost_ret (results_none rfl _ _ _) rfl ?_
        exact ⟨⟨_, rfl⟩, .inr ⟨_, HPX.out, hJx3⟩⟩
    · have hix : Lib.indexByte r c = -1 := ib_free hc
      have hS1 := HSP.out
      rw [Up.splits_free hc] at hS1
      have hall : (pre.map fun x => (⟨x.toArray⟩ : ByteArray)) ++ [⟨r.toArray⟩] = pieces c s.data.toList := by
        unfold pieces
        rw [hS1]
        simp
      clear hS1
      have hpx : (pre.map fun x => (⟨x.toArray⟩ : ByteArray)) ++ [⟨r.toArray⟩] <+: pieces c s.data.toList := by rw [hall]; exact List.prefix_refl _
      obtain ⟨fn, tmps, assign, body, hy, hR⟩ := hY _ ⟨r.toArray⟩ wr hj hpx
      have HPX := Lib.hid hpx; clear hpx
      have HAL := Lib.hid hall; clear hall
      have hfI : Fence.wide.fn 176 := trivial
      have h1 : 1 ≤ n := by omega
      gi_wp2_with (gi_at_call 176; refine (callsIn_wide.2 (Tryz.strings_Index_one ⟨r.toArray⟩ c _)).mono ?_; rintro e w' ⟨rfl, rfl⟩)
      refine hR.mono ?_
      rintro e W3 (⟨rfl, hJ3, hk3⟩ | ⟨rfl, hJx3⟩)
      · gi_wp2
        go_end0
        exact ⟨⟨_, rfl⟩, .inl (by rw [← HAL.out]; exact hJ3)⟩
      · gi_wp2
        go_end0
        exact ⟨⟨_, rfl⟩, .inr ⟨_, HPX.out, hJx3⟩⟩
end Go.Proofs.YtidflagmdabfaaaGreatDoor.UriB
