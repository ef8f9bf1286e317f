/-
  A range over an iterator that gives a known list of strings and writes between two rounds one cell block that it has captured (strings.SplitSeq): the iterator's contract, and the statement's law.
-/
import Derived.RangeFuncFrom
import Derived.RangeFuncCalls
import Derived.RangeFuncBound
namespace Go.Proofs.YtmimkgfkicgfiaaDoor.Rng
open Go.RowKit

/-- the blocks from lo on, below hi, lie as they lay -/
def Span (lo hi : Nat) (W W' : World) : Prop := ∀ k, lo ≤ k → k < hi → W'.heap[k]? = W.heap[k]?
theorem Span.refl (lo hi : Nat) (W : World) : Span lo hi W W := fun _ _ _ => rfl
theorem Span.trans {lo hi : Nat} {A B C : World} (h : Span lo hi A B) (k : Span lo hi B C) : Span lo hi A C := fun i h1 h2 => (k i h1 h2).trans (h i h1 h2)
theorem Span.put {lo hi : Nat} (W : World) {l : Nat} (o : Obj) (h : hi ≤ l) : Span lo hi W (W.putObj l o) := fun _ _ h2 => World.putObj_heap_other (by omega)
theorem Span.alloc {lo hi : Nat} (W : World) (o : Obj) (h : hi ≤ W.heap.size) : Span lo hi W (W.alloc o) := fun _ _ h2 => Below.heap_alloc _ _ _ (by omega)
theorem Span.of_below {lo hi n : Nat} {W W' : World} (h : Below n W W') (hn : hi ≤ n) : Span lo hi W W' := fun k _ h2 => h.block k (by omega)

/-- J says nothing of block c, nor of what lies from B on and is no cells -/
def Bides {β : Type} (B c : Nat) (J : β → World → Prop) : Prop :=
  ∀ s W W' row, J s W → W.grownBy W' row → (∀ r, row = some r → r = c ∨ (B ≤ r ∧ ∃ o : Obj, W.heap[r]? = some o ∧ o.isCells = false)) → J s W'
theorem Bides.put {β : Type} {B c : Nat} {J : β → World → Prop} (h : Bides B c J) {s : β} {W : World} {l : Nat} {o : Obj} (o' : Obj) (hs : J s W) (hB : B ≤ l) (hl : W.heap[l]? = some o) (ho : o.isCells = false) : J s (W.putObj l o') :=
  h s W _ (some l) hs (grownBy_putObj' W l o') (fun r e => by cases e; exact .inr ⟨hB, o, hl, ho⟩)
theorem Bides.alloc {β : Type} {B c : Nat} {J : β → World → Prop} (h : Bides B c J) {s : β} {W : World} (o : Obj) (hs : J s W) : J s (W.alloc o) :=
  h s W _ none hs (World.grownBy_alloc W o none) (fun r e => by cases e)
theorem Bides.and {β : Type} {B c : Nat} {I J : β → World → Prop} (h : Bides B c I) (h' : Bides B c J) : Bides B c (fun s W => I s W ∧ J s W) :=
  fun s W W' row hs hg hr => ⟨h s W W' row hs.1 hg hr, h' s W W' row hs.2 hg hr⟩
theorem Bides.below {β : Type} {n₀ B c : Nat} {w₀ : World} (hn : n₀ ≤ w₀.heap.size) (hB : n₀ ≤ B) (hc : n₀ ≤ c) : Bides B c (fun (_ : β) W => Below n₀ w₀ W) :=
  fun _ _ _ _ hs hg hr => hs.grown hg (Nat.le_trans hn hs.size) (fun k e => by
    rcases hr k e with h | h
    · omega
    · exact Nat.le_trans hB h.1)
theorem Bides.pure {β : Type} {B c : Nat} {J : β → Prop} : Bides B c (fun s _ => J s) := fun _ _ _ _ hs _ _ => hs
/-- a block of cells, not c, that J speaks of -/
theorem keeps_cells {B c k : Nat} {W W' : World} {row : Option Nat} {o : Obj} (hk : W.heap[k]? = some o) (ho : o.isCells = true) (hc : k ≠ c) (hg : W.grownBy W' row)
    (hr : ∀ r, row = some r → r = c ∨ (B ≤ r ∧ ∃ o : Obj, W.heap[r]? = some o ∧ o.isCells = false)) : W'.heap[k]? = W.heap[k]? := by
  refine hg.block k (Array.getElem?_eq_some_iff.1 hk).1 fun e => ?_
  rcases hr k e.symm with h | ⟨_, o', h, h'⟩
  · exact hc h
  · rw [hk] at h; cases h; rw [ho] at h'; cases h'

section
variable {F : Fence} {n : Nat} {P : Program}

/-- the iterator g with captures lb gives xs, one string a round, and writes block c alone between them; it reads its blocks lo.. below hi -/
def Gives (F : Fence) (n : Nat) (P : Program) (g : Nat) (lb : Array Value) (lo hi c : Nat) (xs : List ByteArray) (w0 : World) : Prop :=
  ∀ (l : Nat) (J Jx : List ByteArray → World → Prop) (W : World), w0.heap.size ≤ W.heap.size → Span lo hi w0 W → Bides W.heap.size c J → Bides W.heap.size c Jx →
    (∀ pre x W1, J pre W1 → (pre ++ [x]) <+: xs → YieldAt F (n - 1) P l #[.string x] W1 fun e W' =>
      (e = .returned (.bool true) ∧ J (pre ++ [x]) W' ∧ Span lo hi W1 W') ∨ (e = .returned (.bool false) ∧ Jx (pre ++ [x]) W')) →
    J [] W →
    CallsIn F n P g (#[.func (.yield l) #[] #[]] ++ lb) W fun e W' => (∃ v, e = .returned v) ∧ (J xs W' ∨ ∃ pre, pre <+: xs ∧ Jx pre W')

/-- how a round's body may be left -/
def Post (lo hi : Nat) (I : List ByteArray → World → Prop) (Ix : Code → List ByteArray → World → Prop) (xs : List ByteArray) (W : World) : Exit → Act → World → Prop
  | .normal, _, W' => KeepsOthers W W' ∧ Span lo hi W W' ∧ I xs W'
  | .ret, _, W' => KeepsOthers W W' ∧ Ix .ret xs W'
  | .exit id, _, W' => KeepsOthers W W' ∧ Ix (.exit id) xs W'
  | .goto t, _, W' => KeepsOthers W W' ∧ Ix (.goto t) xs W'
  | .panic _, _, _ => False
  | .outgrown, _, _ => False

theorem range {g : Operand} {p : Tmp} {assign body : Code} {Q : Exit → Act → World → Prop} {a : Act} {w : World}
    (hro : F.round = none) (h1 : 1 ≤ n) {gf : Nat} {lb : Array Value} (hg : a.eval g = .func (.func gf) #[] lb) (hFg : F.fn gf) (eg : ∀ args w, (callFunc gf args).run P w = .ok (.enter gf args) w)
    {lo hi c : Nat} {xs : List ByteArray} (hc : c < w.heap.size) (hh : hi ≤ w.heap.size) (hseq : Gives F (n - 1) P gf lb lo hi c xs w)
    (I : List ByteArray → World → Prop) (Ix : Code → List ByteArray → World → Prop) (hI : Bides w.heap.size c I) (hIx : ∀ k, Bides w.heap.size c (Ix k)) (h0 : I [] w) (a₁ : ByteArray → Act)
    (hassign : ∀ (l : Nat) (x : ByteArray) (W : World) (K : Act → World → Prop), K (a₁ x) W →
      assign.wpIn (F.inRound l) (n - 1 - 1) P (Exit.then K (fun _ _ _ => False)) { tmps := a.tmps.setIfInBounds p (.string x), defers := [] } W)
    (hbody : ∀ (l : Nat) (pre : List ByteArray) (x : ByteArray) (W : World), I pre W → (pre ++ [x]) <+: xs → w.heap.size ≤ W.heap.size → body.wpIn (F.inRound l) (n - 1 - 1) P (Post lo hi I Ix (pre ++ [x]) W) (a₁ x) W)
    (hdone : ∀ (D : Nat) (W : World), w.heap.size ≤ D → I xs W → W.heap[D]? = some (.deferred (some [])) → Q .normal { a with defers := { target := .collected D, args := #[] } :: a.defers } W)
    (hstop : ∀ (D : Nat) (k : Code) (pre : List ByteArray) (W : World), w.heap.size ≤ D → pre <+: xs → Ix k pre W → W.heap[D]? = some (.deferred (some [])) → k.wpIn F n P Q { a with defers := { target := .collected D, args := #[] } :: a.defers } W) :
    (Code.rangeFunc g #[p] assign body).wpIn F n P Q a w := by
  refine wpIn_rangeFunc fun fn hfn => ?_
  rw [hro]
  let D := w.heap.size
  let l := w.heap.size + 1
  let rec0 : LoopState → Option Code → Loop := fun st pe => { state := st, pending := pe, fn, tmps := a.tmps, params := #[p], assign, body, defers := D }
  let W1 := (w.alloc (.deferred (some []))).alloc (.loop (rec0 .ready none))
  have hL1 : W1.heap[l]? = some (.loop (rec0 .ready none)) := by
    have := World.alloc_heap_new (w.alloc (.deferred (some []))) (.loop (rec0 .ready none))
    rwa [World.size_alloc] at this
  have hK1 : W1.heap[D]? = some (.deferred (some [])) := (Below.heap_alloc _ _ _ (by simp [D])).trans (World.alloc_heap_new w _)
  have hS1 : W1.heap.size = w.heap.size + 2 := by simp [W1]
  have hb1 : Below w.heap.size w W1 := ((Below.refl _ w).alloc (Nat.le_refl _) _).alloc (by simp) _
  -- between two rounds: the caller's word, the record and the block of deferred calls
  let J : List ByteArray → World → Prop := fun pre W => I pre W ∧ W.heap[l]? = some (.loop (rec0 .ready none)) ∧ W.heap[D]? = some (.deferred (some []))
  let Jx : List ByteArray → World → Prop := fun pre W => ∃ k, Ix k pre W ∧ W.heap[l]? = some (.loop (rec0 .done (some k))) ∧ W.heap[D]? = some (.deferred (some []))
  have far : ∀ {A B : World} {row : Option Nat} {k : Nat} {o : Obj}, A.heap[k]? = some o → A.grownBy B row → k = l ∨ k = D → (∀ r, row = some r → r = c ∨ (W1.heap.size ≤ r ∧ ∃ o : Obj, A.heap[r]? = some o ∧ o.isCells = false)) → B.heap[k]? = some o := by
    intro A B row k o hk hgr hkl hr
    refine (hgr.block k (Array.getElem?_eq_some_iff.1 hk).1 fun e => ?_).trans hk
    rcases hr k e.symm with h | ⟨h, _⟩
    · rcases hkl with rfl | rfl <;> (simp only [l, D] at h; omega)
    · rcases hkl with rfl | rfl <;> (simp only [l, D] at h; omega)
  have wid : ∀ {A : World} {row : Option Nat}, (∀ r, row = some r → r = c ∨ (W1.heap.size ≤ r ∧ ∃ o : Obj, A.heap[r]? = some o ∧ o.isCells = false)) → (∀ r, row = some r → r = c ∨ (w.heap.size ≤ r ∧ ∃ o : Obj, A.heap[r]? = some o ∧ o.isCells = false)) :=
    fun hr r e => (hr r e).imp id fun h => ⟨by omega, h.2⟩
  have hJ : Bides W1.heap.size c J := fun s A B row hs hgr hr => ⟨hI s A B row hs.1 hgr (wid hr), far hs.2.1 hgr (.inl rfl) hr, far hs.2.2 hgr (.inr rfl) hr⟩
  have hJx : Bides W1.heap.size c Jx := fun s A B row hs hgr hr => by
    obtain ⟨k, h1, h2, h3⟩ := hs
    exact ⟨k, hIx k s A B row h1 hgr (wid hr), far h2 hgr (.inl rfl) hr, far h3 hgr (.inr rfl) hr⟩
  have one : ∀ pre x W, J pre W → (pre ++ [x]) <+: xs → YieldAt F (n - 1 - 1) P l #[.string x] W fun e W' =>
      (e = .returned (.bool true) ∧ J (pre ++ [x]) W' ∧ Span lo hi W W') ∨ (e = .returned (.bool false) ∧ Jx (pre ++ [x]) W') := by
    rintro pre x W ⟨hi0, hl, hk⟩ hpx
    have hlt : l < W.heap.size := (Array.getElem?_eq_some_iff.1 hl).1
    refine ⟨fn, a.tmps.setIfInBounds p (.string x), assign, body, ?_, ?_⟩
    · have := run_yield (P := P) (args := #[.string x]) hl rfl
      simpa [rec0] using this
    refine roundIn_of_wpIn hfn (hassign _ x W _ ⟨_, run_beginRound hl rfl, ?_⟩)
    let W2 := W.putObj l (.loop { rec0 .ready none with state := .busy })
    have hl2 : W2.heap[l]? = some (.loop { rec0 .ready none with state := .busy }) := World.putObj_heap_same hlt
    have hk2 : W2.heap[D]? = some (.deferred (some [])) := (World.putObj_heap_other (by simp [l, D])).trans hk
    have hs2 : Span lo hi W W2 := Span.put _ _ (by simp only [l]; omega)
    refine wpIn_mono (hbody _ pre x W2 (hI.put _ hi0 (by simp [l]) hl rfl) hpx (by simp [W2]; simp only [l] at hlt; omega)) ?_
    -- the round's end: the record is laid back
    have fin : ∀ (jump : Option Code) (W3 : World), KeepsOthers W2 W3 →
        (Instr.endRound l jump).run P W3 = .ok (.bool jump.isNone) (W3.putObj l (.loop (rec0 (if jump.isNone then .ready else .done) jump))) ∧
        W3.heap[l]? = some (.loop { rec0 .ready none with state := .busy }) ∧
        (W3.putObj l (.loop (rec0 (if jump.isNone then .ready else .done) jump))).heap[l]? = some (.loop (rec0 (if jump.isNone then .ready else .done) jump)) ∧
        (W3.putObj l (.loop (rec0 (if jump.isNone then .ready else .done) jump))).heap[D]? = some (.deferred (some [])) := fun jump W3 hk3 => by
      have hl3 := hk3.same _ _ hl2 rfl
      exact ⟨run_endRound (P := P) jump hl3, hl3, World.putObj_heap_same (Array.getElem?_eq_some_iff.1 hl3).1, (World.putObj_heap_other (by simp [l, D])).trans (hk3.same _ _ hk2 rfl)⟩
    have out : ∀ (k : Code) (W3 : World), KeepsOthers W2 W3 → Ix k (pre ++ [x]) W3 → ∃ v W4, (Instr.endRound l (some k)).run P W3 = .ok v W4 ∧ ((Ending.returned v = .returned (.bool true) ∧ J (pre ++ [x]) W4 ∧ Span lo hi W W4) ∨ (Ending.returned v = .returned (.bool false) ∧ Jx (pre ++ [x]) W4)) := by
      intro k W3 hk3 hi3
      obtain ⟨hr, hl3, hl4, hk4⟩ := fin (some k) W3 hk3
      exact ⟨_, _, hr, .inr ⟨rfl, k, (hIx _).put _ hi3 (by simp [l]) hl3 rfl, hl4, hk4⟩⟩
    rintro e a3 W3 hp
    cases e with
    | normal =>
      obtain ⟨hk3, hs3, hi3⟩ := hp
      obtain ⟨hr, hl3, hl4, hk4⟩ := fin none W3 hk3
      exact ⟨_, _, hr, .inl ⟨rfl, ⟨hI.put _ hi3 (by simp [l]) hl3 rfl, hl4, hk4⟩, (hs2.trans hs3).trans (Span.put _ _ (by simp only [l]; omega))⟩⟩
    | ret => exact out .ret W3 hp.1 hp.2
    | exit id => exact out (.exit id) W3 hp.1 hp.2
    | goto t => exact out (.goto t) W3 hp.1 hp.2
    | panic ch => exact hp.elim
    | outgrown => exact hp.elim
  refine ⟨l, [{ target := .collected D, args := #[] }], W1, { target := .fn (.func gf) lb, args := #[.func (.yield l) #[] #[]] }, W1, gf, #[.func (.yield l) #[] #[]] ++ lb, W1, ?_, ?_, ?_, ?_, fun _ => h1, ?_⟩
  · exact run_enterLoop_outer _ _ _ _ _
  · simp only [resolve, hg]
    simp [go_sem]
  · intro f' hf'; simp [Target.leads] at hf'; subst hf'; exact hFg
  · simp [invoke, go_sem, eg]
  · refine (hseq l J Jx W1 hb1.size (Span.of_below hb1 hh) hJ hJx one ⟨hI.alloc _ (hI.alloc _ h0), hL1, hK1⟩).mono ?_
    rintro e W2 ⟨⟨v, rfl⟩, (⟨h1, hl, hk⟩ | ⟨pre, hp, k, h1, hl, hk⟩)⟩
    · exact ⟨none, _, run_endLoop (P := P) hl (by simp [rec0]), hdone _ _ (Nat.le_refl _) (hI.put _ h1 (by simp [l]) hl rfl) ((World.putObj_heap_other (by simp [l, D])).trans hk)⟩
    · exact ⟨some k, _, run_endLoop (P := P) hl (by simp [rec0]), hstop _ k pre _ (Nat.le_refl _) hp ((hIx k).put _ h1 (by simp [l]) hl rfl) ((World.putObj_heap_other (by simp [l, D])).trans hk)⟩
end
end Go.Proofs.YtmimkgfkicgfiaaDoor.Rng
