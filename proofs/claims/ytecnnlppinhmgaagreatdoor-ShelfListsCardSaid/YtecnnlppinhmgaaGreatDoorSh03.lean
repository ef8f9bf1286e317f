/-
  A range over an iterator that gives a known list of strings and writes between two rounds one cell block that it has captured (strings.SplitSeq): the iterator's contract, and the statement's law. A function with many ranges over iterators in a loop: each leaves a mark among its deferred calls; the way out takes them all. The walk of slices.Values at strings, as an iterator; package disk's List. The walks of package shelf's Sweep and List where all files are called as blobs.
-/
import Derived.Test.YtecnnlppinhmgaaGreatDoorSe02
import Derived.Test.YtecnnlppinhmgaaGreatDoorSh02
import Derived.RangeFuncFrom
import Derived.RangeFuncCalls
import Derived.RangeFuncBound
import Derived.RangeFuncLeaves
import Derived.RangeFuncRecord
import Derived.Shelf.Abstract
import Derived.OwnWalkIn
import Derived.TacticsInMore
import Derived.LoopNIn
import Derived.LoopIn
import Derived.Sort.LoopGhostIn
namespace Go.Proofs.YtecnnlppinhmgaaGreatDoor.Rng
open Go.RowKit

/-- the blocks from lo on, below hi, lie as they lay -/
def Span (lo hi : Nat) (W W' : World) : Prop := ∀ k, lo ≤ k → k < hi → W'.heap[k]? = W.heap[k]?
theorem Span.refl (lo hi : Nat) (W : World) : Span lo hi W W := fun _ _ _ => rfl
theorem Span.trans {lo hi : Nat} {A B C : World} (h : Span lo hi A B) (k : Span lo hi B C) : Span lo hi A C := fun i h1 h2 => (k i h1 h2).trans (h i h1 h2)
theorem Span.put {lo hi : Nat} (W : World) {l : Nat} (o : Obj) (h : hi ≤ l) : Span lo hi W (W.putObj l o) := fun _ _ h2 => World.putObj_heap_other (by omega)
theorem Span.alloc {lo hi : Nat} (W : World) (o : Obj) (h : hi ≤ W.heap.size) : Span lo hi W (W.alloc o) := fun _ _ h2 => Below.heap_alloc _ _ _ (by omega)
theorem Span.of_below {lo hi n : Nat} {W W' : World} (h : Below n W W') (hn : hi ≤ n) : Span lo hi W W' := fun k _ h2 => h.block k (by omega)

/-- J says nothing of block c, nor of what lies from B on and is no cells -/
def Bides {β : Type} (B c : Nat) (J : β → World → Prop) : Prop :=
  ∀ s W W' row, J s W → W.grownBy W' row → (∀ r, row = some r → r = c ∨ (B ≤ r ∧ ∃ o : Obj, W.heap[r]? = some o ∧ o.isCells = false)) → J s W'
theorem Bides.put {β : Type} {B c : Nat} {J : β → World → Prop} (h : Bides B c J) {s : β} {W : World} {l : Nat} {o : Obj} (o' : Obj) (hs : J s W) (hB : B ≤ l) (hl : W.heap[l]? = some o) (ho : o.isCells = false) : J s (W.putObj l o') :=
  h s W _ (some l) hs (grownBy_putObj' W l o') (fun r e => by cases e; exact .inr ⟨hB, o, hl, ho⟩)
theorem Bides.alloc {β : Type} {B c : Nat} {J : β → World → Prop} (h : Bides B c J) {s : β} {W : World} (o : Obj) (hs : J s W) : J s (W.alloc o) :=
  h s W _ none hs (World.grownBy_alloc W o none) (fun r e => by cases e)
theorem Bides.and {β : Type} {B c : Nat} {I J : β → World → Prop} (h : Bides B c I) (h' : Bides B c J) : Bides B c (fun s W => I s W ∧ J s W) :=
  fun s W W' row hs hg hr => ⟨h s W W' row hs.1 hg hr, h' s W W' row hs.2 hg hr⟩
theorem Bides.below {β : Type} {n₀ B c : Nat} {w₀ : World} (hn : n₀ ≤ w₀.heap.size) (hB : n₀ ≤ B) (hc : n₀ ≤ c) : Bides B c (fun (_ : β) W => Below n₀ w₀ W) :=
  fun _ _ _ _ hs hg hr => hs.grown hg (Nat.le_trans hn hs.size) (fun k e => by
    rcases hr k e with h | h
    · omega
    · exact Nat.le_trans hB h.1)
theorem Bides.pure {β : Type} {B c : Nat} {J : β → Prop} : Bides B c (fun s _ => J s) := fun _ _ _ _ hs _ _ => hs
/-- a block of cells, not c, that J speaks of -/
theorem keeps_cells {B c k : Nat} {W W' : World} {row : Option Nat} {o : Obj} (hk : W.heap[k]? = some o) (ho : o.isCells = true) (hc : k ≠ c) (hg : W.grownBy W' row)
    (hr : ∀ r, row = some r → r = c ∨ (B ≤ r ∧ ∃ o : Obj, W.heap[r]? = some o ∧ o.isCells = false)) : W'.heap[k]? = W.heap[k]? := by
  refine hg.block k (Array.getElem?_eq_some_iff.1 hk).1 fun e => ?_
  rcases hr k e.symm with h | ⟨_, o', h, h'⟩
  · exact hc h
  · rw [hk] at h; cases h; rw [ho] at h'; cases h'

section
variable {F : Fence} {n : Nat} {P : Program}

/-- the iterator g with captures lb gives xs, one string a round, and writes block c alone between them; it reads its blocks lo.. below hi -/
def Gives (F : Fence) (n : Nat) (P : Program) (g : Nat) (lb : Array Value) (lo hi c : Nat) (xs : List ByteArray) (w0 : World) : Prop :=
  ∀ (l : Nat) (J Jx : List ByteArray → World → Prop) (W : World), w0.heap.size ≤ W.heap.size → Span lo hi w0 W → Bides W.heap.size c J → Bides W.heap.size c Jx →
    (∀ pre x W1, J pre W1 → (pre ++ [x]) <+: xs → YieldAt F (n - 1) P l #[.string x] W1 fun e W' =>
      (e = .returned (.bool true) ∧ J (pre ++ [x]) W' ∧ Span lo hi W1 W') ∨ (e = .returned (.bool false) ∧ Jx (pre ++ [x]) W')) →
    J [] W →
    CallsIn F n P g (#[.func (.yield l) #[] #[]] ++ lb) W fun e W' => (∃ v, e = .returned v) ∧ (J xs W' ∨ ∃ pre, pre <+: xs ∧ Jx pre W')

/-- how a round's body may be left -/
def Post (lo hi : Nat) (I : List ByteArray → World → Prop) (Ix : Code → List ByteArray → World → Prop) (xs : List ByteArray) (W : World) : Exit → Act → World → Prop
  | .normal, _, W' => KeepsOthers W W' ∧ Span lo hi W W' ∧ I xs W'
  | .ret, _, W' => KeepsOthers W W' ∧ Ix .ret xs W'
  | .exit id, _, W' => KeepsOthers W W' ∧ Ix (.exit id) xs W'
  | .goto t, _, W' => KeepsOthers W W' ∧ Ix (.goto t) xs W'
  | .panic _, _, _ => False
  | .outgrown, _, _ => False

theorem range {g : Operand} {p : Tmp} {assign body : Code} {Q : Exit → Act → World → Prop} {a : Act} {w : World}
    (hro : F.round = none) (h1 : 1 ≤ n) {gf : Nat} {lb : Array Value} (hg : a.eval g = .func (.func gf) #[] lb) (hFg : F.fn gf) (eg : ∀ args w, (callFunc gf args).run P w = .ok (.enter gf args) w)
    {lo hi c : Nat} {xs : List ByteArray} (hc : c < w.heap.size) (hh : hi ≤ w.heap.size) (hseq : Gives F (n - 1) P gf lb lo hi c xs w)
    (I : List ByteArray → World → Prop) (Ix : Code → List ByteArray → World → Prop) (hI : Bides w.heap.size c I) (hIx : ∀ k, Bides w.heap.size c (Ix k)) (h0 : I [] w) (a₁ : ByteArray → Act)
    (hassign : ∀ (l : Nat) (x : ByteArray) (W : World) (K : Act → World → Prop), K (a₁ x) W →
      assign.wpIn (F.inRound l) (n - 1 - 1) P (Exit.then K (fun _ _ _ => False)) { tmps := a.tmps.setIfInBounds p (.string x), defers := [] } W)
    (hbody : ∀ (l : Nat) (pre : List ByteArray) (x : ByteArray) (W : World), I pre W → (pre ++ [x]) <+: xs → w.heap.size ≤ W.heap.size → body.wpIn (F.inRound l) (n - 1 - 1) P (Post lo hi I Ix (pre ++ [x]) W) (a₁ x) W)
    (hdone : ∀ (D : Nat) (W : World), w.heap.size ≤ D → I xs W → W.heap[D]? = some (.deferred (some [])) → Q .normal { a with defers := { target := .collected D, args := #[] } :: a.defers } W)
    (hstop : ∀ (D : Nat) (k : Code) (pre : List ByteArray) (W : World), w.heap.size ≤ D → pre <+: xs → Ix k pre W → W.heap[D]? = some (.deferred (some [])) → k.wpIn F n P Q { a with defers := { target := .collected D, args := #[] } :: a.defers } W) :
    (Code.rangeFunc g #[p] assign body).wpIn F n P Q a w := by
  refine wpIn_rangeFunc fun fn hfn => ?_
  rw [hro]
  let D := w.heap.size
  let l := w.heap.size + 1
  let rec0 : LoopState → Option Code → Loop := fun st pe => { state := st, pending := pe, fn, tmps := a.tmps, params := #[p], assign, body, defers := D }
  let W1 := (w.alloc (.deferred (some []))).alloc (.loop (rec0 .ready none))
  have hL1 : W1.heap[l]? = some (.loop (rec0 .ready none)) := by
    have := World.alloc_heap_new (w.alloc (.deferred (some []))) (.loop (rec0 .ready none))
    rwa [World.size_alloc] at this
  have hK1 : W1.heap[D]? = some (.deferred (some [])) := (Below.heap_alloc _ _ _ (by simp [D])).trans (World.alloc_heap_new w _)
  have hS1 : W1.heap.size = w.heap.size + 2 := by simp [W1]
  have hb1 : Below w.heap.size w W1 := ((Below.refl _ w).alloc (Nat.le_refl _) _).alloc (by simp) _
  -- between two rounds: the caller's word, the record and the block of deferred calls
  let J : List ByteArray → World → Prop := fun pre W => I pre W ∧ W.heap[l]? = some (.loop (rec0 .ready none)) ∧ W.heap[D]? = some (.deferred (some []))
  let Jx : List ByteArray → World → Prop := fun pre W => ∃ k, Ix k pre W ∧ W.heap[l]? = some (.loop (rec0 .done (some k))) ∧ W.heap[D]? = some (.deferred (some []))
  have far : ∀ {A B : World} {row : Option Nat} {k : Nat} {o : Obj}, A.heap[k]? = some o → A.grownBy B row → k = l ∨ k = D → (∀ r, row = some r → r = c ∨ (W1.heap.size ≤ r ∧ ∃ o : Obj, A.heap[r]? = some o ∧ o.isCells = false)) → B.heap[k]? = some o := by
    intro A B row k o hk hgr hkl hr
    refine (hgr.block k (Array.getElem?_eq_some_iff.1 hk).1 fun e => ?_).trans hk
    rcases hr k e.symm with h | ⟨h, _⟩
    · rcases hkl with rfl | rfl <;> (simp only [l, D] at h; omega)
    · rcases hkl with rfl | rfl <;> (simp only [l, D] at h; omega)
  have wid : ∀ {A : World} {row : Option Nat}, (∀ r, row = some r → r = c ∨ (W1.heap.size ≤ r ∧ ∃ o : Obj, A.heap[r]? = some o ∧ o.isCells = false)) → (∀ r, row = some r → r = c ∨ (w.heap.size ≤ r ∧ ∃ o : Obj, A.heap[r]? = some o ∧ o.isCells = false)) :=
    fun hr r e => (hr r e).imp id fun h => ⟨by omega, h.2⟩
  have hJ : Bides W1.heap.size c J := fun s A B row hs hgr hr => ⟨hI s A B row hs.1 hgr (wid hr), far hs.2.1 hgr (.inl rfl) hr, far hs.2.2 hgr (.inr rfl) hr⟩
  have hJx : Bides W1.heap.size c Jx := fun s A B row hs hgr hr => by
    obtain ⟨k, h1, h2, h3⟩ := hs
    exact ⟨k, hIx k s A B row h1 hgr (wid hr), far h2 hgr (.inl rfl) hr, far h3 hgr (.inr rfl) hr⟩
  have one : ∀ pre x W, J pre W → (pre ++ [x]) <+: xs → YieldAt F (n - 1 - 1) P l #[.string x] W fun e W' =>
      (e = .returned (.bool true) ∧ J (pre ++ [x]) W' ∧ Span lo hi W W') ∨ (e = .returned (.bool false) ∧ Jx (pre ++ [x]) W') := by
    rintro pre x W ⟨hi0, hl, hk⟩ hpx
    have hlt : l < W.heap.size := (Array.getElem?_eq_some_iff.1 hl).1
    refine ⟨fn, a.tmps.setIfInBounds p (.string x), assign, body, ?_, ?_⟩
    · have := run_yield (P := P) (args := #[.string x]) hl rfl
      simpa [rec0] using this
    refine roundIn_of_wpIn hfn (hassign _ x W _ ⟨_, run_beginRound hl rfl, ?_⟩)
    let W2 := W.putObj l (.loop { rec0 .ready none with state := .busy })
    have hl2 : W2.heap[l]? = some (.loop { rec0 .ready none with state := .busy }) := World.putObj_heap_same hlt
    have hk2 : W2.heap[D]? = some (.deferred (some [])) := (World.putObj_heap_other (by simp [l, D])).trans hk
    have hs2 : Span lo hi W W2 := Span.put _ _ (by simp only [l]; omega)
    refine wpIn_mono (hbody _ pre x W2 (hI.put _ hi0 (by simp [l]) hl rfl) hpx (by simp [W2]; simp only [l] at hlt; omega)) ?_
    -- the round's end: the record is laid back
    have fin : ∀ (jump : Option Code) (W3 : World), KeepsOthers W2 W3 →
        (Instr.endRound l jump).run P W3 = .ok (.bool jump.isNone) (W3.putObj l (.loop (rec0 (if jump.isNone then .ready else .done) jump))) ∧
        W3.heap[l]? = some (.loop { rec0 .ready none with state := .busy }) ∧
        (W3.putObj l (.loop (rec0 (if jump.isNone then .ready else .done) jump))).heap[l]? = some (.loop (rec0 (if jump.isNone then .ready else .done) jump)) ∧
        (W3.putObj l (.loop (rec0 (if jump.isNone then .ready else .done) jump))).heap[D]? = some (.deferred (some [])) := fun jump W3 hk3 => by
      have hl3 := hk3.same _ _ hl2 rfl
      exact ⟨run_endRound (P := P) jump hl3, hl3, World.putObj_heap_same (Array.getElem?_eq_some_iff.1 hl3).1, (World.putObj_heap_other (by simp [l, D])).trans (hk3.same _ _ hk2 rfl)⟩
    have out : ∀ (k : Code) (W3 : World), KeepsOthers W2 W3 → Ix k (pre ++ [x]) W3 → ∃ v W4, (Instr.endRound l (some k)).run P W3 = .ok v W4 ∧ ((Ending.returned v = .returned (.bool true) ∧ J (pre ++ [x]) W4 ∧ Span lo hi W W4) ∨ (Ending.returned v = .returned (.bool false) ∧ Jx (pre ++ [x]) W4)) := by
      intro k W3 hk3 hi3
      obtain ⟨hr, hl3, hl4, hk4⟩ := fin (some k) W3 hk3
      exact ⟨_, _, hr, .inr ⟨rfl, k, (hIx _).put _ hi3 (by simp [l]) hl3 rfl, hl4, hk4⟩⟩
    rintro e a3 W3 hp
    cases e with
    | normal =>
      obtain ⟨hk3, hs3, hi3⟩ := hp
      obtain ⟨hr, hl3, hl4, hk4⟩ := fin none W3 hk3
      exact ⟨_, _, hr, .inl ⟨rfl, ⟨hI.put _ hi3 (by simp [l]) hl3 rfl, hl4, hk4⟩, (hs2.trans hs3).trans (Span.put _ _ (by simp only [l]; omega))⟩⟩
    | ret => exact out .ret W3 hp.1 hp.2
    | exit id => exact out (.exit id) W3 hp.1 hp.2
    | goto t => exact out (.goto t) W3 hp.1 hp.2
    | panic ch => exact hp.elim
    | outgrown => exact hp.elim
  refine ⟨l, [{ target := .collected D, args := #[] }], W1, { target := .fn (.func gf) lb, args := #[.func (.yield l) #[] #[]] }, W1, gf, #[.func (.yield l) #[] #[]] ++ lb, W1, ?_, ?_, ?_, ?_, fun _ => h1, ?_⟩
  · exact run_enterLoop_outer _ _ _ _ _
  · simp only [resolve, hg]
    simp [go_sem]
  · intro f' hf'; simp [Target.leads] at hf'; subst hf'; exact hFg
  · simp [invoke, go_sem, eg]
  · refine (hseq l J Jx W1 hb1.size (Span.of_below hb1 hh) hJ hJx one ⟨hI.alloc _ (hI.alloc _ h0), hL1, hK1⟩).mono ?_
    rintro e W2 ⟨⟨v, rfl⟩, (⟨h1, hl, hk⟩ | ⟨pre, hp, k, h1, hl, hk⟩)⟩
    · exact ⟨none, _, run_endLoop (P := P) hl (by simp [rec0]), hdone _ _ (Nat.le_refl _) (hI.put _ h1 (by simp [l]) hl rfl) ((World.putObj_heap_other (by simp [l, D])).trans hk)⟩
    · exact ⟨some k, _, run_endLoop (P := P) hl (by simp [rec0]), hstop _ k pre _ (Nat.le_refl _) hp ((hIx k).put _ h1 (by simp [l]) hl rfl) ((World.putObj_heap_other (by simp [l, D])).trans hk)⟩
end
end Go.Proofs.YtecnnlppinhmgaaGreatDoor.Rng
namespace Go.Proofs.YtecnnlppinhmgaaGreatDoor.RngM
open Go.RowKit

abbrev mark (D : Nat) : Deferred := { target := .collected D, args := #[] }
def marks (Ds : List Nat) : List Deferred := Ds.map mark
theorem marks_cons (D : Nat) (Ds : List Nat) : mark D :: marks Ds = marks (D :: Ds) := rfl

/-- nothing has turned but the blocks of Ds -/
def Shut (Ds : List Nat) (w w' : World) : Prop := w'.os = w.os ∧ w'.tape = w.tape ∧ w'.output = w.output ∧ w'.heap.size = w.heap.size ∧ ∀ k, k ∉ Ds → w'.heap[k]? = w.heap[k]?

variable {P : Program} {F : Fence} {n : Nat}
/-- the way out: all marks are taken -/
theorem leaves {fn : Func} {tmps : Array Value} {R : Ending → World → Prop} : ∀ (Ds : List Nat) (w : World), Ds.Nodup → (∀ D ∈ Ds, w.heap[D]? = some (.deferred (some []))) →
    (∀ w', Shut Ds w w' → ∃ v, (results fn tmps).run P w' = .ok v w' ∧ R (.returned v) w') → LeavesInM F n P fn tmps R (marks Ds) .returning w := by
  intro Ds
  induction Ds with
  | nil =>
    intro w _ _ h
    exact h w ⟨rfl, rfl, rfl, rfl, fun _ _ => rfl⟩
  | cons D Ds ih =>
    intro w hn hd h
    obtain ⟨h1, h2⟩ := List.nodup_cons.1 hn
    have hD := hd D List.mem_cons_self
    refine ⟨by simp, .inl ⟨D, _, rfl, run_takeDeferred hD, ?_⟩⟩
    refine ih _ h2 (fun E hE => ?_) (fun w' hw => ?_)
    · exact (World.putObj_heap_other (fun e => h1 (by rw [← e]; exact hE))).trans (hd E (List.mem_cons_of_mem _ hE))
    · refine h w' ⟨hw.1, hw.2.1, hw.2.2.1, hw.2.2.2.1.trans (by simp), fun k hk => ?_⟩
      exact (hw.2.2.2.2 k fun hm => hk (List.mem_cons_of_mem _ hm)).trans (World.putObj_heap_other (fun e => hk (by rw [e]; exact List.mem_cons_self)))

theorem Shut.below {Ds : List Nat} {w w' : World} {b : Nat} {w0 : World} (h : Shut Ds w w') (hb : Below b w0 w) (hd : ∀ D ∈ Ds, b ≤ D) : Below b w0 w' :=
  ⟨h.1.trans hb.os, h.2.1.trans hb.tape, h.2.2.1.trans hb.output, Nat.le_trans hb.size (Nat.le_of_eq h.2.2.2.1.symm), fun k hk => (h.2.2.2.2 k fun hm => by have := hd k hm; omega).trans (hb.block k hk)⟩
end Go.Proofs.YtecnnlppinhmgaaGreatDoor.RngM
namespace Go.Proofs.YtecnnlppinhmgaaGreatDoor.DiskO
open Go.RowKit Go.Proofs.YtecnnlppinhmgaaGreatDoor Go.Proofs.YtecnnlppinhmgaaGreatDoor.Dw

attribute [local go_sem] Oper.semAt_some

set_option maxHeartbeats 1000000 in
theorem values_in (F : Fence) (n : Nat) (h0 : F.fn 66) (hro : F.round = none) (a : Option Addr) (len cap : Nat) (w : World) :
    CallsIn F n Tryz.prog 66 #[.slice a len cap] w fun e w' => e = .returned (.func (.func 86) #[] #[.pointer (some ⟨w.heap.size, 0, none⟩)]) ∧ w' = w.alloc (.cells #[.slice a len cap] 76) := by
  refine callsIn_of_wp Tryz.func66 rfl h0 ?_ hro
  simp only [Tryz.ntmps66, List.size_toArray, List.length_cons, List.length_nil, Nat.reduceAdd, Nat.reduceSub, Array.replicate_succ, Array.replicate_zero, List.push_toArray, List.append_toArray, List.nil_append, List.cons_append]
  gi_wp2
  go_ret
  exact ⟨rfl, rfl⟩

/-- strings' bytes, as strings -/
def strs (xs : List (List UInt8)) : List ByteArray := xs.map fun x => ⟨x.toArray⟩
theorem strs_length (xs : List (List UInt8)) : (strs xs).length = xs.length := by simp [strs]
theorem strs_take {xs : List (List UInt8)} {k : Nat} {x : List UInt8} (h : xs[k]? = some x) : strs (xs.take k) ++ [⟨x.toArray⟩] = strs (xs.take (k + 1)) := by
  simp [strs, List.take_add_one, h]
theorem strs_prefix {xs : List (List UInt8)} (k : Nat) : strs (xs.take k) <+: strs xs := List.IsPrefix.map _ (List.take_prefix k xs)

set_option maxRecDepth 100000 in
set_option maxHeartbeats 2000000 in
theorem gives (n : Nat) (hn : 1 ≤ n) (B lo : Nat) (a : Option Addr) (c : Nat) (xs : List (List UInt8)) (w0 : World)
    (hb : w0.heap[B]? = some (.cells #[.slice a xs.length c] 76 (0, 0))) (hB : lo ≤ B) (hns : Ns lo w0 a xs) (hl : xs.length ≤ 4294967296) :
    Rng.Gives Fence.wide n Tryz.prog 86 #[.pointer (some ⟨B, 0, none⟩)] lo w0.heap.size B (strs xs) w0 := by
  intro l J Jx W hsz hsp hJ hJx hY h0
  have hBl : B < w0.heap.size := (Array.getElem?_eq_some_iff.1 hb).1
  have g0 := (hsp B hB hBl).trans hb
  have q0 : W.cell? ⟨B, 0, none⟩ = some (.slice a xs.length c) := by rw [Lib.cell_of_heap g0]; rfl
  have HN := Lib.hid hns
  clear g0 hb hns
  refine callsIn_of_wp Tryz.func86 rfl trivial ?_ rfl
  simp only [Tryz.ntmps86, List.size_toArray, List.length_cons, List.length_nil, Nat.reduceAdd, Nat.reduceSub, Array.replicate_succ, Array.replicate_zero, List.push_toArray, List.append_toArray, List.nil_append, List.cons_append]
  gi_wp2_with fail
  gi_loopg [7] xs.length (fun g i wr => ∃ k : Nat, k + g = xs.length ∧ i = .int .i64 k ∧ J (strs (xs.take k)) wr ∧ Rng.Span lo w0.heap.size w0 wr)
  case atStart => exact ⟨0, by simp, rfl, h0, hsp⟩
  case round =>
    obtain ⟨k, hkg, rfl, hj, hsr⟩ := hrel
    have HG := Lib.hid hkg; clear hkg
    by_cases hlt : k < xs.length
    · obtain ⟨x, hx⟩ : ∃ x, xs[k]? = some x := ⟨xs[k], List.getElem?_eq_getElem hlt⟩
      rcases HN.out with h | ⟨b, o, rfl, h2, h3, h4⟩
      · rw [h] at hlt; simp at hlt
      have hc := (World.cell?_of_block (w := w0) (a := ⟨b, o + k, none⟩) (hsr b h2 h3)).trans (h4 k x hx)
      have hpx : strs (xs.take k) ++ [⟨x.toArray⟩] <+: strs xs := by rw [strs_take hx]; exact strs_prefix _
      obtain ⟨fn, tmps, assign, body, hy, hR⟩ := hY _ ⟨x.toArray⟩ wr hj hpx
      have HPX := Lib.hid hpx; have HX := Lib.hid hx; have HSR := Lib.hid hsr
      clear hpx h4 hx hsr
      gi_wp2_with fail
      refine hR.mono ?_
      rintro e W3 (⟨rfl, hJ3, hk3⟩ | ⟨rfl, hJx3⟩)
      · gi_wp2
        gi_roundg (xs.length - (k + 1))
        case measure => have := HG.out; omega
        case rel => exact ⟨k + 1, by omega, by go_num, by rw [← strs_take HX.out]; exact hJ3, HSR.out.trans hk3⟩
      · gi_wp2
        refine bodyPost_ret (results_none rfl _ _ _) rfl ?_
        exact ⟨⟨_, rfl⟩, .inr ⟨_, HPX.out, hJx3⟩⟩
    · have hk : k = xs.length := by have := HG.out; omega
      subst hk
      have HJ := Lib.hid hj; clear hj
      gi_wp2
      go_end0
      exact ⟨⟨_, rfl⟩, .inl (by have := HJ.out; rwa [List.take_length] at this)⟩

set_option maxHeartbeats 1000000 in
/-- List: the iterator over the names, in a box of its own -/
theorem list {lo d mb : Nat} {M : Dp.Files} {full : Bool} {lost : Int} (n : Nat) (hn : 1 ≤ n) (w : World) (hd : Drive lo d mb w M full lost) (hmx : M.length ≤ 4294967296) :
    CallsIn Fence.wide n Tryz.prog 43 #[.pointer (some ⟨d, 0, none⟩)] w fun e w' => ∃ (a : Option Addr) (c B : Nat), e = .returned (.func (.func 86) #[] #[.pointer (some ⟨B, 0, none⟩)]) ∧ w.heap.size ≤ B ∧ B < w'.heap.size ∧
      w'.heap[B]? = some (.cells #[.slice a (Dp.names M).length c] 76 (0, 0)) ∧ Ns w.heap.size w' a (Dp.names M) ∧ Below w.heap.size w w' := by
  have hfN : Fence.wide.fn 35 := trivial
  have hfV : Fence.wide.fn 66 := trivial
  refine callsIn_of_wp Tryz.func43 rfl trivial ?_ rfl
  simp only [Tryz.ntmps43, List.size_toArray, List.length_cons, List.length_nil, Nat.reduceAdd, Nat.reduceSub, Array.replicate_succ, Array.replicate_zero, List.push_toArray, List.append_toArray, List.nil_append, List.cons_append]
  have hL := Lib.hid (show (Dp.names M).length = M.length by simp [Dp.names])
  gi_wp2_with (first
    | (gi_at_call 35; refine (callsIn_wide.2 (DiskE.names _ hd hmx)).mono ?_; rintro e w1 ⟨⟨a, c, rfl, hns⟩, hb⟩)
    | (gi_at_call 66; refine (values_in Fence.wide _ trivial rfl _ _ _ _).mono ?_; rintro e w' ⟨rfl, rfl⟩))
  go_ret
  have ha : Below w1.heap.size w1 (w1.alloc (.cells #[.slice a M.length c] 76)) := (Below.refl _ _).alloc (Nat.le_refl _) _
  refine ⟨a, c, w1.heap.size, rfl, hb.size, by simp, ?_, hns.keep (Keep.of_below ha []) (fun k hk => by cases hk), hb.trans (ha.mono hb.size)⟩
  rw [hL.out]
  exact heap_alloc_new _ _
end Go.Proofs.YtecnnlppinhmgaaGreatDoor.DiskO
namespace Go.Proofs.YtecnnlppinhmgaaGreatDoor.SfJ
open Go.RowKit Go.Proofs.YtecnnlppinhmgaaGreatDoor Go.Proofs.YtecnnlppinhmgaaGreatDoor.Dw Go.Proofs.YtecnnlppinhmgaaGreatDoor.SfA Go.Proofs.YtecnnlppinhmgaaGreatDoor.SfB Go.Proofs.YtecnnlppinhmgaaGreatDoor.IdBox Go.Proofs.YtecnnlppinhmgaaGreatDoor.SfI

attribute [local go_sem] Oper.semAt_some

/-- an id -/
structure Id3 where
  a : Nat
  b : Nat
  c : Nat
deriving DecidableEq
def Id3.good (i : Id3) : Prop := FrK.goodB i.a i.b i.c = true
def Id3.nm (i : Id3) : List UInt8 := SfA.nm 98 i.a i.b i.c
/-- all files are called as blobs -/
def Blobs (M : Dp.Files) (ids : List Id3) : Prop := Dp.names M = ids.map Id3.nm ∧ ∀ i ∈ ids, i.good

theorem keeps_below {W W' : World} (h : Below W.heap.size W W') : KeepsOthers W W' := ⟨h.size, fun k _ hk _ => (h.block k (Array.getElem?_eq_some_iff.1 hk).1).trans hk⟩
theorem strs_mem {ids : List Id3} {x : ByteArray} (h : x ∈ DiskO.strs (ids.map Id3.nm)) : ∃ i ∈ ids, x = ⟨(i.nm).toArray⟩ := by
  unfold DiskO.strs at h
  rw [List.map_map, List.mem_map] at h
  obtain ⟨i, hi, rfl⟩ := h
  exact ⟨i, hi, rfl⟩

/-- what stands while Sweep goes on -/
def Sw (w : World) (sb : Nat) (W : World) : Prop := W.heap[w.heap.size]? = some (.cells #[.pointer (some ⟨sb, 0, none⟩)] 26 (0, 0)) ∧ W.heap[w.heap.size + 1]? = some (.cells #[.int .i64 0] 3 (0, 0)) ∧ Below w.heap.size w W
theorem Sw.below {w W W' : World} {sb : Nat} (h : Sw w sb W) (hb : Below W.heap.size W W') : Sw w sb W' :=
  ⟨(hb.block _ (Array.getElem?_eq_some_iff.1 h.1).1).trans h.1, (hb.block _ (Array.getElem?_eq_some_iff.1 h.2.1).1).trans h.2.1, h.2.2.trans (hb.mono h.2.2.size)⟩

theorem sw_bides (w : World) (sb : Nat) {b c : Nat} (hb : w.heap.size + 2 ≤ b) (hc : w.heap.size + 2 ≤ c) : Rng.Bides b c (fun (_ : List ByteArray) W => Sw w sb W) := by
  intro s W W' row hs hg hr
  refine ⟨(Rng.keeps_cells hs.1 rfl (by omega) hg fun r e => (hr r e).imp id fun h => ⟨by exact h.1, h.2⟩).trans hs.1, (Rng.keeps_cells hs.2.1 rfl (by omega) hg fun r e => (hr r e).imp id fun h => ⟨by exact h.1, h.2⟩).trans hs.2.1, hs.2.2.grown hg hs.2.2.size fun k e => ?_⟩
  rcases hr k e with h | h
  · omega
  · exact Nat.le_trans (by omega) h.1
theorem below_obj {n D : Nat} {w W : World} (h : Below n w W) (o : Obj) (hD : n ≤ D) (hz : n ≤ W.heap.size) : Below n w (W.putObj D o) :=
  h.grown (grownBy_putObj' W D o) hz fun k e => by cases e; exact hD

set_option maxHeartbeats 8000000 in
set_option maxRecDepth 100000 in
theorem sweep_in {lo d mb sb : Nat} {M : Dp.Files} {full : Bool} {lost : Int} {node : Nat} (ids : List Id3) (w : World) (hS : Sf w sb node d) (hd : Drive lo d mb w M full lost) (hM : M.length ≤ 4294967296) (hi : Blobs M ids) (hm : Mx w) (ht : Itoa.Tab w) :
    CallsIn Fence.wide 8 Tryz.prog 21 #[.pointer (some ⟨sb, 0, none⟩)] w fun e w' => e = .returned (.int .i64 0) ∧ Below w.heap.size w w' := by
  have hf1 : Fence.wide.fn 43 := trivial
  have hf2 : Fence.wide.fn 44 := trivial
  have hf3 : Fence.wide.fn 45 := trivial
  obtain ⟨w1, hw1, hb1⟩ : ∃ w1, w1 = (w.alloc (.cells #[.pointer (some ⟨sb, 0, none⟩)] 26)).alloc (.cells #[.int .i64 0] 3) ∧ Below w.heap.size w w1 := ⟨_, rfl, ((Below.refl _ _).alloc (Nat.le_refl _) _).alloc (by simp) _⟩
  have hSw : Sw w sb w1 := by
    refine ⟨?_, ?_, hb1⟩
    · rw [hw1]; exact (Below.heap_alloc _ _ _ (by simp)).trans (heap_alloc_new _ _)
    · rw [hw1]
      have := heap_alloc_new (w.alloc (.cells #[.pointer (some ⟨sb, 0, none⟩)] 26)) (.cells #[.int .i64 0] 3)
      rwa [World.size_alloc] at this
  have HSW := Lib.hid hSw
  have c1 : ((w.alloc (.cells #[.pointer (some ⟨sb, 0, none⟩)] 26)).alloc (.cells #[.int .i64 0] 3)).cell? ⟨sb, 1, none⟩ = some (.pointer (some ⟨d, 0, none⟩)) := by rw [← hw1]; exact (hS.below hb1).cells.2
  have HL := Lib.hid (fun n hn => DiskO.list n hn w1 (hd.below hb1) hM)
  clear hb1 hSw hd
  refine callsIn_of_wp_marks Tryz.func21 rfl trivial ?_ rfl
  simp only [Tryz.ntmps21, List.size_toArray, List.length_cons, List.length_nil, Nat.reduceAdd, Nat.reduceSub, Array.replicate_succ, Array.replicate_zero, List.push_toArray, List.append_toArray, List.nil_append, List.cons_append]
  gi_wp2_with (rw [← hw1]; gi_at_call 43; refine (HL.out _ (by decide)).mono ?_; rintro e w3 ⟨aL, cL, B, rfl, hB1, hB2, hcl, hns, hb3⟩)
  have hz1 : w1.heap.size = w.heap.size + 2 := by rw [hw1]; simp
  have hlen : (Dp.names M).length ≤ 4294967296 := by unfold Dp.names; rw [List.length_map]; exact hM
  have HGV := Lib.hid (DiskO.gives (8 - 1) (by decide) B w1.heap.size aL cL (Dp.names M) w3 hcl hB1 hns hlen)
  have HI := Lib.hid hi
  have HM := Lib.hid hm
  have HT := Lib.hid ht
  have h0 : Sw w sb w3 := HSW.out.below hb3
  clear hcl hns hb3 HL hw1 c1 hm ht hi
  refine Rng.range (a₁ := ?a1) rfl (by decide) (gf := 86) (lb := #[.pointer (some ⟨B, 0, none⟩)]) rfl trivial (enters_of Tryz.func86 (by kernel_rfl) rfl)
    (lo := w1.heap.size) (hi := w3.heap.size) (c := B) hB2 (Nat.le_refl _) HGV.out (fun _ W => Sw w sb W) (fun _ _ _ => False) (sw_bides w sb (by omega) (by omega)) (fun _ _ _ _ _ h _ _ => h) h0 ?assign ?body ?done ?stop
  case assign =>
    intro l x W K hK
    gi_wp2
    exact hK
  case body =>
    rintro l pre x W hi hpx hWz
    obtain ⟨i, him, rfl⟩ : ∃ i ∈ ids, x = ⟨(i.nm).toArray⟩ := by
      have hx : x ∈ DiskO.strs (Dp.names M) := List.IsPrefix.subset hpx (List.mem_append_right _ (List.mem_singleton.2 rfl))
      rw [HI.out.1] at hx
      exact strs_mem hx
    have KP := Lib.hid (SfI.parse i.a i.b i.c W (HI.out.2 i him) (HM.out.below hi.2.2) (HT.out.below hi.2.2))
    have KP := Lib.hid (show Calls Tryz.prog 44 #[.string ⟨(i.nm).toArray⟩] W fun e w' => e = .returned (.tuple #[.agg #[.int .i64 (i.a : Int), .int .i64 (i.b : Int), .int .i64 (i.c : Int)], .bool true]) ∧ Below W.heap.size W w' from KP.out)
    have HS := Lib.hid hi
    clear hi
    gi_wp2_with (gi_at_call 44; refine (CallsIn.inRound l (callsIn_wide.2 KP.out)).mono ?_; rintro e W1 ⟨rfl, hb1⟩)
    have hb2 : Below W.heap.size W (W1.alloc (.cells #[.int .i64 (i.a : Int), .int .i64 (i.b : Int), .int .i64 (i.c : Int)] 23)) := hb1.alloc hb1.size _
    exact ⟨keeps_below hb2, Rng.Span.of_below hb2 hWz, HS.out.below hb2⟩
  case done =>
    rintro D W hD hi hK
    obtain ⟨i1, i2, i3⟩ := hi
    have q0 : W.cell? ⟨w.heap.size + 1, 0, none⟩ = some (.int .i64 0) := by rw [Lib.cell_of_heap i2]; rfl
    have HI3 := Lib.hid i3
    have HKD := Lib.hid hK
    clear i1 i2 i3 hK
    gi_wp2
    refine ⟨by simp, .inl ⟨_, _, rfl, run_takeDeferred HKD.out, ?_⟩⟩
    exact ⟨_, results_tmp rfl _ _ _, rfl, below_obj HI3.out _ (by omega) HI3.out.size⟩
  case stop =>
    rintro D k pre W hD hpre hl hK
    exact hl.elim
end Go.Proofs.YtecnnlppinhmgaaGreatDoor.SfJ
