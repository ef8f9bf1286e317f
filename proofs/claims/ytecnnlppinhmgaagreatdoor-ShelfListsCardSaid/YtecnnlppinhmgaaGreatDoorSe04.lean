/-
  What every law's row of this seat needs: the arguments read again behind the call; the post of a call that answers true; bounds out of the bulk. What the rows on a shelf share: the listed variables out of the listing; ids and bytes, as they came in.
-/
import Derived.Test.YtecnnlppinhmgaaGreatDoorSa01
import Derived.Test.YtecnnlppinhmgaaGreatDoorSe03
import Derived.Test.YtecnnlppinhmgaaGreatDoorRows
import Derived.WalkKit
import Derived.ProofKit
import Derived.OpenShut
import Derived.ShutString
import Derived.ChangeOld
import Derived.Below
import Derived.Carry
import Derived.SliceStrings
import Derived.JoinedCond
import Derived.Lib.SmallJoins
import Derived.Deep.Slices
import Derived.Deep.Fields
import Derived.Test.YtecnnlppinhmgaaGreatDoorCards
import Derived.Test.YtecnnlppinhmgaaGreatDoorTie
import Derived.Deep.DeepHandedRow
import Derived.Stop.LaidErr
import Derived.Deep.DeepWitnessRowRef
import Derived.LaidMore
import Derived.Lay
import Derived.Lib.LaidTab
import Derived.ChangeSlices
import Derived.SizedLaws
namespace Go.Proofs.YtecnnlppinhmgaaGreatDoor.RowKit2
open Go.ChangeShapes Go.WideShapes Go.ChangeAt Go.RowKit
open Go.ChangeMaps (open_string shut_string)

theorem own : ownKnob Tryz.prog.godebug = none := by kernel_rfl
theorem laidOut : laidOutB Tryz.prog = true := by kernel_rfl

theorem trodAll_below {H : Type} {enc : TypeId × Value → H} {P : Program} (hl : laidOutB P = true) {W W' : World} (hb : Below W.heap.size W W') : ∀ (ts : List TypeId) (vs : List Value) (ds : List (DataW H)) (ps : List MemPlace),
    (ts.all fun t => P.readableRec t && decide (t < P.types.size)) = true → DataW.TrodAll enc P W 0 (fun _ => true) true ts vs ds ps → (∀ x ∈ ps, x.block < W.heap.size) →
    DataW.TrodAll enc P W' 0 (fun b => decide (b < W.heap.size)) true ts vs ds ps
  | [], vs, ds, ps, _, h, _ => by
    obtain ⟨rfl, rfl, rfl⟩ := trodAll_nil h
    exact trodAll_mk0
  | t :: ts, vs, ds, ps, ht, h, hlt => by
    obtain ⟨v, vs', d, ds', p, q, rfl, rfl, rfl, h1, h2⟩ := trodAll_cons h
    simp only [List.all_cons, Bool.and_eq_true, decide_eq_true_eq] at ht
    exact trodAll_cons_mk (Below.trod hl ht.1.1 ht.1.2 h1 hb (fun x hx => hlt x (by simp [hx]))) (trodAll_below hl hb ts vs' ds' q (by simpa using ht.2) h2 (fun x hx => hlt x (by simp [hx])))

/-- a law's call answered true and turned nothing that was there -/
theorem law_post {H : Type} {enc : TypeId × Value → H} {f : Func} {s : ChangeSpec} {W W' : World} {args : Array Value} {ds gs : List (DataW H)} {before : List MemPlace} {e : Ending}
    (hv : s.vars = []) (hr : f.resultTypes = #[4]) (hread : (f.params.toList.all fun t => Tryz.prog.readableRec t && decide (t < Tryz.prog.types.size)) = true)
    (hfn : s.fn H (ds ++ gs) = { results := [.lit (.bool true)], args := ds })
    (hW : DataW.Whole enc Tryz.prog f.params.toList s.vars false W args.toList ds gs before) (he : e = .returned (.bool true)) (hb : Below W.heap.size W W') :
    ∃ v, e = .returned v ∧ s.post enc Tryz.prog f false true false false W args v W' := by
  have hW' := hW
  have hlt : ∀ x ∈ before, x.block < W.heap.size := fun x hx => hW'.lt x hx
  obtain ⟨p, q, hA, hV, rfl, hfz, hnd⟩ := hW
  rw [hv] at hV
  obtain ⟨rfl, rfl⟩ := trodVars_none hV
  subst he
  refine ⟨_, rfl, ds, [], _, [], p, [], hW', ?_, ?_, ?_, hb.frame _, fun h => by cases h⟩
  · rw [hr, hfn]
    exact trodAll_mk1 (shut_bool Tryz.underlying4 true)
  · rw [hfn]
    exact trodAll_below laidOut hb _ _ _ _ hread hA (fun x hx => hlt x (by simp [hx]))
  · rw [hv, hfn]
    rfl

theorem one_le {H : Type} (d : DataW H) : 1 ≤ Rows.uptoBulk d := by
  cases d with
  | lit l => cases l <;> simp [Rows.uptoBulk]
  | nil => simp [Rows.uptoBulk]
  | ptr d => simp [Rows.uptoBulk]
  | slice elems spare => simp [Rows.uptoBulk]
  | agg parts => simp [Rows.uptoBulk]
  | iface t d => simp [Rows.uptoBulk]
  | map entries => simp [Rows.uptoBulk]
  | held h => simp [Rows.uptoBulk]
theorem bulk_append {H : Type} (l r : List (DataW H)) : Rows.uptoBulkAll (l ++ r) = Rows.uptoBulkAll l + Rows.uptoBulkAll r := by
  induction l with
  | nil => simp [Rows.uptoBulkAll]
  | cons x l ih => simp only [List.cons_append, Rows.uptoBulkAll, ih]; omega
theorem bulk_length {H : Type} (l : List (DataW H)) : l.length ≤ Rows.uptoBulkAll l := by
  induction l with
  | nil => simp [Rows.uptoBulkAll]
  | cons x r ih => have := one_le x; simp only [Rows.uptoBulkAll, List.length_cons]; omega
theorem bulk_part {H : Type} {d : DataW H} {l : List (DataW H)} (h : d ∈ l) : Rows.uptoBulk d ≤ Rows.uptoBulkAll l := by
  induction l with
  | nil => cases h
  | cons x r ih =>
    simp only [Rows.uptoBulkAll]
    cases List.mem_cons.1 h with
    | inl e => subst e; omega
    | inr e => have := ih e; omega
theorem bulk_string {H : Type} (bytes : List UInt8) : Rows.uptoBulk (DataW.lit (H := H) (.string bytes)) = bytes.length + 1 := by
  simp [Rows.uptoBulk]
theorem bound {H : Type} {l : List (DataW H)} (hk : Rows.uptoSmall H l = true) : Rows.uptoBulkAll l ≤ 1048576 := of_decide_eq_true hk
theorem bulk_strs {H : Type} (ss : List ByteArray) : Rows.uptoBulkAll (strs (H := H) ss) = ((ss.map (·.data.toList)).flatten).length + ss.length := by
  induction ss with
  | nil => simp [strs, Rows.uptoBulkAll]
  | cons x r ih =>
    have : strs (H := H) (x :: r) = .lit (.string x.data.toList) :: strs r := rfl
    rw [this]
    simp only [Rows.uptoBulkAll, ih, bulk_string, List.map_cons, List.flatten_cons, List.length_append, List.length_cons]
    omega
theorem addr_add (b off k : Nat) : (⟨b, off, none⟩ : Addr).add k = ⟨b, off + k, none⟩ := by
  unfold Addr.add; split <;> simp_all

/-- a slice of structs whose fields are one cell each -/
theorem open_structs {H : Type} {enc : TypeId × Value → H} {P : Program} {w : World} {base : Nat} {spare : Nat → Bool} {held : Bool} {t e : TypeId} {fs : Array Field} {fuel : Nat} {cs : List Value} {x : DataW H × List MemPlace}
    (ht : P.underlying t = some (.slice e)) (he : P.underlying e = some (.struct fs)) (hone : Go.Deep.oneCellFields P fs = true) (hC : P.cellsOf e = fs.size) (h : DataW.trod enc P w base spare held fuel t cs = some x) :
    (cs = [.slice none 0 0] ∧ x = (.nil, [])) ∨
    ∃ (a : Addr) (len cap m : Nat) (D : Nat → DataW H) (Pl : Nat → List MemPlace), cs = [.slice (some a) len cap] ∧ len ≤ cap ∧ cap ≤ maxLen ∧ m = (if spare a.block then cap else len) ∧
      x = (.slice ((List.range len).map D) ((List.range (m - len)).map fun j => D (len + j)), MemPlace.row a (m * fs.size) ++ (List.range m).flatMap Pl) ∧
      ∀ i, i < m → ∃ (ys : List (DataW H × List MemPlace)) (n : Nat), D i = .agg (ys.map (·.1)) ∧ ys.length = fs.size ∧
        ∀ (j : Nat) (f : Field), fs[j]? = some f → ∃ (v : Value) (y : DataW H × List MemPlace), w.cell? (a.add (i * fs.size + j)) = some v ∧ ys[j]? = some y ∧ DataW.trod enc P w base spare held n f.type [v] = some y := by
  rcases Go.Deep.open_slice ht h with h0 | ⟨a, len, cap, m, n, D, Pl, hcs, hb, hl, hm, hmm, hx, hi⟩
  · exact .inl h0
  refine .inr ⟨a, len, cap, m, D, Pl, hcs, hl, hm, hmm, by rw [hC] at hx; exact hx, fun i him => ?_⟩
  obtain ⟨cs', hc, ht'⟩ := hi i him
  rw [hC] at hc
  obtain ⟨ys, n', hn', hy, hlen, hyl, hf⟩ := DataW.trod_struct he ht'
  obtain ⟨_, hcl, hat⟩ := World.cells?_some hc
  simp only [Prod.mk.injEq] at hy
  refine ⟨ys, n', hy.1, hyl, fun j f hj => ?_⟩
  obtain ⟨ho, hk⟩ := Go.Deep.hone_of hone j f hj
  have hjl : j < fs.size := (Array.getElem?_eq_some_iff.1 hj).1
  have hcell := hat j hjl
  have hv : cs'[j]? = some (cs'[j]'(by omega)) := List.getElem?_eq_getElem (by omega)
  have h1 := hf j f hj
  rw [ho, hk] at h1
  have hone' : (cs'.drop j).take 1 = [cs'[j]'(by omega)] := by
    rw [List.drop_eq_getElem_cons (by omega)]
    rfl
  rw [hone'] at h1
  have hys : ys[j]? = some (ys[j]'(by omega)) := List.getElem?_eq_getElem (by omega)
  refine ⟨_, _, ?_, hys, h1.trans hys⟩
  rw [← Go.Deep.add_add, hcell, hv]

/-- so many things, one for each place -/
theorem list_of {α : Type} {p : Nat → α → Prop} : ∀ (n : Nat), (∀ i, i < n → ∃ x, p i x) → ∃ l : List α, l.length = n ∧ ∀ i x, l[i]? = some x → p i x
  | 0, _ => ⟨[], rfl, fun i x h => by simp at h⟩
  | n + 1, h => by
    obtain ⟨l, hl, hp⟩ := list_of n fun i hi => h i (by omega)
    obtain ⟨x, hx⟩ := h n (by omega)
    refine ⟨l ++ [x], by simp [hl], fun i y hy => ?_⟩
    rcases Nat.lt_or_ge i n with hi | hi
    · rw [List.getElem?_append_left (by omega)] at hy
      exact hp i y hy
    · rw [List.getElem?_append_right (by omega), hl] at hy
      obtain rfl : i = n := by
        rcases Nat.eq_zero_or_pos (i - n) with h0 | h0
        · omega
        · rw [List.getElem?_eq_none (by simp; omega)] at hy; cases hy
      simp at hy
      subst hy
      exact hx
theorem wf_i64 {n : Int} (h : (Lit.int .i64 n).wf = true) : -9223372036854775808 ≤ n ∧ n ≤ 9223372036854775807 := by
  simpa [Lit.wf, IntKind.min, IntKind.max, IntKind.signed, IntKind.bits] using h

theorem cells_string : Tryz.prog.cellsOf 9 = 1 := by kernel_rfl

/-- an argument that is a slice of strings -/
theorem open_strs {H : Type} {enc : TypeId × Value → H} {W : World} {a2 : Option Addr} {len2 cap2 : Nat} {d : DataW H} {p : List MemPlace}
    (h : DataW.Trod enc Tryz.prog W 0 (fun _ => true) true 76 (.slice a2 len2 cap2) d p) (hlt : ∀ x ∈ p, x.block < W.heap.size) :
    ∃ xs : List ByteArray, len2 = xs.length ∧ xs.length ≤ cap2 ∧ Com.Strs W a2 xs ∧ (Com.flat xs).length + xs.length ≤ Rows.uptoBulk d := by
  obtain ⟨fuel, hf⟩ := h
  rcases open_strings Tryz.underlying76 Tryz.underlying9 cells_string hf with ⟨hcs, hx⟩ | ⟨a, len', cap', ss, hcs, _, hl, hm, hz, hx, hcell, hws⟩
  · simp [Value.cells] at hcs
    obtain ⟨rfl, rfl, rfl⟩ := hcs
    exact ⟨[], rfl, Nat.le_refl _, .inl rfl, by simp [Com.flat]⟩
  · simp [Value.cells] at hcs
    obtain ⟨rfl, rfl, rfl⟩ := hcs
    simp at hz
    simp only [Prod.mk.injEq] at hx
    obtain ⟨rfl, rfl⟩ := hx
    refine ⟨ss.take len2, by simp; omega, by simp; omega, ?_, ?_⟩
    · rcases Nat.eq_zero_or_pos ss.length with h0 | h0
      · left; apply List.eq_nil_of_length_eq_zero; simp; omega
      · have hc0 := hcell 0 h0
        obtain ⟨b, off, spot⟩ := a
        obtain rfl : spot = none := by simpa [Addr.add] using World.cell?_spot hc0
        refine .inr ⟨b, off, rfl, ?_, fun j x hj => ?_⟩
        · have := hlt (.cell b off) (by simp [MemPlace.row]; exact h0)
          simpa [MemPlace.block] using this
        · rw [List.getElem?_take] at hj
          split at hj
          · have hjl := (List.getElem?_eq_some_iff.1 hj).1
            have := hcell j hjl
            rw [List.getD, hj] at this
            by_cases h0 : j = 0
            · subst h0; simpa [Addr.add] using this
            · simpa [Addr.add, h0] using this
          · cases hj
    · simp only [Rows.uptoBulk, bulk_strs, Com.flat]
      omega
end Go.Proofs.YtecnnlppinhmgaaGreatDoor.RowKit2
namespace Go.Proofs.YtecnnlppinhmgaaGreatDoor.SfR
open Go.ChangeShapes Go.WideShapes Go.ChangeAt Go.RowKit Go.Proofs.YtecnnlppinhmgaaGreatDoor Go.Proofs.YtecnnlppinhmgaaGreatDoor.HtW
open Go.ChangeMaps (open_string shut_string)

theorem star : "*" ++ "errors.errorString" = "*errors.errorString" := by decide
theorem row (u : TypeId) (h : Tryz.prog.typeName? 3 u = some "*errors.errorString") : u = 224 :=
  typeName_ptr_named (nm := "errors.errorString") (by rw [star]; kernel_rfl) (by kernel_rfl) (by decide) u (by rw [star]; exact h)
theorem cS : Tryz.prog.cellsOf 226 = 1 := by kernel_rfl
theorem cT : Tryz.prog.cellsOf 9 = 1 := by kernel_rfl
theorem tabType : (Tryz.prog.globals[9]?).map (·.type) = some 218 := by kernel_rfl
theorem cellsTab : Tryz.prog.cellsOf 218 = 20 := by kernel_rfl
theorem cellsU64 : Tryz.prog.cellsOf 127 = 1 := by kernel_rfl
theorem tab {W : World} (h : laidMetH Tryz.prog Rows.shelfOrdersRow.laid W) : Itoa.Tab W := by
  rw [MakeChecks.laidMetH_plain _ _ _ (by kernel_rfl)] at h
  refine Lib.tabIs_of_head (rest := Rows.shelfOrdersRow.laid.drop 3) Itoa.tabNum tabType Tryz.underlying218 Tryz.underlying127 cellsU64 cellsTab ?_
  exact laidMet.tail (laidMet.tail h)
set_option maxRecDepth 100000 in
theorem laid_sentinel2 {n : String} {text : List UInt8} {r : List (String × DataW Unit)} {W : World} {g : Nat}
    (h : laidMet Tryz.prog ((n, .iface "*errors.errorString" (.ptr (.agg [.lit (.string text)]))) :: r) W) (hg : Tryz.prog.globalNamed n = some g) (ht : (Tryz.prog.globals[g]?).map (·.type) = some 28) : ∃ a, Err.Er W g text a := by
  obtain ⟨ps, ⟨g0, t0, cs0, f0, p0, q0, hg0, ht0, hv0, hd0, _, e0⟩, _, hrows⟩ := h
  obtain rfl := Option.some.inj (hg.symm.trans hg0)
  obtain rfl := Option.some.inj (ht.symm.trans ht0)
  subst e0
  obtain ⟨l0⟩ := cs0
  have ok0 : ∀ u v, l0 = [.iface u v] → Value.okWide Tryz.prog W .any 0 u v := fun u v e => by
    subst e
    exact (hrows g 0 (by simp [MemPlace.row])).2 u v (by simpa using World.var?_cell hg0 hv0 0)
  obtain ⟨a0, s0, rfl, hc0, hs0, hz0, rfl⟩ := errorString_of_trod Tryz.underlying28 row Tryz.underlying224 Tryz.underlying226 rfl rfl Tryz.underlying9 cS cT hd0 ok0
  obtain ⟨c0, t0, hb0⟩ := (hrows a0.block a0.off (by simp [MemPlace.row])).1
  exact ⟨a0, by simpa using World.var?_cell hg0 hv0 0, ⟨s0, hc0, hs0⟩, ⟨c0, t0, hb0⟩⟩
theorem laid_at {P : Program} {W : World} : ∀ (i : Nat) (l : List (String × DataW Unit)) (x : String × DataW Unit), laidMet P l W → l[i]? = some x → ∃ r, laidMet P (x :: r) W
  | 0, y :: r, x, h, e => by
    simp only [List.getElem?_cons_zero, Option.some.injEq] at e
    subst e
    exact ⟨r, h⟩
  | i + 1, y :: r, x, h, e => laid_at i r x (laidMet.tail h) (by simpa using e)
  | 0, [], x, _, e => by simp at e
  | i + 1, [], x, _, e => by simp at e
theorem erLost {W : World} (h : laidMet Tryz.prog Rows.shelfOrdersRow.laid W) : ∃ a, Err.Er W 0 (Err.texts[3]'(by decide)) a := by
  obtain ⟨r, hr⟩ := laid_at 4 _ _ h rfl
  exact laid_sentinel2 hr (by kernel_rfl) (by kernel_rfl)
theorem erBytes {W : World} (h : laidMet Tryz.prog Rows.shelfOrdersRow.laid W) : ∃ a, Err.Er W 3 (Err.texts[4]'(by decide)) a := by
  obtain ⟨r, hr⟩ := laid_at 5 _ _ h rfl
  exact laid_sentinel2 hr (by kernel_rfl) (by kernel_rfl)
theorem erDigest {W : World} (h : laidMet Tryz.prog Rows.shelfOrdersRow.laid W) : ∃ a, Err.Er W 4 (Err.texts[5]'(by decide)) a := by
  obtain ⟨r, hr⟩ := laid_at 6 _ _ h rfl
  exact laid_sentinel2 hr (by kernel_rfl) (by kernel_rfl)
theorem erName {W : World} (h : laidMet Tryz.prog Rows.shelfOrdersRow.laid W) : ∃ a, Err.Er W 5 (Err.texts[6]'(by decide)) a := by
  obtain ⟨r, hr⟩ := laid_at 7 _ _ h rfl
  exact laid_sentinel2 hr (by kernel_rfl) (by kernel_rfl)
theorem erGone {W : World} (h : laidMet Tryz.prog Rows.shelfOrdersRow.laid W) : ∃ a, Err.Er W 6 (Err.texts[7]'(by decide)) a := by
  obtain ⟨r, hr⟩ := laid_at 8 _ _ h rfl
  exact laid_sentinel2 hr (by kernel_rfl) (by kernel_rfl)
theorem erFull {W : World} (h : laidMet Tryz.prog Rows.shelfOrdersRow.laid W) : ∃ a, Err.Er W 1 (Err.texts[9]'(by decide)) a := by
  obtain ⟨r, hr⟩ := laid_at 9 _ _ h rfl
  exact laid_sentinel2 hr (by kernel_rfl) (by kernel_rfl)
theorem env {W : World} (hl : laidMetH Tryz.prog Rows.shelfOrdersRow.laid W) : ∃ aL aB aD aN aF aG, SfB.Env W aL aB aD aN aF aG := by
  have ht := tab hl
  rw [MakeChecks.laidMetH_plain _ _ _ (by kernel_rfl)] at hl
  obtain ⟨aL, kL⟩ := erLost hl
  obtain ⟨aB, kB⟩ := erBytes hl
  obtain ⟨aD, kD⟩ := erDigest hl
  obtain ⟨aN, kN⟩ := erName hl
  obtain ⟨aG, kG⟩ := erGone hl
  obtain ⟨aF, kF⟩ := erFull hl
  exact ⟨aL, aB, aD, aN, aF, aG, ⟨kB.cell, kD.cell⟩, ⟨kN.cell, kF.cell, kG.cell⟩, ht, kL.cell, kD.ne kB (by decide), kB.block, kD.block⟩
noncomputable def w0 (os : Os) : World := World.laidAll Tryz.prog os Rows.shelfOrdersRow.laid
theorem w0_os (os : Os) : (w0 os).os = os := World.laidAll_os _ _ _
theorem w0_met (os : Os) (args : Array Value) : laidMetH Tryz.prog Rows.shelfOrdersRow.laid ((w0 os).forCall (fun _ _ => 0) ⟨#[], args, []⟩).memory := by
  rw [MakeChecks.laidMetH_plain _ _ _ (by kernel_rfl)]
  exact laidMet_laidAll _ (by kernel_rfl) (by kernel_rfl)
theorem struct_at {H : Type} {enc : TypeId × Value → H} {P : Program} {w : World} {base : Nat} {spare : Nat → Bool} {held : Bool} {t : TypeId} {fs : Array Field} {n : Nat} {cs : List Value} {x : DataW H × List MemPlace}
    (he : P.underlying t = some (.struct fs)) (h : DataW.trod enc P w base spare held n t cs = some x) :
    ∃ (ys : List (DataW H × List MemPlace)) (k : Nat), x.1 = .agg (ys.map (·.1)) ∧ (∀ z ∈ ys, ∀ q ∈ z.2, q ∈ x.2) ∧ cs.length = P.cellsOf t ∧
      ∀ (j : Nat) (f : Field), fs[j]? = some f → ∃ z, ys[j]? = some z ∧ DataW.trod enc P w base spare held k f.type ((cs.drop f.offset).take (P.cellsOf f.type)) = some z := by
  obtain ⟨ys, k, _, hx, hl, hyl, hf⟩ := DataW.trod_struct he h
  subst hx
  refine ⟨ys, k, rfl, fun z hz q hq => List.mem_flatMap.2 ⟨z, hz, hq⟩, hl, fun j f hj => ?_⟩
  have hjl : j < fs.size := (Array.getElem?_eq_some_iff.1 hj).1
  have hys : ys[j]? = some (ys[j]'(by omega)) := List.getElem?_eq_getElem (by omega)
  exact ⟨_, hys, (hf j f hj).trans hys⟩
theorem cInt : Tryz.prog.cellsOf 3 = 1 := by kernel_rfl
theorem cBs : Tryz.prog.cellsOf 24 = 1 := by kernel_rfl
theorem cB : Tryz.prog.cellsOf 5 = 1 := by kernel_rfl
theorem cId : Tryz.prog.cellsOf 23 = 3 := by kernel_rfl
theorem three {l : Array Value} (h : l.size = 3) : ∃ a b c, l = #[a, b, c] := by
  obtain ⟨l⟩ := l
  match l, h with
  | [a, b, c], _ => exact ⟨a, b, c, rfl⟩
theorem byte_of {n : Int} (h : (Lit.int .u8 n).wf = true) : n = (((UInt8.ofNat n.toNat).toNat : Nat) : Int) := by
  have : 0 ≤ n ∧ n ≤ 255 := by simpa [Lit.wf, IntKind.min, IntKind.max, IntKind.signed, IntKind.bits] using h
  simp
  omega
/-- a slice of bytes that came in -/
theorem open_bytes {H : Type} {enc : TypeId × Value → H} {W : World} {v : Value} {y : DataW H × List MemPlace} {n : Nat}
    (h : DataW.trod enc Tryz.prog W 0 (fun _ => true) true n 24 [v] = some y) :
    ∃ a l c, v = .slice a l.length c ∧ Bs W a l c ∧ l.length ≤ 9223372036854775807 ∧ l.length ≤ Rows.uptoBulk y.1 ∧ ((y.1 = .nil ∧ l = []) ∨ ∃ els sp, y.1 = .slice els sp ∧ els.length = l.length) := by
  rcases open_ints Tryz.underlying24 Tryz.underlying5 cB h with ⟨hcs, hx⟩ | ⟨a, len, cap, zs, hcs, hb, hl, hm, hz, hx, hc, hwf⟩
  · obtain rfl : v = .slice none 0 0 := by simpa using hcs
    exact ⟨none, [], 0, rfl, ⟨Nat.le_refl _, fun _ => rfl, .inl rfl⟩, by simp, by simp, .inl ⟨by rw [hx], rfl⟩⟩
  · obtain rfl : v = .slice (some a) len cap := by simpa using hcs
    simp only [if_true] at hz
    have hlen : ((zs.take len).map fun n => UInt8.ofNat n.toNat).length = len := by simp; omega
    refine ⟨some a, (zs.take len).map fun n => UInt8.ofNat n.toNat, cap, by rw [hlen], ⟨by rw [hlen]; exact hl, (fun h => by cases h), ?_⟩, by simp only [maxLen] at hm; omega, ?_, .inr ⟨_, _, by rw [hx], by simp [lits]⟩⟩
    · rcases Nat.eq_zero_or_pos len with h0 | h0
      · left; subst h0; simp
      · right
        have hc0 := hc 0 (by omega)
        obtain ⟨b, off, spot⟩ := a
        obtain rfl : spot = none := by simpa [Addr.add] using World.cell?_spot hc0
        refine ⟨b, off, rfl, ?_, fun j x hj => ?_⟩
        · exact World.block_lt_of_cell? W _ (by simpa [addr_add] using hc0)
        · simp only [List.getElem?_map, Option.map_eq_some_iff] at hj
          obtain ⟨z, hz1, rfl⟩ := hj
          have hjl : j < (zs.take len).length := (List.getElem?_eq_some_iff.1 hz1).1
          rw [List.length_take] at hjl
          rw [List.getElem?_take, if_pos (by omega)] at hz1
          have := hc j (by omega)
          rw [addr_add, List.getD_eq_getElem?_getD, hz1] at this
          rw [this, ← byte_of (hwf z (List.mem_of_getElem? hz1))]
          rfl
    · rw [hx, hlen]
      simp only [Rows.uptoBulk]
      have := RowKit2.bulk_length (lits (H := H) .u8 (zs.take len))
      simp [lits] at this
      simp [lits]
      omega

theorem len_le {H : Type} {ts : List TypeId} {ds : List (DataW H)} (h : (DataW.weightsEach Tryz.prog ts ds).all (· ≤ reachBytes) = true) {j : Nat} {d : DataW H} {l : List UInt8} (ht : ts[j]? = some 24) (hd : ds[j]? = some d)
    (hl : (d = .nil ∧ l = []) ∨ ∃ els sp, d = .slice els sp ∧ els.length = l.length) : l.length ≤ 140737488351232 := by
  rcases hl with ⟨_, rfl⟩ | ⟨els, sp, rfl, he⟩
  · simp
  · have := sized_slice h ht hd Tryz.underlying24
    have hb : Tryz.prog.bytesOf 5 = 1 := by kernel_rfl
    have hr : reachBytes = 140737488351232 := by decide
    rw [hb, hr] at this
    omega

/-- an id's three numbers -/
theorem open_id {H : Type} {enc : TypeId × Value → H} {w : World} {base : Nat} {spare : Nat → Bool} {held : Bool} {n : Nat} {c0 c1 c2 : Value} {x : DataW H × List MemPlace}
    (h : DataW.trod enc Tryz.prog w base spare held n 23 [c0, c1, c2] = some x) : ∃ a b c : Int, c0 = .int .i64 a ∧ c1 = .int .i64 b ∧ c2 = .int .i64 c ∧ (-9223372036854775808 ≤ a ∧ a ≤ 9223372036854775807) ∧ (-9223372036854775808 ≤ b ∧ b ≤ 9223372036854775807) ∧ (-9223372036854775808 ≤ c ∧ c ≤ 9223372036854775807) := by
  obtain ⟨ys, k, _, _, _, hf⟩ := struct_at Tryz.underlying23 h
  obtain ⟨z0, _, r0⟩ := hf 0 _ rfl
  obtain ⟨z1, _, r1⟩ := hf 1 _ rfl
  obtain ⟨z2, _, r2⟩ := hf 2 _ rfl
  have r0 : DataW.trod enc Tryz.prog w base spare held k 3 (([c0, c1, c2].drop 0).take (Tryz.prog.cellsOf 3)) = some z0 := r0
  rw [cInt] at r0
  have r1 : DataW.trod enc Tryz.prog w base spare held k 3 (([c0, c1, c2].drop 1).take (Tryz.prog.cellsOf 3)) = some z1 := r1
  rw [cInt] at r1
  have r2 : DataW.trod enc Tryz.prog w base spare held k 3 (([c0, c1, c2].drop 2).take (Tryz.prog.cellsOf 3)) = some z2 := r2
  rw [cInt] at r2
  obtain ⟨a, q0, _, w0⟩ := DataW.trod_int Tryz.underlying3 r0
  obtain ⟨b, q1, _, w1⟩ := DataW.trod_int Tryz.underlying3 r1
  obtain ⟨c, q2, _, w2⟩ := DataW.trod_int Tryz.underlying3 r2
  exact ⟨a, b, c, by simpa using q0, by simpa using q1, by simpa using q2, RowKit2.wf_i64 w0, RowKit2.wf_i64 w1, RowKit2.wf_i64 w2⟩
end Go.Proofs.YtecnnlppinhmgaaGreatDoor.SfR
