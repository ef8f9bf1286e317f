/-
  The law bollardlaw19.XmlIds answers true for every id and every text. Conditions: what it reads is of bulk at most 1048576 (the given second form); the listed variables of the library are as start-up lays them (the card ties them).
-/
import Derived.Test.YtmimkgfkicgfiaaDoorRowKit
import Derived.Test.YtmimkgfkicgfiaaDoorIdG
import Derived.Test.YtmimkgfkicgfiaaDoorCards
import Derived.Test.YtmimkgfkicgfiaaDoorTie
import Derived.Deep.DeepHandedRow
import Derived.Stop.LaidErr
import Derived.Deep.DeepWitnessRowRef
import Derived.LaidMore
import Derived.Lib.LaidTab
import Derived.Lay
namespace Go.Proofs.YtmimkgfkicgfiaaDoor.xmlIds
open Go.ChangeShapes Go.WideShapes Go.ChangeAt Go.RowKit Go.Proofs.YtmimkgfkicgfiaaDoor
open Go.ChangeMaps (open_string shut_string)

theorem tabType : (Tryd.prog.globals[23]?).map (·.type) = some 230 := by kernel_rfl
theorem cellsTab : Tryd.prog.cellsOf 230 = 20 := by kernel_rfl
theorem cellsU64 : Tryd.prog.cellsOf 189 = 1 := by kernel_rfl
theorem star : "*" ++ "errors.errorString" = "*errors.errorString" := by decide
theorem row (u : TypeId) (h : Tryd.prog.typeName? 3 u = some "*errors.errorString") : u = 233 :=
  typeName_ptr_named (nm := "errors.errorString") (by rw [star]; kernel_rfl) (by kernel_rfl) (by decide) u (by rw [star]; exact h)
theorem gR : Tryd.prog.globalNamed "strconv.ErrRange" = some 20 := by kernel_rfl
theorem tR : (Tryd.prog.globals[20]?).map (·.type) = some 27 := by kernel_rfl
theorem gS : Tryd.prog.globalNamed "strconv.ErrSyntax" = some 19 := by kernel_rfl
theorem tS : (Tryd.prog.globals[19]?).map (·.type) = some 27 := by kernel_rfl
theorem cS : Tryd.prog.cellsOf 235 = 1 := by kernel_rfl
theorem cT : Tryd.prog.cellsOf 9 = 1 := by kernel_rfl
theorem tab {W : World} (h : laidMetH Tryd.prog Rows.xmlIdsRow.laid W) : XmlH.Tab W := by
  rw [MakeChecks.laidMetH_plain _ _ _ (by kernel_rfl)] at h
  refine Lib.tabIs_of_head (rest := Rows.xmlIdsRow.laid.drop 3) XmlH.tabNum tabType Tryd.underlying230 Tryd.underlying189 cellsU64 cellsTab ?_
  exact laidMet.tail (laidMet.tail h)
theorem ne {W : World} (h : laidMetH Tryd.prog Rows.xmlIdsRow.laid W) : IdD.Ne W := by
  rw [MakeChecks.laidMetH_plain _ _ _ (by kernel_rfl)] at h
  have h4 := laidMet.tail (laidMet.tail (laidMet.tail (laidMet.tail h)))
  obtain ⟨a0, s0, r0, _⟩ := laid_sentinel h4 gR tR Tryd.underlying27 row Tryd.underlying233 Tryd.underlying235 rfl rfl Tryd.underlying9 cS cT
  obtain ⟨a1, s1, r1, _⟩ := laid_sentinel (laidMet.tail h4) gS tS Tryd.underlying27 row Tryd.underlying233 Tryd.underlying235 rfl rfl Tryd.underlying9 cS cT
  exact ⟨⟨_, _, by simpa using World.var?_cell gS r1 0⟩, ⟨_, _, by simpa using World.var?_cell gR r0 0⟩⟩
noncomputable def w0 (os : Os) : World := World.laidAll Tryd.prog os Rows.xmlIdsRow.laid
theorem w0_os (os : Os) : (w0 os).os = os := World.laidAll_os _ _ _
theorem w0_met (os : Os) (args : Array Value) : laidMetH Tryd.prog Rows.xmlIdsRow.laid ((w0 os).forCall (fun _ _ => 0) ⟨#[], args, []⟩).memory := by
  rw [MakeChecks.laidMetH_plain _ _ _ (by kernel_rfl)]
  exact laidMet_laidAll _ (by kernel_rfl) (by kernel_rfl)
theorem mx {w : World} (h : w.ShapedOpen Tryd.prog) : IdD.Mx w := Tryd.laysM145.s1_3 w h
theorem three {l : Array Value} (h : l.size = 3) : ∃ a b c, l = #[a, b, c] := by
  obtain ⟨l⟩ := l
  match l, h with
  | [a, b, c], _ => exact ⟨a, b, c, rfl⟩

/-- a struct's fields, each by itself -/
theorem struct_at {H : Type} {enc : TypeId × Value → H} {P : Program} {w : World} {base : Nat} {spare : Nat → Bool} {held : Bool} {t : TypeId} {fs : Array Field} {n : Nat} {cs : List Value} {x : DataW H × List MemPlace}
    (he : P.underlying t = some (.struct fs)) (h : DataW.trod enc P w base spare held n t cs = some x) :
    ∃ (ys : List (DataW H × List MemPlace)) (k : Nat), x.1 = .agg (ys.map (·.1)) ∧ (∀ z ∈ ys, ∀ q ∈ z.2, q ∈ x.2) ∧ cs.length = P.cellsOf t ∧
      ∀ (j : Nat) (f : Field), fs[j]? = some f → ∃ z, ys[j]? = some z ∧ DataW.trod enc P w base spare held k f.type ((cs.drop f.offset).take (P.cellsOf f.type)) = some z := by
  obtain ⟨ys, k, _, hx, hl, hyl, hf⟩ := DataW.trod_struct he h
  subst hx
  refine ⟨ys, k, rfl, fun z hz q hq => List.mem_flatMap.2 ⟨z, hz, hq⟩, hl, fun j f hj => ?_⟩
  have hjl : j < fs.size := (Array.getElem?_eq_some_iff.1 hj).1
  have hys : ys[j]? = some (ys[j]'(by omega)) := List.getElem?_eq_getElem (by omega)
  exact ⟨_, hys, (hf j f hj).trans hys⟩
theorem bulk_of {H : Type} {ys : List (DataW H × List MemPlace)} {j : Nat} {z : DataW H × List MemPlace} (h : ys[j]? = some z) : Rows.uptoBulk z.1 ≤ Rows.uptoBulkAll (ys.map (·.1)) :=
  RowKit2.bulk_part (List.mem_map.2 ⟨z, List.mem_of_getElem? h, rfl⟩)

theorem cInt : Tryd.prog.cellsOf 3 = 1 := by kernel_rfl
theorem cStr : Tryd.prog.cellsOf 9 = 1 := by kernel_rfl
theorem cId : Tryd.prog.cellsOf 51 = 3 := by kernel_rfl

/-- an id's three numbers -/
theorem open_id {H : Type} {enc : TypeId × Value → H} {w : World} {base : Nat} {spare : Nat → Bool} {held : Bool} {n : Nat} {c0 c1 c2 : Value} {x : DataW H × List MemPlace}
    (h : DataW.trod enc Tryd.prog w base spare held n 51 [c0, c1, c2] = some x) : ∃ a b c : Int, c0 = .int .i64 a ∧ c1 = .int .i64 b ∧ c2 = .int .i64 c ∧ Xd.I64 a ∧ Xd.I64 b ∧ Xd.I64 c := by
  obtain ⟨ys, k, _, _, _, hf⟩ := struct_at Tryd.underlying51 h
  obtain ⟨z0, _, r0⟩ := hf 0 _ rfl
  obtain ⟨z1, _, r1⟩ := hf 1 _ rfl
  obtain ⟨z2, _, r2⟩ := hf 2 _ rfl
  have r0 : DataW.trod enc Tryd.prog w base spare held k 3 (([c0, c1, c2].drop 0).take (Tryd.prog.cellsOf 3)) = some z0 := r0
  rw [cInt] at r0
  have r1 : DataW.trod enc Tryd.prog w base spare held k 3 (([c0, c1, c2].drop 1).take (Tryd.prog.cellsOf 3)) = some z1 := r1
  rw [cInt] at r1
  have r2 : DataW.trod enc Tryd.prog w base spare held k 3 (([c0, c1, c2].drop 2).take (Tryd.prog.cellsOf 3)) = some z2 := r2
  rw [cInt] at r2
  obtain ⟨a, q0, _, w0⟩ := DataW.trod_int Tryd.underlying3 r0
  obtain ⟨b, q1, _, w1⟩ := DataW.trod_int Tryd.underlying3 r1
  obtain ⟨c, q2, _, w2⟩ := DataW.trod_int Tryd.underlying3 r2
  exact ⟨a, b, c, by simpa using q0, by simpa using q1, by simpa using q2, RowKit2.wf_i64 w0, RowKit2.wf_i64 w1, RowKit2.wf_i64 w2⟩


set_option maxRecDepth 100000 in
theorem contract (H : Type) (enc : TypeId × Value → H) (W : World) (base : Nat) (args : Array Value) (ds gs : List (DataW H)) (before : List MemPlace)
    (hval : ∀ (j : Nat) t v, Tryd.f14.params[j]? = some t → args[j]? = some v → Value.okWide Tryd.prog W .any base t v)
    (hW : DataW.Whole enc Tryd.prog Tryd.f14.params.toList Rows.xmlIdsSpec.vars false W args.toList ds gs before) (hk : Rows.uptoSmall H (ds ++ gs) = true) (hL : laidMetH Tryd.prog Rows.xmlIdsRow.laid W) (hsh : W.ShapedOpen Tryd.prog) :
    Calls Tryd.prog 14 args W fun e W' => ∃ v, e = .returned v ∧ Rows.xmlIdsSpec.post enc Tryd.prog Tryd.f14 false true false false W args v W' := by
  have hW' := hW
  obtain ⟨p, q, hA0, hV, rfl, hfz, hnd⟩ := hW
  have hA : DataW.TrodAll enc Tryd.prog W 0 (fun _ => true) true Tryd.f14.params.toList args.toList ds p := hA0
  rw [Tryd.params14] at hA hval
  obtain ⟨v0, vs0, d0, ds0, p0, q0, hargs, rfl, rfl, h0, r0⟩ := trodAll_cons hA
  obtain ⟨v1, vs1, d1, ds1, p1, q1, rfl, rfl, rfl, h1, r1⟩ := trodAll_cons r0
  obtain ⟨rfl, rfl, rfl⟩ := trodAll_nil r1
  obtain rfl : args = #[v0, v1] := by cases args; simp_all
  obtain ⟨rfl, rfl⟩ := trodVars_none hV
  have hbd := RowKit2.bound hk
  obtain ⟨cs, rfl, hsz⟩ := okWide_struct Tryd.underlying51 (hval 0 51 v0 rfl rfl)
  obtain ⟨x0, x1, x2, rfl⟩ := three (hsz.trans cId)
  obtain ⟨fuel, h0f⟩ := h0
  have h0g : DataW.trod enc Tryd.prog W 0 (fun _ => true) true fuel 51 [x0, x1, x2] = some (d0, p0) := h0f
  obtain ⟨a, b, c, rfl, rfl, rfl, ha, hb, hc⟩ := open_id h0g
  obtain ⟨s1, rfl⟩ := okWide_string Tryd.underlying9 (hval 1 9 v1 rfl rfl)
  obtain ⟨n1, h1⟩ := h1
  obtain ⟨s1', e1, hx, _⟩ := DataW.trod_string Tryd.underlying9 h1
  simp only [Prod.mk.injEq] at hx
  obtain ⟨rfl, rfl⟩ := hx
  obtain rfl : s1 = s1' := by simpa [Value.cells] using e1
  simp only [List.append_nil, Rows.uptoBulkAll, RowKit2.bulk_string] at hbd
  have hcall := IdG.ids a b c s1.data.toList W ha hb hc (by omega) (mx hsh) (ne hL) (tab hL)
  rw [Com.mk_data] at hcall
  refine hcall.mono fun e W' ⟨he, hb⟩ => ?_
  exact RowKit2.law_post rfl (by kernel_rfl) (by kernel_rfl) rfl hW' he hb

theorem door_met (os : Os) (args : Array Value) : laidMetH Tryd.prog Rows.xmlIdsUptoRow.laid ((w0 os).forCall (fun _ _ => 0) ⟨#[], args, []⟩).memory :=
  w0_met os args
theorem reads (os : Os) {H : Type} (enc : TypeId × Value → H) : ∃ places, DataW.whole enc Tryd.prog ((w0 os).forCall (fun _ _ => 0) ⟨#[], #[.agg #[.int .i64 0, .int .i64 0, .int .i64 0], .string ⟨#[]⟩], []⟩).memory Tryd.f14.params.toList Rows.xmlIdsSpec.vars false #[.agg #[.int .i64 0, .int .i64 0, .int .i64 0], .string ⟨#[]⟩].toList 8 = some ([.agg [.lit (.int .i64 0), .lit (.int .i64 0), .lit (.int .i64 0)], .lit (.string [])], [], places) :=
  ⟨[], by kernel_rfl⟩

set_option maxRecDepth 100000 in
theorem lifted (os : Os) (started : os.Started) (H : Type) (enc : TypeId × Value → H) (F : Stop.Interp) :
    ReturnsInHanded {} Tryd.checked os 14 .any ((Rows.OpenSpec.upto Rows.xmlIdsSpec).preRow enc Tryd.prog Tryd.f14 Rows.xmlIdsUptoRow.domain false Rows.xmlIdsUptoRow.laid) (((Rows.OpenSpec.upto Rows.xmlIdsSpec).at F).post enc Tryd.prog Tryd.f14 false true false false) := by
  obtain ⟨places, hx⟩ := reads os enc
  refine returnsInHanded_of_row (C := Tryd.checked) (s := Rows.OpenSpec.upto Rows.xmlIdsSpec) RowKit2.own started (by kernel_rfl) Tryd.func14
    (witness_row_atRef (enc := enc) (C := Tryd.checked) false (w0 os) #[.agg #[.int .i64 0, .int .i64 0, .int .i64 0], .string ⟨#[]⟩] (w0_os os) (by kernel_rfl) (by kernel_rfl) (by kernel_rfl)
      (OpenSpec.preRow_of_cond 8 hx (by kernel_rfl) (fun k hk => by cases hk; kernel_rfl) (by kernel_rfl) (door_met os _))) ?_
  intro W base args ds gs before hval hW _ hcond hz hL hsh _
  exact contract H enc W base args ds gs before hval hW (hcond _ rfl) hL hsh

theorem said : Rows.XmlIdsUptoSaid :=
  OpenClaim.holds_of_cond 14 Tryd.f14 rfl rfl rfl rfl rfl rfl rfl ⟨rfl, rfl, rfl, rfl, rfl⟩ rfl rfl rfl rfl rfl (by kernel_rfl) Tryd.func14 (by kernel_rfl)
    (of_decide_eq_true (by kernel_rfl)) (by unfold Func.isWrapper; first | (rw [if_pos (by decide +kernel)]; kernel_rfl) | (rw [if_neg (by decide +kernel)]; exact ⟨rfl, rfl⟩))
    (fun os started H enc _ F => by rw [OpenClaim.pre_eq_preRow]; exact lifted os started H enc F)

theorem plain (f : FuncId) (fn : Func) (hf : Tryd.pinned.checked.prog.funcNamed "bollard/bollardlaw19.XmlIds" = some f) (hfn : Tryd.pinned.checked.prog.funcs[f]? = some fn) :
    Rows.xmlIdsUptoCard.stood.looks = Tryd.pinned.checked.prog.looks [] ∧ ∀ (j : Nat) t, fn.params[j]? = some t → Tryd.pinned.checked.prog.wantsStandIn t = false := by
  obtain rfl : f = 14 := Option.some.inj ((show Tryd.prog.funcNamed "bollard/bollardlaw19.XmlIds" = some 14 by kernel_rfl).symm.trans hf) |>.symm
  obtain rfl : fn = Tryd.f14 := (Option.some.inj (Tryd.func14.symm.trans hfn)).symm
  refine ⟨by kernel_rfl, fun j t ht => ?_⟩
  rw [Tryd.params14] at ht
  have hm : t ∈ [51, 9] := by simpa using Array.mem_of_getElem? ht
  have hall : ([51, 9].all fun u => !Tryd.prog.wantsStandIn u) = true := by kernel_rfl
  exact (show Tryd.prog.wantsStandIn t = false by simpa using List.all_eq_true.1 hall t hm)

/-- ████ THE CARD ████ -/
theorem card : Rows.XmlIdsUptoCardSaid :=
  Claim7.holds_tied_plain_at .later [] _ _ _ _ said (fun _ h => by cases h) (by kernel_rfl) (fun _ h => by cases h) xmlIdsUpto_row_tie rfl ⟨rfl, rfl⟩ (by kernel_rfl) rfl plain (by kernel_rfl)
#print axioms card

end Go.Proofs.YtmimkgfkicgfiaaDoor.xmlIds
