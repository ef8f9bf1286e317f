/-
  The law bollardlaw19.XmlDocuments answers true for every catalog, page and upload. Conditions: what it reads is of bulk at most 1048576 (the given second form); the listed variables of the library are as start-up lays them (the card ties them).
-/
import Derived.Test.YtmimkgfkicgfiaaDoorRowKit
import Derived.Test.YtmimkgfkicgfiaaDoorDocOpen
import Derived.Test.YtmimkgfkicgfiaaDoorCards
import Derived.Test.YtmimkgfkicgfiaaDoorTie
import Derived.Deep.DeepHandedRow
import Derived.Stop.LaidErr
import Derived.Deep.DeepWitnessRowRef
import Derived.LaidMore
import Derived.Lib.LaidTab
namespace Go.Proofs.YtmimkgfkicgfiaaDoor.xmlDocuments
open Go.ChangeShapes Go.WideShapes Go.ChangeAt Go.RowKit Go.Proofs.YtmimkgfkicgfiaaDoor
open Go.ChangeMaps (open_string shut_string)

theorem tabType : (Tryd.prog.globals[23]?).map (·.type) = some 230 := by kernel_rfl
theorem cellsTab : Tryd.prog.cellsOf 230 = 20 := by kernel_rfl
theorem cellsU64 : Tryd.prog.cellsOf 189 = 1 := by kernel_rfl

theorem tab {W : World} (h : laidMetH Tryd.prog Rows.xmlDocumentsRow.laid W) : XmlH.Tab W := by
  rw [MakeChecks.laidMetH_plain _ _ _ (by kernel_rfl)] at h
  refine Lib.tabIs_of_head (rest := []) XmlH.tabNum tabType Tryd.underlying230 Tryd.underlying189 cellsU64 cellsTab ?_
  exact laidMet.tail (laidMet.tail h)

theorem five {l : Array Value} (h : l.size = 5) : ∃ a b c d e, l = #[a, b, c, d, e] := by
  obtain ⟨l⟩ := l
  match l, h with
  | [a, b, c, d, e], _ => exact ⟨a, b, c, d, e, rfl⟩

set_option maxRecDepth 100000 in
theorem contract (H : Type) (enc : TypeId × Value → H) (W : World) (base : Nat) (args : Array Value) (ds gs : List (DataW H)) (before : List MemPlace)
    (hval : ∀ (j : Nat) t v, Tryd.f6.params[j]? = some t → args[j]? = some v → Value.okWide Tryd.prog W .any base t v)
    (hW : DataW.Whole enc Tryd.prog Tryd.f6.params.toList Rows.xmlDocumentsSpec.vars false W args.toList ds gs before) (hk : Rows.uptoSmall H (ds ++ gs) = true) (hL : laidMetH Tryd.prog Rows.xmlDocumentsRow.laid W) (_hsh : W.ShapedOpen Tryd.prog) :
    Calls Tryd.prog 6 args W fun e W' => ∃ v, e = .returned v ∧ Rows.xmlDocumentsSpec.post enc Tryd.prog Tryd.f6 false true false false W args v W' := by
  have hW' := hW
  have hlt : ∀ x ∈ before, x.block < W.heap.size := fun x hx => hW'.lt x hx
  obtain ⟨p, q, hA0, hV, rfl, hfz, hnd⟩ := hW
  have hA : DataW.TrodAll enc Tryd.prog W 0 (fun _ => true) true Tryd.f6.params.toList args.toList ds p := hA0
  rw [Tryd.params6] at hA hval
  obtain ⟨v0, vs0, d0, ds0, p0, q0, hargs, rfl, rfl, h0, r0⟩ := trodAll_cons hA
  obtain ⟨v1, vs1, d1, ds1, p1, q1, rfl, rfl, rfl, h1, r1⟩ := trodAll_cons r0
  obtain ⟨v2, vs2, d2, ds2, p2, q2, rfl, rfl, rfl, h2, r2⟩ := trodAll_cons r1
  obtain ⟨rfl, rfl, rfl⟩ := trodAll_nil r2
  obtain rfl : args = #[v0, v1, v2] := by cases args; simp_all
  obtain ⟨rfl, rfl⟩ := trodVars_none hV
  have hbd := RowKit2.bound hk
  obtain ⟨c0, c1, y0, y1, m, rfl, rfl, rfl, hy0, hy1⟩ := Go.Joins.open_agg2 Tryd.underlying49 (by kernel_rfl) (by kernel_rfl) (hval 0 49 v0 rfl rfl) h0
  obtain ⟨e0, e1, z0, z1, m1, rfl, rfl, rfl, hz0, hz1⟩ := Go.Joins.open_agg2 Tryd.underlying40 (by kernel_rfl) (by kernel_rfl) (hval 1 40 v1 rfl rfl) h1
  obtain ⟨cs, rfl, hsz⟩ := okWide_struct Tryd.underlying54 (hval 2 54 v2 rfl rfl)
  obtain ⟨x0, x1, x2, x3, x4, rfl⟩ := five (hsz.trans DocOpen.cUpload)
  obtain ⟨fuel, h2f⟩ := h2
  have h2g : DataW.trod enc Tryd.prog W 0 (fun _ => true) true fuel 54 [x0, x1, x2, x3, x4] = some (d2, p2) := h2f
  obtain ⟨ys, k, hyd, hyp, _, hf⟩ := DocOpen.struct_at Tryd.underlying54 h2g
  obtain ⟨u0, _, s0⟩ := hf 0 _ rfl
  obtain ⟨u1, g1, s1⟩ := hf 1 _ rfl
  obtain ⟨u2, g2, s2⟩ := hf 2 _ rfl
  have s0' : DataW.trod enc Tryd.prog W 0 (fun _ => true) true k 51 (([x0, x1, x2, x3, x4].drop 0).take (Tryd.prog.cellsOf 51)) = some u0 := s0
  have s1' : DataW.trod enc Tryd.prog W 0 (fun _ => true) true k 9 (([x0, x1, x2, x3, x4].drop 3).take (Tryd.prog.cellsOf 9)) = some u1 := s1
  have s2' : DataW.trod enc Tryd.prog W 0 (fun _ => true) true k 52 (([x0, x1, x2, x3, x4].drop 4).take (Tryd.prog.cellsOf 52)) = some u2 := s2
  rw [DocOpen.cId] at s0'
  rw [DocOpen.cStr] at s1'
  rw [DocOpen.cParts] at s2'
  have s0'' : DataW.trod enc Tryd.prog W 0 (fun _ => true) true k 51 [x0, x1, x2] = some u0 := s0'
  have s2'' : DataW.trod enc Tryd.prog W 0 (fun _ => true) true k 52 [x4] = some u2 := s2'
  obtain ⟨a, b, c, rfl, rfl, rfl, ha, hb, hc⟩ := DocOpen.open_id s0''
  obtain ⟨key, qk, hkd, _⟩ := DataW.trod_string Tryd.underlying9 s1'
  obtain rfl : x3 = .string key := by simpa using qk
  obtain ⟨A, al, ac, rfl⟩ := DocOpen.slice_of Tryd.underlying52 s2''
  have b1 := DocOpen.bulk_of g1
  have b2 := DocOpen.bulk_of g2
  rw [hkd, RowKit2.bulk_string, Com.toList_length] at b1
  have hyd' : d2 = .agg (ys.map (·.1)) := hyd
  rw [hyd'] at hbd
  simp only [List.append_nil, Rows.uptoBulkAll, Rows.uptoBulk] at hbd
  obtain ⟨next, en, hnx, _⟩ := DataW.trod_string Tryd.underlying9 hz1
  obtain rfl : e1 = .string next := by simpa using en
  rw [hnx, RowKit2.bulk_string, Com.toList_length] at hbd
  obtain ⟨ba, bl, bc, rfl⟩ := DocOpen.slice_of Tryd.underlying46 hy0
  obtain ⟨fa, fl, fc, rfl⟩ := DocOpen.slice_of Tryd.underlying47 hy1
  obtain ⟨ea, el, ec, rfl⟩ := DocOpen.slice_of Tryd.underlying38 hz0
  obtain ⟨bs, rfl, hbs, hbf, hbn⟩ := DocOpen.open_bks hy0 (by omega)
  obtain ⟨es, rfl, hes, hef, hen⟩ := DocOpen.open_ents hz0 (fun x hx => hlt x (by simp [hx])) (by omega)
  obtain ⟨ps, rfl, hps, hpf, hpn⟩ := DocOpen.open_pts s2'' (by omega)
  refine (XmlR.documents ba fa ea A bc fl fc ec ac bs es next key a b c ps W hbn hbf hbs hen hef hes (by omega) ha hb hc (by omega) hpn hpf hps (tab hL)).mono fun e W' ⟨he, hb⟩ => ?_
  exact RowKit2.law_post rfl (by kernel_rfl) (by kernel_rfl) rfl hW' he hb

theorem door_met (os : Os) (args : Array Value) : laidMetH Tryd.prog Rows.xmlDocumentsUptoRow.laid ((World.doorLaid Tryd.prog 414 os).forCall (fun _ _ => 0) ⟨#[], args, []⟩).memory :=
  laidMetH_of_parts3 (fuel := 8) (laidMet_of_run' 8 (by kernel_rfl) (by kernel_rfl)) (by kernel_rfl) (by kernel_rfl)
theorem reads (os : Os) {H : Type} (enc : TypeId × Value → H) : ∃ places, DataW.whole enc Tryd.prog ((World.doorLaid Tryd.prog 414 os).forCall (fun _ _ => 0) ⟨#[], #[.agg #[.slice none 0 0, .slice none 0 0], .agg #[.slice none 0 0, .string ⟨#[]⟩], .agg #[.int .i64 0, .int .i64 0, .int .i64 0, .string ⟨#[]⟩, .slice none 0 0]], []⟩).memory Tryd.f6.params.toList Rows.xmlDocumentsSpec.vars false #[.agg #[.slice none 0 0, .slice none 0 0], .agg #[.slice none 0 0, .string ⟨#[]⟩], .agg #[.int .i64 0, .int .i64 0, .int .i64 0, .string ⟨#[]⟩, .slice none 0 0]].toList 8 = some ([.agg [.nil, .nil], .agg [.nil, .lit (.string [])], .agg [.agg [.lit (.int .i64 0), .lit (.int .i64 0), .lit (.int .i64 0)], .lit (.string []), .nil]], [], places) :=
  ⟨[], by kernel_rfl⟩

set_option maxRecDepth 100000 in
theorem lifted (os : Os) (started : os.Started) (H : Type) (enc : TypeId × Value → H) (F : Stop.Interp) :
    ReturnsInHanded {} Tryd.checked os 6 .any ((Rows.OpenSpec.upto Rows.xmlDocumentsSpec).preRow enc Tryd.prog Tryd.f6 Rows.xmlDocumentsUptoRow.domain false Rows.xmlDocumentsUptoRow.laid) (((Rows.OpenSpec.upto Rows.xmlDocumentsSpec).at F).post enc Tryd.prog Tryd.f6 false true false false) := by
  obtain ⟨places, hx⟩ := reads os enc
  refine returnsInHanded_of_row (C := Tryd.checked) (s := Rows.OpenSpec.upto Rows.xmlDocumentsSpec) RowKit2.own started (by kernel_rfl) Tryd.func6
    (witness_row_atRef (enc := enc) (C := Tryd.checked) false (World.doorLaid Tryd.prog 414 os) #[.agg #[.slice none 0 0, .slice none 0 0], .agg #[.slice none 0 0, .string ⟨#[]⟩], .agg #[.int .i64 0, .int .i64 0, .int .i64 0, .string ⟨#[]⟩, .slice none 0 0]] rfl (by kernel_rfl) (by kernel_rfl) (by kernel_rfl)
      (OpenSpec.preRow_of_cond 8 hx (by kernel_rfl) (fun k hk => by cases hk; kernel_rfl) (by kernel_rfl) (door_met os _))) ?_
  intro W base args ds gs before hval hW _ hcond hz hL hsh _
  exact contract H enc W base args ds gs before hval hW (hcond _ rfl) hL hsh

theorem said : Rows.XmlDocumentsUptoSaid :=
  OpenClaim.holds_of_cond 6 Tryd.f6 rfl rfl rfl rfl rfl rfl rfl ⟨rfl, rfl, rfl, rfl, rfl⟩ rfl rfl rfl rfl rfl (by kernel_rfl) Tryd.func6 (by kernel_rfl)
    (of_decide_eq_true (by kernel_rfl)) (by unfold Func.isWrapper; first | (rw [if_pos (by decide +kernel)]; kernel_rfl) | (rw [if_neg (by decide +kernel)]; exact ⟨rfl, rfl⟩))
    (fun os started H enc _ F => by rw [OpenClaim.pre_eq_preRow]; exact lifted os started H enc F)

theorem plain (f : FuncId) (fn : Func) (hf : Tryd.pinned.checked.prog.funcNamed "bollard/bollardlaw19.XmlDocuments" = some f) (hfn : Tryd.pinned.checked.prog.funcs[f]? = some fn) :
    Rows.xmlDocumentsUptoCard.stood.looks = Tryd.pinned.checked.prog.looks [] ∧ ∀ (j : Nat) t, fn.params[j]? = some t → Tryd.pinned.checked.prog.wantsStandIn t = false := by
  obtain rfl : f = 6 := Option.some.inj ((show Tryd.prog.funcNamed "bollard/bollardlaw19.XmlDocuments" = some 6 by kernel_rfl).symm.trans hf) |>.symm
  obtain rfl : fn = Tryd.f6 := (Option.some.inj (Tryd.func6.symm.trans hfn)).symm
  refine ⟨by kernel_rfl, fun j t ht => ?_⟩
  rw [Tryd.params6] at ht
  have hm : t ∈ [49, 40, 54] := by simpa using Array.mem_of_getElem? ht
  have hall : ([49, 40, 54].all fun u => !Tryd.prog.wantsStandIn u) = true := by kernel_rfl
  exact (show Tryd.prog.wantsStandIn t = false by simpa using List.all_eq_true.1 hall t hm)

/-- ████ THE CARD ████ -/
theorem card : Rows.XmlDocumentsUptoCardSaid :=
  Claim7.holds_tied_plain_at .later [] _ _ _ _ said (fun _ h => by cases h) (by kernel_rfl) (fun _ h => by cases h) xmlDocumentsUpto_row_tie rfl ⟨rfl, rfl⟩ (by kernel_rfl) rfl plain (by kernel_rfl)
#print axioms card

end Go.Proofs.YtmimkgfkicgfiaaDoor.xmlDocuments
