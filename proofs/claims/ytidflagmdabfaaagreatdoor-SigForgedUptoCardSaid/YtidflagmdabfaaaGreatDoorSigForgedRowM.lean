/-
  The law bollardlaw18.SigForged answers true for all that is signed. Conditions: what it reads is of bulk at most 1048576 (the given second form); the listed variables are as start-up lays them (the card ties them).
-/
import Derived.Test.YtidflagmdabfaaaGreatDoorFo05
namespace Go.Proofs.YtidflagmdabfaaaGreatDoor.sigForged
open Go.ChangeShapes Go.WideShapes Go.ChangeAt Go.RowKit Go.Proofs.YtidflagmdabfaaaGreatDoor

theorem env2 {W : World} (hl : laidMetH Tryz.prog Rows.sigTwiceRow.laid W) (hs : W.ShapedOpen Tryz.prog) : ∃ aU aR aD aK, SgB.Env W aU aR aD aK ∧ (∃ c t, W.heap[aR.block]? = some (.cells c t (0, 0))) ∧ (∃ c t, W.heap[aD.block]? = some (.cells c t (0, 0))) := by
  have ht := SgR.tab hl
  rw [MakeChecks.laidMetH_plain _ _ _ (by kernel_rfl)] at hl
  obtain ⟨r4, h4⟩ := SgR.laid_at 4 _ _ hl rfl
  obtain ⟨r5, h5⟩ := SgR.laid_at 5 _ _ hl rfl
  obtain ⟨r6, h6⟩ := SgR.laid_at 6 _ _ hl rfl
  obtain ⟨r7, h7⟩ := SgR.laid_at 7 _ _ hl rfl
  obtain ⟨aR, k4⟩ := SgR.laid_sentinel2 (g := 12) h4 (by kernel_rfl) (by kernel_rfl)
  obtain ⟨aU, k5⟩ := SgR.laid_sentinel2 (g := 13) h5 (by kernel_rfl) (by kernel_rfl)
  obtain ⟨aD, k6⟩ := SgR.laid_sentinel2 (g := 14) h6 (by kernel_rfl) (by kernel_rfl)
  obtain ⟨aK, k7⟩ := SgR.laid_sentinel2 (g := 15) h7 (by kernel_rfl) (by kernel_rfl)
  exact ⟨aU, aR, aD, aK, ⟨k5.cell, k4.cell, k6.cell, k7.cell, SgR.mx hs, ht⟩, k4.block, k6.block⟩

set_option maxRecDepth 100000 in
theorem contract (H : Type) (enc : TypeId × Value → H) (W : World) (base : Nat) (args : Array Value) (ds gs : List (DataW H)) (before : List MemPlace)
    (hval : ∀ (j : Nat) t v, Tryz.f11.params[j]? = some t → args[j]? = some v → Value.okWide Tryz.prog W .any base t v)
    (hW : DataW.Whole enc Tryz.prog Tryz.f11.params.toList Rows.sigForgedSpec.vars false W args.toList ds gs before) (hk : Rows.uptoSmall H (ds ++ gs) = true) (hL : laidMetH Tryz.prog Rows.sigTwiceRow.laid W) (hsh : W.ShapedOpen Tryz.prog) :
    Calls Tryz.prog 11 args W fun e W' => ∃ v, e = .returned v ∧ Rows.sigForgedSpec.post enc Tryz.prog Tryz.f11 false true false false W args v W' := by
  have hW' := hW
  obtain ⟨p, q, hA0, hV, rfl, hfz, hnd⟩ := hW
  have hA : DataW.TrodAll enc Tryz.prog W 0 (fun _ => true) true Tryz.f11.params.toList args.toList ds p := hA0
  rw [Tryz.params11] at hA hval
  obtain ⟨v0, vs0, d0, ds0, p0, q0, hargs, rfl, rfl, h0, r0⟩ := trodAll_cons hA
  obtain ⟨rfl, rfl, rfl⟩ := trodAll_nil r0
  obtain rfl : args = #[v0] := by cases args; simp_all
  obtain ⟨rfl, rfl⟩ := trodVars_none hV
  have hbd := RowKit2.bound hk
  obtain ⟨cs, rfl, hsz⟩ := okWide_struct Tryz.underlying87 (hval 0 87 v0 rfl rfl)
  obtain ⟨x0, x1, x2, x3, x4, x5, x6, x7, x8, rfl⟩ := SgR.nine (hsz.trans SgR.cSigned)
  obtain ⟨fuel, h0f⟩ := h0
  have h0g : DataW.trod enc Tryz.prog W 0 (fun _ => true) true fuel 87 [x0, x1, x2, x3, x4, x5, x6, x7, x8] = some (d0, p0) := h0f
  obtain ⟨m, t, n, s, o, date, off, a, fs, c, ab, bd, cb, rfl, rfl, rfl, rfl, rfl, rfl, rfl, rfl, rfl, b1, b2, b3, b4, b5, b6, b7, hF, b8, b9, hB, b10⟩ := SgR.open_signed h0g
  simp only [List.append_nil, Rows.uptoBulkAll] at hbd b1 b2 b3 b4 b5 b8 b9 b10
  obtain ⟨aU, aR, aD, aK, hE, hbR, hbD⟩ := env2 hL hsh
  have hcall := SgV.forged m.data.toList t.data.toList bd n.data.toList s.data.toList o.data.toList fs c cb date off W hE (SgR.ne hL) hF hB
    (by rw [Com.toList_length]; omega) (by rw [Com.toList_length]; omega) (by rw [Com.toList_length]; omega) (by rw [Com.toList_length]; omega) (by omega) (by omega) (fun q hq => by have := (b9 q hq).2; omega) b6.1 b6.2 (by rw [Com.toList_length]; omega) hbR hbD
  simp only [Com.mk_data] at hcall
  refine hcall.mono fun e W' ⟨he, hb⟩ => ?_
  exact RowKit2.law_post rfl (by kernel_rfl) (by kernel_rfl) rfl hW' he hb

theorem door_met (os : Os) (args : Array Value) : laidMetH Tryz.prog Rows.sigForgedUptoRow.laid ((SgR.w0 os).forCall (fun _ _ => 0) ⟨#[], args, []⟩).memory :=
  SgR.w0_met os args
theorem reads (os : Os) {H : Type} (enc : TypeId × Value → H) : ∃ places, DataW.whole enc Tryz.prog ((SgR.w0 os).forCall (fun _ _ => 0) ⟨#[], #[.agg #[.string ⟨#[]⟩, .string ⟨#[]⟩, .slice none 0 0, .slice none 0 0, .string ⟨#[]⟩, .string ⟨#[]⟩, .int .i64 0, .int .i64 0, .string ⟨#[]⟩]], []⟩).memory Tryz.f11.params.toList Rows.sigForgedSpec.vars false #[.agg #[.string ⟨#[]⟩, .string ⟨#[]⟩, .slice none 0 0, .slice none 0 0, .string ⟨#[]⟩, .string ⟨#[]⟩, .int .i64 0, .int .i64 0, .string ⟨#[]⟩]].toList 8 = some ([.agg [.agg [.lit (.string []), .lit (.string []), .nil, .nil], .agg [.lit (.string []), .lit (.string [])], .lit (.int .i64 0), .lit (.int .i64 0), .lit (.string [])]], [], places) :=
  ⟨[], by kernel_rfl⟩

set_option maxRecDepth 100000 in
theorem lifted (os : Os) (started : os.Started) (H : Type) (enc : TypeId × Value → H) (F : Stop.Interp) :
    ReturnsInHanded {} Tryz.checked os 11 .any ((Rows.OpenSpec.upto Rows.sigForgedSpec).preRow enc Tryz.prog Tryz.f11 Rows.sigForgedUptoRow.domain false Rows.sigForgedUptoRow.laid) (((Rows.OpenSpec.upto Rows.sigForgedSpec).at F).post enc Tryz.prog Tryz.f11 false true false false) := by
  obtain ⟨places, hx⟩ := reads os enc
  refine returnsInHanded_of_row (C := Tryz.checked) (s := Rows.OpenSpec.upto Rows.sigForgedSpec) RowKit2.own started (by kernel_rfl) Tryz.func11
    (witness_row_atRef (enc := enc) (C := Tryz.checked) false (SgR.w0 os) #[.agg #[.string ⟨#[]⟩, .string ⟨#[]⟩, .slice none 0 0, .slice none 0 0, .string ⟨#[]⟩, .string ⟨#[]⟩, .int .i64 0, .int .i64 0, .string ⟨#[]⟩]] (SgR.w0_os os) (by kernel_rfl) (by kernel_rfl) (by kernel_rfl)
      (OpenSpec.preRow_of_cond 8 hx (by kernel_rfl) (fun k hk => by cases hk; kernel_rfl) (by kernel_rfl) (door_met os _))) ?_
  intro W base args ds gs before hval hW _ hcond hz hL hsh _
  exact contract H enc W base args ds gs before hval hW (hcond _ rfl) hL hsh

theorem fact_inPlace : (Rows.sigForgedUptoRow.inPlace == Tryz.pinned.checked.prog.inPlace 11) = true := by kernel_rfl
theorem fact_unfollowed : (Rows.sigForgedUptoRow.unfollowed == Tryz.pinned.checked.prog.unfollowed 11) = true := by kernel_rfl
theorem fact_recurses : (Rows.sigForgedUptoRow.recurses == Tryz.pinned.checked.prog.recurses 11) = true := by kernel_rfl
theorem fact_named : (Rows.sigForgedUptoRow.named == Tryz.pinned.checked.prog.varsNamed 11) = true := by kernel_rfl
theorem closed : joinedFacts Tryz.pinned.checked.prog 11 Tryz.f11 (Rows.OpenSpec.upto Rows.sigForgedSpec).bare Rows.sigForgedUptoRow = true := by
  unfold joinedFacts
  rw [fact_inPlace, fact_unfollowed, fact_recurses, fact_named]
  kernel_rfl
theorem said : Rows.SigForgedUptoSaid :=
  OpenClaim.holds_of_cond 11 Tryz.f11 rfl rfl rfl rfl rfl rfl rfl ⟨rfl, rfl, rfl, rfl, rfl⟩ rfl rfl rfl rfl rfl (by kernel_rfl) Tryz.func11 closed
    (of_decide_eq_true (by kernel_rfl)) (by unfold Func.isWrapper; first | (rw [if_pos (by decide +kernel)]; kernel_rfl) | (rw [if_neg (by decide +kernel)]; exact ⟨rfl, rfl⟩))
    (fun os started H enc _ F => by rw [OpenClaim.pre_eq_preRow]; exact lifted os started H enc F)

theorem plain (f : FuncId) (fn : Func) (hf : Tryz.pinned.checked.prog.funcNamed "bollard/bollardlaw18.SigForged" = some f) (hfn : Tryz.pinned.checked.prog.funcs[f]? = some fn) :
    Rows.sigForgedUptoCard.stood.looks = Tryz.pinned.checked.prog.looks [] ∧ ∀ (j : Nat) t, fn.params[j]? = some t → Tryz.pinned.checked.prog.wantsStandIn t = false := by
  obtain rfl : f = 11 := Option.some.inj ((show Tryz.prog.funcNamed "bollard/bollardlaw18.SigForged" = some 11 by kernel_rfl).symm.trans hf) |>.symm
  obtain rfl : fn = Tryz.f11 := (Option.some.inj (Tryz.func11.symm.trans hfn)).symm
  refine ⟨by kernel_rfl, fun j t ht => ?_⟩
  rw [Tryz.params11] at ht
  have hm : t ∈ [87] := by simpa using Array.mem_of_getElem? ht
  have hall : ([87].all fun u => !Tryz.prog.wantsStandIn u) = true := by kernel_rfl
  exact (show Tryz.prog.wantsStandIn t = false by simpa using List.all_eq_true.1 hall t hm)

/-- ████ THE CARD ████ -/
theorem card : Rows.SigForgedUptoCardSaid :=
  Claim7.holds_tied_plain_at .later [] _ _ _ _ said (fun _ h => by cases h) (by kernel_rfl) (fun _ h => by cases h) sigForgedUpto_row_tie rfl ⟨rfl, rfl⟩ (by kernel_rfl) rfl plain (by kernel_rfl)
#print axioms card
