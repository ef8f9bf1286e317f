/-
  The law bollardlaw08.ShelfCuts answers true for every Over. Conditions: the listed variables are as start-up lays them (the card ties them).
-/
import Derived.Test.YtecnnlppinhmgaaGreatDoorSh04
import Derived.Test.YtecnnlppinhmgaaGreatDoorCu01
namespace Go.Proofs.YtecnnlppinhmgaaGreatDoor.shelfCuts
open Go.ChangeShapes Go.WideShapes Go.ChangeAt Go.RowKit Go.Proofs.YtecnnlppinhmgaaGreatDoor

set_option maxHeartbeats 1000000 in
set_option maxRecDepth 100000 in
theorem contract (H : Type) (enc : TypeId × Value → H) (W : World) (base : Nat) (args : Array Value) (ds gs : List (DataW H)) (before : List MemPlace)
    (hval : ∀ (j : Nat) t v, Tryz.f5.params[j]? = some t → args[j]? = some v → Value.okWide Tryz.prog W .any base t v)
    (hW : DataW.Whole enc Tryz.prog Tryz.f5.params.toList Rows.shelfCutsSpec.vars false W args.toList ds gs before) (_hz : (DataW.weightsEach Tryz.prog (Tryz.f5.params.toList ++ (OpenSpec.ofChange Rows.shelfCutsSpec).bare.plain.varTypes Tryz.prog) (ds ++ gs)).all (· ≤ reachBytes) = true) (hL : laidMetH Tryz.prog Rows.shelfCutsRow.laid W) (hsh : W.ShapedOpen Tryz.prog) :
    Calls Tryz.prog 5 args W fun e W' => ∃ v, e = .returned v ∧ Rows.shelfCutsSpec.post enc Tryz.prog Tryz.f5 false true false false W args v W' := by
  have hW' := hW
  obtain ⟨p, q, hA0, hV, rfl, hfz, hnd⟩ := hW
  have hA : DataW.TrodAll enc Tryz.prog W 0 (fun _ => true) true Tryz.f5.params.toList args.toList ds p := hA0
  rw [Tryz.params5] at hA hval
  obtain ⟨v0, vs0, d0, ds0, p0, q0, hargs, rfl, rfl, h0, r0⟩ := trodAll_cons hA
  obtain ⟨rfl, rfl, rfl⟩ := trodAll_nil r0
  obtain rfl : args = #[v0] := by cases args; simp_all
  obtain ⟨rfl, rfl⟩ := trodVars_none hV
  obtain ⟨cs, rfl, hsz⟩ := okWide_struct Tryz.underlying47 (hval 0 47 v0 rfl rfl)
  obtain ⟨x0, x1, x2, x3, x4, x5, rfl⟩ := SfQ.six (hsz.trans SfQ.cOver)
  obtain ⟨n0, h0f⟩ := h0
  have h0g : DataW.trod enc Tryz.prog W 0 (fun _ => true) true n0 47 [x0, x1, x2, x3, x4, x5] = some (d0, p0) := h0f
  obtain ⟨ys, k, _, _, _, hf⟩ := SfR.struct_at Tryz.underlying47 h0g
  obtain ⟨z0, _, s0⟩ := hf 0 _ rfl
  obtain ⟨z1, _, s1⟩ := hf 1 _ rfl
  obtain ⟨z2, _, s2⟩ := hf 2 _ rfl
  obtain ⟨z3, _, s3⟩ := hf 3 _ rfl
  have s0 : DataW.trod enc Tryz.prog W 0 (fun _ => true) true k 23 (([x0, x1, x2, x3, x4, x5].drop 0).take (Tryz.prog.cellsOf 23)) = some z0 := s0
  rw [SfR.cId] at s0
  have s1 : DataW.trod enc Tryz.prog W 0 (fun _ => true) true k 24 (([x0, x1, x2, x3, x4, x5].drop 3).take (Tryz.prog.cellsOf 24)) = some z1 := s1
  rw [SfR.cBs] at s1
  have s2 : DataW.trod enc Tryz.prog W 0 (fun _ => true) true k 24 (([x0, x1, x2, x3, x4, x5].drop 4).take (Tryz.prog.cellsOf 24)) = some z2 := s2
  rw [SfR.cBs] at s2
  have s3 : DataW.trod enc Tryz.prog W 0 (fun _ => true) true k 4 (([x0, x1, x2, x3, x4, x5].drop 5).take (Tryz.prog.cellsOf 4)) = some z3 := s3
  rw [SfQ.cBool] at s3
  have s0 : DataW.trod enc Tryz.prog W 0 (fun _ => true) true k 23 [x0, x1, x2] = some z0 := s0
  have s1 : DataW.trod enc Tryz.prog W 0 (fun _ => true) true k 24 [x3] = some z1 := s1
  have s2 : DataW.trod enc Tryz.prog W 0 (fun _ => true) true k 24 [x4] = some z2 := s2
  have s3 : DataW.trod enc Tryz.prog W 0 (fun _ => true) true k 4 [x5] = some z3 := s3
  obtain ⟨a, b, c, rfl, rfl, rfl, _, _, _⟩ := SfR.open_id s0
  obtain ⟨a1, l1, c1, rfl, hb1, _, _, _⟩ := SfR.open_bytes s1
  obtain ⟨a2, l2, c2, rfl, hb2, _, _, _⟩ := SfR.open_bytes s2
  obtain ⟨fl, e5, _⟩ := DataW.trod_bool Tryz.underlying4 s3
  obtain rfl : x5 = .bool fl := by simpa using e5
  obtain ⟨aL, aB, aD, aN, aF, aG, he⟩ := SfQ.env hL
  refine (SfO.cuts a b c l1 l2 c1 c2 fl W he (SfQ.mx hsh) hb1 hb2).mono fun e W' ⟨he, hb⟩ => ?_
  exact RowKit2.law_post rfl (by kernel_rfl) (by kernel_rfl) rfl hW' he hb

theorem door_met (os : Os) (args : Array Value) : laidMetH Tryz.prog Rows.shelfCutsRow.laid ((SfQ.w0 os).forCall (fun _ _ => 0) ⟨#[], args, []⟩).memory :=
  SfQ.w0_met os args
theorem reads (os : Os) {H : Type} (enc : TypeId × Value → H) : ∃ places, DataW.whole enc Tryz.prog ((SfQ.w0 os).forCall (fun _ _ => 0) ⟨#[], #[.agg #[.int .i64 0, .int .i64 0, .int .i64 0, .slice none 0 0, .slice none 0 0, .bool false]], []⟩).memory Tryz.f5.params.toList Rows.shelfCutsSpec.vars false #[.agg #[.int .i64 0, .int .i64 0, .int .i64 0, .slice none 0 0, .slice none 0 0, .bool false]].toList 8 = some ([.agg [.agg [.lit (.int .i64 0), .lit (.int .i64 0), .lit (.int .i64 0)], .nil, .nil, .lit (.bool false)]], [], places) :=
  ⟨[], by kernel_rfl⟩

set_option maxRecDepth 100000 in
theorem lifted (os : Os) (started : os.Started) (H : Type) (enc : TypeId × Value → H) (F : Stop.Interp) :
    ReturnsInHanded {} Tryz.checked os 5 .any ((OpenSpec.ofChange Rows.shelfCutsSpec).preRow enc Tryz.prog Tryz.f5 Rows.shelfCutsRow.domain false Rows.shelfCutsRow.laid) (((OpenSpec.ofChange Rows.shelfCutsSpec).at F).post enc Tryz.prog Tryz.f5 false true false false) := by
  obtain ⟨places, hx⟩ := reads os enc
  refine returnsInHanded_of_row (C := Tryz.checked) (s := OpenSpec.ofChange Rows.shelfCutsSpec) RowKit2.own started (by kernel_rfl) Tryz.func5
    (witness_row_atRef (enc := enc) (C := Tryz.checked) false (SfQ.w0 os) #[.agg #[.int .i64 0, .int .i64 0, .int .i64 0, .slice none 0 0, .slice none 0 0, .bool false]] (SfQ.w0_os os) (by kernel_rfl) (by kernel_rfl) (by kernel_rfl)
      (OpenSpec.preRow_of_cond 8 hx (by kernel_rfl) (fun k hk => by cases hk) (by kernel_rfl) (door_met os _))) ?_
  intro W base args ds gs before hval hW _ hcond hz hL hsh _
  exact contract H enc W base args ds gs before hval hW hz hL hsh

theorem fact_inPlace : (Rows.shelfCutsRow.inPlace == Tryz.pinned.checked.prog.inPlace 5) = true := by kernel_rfl
theorem fact_unfollowed : (Rows.shelfCutsRow.unfollowed == Tryz.pinned.checked.prog.unfollowed 5) = true := by kernel_rfl
theorem fact_recurses : (Rows.shelfCutsRow.recurses == Tryz.pinned.checked.prog.recurses 5) = true := by kernel_rfl
theorem fact_named : (Rows.shelfCutsRow.named == Tryz.pinned.checked.prog.varsNamed 5) = true := by kernel_rfl
theorem closed : joinedFacts Tryz.pinned.checked.prog 5 Tryz.f5 (OpenSpec.ofChange Rows.shelfCutsSpec).bare Rows.shelfCutsRow = true := by
  unfold joinedFacts
  rw [fact_inPlace, fact_unfollowed, fact_recurses, fact_named]
  kernel_rfl
theorem said : Rows.ShelfCutsSaid :=
  OpenClaim.holds_of_cond 5 Tryz.f5 rfl rfl rfl rfl rfl rfl rfl ⟨rfl, rfl, rfl, rfl, rfl⟩ rfl rfl rfl rfl rfl (by kernel_rfl) Tryz.func5 closed
    (of_decide_eq_true (by kernel_rfl)) (by unfold Func.isWrapper; first | (rw [if_pos (by decide +kernel)]; kernel_rfl) | (rw [if_neg (by decide +kernel)]; exact ⟨rfl, rfl⟩))
    (fun os started H enc _ F => by rw [OpenClaim.pre_eq_preRow]; exact lifted os started H enc F)

theorem plain (f : FuncId) (fn : Func) (hf : Tryz.pinned.checked.prog.funcNamed "bollard/bollardlaw08.ShelfCuts" = some f) (hfn : Tryz.pinned.checked.prog.funcs[f]? = some fn) :
    Rows.shelfCutsCard.stood.looks = Tryz.pinned.checked.prog.looks [] ∧ ∀ (j : Nat) t, fn.params[j]? = some t → Tryz.pinned.checked.prog.wantsStandIn t = false := by
  obtain rfl : f = 5 := Option.some.inj ((show Tryz.prog.funcNamed "bollard/bollardlaw08.ShelfCuts" = some 5 by kernel_rfl).symm.trans hf) |>.symm
  obtain rfl : fn = Tryz.f5 := (Option.some.inj (Tryz.func5.symm.trans hfn)).symm
  refine ⟨by kernel_rfl, fun j t ht => ?_⟩
  rw [Tryz.params5] at ht
  have hm : t ∈ [47] := by simpa using Array.mem_of_getElem? ht
  have hall : ([47].all fun u => !Tryz.prog.wantsStandIn u) = true := by kernel_rfl
  exact (show Tryz.prog.wantsStandIn t = false by simpa using List.all_eq_true.1 hall t hm)

/-- ████ THE CARD ████ -/
theorem card : Rows.ShelfCutsCardSaid :=
  Claim7.holds_tied_plain_at .later [] _ _ _ _ said (fun _ h => by cases h) (by kernel_rfl) (fun _ h => by cases h) shelfCuts_row_tie rfl ⟨rfl, rfl⟩ (by kernel_rfl) rfl plain (by kernel_rfl)
#print axioms card


end Go.Proofs.YtecnnlppinhmgaaGreatDoor.shelfCuts
