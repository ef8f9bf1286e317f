/-
  The law bollardlaw21.RouteGives answers true for every whole and every range. Conditions: what it reads is of bulk at most 1048576 (the given second form); the listed variables are as start-up lays them (the card ties them).
-/
import Derived.Test.YtidflagmdabfaaaGreatDoorRo06
import Derived.Test.YtidflagmdabfaaaGreatDoorRg01
namespace Go.Proofs.YtidflagmdabfaaaGreatDoor.routeGives
open Go.ChangeShapes Go.WideShapes Go.ChangeAt Go.RowKit Go.Proofs.YtidflagmdabfaaaGreatDoor Go.Proofs.YtidflagmdabfaaaGreatDoor.Ht Go.Proofs.YtidflagmdabfaaaGreatDoor.HtW

theorem cRng : Tryz.prog.cellsOf 51 = 5 := by kernel_rfl
theorem cRow : Tryz.prog.cellsOf 23 = 1 := by kernel_rfl
theorem cI : Tryz.prog.cellsOf 3 = 1 := by kernel_rfl
theorem cBo : Tryz.prog.cellsOf 4 = 1 := by kernel_rfl
theorem five {l : Array Value} (h : l.size = 5) : ∃ a b c d e, l = #[a, b, c, d, e] := by
  obtain ⟨l⟩ := l
  match l, h with
  | [a, b, c, d, e], _ => exact ⟨a, b, c, d, e, rfl⟩
/-- what is ranged, five cells -/
theorem open_ranged {H : Type} {enc : TypeId × Value → H} {w : World} {n : Nat} {c0 c1 c2 c3 c4 : Value} {x : DataW H × List MemPlace}
    (h : DataW.trod enc Tryz.prog w 0 (fun _ => true) true n 51 [c0, c1, c2, c3, c4] = some x) :
    ∃ (ad : Option Addr) (dt : List UInt8) (cd : Nat) (tm fi la : Int) (b : Bool), c0 = .slice ad dt.length cd ∧ c1 = .int .i64 tm ∧ c2 = .bool b ∧ c3 = .int .i64 fi ∧ c4 = .int .i64 la ∧ Bs w ad dt cd ∧ dt.length ≤ Rows.uptoBulk x.1 ∧
      (-9223372036854775808 ≤ tm ∧ tm ≤ 9223372036854775807) ∧ (-9223372036854775808 ≤ fi ∧ fi ≤ 9223372036854775807) ∧ (-9223372036854775808 ≤ la ∧ la ≤ 9223372036854775807) := by
  obtain ⟨ys, k, hx, _, _, hf⟩ := SgR.struct_at Tryz.underlying51 h
  obtain ⟨z0, y0, r0⟩ := hf 0 _ rfl
  obtain ⟨z1, _, r1⟩ := hf 1 _ rfl
  obtain ⟨z2, _, r2⟩ := hf 2 _ rfl
  obtain ⟨z3, _, r3⟩ := hf 3 _ rfl
  obtain ⟨z4, _, r4⟩ := hf 4 _ rfl
  have r0 : DataW.trod enc Tryz.prog w 0 (fun _ => true) true k 23 (([c0, c1, c2, c3, c4].drop 0).take (Tryz.prog.cellsOf 23)) = some z0 := r0
  rw [cRow] at r0
  have r1 : DataW.trod enc Tryz.prog w 0 (fun _ => true) true k 3 (([c0, c1, c2, c3, c4].drop 1).take (Tryz.prog.cellsOf 3)) = some z1 := r1
  rw [cI] at r1
  have r2 : DataW.trod enc Tryz.prog w 0 (fun _ => true) true k 4 (([c0, c1, c2, c3, c4].drop 2).take (Tryz.prog.cellsOf 4)) = some z2 := r2
  rw [cBo] at r2
  have r3 : DataW.trod enc Tryz.prog w 0 (fun _ => true) true k 3 (([c0, c1, c2, c3, c4].drop 3).take (Tryz.prog.cellsOf 3)) = some z3 := r3
  rw [cI] at r3
  have r4 : DataW.trod enc Tryz.prog w 0 (fun _ => true) true k 3 (([c0, c1, c2, c3, c4].drop 4).take (Tryz.prog.cellsOf 3)) = some z4 := r4
  rw [cI] at r4
  rw [hx]
  simp only [Rows.uptoBulk]
  have b0 := SgR.bulk_of y0
  have r0' : DataW.trod enc Tryz.prog w 0 (fun _ => true) true k 23 [c0] = some z0 := r0
  obtain ⟨ad, dt, cd, rfl, hB, _, hbl, _⟩ := SgR.open_bytes r0'
  obtain ⟨tm, q1, _, w1⟩ := DataW.trod_int Tryz.underlying3 r1
  obtain ⟨b, q2, _⟩ := DataW.trod_bool Tryz.underlying4 r2
  obtain ⟨fi, q3, _, w3⟩ := DataW.trod_int Tryz.underlying3 r3
  obtain ⟨la, q4, _, w4⟩ := DataW.trod_int Tryz.underlying3 r4
  exact ⟨ad, dt, cd, tm, fi, la, b, rfl, by simpa using q1, by simpa using q2, by simpa using q3, by simpa using q4, hB, by omega, RowKit2.wf_i64 w1, RowKit2.wf_i64 w3, RowKit2.wf_i64 w4⟩

set_option maxRecDepth 100000 in
theorem contract (H : Type) (enc : TypeId × Value → H) (W : World) (base : Nat) (args : Array Value) (ds gs : List (DataW H)) (before : List MemPlace)
    (hval : ∀ (j : Nat) t v, Tryz.f4.params[j]? = some t → args[j]? = some v → Value.okWide Tryz.prog W .any base t v)
    (hW : DataW.Whole enc Tryz.prog Tryz.f4.params.toList Rows.routeGivesSpec.vars false W args.toList ds gs before) (hk : Rows.uptoSmall H (ds ++ gs) = true) (hL : laidMetH Tryz.prog Rows.routeRangesRow.laid W) (hsh : W.ShapedOpen Tryz.prog) :
    Calls Tryz.prog 4 args W fun e W' => ∃ v, e = .returned v ∧ Rows.routeGivesSpec.post enc Tryz.prog Tryz.f4 false true false false W args v W' := by
  have hW' := hW
  obtain ⟨p, q, hA0, hV, rfl, hfz, hnd⟩ := hW
  have hA : DataW.TrodAll enc Tryz.prog W 0 (fun _ => true) true Tryz.f4.params.toList args.toList ds p := hA0
  rw [Tryz.params4] at hA hval
  obtain ⟨v0, vs0, d0, ds0, p0, q0, hargs, rfl, rfl, h0, r0⟩ := trodAll_cons hA
  obtain ⟨rfl, rfl, rfl⟩ := trodAll_nil r0
  obtain rfl : args = #[v0] := by cases args; simp_all
  obtain ⟨rfl, rfl⟩ := trodVars_none hV
  have hbd := RowKit2.bound hk
  obtain ⟨cs, rfl, hsz⟩ := okWide_struct Tryz.underlying51 (hval 0 51 v0 rfl rfl)
  obtain ⟨y0, y1, y2, y3, y4, rfl⟩ := five (hsz.trans cRng)
  obtain ⟨fuel, h0f⟩ := h0
  have h0g : DataW.trod enc Tryz.prog W 0 (fun _ => true) true fuel 51 [y0, y1, y2, y3, y4] = some (d0, p0) := h0f
  obtain ⟨ad, dt, cd, tm, fi, la, b, rfl, rfl, rfl, rfl, rfl, hB, hl, ⟨t0, t1⟩, ⟨f0, f1⟩, ⟨l0, l1⟩⟩ := open_ranged h0g
  obtain ⟨es, aU, hU, hE⟩ := RtZ.env hL hsh
  simp only [List.append_nil, Rows.uptoBulkAll] at hbd hl
  refine (RtN.gives dt tm b fi la ad cd W hE hB (by omega) t0 t1 f0 f1 l0 l1).mono fun e W' ⟨he, hb⟩ => ?_
  exact RowKit2.law_post rfl (by kernel_rfl) (by kernel_rfl) rfl hW' he hb

theorem door_met (os : Os) (args : Array Value) : laidMetH Tryz.prog Rows.routeGivesUptoRow.laid ((RtZ.w0 os).forCall (fun _ _ => 0) ⟨#[], args, []⟩).memory :=
  RtZ.w0_met os args
theorem reads (os : Os) {H : Type} (enc : TypeId × Value → H) : ∃ places, DataW.whole enc Tryz.prog ((RtZ.w0 os).forCall (fun _ _ => 0) ⟨#[], #[.agg #[.slice none 0 0, .int .i64 0, .bool false, .int .i64 0, .int .i64 0]], []⟩).memory Tryz.f4.params.toList Rows.routeGivesSpec.vars false #[.agg #[.slice none 0 0, .int .i64 0, .bool false, .int .i64 0, .int .i64 0]].toList 8 = some ([.agg [.nil, .lit (.int .i64 0), .lit (.bool false), .lit (.int .i64 0), .lit (.int .i64 0)]], [], places) :=
  ⟨[], by kernel_rfl⟩

set_option maxRecDepth 100000 in
theorem lifted (os : Os) (started : os.Started) (H : Type) (enc : TypeId × Value → H) (F : Stop.Interp) :
    ReturnsInHanded {} Tryz.checked os 4 .any ((Rows.OpenSpec.upto Rows.routeGivesSpec).preRow enc Tryz.prog Tryz.f4 Rows.routeGivesUptoRow.domain false Rows.routeGivesUptoRow.laid) (((Rows.OpenSpec.upto Rows.routeGivesSpec).at F).post enc Tryz.prog Tryz.f4 false true false false) := by
  obtain ⟨places, hx⟩ := reads os enc
  refine returnsInHanded_of_row (C := Tryz.checked) (s := Rows.OpenSpec.upto Rows.routeGivesSpec) RowKit2.own started (by kernel_rfl) Tryz.func4
    (witness_row_atRef (enc := enc) (C := Tryz.checked) false (RtZ.w0 os) #[.agg #[.slice none 0 0, .int .i64 0, .bool false, .int .i64 0, .int .i64 0]] (RtZ.w0_os os) (by kernel_rfl) (by kernel_rfl) (by kernel_rfl)
      (OpenSpec.preRow_of_cond 8 hx (by kernel_rfl) (fun k hk => by cases hk; kernel_rfl) (by kernel_rfl) (door_met os _))) ?_
  intro W base args ds gs before hval hW _ hcond hz hL hsh _
  exact contract H enc W base args ds gs before hval hW (hcond _ rfl) hL hsh

theorem fact_inPlace : (Rows.routeGivesUptoRow.inPlace == Tryz.pinned.checked.prog.inPlace 4) = true := by kernel_rfl
theorem fact_unfollowed : (Rows.routeGivesUptoRow.unfollowed == Tryz.pinned.checked.prog.unfollowed 4) = true := by kernel_rfl
theorem fact_recurses : (Rows.routeGivesUptoRow.recurses == Tryz.pinned.checked.prog.recurses 4) = true := by kernel_rfl
theorem fact_named : (Rows.routeGivesUptoRow.named == Tryz.pinned.checked.prog.varsNamed 4) = true := by kernel_rfl
theorem closed : joinedFacts Tryz.pinned.checked.prog 4 Tryz.f4 (Rows.OpenSpec.upto Rows.routeGivesSpec).bare Rows.routeGivesUptoRow = true := by
  unfold joinedFacts
  rw [fact_inPlace, fact_unfollowed, fact_recurses, fact_named]
  kernel_rfl
theorem said : Rows.RouteGivesUptoSaid :=
  OpenClaim.holds_of_cond 4 Tryz.f4 rfl rfl rfl rfl rfl rfl rfl ⟨rfl, rfl, rfl, rfl, rfl⟩ rfl rfl rfl rfl rfl (by kernel_rfl) Tryz.func4 closed
    (of_decide_eq_true (by kernel_rfl)) (by unfold Func.isWrapper; first | (rw [if_pos (by decide +kernel)]; kernel_rfl) | (rw [if_neg (by decide +kernel)]; exact ⟨rfl, rfl⟩))
    (fun os started H enc _ F => by rw [OpenClaim.pre_eq_preRow]; exact lifted os started H enc F)

theorem plain (f : FuncId) (fn : Func) (hf : Tryz.pinned.checked.prog.funcNamed "bollard/bollardlaw21.RouteGives" = some f) (hfn : Tryz.pinned.checked.prog.funcs[f]? = some fn) :
    Rows.routeGivesUptoCard.stood.looks = Tryz.pinned.checked.prog.looks [] ∧ ∀ (j : Nat) t, fn.params[j]? = some t → Tryz.pinned.checked.prog.wantsStandIn t = false := by
  obtain rfl : f = 4 := Option.some.inj ((show Tryz.prog.funcNamed "bollard/bollardlaw21.RouteGives" = some 4 by kernel_rfl).symm.trans hf) |>.symm
  obtain rfl : fn = Tryz.f4 := (Option.some.inj (Tryz.func4.symm.trans hfn)).symm
  refine ⟨by kernel_rfl, fun j t ht => ?_⟩
  rw [Tryz.params4] at ht
  have hm : t ∈ [51] := by simpa using Array.mem_of_getElem? ht
  have hall : ([51].all fun u => !Tryz.prog.wantsStandIn u) = true := by kernel_rfl
  exact (show Tryz.prog.wantsStandIn t = false by simpa using List.all_eq_true.1 hall t hm)

/-- ████ THE CARD ████ -/
theorem card : Rows.RouteGivesUptoCardSaid :=
  Claim7.holds_tied_plain_at .later [] _ _ _ _ said (fun _ h => by cases h) (by kernel_rfl) (fun _ h => by cases h) routeGivesUpto_row_tie rfl ⟨rfl, rfl⟩ (by kernel_rfl) rfl plain (by kernel_rfl)
#print axioms card
