/-
  The law bollardlaw07.DiskApart answers true for every script. Conditions: the listed errors of package api are as start-up lays them (the card ties them); the given form's own reach.
-/
import Derived.Test.YtmimkgfkicgfiaaDoorDiskP
import Derived.Test.YtmimkgfkicgfiaaDoorDiskM
namespace Go.Proofs.YtmimkgfkicgfiaaDoor.diskApart
open Go.ChangeShapes Go.WideShapes Go.ChangeAt Go.RowKit Go.Proofs.YtmimkgfkicgfiaaDoor Go.Proofs.YtmimkgfkicgfiaaDoor.Dw Go.Proofs.YtmimkgfkicgfiaaDoor.DiskM
open Go.ChangeMaps (open_string shut_string)

/-- a script that came in -/
theorem open_script2 {H : Type} {enc : TypeId × Value → H} {W : World} {a : Option Addr} {len cap : Nat} {y : DataW H × List MemPlace} {n : Nat}
    (h : DataW.trod enc Tryd.prog W 0 (fun _ => true) true n 58 [.slice a len cap] = some y) (hz : ∀ m ∈ y.1.weights Tryd.prog 58, m ≤ reachBytes) :
    ∃ os : List DiskL.OpV, len = os.length ∧ DiskL.Script W.heap.size W a os ∧ os.length ≤ 140737488351232 ∧ ∀ op ∈ os, op.name.size ≤ maxLen ∧ op.to.size ≤ maxLen := by
  rcases RowKit2.open_structs Tryd.underlying58 Tryd.underlying63 (by kernel_rfl) (by kernel_rfl) h with ⟨hcs, hx⟩ | ⟨ad, len', cap', m, D, Pl, hcs, hl, hm, hmm, hx, hi⟩
  · simp at hcs
    obtain ⟨rfl, rfl, rfl⟩ := hcs
    exact ⟨[], rfl, .inl rfl, by simp, fun op h => by cases h⟩
  · simp at hcs
    obtain ⟨rfl, rfl, rfl⟩ := hcs
    simp at hmm
    subst hmm hx
    have hlen : len ≤ 140737488351232 := by
      have := hz _ (weight_slice (els := (List.range len).map D) Tryd.underlying58)
      rw [reach] at this
      simp only [List.length_map, List.length_range] at this
      have h1 := bytesOp
      have h2 : len + (m - len) ≤ (len + (m - len)) * Tryd.prog.bytesOf 63 := Nat.le_mul_of_pos_right _ h1
      omega
    obtain ⟨os, hos, hp⟩ := RowKit2.list_of (p := fun i (op : DiskL.OpV) =>
      (W.cell? (ad.add (i * 6 + 0)) = some (.int .i64 op.kind) ∧ W.cell? (ad.add (i * 6 + 1)) = some (.int .i64 op.which) ∧ W.cell? (ad.add (i * 6 + 2)) = some (.int .i64 op.n) ∧
       W.cell? (ad.add (i * 6 + 3)) = some (.string op.name) ∧ W.cell? (ad.add (i * 6 + 4)) = some (.string op.to) ∧ W.cell? (ad.add (i * 6 + 5)) = some (.slice op.a op.l.length op.c)) ∧ BsIn W.heap.size W op.a op.l op.c ∧ op.l.length ≤ 140737488351232 ∧ op.name.size ≤ maxLen ∧ op.to.size ≤ maxLen) len fun i hil => by
      obtain ⟨ys, k, hD, hyl, hf⟩ := hi i (by omega)
      obtain ⟨v0, y0, c0, e0, r0⟩ := hf 0 _ rfl
      obtain ⟨v1, y1, c1, e1, r1⟩ := hf 1 _ rfl
      obtain ⟨v2, y2, c2, e2, r2⟩ := hf 2 _ rfl
      obtain ⟨v3, y3, c3, e3, r3⟩ := hf 3 _ rfl
      obtain ⟨v4, y4, c4, e4, r4⟩ := hf 4 _ rfl
      obtain ⟨v5, y5, c5, e5, r5⟩ := hf 5 _ rfl
      obtain ⟨n0, q0, rfl, w0⟩ := DataW.trod_int Tryd.underlying3 r0
      obtain ⟨n1, q1, rfl, w1⟩ := DataW.trod_int Tryd.underlying3 r1
      obtain ⟨n2, q2, rfl, w2⟩ := DataW.trod_int Tryd.underlying3 r2
      obtain ⟨s3, q3, rfl, z3⟩ := DataW.trod_string Tryd.underlying9 r3
      obtain ⟨s4, q4, rfl, z4⟩ := DataW.trod_string Tryd.underlying9 r4
      obtain ⟨a5, l5, z5, rfl, hb5, h5⟩ := DiskJ.open_bytes r5
      obtain rfl : v0 = .int .i64 n0 := by simpa using q0
      obtain rfl : v1 = .int .i64 n1 := by simpa using q1
      obtain rfl : v2 = .int .i64 n2 := by simpa using q2
      obtain rfl : v3 = .string s3 := by simpa using q3
      obtain rfl : v4 = .string s4 := by simpa using q4
      refine ⟨⟨n0, n1, n2, s3, s4, a5, l5, z5⟩, ⟨c0, c1, c2, c3, c4, c5⟩, BsIn.mk hb5, ?_, z3, z4⟩
      rcases h5 with ⟨_, h5⟩ | ⟨els, sp, h5, h6⟩
      · show l5.length ≤ _; rw [h5]; simp
      · have hw := hz _ (weights_elem (sp := (List.range (m - len)).map fun j => D (len + j)) Tryd.underlying58 (List.mem_map.2 ⟨i, List.mem_range.2 hil, rfl⟩)
          (by rw [hD]; exact weights_field (j := 5) (tf := 61) (d := .slice els sp) Tryd.underlying63 rfl (by rw [List.getElem?_map, e5, Option.map_some, h5]) (weight_slice Tryd.underlying61)))
        rw [reach, bytesB] at hw
        show l5.length ≤ _
        omega
    refine ⟨os, hos.symm, ?_, by omega, fun op ho => by obtain ⟨j, hj, rfl⟩ := List.getElem_of_mem ho; exact (hp j _ (List.getElem?_eq_getElem hj)).2.2.2⟩
    rcases Nat.eq_zero_or_pos os.length with h0 | h0
    · exact .inl (List.eq_nil_of_length_eq_zero h0)
    · obtain ⟨⟨hc0, _⟩, _⟩ := hp 0 os[0] (List.getElem?_eq_getElem h0)
      obtain ⟨b, off, spot⟩ := ad
      obtain rfl : spot = none := by simpa [Addr.add] using World.cell?_spot hc0
      have hbl : b < W.heap.size := World.block_lt_of_cell? W _ (by simpa [Addr.add] using hc0)
      refine .inr ⟨b, off, rfl, hbl, hbl, fun j op ho => ?_⟩
      obtain ⟨⟨c0, c1, c2, c3, c4, c5⟩, h6, h7, _⟩ := hp j op ho
      simp only [RowKit2.addr_add] at c0 c1 c2 c3 c4 c5
      refine ⟨⟨c0, ?_, ?_, ?_, ?_, ?_⟩, h6, h7⟩
      · rw [Nat.add_assoc]; exact c1
      · rw [Nat.add_assoc]; exact c2
      · rw [Nat.add_assoc]; exact c3
      · rw [Nat.add_assoc]; exact c4
      · rw [Nat.add_assoc]; exact c5
set_option maxRecDepth 100000 in
theorem contract (H : Type) (enc : TypeId × Value → H) (W : World) (base : Nat) (args : Array Value) (ds gs : List (DataW H)) (before : List MemPlace)
    (hval : ∀ (j : Nat) t v, Tryd.f9.params[j]? = some t → args[j]? = some v → Value.okWide Tryd.prog W .any base t v)
    (hW : DataW.Whole enc Tryd.prog Tryd.f9.params.toList Rows.diskApartSpec.vars false W args.toList ds gs before) (hz : (DataW.weightsEach Tryd.prog (Tryd.f9.params.toList ++ (OpenSpec.ofChange Rows.diskApartSpec).bare.plain.varTypes Tryd.prog) (ds ++ gs)).all (· ≤ reachBytes) = true) (hL : laidMetH Tryd.prog Rows.diskApartRow.laid W) (_hsh : W.ShapedOpen Tryd.prog) :
    Calls Tryd.prog 9 args W fun e W' => ∃ v, e = .returned v ∧ Rows.diskApartSpec.post enc Tryd.prog Tryd.f9 false true false false W args v W' := by
  have hW' := hW
  have hlt : ∀ x ∈ before, x.block < W.heap.size := fun x hx => hW'.lt x hx
  obtain ⟨p, q, hA0, hV, rfl, hfz, hnd⟩ := hW
  have hA : DataW.TrodAll enc Tryd.prog W 0 (fun _ => true) true Tryd.f9.params.toList args.toList ds p := hA0
  rw [Tryd.params9] at hA hz hval
  obtain ⟨v0, vs0, d0, ds0, p0, q0, hargs, rfl, rfl, h0, r0⟩ := trodAll_cons hA
  obtain ⟨rfl, rfl, rfl⟩ := trodAll_nil r0
  obtain rfl : args = #[v0] := by cases args; simp_all
  obtain ⟨rfl, rfl⟩ := trodVars_none hV
  obtain ⟨n0, h0⟩ := h0
  obtain ⟨b0, t0, s0, rfl⟩ := okWide_slice Tryd.underlying58 (hval 0 58 v0 rfl rfl)
  obtain ⟨os, rfl, hos, hlen, hnm⟩ := open_script2 h0 (fun m hm => by simpa using List.all_eq_true.1 hz _ (DataW.weights_mem_each (j := 0) rfl rfl m hm))
  rw [MakeChecks.laidMetH_plain _ _ _ (by kernel_rfl)] at hL
  obtain ⟨aN, aF, aG, he⟩ := DiskJ.errs hL
  refine (DiskP.apart b0 s0 os W he hos hlen hnm).mono fun e W' ⟨he, hb⟩ => ?_
  exact RowKit2.law_post rfl (by kernel_rfl) (by kernel_rfl) rfl hW' he hb


theorem door_met (os : Os) (args : Array Value) : laidMetH Tryd.prog Rows.diskApartRow.laid ((World.doorLaid Tryd.prog 414 os).forCall (fun _ _ => 0) ⟨#[], args, []⟩).memory :=
  laidMetH_of_parts3 (fuel := 8) (laidMet_of_run' 8 (by kernel_rfl) (by kernel_rfl)) (by kernel_rfl) (by kernel_rfl)
theorem reads (os : Os) {H : Type} (enc : TypeId × Value → H) : ∃ places, DataW.whole enc Tryd.prog ((World.doorLaid Tryd.prog 414 os).forCall (fun _ _ => 0) ⟨#[], #[.slice none 0 0], []⟩).memory Tryd.f9.params.toList Rows.diskApartSpec.vars false #[.slice none 0 0].toList 8 = some ([.nil], [], places) :=
  ⟨[], by kernel_rfl⟩

set_option maxRecDepth 100000 in
theorem lifted (os : Os) (started : os.Started) (H : Type) (enc : TypeId × Value → H) (F : Stop.Interp) :
    ReturnsInHanded {} Tryd.checked os 9 .any ((OpenSpec.ofChange Rows.diskApartSpec).preRow enc Tryd.prog Tryd.f9 Rows.diskApartRow.domain false Rows.diskApartRow.laid) (((OpenSpec.ofChange Rows.diskApartSpec).at F).post enc Tryd.prog Tryd.f9 false true false false) := by
  obtain ⟨places, hx⟩ := reads os enc
  refine returnsInHanded_of_row (C := Tryd.checked) (s := OpenSpec.ofChange Rows.diskApartSpec) RowKit2.own started (by kernel_rfl) Tryd.func9
    (witness_row_atRef (enc := enc) (C := Tryd.checked) false (World.doorLaid Tryd.prog 414 os) #[.slice none 0 0] rfl (by kernel_rfl) (by kernel_rfl) (by kernel_rfl)
      (OpenSpec.preRow_of_cond 8 hx (by kernel_rfl) (fun k hk => by cases hk) (by kernel_rfl) (door_met os _))) ?_
  intro W base args ds gs before hval hW _ hcond hz hL hsh _
  exact contract H enc W base args ds gs before hval hW hz hL hsh

theorem said : Rows.DiskApartSaid :=
  OpenClaim.holds_of_cond 9 Tryd.f9 rfl rfl rfl rfl rfl rfl rfl ⟨rfl, rfl, rfl, rfl, rfl⟩ rfl rfl rfl rfl rfl (by kernel_rfl) Tryd.func9 (by kernel_rfl)
    (of_decide_eq_true (by kernel_rfl)) (by unfold Func.isWrapper; first | (rw [if_pos (by decide +kernel)]; kernel_rfl) | (rw [if_neg (by decide +kernel)]; exact ⟨rfl, rfl⟩))
    (fun os started H enc _ F => by rw [OpenClaim.pre_eq_preRow]; exact lifted os started H enc F)

theorem plain (f : FuncId) (fn : Func) (hf : Tryd.pinned.checked.prog.funcNamed "bollard/bollardlaw07.DiskApart" = some f) (hfn : Tryd.pinned.checked.prog.funcs[f]? = some fn) :
    Rows.diskApartCard.stood.looks = Tryd.pinned.checked.prog.looks [] ∧ ∀ (j : Nat) t, fn.params[j]? = some t → Tryd.pinned.checked.prog.wantsStandIn t = false := by
  obtain rfl : f = 9 := Option.some.inj ((show Tryd.prog.funcNamed "bollard/bollardlaw07.DiskApart" = some 9 by kernel_rfl).symm.trans hf) |>.symm
  obtain rfl : fn = Tryd.f9 := (Option.some.inj (Tryd.func9.symm.trans hfn)).symm
  refine ⟨by kernel_rfl, fun j t ht => ?_⟩
  rw [Tryd.params9] at ht
  have hm : t ∈ [58] := by simpa using Array.mem_of_getElem? ht
  have hall : ([58].all fun u => !Tryd.prog.wantsStandIn u) = true := by kernel_rfl
  exact (show Tryd.prog.wantsStandIn t = false by simpa using List.all_eq_true.1 hall t hm)

/-- ████ THE CARD ████ -/
theorem card : Rows.DiskApartCardSaid :=
  Claim7.holds_tied_plain_at .later [] _ _ _ _ said (fun _ h => by cases h) (by kernel_rfl) (fun _ h => by cases h) diskApart_row_tie rfl ⟨rfl, rfl⟩ (by kernel_rfl) rfl plain (by kernel_rfl)
#print axioms card
end Go.Proofs.YtmimkgfkicgfiaaDoor.diskApart
