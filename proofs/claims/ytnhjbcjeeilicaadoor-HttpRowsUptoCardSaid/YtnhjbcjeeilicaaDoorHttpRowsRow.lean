/-
  The law bollardlaw16.HttpRows answers true for every list of requests and bytes behind them. Conditions: what it reads is of bulk at most 1048576 (the given second form); the listed variables are as start-up lays them (the card ties them).
-/
import Derived.Test.YtnhjbcjeeilicaaDoorHtBK
import Derived.Test.YtnhjbcjeeilicaaDoorHtR
namespace Go.Proofs.YtnhjbcjeeilicaaDoor.httpRows
open Go.ChangeShapes Go.WideShapes Go.ChangeAt Go.RowKit Go.Proofs.YtnhjbcjeeilicaaDoor Go.Proofs.YtnhjbcjeeilicaaDoor.Ht Go.Proofs.YtnhjbcjeeilicaaDoor.HtW Go.Proofs.YtnhjbcjeeilicaaDoor.HtBJ

/-- a list of requests that came in -/
theorem open_reqs {H : Type} {enc : TypeId × Value → H} {W : World} {v : Value} {y : DataW H × List MemPlace} {n : Nat}
    (h : DataW.trod enc Tryd.prog W 0 (fun _ => true) true n 49 [v] = some y) :
    ∃ (a : Option Addr) (L : List Rd) (c : Nat), v = .slice a L.length c ∧ Rs W a L ∧ L.length ≤ Rows.uptoBulk y.1 ∧
      ∀ r ∈ L, r.lies W ∧ r.m.length ≤ Rows.uptoBulk y.1 ∧ r.t.length ≤ Rows.uptoBulk y.1 ∧ ∀ q ∈ r.fs, q.1.length ≤ Rows.uptoBulk y.1 ∧ q.2.length ≤ Rows.uptoBulk y.1 := by
  rcases RowKit2.open_structs Tryd.underlying49 Tryd.underlying25 (by kernel_rfl) (by kernel_rfl) h with ⟨hcs, hx⟩ | ⟨ad, len, cap, m, D, Pl, hcs, hl, hm, hmm, hx, hi⟩
  · obtain rfl : v = .slice none 0 0 := by simpa using hcs
    exact ⟨none, [], 0, rfl, .inl rfl, by simp, fun e he => by simp at he⟩
  · obtain rfl : v = .slice (some ad) len cap := by simpa using hcs
    simp at hmm
    subst hmm hx
    simp only [Rows.uptoBulk]
    have hlen := RowKit2.bulk_length (H := H) ((List.range len).map D)
    rw [List.length_map, List.length_range] at hlen
    obtain ⟨es, hes, hp⟩ := RowKit2.list_of (p := fun i (r : Rd) =>
      (W.cell? (ad.add (i * 4 + 0)) = some r.v0 ∧ W.cell? (ad.add (i * 4 + 1)) = some r.v1 ∧ W.cell? (ad.add (i * 4 + 2)) = some r.v2 ∧ W.cell? (ad.add (i * 4 + 3)) = some r.v3) ∧
      r.lies W ∧ r.m.length ≤ Rows.uptoBulkAll ((List.range len).map D) ∧ r.t.length ≤ Rows.uptoBulkAll ((List.range len).map D) ∧ ∀ q ∈ r.fs, q.1.length ≤ Rows.uptoBulkAll ((List.range len).map D) ∧ q.2.length ≤ Rows.uptoBulkAll ((List.range len).map D)) len fun i hil => by
      obtain ⟨ys, k, hD, hyl, hf⟩ := hi i (by omega)
      obtain ⟨v0, y0, c0, e0, r0⟩ := hf 0 _ rfl
      obtain ⟨v1, y1, c1, e1, r1⟩ := hf 1 _ rfl
      obtain ⟨v2, y2, c2, e2, r2⟩ := hf 2 _ rfl
      obtain ⟨v3, y3, c3, e3, r3⟩ := hf 3 _ rfl
      obtain ⟨s0, q0, rfl, _⟩ := DataW.trod_string Tryd.underlying9 r0
      obtain ⟨s1, q1, rfl, _⟩ := DataW.trod_string Tryd.underlying9 r1
      obtain rfl : v0 = .string s0 := by simpa using q0
      obtain rfl : v1 = .string s1 := by simpa using q1
      obtain ⟨a, fs, c, rfl, hF, _, _, _, _, hq⟩ := HtR.open_fields r2
      obtain ⟨ab, bd, cb, rfl, hb, _, _, _⟩ := HtR.open_bytes r3
      have hb1 := RowKit2.bulk_part (H := H) (d := D i) (l := (List.range len).map D) (List.mem_map.2 ⟨i, List.mem_range.2 hil, rfl⟩)
      rw [hD] at hb1
      simp only [Rows.uptoBulk] at hb1
      have b0 := HtR.bulk_of e0
      have b1 := HtR.bulk_of e1
      have b2 := HtR.bulk_of e2
      rw [RowKit2.bulk_string] at b0 b1
      refine ⟨⟨s0.data.toList, s1.data.toList, bd, fs, a, c, ab, cb⟩, ⟨by simp only [Rd.v0]; rw [Com.mk_data]; exact c0, by simp only [Rd.v1]; rw [Com.mk_data]; exact c1, c2, c3⟩, ⟨hF, hb⟩, ?_, ?_, fun q hm => ?_⟩
      · show s0.data.toList.length ≤ _; omega
      · show s1.data.toList.length ≤ _; omega
      · have := hq q hm
        omega
    refine ⟨some ad, es, m, by rw [hes], ?_, by omega, fun e he => ?_⟩
    · rcases Nat.eq_zero_or_pos es.length with h0 | h0
      · exact .inl (List.eq_nil_of_length_eq_zero h0)
      · obtain ⟨⟨hc0, _⟩, _⟩ := hp 0 es[0] (List.getElem?_eq_getElem h0)
        obtain ⟨b, off, spot⟩ := ad
        obtain rfl : spot = none := by simpa [Addr.add] using World.cell?_spot hc0
        have hbl : b < W.heap.size := World.block_lt_of_cell? W _ (by simpa [Addr.add] using hc0)
        refine .inr ⟨b, off, rfl, hbl, fun j e he => ?_⟩
        obtain ⟨⟨c0, c1, c2, c3⟩, _⟩ := hp j e he
        simp only [RowKit2.addr_add] at c0 c1 c2 c3
        exact ⟨c0, by rw [Nat.add_assoc]; exact c1, by rw [Nat.add_assoc]; exact c2, by rw [Nat.add_assoc]; exact c3⟩
    · obtain ⟨j, hj, rfl⟩ := List.getElem_of_mem he
      obtain ⟨_, h1, h2, h3, h4⟩ := hp j _ (List.getElem?_eq_getElem hj)
      exact ⟨h1, by omega, by omega, fun q hm => by have := h4 q hm; omega⟩

set_option maxRecDepth 100000 in
theorem contract (H : Type) (enc : TypeId × Value → H) (W : World) (base : Nat) (args : Array Value) (ds gs : List (DataW H)) (before : List MemPlace)
    (hval : ∀ (j : Nat) t v, Tryd.f7.params[j]? = some t → args[j]? = some v → Value.okWide Tryd.prog W .any base t v)
    (hW : DataW.Whole enc Tryd.prog Tryd.f7.params.toList Rows.httpRowsSpec.vars false W args.toList ds gs before) (hk : Rows.uptoSmall H (ds ++ gs) = true) (hL : laidMetH Tryd.prog Rows.httpFieldsRow.laid W) (hsh : W.ShapedOpen Tryd.prog) :
    Calls Tryd.prog 7 args W fun e W' => ∃ v, e = .returned v ∧ Rows.httpRowsSpec.post enc Tryd.prog Tryd.f7 false true false false W args v W' := by
  have hW' := hW
  obtain ⟨p, q, hA0, hV, rfl, hfz, hnd⟩ := hW
  have hA : DataW.TrodAll enc Tryd.prog W 0 (fun _ => true) true Tryd.f7.params.toList args.toList ds p := hA0
  rw [Tryd.params7] at hA hval
  obtain ⟨v0, vs0, d0, ds0, p0, q0, hargs, rfl, rfl, h0, r0⟩ := trodAll_cons hA
  obtain ⟨v1, vs1, d1, ds1, p1, q1, rfl, rfl, rfl, h1, r1⟩ := trodAll_cons r0
  obtain ⟨rfl, rfl, rfl⟩ := trodAll_nil r1
  obtain rfl : args = #[v0, v1] := by cases args; simp_all
  obtain ⟨rfl, rfl⟩ := trodVars_none hV
  have hbd := RowKit2.bound hk
  obtain ⟨b0, t0, s0, rfl⟩ := okWide_slice Tryd.underlying49 (hval 0 49 v0 rfl rfl)
  obtain ⟨b1, t1, s1, rfl⟩ := okWide_slice Tryd.underlying23 (hval 1 23 v1 rfl rfl)
  obtain ⟨n0, h0⟩ := h0
  obtain ⟨n1, h1⟩ := h1
  obtain ⟨a, L, c, hv0, hR, hLn, hq⟩ := open_reqs h0
  obtain ⟨aX, X, cX, hv1, hX, _, hXl, _⟩ := HtR.open_bytes h1
  simp only [List.append_nil, Rows.uptoBulkAll] at hbd
  obtain ⟨aR, aL, he⟩ := HtR.errs hL
  have hcall := HtBK.rows L X c cX W hR (fun r hr => (hq r hr).1) (fun r hr h1 h2 => HtBI.req_bound (B := Rows.uptoBulk d0) (by omega) (hq r hr).2.1 (hq r hr).2.2.1 (hq r hr).2.2.2 h2 h1) (by simp only at hLn; omega) hX (by simp only at hXl; omega) (HtR.mx hsh) he (HtR.tab hL)
  rw [← hv0, ← hv1] at hcall
  refine hcall.mono fun e W' ⟨he, hb⟩ => ?_
  exact RowKit2.law_post rfl (by kernel_rfl) (by kernel_rfl) rfl hW' he hb

theorem door_met (os : Os) (args : Array Value) : laidMetH Tryd.prog Rows.httpRowsUptoRow.laid ((HtR.w0 os).forCall (fun _ _ => 0) ⟨#[], args, []⟩).memory :=
  HtR.w0_met os args
theorem reads (os : Os) {H : Type} (enc : TypeId × Value → H) : ∃ places, DataW.whole enc Tryd.prog ((HtR.w0 os).forCall (fun _ _ => 0) ⟨#[], #[.slice none 0 0, .slice none 0 0], []⟩).memory Tryd.f7.params.toList Rows.httpRowsSpec.vars false #[.slice none 0 0, .slice none 0 0].toList 8 = some ([.nil, .nil], [], places) :=
  ⟨[], by kernel_rfl⟩

set_option maxRecDepth 100000 in
theorem lifted (os : Os) (started : os.Started) (H : Type) (enc : TypeId × Value → H) (F : Stop.Interp) :
    ReturnsInHanded {} Tryd.checked os 7 .any ((Rows.OpenSpec.upto Rows.httpRowsSpec).preRow enc Tryd.prog Tryd.f7 Rows.httpRowsUptoRow.domain false Rows.httpRowsUptoRow.laid) (((Rows.OpenSpec.upto Rows.httpRowsSpec).at F).post enc Tryd.prog Tryd.f7 false true false false) := by
  obtain ⟨places, hx⟩ := reads os enc
  refine returnsInHanded_of_row (C := Tryd.checked) (s := Rows.OpenSpec.upto Rows.httpRowsSpec) RowKit2.own started (by kernel_rfl) Tryd.func7
    (witness_row_atRef (enc := enc) (C := Tryd.checked) false (HtR.w0 os) #[.slice none 0 0, .slice none 0 0] (HtR.w0_os os) (by kernel_rfl) (by kernel_rfl) (by kernel_rfl)
      (OpenSpec.preRow_of_cond 8 hx (by kernel_rfl) (fun k hk => by cases hk; kernel_rfl) (by kernel_rfl) (door_met os _))) ?_
  intro W base args ds gs before hval hW _ hcond hz hL hsh _
  exact contract H enc W base args ds gs before hval hW (hcond _ rfl) hL hsh

theorem said : Rows.HttpRowsUptoSaid :=
  OpenClaim.holds_of_cond 7 Tryd.f7 rfl rfl rfl rfl rfl rfl rfl ⟨rfl, rfl, rfl, rfl, rfl⟩ rfl rfl rfl rfl rfl (by kernel_rfl) Tryd.func7 (by kernel_rfl)
    (of_decide_eq_true (by kernel_rfl)) (by unfold Func.isWrapper; first | (rw [if_pos (by decide +kernel)]; kernel_rfl) | (rw [if_neg (by decide +kernel)]; exact ⟨rfl, rfl⟩))
    (fun os started H enc _ F => by rw [OpenClaim.pre_eq_preRow]; exact lifted os started H enc F)

theorem plain (f : FuncId) (fn : Func) (hf : Tryd.pinned.checked.prog.funcNamed "bollard/bollardlaw16.HttpRows" = some f) (hfn : Tryd.pinned.checked.prog.funcs[f]? = some fn) :
    Rows.httpRowsUptoCard.stood.looks = Tryd.pinned.checked.prog.looks [] ∧ ∀ (j : Nat) t, fn.params[j]? = some t → Tryd.pinned.checked.prog.wantsStandIn t = false := by
  obtain rfl : f = 7 := Option.some.inj ((show Tryd.prog.funcNamed "bollard/bollardlaw16.HttpRows" = some 7 by kernel_rfl).symm.trans hf) |>.symm
  obtain rfl : fn = Tryd.f7 := (Option.some.inj (Tryd.func7.symm.trans hfn)).symm
  refine ⟨by kernel_rfl, fun j t ht => ?_⟩
  rw [Tryd.params7] at ht
  have hm : t ∈ [49, 23] := by simpa using Array.mem_of_getElem? ht
  have hall : ([49, 23].all fun u => !Tryd.prog.wantsStandIn u) = true := by kernel_rfl
  exact (show Tryd.prog.wantsStandIn t = false by simpa using List.all_eq_true.1 hall t hm)

/-- ████ THE CARD ████ -/
theorem card : Rows.HttpRowsUptoCardSaid :=
  Claim7.holds_tied_plain_at .later [] _ _ _ _ said (fun _ h => by cases h) (by kernel_rfl) (fun _ h => by cases h) httpRowsUpto_row_tie rfl ⟨rfl, rfl⟩ (by kernel_rfl) rfl plain (by kernel_rfl)
#print axioms card
