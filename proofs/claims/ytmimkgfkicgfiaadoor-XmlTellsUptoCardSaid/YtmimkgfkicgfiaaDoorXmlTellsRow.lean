/-
  The law bollardlaw19.XmlTells answers true for every page. Conditions: what it reads is of bulk at most 1048576 (the given second form); the listed variables of the library are as start-up lays them (the card ties them).
-/
import Derived.Test.YtmimkgfkicgfiaaDoorRowKit
import Derived.Test.YtmimkgfkicgfiaaDoorXmlJ
import Derived.Test.YtmimkgfkicgfiaaDoorCards
import Derived.Test.YtmimkgfkicgfiaaDoorTie
import Derived.Deep.DeepHandedRow
import Derived.Stop.LaidErr
import Derived.Deep.DeepWitnessRowRef
import Derived.LaidMore
import Derived.Lib.LaidTab
namespace Go.Proofs.YtmimkgfkicgfiaaDoor.xmlTells
open Go.ChangeShapes Go.WideShapes Go.ChangeAt Go.RowKit Go.Proofs.YtmimkgfkicgfiaaDoor
open Go.ChangeMaps (open_string shut_string)

theorem tabType : (Tryd.prog.globals[23]?).map (·.type) = some 230 := by kernel_rfl
theorem cellsTab : Tryd.prog.cellsOf 230 = 20 := by kernel_rfl
theorem cellsU64 : Tryd.prog.cellsOf 189 = 1 := by kernel_rfl

theorem tab {W : World} (h : laidMetH Tryd.prog Rows.xmlTellsRow.laid W) : XmlH.Tab W := by
  rw [MakeChecks.laidMetH_plain _ _ _ (by kernel_rfl)] at h
  refine Lib.tabIs_of_head (rest := []) XmlH.tabNum tabType Tryd.underlying230 Tryd.underlying189 cellsU64 cellsTab ?_
  exact laidMet.tail (laidMet.tail h)

/-- a page's entries, out of the slice that came in -/
theorem open_ents {H : Type} {enc : TypeId × Value → H} {W : World} {a : Option Addr} {len cap : Nat} {y : DataW H × List MemPlace} {n : Nat}
    (h : DataW.trod enc Tryd.prog W 0 (fun _ => true) true n 38 [.slice a len cap] = some y) (hlt : ∀ x ∈ y.2, x.block < W.heap.size) (hk : Rows.uptoBulk y.1 ≤ 1048576) :
    ∃ es : List Xp.Ent, len = es.length ∧ XmlI.Ents W a es ∧ XmlI.Fits es ∧ es.length ≤ 1048576 := by
  rcases RowKit2.open_structs Tryd.underlying38 Tryd.underlying42 (by kernel_rfl) (by kernel_rfl) h with ⟨hcs, hx⟩ | ⟨ad, len', cap', m, D, Pl, hcs, hl, hm, hmm, hx, hi⟩
  · simp at hcs
    obtain ⟨rfl, rfl, rfl⟩ := hcs
    exact ⟨[], rfl, .inl rfl, fun e he => by simp at he, by simp⟩
  · simp at hcs
    obtain ⟨rfl, rfl, rfl⟩ := hcs
    simp at hmm
    subst hmm hx
    simp only [Rows.uptoBulk] at hk
    have hlen := RowKit2.bulk_length (H := H) ((List.range len).map D)
    rw [List.length_map, List.length_range] at hlen
    obtain ⟨es, hes, hp⟩ := RowKit2.list_of (p := fun i (e : Xp.Ent) =>
      (W.cell? (ad.add (i * 5 + 0)) = some (.string ⟨e.name.toArray⟩) ∧ W.cell? (ad.add (i * 5 + 1)) = some (.bool e.pre) ∧ W.cell? (ad.add (i * 5 + 2)) = some (.int .i64 e.size) ∧
       W.cell? (ad.add (i * 5 + 3)) = some (.string ⟨e.etag.toArray⟩) ∧ W.cell? (ad.add (i * 5 + 4)) = some (.int .i64 e.time)) ∧
      e.name.length ≤ 1048576 ∧ e.etag.length ≤ 1048576 ∧ -9223372036854775808 ≤ e.size ∧ e.size ≤ 9223372036854775807 ∧ -9223372036854775808 ≤ e.time ∧ e.time ≤ 9223372036854775807) len fun i hil => by
      obtain ⟨ys, k, hD, hyl, hf⟩ := hi i (by omega)
      obtain ⟨v0, y0, c0, e0, r0⟩ := hf 0 _ rfl
      obtain ⟨v1, y1, c1, e1, r1⟩ := hf 1 _ rfl
      obtain ⟨v2, y2, c2, e2, r2⟩ := hf 2 _ rfl
      obtain ⟨v3, y3, c3, e3, r3⟩ := hf 3 _ rfl
      obtain ⟨v4, y4, c4, e4, r4⟩ := hf 4 _ rfl
      obtain ⟨s0, q0, rfl, _⟩ := DataW.trod_string Tryd.underlying9 r0
      obtain ⟨b1, q1, rfl⟩ := DataW.trod_bool Tryd.underlying4 r1
      obtain ⟨n2, q2, rfl, w2⟩ := DataW.trod_int Tryd.underlying3 r2
      obtain ⟨s3, q3, rfl, _⟩ := DataW.trod_string Tryd.underlying9 r3
      obtain ⟨n4, q4, rfl, w4⟩ := DataW.trod_int Tryd.underlying3 r4
      obtain rfl : v0 = .string s0 := by simpa using q0
      obtain rfl : v1 = .bool b1 := by simpa using q1
      obtain rfl : v2 = .int .i64 n2 := by simpa using q2
      obtain rfl : v3 = .string s3 := by simpa using q3
      obtain rfl : v4 = .int .i64 n4 := by simpa using q4
      have hb1 := RowKit2.bulk_part (H := H) (d := D i) (l := (List.range len).map D) (List.mem_map.2 ⟨i, List.mem_range.2 hil, rfl⟩)
      rw [hD] at hb1
      simp only [Rows.uptoBulk] at hb1
      have hs0 := RowKit2.bulk_part (H := H) (d := .lit (.string s0.data.toList)) (l := ys.map (·.1)) (List.mem_map.2 ⟨_, List.mem_of_getElem? e0, rfl⟩)
      have hs3 := RowKit2.bulk_part (H := H) (d := .lit (.string s3.data.toList)) (l := ys.map (·.1)) (List.mem_map.2 ⟨_, List.mem_of_getElem? e3, rfl⟩)
      rw [RowKit2.bulk_string] at hs0 hs3
      have i2 := RowKit2.wf_i64 w2
      have i4 := RowKit2.wf_i64 w4
      refine ⟨⟨s0.data.toList, b1, n2, s3.data.toList, n4⟩, ⟨by rw [Com.mk_data]; exact c0, c1, c2, by rw [Com.mk_data]; exact c3, c4⟩, ?_, ?_, i2.1, i2.2, i4.1, i4.2⟩
      · show s0.data.toList.length ≤ _; omega
      · show s3.data.toList.length ≤ _; omega
    refine ⟨es, hes.symm, ?_, fun e he => ?_, by omega⟩
    · rcases Nat.eq_zero_or_pos es.length with h0 | h0
      · exact .inl (List.eq_nil_of_length_eq_zero h0)
      · obtain ⟨⟨hc0, _⟩, _⟩ := hp 0 es[0] (List.getElem?_eq_getElem h0)
        obtain ⟨b, off, spot⟩ := ad
        obtain rfl : spot = none := by simpa [Addr.add] using World.cell?_spot hc0
        have hbl : b < W.heap.size := World.block_lt_of_cell? W _ (by simpa [Addr.add] using hc0)
        refine .inr ⟨b, off, rfl, hbl, fun j e he => ?_⟩
        obtain ⟨⟨c0, c1, c2, c3, c4⟩, _⟩ := hp j e he
        simp only [RowKit2.addr_add] at c0 c1 c2 c3 c4
        refine ⟨c0, ?_, ?_, ?_, ?_⟩
        · rw [Nat.add_assoc]; exact c1
        · rw [Nat.add_assoc]; exact c2
        · rw [Nat.add_assoc]; exact c3
        · rw [Nat.add_assoc]; exact c4
    · obtain ⟨j, hj, rfl⟩ := List.getElem_of_mem he
      exact (hp j _ (List.getElem?_eq_getElem hj)).2

set_option maxRecDepth 100000 in
theorem contract (H : Type) (enc : TypeId × Value → H) (W : World) (base : Nat) (args : Array Value) (ds gs : List (DataW H)) (before : List MemPlace)
    (hval : ∀ (j : Nat) t v, Tryd.f5.params[j]? = some t → args[j]? = some v → Value.okWide Tryd.prog W .any base t v)
    (hW : DataW.Whole enc Tryd.prog Tryd.f5.params.toList Rows.xmlTellsSpec.vars false W args.toList ds gs before) (hk : Rows.uptoSmall H (ds ++ gs) = true) (hL : laidMetH Tryd.prog Rows.xmlTellsRow.laid W) (_hsh : W.ShapedOpen Tryd.prog) :
    Calls Tryd.prog 5 args W fun e W' => ∃ v, e = .returned v ∧ Rows.xmlTellsSpec.post enc Tryd.prog Tryd.f5 false true false false W args v W' := by
  have hW' := hW
  have hlt : ∀ x ∈ before, x.block < W.heap.size := fun x hx => hW'.lt x hx
  obtain ⟨p, q, hA0, hV, rfl, hfz, hnd⟩ := hW
  have hA : DataW.TrodAll enc Tryd.prog W 0 (fun _ => true) true Tryd.f5.params.toList args.toList ds p := hA0
  rw [Tryd.params5] at hA hval
  obtain ⟨v0, vs0, d0, ds0, p0, q0, hargs, rfl, rfl, h0, r0⟩ := trodAll_cons hA
  obtain ⟨rfl, rfl, rfl⟩ := trodAll_nil r0
  obtain rfl : args = #[v0] := by cases args; simp_all
  obtain ⟨rfl, rfl⟩ := trodVars_none hV
  have hbd := RowKit2.bound hk
  obtain ⟨c0, c1, y0, y1, m, rfl, rfl, rfl, hy0, hy1⟩ := Go.Joins.open_agg2 Tryd.underlying40 (by kernel_rfl) (by kernel_rfl) (hval 0 40 v0 rfl rfl) h0
  simp only [List.append_nil, Rows.uptoBulkAll, Rows.uptoBulk] at hbd
  obtain ⟨s1, e1, rfl, _⟩ := DataW.trod_string Tryd.underlying9 hy1
  obtain rfl : c1 = .string s1 := by simpa using e1
  rw [RowKit2.bulk_string, Com.toList_length] at hbd
  obtain ⟨a, len, cap, rfl⟩ : ∃ a len cap, c0 = .slice a len cap := by
    rcases Go.Deep.open_slice Tryd.underlying38 hy0 with ⟨h, _⟩ | ⟨a, len, cap, _, _, _, _, h, _⟩
    · exact ⟨_, _, _, by simpa using h⟩
    · exact ⟨_, _, _, by simpa using h⟩
  obtain ⟨es, rfl, hs, hf, hn⟩ := open_ents hy0 (fun x hx => hlt x (by simp [hx])) (by omega)
  refine (XmlJ.tells s1 a cap es W (by omega) hn hf (tab hL) hs).mono fun e W' ⟨he, hb⟩ => ?_
  exact RowKit2.law_post rfl (by kernel_rfl) (by kernel_rfl) rfl hW' he hb

theorem door_met (os : Os) (args : Array Value) : laidMetH Tryd.prog Rows.xmlTellsUptoRow.laid ((World.doorLaid Tryd.prog 414 os).forCall (fun _ _ => 0) ⟨#[], args, []⟩).memory :=
  laidMetH_of_parts3 (fuel := 8) (laidMet_of_run' 8 (by kernel_rfl) (by kernel_rfl)) (by kernel_rfl) (by kernel_rfl)
theorem reads (os : Os) {H : Type} (enc : TypeId × Value → H) : ∃ places, DataW.whole enc Tryd.prog ((World.doorLaid Tryd.prog 414 os).forCall (fun _ _ => 0) ⟨#[], #[.agg #[.slice none 0 0, .string ⟨#[]⟩]], []⟩).memory Tryd.f5.params.toList Rows.xmlTellsSpec.vars false #[.agg #[.slice none 0 0, .string ⟨#[]⟩]].toList 8 = some ([.agg [.nil, .lit (.string [])]], [], places) :=
  ⟨[], by kernel_rfl⟩

set_option maxRecDepth 100000 in
theorem lifted (os : Os) (started : os.Started) (H : Type) (enc : TypeId × Value → H) (F : Stop.Interp) :
    ReturnsInHanded {} Tryd.checked os 5 .any ((Rows.OpenSpec.upto Rows.xmlTellsSpec).preRow enc Tryd.prog Tryd.f5 Rows.xmlTellsUptoRow.domain false Rows.xmlTellsUptoRow.laid) (((Rows.OpenSpec.upto Rows.xmlTellsSpec).at F).post enc Tryd.prog Tryd.f5 false true false false) := by
  obtain ⟨places, hx⟩ := reads os enc
  refine returnsInHanded_of_row (C := Tryd.checked) (s := Rows.OpenSpec.upto Rows.xmlTellsSpec) RowKit2.own started (by kernel_rfl) Tryd.func5
    (witness_row_atRef (enc := enc) (C := Tryd.checked) false (World.doorLaid Tryd.prog 414 os) #[.agg #[.slice none 0 0, .string ⟨#[]⟩]] rfl (by kernel_rfl) (by kernel_rfl) (by kernel_rfl)
      (OpenSpec.preRow_of_cond 8 hx (by kernel_rfl) (fun k hk => by cases hk; kernel_rfl) (by kernel_rfl) (door_met os _))) ?_
  intro W base args ds gs before hval hW _ hcond hz hL hsh _
  exact contract H enc W base args ds gs before hval hW (hcond _ rfl) hL hsh

theorem said : Rows.XmlTellsUptoSaid :=
  OpenClaim.holds_of_cond 5 Tryd.f5 rfl rfl rfl rfl rfl rfl rfl ⟨rfl, rfl, rfl, rfl, rfl⟩ rfl rfl rfl rfl rfl (by kernel_rfl) Tryd.func5 (by kernel_rfl)
    (of_decide_eq_true (by kernel_rfl)) (by unfold Func.isWrapper; first | (rw [if_pos (by decide +kernel)]; kernel_rfl) | (rw [if_neg (by decide +kernel)]; exact ⟨rfl, rfl⟩))
    (fun os started H enc _ F => by rw [OpenClaim.pre_eq_preRow]; exact lifted os started H enc F)

theorem plain (f : FuncId) (fn : Func) (hf : Tryd.pinned.checked.prog.funcNamed "bollard/bollardlaw19.XmlTells" = some f) (hfn : Tryd.pinned.checked.prog.funcs[f]? = some fn) :
    Rows.xmlTellsUptoCard.stood.looks = Tryd.pinned.checked.prog.looks [] ∧ ∀ (j : Nat) t, fn.params[j]? = some t → Tryd.pinned.checked.prog.wantsStandIn t = false := by
  obtain rfl : f = 5 := Option.some.inj ((show Tryd.prog.funcNamed "bollard/bollardlaw19.XmlTells" = some 5 by kernel_rfl).symm.trans hf) |>.symm
  obtain rfl : fn = Tryd.f5 := (Option.some.inj (Tryd.func5.symm.trans hfn)).symm
  refine ⟨by kernel_rfl, fun j t ht => ?_⟩
  rw [Tryd.params5] at ht
  have hm : t ∈ [40] := by simpa using Array.mem_of_getElem? ht
  have hall : ([40].all fun u => !Tryd.prog.wantsStandIn u) = true := by kernel_rfl
  exact (show Tryd.prog.wantsStandIn t = false by simpa using List.all_eq_true.1 hall t hm)

/-- ████ THE CARD ████ -/
theorem card : Rows.XmlTellsUptoCardSaid :=
  Claim7.holds_tied_plain_at .later [] _ _ _ _ said (fun _ h => by cases h) (by kernel_rfl) (fun _ h => by cases h) xmlTellsUpto_row_tie rfl ⟨rfl, rfl⟩ (by kernel_rfl) rfl plain (by kernel_rfl)
#print axioms card
end Go.Proofs.YtmimkgfkicgfiaaDoor.xmlTells
