/-
  The law bollardlaw17.UriWrites answers true for every uri, text and choice. Conditions: what it reads is of bulk at most 1048576 (the given second form); the listed variables are as start-up lays them (the card ties them).
-/
import Derived.Test.YtmimkgfkicgfiaaDoorUriY
import Derived.Test.YtmimkgfkicgfiaaDoorUriJ
namespace Go.Proofs.YtmimkgfkicgfiaaDoor.uriWrites
open Go.ChangeShapes Go.WideShapes Go.ChangeAt Go.RowKit Go.Proofs.YtmimkgfkicgfiaaDoor
open Go.ChangeMaps (open_string shut_string)

/-- a struct's fields, each by itself -/
theorem struct_at {H : Type} {enc : TypeId × Value → H} {P : Program} {w : World} {base : Nat} {spare : Nat → Bool} {held : Bool} {t : TypeId} {fs : Array Field} {n : Nat} {cs : List Value} {x : DataW H × List MemPlace}
    (he : P.underlying t = some (.struct fs)) (h : DataW.trod enc P w base spare held n t cs = some x) :
    ∃ (ys : List (DataW H × List MemPlace)) (k : Nat), x.1 = .agg (ys.map (·.1)) ∧ (∀ z ∈ ys, ∀ q ∈ z.2, q ∈ x.2) ∧ cs.length = P.cellsOf t ∧
      ∀ (j : Nat) (f : Field), fs[j]? = some f → ∃ z, ys[j]? = some z ∧ DataW.trod enc P w base spare held k f.type ((cs.drop f.offset).take (P.cellsOf f.type)) = some z := by
  obtain ⟨ys, k, _, hx, hl, hyl, hf⟩ := DataW.trod_struct he h
  subst hx
  refine ⟨ys, k, rfl, fun z hz q hq => List.mem_flatMap.2 ⟨z, hz, hq⟩, hl, fun j f hj => ?_⟩
  have hjl : j < fs.size := (Array.getElem?_eq_some_iff.1 hj).1
  have hys : ys[j]? = some (ys[j]'(by omega)) := List.getElem?_eq_getElem (by omega)
  exact ⟨_, hys, (hf j f hj).trans hys⟩
theorem bulk_of {H : Type} {ys : List (DataW H × List MemPlace)} {j : Nat} {z : DataW H × List MemPlace} (h : ys[j]? = some z) : Rows.uptoBulk z.1 ≤ Rows.uptoBulkAll (ys.map (·.1)) :=
  RowKit2.bulk_part (List.mem_map.2 ⟨z, List.mem_of_getElem? h, rfl⟩)

theorem cStr : Tryd.prog.cellsOf 9 = 1 := by kernel_rfl
theorem cUri : Tryd.prog.cellsOf 25 = 2 := by kernel_rfl
theorem cRow : Tryd.prog.cellsOf 23 = 1 := by kernel_rfl
theorem two {l : Array Value} (h : l.size = 2) : ∃ a b, l = #[a, b] := by
  obtain ⟨l⟩ := l
  match l, h with
  | [a, b], _ => exact ⟨a, b, rfl⟩

/-- pairs that came in -/
theorem open_pairs {H : Type} {enc : TypeId × Value → H} {W : World} {v : Value} {y : DataW H × List MemPlace} {n : Nat}
    (h : DataW.trod enc Tryd.prog W 0 (fun _ => true) true n 23 [v] = some y) (hk : Rows.uptoBulk y.1 ≤ 1048576) :
    ∃ (a : Option Addr) (ps : List (List UInt8 × List UInt8)) (c : Nat), v = .slice a ps.length c ∧ UriC.Pairs W a ps ∧ (∀ q ∈ ps, q.1.length ≤ 1048576 ∧ q.2.length ≤ 1048576) ∧ ps.length ≤ 1048576 := by
  rcases RowKit2.open_structs Tryd.underlying23 Tryd.underlying93 (by kernel_rfl) (by kernel_rfl) h with ⟨hcs, hx⟩ | ⟨ad, len, cap, m, D, Pl, hcs, hl, hm, hmm, hx, hi⟩
  · obtain rfl : v = .slice none 0 0 := by simpa using hcs
    exact ⟨none, [], 0, rfl, .inl rfl, fun e he => by simp at he, by simp⟩
  · obtain rfl : v = .slice (some ad) len cap := by simpa using hcs
    simp at hmm
    subst hmm hx
    simp only [Rows.uptoBulk] at hk
    have hlen := RowKit2.bulk_length (H := H) ((List.range len).map D)
    rw [List.length_map, List.length_range] at hlen
    obtain ⟨es, hes, hp⟩ := RowKit2.list_of (p := fun i (e : (List UInt8 × List UInt8)) =>
      (W.cell? (ad.add (i * 2 + 0)) = some (.string ⟨e.1.toArray⟩) ∧ W.cell? (ad.add (i * 2 + 1)) = some (.string ⟨e.2.toArray⟩)) ∧ e.1.length ≤ 1048576 ∧ e.2.length ≤ 1048576) len fun i hil => by
      obtain ⟨ys, k, hD, hyl, hf⟩ := hi i (by omega)
      obtain ⟨v0, y0, c0, e0, r0⟩ := hf 0 _ rfl
      obtain ⟨v1, y1, c1, e1, r1⟩ := hf 1 _ rfl
      obtain ⟨s0, q0, rfl, _⟩ := DataW.trod_string Tryd.underlying9 r0
      obtain ⟨s1, q1, rfl, _⟩ := DataW.trod_string Tryd.underlying9 r1
      obtain rfl : v0 = .string s0 := by simpa using q0
      obtain rfl : v1 = .string s1 := by simpa using q1
      have hb1 := RowKit2.bulk_part (H := H) (d := D i) (l := (List.range len).map D) (List.mem_map.2 ⟨i, List.mem_range.2 hil, rfl⟩)
      rw [hD] at hb1
      simp only [Rows.uptoBulk] at hb1
      have hs0 := RowKit2.bulk_part (H := H) (d := .lit (.string s0.data.toList)) (l := ys.map (·.1)) (List.mem_map.2 ⟨_, List.mem_of_getElem? e0, rfl⟩)
      have hs1 := RowKit2.bulk_part (H := H) (d := .lit (.string s1.data.toList)) (l := ys.map (·.1)) (List.mem_map.2 ⟨_, List.mem_of_getElem? e1, rfl⟩)
      rw [RowKit2.bulk_string] at hs0 hs1
      refine ⟨(s0.data.toList, s1.data.toList), ⟨by rw [Com.mk_data]; exact c0, by rw [Com.mk_data]; exact c1⟩, ?_, ?_⟩
      · show s0.data.toList.length ≤ _; omega
      · show s1.data.toList.length ≤ _; omega
    refine ⟨some ad, es, m, by rw [hes], ?_, fun e he => ?_, by omega⟩
    · rcases Nat.eq_zero_or_pos es.length with h0 | h0
      · exact .inl (List.eq_nil_of_length_eq_zero h0)
      · obtain ⟨⟨hc0, _⟩, _⟩ := hp 0 es[0] (List.getElem?_eq_getElem h0)
        obtain ⟨b, off, spot⟩ := ad
        obtain rfl : spot = none := by simpa [Addr.add] using World.cell?_spot hc0
        have hbl : b < W.heap.size := World.block_lt_of_cell? W _ (by simpa [Addr.add] using hc0)
        refine .inr ⟨b, off, rfl, hbl, fun j e he => ?_⟩
        obtain ⟨⟨c0, c1⟩, _⟩ := hp j e he
        simp only [RowKit2.addr_add] at c0 c1
        exact ⟨c0, by rw [Nat.add_assoc]; exact c1⟩
    · obtain ⟨j, hj, rfl⟩ := List.getElem_of_mem he
      exact (hp j _ (List.getElem?_eq_getElem hj)).2

/-- a uri's two cells -/
theorem open_uri {H : Type} {enc : TypeId × Value → H} {w : World} {n : Nat} {c0 c1 : Value} {x : DataW H × List MemPlace}
    (h : DataW.trod enc Tryd.prog w 0 (fun _ => true) true n 25 [c0, c1] = some x) (hk : Rows.uptoBulk x.1 ≤ 1048576) :
    ∃ (p : ByteArray) (a : Option Addr) (ps : List (List UInt8 × List UInt8)) (c : Nat), c0 = .string p ∧ c1 = .slice a ps.length c ∧ p.size ≤ 1048576 ∧ UriC.Pairs w a ps ∧ (∀ q ∈ ps, q.1.length ≤ 1048576 ∧ q.2.length ≤ 1048576) ∧ ps.length ≤ 1048576 := by
  obtain ⟨ys, k, hx, _, _, hf⟩ := struct_at Tryd.underlying25 h
  obtain ⟨z0, y0, r0⟩ := hf 0 _ rfl
  obtain ⟨z1, y1, r1⟩ := hf 1 _ rfl
  have r0 : DataW.trod enc Tryd.prog w 0 (fun _ => true) true k 9 (([c0, c1].drop 0).take (Tryd.prog.cellsOf 9)) = some z0 := r0
  rw [cStr] at r0
  have r1 : DataW.trod enc Tryd.prog w 0 (fun _ => true) true k 23 (([c0, c1].drop 1).take (Tryd.prog.cellsOf 23)) = some z1 := r1
  rw [cRow] at r1
  rw [hx] at hk
  simp only [Rows.uptoBulk] at hk
  have b0 := bulk_of y0
  have b1 := bulk_of y1
  obtain ⟨s0, q0, e0, _⟩ := DataW.trod_string Tryd.underlying9 r0
  rw [e0] at b0
  rw [RowKit2.bulk_string, Com.toList_length] at b0
  have r1' : DataW.trod enc Tryd.prog w 0 (fun _ => true) true k 23 [c1] = some z1 := r1
  obtain ⟨a, ps, c, rfl, hp, hq, hl⟩ := open_pairs r1' (by omega)
  exact ⟨s0, a, ps, c, by simpa using q0, rfl, by omega, hp, hq, hl⟩

set_option maxHeartbeats 1000000 in
set_option maxRecDepth 100000 in
theorem contract (H : Type) (enc : TypeId × Value → H) (W : World) (base : Nat) (args : Array Value) (ds gs : List (DataW H)) (before : List MemPlace)
    (hval : ∀ (j : Nat) t v, Tryd.f12.params[j]? = some t → args[j]? = some v → Value.okWide Tryd.prog W .any base t v)
    (hW : DataW.Whole enc Tryd.prog Tryd.f12.params.toList Rows.uriWritesSpec.vars false W args.toList ds gs before) (hk : Rows.uptoSmall H (ds ++ gs) = true) (hL : laidMetH Tryd.prog Rows.uriPlainRow.laid W) (hsh : W.ShapedOpen Tryd.prog) :
    Calls Tryd.prog 12 args W fun e W' => ∃ v, e = .returned v ∧ Rows.uriWritesSpec.post enc Tryd.prog Tryd.f12 false true false false W args v W' := by
  have hW' := hW
  obtain ⟨p, q, hA0, hV, rfl, hfz, hnd⟩ := hW
  have hA : DataW.TrodAll enc Tryd.prog W 0 (fun _ => true) true Tryd.f12.params.toList args.toList ds p := hA0
  rw [Tryd.params12] at hA hval
  obtain ⟨v0, vs0, d0, ds0, p0, q0, hargs, rfl, rfl, h0, r0⟩ := trodAll_cons hA
  obtain ⟨v1, vs1, d1, ds1, p1, q1, rfl, rfl, rfl, h1, r1⟩ := trodAll_cons r0
  obtain ⟨v2, vs2, d2, ds2, p2, q2, rfl, rfl, rfl, h2, r2⟩ := trodAll_cons r1
  obtain ⟨rfl, rfl, rfl⟩ := trodAll_nil r2
  obtain rfl : args = #[v0, v1, v2] := by cases args; simp_all
  obtain ⟨rfl, rfl⟩ := trodVars_none hV
  have hbd := RowKit2.bound hk
  obtain ⟨cs, rfl, hsz⟩ := okWide_struct Tryd.underlying25 (hval 0 25 v0 rfl rfl)
  obtain ⟨x0, x1, rfl⟩ := two (hsz.trans cUri)
  obtain ⟨fuel, h0f⟩ := h0
  have h0g : DataW.trod enc Tryd.prog W 0 (fun _ => true) true fuel 25 [x0, x1] = some (d0, p0) := h0f
  obtain ⟨s1, rfl⟩ := okWide_string Tryd.underlying9 (hval 1 9 v1 rfl rfl)
  obtain ⟨b2, rfl⟩ := UriJ.okWide_bool Tryd.underlying4 (hval 2 4 v2 rfl rfl)
  obtain ⟨n1, h1⟩ := h1
  obtain ⟨s1', e1, hx, _⟩ := DataW.trod_string Tryd.underlying9 h1
  simp only [Prod.mk.injEq] at hx
  obtain ⟨rfl, rfl⟩ := hx
  obtain rfl : s1 = s1' := by simpa [Value.cells] using e1
  simp only [List.append_nil, Rows.uptoBulkAll, RowKit2.bulk_string] at hbd
  obtain ⟨pth, a, ps, c, rfl, rfl, hpl, hp, hq, hl⟩ := open_uri h0g (by show Rows.uptoBulk d0 ≤ 1048576; omega)
  obtain ⟨aU, he⟩ := UriJ.eu hL
  have hcall := UriY.writes pth c s1.data.toList b2 W he (UriB.Mx.shaped hsh) hp hpl (by omega) hq hl
  rw [Com.mk_data] at hcall
  refine hcall.mono fun e W' ⟨he, hb⟩ => ?_
  exact RowKit2.law_post rfl (by kernel_rfl) (by kernel_rfl) rfl hW' he hb

theorem door_met (os : Os) (args : Array Value) : laidMetH Tryd.prog Rows.uriWritesUptoRow.laid ((UriJ.w0 os).forCall (fun _ _ => 0) ⟨#[], args, []⟩).memory :=
  UriJ.w0_met os args
theorem reads (os : Os) {H : Type} (enc : TypeId × Value → H) : ∃ places, DataW.whole enc Tryd.prog ((UriJ.w0 os).forCall (fun _ _ => 0) ⟨#[], #[.agg #[.string ⟨#[]⟩, .slice none 0 0], .string ⟨#[]⟩, .bool false], []⟩).memory Tryd.f12.params.toList Rows.uriWritesSpec.vars false #[.agg #[.string ⟨#[]⟩, .slice none 0 0], .string ⟨#[]⟩, .bool false].toList 8 = some ([.agg [.lit (.string []), .nil], .lit (.string []), .lit (.bool false)], [], places) :=
  ⟨[], by kernel_rfl⟩

set_option maxRecDepth 100000 in
theorem lifted (os : Os) (started : os.Started) (H : Type) (enc : TypeId × Value → H) (F : Stop.Interp) :
    ReturnsInHanded {} Tryd.checked os 12 .any ((Rows.OpenSpec.upto Rows.uriWritesSpec).preRow enc Tryd.prog Tryd.f12 Rows.uriWritesUptoRow.domain false Rows.uriWritesUptoRow.laid) (((Rows.OpenSpec.upto Rows.uriWritesSpec).at F).post enc Tryd.prog Tryd.f12 false true false false) := by
  obtain ⟨places, hx⟩ := reads os enc
  refine returnsInHanded_of_row (C := Tryd.checked) (s := Rows.OpenSpec.upto Rows.uriWritesSpec) RowKit2.own started (by kernel_rfl) Tryd.func12
    (witness_row_atRef (enc := enc) (C := Tryd.checked) false (UriJ.w0 os) #[.agg #[.string ⟨#[]⟩, .slice none 0 0], .string ⟨#[]⟩, .bool false] (UriJ.w0_os os) (by kernel_rfl) (by kernel_rfl) (by kernel_rfl)
      (OpenSpec.preRow_of_cond 8 hx (by kernel_rfl) (fun k hk => by cases hk; kernel_rfl) (by kernel_rfl) (door_met os _))) ?_
  intro W base args ds gs before hval hW _ hcond hz hL hsh _
  exact contract H enc W base args ds gs before hval hW (hcond _ rfl) hL hsh

theorem said : Rows.UriWritesUptoSaid :=
  OpenClaim.holds_of_cond 12 Tryd.f12 rfl rfl rfl rfl rfl rfl rfl ⟨rfl, rfl, rfl, rfl, rfl⟩ rfl rfl rfl rfl rfl (by kernel_rfl) Tryd.func12 (by kernel_rfl)
    (of_decide_eq_true (by kernel_rfl)) (by unfold Func.isWrapper; first | (rw [if_pos (by decide +kernel)]; kernel_rfl) | (rw [if_neg (by decide +kernel)]; exact ⟨rfl, rfl⟩))
    (fun os started H enc _ F => by rw [OpenClaim.pre_eq_preRow]; exact lifted os started H enc F)

theorem plain (f : FuncId) (fn : Func) (hf : Tryd.pinned.checked.prog.funcNamed "bollard/bollardlaw17.UriWrites" = some f) (hfn : Tryd.pinned.checked.prog.funcs[f]? = some fn) :
    Rows.uriWritesUptoCard.stood.looks = Tryd.pinned.checked.prog.looks [] ∧ ∀ (j : Nat) t, fn.params[j]? = some t → Tryd.pinned.checked.prog.wantsStandIn t = false := by
  obtain rfl : f = 12 := Option.some.inj ((show Tryd.prog.funcNamed "bollard/bollardlaw17.UriWrites" = some 12 by kernel_rfl).symm.trans hf) |>.symm
  obtain rfl : fn = Tryd.f12 := (Option.some.inj (Tryd.func12.symm.trans hfn)).symm
  refine ⟨by kernel_rfl, fun j t ht => ?_⟩
  rw [Tryd.params12] at ht
  have hm : t ∈ [25, 9, 4] := by simpa using Array.mem_of_getElem? ht
  have hall : ([25, 9, 4].all fun u => !Tryd.prog.wantsStandIn u) = true := by kernel_rfl
  exact (show Tryd.prog.wantsStandIn t = false by simpa using List.all_eq_true.1 hall t hm)

/-- ████ THE CARD ████ -/
theorem card : Rows.UriWritesUptoCardSaid :=
  Claim7.holds_tied_plain_at .later [] _ _ _ _ said (fun _ h => by cases h) (by kernel_rfl) (fun _ h => by cases h) uriWritesUpto_row_tie rfl ⟨rfl, rfl⟩ (by kernel_rfl) rfl plain (by kernel_rfl)
#print axioms card
end Go.Proofs.YtmimkgfkicgfiaaDoor.uriWrites
