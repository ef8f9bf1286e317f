/-
  The law bollardlaw16.HttpWrites answers true for every response. Conditions: what it reads is of bulk at most 1048576 (the given second form); the listed variables are as start-up lays them (the card ties them).
-/
import Derived.Test.YtnhjbcjeeilicaaDoorHtBM
import Derived.Test.YtnhjbcjeeilicaaDoorHtR
namespace Go.Proofs.YtnhjbcjeeilicaaDoor.httpWrites
open Go.ChangeShapes Go.WideShapes Go.ChangeAt Go.RowKit Go.Proofs.YtnhjbcjeeilicaaDoor Go.Proofs.YtnhjbcjeeilicaaDoor.Ht Go.Proofs.YtnhjbcjeeilicaaDoor.HtW Go.Proofs.YtnhjbcjeeilicaaDoor.HtJ

theorem sum_le {H : Type} {α : Type} (g : α → Nat) (D : Nat → DataW H) : ∀ (n : Nat) (es : List α), es.length = n → (∀ i x, es[i]? = some x → g x ≤ Rows.uptoBulk (D i)) → (es.map g).sum ≤ Rows.uptoBulkAll ((List.range n).map D)
  | 0, es, h, _ => by rw [List.eq_nil_of_length_eq_zero h]; simp
  | n + 1, es, h, hg => by
    obtain ⟨r, x, rfl⟩ : ∃ r x, es = r ++ [x] := ⟨es.dropLast, es.getLast (by intro e; subst e; cases h), (List.dropLast_concat_getLast _).symm⟩
    have hr : r.length = n := by simpa using h
    have ih := sum_le g D n r hr fun i y hy => hg i y (by rw [List.getElem?_append_left (List.getElem?_eq_some_iff.1 hy).1]; exact hy)
    have hx := hg n x (by rw [List.getElem?_append_right (by omega), hr]; simp)
    rw [List.range_succ, List.map_append (f := D), RowKit2.bulk_append, List.map_append (f := g), List.sum_append]
    simp only [List.map_cons, List.map_nil, Rows.uptoBulkAll, List.sum_cons, List.sum_nil]
    omega
/-- fields that came in: how long they are together -/
theorem fields_sum {H : Type} {enc : TypeId × Value → H} {W : World} {a : Option Addr} {fs : List Fld} {c : Nat} {y : DataW H × List MemPlace} {n : Nat}
    (h : DataW.trod enc Tryd.prog W 0 (fun _ => true) true n 22 [.slice a fs.length c] = some y) (hf : Fs W a fs) :
    (fs.map fun q => q.1.length + q.2.length + 1).sum ≤ Rows.uptoBulk y.1 := by
  rcases RowKit2.open_structs Tryd.underlying22 Tryd.underlying30 (by kernel_rfl) (by kernel_rfl) h with ⟨hcs, hx⟩ | ⟨ad, len, cap, m, D, Pl, hcs, hl, hm, hmm, hx, hi⟩
  · have : fs.length = 0 := by simpa using (show Value.slice a fs.length c = .slice none 0 0 by simpa using hcs) |> fun e => (Value.slice.inj e).2.1
    rw [List.eq_nil_of_length_eq_zero this]
    simp
  · have e : Value.slice a fs.length c = .slice (some ad) len cap := by simpa using hcs
    obtain ⟨rfl, rfl, rfl⟩ := Value.slice.inj e
    simp at hmm
    subst hmm hx
    simp only [Rows.uptoBulk]
    have h1 := sum_le (fun q : Fld => q.1.length + q.2.length + 1) D fs.length fs rfl fun i q hq => by
      obtain ⟨ys, k, hD, hyl, hff⟩ := hi i (by have := (List.getElem?_eq_some_iff.1 hq).1; omega)
      obtain ⟨v0, y0, c0, e0, r0⟩ := hff 0 _ rfl
      obtain ⟨v1, y1, c1, e1, r1⟩ := hff 1 _ rfl
      obtain ⟨s0, q0, rfl, _⟩ := DataW.trod_string Tryd.underlying9 r0
      obtain ⟨s1, q1, rfl, _⟩ := DataW.trod_string Tryd.underlying9 r1
      obtain rfl : v0 = .string s0 := by simpa using q0
      obtain rfl : v1 = .string s1 := by simpa using q1
      obtain ⟨b, o, ha, _, d0, d1⟩ := Fs.at hf hq
      cases ha
      simp only [RowKit2.addr_add] at c0 c1
      rw [Nat.add_zero] at c0
      rw [← Nat.add_assoc] at c1
      have c0 : W.cell? ⟨b, o + i * 2, none⟩ = some (.string s0) := c0
      have c1 : W.cell? ⟨b, o + i * 2 + 1, none⟩ = some (.string s1) := c1
      rw [d0] at c0
      rw [d1] at c1
      have t0 : q.1 = s0.data.toList := by have := Option.some.inj c0; simp only [Value.string.injEq] at this; rw [← this]
      have t1 : q.2 = s1.data.toList := by have := Option.some.inj c1; simp only [Value.string.injEq] at this; rw [← this]
      rw [hD, t0, t1]
      simp only [Rows.uptoBulk]
      match ys, e0, e1 with
      | [z0, z1], e0, e1 =>
        simp only [List.getElem?_cons_zero, Option.some.injEq] at e0
        simp only [List.getElem?_cons_succ, List.getElem?_cons_zero, Option.some.injEq] at e1
        subst e0 e1
        simp only [List.map_cons, List.map_nil, Rows.uptoBulkAll, RowKit2.bulk_string]
        omega
      | z0 :: z1 :: z2 :: r, e0, e1 => simp at hyl
    omega
theorem lines_len (fs : List Fld) : (fs.flatMap lineOf).length ≤ 4 * (fs.map fun q => q.1.length + q.2.length + 1).sum := by
  induction fs with
  | nil => simp
  | cons q r ih =>
    have e : (lineOf q).length = q.1.length + 2 + q.2.length + 2 := by simp [lineOf]; omega
    rw [List.flatMap_cons, List.length_append, List.map_cons, List.sum_cons, e]
    omega

set_option maxRecDepth 100000 in
theorem contract (H : Type) (enc : TypeId × Value → H) (W : World) (base : Nat) (args : Array Value) (ds gs : List (DataW H)) (before : List MemPlace)
    (hval : ∀ (j : Nat) t v, Tryd.f4.params[j]? = some t → args[j]? = some v → Value.okWide Tryd.prog W .any base t v)
    (hW : DataW.Whole enc Tryd.prog Tryd.f4.params.toList Rows.httpWritesSpec.vars false W args.toList ds gs before) (hk : Rows.uptoSmall H (ds ++ gs) = true) (hL : laidMetH Tryd.prog Rows.httpFieldsRow.laid W) (hsh : W.ShapedOpen Tryd.prog) :
    Calls Tryd.prog 4 args W fun e W' => ∃ v, e = .returned v ∧ Rows.httpWritesSpec.post enc Tryd.prog Tryd.f4 false true false false W args v W' := by
  have hW' := hW
  obtain ⟨p, q, hA0, hV, rfl, hfz, hnd⟩ := hW
  have hA : DataW.TrodAll enc Tryd.prog W 0 (fun _ => true) true Tryd.f4.params.toList args.toList ds p := hA0
  rw [Tryd.params4] at hA hval
  obtain ⟨v0, vs0, d0, ds0, p0, q0, hargs, rfl, rfl, h0, r0⟩ := trodAll_cons hA
  obtain ⟨rfl, rfl, rfl⟩ := trodAll_nil r0
  obtain rfl : args = #[v0] := by cases args; simp_all
  obtain ⟨rfl, rfl⟩ := trodVars_none hV
  have hbd := RowKit2.bound hk
  obtain ⟨cs, rfl, hsz⟩ := okWide_struct Tryd.underlying35 (hval 0 35 v0 rfl rfl)
  obtain ⟨x0, x1, x2, rfl⟩ := HtR.three (hsz.trans HtR.cRes)
  obtain ⟨fuel, h0f⟩ := h0
  have h0g : DataW.trod enc Tryd.prog W 0 (fun _ => true) true fuel 35 [x0, x1, x2] = some (d0, p0) := h0f
  obtain ⟨ys, k, hx, _, _, hff⟩ := HtR.struct_at Tryd.underlying35 h0g
  obtain ⟨z1, y1, r1⟩ := hff 1 _ rfl
  have r1 : DataW.trod enc Tryd.prog W 0 (fun _ => true) true k 22 (([x0, x1, x2].drop 1).take (Tryd.prog.cellsOf 22)) = some z1 := r1
  rw [HtR.cFs] at r1
  obtain ⟨st, a, fs, c, ab, bd, cb, rfl, rfl, rfl, ⟨w0, w1⟩, hf, _, hn, _, hl, _, hb, _, hbl⟩ := HtR.open_res h0g
  have hs := fields_sum r1 hf
  have hb1 := HtR.bulk_of y1
  simp only at hx
  simp only [List.append_nil, Rows.uptoBulkAll] at hbd hl hbl
  have hd0 : Rows.uptoBulk d0 = Rows.uptoBulkAll (ys.map (·.1)) + 1 := by rw [hx]; simp only [Rows.uptoBulk]
  have hll := lines_len fs
  have la := Dec.itoa_len w0 w1
  have lb := Dec.itoa_len (n := (bd.length : Int)) (by omega) (by omega)
  have lr := rsn_len st
  have hwl : (wr st fs bd).length ≤ 4294967296 := by
    rw [HtBL.wr_form]
    simp only [HtJ.top, List.length_append, List.length_cons, List.length_nil]
    omega
  obtain ⟨aR, aL, he⟩ := HtR.errs hL
  have hcall := HtBM.writes st fs bd c cb W w0 w1 hf hn hb hwl (by omega) (by omega) (HtR.mx hsh) he (HtR.tab hL)
  refine hcall.mono fun e W' ⟨he, hb⟩ => ?_
  exact RowKit2.law_post rfl (by kernel_rfl) (by kernel_rfl) rfl hW' he hb

theorem door_met (os : Os) (args : Array Value) : laidMetH Tryd.prog Rows.httpWritesUptoRow.laid ((HtR.w0 os).forCall (fun _ _ => 0) ⟨#[], args, []⟩).memory :=
  HtR.w0_met os args
theorem reads (os : Os) {H : Type} (enc : TypeId × Value → H) : ∃ places, DataW.whole enc Tryd.prog ((HtR.w0 os).forCall (fun _ _ => 0) ⟨#[], #[.agg #[.int .i64 0, .slice none 0 0, .slice none 0 0]], []⟩).memory Tryd.f4.params.toList Rows.httpWritesSpec.vars false #[.agg #[.int .i64 0, .slice none 0 0, .slice none 0 0]].toList 8 = some ([.agg [.lit (.int .i64 0), .nil, .nil]], [], places) :=
  ⟨[], by kernel_rfl⟩

set_option maxRecDepth 100000 in
theorem lifted (os : Os) (started : os.Started) (H : Type) (enc : TypeId × Value → H) (F : Stop.Interp) :
    ReturnsInHanded {} Tryd.checked os 4 .any ((Rows.OpenSpec.upto Rows.httpWritesSpec).preRow enc Tryd.prog Tryd.f4 Rows.httpWritesUptoRow.domain false Rows.httpWritesUptoRow.laid) (((Rows.OpenSpec.upto Rows.httpWritesSpec).at F).post enc Tryd.prog Tryd.f4 false true false false) := by
  obtain ⟨places, hx⟩ := reads os enc
  refine returnsInHanded_of_row (C := Tryd.checked) (s := Rows.OpenSpec.upto Rows.httpWritesSpec) RowKit2.own started (by kernel_rfl) Tryd.func4
    (witness_row_atRef (enc := enc) (C := Tryd.checked) false (HtR.w0 os) #[.agg #[.int .i64 0, .slice none 0 0, .slice none 0 0]] (HtR.w0_os os) (by kernel_rfl) (by kernel_rfl) (by kernel_rfl)
      (OpenSpec.preRow_of_cond 8 hx (by kernel_rfl) (fun k hk => by cases hk; kernel_rfl) (by kernel_rfl) (door_met os _))) ?_
  intro W base args ds gs before hval hW _ hcond hz hL hsh _
  exact contract H enc W base args ds gs before hval hW (hcond _ rfl) hL hsh

theorem said : Rows.HttpWritesUptoSaid :=
  OpenClaim.holds_of_cond 4 Tryd.f4 rfl rfl rfl rfl rfl rfl rfl ⟨rfl, rfl, rfl, rfl, rfl⟩ rfl rfl rfl rfl rfl (by kernel_rfl) Tryd.func4 (by kernel_rfl)
    (of_decide_eq_true (by kernel_rfl)) (by unfold Func.isWrapper; first | (rw [if_pos (by decide +kernel)]; kernel_rfl) | (rw [if_neg (by decide +kernel)]; exact ⟨rfl, rfl⟩))
    (fun os started H enc _ F => by rw [OpenClaim.pre_eq_preRow]; exact lifted os started H enc F)

theorem plain (f : FuncId) (fn : Func) (hf : Tryd.pinned.checked.prog.funcNamed "bollard/bollardlaw16.HttpWrites" = some f) (hfn : Tryd.pinned.checked.prog.funcs[f]? = some fn) :
    Rows.httpWritesUptoCard.stood.looks = Tryd.pinned.checked.prog.looks [] ∧ ∀ (j : Nat) t, fn.params[j]? = some t → Tryd.pinned.checked.prog.wantsStandIn t = false := by
  obtain rfl : f = 4 := Option.some.inj ((show Tryd.prog.funcNamed "bollard/bollardlaw16.HttpWrites" = some 4 by kernel_rfl).symm.trans hf) |>.symm
  obtain rfl : fn = Tryd.f4 := (Option.some.inj (Tryd.func4.symm.trans hfn)).symm
  refine ⟨by kernel_rfl, fun j t ht => ?_⟩
  rw [Tryd.params4] at ht
  have hm : t ∈ [35] := by simpa using Array.mem_of_getElem? ht
  have hall : ([35].all fun u => !Tryd.prog.wantsStandIn u) = true := by kernel_rfl
  exact (show Tryd.prog.wantsStandIn t = false by simpa using List.all_eq_true.1 hall t hm)

/-- ████ THE CARD ████ -/
theorem card : Rows.HttpWritesUptoCardSaid :=
  Claim7.holds_tied_plain_at .later [] _ _ _ _ said (fun _ h => by cases h) (by kernel_rfl) (fun _ h => by cases h) httpWritesUpto_row_tie rfl ⟨rfl, rfl⟩ (by kernel_rfl) rfl plain (by kernel_rfl)
#print axioms card
