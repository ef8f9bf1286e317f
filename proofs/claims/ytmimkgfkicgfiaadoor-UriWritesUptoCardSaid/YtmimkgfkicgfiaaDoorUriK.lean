/-
  The walk of bollardref17's Parse.
-/
import Derived.Test.YtmimkgfkicgfiaaDoorUriC
import Derived.Test.YtmimkgfkicgfiaaDoorUriF
import Derived.Laws.ResultCell
namespace Go.Proofs.YtmimkgfkicgfiaaDoor.UriK
open Go.RowKit Go.Proofs.YtmimkgfkicgfiaaDoor Go.Proofs.YtmimkgfkicgfiaaDoor.UriC

theorem cutAt_lt {c : UInt8} {q : List UInt8} (h : q ≠ []) : (Up.cutAt c q).2.length < q.length := by
  by_cases hc : c ∈ q
  · obtain ⟨a, b, rfl, ha⟩ := Up.parts hc
    rw [Up.cutAt_at ha]; simp; omega
  · rw [Up.cutAt_free hc]
    exact List.length_pos_iff.2 h

/-- what has come of a query, and what is to come -/
def More (q : List UInt8) (ps : List (List UInt8 × List UInt8)) (r : List UInt8) : Prop :=
  Up.pairs (Up.splits 38 q) = match Up.pairs (Up.splits 38 r) with | some x => some (ps ++ x) | none => none
theorem More.start (q : List UInt8) : More q [] q := by
  unfold More; cases Up.pairs (Up.splits 38 q) <;> rfl
theorem More.done {q : List UInt8} {ps : List (List UInt8 × List UInt8)} (h : More q ps []) : Up.pairs (Up.splits 38 q) = some ps := by
  unfold More at h
  rw [h, show Up.splits 38 [] = [[]] from rfl]
  simp [Up.pairs]
theorem More.skip {q r : List UInt8} {ps : List (List UInt8 × List UInt8)} (h : More q ps r) (hp : (Up.cutAt 38 r).1 = []) : More q ps (Up.cutAt 38 r).2 := by
  unfold More at h ⊢
  rw [h, Up.pairs_cut r, hp, Up.pairs_skip]
theorem More.stop {q r : List UInt8} {ps : List (List UInt8 × List UInt8)} (h : More q ps r) (hp : (Up.cutAt 38 r).1 ≠ []) (hn : Up.dec (Up.cutAt 61 (Up.cutAt 38 r).1).1 = none ∨ Up.dec (Up.cutAt 61 (Up.cutAt 38 r).1).2 = none) : Up.pairs (Up.splits 38 q) = none := by
  unfold More at h
  rw [h, Up.pairs_cut r]
  have : Up.pair (Up.cutAt 38 r).1 = none := by
    simp only [Up.pair]
    rcases hn with hn | hn
    · rw [hn]
    · rw [hn]; cases Up.dec (Up.cutAt 61 (Up.cutAt 38 r).1).1 <;> rfl
  simp only [Up.pairs, if_neg hp, this]
theorem More.next {q r : List UInt8} {ps : List (List UInt8 × List UInt8)} {n v : List UInt8} (h : More q ps r) (hp : (Up.cutAt 38 r).1 ≠ []) (hn : Up.dec (Up.cutAt 61 (Up.cutAt 38 r).1).1 = some n) (hv : Up.dec (Up.cutAt 61 (Up.cutAt 38 r).1).2 = some v) : More q (ps ++ [(n, v)]) (Up.cutAt 38 r).2 := by
  unfold More at h ⊢
  rw [h, Up.pairs_cut r]
  have : Up.pair (Up.cutAt 38 r).1 = some (n, v) := by simp only [Up.pair, hn, hv]
  simp only [Up.pairs, if_neg hp, this]
  cases Up.pairs (Up.splits 38 (Up.cutAt 38 r).2) <;> simp

/-- what one piece does -/
structure Nx (q : List UInt8) (ps : List (List UInt8 × List UInt8)) (pc rs : List UInt8) : Prop where
  skip : pc = [] → More q ps rs
  stop : pc ≠ [] → (Up.dec (Up.cutAt 61 pc).1 = none ∨ Up.dec (Up.cutAt 61 pc).2 = none) → Up.pairs (Up.splits 38 q) = none
  next : pc ≠ [] → ∀ n v, Up.dec (Up.cutAt 61 pc).1 = some n → Up.dec (Up.cutAt 61 pc).2 = some v → More q (ps ++ [(n, v)]) rs
theorem More.nx {q r : List UInt8} {ps : List (List UInt8 × List UInt8)} (h : More q ps r) : Nx q ps (Up.cutAt 38 r).1 (Up.cutAt 38 r).2 :=
  ⟨fun e => h.skip e, fun e => h.stop e, fun e _ _ => h.next e⟩
/-- what the reference's Parse answers -/
def Says (o : Option Up.Uri) (e : Ending) (w : World) : Prop :=
  match o with
  | none => e = .returned (.tuple #[noUri, .bool false])
  | some u => ∃ a c, e = .returned (.tuple #[.agg #[.string ⟨u.path.toArray⟩, .slice a u.query.length c], .bool true]) ∧ u.query.length ≤ c ∧ Pairs w a u.query

/-- a result's block -/
def Ub (B : Nat) (w : World) (u0 u1 : Value) : Prop := w.heap[B]? = some (.cells #[u0, u1] 25 (0, 0))
theorem Ub.below {B : Nat} {w w' : World} {u0 u1 : Value} (h : Ub B w u0 u1) (hb : Below w.heap.size w w') : Ub B w' u0 u1 := (hb.block _ (Array.getElem?_eq_some_iff.1 h).1).trans h
theorem Ub.lt {B : Nat} {w : World} {u0 u1 : Value} (h : Ub B w u0 u1) : B < w.heap.size := (Array.getElem?_eq_some_iff.1 h).1
theorem Ub.cells {B : Nat} {w : World} {u0 u1 : Value} (h : Ub B w u0 u1) : w.cell? ⟨B, 0, none⟩ = some u0 ∧ w.cell? ⟨B, 1, none⟩ = some u1 ∧ w.frozen? ⟨B, 0, none⟩ = false ∧ w.frozen? ⟨B, 1, none⟩ = false := by
  unfold Ub at h
  refine ⟨?_, ?_, Lib.frozen_of_heap h 0, Lib.frozen_of_heap h 1⟩
  all_goals (rw [Lib.cell_of_heap h]; rfl)

theorem Ub.put {B : Nat} {w : World} {u0 u1 : Value} (h : Ub B w u0 u1) (a b : Value) : Ub B ((w.setCell ⟨B, 0, none⟩ a).setCell ⟨B, 1, none⟩ b) a b := by
  unfold Ub at h ⊢
  simp only [World.setCell, Array.getElem?_modify, if_true, h]
  rfl
theorem Ub.put1 {B : Nat} {w : World} {u0 u1 : Value} (h : Ub B w u0 u1) (b : Value) : Ub B (w.setCell ⟨B, 1, none⟩ b) u0 b := by
  unfold Ub at h ⊢
  simp only [World.setCell, Array.getElem?_modify, if_true, h]
  rfl
theorem Ub.far {B : Nat} {w : World} {u0 u1 : Value} (h : Ub B w u0 u1) {p : Addr} (hp : B ≠ p.block) (u : Value) : Ub B (w.setCell p u) u0 u1 := (Below.heap_setCell _ _ _ _ hp).trans h
set_option maxRecDepth 100000 in
theorem Ub.run {B : Nat} {w : World} {u0 u1 er : Value} (h : Ub B w u0 u1) {tmps : Array Value} (h2 : tmps.getD 2 undef = .pointer (some ⟨B, 0, none⟩)) (h3 : tmps.getD 3 undef = er) :
    (results Tryd.f17 tmps).run Tryd.prog w = .ok (.tuple #[.agg #[u0, u1], er]) w := by
  obtain ⟨r0, r1, _⟩ := h.cells
  have e : Tryd.f17.results = #[.cell 2 25, .tmp 3] := Tryd.results17
  rw [results_cell_tmp e, h2, h3]
  simp [go_sem, r0, r1, Result.andThen]
theorem below_two {B : Nat} {w w2 : World} (h : Below B w w2) (a b : Value) : Below B w ((w2.setCell ⟨B, 0, none⟩ a).setCell ⟨B, 1, none⟩ b) :=
  (h.setCell (p := ⟨B, 0, none⟩) (Nat.le_refl _) _).setCell (p := ⟨B, 1, none⟩) (Nat.le_refl _) _

set_option maxHeartbeats 8000000 in
set_option maxRecDepth 100000 in
theorem parse (t : ByteArray) (w : World) (ht : t.size ≤ 16777216) :
    Calls Tryd.prog 17 #[.string t] w fun e w' => Says (Up.parse t.data.toList) e w' ∧ Below w.heap.size w w' := by
  have hcl := Up.cutAt_len 63 t.data.toList
  rw [Com.toList_length] at hcl
  have HC := Lib.hid hcl; clear hcl
  go_enter Tryd.func17, Tryd.ntmps17
  go_wp2_with fail
  refine (UriE.cut t 63 _ (by omega)).mono ?_
  rintro e w1 ⟨rfl, hb1⟩
  have hU0 : Ub w.heap.size w1 (.string ⟨#[]⟩) (.slice none 0 0) := (hb1.block _ (by simp)).trans (heap_alloc_new _ _)
  have hB1 : Below w.heap.size w w1 := ((Below.refl _ w).alloc (Nat.le_refl _) _).trans (hb1.mono (by simp))
  generalize hp1 : (Up.cutAt 63 t.data.toList).1 = p1 at *
  generalize hq1 : (Up.cutAt 63 t.data.toList).2 = q1 at *
  have HP1 := Lib.hid hp1; have HQ1 := Lib.hid hq1
  have hl1 : p1.length ≤ 16777216 := by have := HC.out; omega
  have hl2 : q1.length ≤ 16777216 := by have := HC.out; omega
  clear hp1 hq1 hb1
  cases hd : Up.dec p1 with
  | none =>
    have HPN := Lib.hid (show Up.parse t.data.toList = none by simp [Up.parse, HP1.out, hd])
    go_wp2_with fail
    refine (UriF.decodeN (s := ⟨p1.toArray⟩) hd _ (by rw [Com.size_mk]; omega)).mono ?_
    rintro e w2 ⟨rfl, hb2⟩
    clear hd
    have hU := hU0.below hb2
    obtain ⟨c0, c1, f0, f1⟩ := hU.cells
    have HU := Lib.hid hU; clear hU hU0
    go_wp2_with fail
    refine bodyPost_ret ((HU.out.put _ _).run rfl rfl) rfl ⟨?_, below_two (hB1.trans (hb2.mono hB1.size)) _ _⟩
    rw [HPN.out]; rfl
  | some p =>
    have HPD := Lib.hid hd
    go_wp2_with fail
    refine (UriF.decodeS (s := ⟨p1.toArray⟩) hd _ (by rw [Com.size_mk]; omega)).mono ?_
    rintro e w2 ⟨rfl, hb2⟩
    clear hd
    have hU := hU0.below hb2
    obtain ⟨c0, c1, f0, f1⟩ := hU.cells
    have HU := Lib.hid hU; clear hU hU0
    by_cases hh : t.data.toList.head? = some 47
    · have hts : 0 < t.size := by
        rw [← Com.toList_length]
        cases hq : t.data.toList with
        | nil => rw [hq] at hh; cases hh
        | cons a b => simp
      have h47 : t[0] = 47 := by
        have e : t.data.toList.head? = some t[0] := by
          rw [List.head?_eq_getElem?, List.getElem?_eq_getElem (by rw [Com.toList_length]; exact hts)]
          rfl
        rw [e] at hh
        simpa using hh
      have t1 : ((t[0].toNat : Int) != 47) = false := by rw [h47]; rfl
      have HPP := Lib.hid (show Up.parse t.data.toList = (Up.pairs (Up.splits 38 q1)).map (⟨p, ·⟩) by
        simp only [Up.parse, HP1.out, HPD.out, HQ1.out]
        rw [if_pos hh])
      have hts3 : ((t.size : Int) == 0) = false := by simp; intro h; rw [h] at hts; exact absurd hts (by decide)
      have htn : ¬ t = ByteArray.empty := fun h => by rw [h] at hts; exact absurd hts (by decide)
      clear h47 hh
      have hwl := HU.out.lt
      have HB2 := Lib.hid (hB1.trans (hb2.mono hB1.size))
      have hwz : w.heap.size ≤ w2.heap.size := by omega
      clear hB1 hb2
      go_wp2_with fail
      go_loopg [5] q1.length (fun g v5 wr => ∃ (q : List UInt8) (ps : List (List UInt8 × List UInt8)) (v : Value), v5 = .string ⟨q.toArray⟩ ∧ q.length = g ∧ q.length ≤ q1.length ∧ ps.length + q.length ≤ q1.length ∧ More q1 ps q ∧
        Ub w2.heap.size wr (.string ⟨p.toArray⟩) v ∧ wr.ownsRow (w2.heap.size + 1) 93 2 v ps.length (pcells ps) ∧ Ub w.heap.size wr (.string ⟨#[]⟩) (.slice none 0 0) ∧ Below w.heap.size w wr)
      case atStart => exact ⟨q1, [], _, rfl, rfl, Nat.le_refl _, by simp, More.start _, heap_alloc_new _ _, World.ownsRow_nil _ _ _ _, HU.out.below ((Below.refl _ _).alloc (Nat.le_refl _) _), HB2.out.alloc (by omega) _⟩
      case round =>
        obtain ⟨q, ps, v, rfl, hqg, hql, hpl, hmo, hub, hown, hres, hbel⟩ := hrel
        have HG := Lib.hid hqg; clear hqg
        have HMO := Lib.hid hmo; clear hmo
        cases q with
        | nil =>
          obtain ⟨ax, cx, rfl, hcx, hpx⟩ := pairs_of_own hown
          obtain ⟨u0, u1, _, _⟩ := hub.cells
          obtain ⟨r0, r1, g0, g1⟩ := hres.cells
          have HRES := Lib.hid hres; have HOWN := Lib.hid hown; have HBEL := Lib.hid hbel
          clear hres hown hbel hub hpx
          go_wp2_with fail
          have hown2 := ownsRow_setCell_below (ownsRow_setCell_below HOWN.out (a := ⟨w.heap.size, 0, none⟩) (by simp; omega) (.string ⟨p.toArray⟩)) (a := ⟨w.heap.size, 1, none⟩) (by simp; omega) (.slice ax ps.length cx)
          obtain ⟨ay, cy, e1, hc1, hp1⟩ := pairs_of_own hown2
          refine bodyPost_ret ((HRES.out.put _ _).run rfl rfl) rfl ⟨?_, below_two HBEL.out _ _⟩
          rw [HPP.out, HMO.out.done]
          exact ⟨ay, cy, by rw [e1]; rfl, hc1, hp1⟩
        | cons c0' tq =>
          have hne : c0' :: tq ≠ [] := by simp
          have hlt := cutAt_lt (c := 38) hne
          have hcl := Up.cutAt_len 38 (c0' :: tq)
          have HNX := HMO.out.nx
          have hsz0 : (ByteArray.mk (c0' :: tq).toArray).size ≤ 16777216 := by rw [Com.size_mk]; omega
          clear hne
          go_wp2_with fail
          refine (UriE.cut ⟨(c0' :: tq).toArray⟩ 38 _ (by omega)).mono ?_
          rw [show (ByteArray.mk (c0' :: tq).toArray).data.toList = c0' :: tq from rfl]
          rintro e W1 ⟨rfl, hb1⟩
          generalize hpc : (Up.cutAt 38 (c0' :: tq)).1 = pc at *
          generalize hrs : (Up.cutAt 38 (c0' :: tq)).2 = rs at *
          clear hpc hrs
          have hub1 := hub.below hb1
          have hres1 := hres.below hb1
          have hown1 := Com.own_below hown hb1
          have hbel1 := hbel.trans (hb1.mono hbel.size)
          have HLT := Lib.hid hlt; have HCL := Lib.hid hcl
          have hrl : rs.length ≤ q1.length := by simp at hlt hql; omega
          have hpl1 : ps.length + rs.length + 1 ≤ q1.length := by simp at hlt hpl; omega
          have hpcl : pc.length ≤ 16777216 := by simp at hcl hql; omega
          have hpcs : (ByteArray.mk pc.toArray).size ≤ 70368744177664 := by rw [Com.size_mk]; omega
          clear hub hres hown hbel hb1 hlt hcl hsz0 HMO
          by_cases hpe : pc = []
          · subst hpe
            go_wp2_with fail
            go_roundg rs.length
            case measure => have := HG.out; have := HLT.out; omega
            case rel => exact ⟨rs, ps, v, rfl, rfl, hrl, by omega, HNX.skip rfl, hub1, hown1, hres1, hbel1⟩
          · have hpe1 : pc.isEmpty = false := by simpa using hpe
            have HPE := Lib.hid hpe; clear hpe
            have hcl2 := Up.cutAt_len 61 pc
            have HC2 := Lib.hid hcl2; clear hcl2
            have hpes : (ByteArray.mk pc.toArray).toList.isEmpty = false := by rw [Com.toList_mk]; exact hpe1
            go_wp2_with fail
            refine (UriE.cut ⟨pc.toArray⟩ 61 _ hpcs).mono ?_
            rw [show (ByteArray.mk pc.toArray).data.toList = pc from rfl]
            rintro e W2 ⟨rfl, hb2⟩
            generalize hn1 : (Up.cutAt 61 pc).1 = n1 at *
            generalize hv1 : (Up.cutAt 61 pc).2 = v1 at *
            have HN1 := Lib.hid hn1; have HV1 := Lib.hid hv1
            have hnl : (ByteArray.mk n1.toArray).size ≤ 70368744177664 := by rw [Com.size_mk]; have := HC2.out; omega
            have hvl : (ByteArray.mk v1.toArray).size ≤ 70368744177664 := by rw [Com.size_mk]; have := HC2.out; omega
            clear hn1 hv1
            cases hdn : Up.dec n1 with
            | none =>
              have HDN := Lib.hid hdn
              go_wp2_with fail
              refine (UriF.decodeN (s := ⟨n1.toArray⟩) hdn _ hnl).mono ?_
              rintro e W3 ⟨rfl, hb3⟩
              clear hdn
              go_wp2_with fail
              refine (UriF.decode ⟨v1.toArray⟩ _ hvl).mono ?_
              rintro e W4 ⟨rfl, hb4⟩
              unfold UriA.ans
              have hres3 := (hres1.below hb2).below hb3
              obtain ⟨r0, r1, g0, g1⟩ := (hres3.below hb4).cells
              have HRES := Lib.hid (hres3.below hb4)
              have HBEL := Lib.hid (((hbel1.trans (hb2.mono hbel1.size)).trans (hb3.mono (by have := hbel1.size; have := hb2.size; omega))).trans (hb4.mono (by have := hbel1.size; have := hb2.size; have := hb3.size; omega)))
              clear hb2 hb3 hb4 hres3 hres1 hbel1 hown1 hub1
              go_wp2_with fail
              refine bodyPost_ret ((HRES.out.put _ _).run rfl rfl) rfl ⟨?_, below_two HBEL.out _ _⟩
              rw [HPP.out, HNX.stop HPE.out (.inl (by rw [HN1.out]; exact HDN.out))]; rfl
            | some n2 =>
              have HDN := Lib.hid hdn
              go_wp2_with fail
              refine (UriF.decodeS (s := ⟨n1.toArray⟩) hdn _ hnl).mono ?_
              rintro e W3 ⟨rfl, hb3⟩
              clear hdn
              cases hdv : Up.dec v1 with
              | none =>
                have HDV := Lib.hid hdv
                go_wp2_with fail
                refine (UriF.decodeN (s := ⟨v1.toArray⟩) hdv _ hvl).mono ?_
                rintro e W4 ⟨rfl, hb4⟩
                clear hdv
                have hres3 := (hres1.below hb2).below hb3
                obtain ⟨r0, r1, g0, g1⟩ := (hres3.below hb4).cells
                have HRES := Lib.hid (hres3.below hb4)
                have HBEL := Lib.hid (((hbel1.trans (hb2.mono hbel1.size)).trans (hb3.mono (by have := hbel1.size; have := hb2.size; omega))).trans (hb4.mono (by have := hbel1.size; have := hb2.size; have := hb3.size; omega)))
                clear hb2 hb3 hb4 hres3 hres1 hbel1 hown1 hub1
                go_wp2_with fail
                refine bodyPost_ret ((HRES.out.put _ _).run rfl rfl) rfl ⟨?_, below_two HBEL.out _ _⟩
                rw [HPP.out, HNX.stop HPE.out (.inr (by rw [HV1.out]; exact HDV.out))]; rfl
              | some v2 =>
                have HDV := Lib.hid hdv
                go_wp2_with fail
                refine (UriF.decodeS (s := ⟨v1.toArray⟩) hdv _ hvl).mono ?_
                rintro e W4 ⟨rfl, hb4⟩
                clear hdv
                have hub4 := ((hub1.below hb2).below hb3).below hb4
                have hres4 := ((hres1.below hb2).below hb3).below hb4
                have hown4 := Com.own_below (Com.own_below (Com.own_below hown1 hb2) hb3) hb4
                have hbel4 := (((hbel1.trans (hb2.mono hbel1.size)).trans (hb3.mono (by have := hbel1.size; have := hb2.size; omega))).trans (hb4.mono (by have := hbel1.size; have := hb2.size; have := hb3.size; omega)))
                clear hub1 hres1 hown1 hbel1 hb2 hb3 hb4
                obtain ⟨u0, u1, _, _⟩ := hub4.cells
                have hub4l := hub4.lt
                obtain ⟨i0, hi, hz0, hz1', hz2⟩ := info_parts infoPair
                have HRES := Lib.hid hres4; have HBEL := Lib.hid hbel4
                have hbs := hbel4.size
                clear hres4 hbel4
                go_wp2_with (at_builtin; refine wpList_append_own _ rfl _ _ 23 rfl (w2.heap.size + 1) 93 i0 (.agg #[.string ⟨#[]⟩, .string ⟨#[]⟩]) 2 32 Tryd.underlying23 hi hz0 hz1' hz2 rfl (by decide) _ _ _ rfl (hown4.alloc _) ⟨W4.heap.size, 0, none⟩ 1 1 [.string ⟨n2.toArray⟩, .string ⟨v2.toArray⟩] rfl rfl (cells_two _ _ _ _) (by simp [Value.oneCell']) (by unfold maxLen; omega) (by omega) (by simp; omega) ?_; intro v' W5 hown' hgrow _; obtain ⟨g5, cap5, rfl⟩ := own_form hown'; have hub5 : Ub w2.heap.size W5 (.string ⟨p.toArray⟩) v := (hgrow.block w2.heap.size (by simp; omega) (fun e => by have := (hown4.lt _ e.symm).1; omega)).trans ((Below.heap_alloc W4 _ _ hub4l).trans hub4); obtain ⟨d0, d1, e0, e1⟩ := hub5.cells; have HUB5 := Lib.hid hub5; clear hub5)
                have hownF : W5.ownsRow (w2.heap.size + 1) 93 2 (.slice (some ⟨g5, 0, none⟩) (ps.length + 1) cap5) (ps ++ [(n2, v2)]).length (pcells (ps ++ [(n2, v2)])) := by
                  rw [pcells_snoc, List.length_append]
                  exact hown'
                have hgB : Below (w2.heap.size + 1) W4 W5 := ((Below.refl (w2.heap.size + 1) W4).alloc (by omega) _).grown hgrow (by simp; omega) (fun j hj => (hown4.lt j hj).1)
                have hresF : Ub w.heap.size (W5.setCell ⟨w2.heap.size, 1, none⟩ (.slice (some ⟨g5, 0, none⟩) (ps.length + 1) cap5)) (.string ⟨#[]⟩) (.slice none 0 0) := Ub.far ((hgB.block _ (by omega)).trans HRES.out) (by simp; omega) _
                have hbelF := (HBEL.out.trans (hgB.mono (by omega))).setCell (p := ⟨w2.heap.size, 1, none⟩) (by simp; omega) (.slice (some ⟨g5, 0, none⟩) (ps.length + 1) cap5)
                have hownG := ownsRow_setCell_below hownF (a := ⟨w2.heap.size, 1, none⟩) (by simp) (.slice (some ⟨g5, 0, none⟩) (ps.length + 1) cap5)
                have hubF := HUB5.out.put1 (.slice (some ⟨g5, 0, none⟩) (ps.length + 1) cap5)
                have hmore := HNX.next HPE.out n2 v2 (by rw [HN1.out]; exact HDN.out) (by rw [HV1.out]; exact HDV.out)
                have H5 := Lib.hid (And.intro hmore (And.intro hubF (And.intro hownG (And.intro hresF hbelF))))
                clear hmore hubF hownG hresF hbelF hownF hown' hgB
                go_roundg rs.length
                case measure => have := HG.out; have := HLT.out; omega
                case rel => exact ⟨rs, ps ++ [(n2, v2)], _, rfl, rfl, hrl, by simp; omega, H5.out.1, H5.out.2.1, H5.out.2.2.1, H5.out.2.2.2.1, H5.out.2.2.2.2⟩
    · have HPN := Lib.hid (show Up.parse t.data.toList = none by
        simp only [Up.parse, HP1.out, HPD.out]
        rw [if_neg hh])
      by_cases hts : t.size = 0
      · have hts2 : (t.size : Int) = 0 := by omega
        have hts3 : ((t.size : Int) == 0) = true := by rw [hts2]; rfl
        clear hts hts2 hh
        go_wp2_with fail
        refine bodyPost_ret ((HU.out.put _ _).run rfl rfl) rfl ⟨?_, below_two (hB1.trans (hb2.mono hB1.size)) _ _⟩
        rw [HPN.out]; rfl
      · have hts1 : 0 < t.size := by omega
        have hts3 : ((t.size : Int) == 0) = false := by simp; intro h; rw [h] at hts1; exact absurd hts1 (by decide)
        have htn : ¬ t = ByteArray.empty := fun h => by rw [h] at hts1; exact absurd hts1 (by decide)
        have h47 : t[0] ≠ 47 := fun h => by
          refine hh ?_
          rw [List.head?_eq_getElem?, List.getElem?_eq_getElem (by rw [Com.toList_length]; exact hts1)]
          show some t[0] = _
          rw [h]
        have t1 := Com.u8_bne h47 (n := 47) rfl
        clear hh h47 hts
        go_wp2_with fail
        refine bodyPost_ret ((HU.out.put _ _).run rfl rfl) rfl ⟨?_, below_two (hB1.trans (hb2.mono hB1.size)) _ _⟩
        rw [HPN.out]; rfl
end Go.Proofs.YtmimkgfkicgfiaaDoor.UriK
