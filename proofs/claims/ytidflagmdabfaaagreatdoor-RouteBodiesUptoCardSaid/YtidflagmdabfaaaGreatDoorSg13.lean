/-
  The walk of bollardref17's Decode. The walk of bollardref17's Parse. bollardref17's Same on equal uris. The order of pairs by name, then value: the closure that Canonical hands to slices.SortFunc.
-/
import Derived.Test.YtidflagmdabfaaaGreatDoorSg12
import Derived.Laws.ResultCell
import Derived.Laws.StructEq
import Derived.BigQuiet
import Derived.Sort.Grow
import Derived.BigRegion
import Derived.StillTailTactics
namespace Go.Proofs.YtidflagmdabfaaaGreatDoor.UriF
open Go.RowKit Go.Proofs.YtidflagmdabfaaaGreatDoor

theorem get1 (a b : UInt8) (t : List UInt8) : ∀ h, (ByteArray.mk (a :: b :: t).toArray)[1]'h = b := fun _ => rfl
theorem get2 (a b c : UInt8) (t : List UInt8) : ∀ h, (ByteArray.mk (a :: b :: c :: t).toArray)[2]'h = c := fun _ => rfl
theorem drop3 (a b c : UInt8) (t : List UInt8) {n : Nat} (hn : n = t.length + 3) : (ByteArray.mk (a :: b :: c :: t).toArray).extract 3 n = ⟨t.toArray⟩ := by
  subst hn
  simp [ByteArray.extract, ByteArray.copySlice]

set_option maxHeartbeats 8000000 in
set_option maxRecDepth 100000 in
theorem decode (s : ByteArray) (w : World) (hs : s.size ≤ 70368744177664) :
    Calls Tryz.prog 95 #[.string s] w fun e w' => e = .returned (UriA.ans (Up.dec s.data.toList)) ∧ Below w.heap.size w w' := by
  obtain ⟨i0, hi, hz0, hz1, hz2⟩ := info_parts UriA.infoByte
  go_enter Tryz.func95, Tryz.ntmps95
  go_wp2_with fail
  go_loopg [0, 4] s.size (fun g sv v wr => ∃ (r out : List UInt8), r.length = g ∧ sv = .string ⟨r.toArray⟩ ∧ wr.ownsRow w.heap.size 5 1 v out.length (Lib.byteCells out) ∧ Below w.heap.size w wr ∧ UriA.Sofar s.data.toList out r ∧ out.length + r.length ≤ s.size)
  case atStart => exact ⟨s.data.toList, [], rfl, by rw [Com.mk_data], ⟨rfl, .inr ⟨w.heap.size, 0, _, rfl, Nat.le_refl _, heap_alloc_new _ _, Nat.le_refl _, by unfold maxLen; omega, rfl, rfl⟩⟩, (Below.refl _ w).alloc (Nat.le_refl _) _, UriA.Sofar.start _, by rw [Com.toList_length]; simp⟩
  case round =>
    obtain ⟨r, out, hrg, rfl, hown, hb, hso, hol⟩ := hrel
    have HG := Lib.hid hrg; clear hrg
    have HO := Lib.hid hso; clear hso
    cases r with
    | nil =>
      obtain ⟨A, c, rfl, hbs⟩ := UriA.bs_own hown
      have kc := UriA.to_string hbs
      have HE := Lib.hid HO.out.done
      go_wp2_with fail
      go_ret2
      exact ⟨by rw [HE.out]; rfl, hb⟩
    | cons c t =>
      have hl1 : t.length + 1 ≤ 70368744177664 := by simp at hol; omega
      have m0 := Com.mk_get0 c t
      have hc8 : c.toNat < 256 := UInt8.toNat_lt c
      have hcm : (c.toNat : Int) % 256 = (c.toNat : Int) := by omega
      have hcw : wrap64 (c.toNat : Int) = (c.toNat : Int) := IntWalk.wrap64_in _ ⟨by omega, by omega⟩
      have hsz : (ByteArray.mk (c :: t).toArray).size = t.length + 1 := by rw [Com.size_mk]; rfl
      by_cases hp : c = 37
      · have t1 : ((c.toNat : Int) == 37) = true := by rw [hp]; rfl
        have HP := Lib.hid hp; clear hp
        by_cases hsh : t.length < 2
        · go_wp2_with fail
          go_ret2
          have hn : Up.dec s.data.toList = none := HO.out.stop (by simp) (by rw [HP.out]; exact UriA.step_short hsh)
          exact ⟨by rw [hn]; rfl, hb⟩
        · obtain ⟨a, b, u, rfl⟩ : ∃ a b u, t = a :: b :: u := by
            match t, hsh with
            | a :: b :: u, _ => exact ⟨a, b, u, rfl⟩
            | [_], h => simp at h
            | [], h => simp at h
          have m1 := get1 c a (b :: u)
          have m2 := get2 c a b u
          cases hx : Up.hexv a with
          | none =>
            have hdx : UriA.dg a = -1 := UriA.dg_none hx
            have HX := Lib.hid hx; clear hx
            go_wp2_with (go_at_call 156; refine (UriE.value a _).mono ?_; rintro e w' ⟨rfl, rfl⟩)
            go_ret2
            have hn : Up.dec s.data.toList = none := HO.out.stop (by simp) (by rw [HP.out]; exact UriA.step_bad (.inl HX.out))
            exact ⟨by rw [hn]; rfl, hb⟩
          | some x =>
            have hx16 := Up.hexv_lt hx
            have hdx : UriA.dg a = (x : Int) := UriA.dg_some hx
            have HX := Lib.hid hx; clear hx
            cases hy : Up.hexv b with
            | none =>
              have hdy : UriA.dg b = -1 := UriA.dg_none hy
              have HY := Lib.hid hy; clear hy
              go_wp2_with (go_at_call 156; refine (UriE.value _ _).mono ?_; rintro e w' ⟨rfl, rfl⟩)
              go_ret2
              have hn : Up.dec s.data.toList = none := HO.out.stop (by simp) (by rw [HP.out]; exact UriA.step_bad (.inr HY.out))
              exact ⟨by rw [hn]; rfl, hb⟩
            | some y =>
              have hy16 := Up.hexv_lt hy
              have hdy : UriA.dg b = (y : Int) := UriA.dg_some hy
              have HY := Lib.hid hy; clear hy
              obtain ⟨z, hz⟩ : ∃ z, z = 16 * x + y := ⟨_, rfl⟩
              have hsum : 16 * (x : Int) + (y : Int) = (z : Int) := by omega
              have hz8 : z < 256 := by omega
              have hzm : (z : Int) % 256 = (z : Int) := by omega
              have HZ := Lib.hid hz; clear hz
              have HS := Lib.hid (show Up.step (c :: a :: b :: u) = if 32 ≤ z ∧ z ≤ 126 then some (UInt8.ofNat z, u) else none by
                rw [HP.out, UriA.step_pct HX.out HY.out, HZ.out])
              by_cases h1 : z < 32
              · go_wp2_with (go_at_call 156; refine (UriE.value _ _).mono ?_; rintro e w' ⟨rfl, rfl⟩)
                go_quiet ((go_at_call 156; exact Calls.quiet_of_same ((UriE.value _ _).mono fun _ _ ⟨h1, h2⟩ => ⟨h1, h2.symm⟩)))
                go_wp2_with fail
                go_ret2
                have hn : Up.dec s.data.toList = none := HO.out.stop (by simp) (by rw [HS.out, if_neg (by omega)])
                exact ⟨by rw [hn]; rfl, UriA.below_drewN hb _⟩
              · by_cases h2 : 126 < z
                · go_wp2_with (go_at_call 156; refine (UriE.value _ _).mono ?_; rintro e w' ⟨rfl, rfl⟩)
                  go_quiet ((go_at_call 156; exact Calls.quiet_of_same ((UriE.value _ _).mono fun _ _ ⟨h1, h2⟩ => ⟨h1, h2.symm⟩)))
                  go_wp2_with fail
                  go_ret2
                  have hn : Up.dec s.data.toList = none := HO.out.stop (by simp) (by rw [HS.out, if_neg (by omega)])
                  exact ⟨by rw [hn]; rfl, UriA.below_drewN hb _⟩
                · go_wp2_with (go_at_call 156; refine (UriE.value _ _).mono ?_; rintro e w' ⟨rfl, rfl⟩)
                  go_quiet ((go_at_call 156; exact Calls.quiet_of_same ((UriE.value _ _).mono fun _ _ ⟨h1, h2⟩ => ⟨h1, h2.symm⟩)))
                  have hown2 : (wr.drewN nq).ownsRow w.heap.size 5 1 u4 out.length (Lib.byteCells out) := hown
                  have hb2 : Below w.heap.size w (wr.drewN nq) := UriA.below_drewN hb _
                  generalize wr.drewN nq = w2 at hown2 hb2 ⊢
                  clear hown hb
                  have hdr := drop3 c a b u (n := u.length + 1 + 1 + 1) rfl
                  go_wp2_with (at_builtin; refine wpList_append_own _ rfl _ _ 23 rfl w.heap.size 5 i0 (.int .u8 0) 1 1 Tryz.underlying23 hi hz0 hz1 hz2 rfl (by decide) _ _ _ rfl (hown2.alloc _) ⟨w2.heap.size, 0, none⟩ 1 1 [.int .u8 (z : Int)] rfl rfl (Com.cells_new _ _ _) (by simp [Value.oneCell']) (by unfold maxLen; simp at hol; omega) (by simp at hol; omega) (by have := hb2.size; simp; omega) ?_; intro v' w1 hown' hgrow _)
                  have hown1 : w1.ownsRow w.heap.size 5 1 v' (out ++ [UInt8.ofNat z]).length (Lib.byteCells (out ++ [UInt8.ofNat z])) := by
                    have e : ((UInt8.ofNat z).toNat : Int) = (z : Int) := by simp; omega
                    rw [Lib.byteCells, List.map_append, List.map_cons, List.map_nil, e, List.length_append]
                    exact hown'
                  have hb1 : Below w.heap.size w w1 := (hb2.alloc hb2.size _).grown hgrow (by have := hb2.size; simp; omega) (fun j hj => (hown2.lt j hj).1)
                  have HO1 := Lib.hid hown1; clear hown1 hown'
                  go_roundg u.length
                  case measure => have := HG.out; simp at this; omega
                  case rel => exact ⟨u, out ++ [UInt8.ofNat z], rfl, rfl, HO1.out, hb1, HO.out.next (by rw [HS.out, if_pos ⟨by omega, by omega⟩]), by simp at hol ⊢; omega⟩
      · have t1 := Com.u8_ne hp (n := 37) rfl
        by_cases h1 : c.toNat < 32
        · go_wp2_with fail
          go_ret2
          have hn : Up.dec s.data.toList = none := HO.out.stop (by simp) (UriA.step_out hp (by omega))
          exact ⟨by rw [hn]; rfl, hb⟩
        · by_cases h2 : 126 < c.toNat
          · go_wp2_with fail
            go_ret2
            have hn : Up.dec s.data.toList = none := HO.out.stop (by simp) (UriA.step_out hp (by omega))
            exact ⟨by rw [hn]; rfl, hb⟩
          · have hdr := Com.mk_drop1 c t (n := t.length + 1) rfl
            go_wp2_with (at_builtin; refine wpList_append_own _ rfl _ _ 23 rfl w.heap.size 5 i0 (.int .u8 0) 1 1 Tryz.underlying23 hi hz0 hz1 hz2 rfl (by decide) _ _ _ rfl (hown.alloc _) ⟨wr.heap.size, 0, none⟩ 1 1 [.int .u8 (c.toNat : Int)] rfl rfl (Com.cells_new _ _ _) (by simp [Value.oneCell']) (by unfold maxLen; simp at hol; omega) (by simp at hol; omega) (by have := hb.size; simp; omega) ?_; intro v' w1 hown' hgrow _)
            have hown1 : w1.ownsRow w.heap.size 5 1 v' (out ++ [c]).length (Lib.byteCells (out ++ [c])) := by simpa [Lib.byteCells] using hown'
            have hb1 : Below w.heap.size w w1 := (hb.alloc hb.size _).grown hgrow (by have := hb.size; simp; omega) (fun j hj => (hown.lt j hj).1)
            have HO1 := Lib.hid hown1; clear hown1 hown'
            go_roundg t.length
            case measure => have := HG.out; simp at this; omega
            case rel => exact ⟨t, out ++ [c], rfl, rfl, HO1.out, hb1, HO.out.next (UriA.step_in hp (by omega) (by omega)), by simp at hol ⊢; omega⟩
theorem decodeS {s : ByteArray} {o : List UInt8} (h : Up.dec s.data.toList = some o) (w : World) (hs : s.size ≤ 70368744177664) :
    Calls Tryz.prog 95 #[.string s] w fun e w' => e = .returned (.tuple #[.string ⟨o.toArray⟩, .bool true]) ∧ Below w.heap.size w w' :=
  (decode s w hs).mono fun _ _ ⟨h1, h2⟩ => ⟨by rw [h1, h]; rfl, h2⟩
theorem decodeN {s : ByteArray} (h : Up.dec s.data.toList = none) (w : World) (hs : s.size ≤ 70368744177664) :
    Calls Tryz.prog 95 #[.string s] w fun e w' => e = .returned (.tuple #[.string ⟨#[]⟩, .bool false]) ∧ Below w.heap.size w w' :=
  (decode s w hs).mono fun _ _ ⟨h1, h2⟩ => ⟨by rw [h1, h]; rfl, h2⟩
end Go.Proofs.YtidflagmdabfaaaGreatDoor.UriF
namespace Go.Proofs.YtidflagmdabfaaaGreatDoor.UriK
open Go.RowKit Go.Proofs.YtidflagmdabfaaaGreatDoor Go.Proofs.YtidflagmdabfaaaGreatDoor.UriC

theorem cutAt_lt {c : UInt8} {q : List UInt8} (h : q ≠ []) : (Up.cutAt c q).2.length < q.length := by
  by_cases hc : c ∈ q
  · obtain ⟨a, b, rfl, ha⟩ := Up.parts hc
    rw [Up.cutAt_at ha]; simp; omega
  · rw [Up.cutAt_free hc]
    exact List.length_pos_iff.2 h

/-- what has come of a query, and what is to come -/
def More (q : List UInt8) (ps : List (List UInt8 × List UInt8)) (r : List UInt8) : Prop :=
  Up.pairs (Up.splits 38 q) = match Up.pairs (Up.splits 38 r) with | some x => some (ps ++ x) | none => none
theorem More.start (q : List UInt8) : More q [] q := by
  unfold More; cases Up.pairs (Up.splits 38 q) <;> rfl
theorem More.done {q : List UInt8} {ps : List (List UInt8 × List UInt8)} (h : More q ps []) : Up.pairs (Up.splits 38 q) = some ps := by
  unfold More at h
  rw [h, show Up.splits 38 [] = [[]] from rfl]
  simp [Up.pairs]
theorem More.skip {q r : List UInt8} {ps : List (List UInt8 × List UInt8)} (h : More q ps r) (hp : (Up.cutAt 38 r).1 = []) : More q ps (Up.cutAt 38 r).2 := by
  unfold More at h ⊢
  rw [h, Up.pairs_cut r, hp, Up.pairs_skip]
theorem More.stop {q r : List UInt8} {ps : List (List UInt8 × List UInt8)} (h : More q ps r) (hp : (Up.cutAt 38 r).1 ≠ []) (hn : Up.dec (Up.cutAt 61 (Up.cutAt 38 r).1).1 = none ∨ Up.dec (Up.cutAt 61 (Up.cutAt 38 r).1).2 = none) : Up.pairs (Up.splits 38 q) = none := by
  unfold More at h
  rw [h, Up.pairs_cut r]
  have : Up.pair (Up.cutAt 38 r).1 = none := by
    simp only [Up.pair]
    rcases hn with hn | hn
    · rw [hn]
    · rw [hn]; cases Up.dec (Up.cutAt 61 (Up.cutAt 38 r).1).1 <;> rfl
  simp only [Up.pairs, if_neg hp, this]
theorem More.next {q r : List UInt8} {ps : List (List UInt8 × List UInt8)} {n v : List UInt8} (h : More q ps r) (hp : (Up.cutAt 38 r).1 ≠ []) (hn : Up.dec (Up.cutAt 61 (Up.cutAt 38 r).1).1 = some n) (hv : Up.dec (Up.cutAt 61 (Up.cutAt 38 r).1).2 = some v) : More q (ps ++ [(n, v)]) (Up.cutAt 38 r).2 := by
  unfold More at h ⊢
  rw [h, Up.pairs_cut r]
  have : Up.pair (Up.cutAt 38 r).1 = some (n, v) := by simp only [Up.pair, hn, hv]
  simp only [Up.pairs, if_neg hp, this]
  cases Up.pairs (Up.splits 38 (Up.cutAt 38 r).2) <;> simp

/-- what one piece does -/
structure Nx (q : List UInt8) (ps : List (List UInt8 × List UInt8)) (pc rs : List UInt8) : Prop where
  skip : pc = [] → More q ps rs
  stop : pc ≠ [] → (Up.dec (Up.cutAt 61 pc).1 = none ∨ Up.dec (Up.cutAt 61 pc).2 = none) → Up.pairs (Up.splits 38 q) = none
  next : pc ≠ [] → ∀ n v, Up.dec (Up.cutAt 61 pc).1 = some n → Up.dec (Up.cutAt 61 pc).2 = some v → More q (ps ++ [(n, v)]) rs
theorem More.nx {q r : List UInt8} {ps : List (List UInt8 × List UInt8)} (h : More q ps r) : Nx q ps (Up.cutAt 38 r).1 (Up.cutAt 38 r).2 :=
  ⟨fun e => h.skip e, fun e => h.stop e, fun e _ _ => h.next e⟩
/-- what the reference's Parse answers -/
def Says (o : Option Up.Uri) (e : Ending) (w : World) : Prop :=
  match o with
  | none => e = .returned (.tuple #[noUri, .bool false])
  | some u => ∃ a c, e = .returned (.tuple #[.agg #[.string ⟨u.path.toArray⟩, .slice a u.query.length c], .bool true]) ∧ u.query.length ≤ c ∧ Pairs w a u.query

/-- a result's block -/
def Ub (B : Nat) (w : World) (u0 u1 : Value) : Prop := w.heap[B]? = some (.cells #[u0, u1] 97 (0, 0))
theorem Ub.below {B : Nat} {w w' : World} {u0 u1 : Value} (h : Ub B w u0 u1) (hb : Below w.heap.size w w') : Ub B w' u0 u1 := (hb.block _ (Array.getElem?_eq_some_iff.1 h).1).trans h
theorem Ub.lt {B : Nat} {w : World} {u0 u1 : Value} (h : Ub B w u0 u1) : B < w.heap.size := (Array.getElem?_eq_some_iff.1 h).1
theorem Ub.cells {B : Nat} {w : World} {u0 u1 : Value} (h : Ub B w u0 u1) : w.cell? ⟨B, 0, none⟩ = some u0 ∧ w.cell? ⟨B, 1, none⟩ = some u1 ∧ w.frozen? ⟨B, 0, none⟩ = false ∧ w.frozen? ⟨B, 1, none⟩ = false := by
  unfold Ub at h
  refine ⟨?_, ?_, Lib.frozen_of_heap h 0, Lib.frozen_of_heap h 1⟩
  all_goals (rw [Lib.cell_of_heap h]; rfl)

theorem Ub.put {B : Nat} {w : World} {u0 u1 : Value} (h : Ub B w u0 u1) (a b : Value) : Ub B ((w.setCell ⟨B, 0, none⟩ a).setCell ⟨B, 1, none⟩ b) a b := by
  unfold Ub at h ⊢
  simp only [World.setCell, Array.getElem?_modify, if_true, h]
  rfl
theorem Ub.put1 {B : Nat} {w : World} {u0 u1 : Value} (h : Ub B w u0 u1) (b : Value) : Ub B (w.setCell ⟨B, 1, none⟩ b) u0 b := by
  unfold Ub at h ⊢
  simp only [World.setCell, Array.getElem?_modify, if_true, h]
  rfl
theorem Ub.far {B : Nat} {w : World} {u0 u1 : Value} (h : Ub B w u0 u1) {p : Addr} (hp : B ≠ p.block) (u : Value) : Ub B (w.setCell p u) u0 u1 := (Below.heap_setCell _ _ _ _ hp).trans h
set_option maxRecDepth 100000 in
theorem Ub.run {B : Nat} {w : World} {u0 u1 er : Value} (h : Ub B w u0 u1) {tmps : Array Value} (h2 : tmps.getD 2 undef = .pointer (some ⟨B, 0, none⟩)) (h3 : tmps.getD 3 undef = er) :
    (results Tryz.f46 tmps).run Tryz.prog w = .ok (.tuple #[.agg #[u0, u1], er]) w := by
  obtain ⟨r0, r1, _⟩ := h.cells
  have e : Tryz.f46.results = #[.cell 2 97, .tmp 3] := Tryz.results46
  rw [results_cell_tmp e, h2, h3]
  simp [go_sem, r0, r1, Result.andThen]
theorem below_two {B : Nat} {w w2 : World} (h : Below B w w2) (a b : Value) : Below B w ((w2.setCell ⟨B, 0, none⟩ a).setCell ⟨B, 1, none⟩ b) :=
  (h.setCell (p := ⟨B, 0, none⟩) (Nat.le_refl _) _).setCell (p := ⟨B, 1, none⟩) (Nat.le_refl _) _

set_option maxHeartbeats 8000000 in
set_option maxRecDepth 100000 in
theorem parse (t : ByteArray) (w : World) (ht : t.size ≤ 16777216) :
    Calls Tryz.prog 46 #[.string t] w fun e w' => Says (Up.parse t.data.toList) e w' ∧ Below w.heap.size w w' := by
  have hcl := Up.cutAt_len 63 t.data.toList
  rw [Com.toList_length] at hcl
  have HC := Lib.hid hcl; clear hcl
  go_enter Tryz.func46, Tryz.ntmps46
  go_wp2_with fail
  refine (UriE.cut t 63 _ (by omega)).mono ?_
  rintro e w1 ⟨rfl, hb1⟩
  have hU0 : Ub w.heap.size w1 (.string ⟨#[]⟩) (.slice none 0 0) := (hb1.block _ (by simp)).trans (heap_alloc_new _ _)
  have hB1 : Below w.heap.size w w1 := ((Below.refl _ w).alloc (Nat.le_refl _) _).trans (hb1.mono (by simp))
  generalize hp1 : (Up.cutAt 63 t.data.toList).1 = p1 at *
  generalize hq1 : (Up.cutAt 63 t.data.toList).2 = q1 at *
  have HP1 := Lib.hid hp1; have HQ1 := Lib.hid hq1
  have hl1 : p1.length ≤ 16777216 := by have := HC.out; omega
  have hl2 : q1.length ≤ 16777216 := by have := HC.out; omega
  clear hp1 hq1 hb1
  cases hd : Up.dec p1 with
  | none =>
    have HPN := Lib.hid (show Up.parse t.data.toList = none by simp [Up.parse, HP1.out, hd])
    go_wp2_with fail
    refine (UriF.decodeN (s := ⟨p1.toArray⟩) hd _ (by rw [Com.size_mk]; omega)).mono ?_
    rintro e w2 ⟨rfl, hb2⟩
    clear hd
    have hU := hU0.below hb2
    obtain ⟨c0, c1, f0, f1⟩ := hU.cells
    have HU := Lib.hid hU; clear hU hU0
    go_wp2_with fail
    refine bodyPost_ret ((HU.out.put _ _).run rfl rfl) rfl ⟨?_, below_two (hB1.trans (hb2.mono hB1.size)) _ _⟩
    rw [HPN.out]; rfl
  | some p =>
    have HPD := Lib.hid hd
    go_wp2_with fail
    refine (UriF.decodeS (s := ⟨p1.toArray⟩) hd _ (by rw [Com.size_mk]; omega)).mono ?_
    rintro e w2 ⟨rfl, hb2⟩
    clear hd
    have hU := hU0.below hb2
    obtain ⟨c0, c1, f0, f1⟩ := hU.cells
    have HU := Lib.hid hU; clear hU hU0
    by_cases hh : t.data.toList.head? = some 47
    · have hts : 0 < t.size := by
        rw [← Com.toList_length]
        cases hq : t.data.toList with
        | nil => rw [hq] at hh; cases hh
        | cons a b => simp
      have h47 : t[0] = 47 := by
        have e : t.data.toList.head? = some t[0] := by
          rw [List.head?_eq_getElem?, List.getElem?_eq_getElem (by rw [Com.toList_length]; exact hts)]
          rfl
        rw [e] at hh
        simpa using hh
      have t1 : ((t[0].toNat : Int) != 47) = false := by rw [h47]; rfl
      have HPP := Lib.hid (show Up.parse t.data.toList = (Up.pairs (Up.splits 38 q1)).map (⟨p, ·⟩) by
        simp only [Up.parse, HP1.out, HPD.out, HQ1.out]
        rw [if_pos hh])
      have hts3 : ((t.size : Int) == 0) = false := by simp; intro h; rw [h] at hts; exact absurd hts (by decide)
      have htn : ¬ t = ByteArray.empty := fun h => by rw [h] at hts; exact absurd hts (by decide)
      clear h47 hh
      have hwl := HU.out.lt
      have HB2 := Lib.hid (hB1.trans (hb2.mono hB1.size))
      have hwz : w.heap.size ≤ w2.heap.size := by omega
      clear hB1 hb2
      go_wp2_with fail
      go_loopg [5] q1.length (fun g v5 wr => ∃ (q : List UInt8) (ps : List (List UInt8 × List UInt8)) (v : Value), v5 = .string ⟨q.toArray⟩ ∧ q.length = g ∧ q.length ≤ q1.length ∧ ps.length + q.length ≤ q1.length ∧ More q1 ps q ∧
        Ub w2.heap.size wr (.string ⟨p.toArray⟩) v ∧ wr.ownsRow (w2.heap.size + 1) 152 2 v ps.length (pcells ps) ∧ Ub w.heap.size wr (.string ⟨#[]⟩) (.slice none 0 0) ∧ Below w.heap.size w wr)
      case atStart => exact ⟨q1, [], _, rfl, rfl, Nat.le_refl _, by simp, More.start _, heap_alloc_new _ _, World.ownsRow_nil _ _ _ _, HU.out.below ((Below.refl _ _).alloc (Nat.le_refl _) _), HB2.out.alloc (by omega) _⟩
      case round =>
        obtain ⟨q, ps, v, rfl, hqg, hql, hpl, hmo, hub, hown, hres, hbel⟩ := hrel
        have HG := Lib.hid hqg; clear hqg
        have HMO := Lib.hid hmo; clear hmo
        cases q with
        | nil =>
          obtain ⟨ax, cx, rfl, hcx, hpx⟩ := pairs_of_own hown
          obtain ⟨u0, u1, _, _⟩ := hub.cells
          obtain ⟨r0, r1, g0, g1⟩ := hres.cells
          have HRES := Lib.hid hres; have HOWN := Lib.hid hown; have HBEL := Lib.hid hbel
          clear hres hown hbel hub hpx
          go_wp2_with fail
          have hown2 := ownsRow_setCell_below (ownsRow_setCell_below HOWN.out (a := ⟨w.heap.size, 0, none⟩) (by simp; omega) (.string ⟨p.toArray⟩)) (a := ⟨w.heap.size, 1, none⟩) (by simp; omega) (.slice ax ps.length cx)
          obtain ⟨ay, cy, e1, hc1, hp1⟩ := pairs_of_own hown2
          refine bodyPost_ret ((HRES.out.put _ _).run rfl rfl) rfl ⟨?_, below_two HBEL.out _ _⟩
          rw [HPP.out, HMO.out.done]
          exact ⟨ay, cy, by rw [e1]; rfl, hc1, hp1⟩
        | cons c0' tq =>
          have hne : c0' :: tq ≠ [] := by simp
          have hlt := cutAt_lt (c := 38) hne
          have hcl := Up.cutAt_len 38 (c0' :: tq)
          have HNX := HMO.out.nx
          have hsz0 : (ByteArray.mk (c0' :: tq).toArray).size ≤ 16777216 := by rw [Com.size_mk]; omega
          clear hne
          go_wp2_with fail
          refine (UriE.cut ⟨(c0' :: tq).toArray⟩ 38 _ (by omega)).mono ?_
          rw [show (ByteArray.mk (c0' :: tq).toArray).data.toList = c0' :: tq from rfl]
          rintro e W1 ⟨rfl, hb1⟩
          generalize hpc : (Up.cutAt 38 (c0' :: tq)).1 = pc at *
          generalize hrs : (Up.cutAt 38 (c0' :: tq)).2 = rs at *
          clear hpc hrs
          have hub1 := hub.below hb1
          have hres1 := hres.below hb1
          have hown1 := Com.own_below hown hb1
          have hbel1 := hbel.trans (hb1.mono hbel.size)
          have HLT := Lib.hid hlt; have HCL := Lib.hid hcl
          have hrl : rs.length ≤ q1.length := by simp at hlt hql; omega
          have hpl1 : ps.length + rs.length + 1 ≤ q1.length := by simp at hlt hpl; omega
          have hpcl : pc.length ≤ 16777216 := by simp at hcl hql; omega
          have hpcs : (ByteArray.mk pc.toArray).size ≤ 70368744177664 := by rw [Com.size_mk]; omega
          clear hub hres hown hbel hb1 hlt hcl hsz0 HMO
          by_cases hpe : pc = []
          · subst hpe
            go_wp2_with fail
            go_roundg rs.length
            case measure => have := HG.out; have := HLT.out; omega
            case rel => exact ⟨rs, ps, v, rfl, rfl, hrl, by omega, HNX.skip rfl, hub1, hown1, hres1, hbel1⟩
          · have hpe1 : pc.isEmpty = false := by simpa using hpe
            have HPE := Lib.hid hpe; clear hpe
            have hcl2 := Up.cutAt_len 61 pc
            have HC2 := Lib.hid hcl2; clear hcl2
            have hpes : (ByteArray.mk pc.toArray).toList.isEmpty = false := by rw [Com.toList_mk]; exact hpe1
            go_wp2_with fail
            refine (UriE.cut ⟨pc.toArray⟩ 61 _ hpcs).mono ?_
            rw [show (ByteArray.mk pc.toArray).data.toList = pc from rfl]
            rintro e W2 ⟨rfl, hb2⟩
            generalize hn1 : (Up.cutAt 61 pc).1 = n1 at *
            generalize hv1 : (Up.cutAt 61 pc).2 = v1 at *
            have HN1 := Lib.hid hn1; have HV1 := Lib.hid hv1
            have hnl : (ByteArray.mk n1.toArray).size ≤ 70368744177664 := by rw [Com.size_mk]; have := HC2.out; omega
            have hvl : (ByteArray.mk v1.toArray).size ≤ 70368744177664 := by rw [Com.size_mk]; have := HC2.out; omega
            clear hn1 hv1
            cases hdn : Up.dec n1 with
            | none =>
              have HDN := Lib.hid hdn
              go_wp2_with fail
              refine (UriF.decodeN (s := ⟨n1.toArray⟩) hdn _ hnl).mono ?_
              rintro e W3 ⟨rfl, hb3⟩
              clear hdn
              go_wp2_with fail
              refine (UriF.decode ⟨v1.toArray⟩ _ hvl).mono ?_
              rintro e W4 ⟨rfl, hb4⟩
              unfold UriA.ans
              have hres3 := (hres1.below hb2).below hb3
              obtain ⟨r0, r1, g0, g1⟩ := (hres3.below hb4).cells
              have HRES := Lib.hid (hres3.below hb4)
              have HBEL := Lib.hid (((hbel1.trans (hb2.mono hbel1.size)).trans (hb3.mono (by have := hbel1.size; have := hb2.size; omega))).trans (hb4.mono (by have := hbel1.size; have := hb2.size; have := hb3.size; omega)))
              clear hb2 hb3 hb4 hres3 hres1 hbel1 hown1 hub1
              go_wp2_with fail
              refine bodyPost_ret ((HRES.out.put _ _).run rfl rfl) rfl ⟨?_, below_two HBEL.out _ _⟩
              rw [HPP.out, HNX.stop HPE.out (.inl (by rw [HN1.out]; exact HDN.out))]; rfl
            | some n2 =>
              have HDN := Lib.hid hdn
              go_wp2_with fail
              refine (UriF.decodeS (s := ⟨n1.toArray⟩) hdn _ hnl).mono ?_
              rintro e W3 ⟨rfl, hb3⟩
              clear hdn
              cases hdv : Up.dec v1 with
              | none =>
                have HDV := Lib.hid hdv
                go_wp2_with fail
                refine (UriF.decodeN (s := ⟨v1.toArray⟩) hdv _ hvl).mono ?_
                rintro e W4 ⟨rfl, hb4⟩
                clear hdv
                have hres3 := (hres1.below hb2).below hb3
                obtain ⟨r0, r1, g0, g1⟩ := (hres3.below hb4).cells
                have HRES := Lib.hid (hres3.below hb4)
                have HBEL := Lib.hid (((hbel1.trans (hb2.mono hbel1.size)).trans (hb3.mono (by have := hbel1.size; have := hb2.size; omega))).trans (hb4.mono (by have := hbel1.size; have := hb2.size; have := hb3.size; omega)))
                clear hb2 hb3 hb4 hres3 hres1 hbel1 hown1 hub1
                go_wp2_with fail
                refine bodyPost_ret ((HRES.out.put _ _).run rfl rfl) rfl ⟨?_, below_two HBEL.out _ _⟩
                rw [HPP.out, HNX.stop HPE.out (.inr (by rw [HV1.out]; exact HDV.out))]; rfl
              | some v2 =>
                have HDV := Lib.hid hdv
                go_wp2_with fail
                refine (UriF.decodeS (s := ⟨v1.toArray⟩) hdv _ hvl).mono ?_
                rintro e W4 ⟨rfl, hb4⟩
                clear hdv
                have hub4 := ((hub1.below hb2).below hb3).below hb4
                have hres4 := ((hres1.below hb2).below hb3).below hb4
                have hown4 := Com.own_below (Com.own_below (Com.own_below hown1 hb2) hb3) hb4
                have hbel4 := (((hbel1.trans (hb2.mono hbel1.size)).trans (hb3.mono (by have := hbel1.size; have := hb2.size; omega))).trans (hb4.mono (by have := hbel1.size; have := hb2.size; have := hb3.size; omega)))
                clear hub1 hres1 hown1 hbel1 hb2 hb3 hb4
                obtain ⟨u0, u1, _, _⟩ := hub4.cells
                have hub4l := hub4.lt
                obtain ⟨i0, hi, hz0, hz1', hz2⟩ := info_parts infoPair
                have HRES := Lib.hid hres4; have HBEL := Lib.hid hbel4
                have hbs := hbel4.size
                clear hres4 hbel4
                go_wp2_with (at_builtin; refine wpList_append_own _ rfl _ _ 95 rfl (w2.heap.size + 1) 152 i0 (.agg #[.string ⟨#[]⟩, .string ⟨#[]⟩]) 2 32 Tryz.underlying95 hi hz0 hz1' hz2 rfl (by decide) _ _ _ rfl (hown4.alloc _) ⟨W4.heap.size, 0, none⟩ 1 1 [.string ⟨n2.toArray⟩, .string ⟨v2.toArray⟩] rfl rfl (cells_two _ _ _ _) (by simp [Value.oneCell']) (by unfold maxLen; omega) (by omega) (by simp; omega) ?_; intro v' W5 hown' hgrow _; obtain ⟨g5, cap5, rfl⟩ := own_form hown'; have hub5 : Ub w2.heap.size W5 (.string ⟨p.toArray⟩) v := (hgrow.block w2.heap.size (by simp; omega) (fun e => by have := (hown4.lt _ e.symm).1; omega)).trans ((Below.heap_alloc W4 _ _ hub4l).trans hub4); obtain ⟨d0, d1, e0, e1⟩ := hub5.cells; have HUB5 := Lib.hid hub5; clear hub5)
                have hownF : W5.ownsRow (w2.heap.size + 1) 152 2 (.slice (some ⟨g5, 0, none⟩) (ps.length + 1) cap5) (ps ++ [(n2, v2)]).length (pcells (ps ++ [(n2, v2)])) := by
                  rw [pcells_snoc, List.length_append]
                  exact hown'
                have hgB : Below (w2.heap.size + 1) W4 W5 := ((Below.refl (w2.heap.size + 1) W4).alloc (by omega) _).grown hgrow (by simp; omega) (fun j hj => (hown4.lt j hj).1)
                have hresF : Ub w.heap.size (W5.setCell ⟨w2.heap.size, 1, none⟩ (.slice (some ⟨g5, 0, none⟩) (ps.length + 1) cap5)) (.string ⟨#[]⟩) (.slice none 0 0) := Ub.far ((hgB.block _ (by omega)).trans HRES.out) (by simp; omega) _
                have hbelF := (HBEL.out.trans (hgB.mono (by omega))).setCell (p := ⟨w2.heap.size, 1, none⟩) (by simp; omega) (.slice (some ⟨g5, 0, none⟩) (ps.length + 1) cap5)
                have hownG := ownsRow_setCell_below hownF (a := ⟨w2.heap.size, 1, none⟩) (by simp) (.slice (some ⟨g5, 0, none⟩) (ps.length + 1) cap5)
                have hubF := HUB5.out.put1 (.slice (some ⟨g5, 0, none⟩) (ps.length + 1) cap5)
                have hmore := HNX.next HPE.out n2 v2 (by rw [HN1.out]; exact HDN.out) (by rw [HV1.out]; exact HDV.out)
                have H5 := Lib.hid (And.intro hmore (And.intro hubF (And.intro hownG (And.intro hresF hbelF))))
                clear hmore hubF hownG hresF hbelF hownF hown' hgB
                go_roundg rs.length
                case measure => have := HG.out; have := HLT.out; omega
                case rel => exact ⟨rs, ps ++ [(n2, v2)], _, rfl, rfl, hrl, by simp; omega, H5.out.1, H5.out.2.1, H5.out.2.2.1, H5.out.2.2.2.1, H5.out.2.2.2.2⟩
    · have HPN := Lib.hid (show Up.parse t.data.toList = none by
        simp only [Up.parse, HP1.out, HPD.out]
        rw [if_neg hh])
      by_cases hts : t.size = 0
      · have hts2 : (t.size : Int) = 0 := by omega
        have hts3 : ((t.size : Int) == 0) = true := by rw [hts2]; rfl
        clear hts hts2 hh
        go_wp2_with fail
        refine bodyPost_ret ((HU.out.put _ _).run rfl rfl) rfl ⟨?_, below_two (hB1.trans (hb2.mono hB1.size)) _ _⟩
        rw [HPN.out]; rfl
      · have hts1 : 0 < t.size := by omega
        have hts3 : ((t.size : Int) == 0) = false := by simp; intro h; rw [h] at hts1; exact absurd hts1 (by decide)
        have htn : ¬ t = ByteArray.empty := fun h => by rw [h] at hts1; exact absurd hts1 (by decide)
        have h47 : t[0] ≠ 47 := fun h => by
          refine hh ?_
          rw [List.head?_eq_getElem?, List.getElem?_eq_getElem (by rw [Com.toList_length]; exact hts1)]
          show some t[0] = _
          rw [h]
        have t1 := Com.u8_bne h47 (n := 47) rfl
        clear hh h47 hts
        go_wp2_with fail
        refine bodyPost_ret ((HU.out.put _ _).run rfl rfl) rfl ⟨?_, below_two (hB1.trans (hb2.mono hB1.size)) _ _⟩
        rw [HPN.out]; rfl
end Go.Proofs.YtidflagmdabfaaaGreatDoor.UriK
namespace Go.Proofs.YtidflagmdabfaaaGreatDoor.UriL
open Go.RowKit Go.Proofs.YtidflagmdabfaaaGreatDoor Go.Proofs.YtidflagmdabfaaaGreatDoor.UriC

theorem Pairs.below {w w' : World} {a : Option Addr} {ps : List (List UInt8 × List UInt8)} (h : Pairs w a ps) (hb : Below w.heap.size w w') : Pairs w' a ps := by
  rcases h with h | ⟨b, o, h1, h2, h3⟩
  · exact .inl h
  · refine .inr ⟨b, o, h1, Nat.lt_of_lt_of_le h2 hb.size, fun j p hj => ?_⟩
    obtain ⟨k1, k2⟩ := h3 j p hj
    exact ⟨(hb.cell (by simpa using h2)).trans k1, (hb.cell (by simpa using h2)).trans k2⟩

@[go_sem] theorem undPair : Tryz.prog.underlying 152 = some (.struct (Tryz.prog.fieldsOf 152)) := by kernel_rfl
@[go_sem] theorem heldPair : Tryz.prog.stoodInHeld 152 = false := by kernel_rfl
theorem fieldsPair : (Tryz.prog.fieldsOf 152).toList.map (fun f => (f.name, f.type, f.offset)) = [("Name", 9, 0), ("Value", 9, 1)] := by kernel_rfl
theorem infoString : (Tryz.prog.info? 9).map (·.size) = some 1 := by kernel_rfl
theorem run_partString (xs : Array Value) (o : Nat) (w : World) {x : Value} (h : xs[o]? = some x) : (part 9 xs o).run Tryz.prog w = .ok x w := by
  have := infoString
  cases hi : Tryz.prog.info? 9 with
  | none => rw [hi] at this; cases this
  | some i =>
    rw [hi] at this
    have hs : i.size = 1 := by simpa using this
    simp [part, typeInfo, hi, sizeOf, hs, h]
theorem neqPair (n v : ByteArray) (w : World) : (binOp .neq 152 (Value.agg #[.string n, .string v]) (Value.agg #[.string n, .string v])).run Tryz.prog w = .ok (Value.bool false) w := by
  rw [run_neq_struct, run_equalIn_agg _ _ _ _ _ undPair heldPair]
  have hf := fieldsPair
  generalize (Tryz.prog.fieldsOf 152).toList = fs at hf ⊢
  match fs, hf with
  | [⟨n1, t1, o1, _, _, _, _⟩, ⟨n2, t2, o2, _, _, _, _⟩], hf =>
    simp only [List.map_cons, List.map_nil, List.cons.injEq, Prod.mk.injEq] at hf
    obtain ⟨⟨rfl, rfl, rfl⟩, ⟨rfl, rfl, rfl⟩, _⟩ := hf
    have e1 : ∀ w, (part 9 #[Value.string n, Value.string v] 0).run Tryz.prog w = .ok (.string n) w := fun w => run_partString _ _ _ rfl
    have e2 : ∀ w, (part 9 #[Value.string n, Value.string v] 1).run Tryz.prog w = .ok (.string v) w := fun w => run_partString _ _ _ rfl
    have e3 : ∀ (b : ByteArray) w, (Op.equalIn 9999 9 (.string b) (.string b)).run Tryz.prog w = .ok true w := fun b w => by
      rw [run_equalIn_string w 9998 _ _ _ Tryz.underlying9]; simp
    simp [Op.eqFields, e1, e2, e3, Result.andThen]

end Go.Proofs.YtidflagmdabfaaaGreatDoor.UriL
namespace Go.Proofs.YtidflagmdabfaaaGreatDoor.UriN
open Go.RowKit Go.Lib Go.Sort Go.Proofs.YtidflagmdabfaaaGreatDoor Go.Proofs.YtidflagmdabfaaaGreatDoor.UriC

abbrev Pr := List UInt8 × List UInt8
def enc (x : Pr) : List Value := [.string ⟨x.1.toArray⟩, .string ⟨x.2.toArray⟩]
/-- the order of two texts -/
def cs (a b : List UInt8) : Int := if Op.bytesLess a b = true then -1 else if (a == b) = true then 0 else 1
def cf (x y : Pr) : Int := if cs x.1 y.1 ≠ 0 then cs x.1 y.1 else cs x.2 y.2

theorem region_tail {id : Nat} {Q : Exit → Act → World → Prop} {a : Act} {w : World} {l : List Oper} (n : Nat) (hB : Region.lexTailB .any l.toArray n = true)
    (h : wpStill Tryz.prog l.toArray w.drew (fun a' => wpList Tryz.prog l.toArray Q (l.drop n) a' w.drew) (l.take n) a) : (Code.region id l.toArray true).wp Tryz.prog Q a w :=
  wp_region_still_tail n (by kernel_rfl) hB h

set_option maxHeartbeats 1000000 in
theorem isNaN (a : ByteArray) (w : World) : Calls Tryz.prog 163 #[.string a] w fun e w' => e = .returned (.bool false) ∧ w' = w := by
  go_enter Tryz.func163, Tryz.ntmps163
  go_wp2_with fail
  go_ret
  exact ⟨rfl, rfl⟩
set_option maxHeartbeats 1000000 in
theorem compare (a b : List UInt8) (w : World) : Calls Tryz.prog 119 #[.string ⟨a.toArray⟩, .string ⟨b.toArray⟩] w fun e w' => e = .returned (.int .i64 (cs a b)) ∧ w' = w := by
  go_enter Tryz.func119, Tryz.ntmps119
  go_wp2_with (go_at_call 163; refine (isNaN _ _).mono ?_; rintro e w' ⟨rfl, rfl⟩)
  all_goals
    go_ret
    refine ⟨?_, rfl⟩
    simp_all [cs]
set_option maxHeartbeats 1000000 in
theorem cmpOr (a b r : Int) (hr : r = if a ≠ 0 then a else b) (bk c : Nat) (w : World) (h0 : w.cell? ⟨bk, 0, none⟩ = some (.int .i64 a)) (h1 : w.cell? ⟨bk, 1, none⟩ = some (.int .i64 b)) : Calls Tryz.prog 118 #[.slice (some ⟨bk, 0, none⟩) 2 c] w fun e w' => e = .returned (.int .i64 r) ∧ w' = w := by
  have HR := Lib.hid hr; clear hr
  go_enter Tryz.func118, Tryz.ntmps118
  go_wp2_with fail
  refine wp_loop_rounds 3 ?_
  rw [rounds_succ]
  by_cases ha : a = 0
  · have HE := Lib.hid (show r = b by rw [HR.out]; simp [ha])
    subst ha
    go_wp2_with fail
    rw [rounds_succ]
    by_cases hb : b = 0
    · have HB := Lib.hid hb
      subst hb
      go_wp2_with fail
      rw [rounds_succ]
      go_wp2_with fail
      go_ret
      exact ⟨by rw [HE.out]; rfl, rfl⟩
    · have t2 : (b != 0) = true := by simp [hb]
      clear hb
      go_wp2_with fail
      go_ret
      exact ⟨by rw [HE.out]; rfl, rfl⟩
  · have t1 : (a != 0) = true := by simp [ha]
    have HE := Lib.hid (show r = a by rw [HR.out]; simp [ha])
    clear ha
    go_wp2_with fail
    go_ret
    exact ⟨by rw [HE.out]; rfl, rfl⟩

set_option maxRecDepth 100000 in
set_option maxHeartbeats 1000000 in
theorem closure (x y : Pr) (W : World) : Calls Tryz.prog 117 #[.agg (enc x).toArray, .agg (enc y).toArray] W fun e w' => e = .returned (.int .i64 (cf x y)) ∧ ∃ q os', w' = Sort.grow (W.drewN q) os' := by
  obtain ⟨x1, x2⟩ := x
  obtain ⟨y1, y2⟩ := y
  unfold enc
  show Calls Tryz.prog 117 #[.agg #[.string ⟨x1.toArray⟩, .string ⟨x2.toArray⟩], .agg #[.string ⟨y1.toArray⟩, .string ⟨y2.toArray⟩]] W _
  have hcf : cf (x1, x2) (y1, y2) = if cs x1 y1 ≠ 0 then cs x1 y1 else cs x2 y2 := rfl
  generalize cf (x1, x2) (y1, y2) = r at hcf ⊢
  have HC := Lib.hid hcf
  clear hcf
  go_enter Tryz.func117, Tryz.ntmps117
  go_wp2_with fail
  refine region_tail 10 (by kernel_rfl) ?_
  simp only [List.take_succ_cons, List.take_zero, List.drop_succ_cons, List.drop_zero]
  repeat still_step
  still_call (compare x1 y1 _)
  repeat still_step
  still_call (compare x2 y2 _)
  refine wpStill_nil ?_
  have hsz : W.heap.size + 1 + 1 = ((W.alloc (.cells #[Value.string ⟨x1.toArray⟩, Value.string ⟨x2.toArray⟩] 152)).alloc (.cells #[Value.string ⟨y1.toArray⟩, Value.string ⟨y2.toArray⟩] 152)).heap.size := by simp
  have HSZ := Lib.hid hsz; clear hsz
  go_wp2_with (go_at_call 118; refine (cmpOr _ _ r HC.out _ _ _ (by rw [HSZ.out]; exact cells_two _ _ _ _ 0 _ rfl) (by rw [HSZ.out]; exact cells_two _ _ _ _ 1 _ rfl)).mono ?_; rintro e w' ⟨rfl, rfl⟩)
  go_ret
  exact ⟨rfl, 1, _, by rw [alloc_eq_grow, alloc_eq_grow, alloc_eq_grow, grow_grow, grow_grow]; rfl⟩
end Go.Proofs.YtidflagmdabfaaaGreatDoor.UriN
