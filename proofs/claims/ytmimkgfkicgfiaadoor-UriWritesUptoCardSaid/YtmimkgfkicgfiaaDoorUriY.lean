/-
  The walk of bollardlaw17.UriWrites.
-/
import Derived.Test.YtmimkgfkicgfiaaDoorUriX
import Derived.Test.YtmimkgfkicgfiaaDoorUriM
namespace Go.Proofs.YtmimkgfkicgfiaaDoor.UriY
open Go.RowKit Go.Proofs.YtmimkgfkicgfiaaDoor Go.Proofs.YtmimkgfkicgfiaaDoor.UriC Go.Proofs.YtmimkgfkicgfiaaDoor.UriN Go.Proofs.YtmimkgfkicgfiaaDoor.UriO Go.Proofs.YtmimkgfkicgfiaaDoor.UriR Go.Proofs.YtmimkgfkicgfiaaDoor.UriQ Go.Proofs.YtmimkgfkicgfiaaDoor.UriT

/-- what the copied uri is -/
structure In (w0 W : World) (B g c : Nat) (p : ByteArray) (ps : List Pr) : Prop where
  bel : Below w0.heap.size w0 W
  ub : UriK.Ub B W (.string p) (.slice (some ⟨g, 0, none⟩) ps.length c)
  own : W.ownsRow w0.heap.size 93 2 (.slice (some ⟨g, 0, none⟩) ps.length c) ps.length (pcells ps)

theorem in0 (w1 : World) (p : ByteArray)  : In w1 (((w1.alloc (.cells #[] 93)).alloc (.cells #[.string p, .slice (some ⟨w1.heap.size, 0, none⟩) 0 0] 25)).drew) (w1.heap.size + 1) w1.heap.size 0 p [] := by
  refine ⟨(((Below.refl _ _).alloc (Nat.le_refl _) _).alloc (by simp) _).drew, ?_, ?_⟩
  · have := heap_alloc_new (w1.alloc (.cells #[] 93)) (.cells #[.string p, .slice (some ⟨w1.heap.size, 0, none⟩) 0 0] 25)
    rwa [World.size_alloc] at this
  · exact (UriT.own_fresh w1 w1.heap.size (Nat.le_refl _)).alloc _
theorem in1 (w1 : World) (p : ByteArray)  : In w1 (((w1.alloc (.cells #[.string p, .slice (some ⟨w1.heap.size + 1, 0, none⟩) 0 0] 25)).alloc (.cells #[] 93)).drew) w1.heap.size (w1.heap.size + 1) 0 p [] := by
  refine ⟨(((Below.refl _ _).alloc (Nat.le_refl _) _).alloc (by simp) _).drew, ?_, ?_⟩
  · exact (Below.heap_alloc _ _ _ (by simp)).trans (heap_alloc_new _ _)
  · exact UriT.own_fresh' _ w1.heap.size _ (by omega) (World.size_alloc _ _)

theorem src_of {w W : World} {b o : Nat} {ps : List Pr} (h : Pairs w (some ⟨b, o, none⟩) ps) (hn : ps ≠ []) (hb : Below w.heap.size w W) : ∀ (j : Nat) u, (pcells ps)[j]? = some u → W.cell? ((⟨b, o, none⟩ : Addr).add j) = some u := by
  intro j u hj
  rcases UriL.Pairs.below h hb with h0 | ⟨b', o', e, hlt, hc⟩
  · exact absurd h0 hn
  · cases e
    rw [UriA.addr_add]
    exact pcells_at (b := b) ps o (fun i p hi => hc i p hi) j u hj
theorem app_after {X W1 W2 : World} {wn r : Nat} {nm vl : Value} (hX : wn < X.heap.size) (hr : X.heap.size ≤ r) (x0 : X.cell? ⟨wn, 0, none⟩ = some nm) (x1 : X.cell? ⟨wn, 1, none⟩ = some vl) (hb : Below X.heap.size X W1) (hg1 : W1.grownBy W2 (some r)) :
    W2.cell? ⟨wn, 0, none⟩ = some nm ∧ W2.cell? ⟨wn, 1, none⟩ = some vl ∧ Below X.heap.size X W2 := by
  have hs := hb.size
  have e : ∀ i, some (Addr.block ⟨wn, i, none⟩) ≠ some r := fun i h => by
    have := Option.some.inj h
    simp only at this
    omega
  exact ⟨(hg1.cell_far ⟨wn, 0, none⟩ (by simp only; omega) (e 0)).trans ((hb.cell (p := ⟨wn, 0, none⟩) hX).trans x0), (hg1.cell_far ⟨wn, 1, none⟩ (by simp only; omega) (e 1)).trans ((hb.cell (p := ⟨wn, 1, none⟩) hX).trans x1), hb.grown hg1 (by omega) (fun j hj => by cases hj; exact hr)⟩
theorem box_after {W1 W2 : World} {B r : Nat} {o : Obj} (h : W1.heap[B]? = some o) (hr : B ≠ r) (hg : W1.grownBy W2 (some r)) : W2.heap[B]? = some o :=
  (hg.block B (Array.getElem?_eq_some_iff.1 h).1 (fun e => hr (Option.some.inj e))).trans h
theorem own_ne {W : World} {base B g n c k : Nat} {cs : Array Value} {xs : List Value} (h : W.ownsRow base 93 2 (.slice (some ⟨g, 0, none⟩) n c) k xs) (hb : W.heap[B]? = some (.cells cs 25 (0, 0))) : g ≠ B := by
  rintro rfl
  rcases h.2 with ⟨h2, _⟩ | ⟨g', cap, cur, h2, _, h4, _⟩
  · cases h2
  · cases h2
    rw [h4] at hb
    simp at hb
/-- the box was there when the slice grew -/
theorem inS {w1 W2 : World} {B g1 c1 : Nat} {p : ByteArray} {ps : List Pr} {u0 u1 : Value} (hb : Below w1.heap.size w1 W2) (hB : w1.heap.size ≤ B) (hbox : W2.heap[B]? = some (.cells #[u0, u1] 25 (0, 0)))
    (hown : W2.ownsRow w1.heap.size 93 2 (.slice (some ⟨g1, 0, none⟩) ps.length c1) ps.length (pcells ps)) :
    In w1 (((W2.setCell ⟨B, 0, none⟩ (.string p)).setCell ⟨B, 1, none⟩ (.slice (some ⟨g1, 0, none⟩) ps.length c1)).drew) B g1 c1 p ps := by
  have hne := own_ne hown hbox
  have e : (Value.slice (some ⟨g1, 0, none⟩) ps.length c1).ownBlock ≠ some B := fun h => hne (by simpa [Value.ownBlock] using h)
  refine ⟨((hb.setCell (p := ⟨B, 0, none⟩) hB _).setCell (p := ⟨B, 1, none⟩) hB _).drew, ?_, ownsRow_setCell_other (ownsRow_setCell_other hown (a := ⟨B, 0, none⟩) e _) (a := ⟨B, 1, none⟩) e _⟩
  show ((W2.setCell ⟨B, 0, none⟩ (.string p)).setCell ⟨B, 1, none⟩ (.slice (some ⟨g1, 0, none⟩) ps.length c1)).heap[B]? = _
  have h1 : (W2.setCell ⟨B, 0, none⟩ (.string p)).heap[B]? = some (.cells #[.string p, u1] 25 (0, 0)) := by
    simp only [World.setCell, Array.getElem?_modify, if_true, hbox]
    rfl
  generalize W2.setCell ⟨B, 0, none⟩ (.string p) = W3 at *
  simp only [World.setCell, Array.getElem?_modify, if_true, h1]
  rfl
theorem inA {w1 W2 : World} {g1 c1 : Nat} {p : ByteArray} {ps : List Pr} (hb : Below w1.heap.size w1 W2)
    (hown : W2.ownsRow w1.heap.size 93 2 (.slice (some ⟨g1, 0, none⟩) ps.length c1) ps.length (pcells ps)) :
    In w1 ((W2.alloc (.cells #[.string p, .slice (some ⟨g1, 0, none⟩) ps.length c1] 25)).drew) W2.heap.size g1 c1 p ps :=
  ⟨(hb.alloc hb.size _).drew, heap_alloc_new _ _, hown.alloc _⟩
theorem inS' {w1 W2 : World} {B g1 c1 : Nat} {p : ByteArray} {ps : List Pr} {u0 u1 : Value} (hb : Below w1.heap.size w1 W2) (hB : w1.heap.size ≤ B) (hbox : W2.heap[B]? = some (.cells #[u0, u1] 25 (0, 0)))
    (hown : W2.ownsRow w1.heap.size 93 2 (.slice (some ⟨g1, 0, none⟩) ps.length c1) ps.length (pcells ps)) :
    In w1 (((W2.setCell ⟨B, 0, none⟩ (.string p)).setCell ⟨B, 1, none⟩ (.slice (some ⟨g1, 0, none⟩) ps.length c1))) B g1 c1 p ps := by
  have hne := own_ne hown hbox
  have e : (Value.slice (some ⟨g1, 0, none⟩) ps.length c1).ownBlock ≠ some B := fun h => hne (by simpa [Value.ownBlock] using h)
  refine ⟨((hb.setCell (p := ⟨B, 0, none⟩) hB _).setCell (p := ⟨B, 1, none⟩) hB _), ?_, ownsRow_setCell_other (ownsRow_setCell_other hown (a := ⟨B, 0, none⟩) e _) (a := ⟨B, 1, none⟩) e _⟩
  show ((W2.setCell ⟨B, 0, none⟩ (.string p)).setCell ⟨B, 1, none⟩ (.slice (some ⟨g1, 0, none⟩) ps.length c1)).heap[B]? = _
  have h1 : (W2.setCell ⟨B, 0, none⟩ (.string p)).heap[B]? = some (.cells #[.string p, u1] 25 (0, 0)) := by
    simp only [World.setCell, Array.getElem?_modify, if_true, hbox]
    rfl
  generalize W2.setCell ⟨B, 0, none⟩ (.string p) = W3 at *
  simp only [World.setCell, Array.getElem?_modify, if_true, h1]
  rfl
theorem inA' {w1 W2 : World} {g1 c1 : Nat} {p : ByteArray} {ps : List Pr} (hb : Below w1.heap.size w1 W2)
    (hown : W2.ownsRow w1.heap.size 93 2 (.slice (some ⟨g1, 0, none⟩) ps.length c1) ps.length (pcells ps)) :
    In w1 ((W2.alloc (.cells #[.string p, .slice (some ⟨g1, 0, none⟩) ps.length c1] 25))) W2.heap.size g1 c1 p ps :=
  ⟨(hb.alloc hb.size _), heap_alloc_new _ _, hown.alloc _⟩
theorem sz_le {ps : List Pr} {K : Nat} (h : ∀ q ∈ ps, q.1.length ≤ K ∧ q.2.length ≤ K) : sz ps ≤ ps.length * (2 * K) := by
  induction ps with
  | nil => simp [sz]
  | cons q r ih =>
    have h1 := h q List.mem_cons_self
    have h2 := ih fun x hx => h x (List.mem_cons_of_mem _ hx)
    simp only [sz, List.map_cons, List.sum_cons, List.length_cons] at h2 ⊢
    rw [Nat.succ_mul]
    omega

/-- what stands all along: both uris, their boxes -/
structure St (w W : World) (B7 g c5 : Nat) (a : Option Addr) (c : Nat) (p : ByteArray) (ps : List Pr) : Prop where
  bel : Below w.heap.size w W
  u : UriK.Ub w.heap.size W (.string p) (.slice a ps.length c)
  v : UriK.Ub B7 W (.string p) (.slice (some ⟨g, 0, none⟩) ps.length c5)
  pa : Pairs W a ps
  pg : Pairs W (some ⟨g, 0, none⟩) ps
theorem St.below {w W W' : World} {B7 g c5 : Nat} {a : Option Addr} {c : Nat} {p : ByteArray} {ps : List Pr} (h : St w W B7 g c5 a c p ps) (hb : Below W.heap.size W W') : St w W' B7 g c5 a c p ps :=
  ⟨h.bel.trans (hb.mono h.bel.size), h.u.below hb, h.v.below hb, UriL.Pairs.below h.pa hb, UriL.Pairs.below h.pg hb⟩
theorem gt_take {ps : List Pr} {k : Nat} {q : Pr} (n : List UInt8) (h : ps[k]? = some q) : gt (ps.take (k + 1)) n = (gt (ps.take k) n).or (if q.1 = n then some q.2 else none) := by
  unfold gt
  rw [List.take_add_one, h, List.find?_append]
  cases List.find? (fun x => x.1 == n) (ps.take k) with
  | some v => rfl
  | none =>
    simp only [Option.toList_some, List.find?_cons, List.find?_nil, Option.none_or, Option.map_none]
    by_cases e : q.1 = n
    · simp [e]
    · have : (q.1 == n) = false := by simpa using e
      simp [this, e]

set_option maxHeartbeats 2000000 in
set_option maxRecDepth 100000 in
theorem writes (p : ByteArray) {a : Option Addr} {ps : List Pr} (c : Nat) (s : List UInt8) (slash : Bool) (w : World) {aU : Addr} (he : EU w aU) (hm : UriB.Mx w) (hp : Pairs w a ps) (hpl : p.size ≤ 1048576) (hsl : s.length ≤ 1048576) (hq : ∀ q ∈ ps, q.1.length ≤ 1048576 ∧ q.2.length ≤ 1048576) (hlp : ps.length ≤ 1048576) :
    Calls Tryd.prog 12 #[.agg #[.string p, .slice a ps.length c], .string ⟨s.toArray⟩, .bool slash] w fun e w' => e = .returned (.bool true) ∧ Below w.heap.size w w' := by
  obtain ⟨i0, hi, hz0, hz1, hz2⟩ := info_parts infoPair
  go_enter Tryd.func12, Tryd.ntmps12
  go_wp2_with fail
  have hb0 : Below w.heap.size w (w.alloc (.cells #[.string p, .slice a ps.length c] 25)) := (Below.refl _ w).alloc (Nat.le_refl _) _
  refine (UriG.alive _ (he.below hb0) (hm.below hb0)).mono ?_
  rintro e w1 ⟨rfl, hb1⟩
  have hU1 : UriK.Ub w.heap.size w1 (.string p) (.slice a ps.length c) := (hb1.block _ (by simp)).trans (heap_alloc_new _ _)
  have hB1 : Below w.heap.size w w1 := hb0.trans (hb1.mono (by simp))
  have hP1 := UriL.Pairs.below (UriL.Pairs.below hp hb0) hb1
  have hwl := hU1.lt
  obtain ⟨x0, x1, _, _⟩ := hU1.cells
  clear hb0 hb1 hp he hm
  by_cases hbig : 1000 < ps.length
  · go_wp2_with fail
    go_ret
    exact ⟨rfl, hB1⟩
  · have HU1 := Lib.hid hU1; have HP1 := Lib.hid hP1; have HB1 := Lib.hid hB1
    clear hU1 hP1 hB1
    go_wp2_with fail
    refine (show ∀ A0 : Act, A0 = _ → Code.wp _ _ _ A0 _ from ?_) _ rfl
    intro A0 hA0
    refine wp_mono (Q := fun e b W => e = .normal ∧ ∃ (B7 g c5 : Nat) (v25 v26 v27 v28 v29 v30 v31 : Value), b = { tmps := (((((((A0.tmps.setIfInBounds 25 v25).setIfInBounds 26 v26).setIfInBounds 27 v27).setIfInBounds 28 v28).setIfInBounds 29 v29).setIfInBounds 30 v30).setIfInBounds 31 v31).setIfInBounds 7 (.pointer (some ⟨B7, 0, none⟩)), defers := [] } ∧ In w1 W B7 g c5 p ps) ?_ ?_
    · subst hA0
      by_cases h0 : ps = []
      · subst h0
        cases a
        · go_region_held3 (fun w' => w'.cell? ⟨w.heap.size, 0, none⟩ = some (.string p) ∧ w'.cell? ⟨w.heap.size, 1, none⟩ = some (.slice none 0 c))
            (first | go_keep)
            (first | fail)
          · exact ⟨rfl, w1.heap.size + 1, w1.heap.size, 0, _, _, _, _, _, _, _, rfl, in0 w1 p⟩
          · exact ⟨rfl, w1.heap.size + 1, w1.heap.size, 0, _, _, _, _, _, _, _, rfl, in0 w1 p⟩
          · exact ⟨rfl, w1.heap.size, w1.heap.size + 1, 0, _, _, _, _, _, _, _, rfl, in1 w1 p⟩
        · rename_i ad
          go_region_held3 (fun w' => w'.cell? ⟨w.heap.size, 0, none⟩ = some (.string p) ∧ w'.cell? ⟨w.heap.size, 1, none⟩ = some (.slice (some ad) 0 c))
            (first | go_keep)
            (first | fail)
          · exact ⟨rfl, w1.heap.size + 1, w1.heap.size, 0, _, _, _, _, _, _, _, rfl, in0 w1 p⟩
          · exact ⟨rfl, w1.heap.size + 1, w1.heap.size, 0, _, _, _, _, _, _, _, rfl, in0 w1 p⟩
          · exact ⟨rfl, w1.heap.size, w1.heap.size + 1, 0, _, _, _, _, _, _, _, rfl, in1 w1 p⟩
      · obtain ⟨b, o, rfl⟩ : ∃ b o, a = some ⟨b, o, none⟩ := by
          rcases HP1.out with h | ⟨b, o, h, _⟩
          · exact absurd h h0
          · exact ⟨b, o, h⟩
        have n1 : ¬ w.heap.size = w1.heap.size + 1 := by omega
        have n2 : ¬ w1.heap.size + 1 = w.heap.size := by omega
        have n3 : ¬ w.heap.size = w1.heap.size := by omega
        have n4 : ¬ w1.heap.size = w.heap.size := by omega
        have SRC := Lib.hid (fun (W : World) (hb : Below w1.heap.size w1 W) => src_of HP1.out h0 hb)
        go_region_held3 (fun w' => w'.cell? ⟨w.heap.size, 0, none⟩ = some (.string p) ∧ w'.cell? ⟨w.heap.size, 1, none⟩ = some (.slice (some ⟨b, o, none⟩) ps.length c))
          (first | go_keep)
          (first
            | (refine step_append_own (by rfl) (.tmp 27) (.tmp 29) _ (by rfl) w1.heap.size 93 i0 _ 2 32 Tryd.underlying23 hi hz0 hz1 hz2 rfl (by omega) w1.heap.size 0 0 [] (by rfl) (UriT.own_fresh w1 w1.heap.size (Nat.le_refl _)) ⟨b, o, none⟩ ps.length c (pcells ps) (by rfl) (by rw [pcells_length]) (by first | exact SRC.out _ (((Below.refl _ w1).alloc (Nat.le_refl _) _)) | exact SRC.out _ (((Below.refl _ w1).alloc (Nat.le_refl _) _)).drew) (pcells_one _) (by unfold maxLen; omega) (by omega) (by show w1.heap.size ≤ (World.alloc w1 _).heap.size; simp only [World.size_alloc]; omega) ?_; intro g1 c1 W2 hown1' hg1; have hown1 : W2.ownsRow w1.heap.size 93 2 (.slice (some ⟨g1, 0, none⟩) ps.length c1) ps.length (pcells ps) := (by simpa using hown1'); obtain ⟨k0, k1, hb2⟩ := app_after (r := w1.heap.size) hwl (by omega) x0 x1 (by first | exact (((Below.refl _ w1).alloc (Nat.le_refl _) _)) | exact (((Below.refl _ w1).alloc (Nat.le_refl _) _)).drew) hg1)
            | (refine step_append_own (by rfl) (.tmp 27) (.tmp 29) _ (by rfl) w1.heap.size 93 i0 _ 2 32 Tryd.underlying23 hi hz0 hz1 hz2 rfl (by omega) w1.heap.size 0 0 [] (by rfl) ((UriT.own_fresh w1 w1.heap.size (Nat.le_refl _)).alloc _) ⟨b, o, none⟩ ps.length c (pcells ps) (by rfl) (by rw [pcells_length]) (by first | exact SRC.out _ ((UriT.bel2 w1 _ _)) | exact SRC.out _ ((UriT.bel2 w1 _ _)).drew) (pcells_one _) (by unfold maxLen; omega) (by omega) (by show w1.heap.size ≤ (World.alloc (World.alloc w1 _) _).heap.size; simp only [World.size_alloc]; omega) ?_; intro g1 c1 W2 hown1' hg1; have hown1 : W2.ownsRow w1.heap.size 93 2 (.slice (some ⟨g1, 0, none⟩) ps.length c1) ps.length (pcells ps) := (by simpa using hown1'); obtain ⟨k0, k1, hb2⟩ := app_after (r := w1.heap.size) hwl (by omega) x0 x1 (by first | exact ((UriT.bel2 w1 _ _)) | exact ((UriT.bel2 w1 _ _)).drew) hg1; have hbox := box_after (B := w1.heap.size + 1) (by first | exact UriT.new2d w1 (.cells #[] 93) (.string ⟨#[]⟩) (.slice none 0 0) 25 | exact UriT.new2 w1 (.cells #[] 93) (.string ⟨#[]⟩) (.slice none 0 0) 25) (by omega) hg1; have r0 := (Lib.cell_of_heap hbox 0); have r1 := (Lib.cell_of_heap hbox 1); simp only [List.getElem?_toArray, List.getElem?_cons_zero, List.getElem?_cons_succ] at r0 r1; have z0 := Lib.frozen_of_heap hbox 0; have z1 := Lib.frozen_of_heap hbox 1; have HBOX := Lib.hid hbox; clear hbox)
            | (refine step_append_own (by rfl) (.tmp 27) (.tmp 29) _ (by rfl) w1.heap.size 93 i0 _ 2 32 Tryd.underlying23 hi hz0 hz1 hz2 rfl (by omega) (w1.heap.size + 1) 0 0 [] (by rfl) (UriT.own_fresh' _ w1.heap.size _ (by omega) (World.size_alloc _ _)) ⟨b, o, none⟩ ps.length c (pcells ps) (by rfl) (by rw [pcells_length]) (by first | exact SRC.out _ ((UriT.bel2 w1 _ _)) | exact SRC.out _ ((UriT.bel2 w1 _ _)).drew) (pcells_one _) (by unfold maxLen; omega) (by omega) (by show w1.heap.size ≤ (World.alloc (World.alloc w1 _) _).heap.size; simp only [World.size_alloc]; omega) ?_; intro g1 c1 W2 hown1' hg1; have hown1 : W2.ownsRow w1.heap.size 93 2 (.slice (some ⟨g1, 0, none⟩) ps.length c1) ps.length (pcells ps) := (by simpa using hown1'); obtain ⟨k0, k1, hb2⟩ := app_after (r := (w1.heap.size + 1)) hwl (by omega) x0 x1 (by first | exact ((UriT.bel2 w1 _ _)) | exact ((UriT.bel2 w1 _ _)).drew) hg1; have hbox := box_after (B := w1.heap.size) (by first | exact UriT.new3d w1 (.cells #[] 93) (.string ⟨#[]⟩) (.slice none 0 0) 25 | exact UriT.new3 w1 (.cells #[] 93) (.string ⟨#[]⟩) (.slice none 0 0) 25) (by omega) hg1; have r0 := (Lib.cell_of_heap hbox 0); have r1 := (Lib.cell_of_heap hbox 1); simp only [List.getElem?_toArray, List.getElem?_cons_zero, List.getElem?_cons_succ] at r0 r1; have z0 := Lib.frozen_of_heap hbox 0; have z1 := Lib.frozen_of_heap hbox 1; have HBOX := Lib.hid hbox; clear hbox))
        all_goals
          first
            | exact ⟨rfl, W2.heap.size, g1, c1, _, _, _, _, _, _, _, rfl, inA' hb2 hown1⟩
            | exact ⟨rfl, W2.heap.size, g1, c1, _, _, _, _, _, _, _, rfl, inA hb2 hown1⟩
            | exact ⟨rfl, w1.heap.size + 1, g1, c1, _, _, _, _, _, _, _, rfl, inS' hb2 (by omega) HBOX.out hown1⟩
            | exact ⟨rfl, w1.heap.size + 1, g1, c1, _, _, _, _, _, _, _, rfl, inS hb2 (by omega) HBOX.out hown1⟩
            | exact ⟨rfl, w1.heap.size, g1, c1, _, _, _, _, _, _, _, rfl, inS' hb2 (by omega) HBOX.out hown1⟩
            | exact ⟨rfl, w1.heap.size, g1, c1, _, _, _, _, _, _, _, rfl, inS hb2 (by omega) HBOX.out hown1⟩
    · rintro e b W5 ⟨rfl, B7, g, c5, v25, v26, v27, v28, v29, v30, v31, rfl, hin⟩
      subst hA0
      simp only [List.setIfInBounds_toArray, List.set_cons_succ, List.set_cons_zero]
      obtain ⟨y0, y1, _, _⟩ := hin.ub.cells
      have HU5 := HU1.out.below hin.bel
      have HB5 := HB1.out.trans (hin.bel.mono HB1.out.size)
      have hS5 : St w W5 B7 g c5 a c p ps := ⟨HB5, HU5, hin.ub, UriL.Pairs.below HP1.out hin.bel, UriT.own_pairs hin.own⟩
      have S5 := Lib.hid hS5
      have hszl := sz_le hq
      have hszl2 : ps.length * (2 * 1048576) ≤ 1048576 * (2 * 1048576) := Nat.mul_le_mul_right _ hlp
      have hqtl := qt_len ps
      have hqt : (qt ps).length ≤ 140737488355328 := by omega
      have hq2 : ∀ q ∈ ps, q.1.length ≤ 16777216 ∧ q.2.length ≤ 16777216 := fun q h => by have := hq q h; omega
      have hfl : Flat (some (⟨g, 0, none⟩ : Addr)) := fun q hq => ⟨g, 0, (Option.some.inj hq).symm⟩
      have HQ2 := Lib.hid hq2
      have HFL := Lib.hid hfl
      have hpl3 : p.size ≤ 16777216 := by omega
      have hlp3 : ps.length ≤ 16777216 := by omega
      have hel := UriD.enc_len true p.data.toList
      rw [Com.toList_length] at hel
      have s1 : ¬ 9223372036854775807 < (qt ps).length + 1 := by omega
      have s1' : ¬ 9223372036854775807 < 1 + (qt ps).length := by omega
      have s2 : ¬ 9223372036854775807 < (UriD.enc true p.data.toList).length + (1 + (qt ps).length) := by omega
      have s2' : ¬ 9223372036854775807 < (UriD.enc true p.data.toList).length + ((qt ps).length + 1) := by omega
      clear hin hS5 HU5 HB5 HU1 HP1 HB1 x0 x1 hq hq2 hfl hszl hszl2 hqtl
      go_wp2_with fail
      refine (UriP.canonical p c5 W5 HFL.out S5.out.pg hlp3 hpl3 HQ2.out hqt).mono ?_
      rintro e W6 ⟨rfl, hb6⟩
      have S6 := Lib.hid (S5.out.below hb6)
      clear y0 y1 hb6
      obtain ⟨x0, x1, _, _⟩ := S6.out.u.cells
      obtain ⟨y0, y1, _, _⟩ := S6.out.v.cells
      go_wp2_with fail
      refine (UriX.canonical p c W6 S6.out.pa hlp3 hpl3 HQ2.out hqt).mono ?_
      rintro e W7 ⟨rfl, hb7⟩
      have S7 := Lib.hid (S6.out.below hb7)
      clear y0 y1 x0 x1 hb7
      obtain ⟨x0, x1, _, _⟩ := S7.out.u.cells
      obtain ⟨y0, y1, _, _⟩ := S7.out.v.cells
      by_cases hn : qt ps = []
      · have HQT := Lib.hid hqt
        rw [hn]
        clear hqt
        go_wp2_with fail
        obtain ⟨V, hV⟩ : ∃ V : ByteArray, V = ⟨(UriD.enc true p.data.toList).toArray⟩ := ⟨_, rfl⟩
        rw [← hV]
        have HV := Lib.hid (show V = ⟨(jn p.data.toList ps).toArray⟩ by rw [hV]; unfold jn; rw [if_pos hn])
        clear hV hn
        refine (UriQ.get (.string p) s c5 W7 S7.out.pg (by omega)).mono ?_
        rintro e W8 ⟨rfl, hb8⟩
        have S8 := Lib.hid (S7.out.below hb8)
        clear y0 y1 x0 x1 hb8
        obtain ⟨x0, x1, _, _⟩ := S8.out.u.cells
        obtain ⟨y0, y1, _, _⟩ := S8.out.v.cells
        obtain ⟨gv, hgv⟩ : ∃ gv, gv = (gt ps s).getD [] := ⟨_, rfl⟩
        obtain ⟨gb, hgb⟩ : ∃ gb, gb = (gt ps s).isSome := ⟨_, rfl⟩
        rw [← hgv, ← hgb]
        have HGV := Lib.hid hgv
        have HGB := Lib.hid hgb
        clear hgv hgb
        go_wp2_with fail
        clear x0 x1 y0 y1
        go_loopg [15, 16, 58] ps.length (fun g0 v15 v16 v58 wr => ∃ k : Nat, k + g0 = ps.length ∧ v58 = .int .i64 k ∧ v15 = .string ⟨((gt (ps.take k) s).getD []).toArray⟩ ∧ v16 = .bool (gt (ps.take k) s).isSome ∧ Hid (St w wr B7 g c5 a c p ps))
        case atStart => exact ⟨0, by simp, rfl, rfl, rfl, S8⟩
        case round =>
          obtain ⟨k, hkg, rfl, rfl, rfl, SR⟩ := hrel
          have HG := Lib.hid hkg; clear hkg
          obtain ⟨x0, x1, _, _⟩ := SR.out.u.cells
          by_cases hlt : k < ps.length
          · obtain ⟨q, hqk⟩ : ∃ q, ps[k]? = some q := ⟨ps[k], List.getElem?_eq_getElem hlt⟩
            obtain ⟨b, o, rfl, hbb, c0, c1⟩ := UriQ.cells_at SR.out.pa hqk
            have HT := Lib.hid (gt_take s hqk)
            obtain ⟨nm, vl⟩ := q
            simp only at c0 c1
            clear hqk
            have SA := Lib.hid (SR.out.below ((Below.refl _ wr).alloc (Nat.le_refl _) (.cells #[.string ⟨nm.toArray⟩, .string ⟨vl.toArray⟩] 93)))
            cases hgk : gt (ps.take k) s with
            | some v =>
              have HK := Lib.hid (show gt (ps.take (k + 1)) s = some v by rw [HT.out, hgk]; rfl)
              clear hgk
              cases t1 : (nm == s)
              · go_wp2_with fail
                go_roundg (ps.length - (k + 1))
                case rel => exact ⟨k + 1, by omega, by go_num, by rw [HK.out]; rfl, by rw [HK.out]; rfl, SA⟩
                case measure => have := HG.out; omega
              · go_wp2_with fail
                go_roundg (ps.length - (k + 1))
                case rel => exact ⟨k + 1, by omega, by go_num, by rw [HK.out]; rfl, by rw [HK.out]; rfl, SA⟩
                case measure => have := HG.out; omega
            | none =>
              cases t1 : (nm == s)
              · have HK := Lib.hid (show gt (ps.take (k + 1)) s = none by rw [HT.out, hgk]; simp only [beq_eq_false_iff_ne] at t1; rw [if_neg t1]; rfl)
                clear hgk
                go_wp2_with fail
                go_roundg (ps.length - (k + 1))
                case rel => exact ⟨k + 1, by omega, by go_num, by rw [HK.out]; rfl, by rw [HK.out]; rfl, SA⟩
                case measure => have := HG.out; omega
              · have HK := Lib.hid (show gt (ps.take (k + 1)) s = some vl by rw [HT.out, hgk, if_pos (eq_of_beq t1)]; rfl)
                clear hgk
                go_wp2_with fail
                go_roundg (ps.length - (k + 1))
                case rel => exact ⟨k + 1, by omega, by go_num, by rw [HK.out]; rfl, by rw [HK.out]; rfl, SA⟩
                case measure => have := HG.out; omega
          · have e15 : gt (ps.take k) s = gt ps s := by rw [List.take_of_length_le (by omega)]
            rw [e15, ← HGV.out, ← HGB.out]
            clear e15
            obtain ⟨y0, y1, _, _⟩ := SR.out.v.cells
            go_wp2_with fail
            refine (UriQ.join p c5 _ HFL.out SR.out.pg hlp3 hpl3 HQ2.out HQT.out).mono ?_
            rintro e W9 ⟨rfl, hb9⟩
            rw [← HV.out]
            have S9 := Lib.hid (SR.out.below hb9)
            clear y0 y1 x0 x1 hb9
            go_wp2_with fail
            refine (UriD.encode ⟨s.toArray⟩ slash _ (by rw [Com.size_mk]; omega)).mono ?_
            rintro e W10 ⟨rfl, hb10⟩
            have S10 := Lib.hid (S9.out.below hb10)
            clear hb10
            go_wp2_with fail
            refine (UriS.encode ⟨s.toArray⟩ slash _ (by rw [Com.size_mk]; omega)).mono ?_
            rintro e W11 ⟨rfl, hb11⟩
            have S11 := Lib.hid (S10.out.below hb11)
            clear hb11
            obtain ⟨x0, x1, _, _⟩ := S11.out.u.cells
            obtain ⟨y0, y1, _, _⟩ := S11.out.v.cells
            go_wp2_with fail
            refine (UriL.same p ps (some ⟨g, 0, none⟩) a c5 c _ (by omega) S11.out.pg S11.out.pa).mono ?_
            rintro e W12 ⟨rfl, hb12⟩
            have S12 := Lib.hid (S11.out.below hb12)
            clear hb12 x0 x1 y0 y1
            go_wp2
            go_ret
            exact ⟨rfl, S12.out.bel⟩
      · have hne : (qt ps).isEmpty = false := by simpa using hn
        have HQT := Lib.hid hqt
        go_wp2_with fail
        obtain ⟨V, hV⟩ : ∃ V : ByteArray, V = ⟨(UriD.enc true p.data.toList).toArray⟩ ++ (⟨#[63]⟩ ++ ⟨(qt ps).toArray⟩) := ⟨_, rfl⟩
        rw [← hV]
        have HV := Lib.hid (show V = ⟨(jn p.data.toList ps).toArray⟩ by rw [hV]; unfold jn; rw [if_neg hn]; simp only [Com.mk_append, List.append_assoc])
        clear hV hn hne hqt
        refine (UriQ.get (.string p) s c5 W7 S7.out.pg (by omega)).mono ?_
        rintro e W8 ⟨rfl, hb8⟩
        have S8 := Lib.hid (S7.out.below hb8)
        clear y0 y1 x0 x1 hb8
        obtain ⟨x0, x1, _, _⟩ := S8.out.u.cells
        obtain ⟨y0, y1, _, _⟩ := S8.out.v.cells
        obtain ⟨gv, hgv⟩ : ∃ gv, gv = (gt ps s).getD [] := ⟨_, rfl⟩
        obtain ⟨gb, hgb⟩ : ∃ gb, gb = (gt ps s).isSome := ⟨_, rfl⟩
        rw [← hgv, ← hgb]
        have HGV := Lib.hid hgv
        have HGB := Lib.hid hgb
        clear hgv hgb
        go_wp2_with fail
        clear x0 x1 y0 y1
        go_loopg [15, 16, 58] ps.length (fun g0 v15 v16 v58 wr => ∃ k : Nat, k + g0 = ps.length ∧ v58 = .int .i64 k ∧ v15 = .string ⟨((gt (ps.take k) s).getD []).toArray⟩ ∧ v16 = .bool (gt (ps.take k) s).isSome ∧ Hid (St w wr B7 g c5 a c p ps))
        case atStart => exact ⟨0, by simp, rfl, rfl, rfl, S8⟩
        case round =>
          obtain ⟨k, hkg, rfl, rfl, rfl, SR⟩ := hrel
          have HG := Lib.hid hkg; clear hkg
          obtain ⟨x0, x1, _, _⟩ := SR.out.u.cells
          by_cases hlt : k < ps.length
          · obtain ⟨q, hqk⟩ : ∃ q, ps[k]? = some q := ⟨ps[k], List.getElem?_eq_getElem hlt⟩
            obtain ⟨b, o, rfl, hbb, c0, c1⟩ := UriQ.cells_at SR.out.pa hqk
            have HT := Lib.hid (gt_take s hqk)
            obtain ⟨nm, vl⟩ := q
            simp only at c0 c1
            clear hqk
            have SA := Lib.hid (SR.out.below ((Below.refl _ wr).alloc (Nat.le_refl _) (.cells #[.string ⟨nm.toArray⟩, .string ⟨vl.toArray⟩] 93)))
            cases hgk : gt (ps.take k) s with
            | some v =>
              have HK := Lib.hid (show gt (ps.take (k + 1)) s = some v by rw [HT.out, hgk]; rfl)
              clear hgk
              cases t1 : (nm == s)
              · go_wp2_with fail
                go_roundg (ps.length - (k + 1))
                case rel => exact ⟨k + 1, by omega, by go_num, by rw [HK.out]; rfl, by rw [HK.out]; rfl, SA⟩
                case measure => have := HG.out; omega
              · go_wp2_with fail
                go_roundg (ps.length - (k + 1))
                case rel => exact ⟨k + 1, by omega, by go_num, by rw [HK.out]; rfl, by rw [HK.out]; rfl, SA⟩
                case measure => have := HG.out; omega
            | none =>
              cases t1 : (nm == s)
              · have HK := Lib.hid (show gt (ps.take (k + 1)) s = none by rw [HT.out, hgk]; simp only [beq_eq_false_iff_ne] at t1; rw [if_neg t1]; rfl)
                clear hgk
                go_wp2_with fail
                go_roundg (ps.length - (k + 1))
                case rel => exact ⟨k + 1, by omega, by go_num, by rw [HK.out]; rfl, by rw [HK.out]; rfl, SA⟩
                case measure => have := HG.out; omega
              · have HK := Lib.hid (show gt (ps.take (k + 1)) s = some vl by rw [HT.out, hgk, if_pos (eq_of_beq t1)]; rfl)
                clear hgk
                go_wp2_with fail
                go_roundg (ps.length - (k + 1))
                case rel => exact ⟨k + 1, by omega, by go_num, by rw [HK.out]; rfl, by rw [HK.out]; rfl, SA⟩
                case measure => have := HG.out; omega
          · have e15 : gt (ps.take k) s = gt ps s := by rw [List.take_of_length_le (by omega)]
            rw [e15, ← HGV.out, ← HGB.out]
            clear e15
            obtain ⟨y0, y1, _, _⟩ := SR.out.v.cells
            go_wp2_with fail
            refine (UriQ.join p c5 _ HFL.out SR.out.pg hlp3 hpl3 HQ2.out HQT.out).mono ?_
            rintro e W9 ⟨rfl, hb9⟩
            rw [← HV.out]
            have S9 := Lib.hid (SR.out.below hb9)
            clear y0 y1 x0 x1 hb9
            go_wp2_with fail
            refine (UriD.encode ⟨s.toArray⟩ slash _ (by rw [Com.size_mk]; omega)).mono ?_
            rintro e W10 ⟨rfl, hb10⟩
            have S10 := Lib.hid (S9.out.below hb10)
            clear hb10
            go_wp2_with fail
            refine (UriS.encode ⟨s.toArray⟩ slash _ (by rw [Com.size_mk]; omega)).mono ?_
            rintro e W11 ⟨rfl, hb11⟩
            have S11 := Lib.hid (S10.out.below hb11)
            clear hb11
            obtain ⟨x0, x1, _, _⟩ := S11.out.u.cells
            obtain ⟨y0, y1, _, _⟩ := S11.out.v.cells
            go_wp2_with fail
            refine (UriL.same p ps (some ⟨g, 0, none⟩) a c5 c _ (by omega) S11.out.pg S11.out.pa).mono ?_
            rintro e W12 ⟨rfl, hb12⟩
            have S12 := Lib.hid (S11.out.below hb12)
            clear hb12 x0 x1 y0 y1
            go_wp2
            go_ret
            exact ⟨rfl, S12.out.bel⟩
end Go.Proofs.YtmimkgfkicgfiaaDoor.UriY
