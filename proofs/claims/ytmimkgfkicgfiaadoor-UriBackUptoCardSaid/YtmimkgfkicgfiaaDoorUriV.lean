/-
  The walk of bollardlaw17.UriBack.
-/
import Derived.Test.YtmimkgfkicgfiaaDoorUriT
import Derived.Test.YtmimkgfkicgfiaaDoorUriM
namespace Go.Proofs.YtmimkgfkicgfiaaDoor.UriV
open Go.RowKit Go.Proofs.YtmimkgfkicgfiaaDoor Go.Proofs.YtmimkgfkicgfiaaDoor.UriC Go.Proofs.YtmimkgfkicgfiaaDoor.UriN Go.Proofs.YtmimkgfkicgfiaaDoor.UriO Go.Proofs.YtmimkgfkicgfiaaDoor.UriR Go.Proofs.YtmimkgfkicgfiaaDoor.UriQ

theorem pairs_flat {w : World} {a : Option Addr} {ps : List Pr} (hn : ps ≠ []) (h : Pairs w a ps) : Flat a := by
  rcases h with h | ⟨b, o, h, _⟩
  · exact absurd h hn
  · subst h; exact fun p hp => ⟨b, o, (Option.some.inj hp).symm⟩

theorem keep4 {A B : Nat} {u0 u1 v0 v1 : Value} {w w' : World} (h0 : w.cell? ⟨A, 0, none⟩ = some u0) (h1 : w.cell? ⟨A, 1, none⟩ = some u1) (h2 : w.cell? ⟨B, 0, none⟩ = some v0) (h3 : w.cell? ⟨B, 1, none⟩ = some v1) (hb : Below w.heap.size w w') :
    w'.cell? ⟨A, 0, none⟩ = some u0 ∧ w'.cell? ⟨A, 1, none⟩ = some u1 ∧ w'.cell? ⟨B, 0, none⟩ = some v0 ∧ w'.cell? ⟨B, 1, none⟩ = some v1 :=
  ⟨(hb.cell (World.block_lt_of_cell? w _ h0)).trans h0, (hb.cell (World.block_lt_of_cell? w _ h1)).trans h1, (hb.cell (World.block_lt_of_cell? w _ h2)).trans h2, (hb.cell (World.block_lt_of_cell? w _ h3)).trans h3⟩
theorem sortedK (W0 : World) (A B : Nat) (u0 u1 v0 v1 : Value) {a : Option Addr} {ps : List Pr} (c : Nat) (w : World) (hp : Pairs W0 a ps) (hl : ps.length ≤ 16777216) (ht : Below W0.heap.size W0 w)
    (h0 : w.cell? ⟨A, 0, none⟩ = some u0) (h1 : w.cell? ⟨A, 1, none⟩ = some u1) (h2 : w.cell? ⟨B, 0, none⟩ = some v0) (h3 : w.cell? ⟨B, 1, none⟩ = some v1) :
    Calls Tryd.prog 48 #[.slice a ps.length c] w fun e w' => (∃ a' c', e = .returned (.slice a' (srt ps).length c') ∧ Pairs w' a' (srt ps)) ∧
      (w'.cell? ⟨A, 0, none⟩ = some u0 ∧ w'.cell? ⟨A, 1, none⟩ = some u1 ∧ w'.cell? ⟨B, 0, none⟩ = some v0 ∧ w'.cell? ⟨B, 1, none⟩ = some v1) ∧ Below W0.heap.size W0 w' := by
  refine (UriT.sorted c w (UriL.Pairs.below hp ht) hl).mono ?_
  rintro e w' ⟨⟨v, rfl, ho⟩, hb⟩
  rw [← srt_length ps] at ho
  obtain ⟨a', c', rfl, _, hpp⟩ := pairs_of_own ho
  exact ⟨⟨a', c', rfl, hpp⟩, keep4 h0 h1 h2 h3 hb, ht.trans (hb.mono ht.size)⟩
theorem sameK (W0 : World) (A B : Nat) (u0 u1 v0 v1 : Value) (p : ByteArray) (ps : List Pr) (a1 a2 : Option Addr) (c1 c2 : Nat) (w : World) (hl : ps.length ≤ 4294967296) (hp1 : Pairs W0 a1 ps) (hp2 : Pairs w a2 ps) (ht : Below W0.heap.size W0 w)
    (h0 : w.cell? ⟨A, 0, none⟩ = some u0) (h1 : w.cell? ⟨A, 1, none⟩ = some u1) (h2 : w.cell? ⟨B, 0, none⟩ = some v0) (h3 : w.cell? ⟨B, 1, none⟩ = some v1) :
    Calls Tryd.prog 18 #[.agg #[.string p, .slice a1 ps.length c1], .agg #[.string p, .slice a2 ps.length c2]] w fun e w' => e = .returned (.bool true) ∧
      (w'.cell? ⟨A, 0, none⟩ = some u0 ∧ w'.cell? ⟨A, 1, none⟩ = some u1 ∧ w'.cell? ⟨B, 0, none⟩ = some v0 ∧ w'.cell? ⟨B, 1, none⟩ = some v1) ∧ Below W0.heap.size W0 w' := by
  refine (UriL.same p ps a1 a2 c1 c2 w hl (UriL.Pairs.below hp1 ht) hp2).mono ?_
  rintro e w' ⟨rfl, hb⟩
  exact ⟨rfl, keep4 h0 h1 h2 h3 hb, ht.trans (hb.mono ht.size)⟩
theorem joinK (W0 : World) (A B : Nat) (u0 u1 v0 v1 : Value) (p J : List UInt8) {a : Option Addr} {ps : List Pr} (c : Nat) (w : World) (hJ : jn p ps = J) (hf : Flat a) (hp : Pairs W0 a ps) (hl : ps.length ≤ 16777216) (hpl : p.length ≤ 16777216) (hq : ∀ q ∈ ps, q.1.length ≤ 16777216 ∧ q.2.length ≤ 16777216) (hj : (qt ps).length ≤ 140737488355328) (ht : Below W0.heap.size W0 w)
    (h0 : w.cell? ⟨A, 0, none⟩ = some u0) (h1 : w.cell? ⟨A, 1, none⟩ = some u1) (h2 : w.cell? ⟨B, 0, none⟩ = some v0) (h3 : w.cell? ⟨B, 1, none⟩ = some v1) :
    Calls Tryd.prog 47 #[.agg #[.string ⟨p.toArray⟩, .slice a ps.length c]] w fun e w' => e = .returned (.string ⟨J.toArray⟩) ∧
      (w'.cell? ⟨A, 0, none⟩ = some u0 ∧ w'.cell? ⟨A, 1, none⟩ = some u1 ∧ w'.cell? ⟨B, 0, none⟩ = some v0 ∧ w'.cell? ⟨B, 1, none⟩ = some v1) ∧ Below W0.heap.size W0 w' := by
  refine (UriQ.join ⟨p.toArray⟩ c w hf (UriL.Pairs.below hp ht) hl (by rw [Com.size_mk]; exact hpl) hq hj).mono ?_
  rintro e w' ⟨rfl, hb⟩
  refine ⟨?_, keep4 h0 h1 h2 h3 hb, ht.trans (hb.mono ht.size)⟩
  rw [show (ByteArray.mk p.toArray).data.toList = p from rfl, hJ]

set_option maxHeartbeats 8000000 in
set_option maxRecDepth 100000 in
theorem back (t : ByteArray) (w : World) {aU : Addr} (he : EU w aU) (hm : UriB.Mx w) (ht : t.size ≤ 1048576) :
    Calls Tryd.prog 11 #[.string t] w fun e w' => e = .returned (.bool true) ∧ Below w.heap.size w w' := by
  go_enter Tryd.func11, Tryd.ntmps11
  go_wp2_with fail
  refine (UriG.alive _ he hm).mono ?_
  rintro e w1 ⟨rfl, hb1⟩
  have he1 := he.below hb1
  have hm1 := hm.below hb1
  cases hp : Up.parse t.data.toList with
  | none =>
    go_wp2_with fail
    refine (UriG.parseN t _ he1 hm1 (by omega) hp).mono ?_
    rintro e w2 ⟨rfl, hb2⟩
    have hB := hb1.trans (hb2.mono hb1.size)
    clear hb1 hb2 he1 hm1 hp
    go_wp2_with fail
    go_ret
    exact ⟨rfl, hB.alloc hB.size _⟩
  | some u =>
    have hrd := parse_read hp
    go_wp2_with fail
    refine (UriG.parseS t _ he1 hm1 (by omega) hp).mono ?_
    rintro e w2 ⟨⟨a2, c2, rfl, hc2, hp2⟩, hb2⟩
    have hB2 := hb1.trans (hb2.mono hb1.size)
    have he2 := he1.below hb2
    have hm2 := hm1.below hb2
    clear hb1 hb2 he1 hm1 hp he hm
    by_cases hbig : 1000 < u.query.length
    · go_wp2_with fail
      go_ret
      exact ⟨rfl, hB2.alloc hB2.size _⟩
    · have hbn : Below w2.heap.size w2 (w2.alloc (Obj.cells #[Value.string ⟨u.path.toArray⟩, .slice a2 u.query.length c2] 25)) := (Below.refl _ _).alloc (Nat.le_refl _) _
      have hU : UriK.Ub w2.heap.size (w2.alloc (Obj.cells #[Value.string ⟨u.path.toArray⟩, .slice a2 u.query.length c2] 25)) (.string ⟨u.path.toArray⟩) (.slice a2 u.query.length c2) := heap_alloc_new _ _
      have hjl := jn_len u.path u.query
      have hql := qt_len u.query
      have hsz := hrd.sizes
      rw [Com.toList_length] at hsz
      have hJs0 : (jn u.path u.query).length ≤ 16777216 := by omega
      have hmem : ∀ q ∈ u.query, q.1.length ≤ 16777216 ∧ q.2.length ≤ 16777216 := fun q hq => by
        have := sz_mem hq
        exact ⟨by omega, by omega⟩
      have hmem2 : ∀ q ∈ srt u.query, q.1.length ≤ 16777216 ∧ q.2.length ≤ 16777216 := fun q hq => hmem q (srt_mem hq)
      have hql2 := qt_len (srt u.query)
      rw [sz_srt, srt_length] at hql2
      have hpj := parse_jn u.path u.query hrd.path hrd.head hrd.query
      have HPJ := Lib.hid hpj
      have HJS := Lib.hid (jn_srt u.path u.query)
      have hsl := srt_length u.query
      have n2 : (srt u.query).length ≤ 4294967296 := by omega
      have n3 : (srt u.query).length ≤ 16777216 := by omega
      have n4 : u.query.length ≤ 16777216 := by omega
      have n5 : (qt (srt u.query)).length ≤ 140737488355328 := by omega
      clear hsl
      have hpl : u.path.length ≤ 16777216 := by omega
      go_wp2_with fail
      refine (UriQ.join ⟨u.path.toArray⟩ c2 _ hc2.2 (UriL.Pairs.below hp2 hbn) (by omega) (by rw [Com.size_mk]; omega) hmem (by omega)).mono ?_
      rintro e w3 ⟨rfl, hb3⟩
      rw [show (ByteArray.mk u.path.toArray).data.toList = u.path from rfl]
      have hB3 := (hB2.alloc hB2.size _).trans (hb3.mono (by have := hB2.size; rw [World.size_alloc]; omega))
      have hU3 := hU.below hb3
      have hp3 := UriL.Pairs.below (UriL.Pairs.below hp2 hbn) hb3
      have he3 := (he2.below hbn).below hb3
      have hm3 := (hm2.below hbn).below hb3
      have hwz : w2.heap.size + 1 ≤ w3.heap.size := by have := hb3.size; rw [World.size_alloc] at this; exact this
      clear hb3 hU hp2 hbn hB2 he2 hm2 hpj hrd hsz
      generalize hJ : jn u.path u.query = J at *
      go_wp2_with fail
      refine (UriG.parseS ⟨J.toArray⟩ _ he3 hm3 (by rw [Com.size_mk]; omega) HPJ.out).mono ?_
      rintro e w4 ⟨⟨a4, c4, rfl, hc4, hp4⟩, hb4⟩
      have hB4 := hB3.trans (hb4.mono hB3.size)
      have hU4 := hU3.below hb4
      have hp4' := UriL.Pairs.below hp3 hb4
      have hwz4 : w2.heap.size + 1 ≤ w4.heap.size := Nat.le_trans hwz hb4.size
      clear hb4 hp3 hU3 hB3 he3 hm3 hJ
      simp only at hc4 hp4
      have hbn : Below w4.heap.size w4 (w4.alloc (Obj.cells #[Value.string ⟨u.path.toArray⟩, .slice a4 (srt u.query).length c4] 25)) := (Below.refl _ _).alloc (Nat.le_refl _) _
      have hV5 : UriK.Ub w4.heap.size (w4.alloc (Obj.cells #[Value.string ⟨u.path.toArray⟩, .slice a4 (srt u.query).length c4] 25)) (.string ⟨u.path.toArray⟩) (.slice a4 (srt u.query).length c4) := heap_alloc_new _ _
      obtain ⟨x0, x1, _, _⟩ := (hU4.below hbn).cells
      obtain ⟨y0, y1, _, _⟩ := hV5.cells
      have hB5 := hB4.alloc hB4.size (Obj.cells #[Value.string ⟨u.path.toArray⟩, .slice a4 (srt u.query).length c4] 25)
      have hpA := UriL.Pairs.below hp4 hbn
      have hpB := UriL.Pairs.below hp4' hbn
      go_wp2_with fail
      generalize hW0 : w4.alloc (Obj.cells #[Value.string ⟨u.path.toArray⟩, .slice a4 (srt u.query).length c4] 25) = W0 at *
      have HT : Below W0.heap.size W0 W0 := Below.refl _ _
      have hfa := hc4.2
      clear hW0 hbn hV5 hU4 hp4 hp4' hB4 hJs0
      go_region_held3 (fun w' => w'.cell? ⟨w2.heap.size, 0, none⟩ = some (.string ⟨u.path.toArray⟩) ∧ w'.cell? ⟨w2.heap.size, 1, none⟩ = some (.slice a2 u.query.length c2) ∧ w'.cell? ⟨w4.heap.size, 0, none⟩ = some (.string ⟨u.path.toArray⟩) ∧ w'.cell? ⟨w4.heap.size, 1, none⟩ = some (.slice a4 (srt u.query).length c4))
        (first | go_keep)
        (first
          | (go_at_call 48; refine (sortedK W0 w2.heap.size w4.heap.size (.string ⟨u.path.toArray⟩) (.slice a2 u.query.length c2) (.string ⟨u.path.toArray⟩) (.slice a4 (srt u.query).length c4) c2 _ hpB n4 ?_ ?_ ?_ ?_ ?_).mono ?_; (first | assumption | exact HT | exact HT.drew); (simp [*]); (simp [*]); (simp [*]); (simp [*]); rintro e w6 ⟨⟨a6, c6, rfl, P6⟩, k6, t6⟩)
          | (go_at_call 18; refine (sameK W0 w2.heap.size w4.heap.size (.string ⟨u.path.toArray⟩) (.slice a2 u.query.length c2) (.string ⟨u.path.toArray⟩) (.slice a4 (srt u.query).length c4) _ (srt u.query) _ _ _ _ _ n2 hpA ?_ ?_ ?_ ?_ ?_ ?_).mono ?_; (first | exact P6); (first | assumption | exact HT | exact HT.drew); (simp [*]); (simp [*]); (simp [*]); (simp [*]); rintro e w7 ⟨rfl, k7, t7⟩)
          | (go_at_call 47; refine (joinK W0 w2.heap.size w4.heap.size (.string ⟨u.path.toArray⟩) (.slice a2 u.query.length c2) (.string ⟨u.path.toArray⟩) (.slice a4 (srt u.query).length c4) u.path J c4 _ HJS.out hfa hpA n3 hpl hmem2 n5 ?_ ?_ ?_ ?_ ?_).mono ?_; (first | assumption | exact HT | exact HT.drew); (simp [*]); (simp [*]); (simp [*]); (simp [*]); rintro e w8 ⟨rfl, k8, t8⟩))
      go_wp2
      go_ret
      exact ⟨rfl, hB5.trans (t8.mono hB5.size)⟩
end Go.Proofs.YtmimkgfkicgfiaaDoor.UriV
