/-
  The law UriParses.
-/
import Derived.Test.YtmimkgfkicgfiaaDoorUriL
import Derived.Test.YtmimkgfkicgfiaaDoorUriG
import Derived.LaidEql
namespace Go.Proofs.YtmimkgfkicgfiaaDoor.UriM
open Go.RowKit Go.Proofs.YtmimkgfkicgfiaaDoor Go.Proofs.YtmimkgfkicgfiaaDoor.UriC

theorem infoErr : (Tryd.prog.info? 233).map (·.comparable) = some true := by kernel_rfl
theorem infoErr2 : (Tryd.prog.info? 235).map (fun _ => ()) = some () := by kernel_rfl
theorem eqErr (a : Addr) (w : World) : (binOp .eql 27 (.iface 233 (.pointer (some a))) (.iface 233 (.pointer (some a)))).run Tryd.prog w = .ok (.bool true) w := by
  have h1 := infoErr
  have h2 := infoErr2
  cases e1 : Tryd.prog.info? 233 with
  | none => rw [e1] at h1; cases h1
  | some i =>
    cases e2 : Tryd.prog.info? 235 with
    | none => rw [e2] at h2; cases h2
    | some j =>
      rw [e1] at h1
      exact run_eql_iface_ptr_same w a Tryd.underlying27 Tryd.underlying233 e1 (by simpa using h1) e2

theorem parse_query_len {t : List UInt8} {u : Up.Uri} (h : Up.parse t = some u) : u.query.length ≤ t.length + 1 := by
  simp only [Up.parse] at h
  cases hd : Up.dec (Up.cutAt 63 t).1 with
  | none => rw [hd] at h; cases h
  | some p =>
    rw [hd] at h
    by_cases hh : t.head? = some 47
    · simp only [if_pos hh] at h
      cases hq : Up.pairs (Up.splits 38 (Up.cutAt 63 t).2) with
      | none => rw [hq] at h; cases h
      | some ps =>
        rw [hq] at h
        cases h
        have h1 := Up.pairs_length hq
        have h2 := Up.splits_length 38 (Up.cutAt 63 t).2
        have h3 := Up.cutAt_len 63 t
        simp only; omega
    · simp only [if_neg hh] at h; cases h

set_option maxHeartbeats 4000000 in
set_option maxRecDepth 100000 in
theorem parses (t : ByteArray) (w : World) {aU : Addr} (he : EU w aU) (hm : UriB.Mx w) (ht : t.size ≤ 16777216) :
    Calls Tryd.prog 3 #[.string t] w fun e w' => e = .returned (.bool true) ∧ Below w.heap.size w w' := by
  go_enter Tryd.func3, Tryd.ntmps3
  go_wp2_with fail
  refine (UriG.alive _ he hm).mono ?_
  rintro e w1 ⟨rfl, hb1⟩
  have he1 := he.below hb1
  have hm1 := hm.below hb1
  cases hp : Up.parse t.data.toList with
  | none =>
    go_wp2_with fail
    refine (UriG.parseN t _ he1 hm1 ht hp).mono ?_
    rintro e w2 ⟨rfl, hb2⟩
    have he2 := he1.below hb2
    have hbe : Below w.heap.size w w2 := hb1.trans (hb2.mono hb1.size)
    clear he1 hm1 hb1 hb2
    go_wp2_with fail
    refine (UriK.parse t _ ht).mono ?_
    rw [hp]
    rintro e w3 ⟨rfl, hb3⟩
    clear hp
    have hu : UriK.Ub w2.heap.size w3 (.string ⟨#[]⟩) (.slice none 0 0) := UriK.Ub.below (w := w2.alloc _) (heap_alloc_new w2 _) hb3
    obtain ⟨x0, x1, _, _⟩ := (hu.below ((Below.refl _ w3).alloc (Nat.le_refl _) (Obj.cells #[Value.string ⟨#[]⟩, Value.slice none 0 0] 25))).cells
    have hb3' : Below w.heap.size w w3 := (hbe.alloc hbe.size _).trans (hb3.mono (by have := hbe.size; simp; omega))
    have he3 : EU w3 aU := (he2.below ((Below.refl _ w2).alloc (Nat.le_refl _) _)).below hb3
    have HE := Lib.hid he3
    have HB := Lib.hid hb3'
    clear hu hb3 hb3' he3 hbe he2
    go_wp2_with fail
    refine (UriL.same ⟨#[]⟩ [] none none 0 0 _ (by simp) (.inl rfl) (.inl rfl)).mono ?_
    rintro e w4 ⟨rfl, hb4⟩
    have he4 : EU w4 aU := (HE.out.below ((Below.refl _ w3).alloc (Nat.le_refl _) _)).below hb4
    unfold EU at he4
    have hee := eqErr aU w4
    have hb4' : Below w.heap.size w w4 := (HB.out.alloc HB.out.size _).trans (hb4.mono (by have := HB.out.size; simp; omega))
    have HB4 := Lib.hid hb4'
    clear hb4 hb4'
    go_wp2_with fail
    go_ret
    exact ⟨rfl, HB4.out⟩
  | some u =>
    go_wp2_with fail
    refine (UriG.parseS t _ he1 hm1 ht hp).mono ?_
    rintro e w2 ⟨⟨a1, c1, rfl, hc1, hp1⟩, hb2⟩
    have hbe : Below w.heap.size w w2 := hb1.trans (hb2.mono hb1.size)
    have hql : u.query.length ≤ 4294967296 := by
      have := parse_query_len hp
      rw [Com.toList_length] at this
      omega
    clear he1 hm1 hb1 hb2
    go_wp2_with fail
    refine (UriK.parse t _ ht).mono ?_
    rw [hp]
    rintro e w3 ⟨⟨a2, c2, rfl, hc2, hp2⟩, hb3⟩
    have hp1' := UriL.Pairs.below (UriL.Pairs.below hp1 ((Below.refl _ w2).alloc (Nat.le_refl _) _)) hb3
    have hu : UriK.Ub w2.heap.size w3 (.string ⟨u.path.toArray⟩) (.slice a1 u.query.length c1) := UriK.Ub.below (w := w2.alloc _) (heap_alloc_new w2 _) hb3
    obtain ⟨x0, x1, _, _⟩ := (hu.below ((Below.refl _ w3).alloc (Nat.le_refl _) (Obj.cells #[Value.string ⟨u.path.toArray⟩, Value.slice a2 u.query.length c2] 25))).cells
    have hb3' : Below w.heap.size w w3 := (hbe.alloc hbe.size _).trans (hb3.mono (by have := hbe.size; simp; omega))
    have HB := Lib.hid hb3'
    have HP1 := Lib.hid (UriL.Pairs.below hp1' ((Below.refl _ w3).alloc (Nat.le_refl _) (Obj.cells #[Value.string ⟨u.path.toArray⟩, Value.slice a2 u.query.length c2] 25)))
    have HP2 := Lib.hid (UriL.Pairs.below hp2 ((Below.refl _ w3).alloc (Nat.le_refl _) (Obj.cells #[Value.string ⟨u.path.toArray⟩, Value.slice a2 u.query.length c2] 25)))
    clear hu hb3 hb3' hbe hp1 hp2 hp1' hp
    go_wp2_with fail
    refine (UriL.same ⟨u.path.toArray⟩ u.query a1 a2 c1 c2 _ hql HP1.out HP2.out).mono ?_
    rintro e w4 ⟨rfl, hb4⟩
    have hb4' : Below w.heap.size w w4 := (HB.out.alloc HB.out.size _).trans (hb4.mono (by have := HB.out.size; simp; omega))
    have HB4 := Lib.hid hb4'
    clear hb4 hb4'
    go_wp2_with fail
    go_ret
    exact ⟨rfl, HB4.out⟩
end Go.Proofs.YtmimkgfkicgfiaaDoor.UriM
