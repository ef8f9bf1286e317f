/-
  The walk of bollardlaw17.UriTexts.
-/
import Derived.Test.YtmimkgfkicgfiaaDoorUriQ
import Derived.Test.YtmimkgfkicgfiaaDoorUriM
namespace Go.Proofs.YtmimkgfkicgfiaaDoor.UriW
open Go.RowKit Go.Proofs.YtmimkgfkicgfiaaDoor Go.Proofs.YtmimkgfkicgfiaaDoor.UriC Go.Proofs.YtmimkgfkicgfiaaDoor.UriN Go.Proofs.YtmimkgfkicgfiaaDoor.UriO Go.Proofs.YtmimkgfkicgfiaaDoor.UriR Go.Proofs.YtmimkgfkicgfiaaDoor.UriQ

theorem vis_snoc {s : ByteArray} {k : Nat} (hk : k < s.size) (h : Vis (s.data.toList.take k)) (h1 : ¬ s[k].toNat < 32) (h2 : ¬ 126 < s[k].toNat) : Vis (s.data.toList.take (k + 1)) := by
  rw [Com.take_succ s k hk]
  intro c hc
  rcases List.mem_append.1 hc with hc | hc
  · exact h c hc
  · rw [List.mem_singleton] at hc
    subst hc
    rw [UInt8.le_iff_toNat_le, UInt8.le_iff_toNat_le]
    exact ⟨by simpa using (Nat.not_lt.1 h1), by simpa using (Nat.not_lt.1 h2)⟩

set_option maxHeartbeats 8000000 in
set_option maxRecDepth 100000 in
theorem texts (p n v : ByteArray) (w : World) {aU : Addr} (he : EU w aU) (hm : UriB.Mx w) (hs : p.size + n.size + v.size ≤ 1048576) :
    Calls Tryd.prog 13 #[.string p, .string n, .string v] w fun e w' => e = .returned (.bool true) ∧ Below w.heap.size w w' := by
  go_enter Tryd.func13, Tryd.ntmps13
  go_wp2_with fail
  refine (UriG.alive _ he hm).mono ?_
  rintro e w1 ⟨rfl, hb1⟩
  have he1 := he.below hb1
  have hm1 := hm.below hb1
  obtain ⟨W, hW⟩ : ∃ W, W = w1.alloc (.cells #[.string p, .string n, .string v] 9) := ⟨_, rfl⟩
  have g0 : W.heap[w1.heap.size]? = some (.cells #[.string p, .string n, .string v] 9 (0, 0)) := by rw [hW]; exact heap_alloc_new _ _
  have hbW : Below w.heap.size w W := by rw [hW]; exact hb1.alloc hb1.size _
  have heW : EU W aU := by rw [hW]; exact he1.below ((Below.refl _ _).alloc (Nat.le_refl _) _)
  have hmW : UriB.Mx W := by rw [hW]; exact hm1.below ((Below.refl _ _).alloc (Nat.le_refl _) _)
  have HE := Lib.hid heW; have HM := Lib.hid hmW; have HB := Lib.hid hbW
  have key : ∀ k : Nat, k < 3 → ∃ s, [p, n, v][k]? = some s ∧ W.cell? ⟨w1.heap.size, k, none⟩ = some (.string s) := by
    intro k hk
    match k, hk with
    | 0, _ => exact ⟨p, rfl, by rw [Lib.cell_of_heap g0]; rfl⟩
    | 1, _ => exact ⟨n, rfl, by rw [Lib.cell_of_heap g0]; rfl⟩
    | 2, _ => exact ⟨v, rfl, by rw [Lib.cell_of_heap g0]; rfl⟩
  have KEY := Lib.hid key
  clear key g0 hbW heW hmW he1 hm1 hb1 he hm
  go_wp2_with fail
  rw [← hW]
  clear hW
  go_loopg [8, 9, 23] 3 (fun g v8 v9 v23 wr => ∃ k : Nat, k + g = 3 ∧ v23 = .int .i64 k ∧ wr = W ∧ Hid (∀ j s, j < k → [p, n, v][j]? = some s → Vis s.data.toList))
  case atStart => exact ⟨0, by simp, rfl, rfl, fun j s hj => absurd hj (by omega)⟩
  case round =>
    obtain ⟨k, hkg, rfl, rfl, HV⟩ := hrel
    by_cases hlt : k < 3
    · obtain ⟨s, hsk, c0⟩ := KEY.out k hlt
      have hsl : s.size ≤ 1048576 := by
        match k, hlt, hsk with
        | 0, _, h => cases h; omega
        | 1, _, h => cases h; omega
        | 2, _, h => cases h; omega
      have HSK := Lib.hid hsk; clear hsk
      go_wp2_with fail
      go_loop [9] (fun i => ∃ m : Nat, m ≤ s.size ∧ i = .int .i64 m ∧ Hid (Vis (s.data.toList.take m))) (fun i => s.size - (intOf i).toNat)
      case atStart => exact ⟨0, Nat.zero_le _, rfl, by unfold Hid; simp [Vis]⟩
      case round =>
        obtain ⟨m, hml, rfl, HS⟩ := hrel
        by_cases hmt : m < s.size
        · by_cases h1 : s[m].toNat < 32
          · go_wp2_with fail
            go_ret
            exact ⟨rfl, HB.out⟩
          · by_cases h2 : 126 < s[m].toNat
            · go_wp2_with fail
              go_ret
              exact ⟨rfl, HB.out⟩
            · have HS' := Lib.hid (vis_snoc hmt HS.out h1 h2)
              go_wp2_with fail
              go_round
              case rel => exact ⟨m + 1, by omega, by go_num, HS'⟩
              case measure => simp [intOf]; omega
        · have HSA := Lib.hid (show Vis s.data.toList by
            have := HS.out
            rwa [Com.take_all s m (by omega)] at this)
          go_wp2_with fail
          go_roundg (3 - (k + 1))
          case measure => omega
          case rel =>
            refine ⟨k + 1, by omega, by go_num, rfl, fun j t hj ht => ?_⟩
            by_cases e : j < k
            · exact HV.out j t e ht
            · obtain rfl : j = k := by omega
              have := HSK.out
              rw [ht] at this
              cases this
              exact HSA.out
    · have hp : Vis p.data.toList := HV.out 0 p (by omega) rfl
      have hn : Vis n.data.toList := HV.out 1 n (by omega) rfl
      have hv : Vis v.data.toList := HV.out 2 v (by omega) rfl
      have hcat : (⟨#[47]⟩ : ByteArray) ++ p = ⟨(47 :: p.data.toList).toArray⟩ := by
        have := Com.mk_append [47] p.data.toList
        rw [Com.mk_data] at this
        exact this
      have hP : Pairs (wr.alloc (.cells #[.string n, .string v] 93)) (some ⟨wr.heap.size, 0, none⟩) [(n.data.toList, v.data.toList)] := by
        refine .inr ⟨wr.heap.size, 0, rfl, by simp, fun j q hj => ?_⟩
        match j, hj with
        | 0, hj =>
          cases hj
          have h := heap_alloc_new wr (.cells #[.string n, .string v] 93)
          rw [Com.mk_data, Com.mk_data, Lib.cell_of_heap h, Lib.cell_of_heap h]
          exact ⟨rfl, rfl⟩
      have hP2 := UriL.Pairs.below hP ((Below.refl _ _).alloc (Nat.le_refl _) (Obj.cells #[Value.string ⟨(47 :: p.data.toList).toArray⟩, .slice (some ⟨wr.heap.size, 0, none⟩) 1 1] 25))
      have hB2 : Below wr.heap.size wr ((wr.alloc (.cells #[.string n, .string v] 93)).alloc (Obj.cells #[Value.string ⟨(47 :: p.data.toList).toArray⟩, .slice (some ⟨wr.heap.size, 0, none⟩) 1 1] 25)) := ((Below.refl _ _).alloc (Nat.le_refl _) _).alloc (by simp) _
      have hU2 : UriK.Ub (wr.heap.size + 1) ((wr.alloc (.cells #[.string n, .string v] 93)).alloc (Obj.cells #[Value.string ⟨(47 :: p.data.toList).toArray⟩, .slice (some ⟨wr.heap.size, 0, none⟩) 1 1] 25)) (.string ⟨(47 :: p.data.toList).toArray⟩) (.slice (some ⟨wr.heap.size, 0, none⟩) 1 1) := by
        have := heap_alloc_new (wr.alloc (.cells #[.string n, .string v] 93)) (Obj.cells #[Value.string ⟨(47 :: p.data.toList).toArray⟩, .slice (some ⟨wr.heap.size, 0, none⟩) 1 1] 25)
        rwa [World.size_alloc] at this
      have hpl : p.data.toList.length ≤ 1048576 := by rw [Com.toList_length]; omega
      have hnl : n.data.toList.length ≤ 1048576 := by rw [Com.toList_length]; omega
      have hvl : v.data.toList.length ≤ 1048576 := by rw [Com.toList_length]; omega
      have hjl := jn_len (47 :: p.data.toList) [(n.data.toList, v.data.toList)]
      have hql := qt_len [(n.data.toList, v.data.toList)]
      simp only [sz, List.map_cons, List.map_nil, List.sum_cons, List.sum_nil, List.length_cons, List.length_nil] at hjl hql
      have hpj := parse_jn (47 :: p.data.toList) [(n.data.toList, v.data.toList)] (by
        intro c hc
        rcases List.mem_cons.1 hc with rfl | hc
        · decide
        · exact hp c hc) rfl (by intro q hq; rw [List.mem_singleton] at hq; subst hq; exact ⟨hn, hv⟩)
      rw [srt_one] at hpj
      have HPJ := Lib.hid hpj
      have hget : gt [(n.data.toList, v.data.toList)] n.data.toList = some v.data.toList := by simp [gt]
      have HGET := Lib.hid hget
      clear hp hn hv HV hpj hget hP KEY
      go_wp2_with fail
      refine (UriQ.join ⟨(47 :: p.data.toList).toArray⟩ (a := some ⟨wr.heap.size, 0, none⟩) (ps := [(n.data.toList, v.data.toList)]) 1 _ (fun q hq => ⟨_, _, (Option.some.inj hq).symm⟩) hP2 (by simp) (by rw [Com.size_mk]; simp; omega) (by intro q hq; rw [List.mem_singleton] at hq; subst hq; exact ⟨by simp only; omega, by simp only; omega⟩) (by omega)).mono ?_
      rintro e w3 ⟨rfl, hb3⟩
      have hB3 := hB2.trans (hb3.mono hB2.size)
      have hU3 := hU2.below hb3
      have hP3 := UriL.Pairs.below hP2 hb3
      have he3 := (HE.out.below hB2).below hb3
      have hm3 := (HM.out.below hB2).below hb3
      clear hb3 hP2 hU2 hB2
      generalize hJ : jn (47 :: p.data.toList) [(n.data.toList, v.data.toList)] = J at *
      clear hJ
      go_wp2_with fail
      refine (UriG.parseS ⟨J.toArray⟩ _ he3 hm3 (by rw [Com.size_mk]; omega) HPJ.out).mono ?_
      rintro e w4 ⟨⟨a4, c4, rfl, hc4, hp4⟩, hb4⟩
      have hB4 := hB3.trans (hb4.mono hB3.size)
      have hU4 := hU3.below hb4
      have hP4 := UriL.Pairs.below hP3 hb4
      clear hb4 hP3 hU3 hB3 he3 hm3
      have hbn : Below w4.heap.size w4 (w4.alloc (Obj.cells #[Value.string ⟨(47 :: p.data.toList).toArray⟩, .slice a4 1 c4] 25)) := (Below.refl _ _).alloc (Nat.le_refl _) _
      have hV5 : UriK.Ub w4.heap.size (w4.alloc (Obj.cells #[Value.string ⟨(47 :: p.data.toList).toArray⟩, .slice a4 1 c4] 25)) (.string ⟨(47 :: p.data.toList).toArray⟩) (.slice a4 1 c4) := heap_alloc_new _ _
      obtain ⟨x0, x1, _, _⟩ := (hU4.below hbn).cells
      obtain ⟨y0, y1, _, _⟩ := hV5.cells
      have hp5 := UriL.Pairs.below hp4 hbn
      obtain ⟨b4, o4, rfl, hb4l, z0, z1⟩ := cells_at hp5 (k := 0) rfl
      obtain ⟨b0, o0, hb0e, hb0l, u0, u1⟩ := cells_at (UriL.Pairs.below hP4 hbn) (k := 0) rfl
      cases hb0e
      rw [Com.mk_data] at z0 z1 u0 u1
      simp only [Nat.zero_mul, Nat.add_zero, Nat.zero_add] at z0 z1 u0 u1
      have hne := UriL.neqPair n v
      have HB4 := Lib.hid (HB.out.trans (hB4.mono HB.out.size))
      have HP5 := Lib.hid hp5
      clear hp4 hP4 hU4 hV5 hp5 hB4 hbn
      go_wp2_with fail
      go_quiet (fail)
      go_wp2_with fail
      refine (UriQ.get (.string ⟨(47 :: p.data.toList).toArray⟩) (a := some ⟨b4, o4, none⟩) (ps := [(n.data.toList, v.data.toList)]) n.data.toList c4 _ ?_ (by simp)).mono ?_
      · exact HP5.out
      rintro e w6 ⟨rfl, hb6⟩
      rw [HGET.out]
      have hB6 : Below w.heap.size w w6 := (UriA.below_drewN (HB4.out.alloc HB4.out.size _) _).trans (hb6.mono (by have := HB4.out.size; show _ ≤ (World.alloc w4 _).heap.size; rw [World.size_alloc]; omega))
      simp only [Option.getD_some, Option.isSome_some, Com.mk_data]
      have HB6 := Lib.hid hB6
      clear hB6 hb6 x0 x1 y0 y1 z0 z1 u0 u1 hne
      go_wp2_with fail
      go_ret
      exact ⟨by simp, HB6.out⟩
end Go.Proofs.YtmimkgfkicgfiaaDoor.UriW
