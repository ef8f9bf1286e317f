/-
  The walk of bollardref17's Decode.
-/
import Derived.Test.YtmimkgfkicgfiaaDoorUriE
namespace Go.Proofs.YtmimkgfkicgfiaaDoor.UriF
open Go.RowKit Go.Proofs.YtmimkgfkicgfiaaDoor

theorem get1 (a b : UInt8) (t : List UInt8) : ∀ h, (ByteArray.mk (a :: b :: t).toArray)[1]'h = b := fun _ => rfl
theorem get2 (a b c : UInt8) (t : List UInt8) : ∀ h, (ByteArray.mk (a :: b :: c :: t).toArray)[2]'h = c := fun _ => rfl
theorem drop3 (a b c : UInt8) (t : List UInt8) {n : Nat} (hn : n = t.length + 3) : (ByteArray.mk (a :: b :: c :: t).toArray).extract 3 n = ⟨t.toArray⟩ := by
  subst hn
  simp [ByteArray.extract, ByteArray.copySlice]

set_option maxHeartbeats 8000000 in
set_option maxRecDepth 100000 in
theorem decode (s : ByteArray) (w : World) (hs : s.size ≤ 70368744177664) :
    Calls Tryd.prog 20 #[.string s] w fun e w' => e = .returned (UriA.ans (Up.dec s.data.toList)) ∧ Below w.heap.size w w' := by
  obtain ⟨i0, hi, hz0, hz1, hz2⟩ := info_parts UriA.infoByte
  go_enter Tryd.func20, Tryd.ntmps20
  go_wp2_with fail
  go_loopg [0, 4] s.size (fun g sv v wr => ∃ (r out : List UInt8), r.length = g ∧ sv = .string ⟨r.toArray⟩ ∧ wr.ownsRow w.heap.size 5 1 v out.length (Lib.byteCells out) ∧ Below w.heap.size w wr ∧ UriA.Sofar s.data.toList out r ∧ out.length + r.length ≤ s.size)
  case atStart => exact ⟨s.data.toList, [], rfl, by rw [Com.mk_data], ⟨rfl, .inr ⟨w.heap.size, 0, _, rfl, Nat.le_refl _, heap_alloc_new _ _, Nat.le_refl _, by unfold maxLen; omega, rfl, rfl⟩⟩, (Below.refl _ w).alloc (Nat.le_refl _) _, UriA.Sofar.start _, by rw [Com.toList_length]; simp⟩
  case round =>
    obtain ⟨r, out, hrg, rfl, hown, hb, hso, hol⟩ := hrel
    have HG := Lib.hid hrg; clear hrg
    have HO := Lib.hid hso; clear hso
    cases r with
    | nil =>
      obtain ⟨A, c, rfl, hbs⟩ := UriA.bs_own hown
      have kc := UriA.to_string hbs
      have HE := Lib.hid HO.out.done
      go_wp2_with fail
      go_ret2
      exact ⟨by rw [HE.out]; rfl, hb⟩
    | cons c t =>
      have hl1 : t.length + 1 ≤ 70368744177664 := by simp at hol; omega
      have m0 := Com.mk_get0 c t
      have hc8 : c.toNat < 256 := UInt8.toNat_lt c
      have hcm : (c.toNat : Int) % 256 = (c.toNat : Int) := by omega
      have hcw : wrap64 (c.toNat : Int) = (c.toNat : Int) := IntWalk.wrap64_in _ ⟨by omega, by omega⟩
      have hsz : (ByteArray.mk (c :: t).toArray).size = t.length + 1 := by rw [Com.size_mk]; rfl
      by_cases hp : c = 37
      · have t1 : ((c.toNat : Int) == 37) = true := by rw [hp]; rfl
        have HP := Lib.hid hp; clear hp
        by_cases hsh : t.length < 2
        · go_wp2_with fail
          go_ret2
          have hn : Up.dec s.data.toList = none := HO.out.stop (by simp) (by rw [HP.out]; exact UriA.step_short hsh)
          exact ⟨by rw [hn]; rfl, hb⟩
        · obtain ⟨a, b, u, rfl⟩ : ∃ a b u, t = a :: b :: u := by
            match t, hsh with
            | a :: b :: u, _ => exact ⟨a, b, u, rfl⟩
            | [_], h => simp at h
            | [], h => simp at h
          have m1 := get1 c a (b :: u)
          have m2 := get2 c a b u
          cases hx : Up.hexv a with
          | none =>
            have hdx : UriA.dg a = -1 := UriA.dg_none hx
            have HX := Lib.hid hx; clear hx
            go_wp2_with (go_at_call 66; refine (UriE.value a _).mono ?_; rintro e w' ⟨rfl, rfl⟩)
            go_ret2
            have hn : Up.dec s.data.toList = none := HO.out.stop (by simp) (by rw [HP.out]; exact UriA.step_bad (.inl HX.out))
            exact ⟨by rw [hn]; rfl, hb⟩
          | some x =>
            have hx16 := Up.hexv_lt hx
            have hdx : UriA.dg a = (x : Int) := UriA.dg_some hx
            have HX := Lib.hid hx; clear hx
            cases hy : Up.hexv b with
            | none =>
              have hdy : UriA.dg b = -1 := UriA.dg_none hy
              have HY := Lib.hid hy; clear hy
              go_wp2_with (go_at_call 66; refine (UriE.value _ _).mono ?_; rintro e w' ⟨rfl, rfl⟩)
              go_ret2
              have hn : Up.dec s.data.toList = none := HO.out.stop (by simp) (by rw [HP.out]; exact UriA.step_bad (.inr HY.out))
              exact ⟨by rw [hn]; rfl, hb⟩
            | some y =>
              have hy16 := Up.hexv_lt hy
              have hdy : UriA.dg b = (y : Int) := UriA.dg_some hy
              have HY := Lib.hid hy; clear hy
              obtain ⟨z, hz⟩ : ∃ z, z = 16 * x + y := ⟨_, rfl⟩
              have hsum : 16 * (x : Int) + (y : Int) = (z : Int) := by omega
              have hz8 : z < 256 := by omega
              have hzm : (z : Int) % 256 = (z : Int) := by omega
              have HZ := Lib.hid hz; clear hz
              have HS := Lib.hid (show Up.step (c :: a :: b :: u) = if 32 ≤ z ∧ z ≤ 126 then some (UInt8.ofNat z, u) else none by
                rw [HP.out, UriA.step_pct HX.out HY.out, HZ.out])
              by_cases h1 : z < 32
              · go_wp2_with (go_at_call 66; refine (UriE.value _ _).mono ?_; rintro e w' ⟨rfl, rfl⟩)
                go_quiet ((go_at_call 66; exact Calls.quiet_of_same ((UriE.value _ _).mono fun _ _ ⟨h1, h2⟩ => ⟨h1, h2.symm⟩)))
                go_wp2_with fail
                go_ret2
                have hn : Up.dec s.data.toList = none := HO.out.stop (by simp) (by rw [HS.out, if_neg (by omega)])
                exact ⟨by rw [hn]; rfl, UriA.below_drewN hb _⟩
              · by_cases h2 : 126 < z
                · go_wp2_with (go_at_call 66; refine (UriE.value _ _).mono ?_; rintro e w' ⟨rfl, rfl⟩)
                  go_quiet ((go_at_call 66; exact Calls.quiet_of_same ((UriE.value _ _).mono fun _ _ ⟨h1, h2⟩ => ⟨h1, h2.symm⟩)))
                  go_wp2_with fail
                  go_ret2
                  have hn : Up.dec s.data.toList = none := HO.out.stop (by simp) (by rw [HS.out, if_neg (by omega)])
                  exact ⟨by rw [hn]; rfl, UriA.below_drewN hb _⟩
                · go_wp2_with (go_at_call 66; refine (UriE.value _ _).mono ?_; rintro e w' ⟨rfl, rfl⟩)
                  go_quiet ((go_at_call 66; exact Calls.quiet_of_same ((UriE.value _ _).mono fun _ _ ⟨h1, h2⟩ => ⟨h1, h2.symm⟩)))
                  have hown2 : (wr.drewN nq).ownsRow w.heap.size 5 1 u4 out.length (Lib.byteCells out) := hown
                  have hb2 : Below w.heap.size w (wr.drewN nq) := UriA.below_drewN hb _
                  generalize wr.drewN nq = w2 at hown2 hb2 ⊢
                  clear hown hb
                  have hdr := drop3 c a b u (n := u.length + 1 + 1 + 1) rfl
                  go_wp2_with (at_builtin; refine wpList_append_own _ rfl _ _ 61 rfl w.heap.size 5 i0 (.int .u8 0) 1 1 Tryd.underlying61 hi hz0 hz1 hz2 rfl (by decide) _ _ _ rfl (hown2.alloc _) ⟨w2.heap.size, 0, none⟩ 1 1 [.int .u8 (z : Int)] rfl rfl (Com.cells_new _ _ _) (by simp [Value.oneCell']) (by unfold maxLen; simp at hol; omega) (by simp at hol; omega) (by have := hb2.size; simp; omega) ?_; intro v' w1 hown' hgrow _)
                  have hown1 : w1.ownsRow w.heap.size 5 1 v' (out ++ [UInt8.ofNat z]).length (Lib.byteCells (out ++ [UInt8.ofNat z])) := by
                    have e : ((UInt8.ofNat z).toNat : Int) = (z : Int) := by simp; omega
                    rw [Lib.byteCells, List.map_append, List.map_cons, List.map_nil, e, List.length_append]
                    exact hown'
                  have hb1 : Below w.heap.size w w1 := (hb2.alloc hb2.size _).grown hgrow (by have := hb2.size; simp; omega) (fun j hj => (hown2.lt j hj).1)
                  have HO1 := Lib.hid hown1; clear hown1 hown'
                  go_roundg u.length
                  case measure => have := HG.out; simp at this; omega
                  case rel => exact ⟨u, out ++ [UInt8.ofNat z], rfl, rfl, HO1.out, hb1, HO.out.next (by rw [HS.out, if_pos ⟨by omega, by omega⟩]), by simp at hol ⊢; omega⟩
      · have t1 := Com.u8_ne hp (n := 37) rfl
        by_cases h1 : c.toNat < 32
        · go_wp2_with fail
          go_ret2
          have hn : Up.dec s.data.toList = none := HO.out.stop (by simp) (UriA.step_out hp (by omega))
          exact ⟨by rw [hn]; rfl, hb⟩
        · by_cases h2 : 126 < c.toNat
          · go_wp2_with fail
            go_ret2
            have hn : Up.dec s.data.toList = none := HO.out.stop (by simp) (UriA.step_out hp (by omega))
            exact ⟨by rw [hn]; rfl, hb⟩
          · have hdr := Com.mk_drop1 c t (n := t.length + 1) rfl
            go_wp2_with (at_builtin; refine wpList_append_own _ rfl _ _ 61 rfl w.heap.size 5 i0 (.int .u8 0) 1 1 Tryd.underlying61 hi hz0 hz1 hz2 rfl (by decide) _ _ _ rfl (hown.alloc _) ⟨wr.heap.size, 0, none⟩ 1 1 [.int .u8 (c.toNat : Int)] rfl rfl (Com.cells_new _ _ _) (by simp [Value.oneCell']) (by unfold maxLen; simp at hol; omega) (by simp at hol; omega) (by have := hb.size; simp; omega) ?_; intro v' w1 hown' hgrow _)
            have hown1 : w1.ownsRow w.heap.size 5 1 v' (out ++ [c]).length (Lib.byteCells (out ++ [c])) := by simpa [Lib.byteCells] using hown'
            have hb1 : Below w.heap.size w w1 := (hb.alloc hb.size _).grown hgrow (by have := hb.size; simp; omega) (fun j hj => (hown.lt j hj).1)
            have HO1 := Lib.hid hown1; clear hown1 hown'
            go_roundg t.length
            case measure => have := HG.out; simp at this; omega
            case rel => exact ⟨t, out ++ [c], rfl, rfl, HO1.out, hb1, HO.out.next (UriA.step_in hp (by omega) (by omega)), by simp at hol ⊢; omega⟩
theorem decodeS {s : ByteArray} {o : List UInt8} (h : Up.dec s.data.toList = some o) (w : World) (hs : s.size ≤ 70368744177664) :
    Calls Tryd.prog 20 #[.string s] w fun e w' => e = .returned (.tuple #[.string ⟨o.toArray⟩, .bool true]) ∧ Below w.heap.size w w' :=
  (decode s w hs).mono fun _ _ ⟨h1, h2⟩ => ⟨by rw [h1, h]; rfl, h2⟩
theorem decodeN {s : ByteArray} (h : Up.dec s.data.toList = none) (w : World) (hs : s.size ≤ 70368744177664) :
    Calls Tryd.prog 20 #[.string s] w fun e w' => e = .returned (.tuple #[.string ⟨#[]⟩, .bool false]) ∧ Below w.heap.size w w' :=
  (decode s w hs).mono fun _ _ ⟨h1, h2⟩ => ⟨by rw [h1, h]; rfl, h2⟩
end Go.Proofs.YtmimkgfkicgfiaaDoor.UriF
