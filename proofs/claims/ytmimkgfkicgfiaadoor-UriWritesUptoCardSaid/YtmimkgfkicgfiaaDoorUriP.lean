/-
  The walk of bollard/uri's Canonical and Join.
-/
import Derived.Test.YtmimkgfkicgfiaaDoorUriR
import Derived.Test.YtmimkgfkicgfiaaDoorUriD
import Derived.Test.YtmimkgfkicgfiaaDoorUriK
import Derived.Deep.RegionHeld3
import Derived.Deep.AppendLies
namespace Go.Proofs.YtmimkgfkicgfiaaDoor.UriP
open Go.RowKit Go.Proofs.YtmimkgfkicgfiaaDoor Go.Proofs.YtmimkgfkicgfiaaDoor.UriC Go.Proofs.YtmimkgfkicgfiaaDoor.UriN Go.Proofs.YtmimkgfkicgfiaaDoor.UriO Go.Proofs.YtmimkgfkicgfiaaDoor.UriR

theorem infoString : (Tryd.prog.info? 9).map (fun i => (i.zero, i.size, i.bytes)) = some (some (.string ⟨#[]⟩), 1, 16) := by kernel_rfl
theorem info_parts {o : Option TypeInfo} {z : Value} {s b : Nat} (h : o.map (fun i => (i.zero, i.size, i.bytes)) = some (some z, s, b)) : ∃ i0, o = some i0 ∧ i0.zero = some z ∧ i0.size = s ∧ i0.bytes = b := by
  cases o with
  | none => cases h
  | some i => simp at h; exact ⟨i, rfl, h.1, h.2.1, h.2.2⟩
theorem encodeK (l : List UInt8) (slash : Bool) (w0 : World) (g : Nat) (v0 v1 : Value) (w : World) (hs : l.length ≤ 16777216) (ht : Below w0.heap.size w0 w) (h0 : w.cell? ⟨g, 0, none⟩ = some v0) (h1 : w.cell? ⟨g, 1, none⟩ = some v1) :
    Calls Tryd.prog 19 #[.string ⟨l.toArray⟩, .bool slash] w fun e w' => e = .returned (.string ⟨(UriD.enc slash l).toArray⟩) ∧ (w'.cell? ⟨g, 0, none⟩ = some v0 ∧ w'.cell? ⟨g, 1, none⟩ = some v1) ∧ Below w0.heap.size w0 w' :=
  (UriD.encode ⟨l.toArray⟩ slash w (by rw [Com.size_mk]; exact hs)).mono fun _ _ ⟨he, hb⟩ => ⟨he, ⟨(hb.cell (World.block_lt_of_cell? w _ h0)).trans h0, (hb.cell (World.block_lt_of_cell? w _ h1)).trans h1⟩, ht.trans (hb.mono ht.size)⟩
theorem pt_eq (q : Pr) : (((⟨(UriD.enc false q.1).toArray⟩ : ByteArray) ++ ⟨#[61]⟩) ++ ⟨(UriD.enc false q.2).toArray⟩) = ⟨(pt q).toArray⟩ := by
  unfold pt
  simp only [← Com.mk_append]

theorem join {w : World} {base : Nat} {v : Value} {xs : List ByteArray} (sep : ByteArray) (h : w.ownsRow base 9 1 v xs.length (xs.map Value.string)) (hl : xs.length ≤ 140737488355328) (hj : (Lib.join (xs.map (·.data.toList)) sep.data.toList).length ≤ 140737488355328) :
    Calls Tryd.prog 96 #[v, .string sep] w fun e w' => e = .returned (.string ⟨(Lib.join (xs.map (·.data.toList)) sep.data.toList).toArray⟩) ∧ Below w.heap.size w w' := by
  by_cases hx : xs = []
  · subst hx
    have hv : ∃ a c, v = .slice a 0 c := by
      rcases h.2 with ⟨h, _⟩ | ⟨g, cap, cur, hv, _⟩
      · exact ⟨_, _, h⟩
      · exact ⟨_, _, hv⟩
    obtain ⟨a, c, rfl⟩ := hv
    exact (Tryd.strings_Join_none a c sep w).mono fun e w' ⟨h1, h2⟩ => ⟨h1, h2 ▸ Below.refl _ _⟩
  · rcases h.2 with ⟨_, h⟩ | ⟨g, cap, cur, rfl, hb, hg, hn, hm, hcs, htk⟩
    · exact absurd (List.eq_nil_of_length_eq_zero h) hx
    · refine Tryd.strings_Join g 0 cap xs sep w (fun j x hj => ?_) (Array.getElem?_eq_some_iff.1 hg).1 hl hn hj
      have := h.cells (g := g) rfl j (.string x) (by simp [hj])
      rwa [UriA.addr_add] at this

set_option maxHeartbeats 8000000 in
set_option maxRecDepth 100000 in
theorem canonical (p : ByteArray) {a : Option Addr} {ps : List Pr} (c : Nat) (w : World) (hf : Flat a) (hp : Pairs w a ps) (hl : ps.length ≤ 16777216) (hpl : p.size ≤ 16777216) (hq : ∀ q ∈ ps, q.1.length ≤ 16777216 ∧ q.2.length ≤ 16777216) (hj : (qt ps).length ≤ 140737488355328) :
    Calls Tryd.prog 49 #[.agg #[.string p, .slice a ps.length c]] w fun e w' => e = .returned (.tuple #[.string ⟨(UriD.enc true p.data.toList).toArray⟩, .string ⟨(qt ps).toArray⟩]) ∧ Below w.heap.size w w' := by
  go_enter Tryd.func49, Tryd.ntmps49
  go_wp2_with fail
  refine (clone c _ hf (UriL.Pairs.below hp ((Below.refl _ w).alloc (Nat.le_refl _) _)) (by omega)).mono ?_
  rintro e w1 ⟨v', rfl, hown, hb1⟩
  obtain ⟨a', c', rfl, _, _⟩ := pairs_of_own hown
  have hU1 : UriK.Ub w.heap.size w1 (.string p) (.slice a ps.length c) := (hb1.block _ (by simp)).trans (heap_alloc_new _ _)
  have hB1 : Below w.heap.size w w1 := ((Below.refl _ w).alloc (Nat.le_refl _) _).trans (hb1.mono (by simp))
  go_wp2_with fail
  refine (UriO.sort c' w1 hown (by omega) hb1.size).mono ?_
  rintro e w2 ⟨rfl, hP, hb2⟩
  have hU2 : UriK.Ub w.heap.size w2 (.string p) (.slice a ps.length c) := (hb2.block _ (by simp)).trans hU1
  have hB2 : Below w.heap.size w w2 := hB1.trans (hb2.mono (by simp))
  have hsl : (srt ps).length = ps.length := srt_length ps
  have hsm : ∀ q ∈ srt ps, q.1.length ≤ 16777216 ∧ q.2.length ≤ 16777216 := fun q h => hq q (srt_mem h)
  have hj' : (Lib.join ((srt ps).map pt) [38]).length ≤ 140737488355328 := hj
  generalize hss : srt ps = ss at hP hsl hsm hj'
  have HSS := Lib.hid hss; have HJ := Lib.hid hj'
  clear hss hj'
  have HB2 := Lib.hid hB2; have HU2 := Lib.hid hU2; have HP := Lib.hid hP; have HSL := Lib.hid hsl; have HSM := Lib.hid hsm
  have hwl := hU2.lt
  clear hown hB1 hU1 hb1 hb2 hq hf hp hj hB2 hU2 hP hsl hsm
  obtain ⟨i0, hi, hz0, hz1, hz2⟩ := info_parts infoString
  go_wp2_with fail
  go_loopg [5, 15] ps.length (fun g v5 v15 wr => ∃ k : Nat, k + g = ps.length ∧ v15 = .int .i64 k ∧ wr.ownsRow w2.heap.size 9 1 v5 k ((ss.take k).map fun q => .string ⟨(pt q).toArray⟩) ∧ Below w2.heap.size w2 wr)
  case atStart => exact ⟨0, by simp, rfl, World.ownsRow_nil _ _ _ _, Below.refl _ _⟩
  case round =>
    obtain ⟨k, hkg, rfl, hown, hb⟩ := hrel
    have HG := Lib.hid hkg; clear hkg
    have hsz := hb.size
    by_cases hlt : k < ps.length
    · have hk' : k < ss.length := by rw [HSL.out]; exact hlt
      obtain ⟨q, hqk⟩ : ∃ q, ss[k]? = some q := ⟨ss[k], List.getElem?_eq_getElem hk'⟩
      obtain ⟨b, o, rfl, hbb, hcs⟩ : ∃ b o, a' = some ⟨b, o, none⟩ ∧ b < w2.heap.size ∧ ∀ (j : Nat) p, ss[j]? = some p → w2.cell? ⟨b, o + j * 2, none⟩ = some (.string ⟨p.1.toArray⟩) ∧ w2.cell? ⟨b, o + j * 2 + 1, none⟩ = some (.string ⟨p.2.toArray⟩) := by
        rcases HP.out with h | h
        · rw [h] at hk'; simp at hk'
        · exact h
      obtain ⟨d0, d1⟩ := hcs k q hqk
      have c0 := (hb.cell (p := ⟨b, o + k * 2, none⟩) hbb).trans d0
      have c1 := (hb.cell (p := ⟨b, o + k * 2 + 1, none⟩) hbb).trans d1
      obtain ⟨n1, n2⟩ := HSM.out q (List.mem_of_getElem? hqk)
      have HTK := Lib.hid (show (ss.take (k + 1)).map (fun q => Value.string ⟨(pt q).toArray⟩) = (ss.take k).map (fun q => Value.string ⟨(pt q).toArray⟩) ++ [.string ⟨(pt q).toArray⟩] by rw [List.take_add_one, hqk]; simp)
      have HTL := Lib.hid (show ((ss.take k).map (fun q => Value.string ⟨(pt q).toArray⟩)).length = k by simp; omega)
      generalize hxs : (ss.take k).map (fun q => Value.string ⟨(pt q).toArray⟩) = xs at *
      clear hxs d0 d1 hcs hqk
      obtain ⟨nm, vl⟩ := q
      simp only at c0 c1 n1 n2
      have e1 := UriD.enc_len false nm
      have e2 := UriD.enc_len false vl
      have s1 : ¬ 9223372036854775807 < (UriD.enc false nm).length + 1 := by omega
      have s2 : ¬ 9223372036854775807 < (UriD.enc false nm).length + 1 + (UriD.enc false vl).length := by omega
      have hne : u5.ownBlock ≠ some wr.heap.size := fun h => by have := (hown.lt _ h).2; omega
      have HT : Below wr.heap.size wr (wr.alloc (.cells #[.string ⟨nm.toArray⟩, .string ⟨vl.toArray⟩] 93)) := (Below.refl _ _).alloc (Nat.le_refl _) _
      go_wp2_with fail
      go_region_held3 (fun w' => w'.cell? ⟨wr.heap.size, 0, none⟩ = some (.string ⟨nm.toArray⟩) ∧ w'.cell? ⟨wr.heap.size, 1, none⟩ = some (.string ⟨vl.toArray⟩))
        (first | go_keep | (go_split_ands; refine ⟨?_, ?_⟩ <;> (rw [hg7.cell_far _ (by have := t6.size; simp; omega) (fun h => hne h.symm)]; simp [*])))
        (first
          | (go_at_call 19; refine (encodeK _ _ wr wr.heap.size (.string ⟨nm.toArray⟩) (.string ⟨vl.toArray⟩) _ ?_ ?_ ?_ ?_).mono ?_; (first | exact n1 | exact n2); (first | assumption | exact HT | exact HT.drew); (simp [*]); (simp [*]); rintro e w6 ⟨rfl, k6, t6⟩)
          | (refine step_append_lies _ (by rfl) (.tmp 19) (.tmp 28) _ (by rfl) w2.heap.size 9 i0 _ 1 16 Tryd.underlying95 hi hz0 hz1 hz2 rfl (by omega) u5 k xs (by rfl) ((Com.own_below hown t6).alloc _) ⟨w6.heap.size, 0, none⟩ 1 1 [.string ((((⟨(UriD.enc false nm).toArray⟩ : ByteArray) ++ ⟨#[61]⟩) ++ ⟨(UriD.enc false vl).toArray⟩))] (by rfl) (by rfl) (Com.cells_new _ _ _) (by intro u hu; simp at hu; subst hu; rfl) (by omega) (by unfold maxLen; omega) (by omega) (by have := t6.size; simp; omega) (w6.heap.size + 1) (by simp) ?_; intro gg cap w7 hown7 hg7 hat hlt7))
      have B6 := hb.trans (t6.mono hsz)
      have hown6 := Com.own_below hown t6
      have B7 : Below w2.heap.size w2 w7 := (B6.alloc B6.size _).grown hg7 (by have := B6.size; simp; omega) (fun j hj => by have := (hown6.lt j hj).1; omega)
      clear hown hown6 hg7 c0 c1 HT B6 t6 hat k6 hb
      go_wp2
      go_roundg (ps.length - (k + 1))
      case measure => have := HG.out; omega
      case rel =>
        refine ⟨k + 1, by omega, by go_num, ?_, B7⟩
        rw [HTK.out, ← pt_eq]
        exact hown7
    · have hk2 : k = ss.length := by have := HG.out; have := HSL.out; omega
      have hxs : (ss.take k).map (fun q => Value.string ⟨(pt q).toArray⟩) = (ss.map fun q => (⟨(pt q).toArray⟩ : ByteArray)).map Value.string := by
        rw [hk2, List.take_length, List.map_map]; rfl
      have hxl : (ss.map fun q => (⟨(pt q).toArray⟩ : ByteArray)).length = k := by rw [List.length_map, hk2]
      have hxj : (ss.map fun q => (⟨(pt q).toArray⟩ : ByteArray)).map (·.data.toList) = ss.map pt := by rw [List.map_map]; rfl
      have HQT := Lib.hid (show qt ps = Lib.join (ss.map pt) [38] by unfold qt; rw [HSS.out])
      have hkl : k ≤ 16777216 := by have := HG.out; omega
      rw [hxs] at hown
      have hown2 : wr.ownsRow w2.heap.size 9 1 u5 (ss.map fun q => (⟨(pt q).toArray⟩ : ByteArray)).length ((ss.map fun q => (⟨(pt q).toArray⟩ : ByteArray)).map Value.string) := by rw [hxl]; exact hown
      have hj2 : (Lib.join ((ss.map fun q => (⟨(pt q).toArray⟩ : ByteArray)).map (·.data.toList)) [38]).length ≤ 140737488355328 := by rw [hxj]; exact HJ.out
      have HXJ := Lib.hid hxj
      generalize (ss.map fun q => (⟨(pt q).toArray⟩ : ByteArray)) = xs at *
      clear hown hxs hxj
      have hU := HU2.out.below hb
      obtain ⟨d0, d1, _⟩ := hU.cells
      have hbw : Below w.heap.size w wr := HB2.out.trans (hb.mono HB2.out.size)
      have HBW := Lib.hid hbw
      clear hU hbw hb
      go_wp2_with fail
      refine (UriD.encode p true _ hpl).mono ?_
      rintro e w3 ⟨rfl, hb3⟩
      have hown3 := Com.own_below hown2 hb3
      have HB3 := Lib.hid (HBW.out.trans (hb3.mono HBW.out.size))
      clear hown2 hb3 d0 d1
      go_wp2_with fail
      refine (join ⟨#[38]⟩ hown3 (by omega) hj2).mono ?_
      rintro e w4 ⟨rfl, hb4⟩
      have HB4 := Lib.hid (HB3.out.trans (hb4.mono HB3.out.size))
      clear hown3 hb4 hj2
      go_wp2_with fail
      go_ret2
      refine ⟨?_, HB4.out⟩
      rw [HQT.out, ← HXJ.out]
      rfl
end Go.Proofs.YtmimkgfkicgfiaaDoor.UriP
