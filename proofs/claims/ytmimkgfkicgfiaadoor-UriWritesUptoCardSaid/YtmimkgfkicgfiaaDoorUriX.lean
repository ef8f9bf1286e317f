/-
  The walk of bollardref17's Canonical.
-/
import Derived.Test.YtmimkgfkicgfiaaDoorUriT
import Derived.Test.YtmimkgfkicgfiaaDoorUriS
import Derived.Deep.RegionHeld3
namespace Go.Proofs.YtmimkgfkicgfiaaDoor.UriX
open Go.RowKit Go.Proofs.YtmimkgfkicgfiaaDoor Go.Proofs.YtmimkgfkicgfiaaDoor.UriC Go.Proofs.YtmimkgfkicgfiaaDoor.UriN Go.Proofs.YtmimkgfkicgfiaaDoor.UriO Go.Proofs.YtmimkgfkicgfiaaDoor.UriR Go.Proofs.YtmimkgfkicgfiaaDoor.UriQ

theorem join_snoc (l : List (List UInt8)) (x sep : List UInt8) : Lib.join (l ++ [x]) sep = if l = [] then x else Lib.join l sep ++ sep ++ x := by
  cases l with
  | nil => simp [Lib.join_one]
  | cons y r =>
    rw [List.cons_append, Lib.join_cons, Lib.join_cons, if_neg (by simp)]
    simp [Lib.joinTail]
theorem join_take_le (l : List (List UInt8)) (k : Nat) (sep : List UInt8) : (Lib.join (l.take k) sep).length ≤ (Lib.join l sep).length := by
  cases l with
  | nil => simp
  | cons y r =>
    cases k with
    | zero => simp [Lib.join_nil]
    | succ k =>
      rw [List.take_succ_cons, Lib.join_cons, Lib.join_cons, List.length_append, List.length_append]
      have := Lib.joinTail_take_le sep r k
      omega
theorem encodeR (l : List UInt8) (slash : Bool) (w0 : World) (g : Nat) (v0 v1 : Value) (w : World) (hs : l.length ≤ 16777216) (ht : Below w0.heap.size w0 w) (h0 : w.cell? ⟨g, 0, none⟩ = some v0) (h1 : w.cell? ⟨g, 1, none⟩ = some v1) :
    Calls Tryd.prog 52 #[.string ⟨l.toArray⟩, .bool slash] w fun e w' => e = .returned (.string ⟨(UriD.enc slash l).toArray⟩) ∧ (w'.cell? ⟨g, 0, none⟩ = some v0 ∧ w'.cell? ⟨g, 1, none⟩ = some v1) ∧ Below w0.heap.size w0 w' :=
  (UriS.encode ⟨l.toArray⟩ slash w (by rw [Com.size_mk]; exact hs)).mono fun _ _ ⟨he, hb⟩ => ⟨he, ⟨(hb.cell (World.block_lt_of_cell? w _ h0)).trans h0, (hb.cell (World.block_lt_of_cell? w _ h1)).trans h1⟩, ht.trans (hb.mono ht.size)⟩
theorem add_eq (S : List UInt8) (q : Pr) : ((⟨S.toArray⟩ : ByteArray) ++ (((⟨(UriD.enc false q.1).toArray⟩ : ByteArray) ++ ⟨#[61]⟩) ++ ⟨(UriD.enc false q.2).toArray⟩)) = ⟨(S ++ pt q).toArray⟩ := by
  rw [UriP.pt_eq, Com.mk_append]

set_option maxHeartbeats 8000000 in
set_option maxRecDepth 100000 in
theorem canonical (p : ByteArray) {a : Option Addr} {ps : List Pr} (c : Nat) (w : World) (hp : Pairs w a ps) (hl : ps.length ≤ 16777216) (hpl : p.size ≤ 16777216) (hq : ∀ q ∈ ps, q.1.length ≤ 16777216 ∧ q.2.length ≤ 16777216) (hj : (qt ps).length ≤ 140737488355328) :
    Calls Tryd.prog 50 #[.agg #[.string p, .slice a ps.length c]] w fun e w' => e = .returned (.tuple #[.string ⟨(UriD.enc true p.data.toList).toArray⟩, .string ⟨(qt ps).toArray⟩]) ∧ Below w.heap.size w w' := by
  go_enter Tryd.func50, Tryd.ntmps50
  go_wp2_with fail
  have hb0 : Below w.heap.size w (w.alloc (.cells #[.string p, .slice a ps.length c] 25)) := (Below.refl _ w).alloc (Nat.le_refl _) _
  refine (UriT.sorted c _ (UriL.Pairs.below hp hb0) hl).mono ?_
  rintro e w1 ⟨⟨v, rfl, hown⟩, hb1⟩
  have hU1 : UriK.Ub w.heap.size w1 (.string p) (.slice a ps.length c) := (hb1.block _ (by simp)).trans (heap_alloc_new _ _)
  have hB1 : Below w.heap.size w w1 := hb0.trans (hb1.mono (by simp))
  rw [← srt_length ps] at hown
  obtain ⟨a', c', rfl, hcc, hpp⟩ := pairs_of_own hown
  have hsl := srt_length ps
  have hsm : ∀ q ∈ srt ps, q.1.length ≤ 16777216 ∧ q.2.length ≤ 16777216 := fun q h => hq q (srt_mem h)
  have hjt : ∀ k, (Lib.join (((srt ps).map pt).take k) [38]).length ≤ 140737488355328 := fun k => Nat.le_trans (join_take_le _ k _) hj
  have HQT := Lib.hid (show qt ps = Lib.join ((srt ps).map pt) [38] from rfl)
  generalize hss : srt ps = ss at *
  have hssl : ss.length ≤ 16777216 := by omega
  have HPP := Lib.hid hpp; have HSM := Lib.hid hsm; have HJT := Lib.hid hjt; have HU := Lib.hid hU1; have HB := Lib.hid hB1
  have hwl := hU1.lt
  clear hown hss hp hq hb0 hb1 hU1 hB1 hpp hsm hjt hj hsl
  go_wp2_with fail
  go_loopg [4, 5, 11] ss.length (fun g v4 _ v11 wr => ∃ k : Nat, k + g = ss.length ∧ v11 = .int .i64 k ∧ v4 = .string ⟨(Lib.join ((ss.map pt).take k) [38]).toArray⟩ ∧ Below w1.heap.size w1 wr)
  case atStart => exact ⟨0, by simp, rfl, rfl, Below.refl _ _⟩
  case round =>
    obtain ⟨k, hkg, rfl, rfl, hb⟩ := hrel
    have HG := Lib.hid hkg; clear hkg
    have hsz := hb.size
    by_cases hlt : k < ss.length
    · obtain ⟨q, hqk⟩ : ∃ q, ss[k]? = some q := ⟨ss[k], List.getElem?_eq_getElem hlt⟩
      obtain ⟨b, o, rfl, hbb, d0, d1⟩ := cells_at HPP.out hqk
      have c0 := (hb.cell (p := ⟨b, o + k * 2, none⟩) hbb).trans d0
      have c1 := (hb.cell (p := ⟨b, o + k * 2 + 1, none⟩) hbb).trans d1
      obtain ⟨n1, n2⟩ := HSM.out q (List.mem_of_getElem? hqk)
      have hSl := HJT.out k
      have HTK := Lib.hid (show (ss.map pt).take (k + 1) = (ss.map pt).take k ++ [pt q] by rw [List.take_add_one, List.getElem?_map, hqk]; rfl)
      have HNE := Lib.hid (show k ≠ 0 → (ss.map pt).take k ≠ [] from fun h e => by
        have := congrArg List.length e
        rw [List.length_take, List.length_map, List.length_nil] at this
        omega)
      have HZ := Lib.hid (show k = 0 → (ss.map pt).take k = [] from fun h => by rw [h]; rfl)
      generalize (ss.map pt).take k = tk at *
      generalize hS : Lib.join tk [38] = S at *
      have HS := Lib.hid hS
      obtain ⟨nm, vl⟩ := q
      simp only at c0 c1 n1 n2
      have e1 := UriD.enc_len false nm
      have e2 := UriD.enc_len false vl
      have s1 : ¬ 9223372036854775807 < (UriD.enc false nm).length + 1 := by omega
      have s2 : ¬ 9223372036854775807 < (UriD.enc false nm).length + 1 + (UriD.enc false vl).length := by omega
      have HT : Below wr.heap.size wr (wr.alloc (.cells #[.string ⟨nm.toArray⟩, .string ⟨vl.toArray⟩] 93)) := (Below.refl _ _).alloc (Nat.le_refl _) _
      clear d0 d1 hqk hS
      by_cases hk0 : k = 0
      · subst hk0
        simp only [Nat.zero_mul, Nat.add_zero] at c0 c1
        have s3 : ¬ 9223372036854775807 < S.length + ((UriD.enc false nm).length + 1 + (UriD.enc false vl).length) := by omega
        go_wp2_with fail
        go_region_held3 (fun w' => w'.cell? ⟨wr.heap.size, 0, none⟩ = some (.string ⟨nm.toArray⟩) ∧ w'.cell? ⟨wr.heap.size, 1, none⟩ = some (.string ⟨vl.toArray⟩))
          (first | go_keep)
          (first
            | (go_at_call 52; refine (encodeR _ _ wr wr.heap.size (.string ⟨nm.toArray⟩) (.string ⟨vl.toArray⟩) _ ?_ ?_ ?_ ?_).mono ?_; (first | exact n1 | exact n2); (first | assumption | exact HT | exact HT.drew); (simp [*]); (simp [*]); rintro e w6 ⟨rfl, k6, t6⟩))
        have B6 := hb.trans (t6.mono hsz)
        clear c0 c1 HT t6 k6 hb
        go_wp2
        go_roundg (ss.length - (0 + 1))
        case measure => have := HG.out; omega
        case rel =>
          refine ⟨0 + 1, by omega, by go_num, ?_, B6⟩
          rw [HTK.out, join_snoc, if_pos (HZ.out (by trivial))]
          have hS0 := HS.out
          rw [HZ.out (by trivial), Lib.join_nil] at hS0
          subst hS0
          exact congrArg Value.string (add_eq [] (nm, vl))
      · have s0 : ¬ 9223372036854775807 < S.length + 1 := by omega
        have s3 : ¬ 9223372036854775807 < S.length + 1 + ((UriD.enc false nm).length + 1 + (UriD.enc false vl).length) := by omega
        have hk1 : 0 < k := by omega
        go_wp2_with fail
        go_region_held3 (fun w' => w'.cell? ⟨wr.heap.size, 0, none⟩ = some (.string ⟨nm.toArray⟩) ∧ w'.cell? ⟨wr.heap.size, 1, none⟩ = some (.string ⟨vl.toArray⟩))
          (first | go_keep)
          (first
            | (go_at_call 52; refine (encodeR _ _ wr wr.heap.size (.string ⟨nm.toArray⟩) (.string ⟨vl.toArray⟩) _ ?_ ?_ ?_ ?_).mono ?_; (first | exact n1 | exact n2); (first | assumption | exact HT | exact HT.drew); (simp [*]); (simp [*]); rintro e w6 ⟨rfl, k6, t6⟩))
        have B6 := hb.trans (t6.mono hsz)
        clear c0 c1 HT t6 k6 hb
        go_wp2
        go_roundg (ss.length - (k + 1))
        case measure => have := HG.out; omega
        case rel =>
          refine ⟨k + 1, by omega, by go_num, ?_, B6⟩
          rw [HTK.out, join_snoc, if_neg (HNE.out hk0), HS.out, ← add_eq (S ++ [38]) (nm, vl), ← Com.mk_append S [38]]
    · have HK := Lib.hid (show (ss.map pt).take k = ss.map pt from List.take_of_length_le (by rw [List.length_map]; omega))
      rw [HK.out]
      rw [← HQT.out]
      have hbw : Below w.heap.size w wr := HB.out.trans (hb.mono HB.out.size)
      obtain ⟨d0, d1, _⟩ := (HU.out.below hb).cells
      have HBW := Lib.hid hbw
      clear hbw hb
      go_wp2_with fail
      refine (UriS.encode p true _ hpl).mono ?_
      rintro e w3 ⟨rfl, hb3⟩
      have hB3 := HBW.out.trans (hb3.mono HBW.out.size)
      clear hb3 d0 d1
      go_wp2_with fail
      go_ret2
      exact ⟨rfl, hB3⟩
end Go.Proofs.YtmimkgfkicgfiaaDoor.UriX
