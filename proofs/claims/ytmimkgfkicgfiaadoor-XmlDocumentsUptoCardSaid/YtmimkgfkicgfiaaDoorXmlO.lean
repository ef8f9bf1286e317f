/-
  The walk of the reference's List.
-/
import Derived.Test.YtmimkgfkicgfiaaDoorXmlN
namespace Go.Proofs.YtmimkgfkicgfiaaDoor.XmlO
open Go.RowKit Go.Proofs.YtmimkgfkicgfiaaDoor Go.Proofs.YtmimkgfkicgfiaaDoor.XmlI Go.Proofs.YtmimkgfkicgfiaaDoor.XmlM

theorem four (a b c d : List UInt8) : (((⟨a.toArray⟩ : ByteArray) ++ ⟨b.toArray⟩) ++ ⟨c.toArray⟩) ++ ⟨d.toArray⟩ = ⟨(a ++ (b ++ (c ++ d))).toArray⟩ := by
  rw [Com.mk_append, Com.mk_append, Com.mk_append, List.append_assoc, List.append_assoc]
theorem entv (nm et : List UInt8) (sz tm : Int) : Xp.tag (ByteArray.mk #[75, 101, 121]).data.toList (((((⟨(Xp.tag [78, 97, 109, 101] (Xp.esc nm)).toArray⟩ : ByteArray) ++ ⟨(Xp.tag [83, 105, 122, 101] (Lib.itoa sz)).toArray⟩) ++ ⟨(Xp.tag [69, 116, 97, 103] (Xp.esc et)).toArray⟩) ++ ⟨(Xp.tag [84, 105, 109, 101] (Lib.itoa tm)).toArray⟩)).data.toList = Xp.entDoc Lib.itoa ⟨nm, false, sz, et, tm⟩ := by
  rw [four]
  rfl
theorem prev (nm et : List UInt8) (sz tm : Int) : Xp.tag (ByteArray.mk #[80, 114, 101, 102, 105, 120]).data.toList (⟨(Xp.tag (ByteArray.mk #[78, 97, 109, 101]).data.toList (Xp.esc nm)).toArray⟩ : ByteArray).data.toList = Xp.entDoc Lib.itoa ⟨nm, true, sz, et, tm⟩ := rfl

def body (bd : List UInt8) (es : List Xp.Ent) : List UInt8 := Xp.tag Xp.tBucket (Xp.esc bd) ++ (es.map (Xp.entDoc Lib.itoa)).flatten

set_option maxHeartbeats 4000000 in
set_option maxRecDepth 100000 in
theorem refList (bucket next : ByteArray) (a : Option Addr) (c : Nat) (es : List Xp.Ent) (w : World) (hbk : bucket.size ≤ 1048576) (hnx : next.size ≤ 1048576) (hlen : es.length ≤ 1048576) (hf : Fits es) (ht : XmlH.Tab w) (hs : Ents w a es) :
    Calls Tryd.prog 26 #[.string bucket, .agg #[.slice a es.length c, .string next]] w fun e w' => e = .returned (.string ⟨(Xp.docList Lib.itoa bucket.data.toList es next.data.toList).toArray⟩) ∧ Below w.heap.size w w' := by
  have hxl0 := Xp.esc_len bucket.data.toList
  rw [Com.toList_length] at hxl0
  go_enter Tryd.func26, Tryd.ntmps26
  go_wp2_with fail
  refine (XmlB.refEscape bucket _ (by omega)).mono ?_
  rintro e w1 ⟨rfl, rfl⟩
  go_wp2_with fail
  refine (XmlB.refTagS _ _ _ (by simp [Com.size_mk]) (by rw [Com.size_mk]; omega)).mono ?_
  rintro e w1 ⟨rfl, rfl⟩
  rw [show Xp.tag (ByteArray.mk #[66, 117, 99, 107, 101, 116]).data.toList (ByteArray.mk (Xp.esc bucket.data.toList).toArray).data.toList = Xp.tag Xp.tBucket (Xp.esc bucket.data.toList) from rfl]
  go_wp2_with fail
  generalize hbd : bucket.data.toList = bd at *
  have HBD := Lib.hid hbd; clear hbd
  have hl0 : (Xp.tag Xp.tBucket (Xp.esc bd)).length ≤ 7000000 := by rw [Xp.tag_len]; simp only [Xp.tBucket, List.length_cons, List.length_nil]; omega
  clear hxl0
  go_loopg [5, 14] es.length (fun g v i wr => ∃ (k : Nat) (l : List UInt8), k + g = es.length ∧ i = .int .i64 k ∧ v = .string ⟨l.toArray⟩ ∧ Hid (l = body bd (es.take k)) ∧ l.length ≤ 7000000 + k * 12583300 ∧
    wr.cell? ⟨w.heap.size, 0, none⟩ = some (.slice a es.length c) ∧ wr.cell? ⟨w.heap.size, 1, none⟩ = some (.string next) ∧ w.heap.size + 1 ≤ wr.heap.size ∧ Below w.heap.size w wr)
  case atStart =>
    exact ⟨0, _, by omega, rfl, rfl, (show Hid _ by unfold Hid body; simp), by omega, by simp, by simp, by simp, (Below.refl _ w).alloc (Nat.le_refl _) _⟩
  case round =>
    obtain ⟨k, l, hkg, rfl, rfl, HL, hll, q0, q1, hzr, hb⟩ := hrel
    have HG := Lib.hid hkg
    have hkx : k ≤ es.length := by omega
    clear hkg
    have hsz := hb.size
    by_cases hlt : k < es.length
    · obtain ⟨e, hek⟩ : ∃ e, es[k]? = some e := ⟨es[k], List.getElem?_eq_getElem hlt⟩
      have hfe := hf e (List.mem_of_getElem? hek)
      have hsr := hs.below hb
      rcases hsr with h | ⟨b, o, rfl, hbb, h3⟩
      · rw [h] at hlt; simp at hlt
      obtain ⟨c0, c1, c2, c3, c4⟩ := h3 k e hek
      clear h3
      have HTK := Lib.hid (show l ++ Xp.entDoc Lib.itoa e = body bd (es.take (k + 1)) by rw [List.take_add_one, hek, HL.out]; simp [body])
      have hbl := ent_len hfe
      obtain ⟨nm, pr, sz, et, tm⟩ := e
      obtain ⟨f0, f5, f1, f2, f3, f4⟩ := hfe
      simp only at c0 c1 c2 c3 c4 f0 f1 f2 f3 f4 f5
      have hlb := Xp.esc_len nm
      have hlb2 := Xp.esc_len et
      clear hek
      cases pr
      · have HT : Carry wr (wr.alloc (.cells #[.string ⟨nm.toArray⟩, .bool false, .int .i64 sz, .string ⟨et.toArray⟩, .int .i64 tm] 42)) := Carry.alloc ⟨ht.below hb, Below.refl _ _⟩ _
        have hd1 := Dec.itoa_len f1 f2
        have hd2 := Dec.itoa_len f3 f4
        have e1 := Xp.tag_len [78, 97, 109, 101] (Xp.esc nm)
        have e2 := Xp.tag_len [83, 105, 122, 101] (Lib.itoa sz)
        have e3 := Xp.tag_len [69, 116, 97, 103] (Xp.esc et)
        have e4 := Xp.tag_len [84, 105, 109, 101] (Lib.itoa tm)
        simp only [List.length_cons, List.length_nil] at e1 e2 e3 e4
        have s4 : (Xp.tag [78, 97, 109, 101] (Xp.esc nm)).length + (Xp.tag [83, 105, 122, 101] (Lib.itoa sz)).length + (Xp.tag [69, 116, 97, 103] (Xp.esc et)).length + (Xp.tag [84, 105, 109, 101] (Lib.itoa tm)).length ≤ 35184372088832 := by omega
        have s1 : ¬ 9223372036854775807 < (Xp.tag [78, 97, 109, 101] (Xp.esc nm)).length + (Xp.tag [83, 105, 122, 101] (Lib.itoa sz)).length := by omega
        have s2 : ¬ 9223372036854775807 < (Xp.tag [78, 97, 109, 101] (Xp.esc nm)).length + (Xp.tag [83, 105, 122, 101] (Lib.itoa sz)).length + (Xp.tag [69, 116, 97, 103] (Xp.esc et)).length := by omega
        have s5 : ¬ 9223372036854775807 < (Xp.tag [78, 97, 109, 101] (Xp.esc nm)).length + (Xp.tag [83, 105, 122, 101] (Lib.itoa sz)).length + (Xp.tag [69, 116, 97, 103] (Xp.esc et)).length + (Xp.tag [84, 105, 109, 101] (Lib.itoa tm)).length := by omega
        have s3 : ¬ 9223372036854775807 < l.length + (Xp.entDoc Lib.itoa ⟨nm, false, sz, et, tm⟩).length := by omega
        have hln : l.length + (Xp.entDoc Lib.itoa ⟨nm, false, sz, et, tm⟩).length ≤ 7000000 + (k + 1) * 12583300 := by omega
        clear e1 e2 e3 e4
        go_wp2_with fail
        go_region_held3 (fun w' => w'.cell? ⟨wr.heap.size, 0, none⟩ = some (.string ⟨nm.toArray⟩) ∧ w'.cell? ⟨wr.heap.size, 2, none⟩ = some (.int .i64 sz) ∧ w'.cell? ⟨wr.heap.size, 3, none⟩ = some (.string ⟨et.toArray⟩) ∧ w'.cell? ⟨wr.heap.size, 4, none⟩ = some (.int .i64 tm))
          (first | go_keep)
          (first
            | (go_at_call 23; refine (escK wr wr.heap.size 0 2 3 4 (.string ⟨nm.toArray⟩) (.int .i64 sz) (.string ⟨et.toArray⟩) (.int .i64 tm) _ _ ?_ ?_ ?_ ?_ ?_ ?_).mono ?_; (simp only [Com.size_mk]; omega); (first | assumption | exact HT | exact HT.drew); (simp [*]); (simp [*]); (simp [*]); (simp [*]); rintro e w' ⟨rfl, k0, t0⟩)
            | (go_at_call 71; refine (numK wr wr.heap.size 0 2 3 4 (.string ⟨nm.toArray⟩) (.int .i64 sz) (.string ⟨et.toArray⟩) (.int .i64 tm) _ _ _ ?_ ?_ ?_ ?_ ?_ ?_ ?_ ?_).mono ?_; omega; omega; (simp [Com.size_mk]); (first | assumption | exact HT | exact HT.drew); (simp [*]); (simp [*]); (simp [*]); (simp [*]); rintro e w' ⟨rfl, k0, t0⟩)
            | (go_at_call 70; refine (refTagK wr wr.heap.size 0 2 3 4 (.string ⟨nm.toArray⟩) (.int .i64 sz) (.string ⟨et.toArray⟩) (.int .i64 tm) _ _ _ ?_ ?_ ?_ ?_ ?_ ?_ ?_).mono ?_; (simp [Com.size_mk]); (simp only [Com.size_mk, ByteArray.size_append]; omega); (first | assumption | exact HT | exact HT.drew); (simp [*]); (simp [*]); (simp [*]); (simp [*]); rintro e w' ⟨rfl, k0, t0⟩; try rw [entv]))
        have B6 := hb.trans (t0.2.mono hsz)
        have hz6 : w.heap.size + 1 ≤ w'.heap.size := Nat.le_trans hzr t0.2.size
        have r0 := (t0.2.cell (p := ⟨w.heap.size, 0, none⟩) hzr).trans q0
        have r1 := (t0.2.cell (p := ⟨w.heap.size, 1, none⟩) hzr).trans q1
        clear c0 c1 c2 c3 c4 hlb hlb2 hd1 hd2 HT s1 s2 s3 s4 s5 k0 t0 q0 q1
        go_wp2
        go_roundg (gk - 1)
        case measure => have := HG.out; omega
        case rel =>
          exact ⟨k + 1, l ++ Xp.entDoc Lib.itoa ⟨nm, false, sz, et, tm⟩, by have := HG.out; omega, by go_num, Com.cat rfl, HTK, by rw [List.length_append]; exact hln, r0, r1, hz6, B6⟩
      · have R0 : Below wr.heap.size wr (wr.alloc (.cells #[.string ⟨nm.toArray⟩, .bool true, .int .i64 sz, .string ⟨et.toArray⟩, .int .i64 tm] 42)) := (Below.refl _ _).alloc (Nat.le_refl _) _
        have hl1 := Xp.tag_len (ByteArray.mk #[78, 97, 109, 101]).data.toList (Xp.esc nm)
        have hl2 : (Xp.tag (ByteArray.mk #[78, 97, 109, 101]).data.toList (Xp.esc nm)).length ≤ 35184372088832 := by rw [hl1]; simp; omega
        have s3 : ¬ 9223372036854775807 < l.length + (Xp.entDoc Lib.itoa ⟨nm, true, sz, et, tm⟩).length := by omega
        have hln : l.length + (Xp.entDoc Lib.itoa ⟨nm, true, sz, et, tm⟩).length ≤ 7000000 + (k + 1) * 12583300 := by omega
        clear hl1
        go_wp2_with fail
        refine (XmlB.refEscape ⟨nm.toArray⟩ _ (by rw [Com.size_mk]; omega)).mono ?_
        rintro e w2 ⟨rfl, rfl⟩
        go_wp2_with fail
        refine (XmlB.refTagS ⟨#[78, 97, 109, 101]⟩ ⟨(Xp.esc nm).toArray⟩ _ (by simp [Com.size_mk]) (by rw [Com.size_mk]; omega)).mono ?_
        rintro e w2 ⟨rfl, rfl⟩
        go_wp2_with fail
        refine (XmlB.refTagS ⟨#[80, 114, 101, 102, 105, 120]⟩ ⟨(Xp.tag (ByteArray.mk #[78, 97, 109, 101]).data.toList (Xp.esc nm)).toArray⟩ _ (by simp [Com.size_mk]) (by rw [Com.size_mk]; exact hl2)).mono ?_
        rintro e w2 ⟨rfl, rfl⟩
        rw [prev nm et sz tm]
        have B6 := hb.trans (R0.mono hsz)
        have r0 := (R0.cell (p := ⟨w.heap.size, 0, none⟩) hzr).trans q0
        have r1 := (R0.cell (p := ⟨w.heap.size, 1, none⟩) hzr).trans q1
        clear c0 c1 c2 c3 c4 hlb hlb2 hl2
        go_wp2
        go_roundg (gk - 1)
        case measure => have := HG.out; omega
        case rel =>
          exact ⟨k + 1, l ++ Xp.entDoc Lib.itoa ⟨nm, true, sz, et, tm⟩, by have := HG.out; omega, by go_num, Com.cat rfl, HTK, by rw [List.length_append]; exact hln, r0, r1, by simp; omega, B6⟩
    · have HK := Lib.hid (show es.take k = es by rw [List.take_of_length_le]; omega)
      have HL2 := Lib.hid (HL.out.trans (by rw [HK.out]))
      clear HL
      by_cases hnil : next.data.toList = []
      · have hn0 : next.toList.isEmpty = true := by rw [Com.toList_data, hnil]; rfl
        have HF := Lib.hid (show Xp.docList Lib.itoa bd es next.data.toList = Xp.top ++ Xp.tag Xp.tList l by
          rw [Xp.docList, Xp.listBody, HL2.out, body, if_pos hnil, List.append_nil])
        clear hnil
        have hl3 := Xp.tag_len Xp.tList l
        have hl4 : (Xp.tag Xp.tList l).length ≤ 70368744177664 := by rw [hl3]; simp [Xp.tList]; omega
        clear hl3
        go_wp2_with fail
        refine (XmlB.refTagS _ _ _ (by simp [Com.size_mk]) (by rw [Com.size_mk]; omega)).mono ?_
        rintro e w2 ⟨rfl, rfl⟩
        rw [show Xp.tag (ByteArray.mk #[76, 105, 115, 116]).data.toList (ByteArray.mk l.toArray).data.toList = Xp.tag Xp.tList l from rfl]
        go_wp2
        go_ret
        exact ⟨by rw [HBD.out, HF.out]; exact congrArg Ending.returned (Com.cat (a := Xp.top) rfl), hb⟩
      · have hn0 : next.toList.isEmpty = false := by rw [Com.toList_data]; simpa using hnil
        have hxl := Xp.esc_len next.data.toList
        rw [Com.toList_length] at hxl
        have HF := Lib.hid (show Xp.docList Lib.itoa bd es next.data.toList = Xp.top ++ Xp.tag Xp.tList (l ++ Xp.tag Xp.tNext (Xp.esc next.data.toList)) by
          rw [Xp.docList, Xp.listBody, HL2.out, body, if_neg hnil, List.append_assoc])
        clear hnil
        have hx4 := Xp.tag_len Xp.tNext (Xp.esc next.data.toList)
        have hx5 : (Xp.tag Xp.tNext (Xp.esc next.data.toList)).length ≤ 7000000 := by rw [hx4]; simp [Xp.tNext]; omega
        have hl3 := Xp.tag_len Xp.tList (l ++ Xp.tag Xp.tNext (Xp.esc next.data.toList))
        have hl4 : (Xp.tag Xp.tList (l ++ Xp.tag Xp.tNext (Xp.esc next.data.toList))).length ≤ 70368744177664 := by rw [hl3]; simp [Xp.tList, List.length_append]; omega
        clear hl3 hx4
        go_wp2_with fail
        refine (XmlB.refEscape next _ (by omega)).mono ?_
        rintro e w2 ⟨rfl, rfl⟩
        go_wp2_with fail
        refine (XmlB.refTagS _ _ _ (by simp [Com.size_mk]) (by rw [Com.size_mk]; omega)).mono ?_
        rintro e w2 ⟨rfl, rfl⟩
        rw [show Xp.tag (ByteArray.mk #[78, 101, 120, 116]).data.toList (ByteArray.mk (Xp.esc next.data.toList).toArray).data.toList = Xp.tag Xp.tNext (Xp.esc next.data.toList) from rfl]
        generalize Xp.tag Xp.tNext (Xp.esc next.data.toList) = nt at *
        go_wp2_with fail
        refine (XmlB.refTagS _ _ _ (by simp [Com.size_mk]) (by simp only [ByteArray.size_append, Com.size_mk]; omega)).mono ?_
        rintro e w2 ⟨rfl, rfl⟩
        rw [Com.mk_append, show Xp.tag (ByteArray.mk #[76, 105, 115, 116]).data.toList (ByteArray.mk (l ++ nt).toArray).data.toList = Xp.tag Xp.tList (l ++ nt) from rfl]
        go_wp2
        go_ret
        exact ⟨by rw [HBD.out, HF.out]; exact congrArg Ending.returned (Com.cat (a := Xp.top) rfl), hb⟩
end Go.Proofs.YtmimkgfkicgfiaaDoor.XmlO
