/-
  The walk of the reference's Upload.
-/
import Derived.Test.YtmimkgfkicgfiaaDoorXmlP
namespace Go.Proofs.YtmimkgfkicgfiaaDoor.XmlQ
open Go.RowKit Go.Proofs.YtmimkgfkicgfiaaDoor Go.Proofs.YtmimkgfkicgfiaaDoor.XmlP

theorem ptv (nu sz : Int) (et : List UInt8) : Xp.tag (ByteArray.mk #[80, 97, 114, 116]).data.toList ((((⟨(Xp.tag [78, 117, 109, 98, 101, 114] (Lib.itoa nu)).toArray⟩ : ByteArray) ++ ⟨(Xp.tag [83, 105, 122, 101] (Lib.itoa sz)).toArray⟩) ++ ⟨(Xp.tag [69, 116, 97, 103] (Xp.esc et)).toArray⟩)).data.toList = Xd.ptDoc ⟨nu, sz, et⟩ := by
  rw [XmlN.three]
  rfl

def body (kd idt : List UInt8) (ps : List Xd.Pt) : List UInt8 := (Xp.tag Xp.tKey (Xp.esc kd) ++ Xp.tag Xd.tId idt) ++ (ps.map Xd.ptDoc).flatten

set_option maxHeartbeats 4000000 in
set_option maxRecDepth 100000 in
theorem refUpload (a b c : Int) (key : ByteArray) (A : Option Addr) (cap : Nat) (ps : List Xd.Pt) (w : World) (ha : Xd.I64 a) (hb : Xd.I64 b) (hc : Xd.I64 c) (hk : key.size ≤ 1048576) (hlen : ps.length ≤ 1048576) (hf : ∀ p ∈ ps, Xd.PtFits p) (ht : XmlH.Tab w) (hs : Pts w A ps) :
    Calls Tryd.prog 28 #[.agg #[.int .i64 a, .int .i64 b, .int .i64 c, .string key, .slice A ps.length cap]] w fun e w' => e = .returned (.string ⟨(Xd.docUpload key.data.toList (Xd.idText a b c) ps).toArray⟩) ∧ Below w.heap.size w w' := by
  have hil := Xd.id_len ha hb hc
  have hxl := Xp.esc_len key.data.toList
  rw [Com.toList_length] at hxl
  have hub := Xd.upBody_len (key := key.data.toList) (by rw [Com.toList_length]; exact hk) ha hb hc hlen hf
  have HT : XmlI.Carry w (w.alloc (.cells #[.int .i64 a, .int .i64 b, .int .i64 c, .string key, .slice A ps.length cap] 54)) := XmlI.Carry.alloc ⟨ht, Below.refl _ _⟩ _
  have g1 := Xp.tag_len [75, 101, 121] (Xp.esc key.data.toList)
  have g2 := Xp.tag_len [73, 100] (Xd.idText a b c)
  simp only [List.length_cons, List.length_nil] at g1 g2
  have g3 : ¬ 9223372036854775807 < (Xp.tag [75, 101, 121] (Xp.esc key.data.toList)).length + (Xp.tag [73, 100] (Xd.idText a b c)).length := by omega
  have g4 : (Xp.tag [75, 101, 121] (Xp.esc key.data.toList) ++ Xp.tag [73, 100] (Xd.idText a b c)).length ≤ 7000000 := by rw [List.length_append]; omega
  clear g1 g2
  go_enter Tryd.func28, Tryd.ntmps28
  go_wp2_with fail
  go_region_held3 (fun w' => w'.cell? ⟨w.heap.size, 0, none⟩ = some (.int .i64 a) ∧ w'.cell? ⟨w.heap.size, 1, none⟩ = some (.int .i64 b) ∧ w'.cell? ⟨w.heap.size, 2, none⟩ = some (.int .i64 c) ∧ w'.cell? ⟨w.heap.size, 3, none⟩ = some (.string key) ∧ w'.cell? ⟨w.heap.size, 4, none⟩ = some (.slice A ps.length cap))
    (first | go_keep)
    (first
      | (go_at_call 23; refine (lift w w.heap.size (.int .i64 a) (.int .i64 b) (.int .i64 c) (.string key) (.slice A ps.length cap) _ ?_ ?_ ((XmlB.refEscape _ _ ?_).mono fun _ _ ⟨he, hb⟩ => ⟨he, hb ▸ Below.refl _ _⟩)).mono ?_; (first | assumption | exact HT | exact HT.drew); (unfold H5; simp [*]); ((try simp only [Com.size_mk]); omega); rintro e w' ⟨rfl, k0, t0⟩)
      | (go_at_call 70; refine (lift w w.heap.size (.int .i64 a) (.int .i64 b) (.int .i64 c) (.string key) (.slice A ps.length cap) _ ?_ ?_ ((XmlB.refTagS _ _ _ ?_ ?_).mono fun _ _ ⟨he, hb⟩ => ⟨he, hb ▸ Below.refl _ _⟩)).mono ?_; (first | assumption | exact HT | exact HT.drew); (unfold H5; simp [*]); (simp [Com.size_mk]); ((try simp only [Com.size_mk]); omega); rintro e w' ⟨rfl, k0, t0⟩)
      | (go_at_call 55; refine (lift w w.heap.size (.int .i64 a) (.int .i64 b) (.int .i64 c) (.string key) (.slice A ps.length cap) _ ?_ ?_ (XmlL.refId a b c _ ha hb hc ?_)).mono ?_; (first | assumption | exact HT | exact HT.drew); (unfold H5; simp [*]); (first | exact HT.1 | exact HT.drew.1 | exact t0.1); rintro e w' ⟨rfl, k0, t0⟩))
  have hz : w.heap.size + 1 ≤ w'.heap.size := World.block_lt_of_cell? w' _ k0.1
  have B1 := t0.2
  have r4 := k0.2.2.2.2
  clear k0 t0 HT g3
  rw [Com.mk_append]
  go_wp2_with fail
  generalize hkd : key.data.toList = kd at *
  have HKD := Lib.hid hkd; clear hkd
  generalize hid : Xd.idText a b c = idt at *
  have HID := Lib.hid hid; clear hid
  go_loopg [3, 18] ps.length (fun g v i wr => ∃ (k : Nat) (l : List UInt8), k + g = ps.length ∧ i = .int .i64 k ∧ v = .string ⟨l.toArray⟩ ∧ Hid (l = body kd idt (ps.take k)) ∧ l.length ≤ 7000000 + k * 12583300 ∧
    w.heap.size + 1 ≤ wr.heap.size ∧ Below w.heap.size w wr)
  case atStart =>
    exact ⟨0, _, by omega, rfl, rfl, (show Hid _ by unfold Hid body; simp [Xp.tKey, Xd.tId]), by omega, hz, B1⟩
  case round =>
    obtain ⟨k, l, hkg, rfl, rfl, HL, hll, hzr, hbl⟩ := hrel
    have HG := Lib.hid hkg
    have hkx : k ≤ ps.length := by omega
    clear hkg r4 g4
    have hsz := hbl.size
    by_cases hlt : k < ps.length
    · obtain ⟨e, hek⟩ : ∃ e, ps[k]? = some e := ⟨ps[k], List.getElem?_eq_getElem hlt⟩
      have hfe := hf e (List.mem_of_getElem? hek)
      have hsr := hs.below hbl
      rcases hsr with h | ⟨b, o, rfl, hbb, h3⟩
      · rw [h] at hlt; simp at hlt
      obtain ⟨c0, ⟨n1, c1⟩, ⟨n2, c2⟩, ⟨n3, c3⟩, c4, c5⟩ := h3 k e hek
      clear h3
      have HTK := Lib.hid (show l ++ Xd.ptDoc e = body kd idt (ps.take (k + 1)) by rw [List.take_add_one, hek, HL.out]; simp [body])
      have hbl2 := Xd.pt_len hfe
      clear hek
      obtain ⟨nu, sz, et⟩ := e
      obtain ⟨f0, ⟨f1, f2⟩, f3, f4⟩ := hfe
      simp only at c0 c4 c5 f0 f1 f2 f3 f4
      have hlb := Xp.esc_len et
      have HT : XmlI.Carry wr (wr.alloc (.cells #[.int .i64 nu, .int .i64 n1, .int .i64 n2, .int .i64 n3, .int .i64 sz, .string ⟨et.toArray⟩] 125)) := XmlI.Carry.alloc ⟨ht.below hbl, Below.refl _ _⟩ _
      have hd1 := Dec.itoa_len f1 f2
      have hd2 := Dec.itoa_len f3 f4
      have e1 := Xp.tag_len [78, 117, 109, 98, 101, 114] (Lib.itoa nu)
      have e2 := Xp.tag_len [83, 105, 122, 101] (Lib.itoa sz)
      have e3 := Xp.tag_len [69, 116, 97, 103] (Xp.esc et)
      simp only [List.length_cons, List.length_nil] at e1 e2 e3
      have s1 : ¬ 9223372036854775807 < (Xp.tag [78, 117, 109, 98, 101, 114] (Lib.itoa nu)).length + (Xp.tag [83, 105, 122, 101] (Lib.itoa sz)).length := by omega
      have s2 : ¬ 9223372036854775807 < (Xp.tag [78, 117, 109, 98, 101, 114] (Lib.itoa nu)).length + (Xp.tag [83, 105, 122, 101] (Lib.itoa sz)).length + (Xp.tag [69, 116, 97, 103] (Xp.esc et)).length := by omega
      have s4 : (Xp.tag [78, 117, 109, 98, 101, 114] (Lib.itoa nu)).length + (Xp.tag [83, 105, 122, 101] (Lib.itoa sz)).length + (Xp.tag [69, 116, 97, 103] (Xp.esc et)).length ≤ 35184372088832 := by omega
      have s3 : ¬ 9223372036854775807 < l.length + (Xd.ptDoc ⟨nu, sz, et⟩).length := by omega
      have hln : l.length + (Xd.ptDoc ⟨nu, sz, et⟩).length ≤ 7000000 + (k + 1) * 12583300 := by omega
      clear e1 e2 e3
      go_wp2_with fail
      go_region_held3 (fun w' => w'.cell? ⟨wr.heap.size, 0, none⟩ = some (.int .i64 nu) ∧ w'.cell? ⟨wr.heap.size, 4, none⟩ = some (.int .i64 sz) ∧ w'.cell? ⟨wr.heap.size, 5, none⟩ = some (.string ⟨et.toArray⟩))
        (first | go_keep)
        (first
          | (go_at_call 23; refine (XmlM.escK wr wr.heap.size 0 4 5 5 (.int .i64 nu) (.int .i64 sz) (.string ⟨et.toArray⟩) (.string ⟨et.toArray⟩) _ _ ?_ ?_ ?_ ?_ ?_ ?_).mono ?_; (simp only [Com.size_mk]; omega); (first | assumption | exact HT | exact HT.drew); (simp [*]); (simp [*]); (simp [*]); (simp [*]); rintro e w' ⟨rfl, k0, t0⟩)
          | (go_at_call 71; refine (XmlM.numK wr wr.heap.size 0 4 5 5 (.int .i64 nu) (.int .i64 sz) (.string ⟨et.toArray⟩) (.string ⟨et.toArray⟩) _ _ _ ?_ ?_ ?_ ?_ ?_ ?_ ?_ ?_).mono ?_; omega; omega; (simp [Com.size_mk]); (first | assumption | exact HT | exact HT.drew); (simp [*]); (simp [*]); (simp [*]); (simp [*]); rintro e w' ⟨rfl, k0, t0⟩)
          | (go_at_call 70; refine (XmlM.refTagK wr wr.heap.size 0 4 5 5 (.int .i64 nu) (.int .i64 sz) (.string ⟨et.toArray⟩) (.string ⟨et.toArray⟩) _ _ _ ?_ ?_ ?_ ?_ ?_ ?_ ?_).mono ?_; (simp [Com.size_mk]); (simp only [Com.size_mk, ByteArray.size_append]; omega); (first | assumption | exact HT | exact HT.drew); (simp [*]); (simp [*]); (simp [*]); (simp [*]); rintro e w' ⟨rfl, k0, t0⟩; try rw [ptv]))
      have B6 := hbl.trans (t0.2.mono hsz)
      have hz6 : w.heap.size + 1 ≤ w'.heap.size := Nat.le_trans hzr t0.2.size
      clear c0 c1 c2 c3 c4 c5 hlb hd1 hd2 HT s1 s2 s3 s4 k0 t0
      go_wp2
      go_roundg (gk - 1)
      case measure => have := HG.out; omega
      case rel =>
        exact ⟨k + 1, l ++ Xd.ptDoc ⟨nu, sz, et⟩, by have := HG.out; omega, by go_num, Com.cat rfl, HTK, by rw [List.length_append]; exact hln, hz6, B6⟩
    · have HK := Lib.hid (show ps.take k = ps by rw [List.take_of_length_le]; omega)
      have HF := Lib.hid (show Xd.docUpload kd idt ps = Xp.top ++ Xp.tag Xd.tUpload l by
        rw [Xd.docUpload, HL.out, HK.out, Xd.upBody, body, List.append_assoc])
      have hl3 := Xp.tag_len Xd.tUpload l
      have hl4 : (Xp.tag Xd.tUpload l).length ≤ 70368744177664 := by rw [hl3]; simp [Xd.tUpload]; omega
      have hl5 : l.length ≤ 35184372088832 := by omega
      clear hl3 HL
      go_wp2_with fail
      refine (XmlB.refTagS _ _ _ (by simp [Com.size_mk]) (by rw [Com.size_mk]; exact hl5)).mono ?_
      rintro e w2 ⟨rfl, rfl⟩
      rw [show Xp.tag (ByteArray.mk #[85, 112, 108, 111, 97, 100]).data.toList (ByteArray.mk l.toArray).data.toList = Xp.tag Xd.tUpload l from rfl]
      go_wp2
      go_ret
      exact ⟨by rw [HKD.out, HID.out, HF.out]; exact congrArg Ending.returned (Com.cat (a := Xp.top) rfl), hbl⟩
end Go.Proofs.YtmimkgfkicgfiaaDoor.XmlQ
