/-
  The walk of the reference's Buckets.
-/
import Derived.Test.YtmimkgfkicgfiaaDoorXmlM
namespace Go.Proofs.YtmimkgfkicgfiaaDoor.XmlN
open Go.RowKit Go.Proofs.YtmimkgfkicgfiaaDoor Go.Proofs.YtmimkgfkicgfiaaDoor.XmlI Go.Proofs.YtmimkgfkicgfiaaDoor.XmlM

theorem three (a b c : List UInt8) : ((⟨a.toArray⟩ : ByteArray) ++ ⟨b.toArray⟩) ++ ⟨c.toArray⟩ = ⟨(a ++ (b ++ c)).toArray⟩ := by
  rw [Com.mk_append, Com.mk_append, List.append_assoc]

theorem bkv (nm : List UInt8) (tm dy : Int) : Xp.tag (ByteArray.mk #[66, 117, 99, 107, 101, 116]).data.toList ((((⟨(Xp.tag [78, 97, 109, 101] (Xp.esc nm)).toArray⟩ : ByteArray) ++ ⟨(Xp.tag [84, 105, 109, 101] (Lib.itoa tm)).toArray⟩) ++ ⟨(Xp.tag [68, 97, 121, 115] (Lib.itoa dy)).toArray⟩)).data.toList = Xd.bkDoc ⟨nm, tm, dy⟩ := by
  rw [three]
  rfl

set_option maxHeartbeats 4000000 in
set_option maxRecDepth 100000 in
theorem refBuckets (a : Option Addr) (c : Nat) (bs : List Xd.Bk) (fa : Option Addr) (fl fc : Nat) (w : World) (hlen : bs.length ≤ 1048576) (hf : ∀ b ∈ bs, Xd.BkFits b) (ht : XmlH.Tab w) (hs : Bks w a bs) :
    Calls Tryd.prog 25 #[.agg #[.slice a bs.length c, .slice fa fl fc]] w fun e w' => e = .returned (.string ⟨(Xd.docBuckets bs).toArray⟩) ∧ Below w.heap.size w w' := by
  have hpl := Xd.bks_len hf
  go_enter Tryd.func25, Tryd.ntmps25
  go_wp2_with fail
  go_loopg [3, 9] bs.length (fun g v i wr => ∃ (k : Nat) (l : List UInt8), k + g = bs.length ∧ i = .int .i64 k ∧ v = .string ⟨l.toArray⟩ ∧ Hid (l = ((bs.take k).map Xd.bkDoc).flatten) ∧ l.length ≤ k * 12583300 ∧
    w.heap.size + 1 ≤ wr.heap.size ∧ Below w.heap.size w wr)
  case atStart =>
    exact ⟨0, [], by omega, rfl, rfl, rfl, by simp, by simp, (Below.refl _ w).alloc (Nat.le_refl _) _⟩
  case round =>
    obtain ⟨k, l, hkg, rfl, rfl, HL, hll, hzr, hb⟩ := hrel
    have HG := Lib.hid hkg
    have hkx : k ≤ bs.length := by omega
    clear hkg
    have hsz := hb.size
    by_cases hlt : k < bs.length
    · obtain ⟨e, hek⟩ : ∃ e, bs[k]? = some e := ⟨bs[k], List.getElem?_eq_getElem hlt⟩
      have hfe := hf e (List.mem_of_getElem? hek)
      have hsr := hs.below hb
      rcases hsr with h | ⟨b, o, rfl, hbb, h3⟩
      · rw [h] at hlt; simp at hlt
      obtain ⟨c0, c1, c2, ⟨a3, l3, d3, c3⟩, a4, l4, d4, c4⟩ := h3 k e hek
      clear h3
      have HTK := Lib.hid (show l ++ Xd.bkDoc e = ((bs.take (k + 1)).map Xd.bkDoc).flatten by rw [List.take_add_one, hek, HL.out]; simp)
      have hbl := Xd.bk_len hfe
      obtain ⟨nm, tm, dy⟩ := e
      obtain ⟨f0, ⟨f1, f2⟩, f3, f4⟩ := hfe
      simp only at c0 c1 c2 f0 f1 f2 f3 f4
      have hlb := Xp.esc_len nm
      have HT : Carry wr (wr.alloc (.cells #[.string ⟨nm.toArray⟩, .int .i64 tm, .int .i64 dy, .slice a3 l3 d3, .slice a4 l4 d4] 121)) := Carry.alloc ⟨ht.below hb, Below.refl _ _⟩ _
      have hd1 := Dec.itoa_len f1 f2
      have hd2 := Dec.itoa_len f3 f4
      have hbody : (Xd.bkBody ⟨nm, tm, dy⟩).length ≤ 35184372088832 := by
        simp only [Xd.bkDoc, Xp.tag_len] at hbl; omega
      have e1 := Xp.tag_len [78, 97, 109, 101] (Xp.esc nm)
      have e2 := Xp.tag_len [84, 105, 109, 101] (Lib.itoa tm)
      have e3 := Xp.tag_len [68, 97, 121, 115] (Lib.itoa dy)
      simp only [List.length_cons, List.length_nil] at e1 e2 e3
      have s1 : ¬ 9223372036854775807 < (Xp.tag [78, 97, 109, 101] (Xp.esc nm)).length + (Xp.tag [84, 105, 109, 101] (Lib.itoa tm)).length := by omega
      have s2 : ¬ 9223372036854775807 < (Xp.tag [78, 97, 109, 101] (Xp.esc nm)).length + (Xp.tag [84, 105, 109, 101] (Lib.itoa tm)).length + (Xp.tag [68, 97, 121, 115] (Lib.itoa dy)).length := by omega
      have s3 : ¬ 9223372036854775807 < l.length + (Xd.bkDoc ⟨nm, tm, dy⟩).length := by omega
      have s4 : (Xp.tag [78, 97, 109, 101] (Xp.esc nm)).length + (Xp.tag [84, 105, 109, 101] (Lib.itoa tm)).length + (Xp.tag [68, 97, 121, 115] (Lib.itoa dy)).length ≤ 35184372088832 := by omega
      have hln : l.length ≤ (k + 1) * 12583300 - (Xd.bkDoc ⟨nm, tm, dy⟩).length := by omega
      clear e1 e2 e3 hek
      go_wp2_with fail
      go_region_held3 (fun w' => w'.cell? ⟨wr.heap.size, 0, none⟩ = some (.string ⟨nm.toArray⟩) ∧ w'.cell? ⟨wr.heap.size, 1, none⟩ = some (.int .i64 tm) ∧ w'.cell? ⟨wr.heap.size, 2, none⟩ = some (.int .i64 dy))
        (first | go_keep)
        (first
          | (go_at_call 23; refine (escK wr wr.heap.size 0 1 2 2 (.string ⟨nm.toArray⟩) (.int .i64 tm) (.int .i64 dy) (.int .i64 dy) _ _ ?_ ?_ ?_ ?_ ?_ ?_).mono ?_; (simp only [Com.size_mk]; omega); (first | assumption | exact HT | exact HT.drew); (simp [*]); (simp [*]); (simp [*]); (simp [*]); rintro e w' ⟨rfl, k0, t0⟩)
          | (go_at_call 71; refine (numK wr wr.heap.size 0 1 2 2 (.string ⟨nm.toArray⟩) (.int .i64 tm) (.int .i64 dy) (.int .i64 dy) _ _ _ ?_ ?_ ?_ ?_ ?_ ?_ ?_ ?_).mono ?_; omega; omega; (simp [Com.size_mk]); (first | assumption | exact HT | exact HT.drew); (simp [*]); (simp [*]); (simp [*]); (simp [*]); rintro e w' ⟨rfl, k0, t0⟩)
          | (go_at_call 70; refine (refTagK wr wr.heap.size 0 1 2 2 (.string ⟨nm.toArray⟩) (.int .i64 tm) (.int .i64 dy) (.int .i64 dy) _ _ _ ?_ ?_ ?_ ?_ ?_ ?_ ?_).mono ?_; (simp [Com.size_mk]); (simp only [Com.size_mk, ByteArray.size_append]; omega); (first | assumption | exact HT | exact HT.drew); (simp [*]); (simp [*]); (simp [*]); (simp [*]); rintro e w' ⟨rfl, k0, t0⟩; try rw [bkv]))

      have B6 := hb.trans (t0.2.mono hsz)
      have hz6 : w.heap.size + 1 ≤ w'.heap.size := Nat.le_trans hzr t0.2.size
      clear c0 c1 c2 c3 c4 hlb hd1 hd2 HT s1 s2 k0 t0
      go_wp2
      go_roundg (gk - 1)
      case measure => have := HG.out; omega
      case rel =>
        exact ⟨k + 1, l ++ Xd.bkDoc ⟨nm, tm, dy⟩, by have := HG.out; omega, by go_num, Com.cat rfl, HTK, by rw [List.length_append]; omega, hz6, B6⟩
    · have HK := Lib.hid (show bs.take k = bs by rw [List.take_of_length_le]; omega)
      have HF := Lib.hid (show Xd.docBuckets bs = Xp.top ++ Xp.tag Xd.tBuckets l by
        rw [Xd.docBuckets, HL.out, HK.out])
      have hl3 := Xp.tag_len Xd.tBuckets l
      have hl4 : (Xp.tag Xd.tBuckets l).length ≤ 70368744177664 := by rw [hl3]; simp [Xd.tBuckets]; omega
      have hl5 : l.length ≤ 35184372088832 := by omega
      clear hl3 HL
      go_wp2_with fail
      refine (XmlB.refTagS _ _ _ (by simp [Com.size_mk]) (by rw [Com.size_mk]; exact hl5)).mono ?_
      rintro e w2 ⟨rfl, rfl⟩
      rw [show Xp.tag (ByteArray.mk #[66, 117, 99, 107, 101, 116, 115]).data.toList (ByteArray.mk l.toArray).data.toList = Xp.tag Xd.tBuckets l from rfl]
      go_wp2
      go_ret
      exact ⟨by rw [HF.out]; exact congrArg Ending.returned (Com.cat (a := Xp.top) rfl), hb⟩
end Go.Proofs.YtmimkgfkicgfiaaDoor.XmlN
