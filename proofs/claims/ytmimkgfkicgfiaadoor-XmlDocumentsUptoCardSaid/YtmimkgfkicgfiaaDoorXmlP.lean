/-
  The walks of package xml's Upload and of the reference's.
-/
import Derived.Test.YtmimkgfkicgfiaaDoorXmlO
namespace Go.Proofs.YtmimkgfkicgfiaaDoor.XmlP
open Go.RowKit Go.Proofs.YtmimkgfkicgfiaaDoor

/-- parts in memory -/
def Pts (w : World) (a : Option Addr) (ps : List Xd.Pt) : Prop :=
  ps = [] ∨ ∃ b o, a = some ⟨b, o, none⟩ ∧ b < w.heap.size ∧ ∀ j e, ps[j]? = some e →
    w.cell? ⟨b, o + j * 6, none⟩ = some (.int .i64 e.number) ∧ (∃ n1, w.cell? ⟨b, o + j * 6 + 1, none⟩ = some (.int .i64 n1)) ∧ (∃ n2, w.cell? ⟨b, o + j * 6 + 2, none⟩ = some (.int .i64 n2)) ∧ (∃ n3, w.cell? ⟨b, o + j * 6 + 3, none⟩ = some (.int .i64 n3)) ∧
    w.cell? ⟨b, o + j * 6 + 4, none⟩ = some (.int .i64 e.size) ∧ w.cell? ⟨b, o + j * 6 + 5, none⟩ = some (.string ⟨e.etag.toArray⟩)
theorem Pts.below {w w' : World} {a : Option Addr} {ps : List Xd.Pt} (h : Pts w a ps) (hb : Below w.heap.size w w') : Pts w' a ps := by
  rcases h with h | ⟨b, o, h1, h2, h3⟩
  · exact .inl h
  · refine .inr ⟨b, o, h1, Nat.lt_of_lt_of_le h2 hb.size, fun j e he => ?_⟩
    obtain ⟨c0, ⟨n1, c1⟩, ⟨n2, c2⟩, ⟨n3, c3⟩, c4, c5⟩ := h3 j e he
    exact ⟨(hb.cell (p := ⟨b, _, none⟩) h2).trans c0, ⟨n1, (hb.cell (p := ⟨b, _, none⟩) h2).trans c1⟩, ⟨n2, (hb.cell (p := ⟨b, _, none⟩) h2).trans c2⟩, ⟨n3, (hb.cell (p := ⟨b, _, none⟩) h2).trans c3⟩, (hb.cell (p := ⟨b, _, none⟩) h2).trans c4, (hb.cell (p := ⟨b, _, none⟩) h2).trans c5⟩

def parts (key id : List UInt8) (ps : List Xd.Pt) : List ByteArray := ⟨(Xp.tag Xp.tKey (Xp.esc key)).toArray⟩ :: ⟨(Xp.tag Xd.tId (Xp.esc id)).toArray⟩ :: ps.map fun e => ⟨(Xd.ptDoc e).toArray⟩
theorem flat_parts (key : List UInt8) (a b c : Int) (ps : List Xd.Pt) : Com.flat (parts key (Xd.idText a b c) ps) = Xd.upBody key (Xd.idText a b c) ps := by
  simp only [parts, Com.flat, List.map_cons, List.flatten_cons, List.map_map, Xd.upBody, Xd.esc_id]
  congr 2

section
variable (w0 : World) (g : Nat) (v0 v1 v2 v3 v4 : Value) (w : World)
def H5 (g : Nat) (v0 v1 v2 v3 v4 : Value) (w : World) : Prop :=
  w.cell? ⟨g, 0, none⟩ = some v0 ∧ w.cell? ⟨g, 1, none⟩ = some v1 ∧ w.cell? ⟨g, 2, none⟩ = some v2 ∧ w.cell? ⟨g, 3, none⟩ = some v3 ∧ w.cell? ⟨g, 4, none⟩ = some v4
theorem H5.below {g : Nat} {v0 v1 v2 v3 v4 : Value} {w w' : World} (h : H5 g v0 v1 v2 v3 v4 w) (hb : Below w.heap.size w w') : H5 g v0 v1 v2 v3 v4 w' :=
  have hg := World.block_lt_of_cell? w _ h.1
  ⟨(hb.cell (p := ⟨g, 0, none⟩) hg).trans h.1, (hb.cell (p := ⟨g, 1, none⟩) hg).trans h.2.1, (hb.cell (p := ⟨g, 2, none⟩) hg).trans h.2.2.1, (hb.cell (p := ⟨g, 3, none⟩) hg).trans h.2.2.2.1, (hb.cell (p := ⟨g, 4, none⟩) hg).trans h.2.2.2.2⟩
theorem lift {f : FuncId} {args : Array Value} {v : Value} (ht : XmlI.Carry w0 w) (h : H5 g v0 v1 v2 v3 v4 w) (hc : Calls Tryd.prog f args w fun e w' => e = .returned v ∧ Below w.heap.size w w') :
    Calls Tryd.prog f args w fun e w' => e = .returned v ∧ (w'.cell? ⟨g, 0, none⟩ = some v0 ∧ w'.cell? ⟨g, 1, none⟩ = some v1 ∧ w'.cell? ⟨g, 2, none⟩ = some v2 ∧ w'.cell? ⟨g, 3, none⟩ = some v3 ∧ w'.cell? ⟨g, 4, none⟩ = some v4) ∧ XmlI.Carry w0 w' :=
  hc.mono fun _ _ ⟨he, hb⟩ => ⟨he, H5.below h hb, ht.below hb⟩
end

set_option maxHeartbeats 4000000 in
set_option maxRecDepth 100000 in
theorem upload (a b c : Int) (key : ByteArray) (A : Option Addr) (cap : Nat) (ps : List Xd.Pt) (w : World) (ha : Xd.I64 a) (hb : Xd.I64 b) (hc : Xd.I64 c) (hk : key.size ≤ 1048576) (hlen : ps.length ≤ 1048576) (hf : ∀ p ∈ ps, Xd.PtFits p) (ht : XmlH.Tab w) (hs : Pts w A ps) :
    Calls Tryd.prog 27 #[.agg #[.int .i64 a, .int .i64 b, .int .i64 c, .string key, .slice A ps.length cap]] w fun e w' => e = .returned (.string ⟨(Xd.docUpload key.data.toList (Xd.idText a b c) ps).toArray⟩) ∧ Below w.heap.size w w' := by
  obtain ⟨i0, hi, hz0, hz1, hz2⟩ := info_parts XmlI.infoString
  have hil := Xd.id_len ha hb hc
  have hxl := Xp.esc_len key.data.toList
  rw [Com.toList_length] at hxl
  have hub := Xd.upBody_len (key := key.data.toList) (by rw [Com.toList_length]; exact hk) ha hb hc hlen hf
  have HT : XmlI.Carry w (w.alloc (.cells #[.int .i64 a, .int .i64 b, .int .i64 c, .string key, .slice A ps.length cap] 54)) := XmlI.Carry.alloc ⟨ht, Below.refl _ _⟩ _
  have hz0' : w.heap.size < (w.alloc (.cells #[.int .i64 a, .int .i64 b, .int .i64 c, .string key, .slice A ps.length cap] 54)).heap.size := by simp
  go_enter Tryd.func27, Tryd.ntmps27
  go_wp2_with fail
  go_region_held3 (fun w' => w'.cell? ⟨w.heap.size, 0, none⟩ = some (.int .i64 a) ∧ w'.cell? ⟨w.heap.size, 1, none⟩ = some (.int .i64 b) ∧ w'.cell? ⟨w.heap.size, 2, none⟩ = some (.int .i64 c) ∧ w'.cell? ⟨w.heap.size, 3, none⟩ = some (.string key) ∧ w'.cell? ⟨w.heap.size, 4, none⟩ = some (.slice A ps.length cap))
    (first | go_keep)
    (first
      | (go_at_call 67; refine (lift w w.heap.size (.int .i64 a) (.int .i64 b) (.int .i64 c) (.string key) (.slice A ps.length cap) _ ?_ ?_ (XmlC.text _ _ _ ?_ ?_)).mono ?_; (first | assumption | exact HT | exact HT.drew); (unfold H5; simp [*]); (simp [Com.size_mk]); ((try simp only [Com.size_mk]); omega); rintro e w' ⟨rfl, k0, t0⟩)
      | (go_at_call 53; refine (lift w w.heap.size (.int .i64 a) (.int .i64 b) (.int .i64 c) (.string key) (.slice A ps.length cap) _ ?_ ?_ (XmlL.id a b c _ ha hb hc ?_)).mono ?_; (first | assumption | exact HT | exact HT.drew); (unfold H5; simp [*]); (first | exact HT.1 | exact HT.drew.1 | exact t0.1); rintro e w' ⟨rfl, k0, t0⟩))
  have hz : w.heap.size + 1 ≤ w'.heap.size := World.block_lt_of_cell? w' _ k0.1
  have B1 := t0.2
  have r4 := k0.2.2.2.2
  clear k0 t0 HT hz0'
  go_wp2_with fail
  generalize hkd : key.data.toList = kd at *
  have HKD := Lib.hid hkd; clear hkd
  generalize hid : Xd.idText a b c = idt at *
  have HID := Lib.hid hid; clear hid
  have r4' : ∀ x, (w'.alloc x).cell? ⟨w.heap.size, 4, none⟩ = some (.slice A ps.length cap) := fun x => (World.cell?_alloc_lt w' x _ (by simp; omega)).trans r4
  go_wp2_with fail
  go_loopg [3, 17] ps.length (fun g v i wr => ∃ k : Nat, k + g = ps.length ∧ i = .int .i64 k ∧ wr.ownsRow (w.heap.size + 1) 9 1 v (parts kd idt (ps.take k)).length ((parts kd idt (ps.take k)).map Value.string) ∧
    w.heap.size + 1 ≤ wr.heap.size ∧ Below w.heap.size w wr)
  case atStart =>
    refine ⟨0, by omega, rfl, ?_, by simp; omega, B1.alloc B1.size _⟩
    exact ⟨rfl, .inr ⟨w'.heap.size, 2, _, rfl, hz, heap_alloc_new _ _, Nat.le_refl _, by unfold maxLen; omega, rfl, rfl⟩⟩
  case round =>
    obtain ⟨k, hkg, rfl, hown, hzr, hbl⟩ := hrel
    have HG := Lib.hid hkg
    have hkx : k ≤ ps.length := by omega
    clear hkg r4 r4'
    have hsz := hbl.size
    by_cases hlt : k < ps.length
    · obtain ⟨e, hek⟩ : ∃ e, ps[k]? = some e := ⟨ps[k], List.getElem?_eq_getElem hlt⟩
      have hfe := hf e (List.mem_of_getElem? hek)
      have hsr := hs.below hbl
      rcases hsr with h | ⟨b, o, rfl, hbb, h3⟩
      · rw [h] at hlt; simp at hlt
      obtain ⟨c0, ⟨n1, c1⟩, ⟨n2, c2⟩, ⟨n3, c3⟩, c4, c5⟩ := h3 k e hek
      clear h3
      have HTK := Lib.hid (show parts kd idt (ps.take (k + 1)) = parts kd idt (ps.take k) ++ [⟨(Xd.ptDoc e).toArray⟩] by rw [List.take_add_one, hek]; simp [parts])
      have hle : (parts kd idt (ps.take k)).length ≤ 1048578 := by simp [parts]; omega
      generalize hps : parts kd idt (ps.take k) = qs at *
      have HPS := Lib.hid hps; clear hps hek
      obtain ⟨nu, sz, et⟩ := e
      obtain ⟨f0, ⟨f1, f2⟩, f3, f4⟩ := hfe
      simp only at c0 c4 c5 f0 f1 f2 f3 f4
      have hlb := Xp.esc_len et
      have HT : XmlI.Carry wr (wr.alloc (.cells #[.int .i64 nu, .int .i64 n1, .int .i64 n2, .int .i64 n3, .int .i64 sz, .string ⟨et.toArray⟩] 125)) := XmlI.Carry.alloc ⟨ht.below hbl, Below.refl _ _⟩ _
      have hne : u3.ownBlock ≠ some wr.heap.size := fun h => by have := (hown.lt _ h).2; omega
      have hd1 := Dec.itoa_len f1 f2
      have hd2 := Dec.itoa_len f3 f4
      go_wp2_with fail
      go_region_held3 (fun w' => w'.cell? ⟨wr.heap.size, 0, none⟩ = some (.int .i64 nu) ∧ w'.cell? ⟨wr.heap.size, 4, none⟩ = some (.int .i64 sz) ∧ w'.cell? ⟨wr.heap.size, 5, none⟩ = some (.string ⟨et.toArray⟩))
        (first | go_keep | (go_split_ands; refine ⟨?_, ?_, ?_⟩ <;> (rw [hg7.cell_far _ (by have := t6.2.size; simp; omega) (fun h => hne h.symm)]; simp [*])))
        (first
          | (go_at_call 67; refine (XmlM.textK wr wr.heap.size 0 4 5 5 (.int .i64 nu) (.int .i64 sz) (.string ⟨et.toArray⟩) (.string ⟨et.toArray⟩) _ _ _ ?_ ?_ ?_ ?_ ?_ ?_ ?_).mono ?_; (simp [Com.size_mk]); (simp only [Com.size_mk]; omega); (first | assumption | exact HT | exact HT.drew); (simp [*]); (simp [*]); (simp [*]); (simp [*]); rintro e w' ⟨rfl, k0, t0⟩)
          | (go_at_call 69; refine (XmlM.numberK wr wr.heap.size 0 4 5 5 (.int .i64 nu) (.int .i64 sz) (.string ⟨et.toArray⟩) (.string ⟨et.toArray⟩) _ _ _ ?_ ?_ ?_ ?_ ?_ ?_ ?_ ?_).mono ?_; omega; omega; (simp [Com.size_mk]); (first | assumption | exact HT | exact HT.drew); (simp [*]); (simp [*]); (simp [*]); (simp [*]); rintro e w' ⟨rfl, k0, t0⟩)
          | (go_at_call 68; refine (XmlM.tagK wr wr.heap.size 0 4 5 5 (.int .i64 nu) (.int .i64 sz) (.string ⟨et.toArray⟩) (.string ⟨et.toArray⟩) _ _ _ _ _ _ ?_ ?_ ?_ ?_ ?_ ?_ ?_).mono ?_; (simp [Com.size_mk]); (simp only [Com.size_mk, Xp.tag_len]; simp; omega); assumption; (simp [*]); (simp [*]); (simp [*]); (simp [*]); rintro e w6 ⟨rfl, k0, t6⟩)
          | (refine step_append_lies _ (by rfl) (.tmp 21) (.tmp 35) _ (by rfl) (w.heap.size + 1) 9 i0 _ 1 16 Tryd.underlying95 hi hz0 hz1 hz2 rfl (by omega) u3 qs.length (qs.map Value.string) (by rfl) ((Com.own_below hown t6.2).alloc _) ⟨w6.heap.size, 0, none⟩ 1 1 [.string ⟨(Xd.ptDoc ⟨nu, sz, et⟩).toArray⟩] (by rfl) (by rfl) (Com.cells_new _ _ _) (by intro u hu; simp at hu; subst hu; rfl) (by omega) (by unfold maxLen; omega) (by omega) (by have := t6.2.size; simp; omega) (w6.heap.size + 1) (by simp) ?_; intro gg cap w7 hown7 hg7 hat hlt7))
      have B6 := hbl.trans (t6.2.mono hsz)
      have hown6 := Com.own_below hown t6.2
      have hz6 : w.heap.size + 1 ≤ w6.heap.size := Nat.le_trans hzr t6.2.size
      have hz7 : w.heap.size + 1 ≤ w7.heap.size := by have := hg7.size; simp at this; omega
      have B7 : Below w.heap.size w w7 := (B6.alloc B6.size _).grown hg7 (by simp; omega) (fun j hj => by have := (hown6.lt j hj).1; omega)
      clear hown hown6 hg7 c0 c1 c2 c3 c4 c5 hlb hd1 hd2 k0 HT B6 t6 hat
      go_wp2
      go_roundg (gk - 1)
      case measure => have := HG.out; omega
      case rel =>
        refine ⟨k + 1, by have := HG.out; omega, by go_num, ?_, hz7, B7⟩
        rw [HTK.out]
        simpa using hown7
    · have HK := Lib.hid (show ps.take k = ps by rw [List.take_of_length_le]; omega)
      have HFL := Lib.hid (show Com.flat (parts kd idt ps) = Xd.upBody kd idt ps by rw [← HID.out]; exact flat_parts _ _ _ _ _)
      have hfl : (Com.flat (parts kd idt ps)).length ≤ 20000000000000 := by
        rw [HFL.out]
        exact hub
      have hpn : (parts kd idt ps).length ≤ 1048578 := by simp [parts]; omega
      rw [HK.out] at hown
      have HF := Lib.hid (show Xd.docUpload kd idt ps = Xp.top ++ Xp.tag Xd.tUpload (Com.flat (parts kd idt ps)) by
        rw [Xd.docUpload, HFL.out])
      obtain ⟨A, cA, rfl, hcA, hsA⟩ := Com.strs_of_own hown
      clear HFL
      generalize parts kd idt ps = qs at *
      clear hown
      go_wp2_with fail
      refine (XmlC.tag _ A cA qs _ (by simp [Com.size_mk]) (by omega) (by omega) hcA hsA).mono ?_
      rintro e w2 ⟨rfl, b2⟩
      rw [show Xp.tag (ByteArray.mk #[85, 112, 108, 111, 97, 100]).data.toList (Com.flat qs) = Xp.tag Xd.tUpload (Com.flat qs) from rfl]
      have hll := Xp.tag_len Xd.tUpload (Com.flat qs)
      have hl3 : (Xp.tag Xd.tUpload (Com.flat qs)).length ≤ 70368744177664 := by rw [hll]; simp [Xd.tUpload]; omega
      clear hll
      go_wp2
      go_ret
      exact ⟨by rw [HKD.out, HID.out, HF.out]; exact congrArg Ending.returned (Com.cat (a := Xp.top) rfl), hbl.trans (b2.mono hsz)⟩
end Go.Proofs.YtmimkgfkicgfiaaDoor.XmlP
