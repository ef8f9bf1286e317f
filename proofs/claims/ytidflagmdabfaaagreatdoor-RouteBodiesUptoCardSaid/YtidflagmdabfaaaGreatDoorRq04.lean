/-
  The walks of package xml's Upload and of the reference's. The walk of the reference's Upload. The walk of package bollardref21's failed.
-/
import Derived.Test.YtidflagmdabfaaaGreatDoorRo01
import Derived.Test.YtidflagmdabfaaaGreatDoorRq02
import Derived.Test.YtidflagmdabfaaaGreatDoorRq03
namespace Go.Proofs.YtidflagmdabfaaaGreatDoor.XmlP
open Go.RowKit Go.Proofs.YtidflagmdabfaaaGreatDoor

/-- parts in memory -/
def Pts (w : World) (a : Option Addr) (ps : List Xd.Pt) : Prop :=
  ps = [] ∨ ∃ b o, a = some ⟨b, o, none⟩ ∧ b < w.heap.size ∧ ∀ j e, ps[j]? = some e →
    w.cell? ⟨b, o + j * 6, none⟩ = some (.int .i64 e.number) ∧ (∃ n1, w.cell? ⟨b, o + j * 6 + 1, none⟩ = some (.int .i64 n1)) ∧ (∃ n2, w.cell? ⟨b, o + j * 6 + 2, none⟩ = some (.int .i64 n2)) ∧ (∃ n3, w.cell? ⟨b, o + j * 6 + 3, none⟩ = some (.int .i64 n3)) ∧
    w.cell? ⟨b, o + j * 6 + 4, none⟩ = some (.int .i64 e.size) ∧ w.cell? ⟨b, o + j * 6 + 5, none⟩ = some (.string ⟨e.etag.toArray⟩)
theorem Pts.below {w w' : World} {a : Option Addr} {ps : List Xd.Pt} (h : Pts w a ps) (hb : Below w.heap.size w w') : Pts w' a ps := by
  rcases h with h | ⟨b, o, h1, h2, h3⟩
  · exact .inl h
  · refine .inr ⟨b, o, h1, Nat.lt_of_lt_of_le h2 hb.size, fun j e he => ?_⟩
    obtain ⟨c0, ⟨n1, c1⟩, ⟨n2, c2⟩, ⟨n3, c3⟩, c4, c5⟩ := h3 j e he
    exact ⟨(hb.cell (p := ⟨b, _, none⟩) h2).trans c0, ⟨n1, (hb.cell (p := ⟨b, _, none⟩) h2).trans c1⟩, ⟨n2, (hb.cell (p := ⟨b, _, none⟩) h2).trans c2⟩, ⟨n3, (hb.cell (p := ⟨b, _, none⟩) h2).trans c3⟩, (hb.cell (p := ⟨b, _, none⟩) h2).trans c4, (hb.cell (p := ⟨b, _, none⟩) h2).trans c5⟩

def parts (key id : List UInt8) (ps : List Xd.Pt) : List ByteArray := ⟨(Xp.tag Xp.tKey (Xp.esc key)).toArray⟩ :: ⟨(Xp.tag Xd.tId (Xp.esc id)).toArray⟩ :: ps.map fun e => ⟨(Xd.ptDoc e).toArray⟩
theorem flat_parts (key : List UInt8) (a b c : Int) (ps : List Xd.Pt) : Com.flat (parts key (Xd.idText a b c) ps) = Xd.upBody key (Xd.idText a b c) ps := by
  simp only [parts, Com.flat, List.map_cons, List.flatten_cons, List.map_map, Xd.upBody, Xd.esc_id]
  congr 2

section
variable (w0 : World) (g : Nat) (v0 v1 v2 v3 v4 : Value) (w : World)
def H5 (g : Nat) (v0 v1 v2 v3 v4 : Value) (w : World) : Prop :=
  w.cell? ⟨g, 0, none⟩ = some v0 ∧ w.cell? ⟨g, 1, none⟩ = some v1 ∧ w.cell? ⟨g, 2, none⟩ = some v2 ∧ w.cell? ⟨g, 3, none⟩ = some v3 ∧ w.cell? ⟨g, 4, none⟩ = some v4
theorem H5.below {g : Nat} {v0 v1 v2 v3 v4 : Value} {w w' : World} (h : H5 g v0 v1 v2 v3 v4 w) (hb : Below w.heap.size w w') : H5 g v0 v1 v2 v3 v4 w' :=
  have hg := World.block_lt_of_cell? w _ h.1
  ⟨(hb.cell (p := ⟨g, 0, none⟩) hg).trans h.1, (hb.cell (p := ⟨g, 1, none⟩) hg).trans h.2.1, (hb.cell (p := ⟨g, 2, none⟩) hg).trans h.2.2.1, (hb.cell (p := ⟨g, 3, none⟩) hg).trans h.2.2.2.1, (hb.cell (p := ⟨g, 4, none⟩) hg).trans h.2.2.2.2⟩
theorem lift {f : FuncId} {args : Array Value} {v : Value} (ht : XmlI.Carry w0 w) (h : H5 g v0 v1 v2 v3 v4 w) (hc : Calls Tryz.prog f args w fun e w' => e = .returned v ∧ Below w.heap.size w w') :
    Calls Tryz.prog f args w fun e w' => e = .returned v ∧ (w'.cell? ⟨g, 0, none⟩ = some v0 ∧ w'.cell? ⟨g, 1, none⟩ = some v1 ∧ w'.cell? ⟨g, 2, none⟩ = some v2 ∧ w'.cell? ⟨g, 3, none⟩ = some v3 ∧ w'.cell? ⟨g, 4, none⟩ = some v4) ∧ XmlI.Carry w0 w' :=
  hc.mono fun _ _ ⟨he, hb⟩ => ⟨he, H5.below h hb, ht.below hb⟩
end

set_option maxHeartbeats 4000000 in
set_option maxRecDepth 100000 in
theorem upload (a b c : Int) (key : ByteArray) (A : Option Addr) (cap : Nat) (ps : List Xd.Pt) (w : World) (ha : Xd.I64 a) (hb : Xd.I64 b) (hc : Xd.I64 c) (hk : key.size ≤ 1048576) (hlen : ps.length ≤ 1048576) (hf : ∀ p ∈ ps, Xd.PtFits p) (ht : XmlH.Tab w) (hs : Pts w A ps) :
    Calls Tryz.prog 64 #[.agg #[.int .i64 a, .int .i64 b, .int .i64 c, .string key, .slice A ps.length cap]] w fun e w' => e = .returned (.string ⟨(Xd.docUpload key.data.toList (Xd.idText a b c) ps).toArray⟩) ∧ Below w.heap.size w w' := by
  obtain ⟨i0, hi, hz0, hz1, hz2⟩ := info_parts XmlI.infoString
  have hil := Xd.id_len ha hb hc
  have hxl := Xp.esc_len key.data.toList
  rw [Com.toList_length] at hxl
  have hub := Xd.upBody_len (key := key.data.toList) (by rw [Com.toList_length]; exact hk) ha hb hc hlen hf
  have HT : XmlI.Carry w (w.alloc (.cells #[.int .i64 a, .int .i64 b, .int .i64 c, .string key, .slice A ps.length cap] 126)) := XmlI.Carry.alloc ⟨ht, Below.refl _ _⟩ _
  have hz0' : w.heap.size < (w.alloc (.cells #[.int .i64 a, .int .i64 b, .int .i64 c, .string key, .slice A ps.length cap] 126)).heap.size := by simp
  go_enter Tryz.func64, Tryz.ntmps64
  go_wp2_with fail
  go_region_held3 (fun w' => w'.cell? ⟨w.heap.size, 0, none⟩ = some (.int .i64 a) ∧ w'.cell? ⟨w.heap.size, 1, none⟩ = some (.int .i64 b) ∧ w'.cell? ⟨w.heap.size, 2, none⟩ = some (.int .i64 c) ∧ w'.cell? ⟨w.heap.size, 3, none⟩ = some (.string key) ∧ w'.cell? ⟨w.heap.size, 4, none⟩ = some (.slice A ps.length cap))
    (first | go_keep)
    (first
      | (go_at_call 107; refine (lift w w.heap.size (.int .i64 a) (.int .i64 b) (.int .i64 c) (.string key) (.slice A ps.length cap) _ ?_ ?_ (XmlC.text _ _ _ ?_ ?_)).mono ?_; (first | assumption | exact HT | exact HT.drew); (unfold H5; simp [*]); (simp [Com.size_mk]); ((try simp only [Com.size_mk]); omega); rintro e w' ⟨rfl, k0, t0⟩)
      | (go_at_call 108; refine (lift w w.heap.size (.int .i64 a) (.int .i64 b) (.int .i64 c) (.string key) (.slice A ps.length cap) _ ?_ ?_ (XmlL.id a b c _ ha hb hc ?_)).mono ?_; (first | assumption | exact HT | exact HT.drew); (unfold H5; simp [*]); (first | exact HT.1 | exact HT.drew.1 | exact t0.1); rintro e w' ⟨rfl, k0, t0⟩))
  have hz : w.heap.size + 1 ≤ w'.heap.size := World.block_lt_of_cell? w' _ k0.1
  have B1 := t0.2
  have r4 := k0.2.2.2.2
  clear k0 t0 HT hz0'
  go_wp2_with fail
  generalize hkd : key.data.toList = kd at *
  have HKD := Lib.hid hkd; clear hkd
  generalize hid : Xd.idText a b c = idt at *
  have HID := Lib.hid hid; clear hid
  have r4' : ∀ x, (w'.alloc x).cell? ⟨w.heap.size, 4, none⟩ = some (.slice A ps.length cap) := fun x => (World.cell?_alloc_lt w' x _ (by simp; omega)).trans r4
  go_wp2_with fail
  go_loopg [3, 17] ps.length (fun g v i wr => ∃ k : Nat, k + g = ps.length ∧ i = .int .i64 k ∧ wr.ownsRow (w.heap.size + 1) 9 1 v (parts kd idt (ps.take k)).length ((parts kd idt (ps.take k)).map Value.string) ∧
    w.heap.size + 1 ≤ wr.heap.size ∧ Below w.heap.size w wr)
  case atStart =>
    refine ⟨0, by omega, rfl, ?_, by simp; omega, B1.alloc B1.size _⟩
    exact ⟨rfl, .inr ⟨w'.heap.size, 2, _, rfl, hz, heap_alloc_new _ _, Nat.le_refl _, by unfold maxLen; omega, rfl, rfl⟩⟩
  case round =>
    obtain ⟨k, hkg, rfl, hown, hzr, hbl⟩ := hrel
    have HG := Lib.hid hkg
    have hkx : k ≤ ps.length := by omega
    clear hkg r4 r4'
    have hsz := hbl.size
    by_cases hlt : k < ps.length
    · obtain ⟨e, hek⟩ : ∃ e, ps[k]? = some e := ⟨ps[k], List.getElem?_eq_getElem hlt⟩
      have hfe := hf e (List.mem_of_getElem? hek)
      have hsr := hs.below hbl
      rcases hsr with h | ⟨b, o, rfl, hbb, h3⟩
      · rw [h] at hlt; simp at hlt
      obtain ⟨c0, ⟨n1, c1⟩, ⟨n2, c2⟩, ⟨n3, c3⟩, c4, c5⟩ := h3 k e hek
      clear h3
      have HTK := Lib.hid (show parts kd idt (ps.take (k + 1)) = parts kd idt (ps.take k) ++ [⟨(Xd.ptDoc e).toArray⟩] by rw [List.take_add_one, hek]; simp [parts])
      have hle : (parts kd idt (ps.take k)).length ≤ 1048578 := by simp [parts]; omega
      generalize hps : parts kd idt (ps.take k) = qs at *
      have HPS := Lib.hid hps; clear hps hek
      obtain ⟨nu, sz, et⟩ := e
      obtain ⟨f0, ⟨f1, f2⟩, f3, f4⟩ := hfe
      simp only at c0 c4 c5 f0 f1 f2 f3 f4
      have hlb := Xp.esc_len et
      have HT : XmlI.Carry wr (wr.alloc (.cells #[.int .i64 nu, .int .i64 n1, .int .i64 n2, .int .i64 n3, .int .i64 sz, .string ⟨et.toArray⟩] 170)) := XmlI.Carry.alloc ⟨ht.below hbl, Below.refl _ _⟩ _
      have hne : u3.ownBlock ≠ some wr.heap.size := fun h => by have := (hown.lt _ h).2; omega
      have hd1 := Dec.itoa_len f1 f2
      have hd2 := Dec.itoa_len f3 f4
      go_wp2_with fail
      go_region_held3 (fun w' => w'.cell? ⟨wr.heap.size, 0, none⟩ = some (.int .i64 nu) ∧ w'.cell? ⟨wr.heap.size, 4, none⟩ = some (.int .i64 sz) ∧ w'.cell? ⟨wr.heap.size, 5, none⟩ = some (.string ⟨et.toArray⟩))
        (first | go_keep | (go_split_ands; refine ⟨?_, ?_, ?_⟩ <;> (rw [hg7.cell_far _ (by have := t6.2.size; simp; omega) (fun h => hne h.symm)]; simp [*])))
        (first
          | (go_at_call 107; refine (XmlM.textK wr wr.heap.size 0 4 5 5 (.int .i64 nu) (.int .i64 sz) (.string ⟨et.toArray⟩) (.string ⟨et.toArray⟩) _ _ _ ?_ ?_ ?_ ?_ ?_ ?_ ?_).mono ?_; (simp [Com.size_mk]); (simp only [Com.size_mk]; omega); (first | assumption | exact HT | exact HT.drew); (simp [*]); (simp [*]); (simp [*]); (simp [*]); rintro e w' ⟨rfl, k0, t0⟩)
          | (go_at_call 110; refine (XmlM.numberK wr wr.heap.size 0 4 5 5 (.int .i64 nu) (.int .i64 sz) (.string ⟨et.toArray⟩) (.string ⟨et.toArray⟩) _ _ _ ?_ ?_ ?_ ?_ ?_ ?_ ?_ ?_).mono ?_; omega; omega; (simp [Com.size_mk]); (first | assumption | exact HT | exact HT.drew); (simp [*]); (simp [*]); (simp [*]); (simp [*]); rintro e w' ⟨rfl, k0, t0⟩)
          | (go_at_call 109; refine (XmlM.tagK wr wr.heap.size 0 4 5 5 (.int .i64 nu) (.int .i64 sz) (.string ⟨et.toArray⟩) (.string ⟨et.toArray⟩) _ _ _ _ _ _ ?_ ?_ ?_ ?_ ?_ ?_ ?_).mono ?_; (simp [Com.size_mk]); (simp only [Com.size_mk, Xp.tag_len]; simp; omega); assumption; (simp [*]); (simp [*]); (simp [*]); (simp [*]); rintro e w6 ⟨rfl, k0, t6⟩)
          | (refine step_append_lies _ (by rfl) (.tmp 21) (.tmp 35) _ (by rfl) (w.heap.size + 1) 9 i0 _ 1 16 Tryz.underlying132 hi hz0 hz1 hz2 rfl (by omega) u3 qs.length (qs.map Value.string) (by rfl) ((Com.own_below hown t6.2).alloc _) ⟨w6.heap.size, 0, none⟩ 1 1 [.string ⟨(Xd.ptDoc ⟨nu, sz, et⟩).toArray⟩] (by rfl) (by rfl) (Com.cells_new _ _ _) (by intro u hu; simp at hu; subst hu; rfl) (by omega) (by unfold maxLen; omega) (by omega) (by have := t6.2.size; simp; omega) (w6.heap.size + 1) (by simp) ?_; intro gg cap w7 hown7 hg7 hat hlt7))
      have B6 := hbl.trans (t6.2.mono hsz)
      have hown6 := Com.own_below hown t6.2
      have hz6 : w.heap.size + 1 ≤ w6.heap.size := Nat.le_trans hzr t6.2.size
      have hz7 : w.heap.size + 1 ≤ w7.heap.size := by have := hg7.size; simp at this; omega
      have B7 : Below w.heap.size w w7 := (B6.alloc B6.size _).grown hg7 (by simp; omega) (fun j hj => by have := (hown6.lt j hj).1; omega)
      clear hown hown6 hg7 c0 c1 c2 c3 c4 c5 hlb hd1 hd2 k0 HT B6 t6 hat
      go_wp2
      go_roundg (gk - 1)
      case measure => have := HG.out; omega
      case rel =>
        refine ⟨k + 1, by have := HG.out; omega, by go_num, ?_, hz7, B7⟩
        rw [HTK.out]
        simpa using hown7
    · have HK := Lib.hid (show ps.take k = ps by rw [List.take_of_length_le]; omega)
      have HFL := Lib.hid (show Com.flat (parts kd idt ps) = Xd.upBody kd idt ps by rw [← HID.out]; exact flat_parts _ _ _ _ _)
      have hfl : (Com.flat (parts kd idt ps)).length ≤ 20000000000000 := by
        rw [HFL.out]
        exact hub
      have hpn : (parts kd idt ps).length ≤ 1048578 := by simp [parts]; omega
      rw [HK.out] at hown
      have HF := Lib.hid (show Xd.docUpload kd idt ps = Xp.top ++ Xp.tag Xd.tUpload (Com.flat (parts kd idt ps)) by
        rw [Xd.docUpload, HFL.out])
      obtain ⟨A, cA, rfl, hcA, hsA⟩ := Com.strs_of_own hown
      clear HFL
      generalize parts kd idt ps = qs at *
      clear hown
      go_wp2_with fail
      refine (XmlC.tag _ A cA qs _ (by simp [Com.size_mk]) (by omega) (by omega) hcA hsA).mono ?_
      rintro e w2 ⟨rfl, b2⟩
      rw [show Xp.tag (ByteArray.mk #[85, 112, 108, 111, 97, 100]).data.toList (Com.flat qs) = Xp.tag Xd.tUpload (Com.flat qs) from rfl]
      have hll := Xp.tag_len Xd.tUpload (Com.flat qs)
      have hl3 : (Xp.tag Xd.tUpload (Com.flat qs)).length ≤ 70368744177664 := by rw [hll]; simp [Xd.tUpload]; omega
      clear hll
      go_wp2
      go_ret
      exact ⟨by rw [HKD.out, HID.out, HF.out]; exact congrArg Ending.returned (Com.cat (a := Xp.top) rfl), hbl.trans (b2.mono hsz)⟩
end Go.Proofs.YtidflagmdabfaaaGreatDoor.XmlP
namespace Go.Proofs.YtidflagmdabfaaaGreatDoor.XmlQ
open Go.RowKit Go.Proofs.YtidflagmdabfaaaGreatDoor Go.Proofs.YtidflagmdabfaaaGreatDoor.XmlP

theorem ptv (nu sz : Int) (et : List UInt8) : Xp.tag (ByteArray.mk #[80, 97, 114, 116]).data.toList ((((⟨(Xp.tag [78, 117, 109, 98, 101, 114] (Lib.itoa nu)).toArray⟩ : ByteArray) ++ ⟨(Xp.tag [83, 105, 122, 101] (Lib.itoa sz)).toArray⟩) ++ ⟨(Xp.tag [69, 116, 97, 103] (Xp.esc et)).toArray⟩)).data.toList = Xd.ptDoc ⟨nu, sz, et⟩ := by
  rw [XmlN.three]
  rfl

def body (kd idt : List UInt8) (ps : List Xd.Pt) : List UInt8 := (Xp.tag Xp.tKey (Xp.esc kd) ++ Xp.tag Xd.tId idt) ++ (ps.map Xd.ptDoc).flatten

set_option maxHeartbeats 4000000 in
set_option maxRecDepth 100000 in
theorem refUpload (a b c : Int) (key : ByteArray) (A : Option Addr) (cap : Nat) (ps : List Xd.Pt) (w : World) (ha : Xd.I64 a) (hb : Xd.I64 b) (hc : Xd.I64 c) (hk : key.size ≤ 1048576) (hlen : ps.length ≤ 1048576) (hf : ∀ p ∈ ps, Xd.PtFits p) (ht : XmlH.Tab w) (hs : Pts w A ps) :
    Calls Tryz.prog 67 #[.agg #[.int .i64 a, .int .i64 b, .int .i64 c, .string key, .slice A ps.length cap]] w fun e w' => e = .returned (.string ⟨(Xd.docUpload key.data.toList (Xd.idText a b c) ps).toArray⟩) ∧ Below w.heap.size w w' := by
  have hil := Xd.id_len ha hb hc
  have hxl := Xp.esc_len key.data.toList
  rw [Com.toList_length] at hxl
  have hub := Xd.upBody_len (key := key.data.toList) (by rw [Com.toList_length]; exact hk) ha hb hc hlen hf
  have HT : XmlI.Carry w (w.alloc (.cells #[.int .i64 a, .int .i64 b, .int .i64 c, .string key, .slice A ps.length cap] 126)) := XmlI.Carry.alloc ⟨ht, Below.refl _ _⟩ _
  have g1 := Xp.tag_len [75, 101, 121] (Xp.esc key.data.toList)
  have g2 := Xp.tag_len [73, 100] (Xd.idText a b c)
  simp only [List.length_cons, List.length_nil] at g1 g2
  have g3 : ¬ 9223372036854775807 < (Xp.tag [75, 101, 121] (Xp.esc key.data.toList)).length + (Xp.tag [73, 100] (Xd.idText a b c)).length := by omega
  have g4 : (Xp.tag [75, 101, 121] (Xp.esc key.data.toList) ++ Xp.tag [73, 100] (Xd.idText a b c)).length ≤ 7000000 := by rw [List.length_append]; omega
  clear g1 g2
  go_enter Tryz.func67, Tryz.ntmps67
  go_wp2_with fail
  go_region_held3 (fun w' => w'.cell? ⟨w.heap.size, 0, none⟩ = some (.int .i64 a) ∧ w'.cell? ⟨w.heap.size, 1, none⟩ = some (.int .i64 b) ∧ w'.cell? ⟨w.heap.size, 2, none⟩ = some (.int .i64 c) ∧ w'.cell? ⟨w.heap.size, 3, none⟩ = some (.string key) ∧ w'.cell? ⟨w.heap.size, 4, none⟩ = some (.slice A ps.length cap))
    (first | go_keep)
    (first
      | (go_at_call 112; refine (lift w w.heap.size (.int .i64 a) (.int .i64 b) (.int .i64 c) (.string key) (.slice A ps.length cap) _ ?_ ?_ ((XmlB.refEscape _ _ ?_).mono fun _ _ ⟨he, hb⟩ => ⟨he, hb ▸ Below.refl _ _⟩)).mono ?_; (first | assumption | exact HT | exact HT.drew); (unfold H5; simp [*]); ((try simp only [Com.size_mk]); omega); rintro e w' ⟨rfl, k0, t0⟩)
      | (go_at_call 111; refine (lift w w.heap.size (.int .i64 a) (.int .i64 b) (.int .i64 c) (.string key) (.slice A ps.length cap) _ ?_ ?_ ((XmlB.refTagS _ _ _ ?_ ?_).mono fun _ _ ⟨he, hb⟩ => ⟨he, hb ▸ Below.refl _ _⟩)).mono ?_; (first | assumption | exact HT | exact HT.drew); (unfold H5; simp [*]); (simp [Com.size_mk]); ((try simp only [Com.size_mk]); omega); rintro e w' ⟨rfl, k0, t0⟩)
      | (go_at_call 113; refine (lift w w.heap.size (.int .i64 a) (.int .i64 b) (.int .i64 c) (.string key) (.slice A ps.length cap) _ ?_ ?_ (XmlL.refId a b c _ ha hb hc ?_)).mono ?_; (first | assumption | exact HT | exact HT.drew); (unfold H5; simp [*]); (first | exact HT.1 | exact HT.drew.1 | exact t0.1); rintro e w' ⟨rfl, k0, t0⟩))
  have hz : w.heap.size + 1 ≤ w'.heap.size := World.block_lt_of_cell? w' _ k0.1
  have B1 := t0.2
  have r4 := k0.2.2.2.2
  clear k0 t0 HT g3
  rw [Com.mk_append]
  go_wp2_with fail
  generalize hkd : key.data.toList = kd at *
  have HKD := Lib.hid hkd; clear hkd
  generalize hid : Xd.idText a b c = idt at *
  have HID := Lib.hid hid; clear hid
  go_loopg [3, 18] ps.length (fun g v i wr => ∃ (k : Nat) (l : List UInt8), k + g = ps.length ∧ i = .int .i64 k ∧ v = .string ⟨l.toArray⟩ ∧ Hid (l = body kd idt (ps.take k)) ∧ l.length ≤ 7000000 + k * 12583300 ∧
    w.heap.size + 1 ≤ wr.heap.size ∧ Below w.heap.size w wr)
  case atStart =>
    exact ⟨0, _, by omega, rfl, rfl, (show Hid _ by unfold Hid body; simp [Xp.tKey, Xd.tId]), by omega, hz, B1⟩
  case round =>
    obtain ⟨k, l, hkg, rfl, rfl, HL, hll, hzr, hbl⟩ := hrel
    have HG := Lib.hid hkg
    have hkx : k ≤ ps.length := by omega
    clear hkg r4 g4
    have hsz := hbl.size
    by_cases hlt : k < ps.length
    · obtain ⟨e, hek⟩ : ∃ e, ps[k]? = some e := ⟨ps[k], List.getElem?_eq_getElem hlt⟩
      have hfe := hf e (List.mem_of_getElem? hek)
      have hsr := hs.below hbl
      rcases hsr with h | ⟨b, o, rfl, hbb, h3⟩
      · rw [h] at hlt; simp at hlt
      obtain ⟨c0, ⟨n1, c1⟩, ⟨n2, c2⟩, ⟨n3, c3⟩, c4, c5⟩ := h3 k e hek
      clear h3
      have HTK := Lib.hid (show l ++ Xd.ptDoc e = body kd idt (ps.take (k + 1)) by rw [List.take_add_one, hek, HL.out]; simp [body])
      have hbl2 := Xd.pt_len hfe
      clear hek
      obtain ⟨nu, sz, et⟩ := e
      obtain ⟨f0, ⟨f1, f2⟩, f3, f4⟩ := hfe
      simp only at c0 c4 c5 f0 f1 f2 f3 f4
      have hlb := Xp.esc_len et
      have HT : XmlI.Carry wr (wr.alloc (.cells #[.int .i64 nu, .int .i64 n1, .int .i64 n2, .int .i64 n3, .int .i64 sz, .string ⟨et.toArray⟩] 170)) := XmlI.Carry.alloc ⟨ht.below hbl, Below.refl _ _⟩ _
      have hd1 := Dec.itoa_len f1 f2
      have hd2 := Dec.itoa_len f3 f4
      have e1 := Xp.tag_len [78, 117, 109, 98, 101, 114] (Lib.itoa nu)
      have e2 := Xp.tag_len [83, 105, 122, 101] (Lib.itoa sz)
      have e3 := Xp.tag_len [69, 116, 97, 103] (Xp.esc et)
      simp only [List.length_cons, List.length_nil] at e1 e2 e3
      have s1 : ¬ 9223372036854775807 < (Xp.tag [78, 117, 109, 98, 101, 114] (Lib.itoa nu)).length + (Xp.tag [83, 105, 122, 101] (Lib.itoa sz)).length := by omega
      have s2 : ¬ 9223372036854775807 < (Xp.tag [78, 117, 109, 98, 101, 114] (Lib.itoa nu)).length + (Xp.tag [83, 105, 122, 101] (Lib.itoa sz)).length + (Xp.tag [69, 116, 97, 103] (Xp.esc et)).length := by omega
      have s4 : (Xp.tag [78, 117, 109, 98, 101, 114] (Lib.itoa nu)).length + (Xp.tag [83, 105, 122, 101] (Lib.itoa sz)).length + (Xp.tag [69, 116, 97, 103] (Xp.esc et)).length ≤ 35184372088832 := by omega
      have s3 : ¬ 9223372036854775807 < l.length + (Xd.ptDoc ⟨nu, sz, et⟩).length := by omega
      have hln : l.length + (Xd.ptDoc ⟨nu, sz, et⟩).length ≤ 7000000 + (k + 1) * 12583300 := by omega
      clear e1 e2 e3
      go_wp2_with fail
      go_region_held3 (fun w' => w'.cell? ⟨wr.heap.size, 0, none⟩ = some (.int .i64 nu) ∧ w'.cell? ⟨wr.heap.size, 4, none⟩ = some (.int .i64 sz) ∧ w'.cell? ⟨wr.heap.size, 5, none⟩ = some (.string ⟨et.toArray⟩))
        (first | go_keep)
        (first
          | (go_at_call 112; refine (XmlM.escK wr wr.heap.size 0 4 5 5 (.int .i64 nu) (.int .i64 sz) (.string ⟨et.toArray⟩) (.string ⟨et.toArray⟩) _ _ ?_ ?_ ?_ ?_ ?_ ?_).mono ?_; (simp only [Com.size_mk]; omega); (first | assumption | exact HT | exact HT.drew); (simp [*]); (simp [*]); (simp [*]); (simp [*]); rintro e w' ⟨rfl, k0, t0⟩)
          | (go_at_call 114; refine (XmlM.numK wr wr.heap.size 0 4 5 5 (.int .i64 nu) (.int .i64 sz) (.string ⟨et.toArray⟩) (.string ⟨et.toArray⟩) _ _ _ ?_ ?_ ?_ ?_ ?_ ?_ ?_ ?_).mono ?_; omega; omega; (simp [Com.size_mk]); (first | assumption | exact HT | exact HT.drew); (simp [*]); (simp [*]); (simp [*]); (simp [*]); rintro e w' ⟨rfl, k0, t0⟩)
          | (go_at_call 111; refine (XmlM.refTagK wr wr.heap.size 0 4 5 5 (.int .i64 nu) (.int .i64 sz) (.string ⟨et.toArray⟩) (.string ⟨et.toArray⟩) _ _ _ ?_ ?_ ?_ ?_ ?_ ?_ ?_).mono ?_; (simp [Com.size_mk]); (simp only [Com.size_mk, ByteArray.size_append]; omega); (first | assumption | exact HT | exact HT.drew); (simp [*]); (simp [*]); (simp [*]); (simp [*]); rintro e w' ⟨rfl, k0, t0⟩; try rw [ptv]))
      have B6 := hbl.trans (t0.2.mono hsz)
      have hz6 : w.heap.size + 1 ≤ w'.heap.size := Nat.le_trans hzr t0.2.size
      clear c0 c1 c2 c3 c4 c5 hlb hd1 hd2 HT s1 s2 s3 s4 k0 t0
      go_wp2
      go_roundg (gk - 1)
      case measure => have := HG.out; omega
      case rel =>
        exact ⟨k + 1, l ++ Xd.ptDoc ⟨nu, sz, et⟩, by have := HG.out; omega, by go_num, Com.cat rfl, HTK, by rw [List.length_append]; exact hln, hz6, B6⟩
    · have HK := Lib.hid (show ps.take k = ps by rw [List.take_of_length_le]; omega)
      have HF := Lib.hid (show Xd.docUpload kd idt ps = Xp.top ++ Xp.tag Xd.tUpload l by
        rw [Xd.docUpload, HL.out, HK.out, Xd.upBody, body, List.append_assoc])
      have hl3 := Xp.tag_len Xd.tUpload l
      have hl4 : (Xp.tag Xd.tUpload l).length ≤ 70368744177664 := by rw [hl3]; simp [Xd.tUpload]; omega
      have hl5 : l.length ≤ 35184372088832 := by omega
      clear hl3 HL
      go_wp2_with fail
      refine (XmlB.refTagS _ _ _ (by simp [Com.size_mk]) (by rw [Com.size_mk]; exact hl5)).mono ?_
      rintro e w2 ⟨rfl, rfl⟩
      rw [show Xp.tag (ByteArray.mk #[85, 112, 108, 111, 97, 100]).data.toList (ByteArray.mk l.toArray).data.toList = Xp.tag Xd.tUpload l from rfl]
      go_wp2
      go_ret
      exact ⟨by rw [HKD.out, HID.out, HF.out]; exact congrArg Ending.returned (Com.cat (a := Xp.top) rfl), hbl⟩
end Go.Proofs.YtidflagmdabfaaaGreatDoor.XmlQ
namespace Go.Proofs.YtidflagmdabfaaaGreatDoor.RtV
open Go.RowKit Go.Proofs.YtidflagmdabfaaaGreatDoor Go.Proofs.YtidflagmdabfaaaGreatDoor.HtW Go.Proofs.YtidflagmdabfaaaGreatDoor.RtA

theorem refErr (s : ByteArray) (w : World) (hs : s.size ≤ 1048576) :
    Calls Tryz.prog 106 #[.string s] w fun e w' => e = .returned (.string ⟨(Xp.docError s.data.toList).toArray⟩) ∧ Below w.heap.size w w' :=
  (XmlL.refError s w (by omega)).mono fun e w' ⟨h1, h2⟩ => ⟨h1, h2 ▸ Below.refl _ _⟩
set_option maxHeartbeats 4000000 in
set_option maxRecDepth 100000 in
theorem failed (st : Int) (cd : ByteArray) (w : World) (hs : cd.size ≤ 1048576) :
    Calls Tryz.prog 61 #[.int .i64 st, .string cd] w fun e w' => FPost st (Xp.docError cd.data.toList) w.heap.size w' e ∧ Below w.heap.size w w' := by
  have kc := fun w s => Lib.run_convert_string_bytes (P := Tryz.prog) w 9 23 5 s Tryz.underlying9 Tryz.underlying23 Tryz.underlying5
  have hb0 := (Below.refl w.heap.size w).alloc (Nat.le_refl _) (.cells #[.int .i64 0, .slice none 0 0, .slice none 0 0] 56)
  have hR0 : Rb w.heap.size (w.alloc (.cells #[.int .i64 0, .slice none 0 0, .slice none 0 0] 56)) _ _ _ := heap_alloc_new w _
  have KE := Lib.hid (refErr cd (w.alloc (.cells #[.int .i64 0, .slice none 0 0, .slice none 0 0] 56)) (by omega))
  go_enter Tryz.func61, Tryz.ntmps61
  go_wp2_with fail
  refine KE.out.mono ?_
  rintro e w1 ⟨rfl, hb1⟩
  obtain ⟨d, hd⟩ : ∃ d, d = Xp.docError cd.data.toList := ⟨_, rfl⟩
  have HD := Lib.hid hd
  rw [← hd]
  clear hd KE
  have hB1 := hb0.trans (hb1.mono hb0.size)
  have hxc := ShaJ.conv_bs w1 d
  have hxb := Lib.bytesWorld_below w1 5 ⟨d.toArray⟩
  have hB2 := hB1.trans (hxb.mono hB1.size)
  have hR2 := (hR0.below hb1).below hxb
  obtain ⟨x0, x1, x2, f0, f1, f2⟩ := hR2.cells
  go_wp2_with fail
  have hlt : w.heap.size < w1.heap.size := by have := hb1.size; rw [World.size_alloc] at this; omega
  refine bodyPost_ret (Rb.run 4 (hR2.put _ _ _) rfl rfl) rfl ⟨?_, below_st3 hB2 (Nat.le_refl _) _ _ _⟩
  rw [← HD.out]
  exact ⟨_, _, rfl, bs_far hxc (by rintro p hp; cases hp; simp; omega) _ _ _, by rintro p hp; cases hp; simp; omega⟩
end Go.Proofs.YtidflagmdabfaaaGreatDoor.RtV
