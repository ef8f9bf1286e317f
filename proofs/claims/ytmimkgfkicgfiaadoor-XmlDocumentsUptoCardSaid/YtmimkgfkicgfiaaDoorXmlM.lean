/-
  The walks of package xml's Buckets and of the reference's.
-/
import Derived.Test.YtmimkgfkicgfiaaDoorXmlL
namespace Go.Proofs.YtmimkgfkicgfiaaDoor.XmlM
open Go.RowKit Go.Proofs.YtmimkgfkicgfiaaDoor Go.Proofs.YtmimkgfkicgfiaaDoor.XmlI

/-- four cells of one block -/
def H4 (g o0 o1 o2 o3 : Nat) (v0 v1 v2 v3 : Value) (w : World) : Prop :=
  w.cell? ⟨g, o0, none⟩ = some v0 ∧ w.cell? ⟨g, o1, none⟩ = some v1 ∧ w.cell? ⟨g, o2, none⟩ = some v2 ∧ w.cell? ⟨g, o3, none⟩ = some v3
theorem H4.below {g o0 o1 o2 o3 : Nat} {v0 v1 v2 v3 : Value} {w w' : World} (h : H4 g o0 o1 o2 o3 v0 v1 v2 v3 w) (hb : Below w.heap.size w w') : H4 g o0 o1 o2 o3 v0 v1 v2 v3 w' :=
  have hg := World.block_lt_of_cell? w _ h.1
  ⟨(hb.cell (p := ⟨g, o0, none⟩) hg).trans h.1, (hb.cell (p := ⟨g, o1, none⟩) hg).trans h.2.1, (hb.cell (p := ⟨g, o2, none⟩) hg).trans h.2.2.1, (hb.cell (p := ⟨g, o3, none⟩) hg).trans h.2.2.2⟩

section
variable (w0 : World) (g o0 o1 o2 o3 : Nat) (v0 v1 v2 v3 : Value) (w : World)
theorem textK (name s : ByteArray) (hn : name.size ≤ 4194304) (hs : s.size ≤ 4194304) (ht : Carry w0 w) (h0 : w.cell? ⟨g, o0, none⟩ = some v0) (h1 : w.cell? ⟨g, o1, none⟩ = some v1) (h2 : w.cell? ⟨g, o2, none⟩ = some v2) (h3 : w.cell? ⟨g, o3, none⟩ = some v3) :
    Calls Tryd.prog 67 #[.string name, .string s] w fun e w' => e = .returned (.string ⟨(Xp.tag name.data.toList (Xp.esc s.data.toList)).toArray⟩) ∧ (w'.cell? ⟨g, o0, none⟩ = some v0 ∧ w'.cell? ⟨g, o1, none⟩ = some v1 ∧ w'.cell? ⟨g, o2, none⟩ = some v2 ∧ w'.cell? ⟨g, o3, none⟩ = some v3) ∧ Carry w0 w' :=
  (XmlC.text name s w hn hs).mono fun _ _ ⟨he, hb⟩ => ⟨he, H4.below ⟨h0, h1, h2, h3⟩ hb, ht.below hb⟩
theorem numberK (name : ByteArray) (n : Int) (i0 : -9223372036854775808 ≤ n) (i1 : n ≤ 9223372036854775807) (hn : name.size ≤ 4194304) (ht : Carry w0 w) (h0 : w.cell? ⟨g, o0, none⟩ = some v0) (h1 : w.cell? ⟨g, o1, none⟩ = some v1) (h2 : w.cell? ⟨g, o2, none⟩ = some v2) (h3 : w.cell? ⟨g, o3, none⟩ = some v3) :
    Calls Tryd.prog 69 #[.string name, .int .i64 n] w fun e w' => e = .returned (.string ⟨(Xp.tag name.data.toList (Lib.itoa n)).toArray⟩) ∧ (w'.cell? ⟨g, o0, none⟩ = some v0 ∧ w'.cell? ⟨g, o1, none⟩ = some v1 ∧ w'.cell? ⟨g, o2, none⟩ = some v2 ∧ w'.cell? ⟨g, o3, none⟩ = some v3) ∧ Carry w0 w' :=
  (XmlH.number name n i0 i1 w hn ht.1).mono fun _ _ ⟨he, hb⟩ => ⟨he, H4.below ⟨h0, h1, h2, h3⟩ hb, ht.below hb⟩
theorem numK (name : ByteArray) (n : Int) (i0 : -9223372036854775808 ≤ n) (i1 : n ≤ 9223372036854775807) (hn : name.size ≤ 4194304) (ht : Carry w0 w) (h0 : w.cell? ⟨g, o0, none⟩ = some v0) (h1 : w.cell? ⟨g, o1, none⟩ = some v1) (h2 : w.cell? ⟨g, o2, none⟩ = some v2) (h3 : w.cell? ⟨g, o3, none⟩ = some v3) :
    Calls Tryd.prog 71 #[.string name, .int .i64 n] w fun e w' => e = .returned (.string ⟨(Xp.tag name.data.toList (Lib.itoa n)).toArray⟩) ∧ (w'.cell? ⟨g, o0, none⟩ = some v0 ∧ w'.cell? ⟨g, o1, none⟩ = some v1 ∧ w'.cell? ⟨g, o2, none⟩ = some v2 ∧ w'.cell? ⟨g, o3, none⟩ = some v3) ∧ Carry w0 w' :=
  (XmlK.num name n i0 i1 w hn).mono fun _ _ ⟨he, hb⟩ => ⟨he, H4.below ⟨h0, h1, h2, h3⟩ hb, ht.below hb⟩
theorem escK (s : ByteArray) (hs : s.size ≤ 4194304) (ht : Carry w0 w) (h0 : w.cell? ⟨g, o0, none⟩ = some v0) (h1 : w.cell? ⟨g, o1, none⟩ = some v1) (h2 : w.cell? ⟨g, o2, none⟩ = some v2) (h3 : w.cell? ⟨g, o3, none⟩ = some v3) :
    Calls Tryd.prog 23 #[.string s] w fun e w' => e = .returned (.string ⟨(Xp.esc s.data.toList).toArray⟩) ∧ (w'.cell? ⟨g, o0, none⟩ = some v0 ∧ w'.cell? ⟨g, o1, none⟩ = some v1 ∧ w'.cell? ⟨g, o2, none⟩ = some v2 ∧ w'.cell? ⟨g, o3, none⟩ = some v3) ∧ Carry w0 w' :=
  (XmlB.refEscape s w hs).mono fun _ _ ⟨he, hb⟩ => by subst hb; exact ⟨he, ⟨h0, h1, h2, h3⟩, ht⟩
theorem refTagK (name s : ByteArray) (hn : name.size ≤ 4194304) (hs : s.size ≤ 35184372088832) (ht : Carry w0 w) (h0 : w.cell? ⟨g, o0, none⟩ = some v0) (h1 : w.cell? ⟨g, o1, none⟩ = some v1) (h2 : w.cell? ⟨g, o2, none⟩ = some v2) (h3 : w.cell? ⟨g, o3, none⟩ = some v3) :
    Calls Tryd.prog 70 #[.string name, .string s] w fun e w' => e = .returned (.string ⟨(Xp.tag name.data.toList s.data.toList).toArray⟩) ∧ (w'.cell? ⟨g, o0, none⟩ = some v0 ∧ w'.cell? ⟨g, o1, none⟩ = some v1 ∧ w'.cell? ⟨g, o2, none⟩ = some v2 ∧ w'.cell? ⟨g, o3, none⟩ = some v3) ∧ Carry w0 w' :=
  (XmlB.refTagS name s w (by omega) hs).mono fun _ _ ⟨he, hb⟩ => by subst hb; exact ⟨he, ⟨h0, h1, h2, h3⟩, ht⟩
theorem strs_new3 (w : World) (x0 x1 x2 : ByteArray) (t : TypeId) : Com.Strs (w.alloc (.cells #[.string x0, .string x1, .string x2] t)) (some ⟨w.heap.size, 0, none⟩) [x0, x1, x2] := by
  refine .inr ⟨_, _, rfl, by simp, fun j y hy => ?_⟩
  match j, hy with
  | 0, hy => simp at hy; subst hy; simp
  | 1, hy => simp at hy; subst hy; simp
  | 2, hy => simp at hy; subst hy; simp
theorem tagK (name : ByteArray) (x0 x1 x2 : ByteArray) (t : TypeId) (hn : name.size ≤ 4194304) (hx : x0.size + x1.size + x2.size ≤ 35184372088832) (ht : Carry w0 w) (h0 : w.cell? ⟨g, o0, none⟩ = some v0) (h1 : w.cell? ⟨g, o1, none⟩ = some v1) (h2 : w.cell? ⟨g, o2, none⟩ = some v2) (h3 : w.cell? ⟨g, o3, none⟩ = some v3) :
    Calls Tryd.prog 68 #[.string name, .slice (some ⟨w.heap.size, 0, none⟩) 3 3] (w.alloc (.cells #[.string x0, .string x1, .string x2] t)) fun e w' => e = .returned (.string ⟨(Xp.tag name.data.toList (x0.data.toList ++ (x1.data.toList ++ x2.data.toList))).toArray⟩) ∧ (w'.cell? ⟨g, o0, none⟩ = some v0 ∧ w'.cell? ⟨g, o1, none⟩ = some v1 ∧ w'.cell? ⟨g, o2, none⟩ = some v2 ∧ w'.cell? ⟨g, o3, none⟩ = some v3) ∧ Carry w0 w' := by
  have hfl : Com.flat [x0, x1, x2] = x0.data.toList ++ (x1.data.toList ++ x2.data.toList) := by simp [Com.flat]
  have hfs : (Com.flat [x0, x1, x2]).length = x0.size + x1.size + x2.size := by rw [hfl]; simp only [List.length_append, Com.toList_length]; omega
  have R : Below w.heap.size w (w.alloc (.cells #[.string x0, .string x1, .string x2] t)) := (Below.refl _ _).alloc (Nat.le_refl _) _
  refine (XmlC.tag name _ 3 [x0, x1, x2] _ (by omega) (by omega) (by simp) (by simp) (strs_new3 w x0 x1 x2 t)).mono fun _ _ ⟨he, hb⟩ => ⟨by rw [he, hfl], H4.below ⟨h0, h1, h2, h3⟩ (R.trans (hb.mono R.size)), (ht.alloc _).below hb⟩
end

/-- buckets in memory -/
def Bks (w : World) (a : Option Addr) (bs : List Xd.Bk) : Prop :=
  bs = [] ∨ ∃ b o, a = some ⟨b, o, none⟩ ∧ b < w.heap.size ∧ ∀ j e, bs[j]? = some e →
    w.cell? ⟨b, o + j * 5, none⟩ = some (.string ⟨e.name.toArray⟩) ∧ w.cell? ⟨b, o + j * 5 + 1, none⟩ = some (.int .i64 e.time) ∧ w.cell? ⟨b, o + j * 5 + 2, none⟩ = some (.int .i64 e.days) ∧
    (∃ a3 l3 c3, w.cell? ⟨b, o + j * 5 + 3, none⟩ = some (.slice a3 l3 c3)) ∧ ∃ a4 l4 c4, w.cell? ⟨b, o + j * 5 + 4, none⟩ = some (.slice a4 l4 c4)
theorem Bks.below {w w' : World} {a : Option Addr} {bs : List Xd.Bk} (h : Bks w a bs) (hb : Below w.heap.size w w') : Bks w' a bs := by
  rcases h with h | ⟨b, o, h1, h2, h3⟩
  · exact .inl h
  · refine .inr ⟨b, o, h1, Nat.lt_of_lt_of_le h2 hb.size, fun j e he => ?_⟩
    obtain ⟨c0, c1, c2, ⟨a3, l3, d3, c3⟩, a4, l4, d4, c4⟩ := h3 j e he
    exact ⟨(hb.cell (p := ⟨b, _, none⟩) h2).trans c0, (hb.cell (p := ⟨b, _, none⟩) h2).trans c1, (hb.cell (p := ⟨b, _, none⟩) h2).trans c2, ⟨a3, l3, d3, (hb.cell (p := ⟨b, _, none⟩) h2).trans c3⟩, a4, l4, d4, (hb.cell (p := ⟨b, _, none⟩) h2).trans c4⟩

def parts (bs : List Xd.Bk) : List ByteArray := bs.map fun e => ⟨(Xd.bkDoc e).toArray⟩
theorem flat_parts (bs : List Xd.Bk) : Com.flat (parts bs) = (bs.map Xd.bkDoc).flatten := by
  simp only [parts, Com.flat, List.map_map]
  congr 1

set_option maxHeartbeats 4000000 in
set_option maxRecDepth 100000 in
theorem buckets (a : Option Addr) (c : Nat) (bs : List Xd.Bk) (fa : Option Addr) (fl fc : Nat) (w : World) (hlen : bs.length ≤ 1048576) (hf : ∀ b ∈ bs, Xd.BkFits b) (ht : XmlH.Tab w) (hs : Bks w a bs) :
    Calls Tryd.prog 24 #[.agg #[.slice a bs.length c, .slice fa fl fc]] w fun e w' => e = .returned (.string ⟨(Xd.docBuckets bs).toArray⟩) ∧ Below w.heap.size w w' := by
  obtain ⟨i0, hi, hz0, hz1, hz2⟩ := info_parts infoString
  go_enter Tryd.func24, Tryd.ntmps24
  go_wp2_with fail
  go_loopg [3, 9] bs.length (fun g v i wr => ∃ k : Nat, k + g = bs.length ∧ i = .int .i64 k ∧ wr.ownsRow (w.heap.size + 1) 9 1 v (parts (bs.take k)).length ((parts (bs.take k)).map Value.string) ∧
    w.heap.size + 1 ≤ wr.heap.size ∧ Below w.heap.size w wr)
  case atStart =>
    exact ⟨0, by omega, rfl, World.ownsRow_nil _ _ _ _, by simp, (Below.refl _ w).alloc (Nat.le_refl _) _⟩
  case round =>
    obtain ⟨k, hkg, rfl, hown, hzr, hb⟩ := hrel
    have HG := Lib.hid hkg
    have hkx : k ≤ bs.length := by omega
    clear hkg
    have hsz := hb.size
    by_cases hlt : k < bs.length
    · obtain ⟨e, hek⟩ : ∃ e, bs[k]? = some e := ⟨bs[k], List.getElem?_eq_getElem hlt⟩
      have hfe := hf e (List.mem_of_getElem? hek)
      have hsr := hs.below hb
      rcases hsr with h | ⟨b, o, rfl, hbb, h3⟩
      · rw [h] at hlt; simp at hlt
      obtain ⟨c0, c1, c2, ⟨a3, l3, d3, c3⟩, a4, l4, d4, c4⟩ := h3 k e hek
      clear h3
      have HTK := Lib.hid (show parts (bs.take (k + 1)) = parts (bs.take k) ++ [⟨(Xd.bkDoc e).toArray⟩] by rw [List.take_add_one, hek]; simp [parts])
      have hle : (parts (bs.take k)).length ≤ 1048576 := by simp [parts]; omega
      generalize hps : parts (bs.take k) = ps at *
      have HPS := Lib.hid hps; clear hps hek
      obtain ⟨nm, tm, dy⟩ := e
      obtain ⟨f0, ⟨f1, f2⟩, f3, f4⟩ := hfe
      simp only at c0 c1 c2 f0 f1 f2 f3 f4
      have hlb := Xp.esc_len nm
      have HT : Carry wr (wr.alloc (.cells #[.string ⟨nm.toArray⟩, .int .i64 tm, .int .i64 dy, .slice a3 l3 d3, .slice a4 l4 d4] 121)) := Carry.alloc ⟨ht.below hb, Below.refl _ _⟩ _
      have hne : u3.ownBlock ≠ some wr.heap.size := fun h => by have := (hown.lt _ h).2; omega
      have hd1 := Dec.itoa_len f1 f2
      have hd2 := Dec.itoa_len f3 f4
      go_wp2_with fail
      go_region_held3 (fun w' => w'.cell? ⟨wr.heap.size, 0, none⟩ = some (.string ⟨nm.toArray⟩) ∧ w'.cell? ⟨wr.heap.size, 1, none⟩ = some (.int .i64 tm) ∧ w'.cell? ⟨wr.heap.size, 2, none⟩ = some (.int .i64 dy))
        (first | go_keep | (go_split_ands; refine ⟨?_, ?_, ?_⟩ <;> (rw [hg7.cell_far _ (by have := t6.2.size; simp; omega) (fun h => hne h.symm)]; simp [*])))
        (first
          | (go_at_call 67; refine (textK wr wr.heap.size 0 1 2 2 (.string ⟨nm.toArray⟩) (.int .i64 tm) (.int .i64 dy) (.int .i64 dy) _ _ _ ?_ ?_ ?_ ?_ ?_ ?_ ?_).mono ?_; (simp [Com.size_mk]); (simp only [Com.size_mk]; omega); (first | assumption | exact HT | exact HT.drew); (simp [*]); (simp [*]); (simp [*]); (simp [*]); rintro e w' ⟨rfl, k0, t0⟩)
          | (go_at_call 69; refine (numberK wr wr.heap.size 0 1 2 2 (.string ⟨nm.toArray⟩) (.int .i64 tm) (.int .i64 dy) (.int .i64 dy) _ _ _ ?_ ?_ ?_ ?_ ?_ ?_ ?_ ?_).mono ?_; omega; omega; (simp [Com.size_mk]); (first | assumption | exact HT | exact HT.drew); (simp [*]); (simp [*]); (simp [*]); (simp [*]); rintro e w' ⟨rfl, k0, t0⟩)
          | (go_at_call 68; refine (tagK wr wr.heap.size 0 1 2 2 (.string ⟨nm.toArray⟩) (.int .i64 tm) (.int .i64 dy) (.int .i64 dy) _ _ _ _ _ _ ?_ ?_ ?_ ?_ ?_ ?_ ?_).mono ?_; (simp [Com.size_mk]); (simp only [Com.size_mk, Xp.tag_len]; simp; omega); assumption; (simp [*]); (simp [*]); (simp [*]); (simp [*]); rintro e w6 ⟨rfl, k0, t6⟩)
          | (refine step_append_lies _ (by rfl) (.tmp 13) (.tmp 25) _ (by rfl) (w.heap.size + 1) 9 i0 _ 1 16 Tryd.underlying95 hi hz0 hz1 hz2 rfl (by omega) u3 ps.length (ps.map Value.string) (by rfl) ((Com.own_below hown t6.2).alloc _) ⟨w6.heap.size, 0, none⟩ 1 1 [.string ⟨(Xd.bkDoc ⟨nm, tm, dy⟩).toArray⟩] (by rfl) (by rfl) (Com.cells_new _ _ _) (by intro u hu; simp at hu; subst hu; rfl) (by omega) (by unfold maxLen; omega) (by omega) (by have := t6.2.size; simp; omega) (w6.heap.size + 1) (by simp) ?_; intro gg cap w7 hown7 hg7 hat hlt7))
      have B6 := hb.trans (t6.2.mono hsz)
      have hown6 := Com.own_below hown t6.2
      have hz6 : w.heap.size + 1 ≤ w6.heap.size := Nat.le_trans hzr t6.2.size
      have hz7 : w.heap.size + 1 ≤ w7.heap.size := by have := hg7.size; simp at this; omega
      have B7 : Below w.heap.size w w7 := (B6.alloc B6.size _).grown hg7 (by simp; omega) (fun j hj => by have := (hown6.lt j hj).1; omega)
      clear hown hown6 hg7 c0 c1 c2 c3 c4 hlb hd1 hd2 k0 HT B6 t6 hat
      go_wp2
      go_roundg (gk - 1)
      case measure => have := HG.out; omega
      case rel =>
        refine ⟨k + 1, by have := HG.out; omega, by go_num, ?_, hz7, B7⟩
        rw [HTK.out]
        simpa using hown7
    · have HK := Lib.hid (show bs.take k = bs by rw [List.take_of_length_le]; omega)
      have hpl := Xd.bks_len hf
      have hfl : (Com.flat (parts bs)).length ≤ 20000000000000 := by
        rw [flat_parts]
        omega
      have hpn : (parts bs).length ≤ 1048577 := by simp [parts]; omega
      rw [HK.out] at hown
      clear hpl
      have HF := Lib.hid (show Xd.docBuckets bs = Xp.top ++ Xp.tag Xd.tBuckets (Com.flat (parts bs)) by
        rw [Xd.docBuckets, flat_parts])
      obtain ⟨A, cA, rfl, hcA, hsA⟩ := Com.strs_of_own hown
      generalize parts bs = ps at *
      clear hown
      go_wp2_with fail
      refine (XmlC.tag _ A cA ps _ (by simp [Com.size_mk]) (by omega) (by omega) hcA hsA).mono ?_
      rintro e w2 ⟨rfl, b2⟩
      rw [show Xp.tag (ByteArray.mk #[66, 117, 99, 107, 101, 116, 115]).data.toList (Com.flat ps) = Xp.tag Xd.tBuckets (Com.flat ps) from rfl]
      have hll := Xp.tag_len Xd.tBuckets (Com.flat ps)
      have hl3 : (Xp.tag Xd.tBuckets (Com.flat ps)).length ≤ 70368744177664 := by rw [hll]; simp [Xd.tBuckets]; omega
      clear hll
      go_wp2
      go_ret
      exact ⟨by rw [HF.out]; exact congrArg Ending.returned (Com.cat (a := Xp.top) rfl), hb.trans (b2.mono hsz)⟩
end Go.Proofs.YtmimkgfkicgfiaaDoor.XmlM
