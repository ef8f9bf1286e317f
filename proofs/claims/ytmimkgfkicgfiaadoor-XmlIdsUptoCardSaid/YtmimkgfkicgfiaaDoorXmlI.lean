/-
  The walk of package xml's List.
-/
import Derived.Test.YtmimkgfkicgfiaaDoorXmlH
import Derived.Deep.RegionHeld3
import Derived.Deep.AppendLies
namespace Go.Proofs.YtmimkgfkicgfiaaDoor.XmlI
open Go.RowKit Go.Proofs.YtmimkgfkicgfiaaDoor

theorem infoString : (Tryd.prog.info? 9).map (fun i => (i.zero, i.size, i.bytes)) = some (some (.string ⟨#[]⟩), 1, 16) := by kernel_rfl

/-- a page's entries in memory -/
def Ents (w : World) (a : Option Addr) (es : List Xp.Ent) : Prop :=
  es = [] ∨ ∃ b o, a = some ⟨b, o, none⟩ ∧ b < w.heap.size ∧ ∀ j e, es[j]? = some e →
    w.cell? ⟨b, o + j * 5, none⟩ = some (.string ⟨e.name.toArray⟩) ∧ w.cell? ⟨b, o + j * 5 + 1, none⟩ = some (.bool e.pre) ∧ w.cell? ⟨b, o + j * 5 + 2, none⟩ = some (.int .i64 e.size) ∧
    w.cell? ⟨b, o + j * 5 + 3, none⟩ = some (.string ⟨e.etag.toArray⟩) ∧ w.cell? ⟨b, o + j * 5 + 4, none⟩ = some (.int .i64 e.time)
theorem Ents.below {w w' : World} {a : Option Addr} {es : List Xp.Ent} (h : Ents w a es) (hb : Below w.heap.size w w') : Ents w' a es := by
  rcases h with h | ⟨b, o, h1, h2, h3⟩
  · exact .inl h
  · refine .inr ⟨b, o, h1, Nat.lt_of_lt_of_le h2 hb.size, fun j e he => ?_⟩
    obtain ⟨c0, c1, c2, c3, c4⟩ := h3 j e he
    exact ⟨(hb.cell (p := ⟨b, _, none⟩) h2).trans c0, (hb.cell (p := ⟨b, _, none⟩) h2).trans c1, (hb.cell (p := ⟨b, _, none⟩) h2).trans c2, (hb.cell (p := ⟨b, _, none⟩) h2).trans c3, (hb.cell (p := ⟨b, _, none⟩) h2).trans c4⟩
/-- the entries fit -/
def Fits (es : List Xp.Ent) : Prop := ∀ e ∈ es, e.name.length ≤ 1048576 ∧ e.etag.length ≤ 1048576 ∧ -9223372036854775808 ≤ e.size ∧ e.size ≤ 9223372036854775807 ∧ -9223372036854775808 ≤ e.time ∧ e.time ≤ 9223372036854775807

/-- the texts of a page's list, as strings -/
def parts (bucket : List UInt8) (es : List Xp.Ent) : List ByteArray := ⟨(Xp.tag Xp.tBucket (Xp.esc bucket)).toArray⟩ :: es.map fun e => ⟨(Xp.entDoc Lib.itoa e).toArray⟩
theorem parts_length (bucket : List UInt8) (es : List Xp.Ent) : (parts bucket es).length = es.length + 1 := by simp [parts]
theorem parts_snoc (bucket : List UInt8) (es : List Xp.Ent) (e : Xp.Ent) : parts bucket (es ++ [e]) = parts bucket es ++ [⟨(Xp.entDoc Lib.itoa e).toArray⟩] := by simp [parts]

/-- what an append to the list leaves -/
theorem step {w w3 w4 : World} {x : Obj} {v : Value} {n : Nat} {xs : List Value} {u0 u1 : Value} (B3 : Below w.heap.size w w3) (hown3 : w3.ownsRow (w.heap.size + 1) 9 1 v n xs) (hz3 : w.heap.size + 1 ≤ w3.heap.size)
    (s0 : w3.cell? ⟨w.heap.size, 0, none⟩ = some u0) (s1 : w3.cell? ⟨w.heap.size, 1, none⟩ = some u1) (hg4 : (w3.alloc x).grownBy w4 v.ownBlock) :
    w4.cell? ⟨w.heap.size, 0, none⟩ = some u0 ∧ w4.cell? ⟨w.heap.size, 1, none⟩ = some u1 ∧ w.heap.size + 1 ≤ w4.heap.size ∧ Below w.heap.size w w4 := by
  have G0 : ∀ i, w4.cell? ⟨w.heap.size, i, none⟩ = w3.cell? ⟨w.heap.size, i, none⟩ := fun i => by
    rw [hg4.cell_far _ (by simp; omega) (fun h => by have := (hown3.lt _ h.symm).1; simp only at this; omega)]
    exact World.cell?_alloc_lt _ _ _ (by simp; omega)
  exact ⟨(G0 0).trans s0, (G0 1).trans s1, by have := hg4.size; simp at this; omega, (B3.alloc B3.size _).grown hg4 (by simp; omega) (fun j hj => by have := (hown3.lt j hj).1; omega)⟩

/-- the cells of the entry that a round looks at -/
def Held (g : Nat) (v0 v2 v3 v4 : Value) (w : World) : Prop :=
  g < w.heap.size ∧ w.cell? ⟨g, 0, none⟩ = some v0 ∧ w.cell? ⟨g, 2, none⟩ = some v2 ∧ w.cell? ⟨g, 3, none⟩ = some v3 ∧ w.cell? ⟨g, 4, none⟩ = some v4
theorem Held.below {g : Nat} {v0 v2 v3 v4 : Value} {w w' : World} (h : Held g v0 v2 v3 v4 w) (hb : Below w.heap.size w w') : Held g v0 v2 v3 v4 w' :=
  ⟨Nat.lt_of_lt_of_le h.1 hb.size, (hb.cell (p := ⟨g, 0, none⟩) h.1).trans h.2.1, (hb.cell (p := ⟨g, 2, none⟩) h.1).trans h.2.2.1, (hb.cell (p := ⟨g, 3, none⟩) h.1).trans h.2.2.2.1, (hb.cell (p := ⟨g, 4, none⟩) h.1).trans h.2.2.2.2⟩

/-- what is carried over the calls of a region: the table, and that nothing that lay in w0 has turned -/
def Carry (w0 w : World) : Prop := XmlH.Tab w ∧ Below w0.heap.size w0 w
theorem Carry.alloc {w0 w : World} (h : Carry w0 w) (o : Obj) : Carry w0 (w.alloc o) :=
  ⟨h.1.below ((Below.refl _ _).alloc (Nat.le_refl _) _), h.2.alloc h.2.size _⟩
theorem Carry.below {w0 w w' : World} (h : Carry w0 w) (hb : Below w.heap.size w w') : Carry w0 w' := ⟨h.1.below hb, h.2.trans (hb.mono h.2.size)⟩

theorem Carry.drew {w0 w : World} (h : Carry w0 w) : Carry w0 w.drew := ⟨h.1, h.2.drew⟩

theorem textK (name s : ByteArray) (w0 : World) (g : Nat) (v0 v2 v3 v4 : Value) (w : World) (hn : name.size ≤ 4194304) (hs : s.size ≤ 4194304) (ht : Carry w0 w) (h0 : w.cell? ⟨g, 0, none⟩ = some v0) (h2 : w.cell? ⟨g, 2, none⟩ = some v2) (h3 : w.cell? ⟨g, 3, none⟩ = some v3) (h4 : w.cell? ⟨g, 4, none⟩ = some v4) :
    Calls Tryd.prog 67 #[.string name, .string s] w fun e w' => e = .returned (.string ⟨(Xp.tag name.data.toList (Xp.esc s.data.toList)).toArray⟩) ∧ (w'.cell? ⟨g, 0, none⟩ = some v0 ∧ w'.cell? ⟨g, 2, none⟩ = some v2 ∧ w'.cell? ⟨g, 3, none⟩ = some v3 ∧ w'.cell? ⟨g, 4, none⟩ = some v4) ∧ Carry w0 w' :=
  (XmlC.text name s w hn hs).mono fun _ _ ⟨he, hb⟩ => ⟨he, (Held.below ⟨World.block_lt_of_cell? w _ h0, h0, h2, h3, h4⟩ hb).2, ht.below hb⟩
theorem numberK (name : ByteArray) (n : Int) (w0 : World) (g : Nat) (v0 v2 v3 v4 : Value) (w : World) (i0 : -9223372036854775808 ≤ n) (i1 : n ≤ 9223372036854775807) (hn : name.size ≤ 4194304) (ht : Carry w0 w) (h0 : w.cell? ⟨g, 0, none⟩ = some v0) (h2 : w.cell? ⟨g, 2, none⟩ = some v2) (h3 : w.cell? ⟨g, 3, none⟩ = some v3) (h4 : w.cell? ⟨g, 4, none⟩ = some v4) :
    Calls Tryd.prog 69 #[.string name, .int .i64 n] w fun e w' => e = .returned (.string ⟨(Xp.tag name.data.toList (Lib.itoa n)).toArray⟩) ∧ (w'.cell? ⟨g, 0, none⟩ = some v0 ∧ w'.cell? ⟨g, 2, none⟩ = some v2 ∧ w'.cell? ⟨g, 3, none⟩ = some v3 ∧ w'.cell? ⟨g, 4, none⟩ = some v4) ∧ Carry w0 w' :=
  (XmlH.number name n i0 i1 w hn ht.1).mono fun _ _ ⟨he, hb⟩ => ⟨he, (Held.below ⟨World.block_lt_of_cell? w _ h0, h0, h2, h3, h4⟩ hb).2, ht.below hb⟩
theorem strs_new4 (w : World) (x0 x1 x2 x3 : ByteArray) (t : TypeId) : Com.Strs (w.alloc (.cells #[.string x0, .string x1, .string x2, .string x3] t)) (some ⟨w.heap.size, 0, none⟩) [x0, x1, x2, x3] := by
  refine .inr ⟨_, _, rfl, by simp, fun j y hy => ?_⟩
  match j, hy with
  | 0, hy => simp at hy; subst hy; simp
  | 1, hy => simp at hy; subst hy; simp
  | 2, hy => simp at hy; subst hy; simp
  | 3, hy => simp at hy; subst hy; simp
theorem tagK (name : ByteArray) (x0 x1 x2 x3 : ByteArray) (w0 : World) (g : Nat) (v0 v2 v3 v4 : Value) (w : World) (t : TypeId) (hn : name.size ≤ 4194304) (hx : x0.size + x1.size + x2.size + x3.size ≤ 35184372088832) (ht : Carry w0 w) (h0 : w.cell? ⟨g, 0, none⟩ = some v0) (h2 : w.cell? ⟨g, 2, none⟩ = some v2) (h3 : w.cell? ⟨g, 3, none⟩ = some v3) (h4 : w.cell? ⟨g, 4, none⟩ = some v4) :
    Calls Tryd.prog 68 #[.string name, .slice (some ⟨w.heap.size, 0, none⟩) 4 4] (w.alloc (.cells #[.string x0, .string x1, .string x2, .string x3] t)) fun e w' => e = .returned (.string ⟨(Xp.tag name.data.toList (x0.data.toList ++ (x1.data.toList ++ (x2.data.toList ++ x3.data.toList)))).toArray⟩) ∧ (w'.cell? ⟨g, 0, none⟩ = some v0 ∧ w'.cell? ⟨g, 2, none⟩ = some v2 ∧ w'.cell? ⟨g, 3, none⟩ = some v3 ∧ w'.cell? ⟨g, 4, none⟩ = some v4) ∧ Carry w0 w' := by
  have hfl : Com.flat [x0, x1, x2, x3] = x0.data.toList ++ (x1.data.toList ++ (x2.data.toList ++ x3.data.toList)) := by simp [Com.flat]
  have hfs : (Com.flat [x0, x1, x2, x3]).length = x0.size + x1.size + x2.size + x3.size := by rw [hfl]; simp only [List.length_append, Com.toList_length]; omega
  have hg := World.block_lt_of_cell? w _ h0
  have R : Below w.heap.size w (w.alloc (.cells #[.string x0, .string x1, .string x2, .string x3] t)) := (Below.refl _ _).alloc (Nat.le_refl _) _
  refine (XmlC.tag name _ 4 [x0, x1, x2, x3] _ (by omega) (by omega) (by simp) (by simp) (strs_new4 w x0 x1 x2 x3 t)).mono fun _ _ ⟨he, hb⟩ => ⟨by rw [he, hfl], (Held.below ⟨World.block_lt_of_cell? w _ h0, h0, h2, h3, h4⟩ (R.trans (hb.mono R.size))).2, (ht.alloc _).below hb⟩

theorem flat_parts (bucket : List UInt8) (es : List Xp.Ent) : Com.flat (parts bucket es) = Xp.tag Xp.tBucket (Xp.esc bucket) ++ (es.map (Xp.entDoc Lib.itoa)).flatten := by
  simp only [parts, Com.flat, List.map_cons, List.flatten_cons, List.map_map]
  congr 2
theorem ent_len {e : Xp.Ent} (h : e.name.length ≤ 1048576 ∧ e.etag.length ≤ 1048576 ∧ -9223372036854775808 ≤ e.size ∧ e.size ≤ 9223372036854775807 ∧ -9223372036854775808 ≤ e.time ∧ e.time ≤ 9223372036854775807) : (Xp.entDoc Lib.itoa e).length ≤ 12583300 := by
  have h1 := Xp.esc_len e.name
  have h2 := Xp.esc_len e.etag
  have h3 := Dec.itoa_len h.2.2.1 h.2.2.2.1
  have h4 := Dec.itoa_len h.2.2.2.2.1 h.2.2.2.2.2
  unfold Xp.entDoc
  split
  · simp only [Xp.tag_len, Xp.tPrefix, Xp.tName, List.length_cons, List.length_nil]; omega
  · simp only [Xp.entKey, Xp.tag_len, Xp.tKey, Xp.tName, Xp.tSize, Xp.tEtag, Xp.tTime, List.length_append, List.length_cons, List.length_nil]; omega
theorem parts_len {bucket : List UInt8} : ∀ {es : List Xp.Ent}, Fits es → ((es.map (Xp.entDoc Lib.itoa)).flatten).length ≤ es.length * 12583300
  | [], _ => by simp
  | e :: es, h => by
    have h1 := ent_len (h e List.mem_cons_self)
    have h2 := parts_len (bucket := bucket) (es := es) (fun x hx => h x (List.mem_cons_of_mem _ hx))
    simp only [List.map_cons, List.flatten_cons, List.length_append, List.length_cons]
    omega

set_option maxHeartbeats 4000000 in
set_option maxRecDepth 100000 in
theorem list (bucket next : ByteArray) (a : Option Addr) (c : Nat) (es : List Xp.Ent) (w : World) (hbk : bucket.size ≤ 1048576) (hnx : next.size ≤ 1048576) (hlen : es.length ≤ 1048576) (hf : Fits es) (ht : XmlH.Tab w) (hs : Ents w a es) :
    Calls Tryd.prog 22 #[.string bucket, .agg #[.slice a es.length c, .string next]] w fun e w' => e = .returned (.string ⟨(Xp.docList Lib.itoa bucket.data.toList es next.data.toList).toArray⟩) ∧ Below w.heap.size w w' := by
  obtain ⟨i0, hi, hz0, hz1, hz2⟩ := info_parts infoString
  go_enter Tryd.func22, Tryd.ntmps22
  go_wp2_with fail
  refine (XmlC.text _ bucket _ (by simp [Com.size_mk]) (by omega)).mono ?_
  rintro e w1 ⟨rfl, b1⟩
  have hz : w.heap.size + 1 ≤ w1.heap.size := by have := b1.size; simpa using this
  have p0 : w1.cell? ⟨w.heap.size, 0, none⟩ = some (.slice a es.length c) := (b1.cell (p := ⟨w.heap.size, 0, none⟩) (by simp)).trans (by simp)
  have p1 : w1.cell? ⟨w.heap.size, 1, none⟩ = some (.string next) := (b1.cell (p := ⟨w.heap.size, 1, none⟩) (by simp)).trans (by simp)
  have B1 : Below w.heap.size w w1 := ((Below.refl _ w).alloc (Nat.le_refl _) _).trans (b1.mono (by simp))
  rw [show Xp.tag (ByteArray.mk #[66, 117, 99, 107, 101, 116]).data.toList (Xp.esc bucket.data.toList) = Xp.tag Xp.tBucket (Xp.esc bucket.data.toList) from rfl]
  have p0' : ∀ x, (w1.alloc x).cell? ⟨w.heap.size, 0, none⟩ = some (.slice a es.length c) := fun x => (World.cell?_alloc_lt w1 x _ (by simp; omega)).trans p0
  have p1' : ∀ x, (w1.alloc x).cell? ⟨w.heap.size, 1, none⟩ = some (.string next) := fun x => (World.cell?_alloc_lt w1 x _ (by simp; omega)).trans p1
  go_wp2_with fail
  generalize hbd : bucket.data.toList = bd
  have HBD := Lib.hid hbd; clear hbd b1
  go_loopg [5, 14] es.length (fun g v i wr => ∃ k : Nat, k + g = es.length ∧ i = .int .i64 k ∧ wr.ownsRow (w.heap.size + 1) 9 1 v (parts bd (es.take k)).length ((parts bd (es.take k)).map Value.string) ∧
    wr.cell? ⟨w.heap.size, 0, none⟩ = some (.slice a es.length c) ∧ wr.cell? ⟨w.heap.size, 1, none⟩ = some (.string next) ∧ w.heap.size + 1 ≤ wr.heap.size ∧ Below w.heap.size w wr)
  case atStart =>
    refine ⟨0, by omega, rfl, ?_, p0' _, p1' _, by simp; omega, B1.alloc B1.size _⟩
    exact ⟨rfl, .inr ⟨w1.heap.size, 1, _, rfl, hz, heap_alloc_new _ _, Nat.le_refl _, by unfold maxLen; omega, rfl, rfl⟩⟩
  case round =>
    obtain ⟨k, hkg, rfl, hown, q0, q1, hzr, hb⟩ := hrel
    have HG := Lib.hid hkg
    have hkx : k ≤ es.length := by omega
    clear hkg p0 p1 p0' p1'
    have hsz := hb.size
    by_cases hlt : k < es.length
    · obtain ⟨e, hek⟩ : ∃ e, es[k]? = some e := ⟨es[k], List.getElem?_eq_getElem hlt⟩
      have hfe := hf e (List.mem_of_getElem? hek)
      have hsr := hs.below hb
      rcases hsr with h | ⟨b, o, rfl, hbb, h3⟩
      · rw [h] at hlt; simp at hlt
      obtain ⟨c0, c1, c2, c3, c4⟩ := h3 k e hek
      clear h3
      have HTK := Lib.hid (show parts bd (es.take (k + 1)) = parts bd (es.take k) ++ [⟨(Xp.entDoc Lib.itoa e).toArray⟩] by rw [List.take_add_one, hek]; exact parts_snoc _ _ _)
      have HLE := Lib.hid (show (parts bd (es.take k)).length = k + 1 by rw [parts_length, List.length_take]; omega)
      have hle : (parts bd (es.take k)).length ≤ 1048577 := by rw [HLE.out]; omega
      generalize hps : parts bd (es.take k) = ps at *
      have HPS := Lib.hid hps; clear hps hek
      obtain ⟨nm, pr, sz, et, tm⟩ := e
      simp only at c0 c1 c2 c3 c4 hfe
      cases pr
      · have hlb := Xp.esc_len nm
        have hlb2 := Xp.esc_len et
        have HT : Carry wr (wr.alloc (.cells #[.string ⟨nm.toArray⟩, .bool false, .int .i64 sz, .string ⟨et.toArray⟩, .int .i64 tm] 42)) := Carry.alloc ⟨ht.below hb, Below.refl _ _⟩ _
        have hne : u5.ownBlock ≠ some wr.heap.size := fun h => by have := (hown.lt _ h).2; omega
        have hd1 := Dec.itoa_len hfe.2.2.1 hfe.2.2.2.1
        have hd2 := Dec.itoa_len hfe.2.2.2.2.1 hfe.2.2.2.2.2
        go_wp2_with fail
        go_region_held3 (fun w' => w'.cell? ⟨wr.heap.size, 0, none⟩ = some (.string ⟨nm.toArray⟩) ∧ w'.cell? ⟨wr.heap.size, 2, none⟩ = some (.int .i64 sz) ∧ w'.cell? ⟨wr.heap.size, 3, none⟩ = some (.string ⟨et.toArray⟩) ∧ w'.cell? ⟨wr.heap.size, 4, none⟩ = some (.int .i64 tm))
          (first | go_keep | (go_split_ands; refine ⟨?_, ?_, ?_, ?_⟩ <;> (rw [hg7.cell_far _ (by have := t6.2.size; simp; omega) (fun h => hne h.symm)]; simp [*])))
          (first
            | (go_at_call 67; refine (textK _ _ wr wr.heap.size (.string ⟨nm.toArray⟩) (.int .i64 sz) (.string ⟨et.toArray⟩) (.int .i64 tm) _ ?_ ?_ ?_ ?_ ?_ ?_ ?_).mono ?_; (simp [Com.size_mk]); (simp only [Com.size_mk]; omega); (first | assumption | exact HT | exact HT.drew); (simp [*]); (simp [*]); (simp [*]); (simp [*]); rintro e w' ⟨rfl, k0, t0⟩)
            | (go_at_call 69; refine (numberK _ _ wr wr.heap.size (.string ⟨nm.toArray⟩) (.int .i64 sz) (.string ⟨et.toArray⟩) (.int .i64 tm) _ ?_ ?_ ?_ ?_ ?_ ?_ ?_ ?_).mono ?_; omega; omega; (simp [Com.size_mk]); (first | assumption | exact HT | exact HT.drew); (simp [*]); (simp [*]); (simp [*]); (simp [*]); rintro e w' ⟨rfl, k0, t0⟩)
            | (go_at_call 68; refine (tagK _ _ _ _ _ wr wr.heap.size (.string ⟨nm.toArray⟩) (.int .i64 sz) (.string ⟨et.toArray⟩) (.int .i64 tm) _ _ ?_ ?_ ?_ ?_ ?_ ?_ ?_).mono ?_; (simp [Com.size_mk]); (simp only [Com.size_mk, Xp.tag_len]; simp; omega); assumption; (simp [*]); (simp [*]); (simp [*]); (simp [*]); rintro e w6 ⟨rfl, k0, t6⟩)
            | (refine step_append_lies _ (by rfl) (.tmp 28) (.tmp 43) _ (by rfl) (w.heap.size + 1) 9 i0 _ 1 16 Tryd.underlying95 hi hz0 hz1 hz2 rfl (by omega) u5 ps.length (ps.map Value.string) (by rfl) ((Com.own_below hown t6.2).alloc _) ⟨w6.heap.size, 0, none⟩ 1 1 [.string ⟨(Xp.entDoc Lib.itoa ⟨nm, false, sz, et, tm⟩).toArray⟩] (by rfl) (by rfl) (Com.cells_new _ _ _) (by intro u hu; simp at hu; subst hu; rfl) (by omega) (by unfold maxLen; omega) (by omega) (by have := t6.2.size; simp; omega) (w6.heap.size + 1) (by simp) ?_; intro gg cap w7 hown7 hg7 hat hlt7))
        have B6 := hb.trans (t6.2.mono hsz)
        have hown6 := Com.own_below hown t6.2
        have hz6 : w.heap.size + 1 ≤ w6.heap.size := Nat.le_trans hzr t6.2.size
        have s0 := (t6.2.cell (p := ⟨w.heap.size, 0, none⟩) hzr).trans q0
        have s1 := (t6.2.cell (p := ⟨w.heap.size, 1, none⟩) hzr).trans q1
        obtain ⟨t0, t1, hz7, B7⟩ := step B6 hown6 hz6 s0 s1 hg7
        clear hown q0 q1 s0 s1 hown6 hg7 c0 c1 c2 c3 c4 hlb hlb2 hd1 hd2 k0 HT B6 t6 hat
        go_wp2
        go_roundg (gk - 1)
        case measure => have := HG.out; omega
        case rel =>
          refine ⟨k + 1, by have := HG.out; omega, by go_num, ?_, t0, t1, hz7, B7⟩
          rw [HTK.out]
          simpa using hown7
      · have hlb := Xp.esc_len nm
        have hl1 := Xp.tag_len Xp.tName (Xp.esc nm)
        have hl2 : (Xp.tag Xp.tName (Xp.esc nm)).length ≤ 35184372088832 := by rw [hl1]; simp [Xp.tName]; omega
        clear hl1
        go_wp2_with fail
        have R0 : Below wr.heap.size wr (wr.alloc (.cells #[.string ⟨nm.toArray⟩, .bool true, .int .i64 sz, .string ⟨et.toArray⟩, .int .i64 tm] 42)) := (Below.refl _ _).alloc (Nat.le_refl _) _
        refine (XmlC.text _ ⟨nm.toArray⟩ _ (by simp [Com.size_mk]) (by rw [Com.size_mk]; omega)).mono ?_
        rintro e w2 ⟨rfl, b2⟩
        have R2 := R0.trans (b2.mono R0.size)
        rw [show Xp.tag (ByteArray.mk #[78, 97, 109, 101]).data.toList (Xp.esc (ByteArray.mk nm.toArray).data.toList) = Xp.tag Xp.tName (Xp.esc nm) from rfl]
        go_wp2_with fail
        refine (XmlC.tag _ _ 1 [⟨(Xp.tag Xp.tName (Xp.esc nm)).toArray⟩] _ (by simp [Com.size_mk]) (by rw [Com.flat_one]; exact hl2) (by simp) (by simp) (XmlC.strs_new _ _ _)).mono ?_
        rintro e w3 ⟨rfl, b3⟩
        rw [Com.flat_one, show Xp.tag (ByteArray.mk #[80, 114, 101, 102, 105, 120]).data.toList (ByteArray.mk (Xp.tag Xp.tName (Xp.esc nm)).toArray).data.toList = Xp.entDoc Lib.itoa ⟨nm, true, sz, et, tm⟩ from rfl]
        have R3 := (R2.alloc R2.size _).trans (b3.mono (by have := R2.size; simp; omega))
        have hown3 := Com.own_below hown R3
        have B3 := hb.trans (R3.mono hsz)
        have hz3 : w.heap.size + 1 ≤ w3.heap.size := Nat.le_trans hzr R3.size
        have s0 := (R3.cell (p := ⟨w.heap.size, 0, none⟩) hzr).trans q0
        have s1 := (R3.cell (p := ⟨w.heap.size, 1, none⟩) hzr).trans q1
        clear hown q0 q1 R0 R2 R3 b2 b3 c0 c1 c2 c3 c4 hl2 hlb
        go_wp2_with (at_builtin; refine wpList_append_own _ rfl (.tmp 20) (.tmp 26) 95 rfl (w.heap.size + 1) 9 i0 (.string ⟨#[]⟩) 1 16 Tryd.underlying95 hi hz0 hz1 hz2 rfl (by decide) u5 ps.length (ps.map Value.string) rfl (hown3.alloc _) ⟨w3.heap.size, 0, none⟩ 1 1 [.string ⟨(Xp.entDoc Lib.itoa ⟨nm, true, sz, et, tm⟩).toArray⟩] rfl rfl (Com.cells_new _ _ _) (by intro u hu; simp at hu; subst hu; rfl) (by unfold maxLen; omega) (by omega) (by simp; omega) ?_; intro v' w4 hown4 hg4 _)
        obtain ⟨t0, t1, hz4, B4⟩ := step B3 hown3 hz3 s0 s1 hg4
        clear s0 s1 hown3 hg4
        go_roundg (gk - 1)
        case measure => have := HG.out; omega
        case rel =>
          refine ⟨k + 1, by have := HG.out; omega, by go_num, ?_, t0, t1, hz4, B4⟩
          rw [HTK.out]
          simpa using hown4
    · have HK := Lib.hid (show es.take k = es by rw [List.take_of_length_le]; omega)
      have hbl := Xp.esc_len bd
      have hbs : bd.length ≤ 1048576 := by rw [← HBD.out, Com.toList_length]; exact hbk
      have hpl := parts_len (bucket := bd) hf
      have hfl : (Com.flat (parts bd es)).length ≤ 20000000000000 := by
        rw [flat_parts, List.length_append, Xp.tag_len]
        simp only [Xp.tBucket, List.length_cons, List.length_nil]
        omega
      have hpn : (parts bd es).length ≤ 1048577 := by rw [parts_length]; omega
      rw [HK.out] at hown
      clear hpl hbl hbs
      by_cases hnil : next.data.toList = []
      · have hn0 : next.toList.isEmpty = true := by rw [Com.toList_data, hnil]; rfl
        have HF := Lib.hid (show Xp.docList Lib.itoa bd es next.data.toList = Xp.top ++ Xp.tag Xp.tList (Com.flat (parts bd es)) by
          rw [Xp.docList, Xp.listBody, flat_parts, if_pos hnil, List.append_nil])
        obtain ⟨A, cA, rfl, hcA, hsA⟩ := Com.strs_of_own hown
        generalize parts bd es = ps at *
        clear hown hnil
        go_wp2_with fail
        refine (XmlC.tag _ A cA ps _ (by simp [Com.size_mk]) (by omega) (by omega) hcA hsA).mono ?_
        rintro e w2 ⟨rfl, b2⟩
        rw [show Xp.tag (ByteArray.mk #[76, 105, 115, 116]).data.toList (Com.flat ps) = Xp.tag Xp.tList (Com.flat ps) from rfl]
        have hll := Xp.tag_len Xp.tList (Com.flat ps)
        have hl3 : (Xp.tag Xp.tList (Com.flat ps)).length ≤ 70368744177664 := by rw [hll]; simp [Xp.tList]; omega
        clear hll
        go_wp2
        go_ret
        exact ⟨by rw [HBD.out, HF.out]; exact congrArg Ending.returned (Com.cat (a := Xp.top) rfl), hb.trans (b2.mono hsz)⟩
      · have hn0 : next.toList.isEmpty = false := by rw [Com.toList_data]; simpa using hnil
        have hxl := Xp.esc_len next.data.toList
        rw [Com.toList_length] at hxl
        have HF := Lib.hid (show Xp.docList Lib.itoa bd es next.data.toList = Xp.top ++ Xp.tag Xp.tList (Com.flat (parts bd es ++ [⟨(Xp.tag Xp.tNext (Xp.esc next.data.toList)).toArray⟩])) by
          rw [Xp.docList, Xp.listBody, Com.flat_snoc, flat_parts, if_neg hnil, List.append_assoc])
        have hfl2 : (Com.flat (parts bd es ++ [⟨(Xp.tag Xp.tNext (Xp.esc next.data.toList)).toArray⟩])).length ≤ 35184372088832 := by
          rw [Com.flat_snoc, List.length_append]
          show (Com.flat (parts bd es)).length + (Xp.tag Xp.tNext (Xp.esc next.data.toList)).length ≤ _
          rw [Xp.tag_len]
          simp only [Xp.tNext, List.length_cons, List.length_nil]
          omega
        generalize hps : parts bd es = ps at *
        clear hnil hfl
        go_wp2_with fail
        refine (XmlC.text _ next _ (by simp [Com.size_mk]) (by omega)).mono ?_
        rintro e w3 ⟨rfl, b3⟩
        rw [show Xp.tag (ByteArray.mk #[78, 101, 120, 116]).data.toList (Xp.esc next.data.toList) = Xp.tag Xp.tNext (Xp.esc next.data.toList) from rfl]
        generalize hnt : Xp.tag Xp.tNext (Xp.esc next.data.toList) = nt at *
        have hown3 := Com.own_below hown b3
        have B3 := hb.trans (b3.mono hsz)
        have hz3 : w.heap.size + 1 ≤ w3.heap.size := Nat.le_trans hzr b3.size
        have s0 := (b3.cell (p := ⟨w.heap.size, 0, none⟩) hzr).trans q0
        have s1 := (b3.cell (p := ⟨w.heap.size, 1, none⟩) hzr).trans q1
        clear hown q0 q1 b3 hnt hps
        go_wp2_with (at_builtin; refine wpList_append_own _ rfl (.tmp 49) (.tmp 53) 95 rfl (w.heap.size + 1) 9 i0 (.string ⟨#[]⟩) 1 16 Tryd.underlying95 hi hz0 hz1 hz2 rfl (by decide) u5 ps.length (ps.map Value.string) rfl (hown3.alloc _) ⟨w3.heap.size, 0, none⟩ 1 1 [.string ⟨nt.toArray⟩] rfl rfl (Com.cells_new _ _ _) (by intro u hu; simp at hu; subst hu; rfl) (by unfold maxLen; omega) (by omega) (by simp; omega) ?_; intro v' w4 hown4 hg4 _)
        obtain ⟨t0, t1, hz4, B4⟩ := step B3 hown3 hz3 s0 s1 hg4
        have hown5 : w4.ownsRow (w.heap.size + 1) 9 1 v' (ps ++ [(⟨nt.toArray⟩ : ByteArray)]).length ((ps ++ [(⟨nt.toArray⟩ : ByteArray)]).map Value.string) := by simpa using hown4
        obtain ⟨A, cA, rfl, hcA, hsA⟩ := Com.strs_of_own hown5
        have hpn2 : (ps ++ [(⟨nt.toArray⟩ : ByteArray)]).length ≤ 1048578 := by simp; omega
        generalize ps ++ [(⟨nt.toArray⟩ : ByteArray)] = ps2 at *
        clear hown4 hown5 t0 t1 hg4 hown3 s0 s1
        go_wp2_with fail
        refine (XmlC.tag _ A cA ps2 _ (by simp [Com.size_mk]) (by omega) (by omega) hcA hsA).mono ?_
        rintro e w2 ⟨rfl, b2⟩
        rw [show Xp.tag (ByteArray.mk #[76, 105, 115, 116]).data.toList (Com.flat ps2) = Xp.tag Xp.tList (Com.flat ps2) from rfl]
        have hll := Xp.tag_len Xp.tList (Com.flat ps2)
        have hl3 : (Xp.tag Xp.tList (Com.flat ps2)).length ≤ 70368744177664 := by rw [hll]; simp [Xp.tList]; omega
        clear hll
        go_wp2
        go_ret
        exact ⟨by rw [HBD.out, HF.out]; exact congrArg Ending.returned (Com.cat (a := Xp.top) rfl), B4.trans (b2.mono B4.size)⟩
end Go.Proofs.YtmimkgfkicgfiaaDoor.XmlI
