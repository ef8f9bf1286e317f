/-
  The walk of package xml's List. The walks of package xml's Etag and Id, and of the references' Etag, Error and Id. The walk of package route's Command, where it bears an etag. (Printed by mkcmd2.py.)
-/
import Derived.Test.YtidflagmdabfaaaGreatDoorRo02
import Derived.Test.YtidflagmdabfaaaGreatDoorRq01
import Derived.Deep.RegionHeld3
import Derived.Deep.AppendLies
namespace Go.Proofs.YtidflagmdabfaaaGreatDoor.XmlI
open Go.RowKit Go.Proofs.YtidflagmdabfaaaGreatDoor

theorem infoString : (Tryz.prog.info? 9).map (fun i => (i.zero, i.size, i.bytes)) = some (some (.string ⟨#[]⟩), 1, 16) := by kernel_rfl

/-- a page's entries in memory -/
def Ents (w : World) (a : Option Addr) (es : List Xp.Ent) : Prop :=
  es = [] ∨ ∃ b o, a = some ⟨b, o, none⟩ ∧ b < w.heap.size ∧ ∀ j e, es[j]? = some e →
    w.cell? ⟨b, o + j * 5, none⟩ = some (.string ⟨e.name.toArray⟩) ∧ w.cell? ⟨b, o + j * 5 + 1, none⟩ = some (.bool e.pre) ∧ w.cell? ⟨b, o + j * 5 + 2, none⟩ = some (.int .i64 e.size) ∧
    w.cell? ⟨b, o + j * 5 + 3, none⟩ = some (.string ⟨e.etag.toArray⟩) ∧ w.cell? ⟨b, o + j * 5 + 4, none⟩ = some (.int .i64 e.time)
theorem Ents.below {w w' : World} {a : Option Addr} {es : List Xp.Ent} (h : Ents w a es) (hb : Below w.heap.size w w') : Ents w' a es := by
  rcases h with h | ⟨b, o, h1, h2, h3⟩
  · exact .inl h
  · refine .inr ⟨b, o, h1, Nat.lt_of_lt_of_le h2 hb.size, fun j e he => ?_⟩
    obtain ⟨c0, c1, c2, c3, c4⟩ := h3 j e he
    exact ⟨(hb.cell (p := ⟨b, _, none⟩) h2).trans c0, (hb.cell (p := ⟨b, _, none⟩) h2).trans c1, (hb.cell (p := ⟨b, _, none⟩) h2).trans c2, (hb.cell (p := ⟨b, _, none⟩) h2).trans c3, (hb.cell (p := ⟨b, _, none⟩) h2).trans c4⟩
/-- the entries fit -/
def Fits (es : List Xp.Ent) : Prop := ∀ e ∈ es, e.name.length ≤ 1048576 ∧ e.etag.length ≤ 1048576 ∧ -9223372036854775808 ≤ e.size ∧ e.size ≤ 9223372036854775807 ∧ -9223372036854775808 ≤ e.time ∧ e.time ≤ 9223372036854775807

/-- the texts of a page's list, as strings -/
def parts (bucket : List UInt8) (es : List Xp.Ent) : List ByteArray := ⟨(Xp.tag Xp.tBucket (Xp.esc bucket)).toArray⟩ :: es.map fun e => ⟨(Xp.entDoc Lib.itoa e).toArray⟩
theorem parts_length (bucket : List UInt8) (es : List Xp.Ent) : (parts bucket es).length = es.length + 1 := by simp [parts]
theorem parts_snoc (bucket : List UInt8) (es : List Xp.Ent) (e : Xp.Ent) : parts bucket (es ++ [e]) = parts bucket es ++ [⟨(Xp.entDoc Lib.itoa e).toArray⟩] := by simp [parts]

/-- what an append to the list leaves -/
theorem step {w w3 w4 : World} {x : Obj} {v : Value} {n : Nat} {xs : List Value} {u0 u1 : Value} (B3 : Below w.heap.size w w3) (hown3 : w3.ownsRow (w.heap.size + 1) 9 1 v n xs) (hz3 : w.heap.size + 1 ≤ w3.heap.size)
    (s0 : w3.cell? ⟨w.heap.size, 0, none⟩ = some u0) (s1 : w3.cell? ⟨w.heap.size, 1, none⟩ = some u1) (hg4 : (w3.alloc x).grownBy w4 v.ownBlock) :
    w4.cell? ⟨w.heap.size, 0, none⟩ = some u0 ∧ w4.cell? ⟨w.heap.size, 1, none⟩ = some u1 ∧ w.heap.size + 1 ≤ w4.heap.size ∧ Below w.heap.size w w4 := by
  have G0 : ∀ i, w4.cell? ⟨w.heap.size, i, none⟩ = w3.cell? ⟨w.heap.size, i, none⟩ := fun i => by
    rw [hg4.cell_far _ (by simp; omega) (fun h => by have := (hown3.lt _ h.symm).1; simp only at this; omega)]
    exact World.cell?_alloc_lt _ _ _ (by simp; omega)
  exact ⟨(G0 0).trans s0, (G0 1).trans s1, by have := hg4.size; simp at this; omega, (B3.alloc B3.size _).grown hg4 (by simp; omega) (fun j hj => by have := (hown3.lt j hj).1; omega)⟩

/-- the cells of the entry that a round looks at -/
def Held (g : Nat) (v0 v2 v3 v4 : Value) (w : World) : Prop :=
  g < w.heap.size ∧ w.cell? ⟨g, 0, none⟩ = some v0 ∧ w.cell? ⟨g, 2, none⟩ = some v2 ∧ w.cell? ⟨g, 3, none⟩ = some v3 ∧ w.cell? ⟨g, 4, none⟩ = some v4
theorem Held.below {g : Nat} {v0 v2 v3 v4 : Value} {w w' : World} (h : Held g v0 v2 v3 v4 w) (hb : Below w.heap.size w w') : Held g v0 v2 v3 v4 w' :=
  ⟨Nat.lt_of_lt_of_le h.1 hb.size, (hb.cell (p := ⟨g, 0, none⟩) h.1).trans h.2.1, (hb.cell (p := ⟨g, 2, none⟩) h.1).trans h.2.2.1, (hb.cell (p := ⟨g, 3, none⟩) h.1).trans h.2.2.2.1, (hb.cell (p := ⟨g, 4, none⟩) h.1).trans h.2.2.2.2⟩

/-- what is carried over the calls of a region: the table, and that nothing that lay in w0 has turned -/
def Carry (w0 w : World) : Prop := XmlH.Tab w ∧ Below w0.heap.size w0 w
theorem Carry.alloc {w0 w : World} (h : Carry w0 w) (o : Obj) : Carry w0 (w.alloc o) :=
  ⟨h.1.below ((Below.refl _ _).alloc (Nat.le_refl _) _), h.2.alloc h.2.size _⟩
theorem Carry.below {w0 w w' : World} (h : Carry w0 w) (hb : Below w.heap.size w w') : Carry w0 w' := ⟨h.1.below hb, h.2.trans (hb.mono h.2.size)⟩

theorem Carry.drew {w0 w : World} (h : Carry w0 w) : Carry w0 w.drew := ⟨h.1, h.2.drew⟩

theorem textK (name s : ByteArray) (w0 : World) (g : Nat) (v0 v2 v3 v4 : Value) (w : World) (hn : name.size ≤ 4194304) (hs : s.size ≤ 4194304) (ht : Carry w0 w) (h0 : w.cell? ⟨g, 0, none⟩ = some v0) (h2 : w.cell? ⟨g, 2, none⟩ = some v2) (h3 : w.cell? ⟨g, 3, none⟩ = some v3) (h4 : w.cell? ⟨g, 4, none⟩ = some v4) :
    Calls Tryz.prog 107 #[.string name, .string s] w fun e w' => e = .returned (.string ⟨(Xp.tag name.data.toList (Xp.esc s.data.toList)).toArray⟩) ∧ (w'.cell? ⟨g, 0, none⟩ = some v0 ∧ w'.cell? ⟨g, 2, none⟩ = some v2 ∧ w'.cell? ⟨g, 3, none⟩ = some v3 ∧ w'.cell? ⟨g, 4, none⟩ = some v4) ∧ Carry w0 w' :=
  (XmlC.text name s w hn hs).mono fun _ _ ⟨he, hb⟩ => ⟨he, (Held.below ⟨World.block_lt_of_cell? w _ h0, h0, h2, h3, h4⟩ hb).2, ht.below hb⟩
theorem numberK (name : ByteArray) (n : Int) (w0 : World) (g : Nat) (v0 v2 v3 v4 : Value) (w : World) (i0 : -9223372036854775808 ≤ n) (i1 : n ≤ 9223372036854775807) (hn : name.size ≤ 4194304) (ht : Carry w0 w) (h0 : w.cell? ⟨g, 0, none⟩ = some v0) (h2 : w.cell? ⟨g, 2, none⟩ = some v2) (h3 : w.cell? ⟨g, 3, none⟩ = some v3) (h4 : w.cell? ⟨g, 4, none⟩ = some v4) :
    Calls Tryz.prog 110 #[.string name, .int .i64 n] w fun e w' => e = .returned (.string ⟨(Xp.tag name.data.toList (Lib.itoa n)).toArray⟩) ∧ (w'.cell? ⟨g, 0, none⟩ = some v0 ∧ w'.cell? ⟨g, 2, none⟩ = some v2 ∧ w'.cell? ⟨g, 3, none⟩ = some v3 ∧ w'.cell? ⟨g, 4, none⟩ = some v4) ∧ Carry w0 w' :=
  (XmlH.number name n i0 i1 w hn ht.1).mono fun _ _ ⟨he, hb⟩ => ⟨he, (Held.below ⟨World.block_lt_of_cell? w _ h0, h0, h2, h3, h4⟩ hb).2, ht.below hb⟩
theorem strs_new4 (w : World) (x0 x1 x2 x3 : ByteArray) (t : TypeId) : Com.Strs (w.alloc (.cells #[.string x0, .string x1, .string x2, .string x3] t)) (some ⟨w.heap.size, 0, none⟩) [x0, x1, x2, x3] := by
  refine .inr ⟨_, _, rfl, by simp, fun j y hy => ?_⟩
  match j, hy with
  | 0, hy => simp at hy; subst hy; simp
  | 1, hy => simp at hy; subst hy; simp
  | 2, hy => simp at hy; subst hy; simp
  | 3, hy => simp at hy; subst hy; simp
theorem tagK (name : ByteArray) (x0 x1 x2 x3 : ByteArray) (w0 : World) (g : Nat) (v0 v2 v3 v4 : Value) (w : World) (t : TypeId) (hn : name.size ≤ 4194304) (hx : x0.size + x1.size + x2.size + x3.size ≤ 35184372088832) (ht : Carry w0 w) (h0 : w.cell? ⟨g, 0, none⟩ = some v0) (h2 : w.cell? ⟨g, 2, none⟩ = some v2) (h3 : w.cell? ⟨g, 3, none⟩ = some v3) (h4 : w.cell? ⟨g, 4, none⟩ = some v4) :
    Calls Tryz.prog 109 #[.string name, .slice (some ⟨w.heap.size, 0, none⟩) 4 4] (w.alloc (.cells #[.string x0, .string x1, .string x2, .string x3] t)) fun e w' => e = .returned (.string ⟨(Xp.tag name.data.toList (x0.data.toList ++ (x1.data.toList ++ (x2.data.toList ++ x3.data.toList)))).toArray⟩) ∧ (w'.cell? ⟨g, 0, none⟩ = some v0 ∧ w'.cell? ⟨g, 2, none⟩ = some v2 ∧ w'.cell? ⟨g, 3, none⟩ = some v3 ∧ w'.cell? ⟨g, 4, none⟩ = some v4) ∧ Carry w0 w' := by
  have hfl : Com.flat [x0, x1, x2, x3] = x0.data.toList ++ (x1.data.toList ++ (x2.data.toList ++ x3.data.toList)) := by simp [Com.flat]
  have hfs : (Com.flat [x0, x1, x2, x3]).length = x0.size + x1.size + x2.size + x3.size := by rw [hfl]; simp only [List.length_append, Com.toList_length]; omega
  have hg := World.block_lt_of_cell? w _ h0
  have R : Below w.heap.size w (w.alloc (.cells #[.string x0, .string x1, .string x2, .string x3] t)) := (Below.refl _ _).alloc (Nat.le_refl _) _
  refine (XmlC.tag name _ 4 [x0, x1, x2, x3] _ (by omega) (by omega) (by simp) (by simp) (strs_new4 w x0 x1 x2 x3 t)).mono fun _ _ ⟨he, hb⟩ => ⟨by rw [he, hfl], (Held.below ⟨World.block_lt_of_cell? w _ h0, h0, h2, h3, h4⟩ (R.trans (hb.mono R.size))).2, (ht.alloc _).below hb⟩

theorem flat_parts (bucket : List UInt8) (es : List Xp.Ent) : Com.flat (parts bucket es) = Xp.tag Xp.tBucket (Xp.esc bucket) ++ (es.map (Xp.entDoc Lib.itoa)).flatten := by
  simp only [parts, Com.flat, List.map_cons, List.flatten_cons, List.map_map]
  congr 2
theorem ent_len {e : Xp.Ent} (h : e.name.length ≤ 1048576 ∧ e.etag.length ≤ 1048576 ∧ -9223372036854775808 ≤ e.size ∧ e.size ≤ 9223372036854775807 ∧ -9223372036854775808 ≤ e.time ∧ e.time ≤ 9223372036854775807) : (Xp.entDoc Lib.itoa e).length ≤ 12583300 := by
  have h1 := Xp.esc_len e.name
  have h2 := Xp.esc_len e.etag
  have h3 := Dec.itoa_len h.2.2.1 h.2.2.2.1
  have h4 := Dec.itoa_len h.2.2.2.2.1 h.2.2.2.2.2
  unfold Xp.entDoc
  split
  · simp only [Xp.tag_len, Xp.tPrefix, Xp.tName, List.length_cons, List.length_nil]; omega
  · simp only [Xp.entKey, Xp.tag_len, Xp.tKey, Xp.tName, Xp.tSize, Xp.tEtag, Xp.tTime, List.length_append, List.length_cons, List.length_nil]; omega
theorem parts_len {bucket : List UInt8} : ∀ {es : List Xp.Ent}, Fits es → ((es.map (Xp.entDoc Lib.itoa)).flatten).length ≤ es.length * 12583300
  | [], _ => by simp
  | e :: es, h => by
    have h1 := ent_len (h e List.mem_cons_self)
    have h2 := parts_len (bucket := bucket) (es := es) (fun x hx => h x (List.mem_cons_of_mem _ hx))
    simp only [List.map_cons, List.flatten_cons, List.length_append, List.length_cons]
    omega

end Go.Proofs.YtidflagmdabfaaaGreatDoor.XmlI
namespace Go.Proofs.YtidflagmdabfaaaGreatDoor.XmlL
open Go.RowKit Go.Proofs.YtidflagmdabfaaaGreatDoor Go.Proofs.YtidflagmdabfaaaGreatDoor.XmlI

set_option maxHeartbeats 1000000 in
theorem etag (s : ByteArray) (w : World) (hs : s.size ≤ 1048576) :
    Calls Tryz.prog 63 #[.string s] w fun e w' => e = .returned (.string ⟨(Xd.docEtag s.data.toList).toArray⟩) ∧ Below w.heap.size w w' := by
  have hl := Xp.esc_len s.data.toList
  rw [Com.toList_length] at hl
  have hl2 := Xp.tag_len [69, 116, 97, 103] (Xp.esc s.data.toList)
  simp only [List.length_cons, List.length_nil] at hl2
  go_enter Tryz.func63, Tryz.ntmps63
  go_wp2_with (go_at_call 107; refine (XmlC.text _ s _ (by simp [Com.size_mk]) (by omega)).mono ?_; rintro e w1 ⟨rfl, hb1⟩)
  go_ret
  exact ⟨congrArg Ending.returned (Com.cat (a := Xp.top) rfl), hb1⟩

set_option maxHeartbeats 1000000 in
theorem refEtag (s : ByteArray) (w : World) (hs : s.size ≤ 1048576) :
    Calls Tryz.prog 66 #[.string s] w fun e w' => e = .returned (.string ⟨(Xd.docEtag s.data.toList).toArray⟩) ∧ w = w' := by
  have hl := Xp.esc_len s.data.toList
  rw [Com.toList_length] at hl
  have hl2 := Xp.tag_len [69, 116, 97, 103] (Xp.esc s.data.toList)
  simp only [List.length_cons, List.length_nil] at hl2
  go_enter Tryz.func66, Tryz.ntmps66
  go_wp2_with (first
    | (go_at_call 112; refine (XmlB.refEscape s _ (by omega)).mono ?_; rintro e w' ⟨rfl, rfl⟩)
    | (go_at_call 111; refine (XmlB.refTagS _ _ _ (by simp [Com.size_mk]) (by rw [Com.size_mk]; omega)).mono ?_; rintro e w' ⟨rfl, rfl⟩; rw [show (ByteArray.mk #[69, 116, 97, 103]).data.toList = [69, 116, 97, 103] from rfl]))
  go_ret
  exact ⟨congrArg Ending.returned (Com.cat (a := Xp.top) rfl), rfl⟩

set_option maxHeartbeats 1000000 in
theorem refError (s : ByteArray) (w : World) (hs : s.size ≤ 1048576) :
    Calls Tryz.prog 106 #[.string s] w fun e w' => e = .returned (.string ⟨(Xp.docError s.data.toList).toArray⟩) ∧ w = w' := by
  have hl := Xp.esc_len s.data.toList
  rw [Com.toList_length] at hl
  have hl2 := Xp.tag_len [67, 111, 100, 101] (Xp.esc s.data.toList)
  simp only [List.length_cons, List.length_nil] at hl2
  have hl4 := Xp.tag_len [69, 114, 114, 111, 114] (Xp.tag [67, 111, 100, 101] (Xp.esc s.data.toList))
  simp only [List.length_cons, List.length_nil] at hl4
  go_enter Tryz.func106, Tryz.ntmps106
  go_wp2_with fail
  refine (XmlB.refEscape s _ (by omega)).mono ?_
  rintro e w' ⟨rfl, rfl⟩
  go_wp2_with fail
  refine (XmlB.refTagS _ _ _ (by simp [Com.size_mk]) (by rw [Com.size_mk]; omega)).mono ?_
  rintro e w' ⟨rfl, rfl⟩
  rw [show (ByteArray.mk #[67, 111, 100, 101]).data.toList = [67, 111, 100, 101] from rfl]
  go_wp2_with fail
  refine (XmlB.refTagS _ _ _ (by simp [Com.size_mk]) (by rw [Com.size_mk]; omega)).mono ?_
  rintro e w' ⟨rfl, rfl⟩
  rw [show (ByteArray.mk #[69, 114, 114, 111, 114]).data.toList = [69, 114, 114, 111, 114] from rfl]
  go_wp2
  go_ret
  exact ⟨congrArg Ending.returned (Com.cat (a := Xp.top) rfl), rfl⟩

theorem itoaK (n : Int) (w0 : World) (g : Nat) (v0 v1 v2 : Value) (w : World) (i0 : -9223372036854775808 ≤ n) (i1 : n ≤ 9223372036854775807) (ht : Carry w0 w) (h0 : w.cell? ⟨g, 0, none⟩ = some v0) (h1 : w.cell? ⟨g, 1, none⟩ = some v1) (h2 : w.cell? ⟨g, 2, none⟩ = some v2) :
    Calls Tryz.prog 56 #[.int .i64 n] w fun e w' => e = .returned (.string ⟨(Lib.itoa n).toArray⟩) ∧ (w'.cell? ⟨g, 0, none⟩ = some v0 ∧ w'.cell? ⟨g, 1, none⟩ = some v1 ∧ w'.cell? ⟨g, 2, none⟩ = some v2) ∧ Carry w0 w' := by
  refine (Tryz.strconv_Itoa n i0 i1 _ ht.1).mono ?_
  rintro e w1 ⟨rfl, k, os, rfl⟩
  have hb1 := Lib.below_grow w.heap.size w (Nat.le_refl _) k os
  have hg := World.block_lt_of_cell? w _ h0
  exact ⟨rfl, ⟨(hb1.cell (p := ⟨g, 0, none⟩) hg).trans h0, (hb1.cell (p := ⟨g, 1, none⟩) hg).trans h1, (hb1.cell (p := ⟨g, 2, none⟩) hg).trans h2⟩, ht.below hb1⟩
theorem signedK (n : Int) (w0 : World) (g : Nat) (v0 v1 v2 : Value) (w : World) (i0 : -9223372036854775808 ≤ n) (i1 : n ≤ 9223372036854775807) (ht : Carry w0 w) (h0 : w.cell? ⟨g, 0, none⟩ = some v0) (h1 : w.cell? ⟨g, 1, none⟩ = some v1) (h2 : w.cell? ⟨g, 2, none⟩ = some v2) :
    Calls Tryz.prog 160 #[.int .i64 n] w fun e w' => e = .returned (.string ⟨(Lib.itoa n).toArray⟩) ∧ (w'.cell? ⟨g, 0, none⟩ = some v0 ∧ w'.cell? ⟨g, 1, none⟩ = some v1 ∧ w'.cell? ⟨g, 2, none⟩ = some v2) ∧ Carry w0 w' := by
  refine (XmlK.signed n i0 i1 w).mono ?_
  rintro e w1 ⟨rfl, hb1⟩
  have hg := World.block_lt_of_cell? w _ h0
  exact ⟨rfl, ⟨(hb1.cell (p := ⟨g, 0, none⟩) hg).trans h0, (hb1.cell (p := ⟨g, 1, none⟩) hg).trans h1, (hb1.cell (p := ⟨g, 2, none⟩) hg).trans h2⟩, ht.below hb1⟩

theorem idv (a b c : Int) : (((((⟨(Lib.itoa a).toArray⟩ : ByteArray) ++ ⟨#[45]⟩) ++ ⟨(Lib.itoa b).toArray⟩) ++ ⟨#[45]⟩) ++ ⟨(Lib.itoa c).toArray⟩) = ⟨(Xd.idText a b c).toArray⟩ := by
  unfold Xd.idText
  simp only [← Com.mk_append, ByteArray.append_assoc]

set_option maxHeartbeats 2000000 in
theorem id (a b c : Int) (w : World) (ha : Xd.I64 a) (hb : Xd.I64 b) (hc : Xd.I64 c) (ht : XmlH.Tab w) :
    Calls Tryz.prog 108 #[.agg #[.int .i64 a, .int .i64 b, .int .i64 c]] w fun e w' => e = .returned (.string ⟨(Xd.idText a b c).toArray⟩) ∧ Below w.heap.size w w' := by
  have la := ha.len
  have lb := hb.len
  have lc := hc.len
  obtain ⟨a0, a1⟩ := ha
  obtain ⟨b0, b1⟩ := hb
  obtain ⟨c0, c1⟩ := hc
  have HT : Carry w (w.alloc (.cells #[.int .i64 a, .int .i64 b, .int .i64 c] 27)) := Carry.alloc ⟨ht, Below.refl _ _⟩ _
  have s1 : ¬ 9223372036854775807 < (Lib.itoa a).length + 1 := by omega
  have s2 : ¬ 9223372036854775807 < (Lib.itoa a).length + 1 + (Lib.itoa b).length := by omega
  have s3 : ¬ 9223372036854775807 < (Lib.itoa a).length + 1 + (Lib.itoa b).length + 1 := by omega
  have s4 : ¬ 9223372036854775807 < (Lib.itoa a).length + 1 + (Lib.itoa b).length + 1 + (Lib.itoa c).length := by omega
  clear ht
  go_enter Tryz.func108, Tryz.ntmps108
  go_wp2_with fail
  go_region_held3 (fun w' => w'.cell? ⟨w.heap.size, 0, none⟩ = some (.int .i64 a) ∧ w'.cell? ⟨w.heap.size, 1, none⟩ = some (.int .i64 b) ∧ w'.cell? ⟨w.heap.size, 2, none⟩ = some (.int .i64 c))
    (first | go_keep)
    (first
      | (go_at_call 56; refine (itoaK _ w w.heap.size (.int .i64 a) (.int .i64 b) (.int .i64 c) _ ?_ ?_ ?_ ?_ ?_ ?_).mono ?_; omega; omega; (first | assumption | exact HT | exact HT.drew); (simp [*]); (simp [*]); (simp [*]); rintro e w' ⟨rfl, k0, t0⟩))
  go_wp2
  go_ret
  exact ⟨congrArg (fun x => Ending.returned (.string x)) (idv a b c), t0.2⟩

set_option maxHeartbeats 2000000 in
theorem refId (a b c : Int) (w : World) (ha : Xd.I64 a) (hb : Xd.I64 b) (hc : Xd.I64 c) (ht : XmlH.Tab w) :
    Calls Tryz.prog 113 #[.agg #[.int .i64 a, .int .i64 b, .int .i64 c]] w fun e w' => e = .returned (.string ⟨(Xd.idText a b c).toArray⟩) ∧ Below w.heap.size w w' := by
  have la := ha.len
  have lb := hb.len
  have lc := hc.len
  obtain ⟨a0, a1⟩ := ha
  obtain ⟨b0, b1⟩ := hb
  obtain ⟨c0, c1⟩ := hc
  have HT : Carry w (w.alloc (.cells #[.int .i64 a, .int .i64 b, .int .i64 c] 27)) := Carry.alloc ⟨ht, Below.refl _ _⟩ _
  have s1 : ¬ 9223372036854775807 < (Lib.itoa a).length + 1 := by omega
  have s2 : ¬ 9223372036854775807 < (Lib.itoa a).length + 1 + (Lib.itoa b).length := by omega
  have s3 : ¬ 9223372036854775807 < (Lib.itoa a).length + 1 + (Lib.itoa b).length + 1 := by omega
  have s4 : ¬ 9223372036854775807 < (Lib.itoa a).length + 1 + (Lib.itoa b).length + 1 + (Lib.itoa c).length := by omega
  clear ht
  go_enter Tryz.func113, Tryz.ntmps113
  go_wp2_with fail
  go_region_held3 (fun w' => w'.cell? ⟨w.heap.size, 0, none⟩ = some (.int .i64 a) ∧ w'.cell? ⟨w.heap.size, 1, none⟩ = some (.int .i64 b) ∧ w'.cell? ⟨w.heap.size, 2, none⟩ = some (.int .i64 c))
    (first | go_keep)
    (first
      | (go_at_call 160; refine (signedK _ w w.heap.size (.int .i64 a) (.int .i64 b) (.int .i64 c) _ ?_ ?_ ?_ ?_ ?_ ?_).mono ?_; omega; omega; (first | assumption | exact HT | exact HT.drew); (simp [*]); (simp [*]); (simp [*]); rintro e w' ⟨rfl, k0, t0⟩))
  go_wp2
  go_ret
  exact ⟨congrArg (fun x => Ending.returned (.string x)) (idv a b c), t0.2⟩
end Go.Proofs.YtidflagmdabfaaaGreatDoor.XmlL
namespace Go.Proofs.YtidflagmdabfaaaGreatDoor.RtU
open Go.RowKit Go.Proofs.YtidflagmdabfaaaGreatDoor Go.Proofs.YtidflagmdabfaaaGreatDoor.HtW Go.Proofs.YtidflagmdabfaaaGreatDoor.RtA Go.Proofs.YtidflagmdabfaaaGreatDoor.RtQ Go.Proofs.YtidflagmdabfaaaGreatDoor.RtG

theorem fs_far {w : World} {B : Nat} {a : Option Addr} {fs : List (List UInt8 × List UInt8)} (h : Fs w a fs) (hB : ∀ p, a = some p → p.block ≠ B) (x y z : Value) : Fs (st3 w B x y z) a fs := by
  refine h.imp id fun ⟨b, o, h1, h2, h3⟩ => ⟨b, o, h1, by simpa [st3] using h2, fun j v hj => ?_⟩
  have hn : b ≠ B := hB _ h1
  have e : ∀ k, (st3 w B x y z).cell? ⟨b, k, none⟩ = w.cell? ⟨b, k, none⟩ := by
    intro k
    refine World.cell?_of_block ?_
    show (st3 w B x y z).heap[b]? = w.heap[b]?
    unfold st3
    rw [Below.heap_setCell _ _ _ _ (fun h => hn h), Below.heap_setCell _ _ _ _ (fun h => hn h), Below.heap_setCell _ _ _ _ (fun h => hn h)]
  rw [e, e]
  exact h3 j v hj
set_option maxHeartbeats 4000000 in
set_option maxRecDepth 100000 in
theorem etag3 (x4 x6 x7 x8 x9 x10 x11 x12 x13 x14 x15 x16 x17 : Value) (ky : ByteArray) (et : List UInt8) (i0 i1 i2 : Int) (w : World) :
    Calls Tryz.prog 31 #[.agg #[.int .i64 3, .int .i64 i0, .int .i64 i1, .int .i64 i2, x4, .string ky, x6, x7, x8, x9, x10, x11, x12, x13, x14, x15, x16, x17], .agg #[.int .i64 0, .string ⟨et.toArray⟩]] w fun e w' => CPost 200 [(nEtag, et)] [] w' e ∧ Below w.heap.size w w' := by
  obtain ⟨w3, hw3, hb3, hz3, hQ3, hO3, hR3⟩ : ∃ w3 : World, w3 = (((w.alloc (.cells #[.int .i64 3, .int .i64 i0, .int .i64 i1, .int .i64 i2, x4, .string ky, x6, x7, x8, x9, x10, x11, x12, x13, x14, x15, x16, x17] 35)).alloc (.cells #[.int .i64 0, .string ⟨et.toArray⟩] 63)).alloc (.cells #[.int .i64 0, .slice none 0 0, .slice none 0 0] 56)) ∧ Below w.heap.size w w3 ∧ w3.heap.size = w.heap.size + 3 ∧ w3.heap[w.heap.size]? = some (.cells #[.int .i64 3, .int .i64 i0, .int .i64 i1, .int .i64 i2, x4, .string ky, x6, x7, x8, x9, x10, x11, x12, x13, x14, x15, x16, x17] 35 (0, 0)) ∧ w3.heap[w.heap.size + 1]? = some (.cells #[.int .i64 0, .string ⟨et.toArray⟩] 63 (0, 0)) ∧ Rb (w.heap.size + 1 + 1) w3 (.int .i64 0) (.slice none 0 0) (.slice none 0 0) := by
    refine ⟨_, rfl, (((Below.refl _ _).alloc (Nat.le_refl _) _).alloc (by simp) _).alloc (by simp; omega) _, by simp, (Below.heap_alloc _ _ _ (by simp; omega)).trans ((Below.heap_alloc _ _ _ (by simp)).trans (heap_alloc_new _ _)), (Below.heap_alloc _ _ _ (by simp)).trans (hp1 _ _), ?_⟩
    have := heap_alloc_new ((w.alloc (.cells #[.int .i64 3, .int .i64 i0, .int .i64 i1, .int .i64 i2, x4, .string ky, x6, x7, x8, x9, x10, x11, x12, x13, x14, x15, x16, x17] 35)).alloc (.cells #[.int .i64 0, .string ⟨et.toArray⟩] 63)) (.cells #[.int .i64 0, .slice none 0 0, .slice none 0 0] 56)
    rwa [World.size_alloc, World.size_alloc] at this
  have q0 : w3.cell? ⟨w.heap.size, 0, none⟩ = some (.int .i64 3) := by rw [Lib.cell_of_heap hQ3]; rfl
  have y0 : w3.cell? ⟨w.heap.size + 1, 0, none⟩ = some (.int .i64 0) := by rw [Lib.cell_of_heap hO3]; rfl
  have y1 : w3.cell? ⟨w.heap.size + 1, 1, none⟩ = some (.string ⟨et.toArray⟩) := by rw [Lib.cell_of_heap hO3]; rfl
  clear hQ3 hO3
  go_enter Tryz.func31, Tryz.ntmps31
  go_upto_region 1 with fail
  rw [← hw3]
  clear hw3
  have hb4 := (Below.refl w3.heap.size w3).alloc (Nat.le_refl _) (.cells #[.string ⟨#[101, 116, 97, 103]⟩, .string ⟨et.toArray⟩] 91)
  have hF : Fs (w3.alloc (.cells #[.string ⟨#[101, 116, 97, 103]⟩, .string ⟨et.toArray⟩] 91)) (some ⟨w3.heap.size, 0, none⟩) [(nEtag, et)] := RtJ.one_fs w3 nEtag et
  have HZ := Lib.hid hz3
  clear hz3
  have hR4 := hR3.below hb4
  obtain ⟨r0, r1, r2, f0, f1, f2⟩ := hR4.cells
  go_wp2_with fail
  refine bodyPost_ret (Rb.run 4 (hR4.put _ _ _) rfl rfl) rfl ⟨⟨_, _, _, _, rfl, ?_, ⟨Nat.le_refl _, fun _ => rfl, .inl rfl⟩⟩, below_st3 (hb3.trans (hb4.mono (by have := HZ.out; omega))) (by omega) _ _ _⟩
  exact fs_far hF (fun p h => by cases h; have := HZ.out; show w3.heap.size ≠ _; omega) _ _ _
set_option maxHeartbeats 4000000 in
set_option maxRecDepth 100000 in
theorem etag6 (x4 x6 x7 x8 x9 x10 x11 x12 x13 x14 x15 x16 x17 : Value) (ky : ByteArray) (et : List UInt8) (i0 i1 i2 : Int) (w : World) :
    Calls Tryz.prog 31 #[.agg #[.int .i64 6, .int .i64 i0, .int .i64 i1, .int .i64 i2, x4, .string ky, x6, x7, x8, x9, x10, x11, x12, x13, x14, x15, x16, x17], .agg #[.int .i64 0, .string ⟨et.toArray⟩]] w fun e w' => CPost 200 [(nEtag, et)] [] w' e ∧ Below w.heap.size w w' := by
  obtain ⟨w3, hw3, hb3, hz3, hQ3, hO3, hR3⟩ : ∃ w3 : World, w3 = (((w.alloc (.cells #[.int .i64 6, .int .i64 i0, .int .i64 i1, .int .i64 i2, x4, .string ky, x6, x7, x8, x9, x10, x11, x12, x13, x14, x15, x16, x17] 35)).alloc (.cells #[.int .i64 0, .string ⟨et.toArray⟩] 63)).alloc (.cells #[.int .i64 0, .slice none 0 0, .slice none 0 0] 56)) ∧ Below w.heap.size w w3 ∧ w3.heap.size = w.heap.size + 3 ∧ w3.heap[w.heap.size]? = some (.cells #[.int .i64 6, .int .i64 i0, .int .i64 i1, .int .i64 i2, x4, .string ky, x6, x7, x8, x9, x10, x11, x12, x13, x14, x15, x16, x17] 35 (0, 0)) ∧ w3.heap[w.heap.size + 1]? = some (.cells #[.int .i64 0, .string ⟨et.toArray⟩] 63 (0, 0)) ∧ Rb (w.heap.size + 1 + 1) w3 (.int .i64 0) (.slice none 0 0) (.slice none 0 0) := by
    refine ⟨_, rfl, (((Below.refl _ _).alloc (Nat.le_refl _) _).alloc (by simp) _).alloc (by simp; omega) _, by simp, (Below.heap_alloc _ _ _ (by simp; omega)).trans ((Below.heap_alloc _ _ _ (by simp)).trans (heap_alloc_new _ _)), (Below.heap_alloc _ _ _ (by simp)).trans (hp1 _ _), ?_⟩
    have := heap_alloc_new ((w.alloc (.cells #[.int .i64 6, .int .i64 i0, .int .i64 i1, .int .i64 i2, x4, .string ky, x6, x7, x8, x9, x10, x11, x12, x13, x14, x15, x16, x17] 35)).alloc (.cells #[.int .i64 0, .string ⟨et.toArray⟩] 63)) (.cells #[.int .i64 0, .slice none 0 0, .slice none 0 0] 56)
    rwa [World.size_alloc, World.size_alloc] at this
  have q0 : w3.cell? ⟨w.heap.size, 0, none⟩ = some (.int .i64 6) := by rw [Lib.cell_of_heap hQ3]; rfl
  have y0 : w3.cell? ⟨w.heap.size + 1, 0, none⟩ = some (.int .i64 0) := by rw [Lib.cell_of_heap hO3]; rfl
  have y1 : w3.cell? ⟨w.heap.size + 1, 1, none⟩ = some (.string ⟨et.toArray⟩) := by rw [Lib.cell_of_heap hO3]; rfl
  clear hQ3 hO3
  go_enter Tryz.func31, Tryz.ntmps31
  go_upto_region 1 with fail
  rw [← hw3]
  clear hw3
  have hb4 := (Below.refl w3.heap.size w3).alloc (Nat.le_refl _) (.cells #[.string ⟨#[101, 116, 97, 103]⟩, .string ⟨et.toArray⟩] 91)
  have hF : Fs (w3.alloc (.cells #[.string ⟨#[101, 116, 97, 103]⟩, .string ⟨et.toArray⟩] 91)) (some ⟨w3.heap.size, 0, none⟩) [(nEtag, et)] := RtJ.one_fs w3 nEtag et
  have HZ := Lib.hid hz3
  clear hz3
  have hR4 := hR3.below hb4
  obtain ⟨r0, r1, r2, f0, f1, f2⟩ := hR4.cells
  go_wp2_with fail
  refine bodyPost_ret (Rb.run 4 (hR4.put _ _ _) rfl rfl) rfl ⟨⟨_, _, _, _, rfl, ?_, ⟨Nat.le_refl _, fun _ => rfl, .inl rfl⟩⟩, below_st3 (hb3.trans (hb4.mono (by have := HZ.out; omega))) (by omega) _ _ _⟩
  exact fs_far hF (fun p h => by cases h; have := HZ.out; show w3.heap.size ≠ _; omega) _ _ _
set_option maxHeartbeats 4000000 in
set_option maxRecDepth 100000 in
theorem doc7 (x4 x6 x7 x8 x9 x10 x11 x12 x13 x14 x15 x16 x17 : Value) (ky : ByteArray) (et : List UInt8) (i0 i1 i2 : Int) (hel : et.length ≤ 1048576) (w : World) :
    Calls Tryz.prog 31 #[.agg #[.int .i64 7, .int .i64 i0, .int .i64 i1, .int .i64 i2, x4, .string ky, x6, x7, x8, x9, x10, x11, x12, x13, x14, x15, x16, x17], .agg #[.int .i64 0, .string ⟨et.toArray⟩]] w fun e w' => CPost 200 [] (Xd.docEtag et) w' e ∧ Below w.heap.size w w' := by
  obtain ⟨w3, hw3, hb3, hz3, hQ3, hO3, hR3⟩ : ∃ w3 : World, w3 = (((w.alloc (.cells #[.int .i64 7, .int .i64 i0, .int .i64 i1, .int .i64 i2, x4, .string ky, x6, x7, x8, x9, x10, x11, x12, x13, x14, x15, x16, x17] 35)).alloc (.cells #[.int .i64 0, .string ⟨et.toArray⟩] 63)).alloc (.cells #[.int .i64 0, .slice none 0 0, .slice none 0 0] 56)) ∧ Below w.heap.size w w3 ∧ w3.heap.size = w.heap.size + 3 ∧ w3.heap[w.heap.size]? = some (.cells #[.int .i64 7, .int .i64 i0, .int .i64 i1, .int .i64 i2, x4, .string ky, x6, x7, x8, x9, x10, x11, x12, x13, x14, x15, x16, x17] 35 (0, 0)) ∧ w3.heap[w.heap.size + 1]? = some (.cells #[.int .i64 0, .string ⟨et.toArray⟩] 63 (0, 0)) ∧ Rb (w.heap.size + 1 + 1) w3 (.int .i64 0) (.slice none 0 0) (.slice none 0 0) := by
    refine ⟨_, rfl, (((Below.refl _ _).alloc (Nat.le_refl _) _).alloc (by simp) _).alloc (by simp; omega) _, by simp, (Below.heap_alloc _ _ _ (by simp; omega)).trans ((Below.heap_alloc _ _ _ (by simp)).trans (heap_alloc_new _ _)), (Below.heap_alloc _ _ _ (by simp)).trans (hp1 _ _), ?_⟩
    have := heap_alloc_new ((w.alloc (.cells #[.int .i64 7, .int .i64 i0, .int .i64 i1, .int .i64 i2, x4, .string ky, x6, x7, x8, x9, x10, x11, x12, x13, x14, x15, x16, x17] 35)).alloc (.cells #[.int .i64 0, .string ⟨et.toArray⟩] 63)) (.cells #[.int .i64 0, .slice none 0 0, .slice none 0 0] 56)
    rwa [World.size_alloc, World.size_alloc] at this
  have q0 : w3.cell? ⟨w.heap.size, 0, none⟩ = some (.int .i64 7) := by rw [Lib.cell_of_heap hQ3]; rfl
  have y0 : w3.cell? ⟨w.heap.size + 1, 0, none⟩ = some (.int .i64 0) := by rw [Lib.cell_of_heap hO3]; rfl
  have y1 : w3.cell? ⟨w.heap.size + 1, 1, none⟩ = some (.string ⟨et.toArray⟩) := by rw [Lib.cell_of_heap hO3]; rfl
  clear hQ3 hO3
  go_enter Tryz.func31, Tryz.ntmps31
  go_upto_region 1 with fail
  rw [← hw3]
  clear hw3
  have kc := fun w s => Lib.run_convert_string_bytes (P := Tryz.prog) w 9 23 5 s Tryz.underlying9 Tryz.underlying23 Tryz.underlying5
  have KE := Lib.hid (XmlL.etag ⟨et.toArray⟩ w3 (by rw [Com.size_mk]; exact hel))
  go_wp2_with fail
  refine KE.out.mono ?_
  rintro e w4 ⟨rfl, hb4⟩
  obtain ⟨d, hd⟩ : ∃ d, d = Xd.docEtag (ByteArray.mk et.toArray).data.toList := ⟨_, rfl⟩
  have HD := Lib.hid hd
  rw [← hd]
  clear hd KE
  have hz4 := hb4.size
  have hxc := ShaJ.conv_bs w4 d
  have hxb := Lib.bytesWorld_below w4 5 ⟨d.toArray⟩
  have hR5 := (hR3.below hb4).below hxb
  obtain ⟨r0, r1, r2, f0, f1, f2⟩ := hR5.cells
  go_wp2_with fail
  refine bodyPost_ret (Rb.run 4 (hR5.put _ _ _) rfl rfl) rfl ⟨?_, below_st3 (hb3.trans ((hb4.trans (hxb.mono hz4)).mono (by omega))) (by omega) _ _ _⟩
  rw [show Xd.docEtag et = d from HD.out.symm]
  exact ⟨_, _, _, _, rfl, .inl rfl, bs_far hxc (by rintro p hp; cases hp; simp; omega) _ _ _⟩
end Go.Proofs.YtidflagmdabfaaaGreatDoor.RtU
