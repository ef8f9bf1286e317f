/-
  The arguments of XmlDocuments, out of what the reader reads.
-/
import Derived.Test.YtmimkgfkicgfiaaDoorRowKit
import Derived.Test.YtmimkgfkicgfiaaDoorXmlR
namespace Go.Proofs.YtmimkgfkicgfiaaDoor.DocOpen
open Go.ChangeShapes Go.WideShapes Go.ChangeAt Go.RowKit Go.Proofs.YtmimkgfkicgfiaaDoor

/-- a page's entries, out of the slice that came in -/
theorem open_ents {H : Type} {enc : TypeId × Value → H} {W : World} {a : Option Addr} {len cap : Nat} {y : DataW H × List MemPlace} {n : Nat}
    (h : DataW.trod enc Tryd.prog W 0 (fun _ => true) true n 38 [.slice a len cap] = some y) (hlt : ∀ x ∈ y.2, x.block < W.heap.size) (hk : Rows.uptoBulk y.1 ≤ 1048576) :
    ∃ es : List Xp.Ent, len = es.length ∧ XmlI.Ents W a es ∧ XmlI.Fits es ∧ es.length ≤ 1048576 := by
  rcases RowKit2.open_structs Tryd.underlying38 Tryd.underlying42 (by kernel_rfl) (by kernel_rfl) h with ⟨hcs, hx⟩ | ⟨ad, len', cap', m, D, Pl, hcs, hl, hm, hmm, hx, hi⟩
  · simp at hcs
    obtain ⟨rfl, rfl, rfl⟩ := hcs
    exact ⟨[], rfl, .inl rfl, fun e he => by simp at he, by simp⟩
  · simp at hcs
    obtain ⟨rfl, rfl, rfl⟩ := hcs
    simp at hmm
    subst hmm hx
    simp only [Rows.uptoBulk] at hk
    have hlen := RowKit2.bulk_length (H := H) ((List.range len).map D)
    rw [List.length_map, List.length_range] at hlen
    obtain ⟨es, hes, hp⟩ := RowKit2.list_of (p := fun i (e : Xp.Ent) =>
      (W.cell? (ad.add (i * 5 + 0)) = some (.string ⟨e.name.toArray⟩) ∧ W.cell? (ad.add (i * 5 + 1)) = some (.bool e.pre) ∧ W.cell? (ad.add (i * 5 + 2)) = some (.int .i64 e.size) ∧
       W.cell? (ad.add (i * 5 + 3)) = some (.string ⟨e.etag.toArray⟩) ∧ W.cell? (ad.add (i * 5 + 4)) = some (.int .i64 e.time)) ∧
      e.name.length ≤ 1048576 ∧ e.etag.length ≤ 1048576 ∧ -9223372036854775808 ≤ e.size ∧ e.size ≤ 9223372036854775807 ∧ -9223372036854775808 ≤ e.time ∧ e.time ≤ 9223372036854775807) len fun i hil => by
      obtain ⟨ys, k, hD, hyl, hf⟩ := hi i (by omega)
      obtain ⟨v0, y0, c0, e0, r0⟩ := hf 0 _ rfl
      obtain ⟨v1, y1, c1, e1, r1⟩ := hf 1 _ rfl
      obtain ⟨v2, y2, c2, e2, r2⟩ := hf 2 _ rfl
      obtain ⟨v3, y3, c3, e3, r3⟩ := hf 3 _ rfl
      obtain ⟨v4, y4, c4, e4, r4⟩ := hf 4 _ rfl
      obtain ⟨s0, q0, rfl, _⟩ := DataW.trod_string Tryd.underlying9 r0
      obtain ⟨b1, q1, rfl⟩ := DataW.trod_bool Tryd.underlying4 r1
      obtain ⟨n2, q2, rfl, w2⟩ := DataW.trod_int Tryd.underlying3 r2
      obtain ⟨s3, q3, rfl, _⟩ := DataW.trod_string Tryd.underlying9 r3
      obtain ⟨n4, q4, rfl, w4⟩ := DataW.trod_int Tryd.underlying3 r4
      obtain rfl : v0 = .string s0 := by simpa using q0
      obtain rfl : v1 = .bool b1 := by simpa using q1
      obtain rfl : v2 = .int .i64 n2 := by simpa using q2
      obtain rfl : v3 = .string s3 := by simpa using q3
      obtain rfl : v4 = .int .i64 n4 := by simpa using q4
      have hb1 := RowKit2.bulk_part (H := H) (d := D i) (l := (List.range len).map D) (List.mem_map.2 ⟨i, List.mem_range.2 hil, rfl⟩)
      rw [hD] at hb1
      simp only [Rows.uptoBulk] at hb1
      have hs0 := RowKit2.bulk_part (H := H) (d := .lit (.string s0.data.toList)) (l := ys.map (·.1)) (List.mem_map.2 ⟨_, List.mem_of_getElem? e0, rfl⟩)
      have hs3 := RowKit2.bulk_part (H := H) (d := .lit (.string s3.data.toList)) (l := ys.map (·.1)) (List.mem_map.2 ⟨_, List.mem_of_getElem? e3, rfl⟩)
      rw [RowKit2.bulk_string] at hs0 hs3
      have i2 := RowKit2.wf_i64 w2
      have i4 := RowKit2.wf_i64 w4
      refine ⟨⟨s0.data.toList, b1, n2, s3.data.toList, n4⟩, ⟨by rw [Com.mk_data]; exact c0, c1, c2, by rw [Com.mk_data]; exact c3, c4⟩, ?_, ?_, i2.1, i2.2, i4.1, i4.2⟩
      · show s0.data.toList.length ≤ _; omega
      · show s3.data.toList.length ≤ _; omega
    refine ⟨es, hes.symm, ?_, fun e he => ?_, by omega⟩
    · rcases Nat.eq_zero_or_pos es.length with h0 | h0
      · exact .inl (List.eq_nil_of_length_eq_zero h0)
      · obtain ⟨⟨hc0, _⟩, _⟩ := hp 0 es[0] (List.getElem?_eq_getElem h0)
        obtain ⟨b, off, spot⟩ := ad
        obtain rfl : spot = none := by simpa [Addr.add] using World.cell?_spot hc0
        have hbl : b < W.heap.size := World.block_lt_of_cell? W _ (by simpa [Addr.add] using hc0)
        refine .inr ⟨b, off, rfl, hbl, fun j e he => ?_⟩
        obtain ⟨⟨c0, c1, c2, c3, c4⟩, _⟩ := hp j e he
        simp only [RowKit2.addr_add] at c0 c1 c2 c3 c4
        refine ⟨c0, ?_, ?_, ?_, ?_⟩
        · rw [Nat.add_assoc]; exact c1
        · rw [Nat.add_assoc]; exact c2
        · rw [Nat.add_assoc]; exact c3
        · rw [Nat.add_assoc]; exact c4
    · obtain ⟨j, hj, rfl⟩ := List.getElem_of_mem he
      exact (hp j _ (List.getElem?_eq_getElem hj)).2


/-- a struct's fields, each by itself -/
theorem struct_at {H : Type} {enc : TypeId × Value → H} {P : Program} {w : World} {base : Nat} {spare : Nat → Bool} {held : Bool} {t : TypeId} {fs : Array Field} {n : Nat} {cs : List Value} {x : DataW H × List MemPlace}
    (he : P.underlying t = some (.struct fs)) (h : DataW.trod enc P w base spare held n t cs = some x) :
    ∃ (ys : List (DataW H × List MemPlace)) (k : Nat), x.1 = .agg (ys.map (·.1)) ∧ (∀ z ∈ ys, ∀ q ∈ z.2, q ∈ x.2) ∧ cs.length = P.cellsOf t ∧
      ∀ (j : Nat) (f : Field), fs[j]? = some f → ∃ z, ys[j]? = some z ∧ DataW.trod enc P w base spare held k f.type ((cs.drop f.offset).take (P.cellsOf f.type)) = some z := by
  obtain ⟨ys, k, _, hx, hl, hyl, hf⟩ := DataW.trod_struct he h
  subst hx
  refine ⟨ys, k, rfl, fun z hz q hq => List.mem_flatMap.2 ⟨z, hz, hq⟩, hl, fun j f hj => ?_⟩
  have hjl : j < fs.size := (Array.getElem?_eq_some_iff.1 hj).1
  have hys : ys[j]? = some (ys[j]'(by omega)) := List.getElem?_eq_getElem (by omega)
  exact ⟨_, hys, (hf j f hj).trans hys⟩
theorem bulk_of {H : Type} {ys : List (DataW H × List MemPlace)} {j : Nat} {z : DataW H × List MemPlace} (h : ys[j]? = some z) : Rows.uptoBulk z.1 ≤ Rows.uptoBulkAll (ys.map (·.1)) :=
  RowKit2.bulk_part (List.mem_map.2 ⟨z, List.mem_of_getElem? h, rfl⟩)

theorem cInt : Tryd.prog.cellsOf 3 = 1 := by kernel_rfl
theorem cStr : Tryd.prog.cellsOf 9 = 1 := by kernel_rfl
theorem cId : Tryd.prog.cellsOf 51 = 3 := by kernel_rfl
theorem cPiece : Tryd.prog.cellsOf 123 = 5 := by kernel_rfl
theorem cPart : Tryd.prog.cellsOf 125 = 6 := by kernel_rfl
theorem cUpload : Tryd.prog.cellsOf 54 = 5 := by kernel_rfl
theorem cParts : Tryd.prog.cellsOf 52 = 1 := by kernel_rfl

/-- an id's three numbers -/
theorem open_id {H : Type} {enc : TypeId × Value → H} {w : World} {base : Nat} {spare : Nat → Bool} {held : Bool} {n : Nat} {c0 c1 c2 : Value} {x : DataW H × List MemPlace}
    (h : DataW.trod enc Tryd.prog w base spare held n 51 [c0, c1, c2] = some x) : ∃ a b c : Int, c0 = .int .i64 a ∧ c1 = .int .i64 b ∧ c2 = .int .i64 c ∧ Xd.I64 a ∧ Xd.I64 b ∧ Xd.I64 c := by
  obtain ⟨ys, k, _, _, _, hf⟩ := struct_at Tryd.underlying51 h
  obtain ⟨z0, _, r0⟩ := hf 0 _ rfl
  obtain ⟨z1, _, r1⟩ := hf 1 _ rfl
  obtain ⟨z2, _, r2⟩ := hf 2 _ rfl
  have r0 : DataW.trod enc Tryd.prog w base spare held k 3 (([c0, c1, c2].drop 0).take (Tryd.prog.cellsOf 3)) = some z0 := r0
  rw [cInt] at r0
  have r1 : DataW.trod enc Tryd.prog w base spare held k 3 (([c0, c1, c2].drop 1).take (Tryd.prog.cellsOf 3)) = some z1 := r1
  rw [cInt] at r1
  have r2 : DataW.trod enc Tryd.prog w base spare held k 3 (([c0, c1, c2].drop 2).take (Tryd.prog.cellsOf 3)) = some z2 := r2
  rw [cInt] at r2
  obtain ⟨a, q0, _, w0⟩ := DataW.trod_int Tryd.underlying3 r0
  obtain ⟨b, q1, _, w1⟩ := DataW.trod_int Tryd.underlying3 r1
  obtain ⟨c, q2, _, w2⟩ := DataW.trod_int Tryd.underlying3 r2
  exact ⟨a, b, c, by simpa using q0, by simpa using q1, by simpa using q2, RowKit2.wf_i64 w0, RowKit2.wf_i64 w1, RowKit2.wf_i64 w2⟩

theorem six {l : List Value} (h : l.length = 6) : ∃ a b c d e f, l = [a, b, c, d, e, f] := by
  match l, h with
  | [a, b, c, d, e, f], _ => exact ⟨a, b, c, d, e, f, rfl⟩

/-- a part's cells -/
theorem open_part {H : Type} {enc : TypeId × Value → H} {w : World} {base : Nat} {spare : Nat → Bool} {held : Bool} {n : Nat} {cs : List Value} {x : DataW H × List MemPlace}
    (h : DataW.trod enc Tryd.prog w base spare held n 125 cs = some x) (hk : Rows.uptoBulk x.1 ≤ 1048576) :
    ∃ (p : Xd.Pt) (n1 n2 n3 : Int), cs = [.int .i64 p.number, .int .i64 n1, .int .i64 n2, .int .i64 n3, .int .i64 p.size, .string ⟨p.etag.toArray⟩] ∧ Xd.PtFits p := by
  obtain ⟨ys, k, hy, _, hl, hf⟩ := struct_at Tryd.underlying125 h
  rw [cPart] at hl
  obtain ⟨x0, x1, x2, x3, x4, x5, rfl⟩ := six hl
  obtain ⟨z0, _, r0⟩ := hf 0 _ rfl
  obtain ⟨z1, e1, r1⟩ := hf 1 _ rfl
  have r0 : DataW.trod enc Tryd.prog w base spare held k 3 (([x0, x1, x2, x3, x4, x5].drop 0).take (Tryd.prog.cellsOf 3)) = some z0 := r0
  rw [cInt] at r0
  have r1 : DataW.trod enc Tryd.prog w base spare held k 123 (([x0, x1, x2, x3, x4, x5].drop 1).take (Tryd.prog.cellsOf 123)) = some z1 := r1
  rw [cPiece] at r1
  obtain ⟨nu, q0, _, w0⟩ := DataW.trod_int Tryd.underlying3 r0
  have b1 := bulk_of e1
  rw [hy] at hk
  simp only [Rows.uptoBulk] at hk
  have r1' : DataW.trod enc Tryd.prog w base spare held k 123 [x1, x2, x3, x4, x5] = some z1 := r1
  obtain ⟨ys2, k2, hy2, _, _, hf2⟩ := struct_at Tryd.underlying123 r1'
  obtain ⟨y0, _, s0⟩ := hf2 0 _ rfl
  obtain ⟨y1, _, s1⟩ := hf2 1 _ rfl
  obtain ⟨y2, e2, s2⟩ := hf2 2 _ rfl
  have s0 : DataW.trod enc Tryd.prog w base spare held k2 51 (([x1, x2, x3, x4, x5].drop 0).take (Tryd.prog.cellsOf 51)) = some y0 := s0
  rw [cId] at s0
  have s1 : DataW.trod enc Tryd.prog w base spare held k2 3 (([x1, x2, x3, x4, x5].drop 3).take (Tryd.prog.cellsOf 3)) = some y1 := s1
  rw [cInt] at s1
  have s2 : DataW.trod enc Tryd.prog w base spare held k2 9 (([x1, x2, x3, x4, x5].drop 4).take (Tryd.prog.cellsOf 9)) = some y2 := s2
  rw [cStr] at s2
  have s0' : DataW.trod enc Tryd.prog w base spare held k2 51 [x1, x2, x3] = some y0 := s0
  obtain ⟨n1, n2, n3, rfl, rfl, rfl, _, _, _⟩ := open_id s0'
  obtain ⟨sz, q1, _, w1⟩ := DataW.trod_int Tryd.underlying3 s1
  obtain ⟨et, q2, h2, _⟩ := DataW.trod_string Tryd.underlying9 s2
  have b2 := bulk_of e2
  rw [h2, RowKit2.bulk_string] at b2
  rw [hy2] at b1
  simp only [Rows.uptoBulk] at b1
  obtain rfl : x0 = .int .i64 nu := by simpa using q0
  obtain rfl : x4 = .int .i64 sz := by simpa using q1
  obtain rfl : x5 = .string et := by simpa using q2
  refine ⟨⟨nu, sz, et.data.toList⟩, n1, n2, n3, by rw [Com.mk_data], ?_, RowKit2.wf_i64 w0, RowKit2.wf_i64 w1⟩
  show et.data.toList.length ≤ _
  omega

/-- an upload's parts -/
theorem open_pts {H : Type} {enc : TypeId × Value → H} {W : World} {a : Option Addr} {len cap : Nat} {y : DataW H × List MemPlace} {n : Nat}
    (h : DataW.trod enc Tryd.prog W 0 (fun _ => true) true n 52 [.slice a len cap] = some y) (hk : Rows.uptoBulk y.1 ≤ 1048576) :
    ∃ ps : List Xd.Pt, len = ps.length ∧ XmlP.Pts W a ps ∧ (∀ p ∈ ps, Xd.PtFits p) ∧ ps.length ≤ 1048576 := by
  rcases Go.Deep.open_slice Tryd.underlying52 h with ⟨hcs, hx⟩ | ⟨ad, len', cap', m, n', D, Pl, hcs, hb, hl, hm, hmm, hx, hi⟩
  · simp at hcs
    obtain ⟨rfl, rfl, rfl⟩ := hcs
    exact ⟨[], rfl, .inl rfl, fun e he => by simp at he, by simp⟩
  · simp at hcs
    obtain ⟨rfl, rfl, rfl⟩ := hcs
    simp at hmm
    subst hmm hx
    simp only [Rows.uptoBulk] at hk
    rw [cPart] at hi
    have hlen := RowKit2.bulk_length (H := H) ((List.range len).map D)
    rw [List.length_map, List.length_range] at hlen
    obtain ⟨ps, hps, hp⟩ := RowKit2.list_of (p := fun i (p : Xd.Pt) => (∃ n1 n2 n3 : Int, ∀ j v, [Value.int .i64 p.number, .int .i64 n1, .int .i64 n2, .int .i64 n3, .int .i64 p.size, .string ⟨p.etag.toArray⟩][j]? = some v → W.cell? (ad.add (i * 6 + j)) = some v) ∧ Xd.PtFits p) len fun i hil => by
      obtain ⟨cs', hc, ht⟩ := hi i (by omega)
      have hb1 := RowKit2.bulk_part (H := H) (d := D i) (l := (List.range len).map D) (List.mem_map.2 ⟨i, List.mem_range.2 hil, rfl⟩)
      obtain ⟨p, n1, n2, n3, rfl, hpf⟩ := open_part ht (by show Rows.uptoBulk (D i) ≤ _; omega)
      obtain ⟨_, hcl, hat⟩ := World.cells?_some hc
      refine ⟨p, ⟨n1, n2, n3, fun j v hj => ?_⟩, hpf⟩
      have hjl : j < 6 := (List.getElem?_eq_some_iff.1 hj).1
      rw [← Go.Deep.add_add, hat j hjl, hj]
    refine ⟨ps, hps.symm, ?_, fun p hpm => ?_, by omega⟩
    · rcases Nat.eq_zero_or_pos ps.length with h0 | h0
      · exact .inl (List.eq_nil_of_length_eq_zero h0)
      · obtain ⟨⟨n1, n2, n3, hc⟩, _⟩ := hp 0 ps[0] (List.getElem?_eq_getElem h0)
        have hc0 := hc 0 _ rfl
        obtain ⟨b, off, spot⟩ := ad
        obtain rfl : spot = none := by simpa [Addr.add] using World.cell?_spot hc0
        have hbl : b < W.heap.size := World.block_lt_of_cell? W _ (by simpa [Addr.add] using hc0)
        refine .inr ⟨b, off, rfl, hbl, fun j e he => ?_⟩
        obtain ⟨⟨n1, n2, n3, hc⟩, _⟩ := hp j e he
        have c0 := hc 0 _ rfl
        have c1 := hc 1 _ rfl
        have c2 := hc 2 _ rfl
        have c3 := hc 3 _ rfl
        have c4 := hc 4 _ rfl
        have c5 := hc 5 _ rfl
        simp only [RowKit2.addr_add] at c0 c1 c2 c3 c4 c5
        refine ⟨c0, ⟨n1, ?_⟩, ⟨n2, ?_⟩, ⟨n3, ?_⟩, ?_, ?_⟩
        · rw [Nat.add_assoc]; exact c1
        · rw [Nat.add_assoc]; exact c2
        · rw [Nat.add_assoc]; exact c3
        · rw [Nat.add_assoc]; exact c4
        · rw [Nat.add_assoc]; exact c5
    · obtain ⟨j, hj, rfl⟩ := List.getElem_of_mem hpm
      exact (hp j _ (List.getElem?_eq_getElem hj)).2

/-- a slice's form, out of its reading -/
theorem slice_of {H : Type} {enc : TypeId × Value → H} {P : Program} {w : World} {base : Nat} {spare : Nat → Bool} {held : Bool} {t e : TypeId} {n : Nat} {v : Value} {x : DataW H × List MemPlace}
    (ht : P.underlying t = some (.slice e)) (h : DataW.trod enc P w base spare held n t [v] = some x) : ∃ a l c, v = .slice a l c := by
  rcases Go.Deep.open_slice ht h with ⟨h, _⟩ | ⟨a, len, cap, _, _, _, _, h, _⟩
  · exact ⟨_, _, _, by simpa using h⟩
  · exact ⟨_, _, _, by simpa using h⟩

/-- a catalog's buckets -/
theorem open_bks {H : Type} {enc : TypeId × Value → H} {W : World} {a : Option Addr} {len cap : Nat} {y : DataW H × List MemPlace} {n : Nat}
    (h : DataW.trod enc Tryd.prog W 0 (fun _ => true) true n 46 [.slice a len cap] = some y) (hk : Rows.uptoBulk y.1 ≤ 1048576) :
    ∃ bs : List Xd.Bk, len = bs.length ∧ XmlM.Bks W a bs ∧ (∀ b ∈ bs, Xd.BkFits b) ∧ bs.length ≤ 1048576 := by
  rcases RowKit2.open_structs Tryd.underlying46 Tryd.underlying121 (by kernel_rfl) (by kernel_rfl) h with ⟨hcs, hx⟩ | ⟨ad, len', cap', m, D, Pl, hcs, hl, hm, hmm, hx, hi⟩
  · simp at hcs
    obtain ⟨rfl, rfl, rfl⟩ := hcs
    exact ⟨[], rfl, .inl rfl, fun e he => by simp at he, by simp⟩
  · simp at hcs
    obtain ⟨rfl, rfl, rfl⟩ := hcs
    simp at hmm
    subst hmm hx
    simp only [Rows.uptoBulk] at hk
    have hlen := RowKit2.bulk_length (H := H) ((List.range len).map D)
    rw [List.length_map, List.length_range] at hlen
    obtain ⟨es, hes, hp⟩ := RowKit2.list_of (p := fun i (e : Xd.Bk) =>
      (W.cell? (ad.add (i * 5 + 0)) = some (.string ⟨e.name.toArray⟩) ∧ W.cell? (ad.add (i * 5 + 1)) = some (.int .i64 e.time) ∧ W.cell? (ad.add (i * 5 + 2)) = some (.int .i64 e.days) ∧
       (∃ a3 l3 c3, W.cell? (ad.add (i * 5 + 3)) = some (.slice a3 l3 c3)) ∧ ∃ a4 l4 c4, W.cell? (ad.add (i * 5 + 4)) = some (.slice a4 l4 c4)) ∧ Xd.BkFits e) len fun i hil => by
      obtain ⟨ys, k, hD, hyl, hf⟩ := hi i (by omega)
      obtain ⟨v0, y0, c0, e0, r0⟩ := hf 0 _ rfl
      obtain ⟨v1, y1, c1, e1, r1⟩ := hf 1 _ rfl
      obtain ⟨v2, y2, c2, e2, r2⟩ := hf 2 _ rfl
      obtain ⟨v3, y3, c3, e3, r3⟩ := hf 3 _ rfl
      obtain ⟨v4, y4, c4, e4, r4⟩ := hf 4 _ rfl
      obtain ⟨s0, q0, rfl, _⟩ := DataW.trod_string Tryd.underlying9 r0
      obtain ⟨n1, q1, _, w1⟩ := DataW.trod_int Tryd.underlying3 r1
      obtain ⟨n2, q2, _, w2⟩ := DataW.trod_int Tryd.underlying3 r2
      obtain ⟨a3, l3, d3, rfl⟩ := slice_of Tryd.underlying118 r3
      obtain ⟨a4, l4, d4, rfl⟩ := slice_of Tryd.underlying119 r4
      obtain rfl : v0 = .string s0 := by simpa using q0
      obtain rfl : v1 = .int .i64 n1 := by simpa using q1
      obtain rfl : v2 = .int .i64 n2 := by simpa using q2
      have hb1 := RowKit2.bulk_part (H := H) (d := D i) (l := (List.range len).map D) (List.mem_map.2 ⟨i, List.mem_range.2 hil, rfl⟩)
      rw [hD] at hb1
      simp only [Rows.uptoBulk] at hb1
      have hs0 := bulk_of e0
      rw [RowKit2.bulk_string] at hs0
      refine ⟨⟨s0.data.toList, n1, n2⟩, ⟨by rw [Com.mk_data]; exact c0, c1, c2, ⟨a3, l3, d3, c3⟩, a4, l4, d4, c4⟩, ?_, RowKit2.wf_i64 w1, RowKit2.wf_i64 w2⟩
      show s0.data.toList.length ≤ _
      omega
    refine ⟨es, hes.symm, ?_, fun e he => ?_, by omega⟩
    · rcases Nat.eq_zero_or_pos es.length with h0 | h0
      · exact .inl (List.eq_nil_of_length_eq_zero h0)
      · obtain ⟨⟨hc0, _⟩, _⟩ := hp 0 es[0] (List.getElem?_eq_getElem h0)
        obtain ⟨b, off, spot⟩ := ad
        obtain rfl : spot = none := by simpa [Addr.add] using World.cell?_spot hc0
        have hbl : b < W.heap.size := World.block_lt_of_cell? W _ (by simpa [Addr.add] using hc0)
        refine .inr ⟨b, off, rfl, hbl, fun j e he => ?_⟩
        obtain ⟨⟨c0, c1, c2, ⟨a3, l3, d3, c3⟩, a4, l4, d4, c4⟩, _⟩ := hp j e he
        simp only [RowKit2.addr_add] at c0 c1 c2 c3 c4
        refine ⟨c0, ?_, ?_, ⟨a3, l3, d3, ?_⟩, a4, l4, d4, ?_⟩
        · rw [Nat.add_assoc]; exact c1
        · rw [Nat.add_assoc]; exact c2
        · rw [Nat.add_assoc]; exact c3
        · rw [Nat.add_assoc]; exact c4
    · obtain ⟨j, hj, rfl⟩ := List.getElem_of_mem he
      exact (hp j _ (List.getElem?_eq_getElem hj)).2
end Go.Proofs.YtmimkgfkicgfiaaDoor.DocOpen
