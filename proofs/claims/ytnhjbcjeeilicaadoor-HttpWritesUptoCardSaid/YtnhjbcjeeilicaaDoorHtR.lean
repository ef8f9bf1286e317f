/-
  What the rows on HTTP share: the listed variables out of the listing; requests, responses and bytes that came in.
-/
import Derived.Test.YtnhjbcjeeilicaaDoorRowKit
import Derived.Test.YtnhjbcjeeilicaaDoorHtK
import Derived.Test.YtnhjbcjeeilicaaDoorCards
import Derived.Test.YtnhjbcjeeilicaaDoorTie
import Derived.Deep.DeepHandedRow
import Derived.Stop.LaidErr
import Derived.Deep.DeepWitnessRowRef
import Derived.LaidMore
import Derived.Lay
import Derived.Lib.LaidTab
import Derived.ChangeSlices
import Derived.SizedLaws
import Derived.Shelf.LaysM
namespace Go.Proofs.YtnhjbcjeeilicaaDoor.HtR
open Go.ChangeShapes Go.WideShapes Go.ChangeAt Go.RowKit Go.Proofs.YtnhjbcjeeilicaaDoor Go.Proofs.YtnhjbcjeeilicaaDoor.Ht Go.Proofs.YtnhjbcjeeilicaaDoor.HtW
open Go.ChangeMaps (open_string shut_string)

theorem star : "*" ++ "errors.errorString" = "*errors.errorString" := by decide
theorem row (u : TypeId) (h : Tryd.prog.typeName? 3 u = some "*errors.errorString") : u = 134 :=
  typeName_ptr_named (nm := "errors.errorString") (by rw [star]; kernel_rfl) (by kernel_rfl) (by decide) u (by rw [star]; exact h)
theorem gR : Tryd.prog.globalNamed "bollard/api.ErrRequest" = some 2 := by kernel_rfl
theorem tR : (Tryd.prog.globals[2]?).map (·.type) = some 42 := by kernel_rfl
theorem gL : Tryd.prog.globalNamed "bollard/api.ErrLarge" = some 0 := by kernel_rfl
theorem tL : (Tryd.prog.globals[0]?).map (·.type) = some 42 := by kernel_rfl
theorem cS : Tryd.prog.cellsOf 136 = 1 := by kernel_rfl
theorem cT : Tryd.prog.cellsOf 9 = 1 := by kernel_rfl
theorem tabType : (Tryd.prog.globals[3]?).map (·.type) = some 114 := by kernel_rfl
theorem cellsTab : Tryd.prog.cellsOf 114 = 20 := by kernel_rfl
theorem cellsU64 : Tryd.prog.cellsOf 93 = 1 := by kernel_rfl
theorem tab {W : World} (h : laidMetH Tryd.prog Rows.httpFieldsRow.laid W) : HtK.Tab W := by
  rw [MakeChecks.laidMetH_plain _ _ _ (by kernel_rfl)] at h
  refine Lib.tabIs_of_head (rest := Rows.httpFieldsRow.laid.drop 3) HtK.tabNum tabType Tryd.underlying114 Tryd.underlying93 cellsU64 cellsTab ?_
  exact laidMet.tail (laidMet.tail h)
theorem errs {W : World} (h : laidMetH Tryd.prog Rows.httpFieldsRow.laid W) : ∃ aR aL, Errs W aR aL := by
  rw [MakeChecks.laidMetH_plain _ _ _ (by kernel_rfl)] at h
  have h4 := laidMet.tail (laidMet.tail (laidMet.tail (laidMet.tail h)))
  obtain ⟨a0, s0, r0, _⟩ := laid_sentinel h4 gL tL Tryd.underlying42 row Tryd.underlying134 Tryd.underlying136 rfl rfl Tryd.underlying9 cS cT
  obtain ⟨a1, s1, r1, _⟩ := laid_sentinel (laidMet.tail h4) gR tR Tryd.underlying42 row Tryd.underlying134 Tryd.underlying136 rfl rfl Tryd.underlying9 cS cT
  exact ⟨a1, a0, by simpa using World.var?_cell gR r1 0, by simpa using World.var?_cell gL r0 0⟩
theorem mx {w : World} (h : w.ShapedOpen Tryd.prog) : HtC.Mx w :=
  Go.Proofs.cell_of_shapedOpen_int (zero := #[.int .i64 0]) (t := 3) h (of_decide_eq_true (by kernel_rfl)) (by kernel_rfl) rfl (by kernel_rfl) (by kernel_rfl) Tryd.underlying3
/-- a world in which all that is listed lies -/
noncomputable def w0 (os : Os) : World := World.laidAll Tryd.prog os Rows.httpFieldsRow.laid
theorem w0_os (os : Os) : (w0 os).os = os := World.laidAll_os _ _ _
theorem w0_met (os : Os) (args : Array Value) : laidMetH Tryd.prog Rows.httpFieldsRow.laid ((w0 os).forCall (fun _ _ => 0) ⟨#[], args, []⟩).memory := by
  rw [MakeChecks.laidMetH_plain _ _ _ (by kernel_rfl)]
  exact laidMet_laidAll _ (by kernel_rfl) (by kernel_rfl)

/-- a struct's fields, each by itself -/
theorem struct_at {H : Type} {enc : TypeId × Value → H} {P : Program} {w : World} {base : Nat} {spare : Nat → Bool} {held : Bool} {t : TypeId} {fs : Array Field} {n : Nat} {cs : List Value} {x : DataW H × List MemPlace}
    (he : P.underlying t = some (.struct fs)) (h : DataW.trod enc P w base spare held n t cs = some x) :
    ∃ (ys : List (DataW H × List MemPlace)) (k : Nat), x.1 = .agg (ys.map (·.1)) ∧ (∀ z ∈ ys, ∀ q ∈ z.2, q ∈ x.2) ∧ cs.length = P.cellsOf t ∧
      ∀ (j : Nat) (f : Field), fs[j]? = some f → ∃ z, ys[j]? = some z ∧ DataW.trod enc P w base spare held k f.type ((cs.drop f.offset).take (P.cellsOf f.type)) = some z := by
  obtain ⟨ys, k, _, hx, hl, hyl, hf⟩ := DataW.trod_struct he h
  subst hx
  refine ⟨ys, k, rfl, fun z hz q hq => List.mem_flatMap.2 ⟨z, hz, hq⟩, hl, fun j f hj => ?_⟩
  have hjl : j < fs.size := (Array.getElem?_eq_some_iff.1 hj).1
  have hys : ys[j]? = some (ys[j]'(by omega)) := List.getElem?_eq_getElem (by omega)
  exact ⟨_, hys, (hf j f hj).trans hys⟩
theorem bulk_of {H : Type} {ys : List (DataW H × List MemPlace)} {j : Nat} {z : DataW H × List MemPlace} (h : ys[j]? = some z) : Rows.uptoBulk z.1 ≤ Rows.uptoBulkAll (ys.map (·.1)) :=
  RowKit2.bulk_part (List.mem_map.2 ⟨z, List.mem_of_getElem? h, rfl⟩)

theorem cStr : Tryd.prog.cellsOf 9 = 1 := by kernel_rfl
theorem cInt : Tryd.prog.cellsOf 3 = 1 := by kernel_rfl
theorem cFs : Tryd.prog.cellsOf 22 = 1 := by kernel_rfl
theorem cBs : Tryd.prog.cellsOf 23 = 1 := by kernel_rfl
theorem cB : Tryd.prog.cellsOf 5 = 1 := by kernel_rfl
theorem cReq : Tryd.prog.cellsOf 25 = 4 := by kernel_rfl
theorem cRes : Tryd.prog.cellsOf 35 = 3 := by kernel_rfl
theorem three {l : Array Value} (h : l.size = 3) : ∃ a b c, l = #[a, b, c] := by
  obtain ⟨l⟩ := l
  match l, h with
  | [a, b, c], _ => exact ⟨a, b, c, rfl⟩
theorem four {l : Array Value} (h : l.size = 4) : ∃ a b c d, l = #[a, b, c, d] := by
  obtain ⟨l⟩ := l
  match l, h with
  | [a, b, c, d], _ => exact ⟨a, b, c, d, rfl⟩

/-- fields that came in -/
theorem open_fields {H : Type} {enc : TypeId × Value → H} {W : World} {v : Value} {y : DataW H × List MemPlace} {n : Nat}
    (h : DataW.trod enc Tryd.prog W 0 (fun _ => true) true n 22 [v] = some y) :
    ∃ (a : Option Addr) (fs : List Fld) (c : Nat), v = .slice a fs.length c ∧ Fs W a fs ∧ fs.length ≤ c ∧ (a = none → fs.length = 0 ∧ c = 0) ∧ fs.length ≤ 9223372036854775807 ∧
      fs.length ≤ Rows.uptoBulk y.1 ∧ ∀ q ∈ fs, q.1.length ≤ Rows.uptoBulk y.1 ∧ q.2.length ≤ Rows.uptoBulk y.1 := by
  rcases RowKit2.open_structs Tryd.underlying22 Tryd.underlying30 (by kernel_rfl) (by kernel_rfl) h with ⟨hcs, hx⟩ | ⟨ad, len, cap, m, D, Pl, hcs, hl, hm, hmm, hx, hi⟩
  · obtain rfl : v = .slice none 0 0 := by simpa using hcs
    exact ⟨none, [], 0, rfl, .inl rfl, Nat.le_refl _, fun _ => ⟨rfl, rfl⟩, by simp, by simp, fun e he => by simp at he⟩
  · obtain rfl : v = .slice (some ad) len cap := by simpa using hcs
    simp at hmm
    subst hmm hx
    simp only [Rows.uptoBulk]
    have hlen := RowKit2.bulk_length (H := H) ((List.range len).map D)
    rw [List.length_map, List.length_range] at hlen
    obtain ⟨es, hes, hp⟩ := RowKit2.list_of (p := fun i (e : Fld) =>
      (W.cell? (ad.add (i * 2 + 0)) = some (.string ⟨e.1.toArray⟩) ∧ W.cell? (ad.add (i * 2 + 1)) = some (.string ⟨e.2.toArray⟩)) ∧ e.1.length ≤ Rows.uptoBulkAll ((List.range len).map D) ∧ e.2.length ≤ Rows.uptoBulkAll ((List.range len).map D)) len fun i hil => by
      obtain ⟨ys, k, hD, hyl, hf⟩ := hi i (by omega)
      obtain ⟨v0, y0, c0, e0, r0⟩ := hf 0 _ rfl
      obtain ⟨v1, y1, c1, e1, r1⟩ := hf 1 _ rfl
      obtain ⟨s0, q0, rfl, _⟩ := DataW.trod_string Tryd.underlying9 r0
      obtain ⟨s1, q1, rfl, _⟩ := DataW.trod_string Tryd.underlying9 r1
      obtain rfl : v0 = .string s0 := by simpa using q0
      obtain rfl : v1 = .string s1 := by simpa using q1
      have hb1 := RowKit2.bulk_part (H := H) (d := D i) (l := (List.range len).map D) (List.mem_map.2 ⟨i, List.mem_range.2 hil, rfl⟩)
      rw [hD] at hb1
      simp only [Rows.uptoBulk] at hb1
      have hs0 := RowKit2.bulk_part (H := H) (d := .lit (.string s0.data.toList)) (l := ys.map (·.1)) (List.mem_map.2 ⟨_, List.mem_of_getElem? e0, rfl⟩)
      have hs1 := RowKit2.bulk_part (H := H) (d := .lit (.string s1.data.toList)) (l := ys.map (·.1)) (List.mem_map.2 ⟨_, List.mem_of_getElem? e1, rfl⟩)
      rw [RowKit2.bulk_string] at hs0 hs1
      refine ⟨(s0.data.toList, s1.data.toList), ⟨by rw [Com.mk_data]; exact c0, by rw [Com.mk_data]; exact c1⟩, ?_, ?_⟩
      · show s0.data.toList.length ≤ _; omega
      · show s1.data.toList.length ≤ _; omega
    refine ⟨some ad, es, m, by rw [hes], ?_, by omega, (fun h => by cases h), by simp only [maxLen] at hm; omega, by omega, fun e he => ?_⟩
    · rcases Nat.eq_zero_or_pos es.length with h0 | h0
      · exact .inl (List.eq_nil_of_length_eq_zero h0)
      · obtain ⟨⟨hc0, _⟩, _⟩ := hp 0 es[0] (List.getElem?_eq_getElem h0)
        obtain ⟨b, off, spot⟩ := ad
        obtain rfl : spot = none := by simpa [Addr.add] using World.cell?_spot hc0
        have hbl : b < W.heap.size := World.block_lt_of_cell? W _ (by simpa [Addr.add] using hc0)
        refine .inr ⟨b, off, rfl, hbl, fun j e he => ?_⟩
        obtain ⟨⟨c0, c1⟩, _⟩ := hp j e he
        simp only [RowKit2.addr_add] at c0 c1
        exact ⟨c0, by rw [Nat.add_assoc]; exact c1⟩
    · obtain ⟨j, hj, rfl⟩ := List.getElem_of_mem he
      have := (hp j _ (List.getElem?_eq_getElem hj)).2
      omega

theorem byte_of {n : Int} (h : (Lit.int .u8 n).wf = true) : n = (((UInt8.ofNat n.toNat).toNat : Nat) : Int) := by
  have : 0 ≤ n ∧ n ≤ 255 := by simpa [Lit.wf, IntKind.min, IntKind.max, IntKind.signed, IntKind.bits] using h
  simp
  omega
/-- a slice of bytes that came in -/
theorem open_bytes {H : Type} {enc : TypeId × Value → H} {W : World} {v : Value} {y : DataW H × List MemPlace} {n : Nat}
    (h : DataW.trod enc Tryd.prog W 0 (fun _ => true) true n 23 [v] = some y) :
    ∃ a l c, v = .slice a l.length c ∧ Bs W a l c ∧ l.length ≤ 9223372036854775807 ∧ l.length ≤ Rows.uptoBulk y.1 ∧ ((y.1 = .nil ∧ l = []) ∨ ∃ els sp, y.1 = .slice els sp ∧ els.length = l.length) := by
  rcases open_ints Tryd.underlying23 Tryd.underlying5 cB h with ⟨hcs, hx⟩ | ⟨a, len, cap, zs, hcs, hb, hl, hm, hz, hx, hc, hwf⟩
  · obtain rfl : v = .slice none 0 0 := by simpa using hcs
    exact ⟨none, [], 0, rfl, ⟨Nat.le_refl _, fun _ => rfl, .inl rfl⟩, by simp, by simp, .inl ⟨by rw [hx], rfl⟩⟩
  · obtain rfl : v = .slice (some a) len cap := by simpa using hcs
    simp only [if_true] at hz
    have hlen : ((zs.take len).map fun n => UInt8.ofNat n.toNat).length = len := by simp; omega
    refine ⟨some a, (zs.take len).map fun n => UInt8.ofNat n.toNat, cap, by rw [hlen], ⟨by rw [hlen]; exact hl, (fun h => by cases h), ?_⟩, by simp only [maxLen] at hm; omega, ?_, .inr ⟨_, _, by rw [hx], by simp [lits]⟩⟩
    · rcases Nat.eq_zero_or_pos len with h0 | h0
      · left; subst h0; simp
      · right
        have hc0 := hc 0 (by omega)
        obtain ⟨b, off, spot⟩ := a
        obtain rfl : spot = none := by simpa [Addr.add] using World.cell?_spot hc0
        refine ⟨b, off, rfl, ?_, fun j x hj => ?_⟩
        · exact World.block_lt_of_cell? W _ (by simpa [addr_add] using hc0)
        · simp only [List.getElem?_map, Option.map_eq_some_iff] at hj
          obtain ⟨z, hz1, rfl⟩ := hj
          have hjl : j < (zs.take len).length := (List.getElem?_eq_some_iff.1 hz1).1
          rw [List.length_take] at hjl
          rw [List.getElem?_take, if_pos (by omega)] at hz1
          have := hc j (by omega)
          rw [addr_add, List.getD_eq_getElem?_getD, hz1] at this
          rw [this, ← byte_of (hwf z (List.mem_of_getElem? hz1))]
          rfl
    · rw [hx, hlen]
      simp only [Rows.uptoBulk]
      have := RowKit2.bulk_length (lits (H := H) .u8 (zs.take len))
      simp [lits] at this
      simp [lits]
      omega

theorem len_le {H : Type} {ts : List TypeId} {ds : List (DataW H)} (h : (DataW.weightsEach Tryd.prog ts ds).all (· ≤ reachBytes) = true) {j : Nat} {d : DataW H} {l : List UInt8} (ht : ts[j]? = some 23) (hd : ds[j]? = some d)
    (hl : (d = .nil ∧ l = []) ∨ ∃ els sp, d = .slice els sp ∧ els.length = l.length) : l.length ≤ 140737488351232 := by
  rcases hl with ⟨_, rfl⟩ | ⟨els, sp, rfl, he⟩
  · simp
  · have := sized_slice h ht hd Tryd.underlying23
    have hb : Tryd.prog.bytesOf 5 = 1 := by kernel_rfl
    have hr : reachBytes = 140737488351232 := by decide
    rw [hb, hr] at this
    omega

/-- a request's four cells -/
theorem open_req {H : Type} {enc : TypeId × Value → H} {w : World} {n : Nat} {c0 c1 c2 c3 : Value} {x : DataW H × List MemPlace}
    (h : DataW.trod enc Tryd.prog w 0 (fun _ => true) true n 25 [c0, c1, c2, c3] = some x) :
    ∃ (m t : ByteArray) (a : Option Addr) (fs : List Fld) (c : Nat) (ab : Option Addr) (bd : List UInt8) (cb : Nat), c0 = .string m ∧ c1 = .string t ∧ c2 = .slice a fs.length c ∧ c3 = .slice ab bd.length cb ∧
      m.size ≤ Rows.uptoBulk x.1 ∧ t.size ≤ Rows.uptoBulk x.1 ∧ Fs w a fs ∧ fs.length ≤ c ∧ (a = none → fs.length = 0 ∧ c = 0) ∧ fs.length ≤ 9223372036854775807 ∧ fs.length ≤ Rows.uptoBulk x.1 ∧ (∀ q ∈ fs, q.1.length ≤ Rows.uptoBulk x.1 ∧ q.2.length ≤ Rows.uptoBulk x.1) ∧
      Bs w ab bd cb ∧ bd.length ≤ 9223372036854775807 ∧ bd.length ≤ Rows.uptoBulk x.1 := by
  obtain ⟨ys, k, hx, _, _, hf⟩ := struct_at Tryd.underlying25 h
  obtain ⟨z0, y0, r0⟩ := hf 0 _ rfl
  obtain ⟨z1, y1, r1⟩ := hf 1 _ rfl
  obtain ⟨z2, y2, r2⟩ := hf 2 _ rfl
  obtain ⟨z3, y3, r3⟩ := hf 3 _ rfl
  have r0 : DataW.trod enc Tryd.prog w 0 (fun _ => true) true k 9 (([c0, c1, c2, c3].drop 0).take (Tryd.prog.cellsOf 9)) = some z0 := r0
  rw [cStr] at r0
  have r1 : DataW.trod enc Tryd.prog w 0 (fun _ => true) true k 9 (([c0, c1, c2, c3].drop 1).take (Tryd.prog.cellsOf 9)) = some z1 := r1
  rw [cStr] at r1
  have r2 : DataW.trod enc Tryd.prog w 0 (fun _ => true) true k 22 (([c0, c1, c2, c3].drop 2).take (Tryd.prog.cellsOf 22)) = some z2 := r2
  rw [cFs] at r2
  have r3 : DataW.trod enc Tryd.prog w 0 (fun _ => true) true k 23 (([c0, c1, c2, c3].drop 3).take (Tryd.prog.cellsOf 23)) = some z3 := r3
  rw [cBs] at r3
  rw [hx]
  simp only [Rows.uptoBulk]
  have b0 := bulk_of y0
  have b1 := bulk_of y1
  have b2 := bulk_of y2
  have b3 := bulk_of y3
  obtain ⟨s0, q0, e0, _⟩ := DataW.trod_string Tryd.underlying9 r0
  obtain ⟨s1, q1, e1, _⟩ := DataW.trod_string Tryd.underlying9 r1
  rw [e0] at b0
  rw [e1] at b1
  rw [RowKit2.bulk_string, Com.toList_length] at b0 b1
  have r2' : DataW.trod enc Tryd.prog w 0 (fun _ => true) true k 22 [c2] = some z2 := r2
  have r3' : DataW.trod enc Tryd.prog w 0 (fun _ => true) true k 23 [c3] = some z3 := r3
  obtain ⟨a, fs, c, rfl, hp, hc, hn, hl, hk, hq⟩ := open_fields r2'
  obtain ⟨ab, bd, cb, rfl, hb, hbl, hbk, _⟩ := open_bytes r3'
  exact ⟨s0, s1, a, fs, c, ab, bd, cb, by simpa using q0, by simpa using q1, rfl, rfl, by omega, by omega, hp, hc, hn, hl, by omega, fun q hm => ⟨by have := (hq q hm).1; omega, by have := (hq q hm).2; omega⟩, hb, hbl, by omega⟩

/-- a response's three cells -/
theorem open_res {H : Type} {enc : TypeId × Value → H} {w : World} {n : Nat} {c0 c1 c2 : Value} {x : DataW H × List MemPlace}
    (h : DataW.trod enc Tryd.prog w 0 (fun _ => true) true n 35 [c0, c1, c2] = some x) :
    ∃ (st : Int) (a : Option Addr) (fs : List Fld) (c : Nat) (ab : Option Addr) (bd : List UInt8) (cb : Nat), c0 = .int .i64 st ∧ c1 = .slice a fs.length c ∧ c2 = .slice ab bd.length cb ∧
      (-9223372036854775808 ≤ st ∧ st ≤ 9223372036854775807) ∧ Fs w a fs ∧ fs.length ≤ c ∧ (a = none → fs.length = 0 ∧ c = 0) ∧ fs.length ≤ 9223372036854775807 ∧ fs.length ≤ Rows.uptoBulk x.1 ∧ (∀ q ∈ fs, q.1.length ≤ Rows.uptoBulk x.1 ∧ q.2.length ≤ Rows.uptoBulk x.1) ∧
      Bs w ab bd cb ∧ bd.length ≤ 9223372036854775807 ∧ bd.length ≤ Rows.uptoBulk x.1 := by
  obtain ⟨ys, k, hx, _, _, hf⟩ := struct_at Tryd.underlying35 h
  obtain ⟨z0, y0, r0⟩ := hf 0 _ rfl
  obtain ⟨z1, y1, r1⟩ := hf 1 _ rfl
  obtain ⟨z2, y2, r2⟩ := hf 2 _ rfl
  have r0 : DataW.trod enc Tryd.prog w 0 (fun _ => true) true k 3 (([c0, c1, c2].drop 0).take (Tryd.prog.cellsOf 3)) = some z0 := r0
  rw [cInt] at r0
  have r1 : DataW.trod enc Tryd.prog w 0 (fun _ => true) true k 22 (([c0, c1, c2].drop 1).take (Tryd.prog.cellsOf 22)) = some z1 := r1
  rw [cFs] at r1
  have r2 : DataW.trod enc Tryd.prog w 0 (fun _ => true) true k 23 (([c0, c1, c2].drop 2).take (Tryd.prog.cellsOf 23)) = some z2 := r2
  rw [cBs] at r2
  rw [hx]
  simp only [Rows.uptoBulk]
  have b1 := bulk_of y1
  have b2 := bulk_of y2
  obtain ⟨st, q0, _, w0⟩ := DataW.trod_int Tryd.underlying3 r0
  have r1' : DataW.trod enc Tryd.prog w 0 (fun _ => true) true k 22 [c1] = some z1 := r1
  have r2' : DataW.trod enc Tryd.prog w 0 (fun _ => true) true k 23 [c2] = some z2 := r2
  obtain ⟨a, fs, c, rfl, hp, hc, hn, hl, hk, hq⟩ := open_fields r1'
  obtain ⟨ab, bd, cb, rfl, hb, hbl, hbk, _⟩ := open_bytes r2'
  exact ⟨st, a, fs, c, ab, bd, cb, by simpa using q0, rfl, rfl, RowKit2.wf_i64 w0, hp, hc, hn, hl, by omega, fun q hm => ⟨by have := (hq q hm).1; omega, by have := (hq q hm).2; omega⟩, hb, hbl, by omega⟩
end Go.Proofs.YtnhjbcjeeilicaaDoor.HtR
