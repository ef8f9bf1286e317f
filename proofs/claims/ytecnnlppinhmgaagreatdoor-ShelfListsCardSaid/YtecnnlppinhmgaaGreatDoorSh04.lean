/-
  The walk of package shelf's List where all files are called as blobs, up to the sort. Layings of the library at this seat, by the kit's own programs, in plain words. slices.SortFunc of ids by package shelf's Compare. What the rows of ShelfCuts and ShelfLists share: the listed variables out of the listing; an Over, as it came in.
-/
import Derived.Test.YtecnnlppinhmgaaGreatDoorSe04
import Derived.Test.YtecnnlppinhmgaaGreatDoorSh01
import Derived.Test.YtecnnlppinhmgaaGreatDoorSh02
import Derived.Test.YtecnnlppinhmgaaGreatDoorSh03
import Derived.Shelf.SlLaysF0
import Derived.Ground.SlsfProg
import Derived.Test.YtecnnlppinhmgaaGreatDoorProg
import Derived.Shelf.SlSortCmp.NoneTotal
import Derived.LaidMore
namespace Go.Proofs.YtecnnlppinhmgaaGreatDoor.SfK
open Go.RowKit Go.Proofs.YtecnnlppinhmgaaGreatDoor Go.Proofs.YtecnnlppinhmgaaGreatDoor.Dw Go.Proofs.YtecnnlppinhmgaaGreatDoor.SfA Go.Proofs.YtecnnlppinhmgaaGreatDoor.SfB Go.Proofs.YtecnnlppinhmgaaGreatDoor.IdBox Go.Proofs.YtecnnlppinhmgaaGreatDoor.SfI Go.Proofs.YtecnnlppinhmgaaGreatDoor.SfJ

attribute [local go_sem] Oper.semAt_some

/-- ids' cells -/
def icells (ids : List Id3) : List Value := ids.flatMap fun i => [.int .i64 (i.a : Int), .int .i64 (i.b : Int), .int .i64 (i.c : Int)]
theorem icells_snoc (ids : List Id3) (i : Id3) : icells (ids ++ [i]) = icells ids ++ [.int .i64 (i.a : Int), .int .i64 (i.b : Int), .int .i64 (i.c : Int)] := by simp [icells]
theorem own_isCells {w : World} {base : Nat} {e : TypeId} {size : Nat} {v : Value} {n : Nat} {xs : List Value} (h : w.ownsRow base e size v n xs) {j : Nat} {o : Obj} (hj : v.ownBlock = some j) (ho : w.heap[j]? = some o) : o.isCells = true := by
  rcases h.2 with ⟨rfl, _⟩ | ⟨g, cap, cur, hv, hb, hcell, _⟩
  · cases hj
  · rw [hv] at hj
    obtain rfl : g = j := by simpa [Value.ownBlock] using hj
    rw [hcell] at ho
    cases ho
    rfl
theorem own_bides {B0 c : Nat} {W W' : World} {row : Option Nat} {e : TypeId} {size : Nat} {v : Value} {n : Nat} {xs : List Value} (h : W.ownsRow B0 e size v n xs) (hc : c < B0) (hg : W.grownBy W' row) (hr : ∀ r, row = some r → r = c ∨ (B0 ≤ r ∧ ∃ o : Obj, W.heap[r]? = some o ∧ o.isCells = false)) : W'.ownsRow B0 e size v n xs := by
  refine h.kept hg ?_
  rcases h.2 with ⟨rfl, _⟩ | ⟨g, cap, cur, hv, hb, hcell, _⟩
  · exact .inl rfl
  · right
    intro e'
    have hvb : v.ownBlock = some g := by rw [hv]; rfl
    rw [hvb] at e'
    rcases hr g e'.symm with h' | ⟨_, o, ho, ho'⟩
    · omega
    · rw [hcell] at ho; cases ho; cases ho'
theorem own_obj {w : World} {base : Nat} {e : TypeId} {size : Nat} {v : Value} {n : Nat} {xs : List Value} (h : w.ownsRow base e size v n xs) {D : Nat} {o : Obj} (o' : Obj) (hD : w.heap[D]? = some o) (ho : o.isCells = false) : (w.putObj D o').ownsRow base e size v n xs := by
  refine h.kept (grownBy_putObj' w D o') ?_
  rcases h.2 with ⟨rfl, _⟩ | ⟨g, cap, cur, hv, hb, hcell, _⟩
  · exact .inl rfl
  · right
    intro e'
    have hvb : v.ownBlock = some g := by rw [hv]; rfl
    rw [hvb] at e'
    obtain rfl : g = D := by simpa using e'
    rw [hcell] at hD; cases hD; cases ho
theorem own_low {w : World} {b b' : Nat} {e : TypeId} {size : Nat} {v : Value} {n : Nat} {xs : List Value} (h : w.ownsRow b e size v n xs) (hb : b' ≤ b) : w.ownsRow b' e size v n xs :=
  ⟨h.1, h.2.imp id fun ⟨g, cap, cur, k1, k2, k3⟩ => ⟨g, cap, cur, k1, Nat.le_trans hb k2, k3⟩⟩
theorem own_form {w : World} {base : Nat} {e : TypeId} {size : Nat} {v : Value} {n : Nat} {xs : List Value} (h : w.ownsRow base e size v (n + 1) xs) : ∃ g cap, v = .slice (some ⟨g, 0, none⟩) (n + 1) cap := by
  rcases h.2 with ⟨_, h0⟩ | ⟨g, cap, cur, hv, _⟩
  · omega
  · exact ⟨g, cap, hv⟩
theorem cells_three (w : World) (v0 v1 v2 : Value) (t : TypeId) : ∀ (j : Nat) u, [v0, v1, v2][j]? = some u → (w.alloc (.cells #[v0, v1, v2] t)).cell? ((⟨w.heap.size, 0, none⟩ : Addr).add j) = some u := by
  intro j u hj
  match j, hj with
  | 0, hj => simp at hj; subst hj; simp [Addr.add]
  | 1, hj => simp at hj; subst hj; simp [Addr.add]
  | 2, hj => simp at hj; subst hj; simp [Addr.add]
theorem cells_new (w : World) (v0 v1 v2 : Value) (t : TypeId) {n : Nat} (hn : w.heap.size = n) : ∀ (j : Nat) u, [v0, v1, v2][j]? = some u → (w.alloc (.cells #[v0, v1, v2] t)).cell? ((⟨n, 0, none⟩ : Addr).add j) = some u := by
  subst hn
  exact cells_three w v0 v1 v2 t
theorem infoId : (Tryz.prog.info? 23).map (fun i => (i.zero, i.size, i.bytes)) = some (some (.agg #[.int .i64 0, .int .i64 0, .int .i64 0]), 3, 24) := by kernel_rfl

/-- a slice that holds ids -/
def Idl (w : World) (v : Value) (ids : List Id3) : Prop := (ids = [] ∧ ∃ c, v = .slice none 0 c) ∨ ∃ b c, v = .slice (some ⟨b, 0, none⟩) ids.length c ∧ b < w.heap.size ∧ ∀ (j : Nat) u, (icells ids)[j]? = some u → w.cell? ⟨b, j, none⟩ = some u
theorem idl_obj {w : World} {v : Value} {ids : List Id3} (h : Idl w v ids) {D : Nat} (o : Obj) (hD : v.ownBlock ≠ some D) : Idl (w.putObj D o) v ids := by
  rcases h with h | ⟨b, c, rfl, hb, hc⟩
  · exact .inl h
  · have hne : b ≠ D := fun e => hD (by rw [e]; rfl)
    refine .inr ⟨b, c, rfl, by rw [World.putObj_size]; exact hb, fun j u hj => ?_⟩
    rw [← hc j u hj]
    have e : (w.putObj D o).heap[b]? = w.heap[b]? := World.putObj_heap_other (by omega)
    simp only [World.cell?, e]
theorem own_ne {w : World} {base : Nat} {e : TypeId} {size : Nat} {v : Value} {n : Nat} {xs : List Value} (h : w.ownsRow base e size v n xs) {D : Nat} {o : Obj} (hD : w.heap[D]? = some o) (ho : o.isCells = false) : v.ownBlock ≠ some D := by
  intro e
  have := own_isCells h e hD
  rw [ho] at this; cases this
/-- what stands while List goes on -/
structure Li (w : World) (B0 : Nat) (ids : List Id3) (pre : List ByteArray) (W : World) : Prop where
  more : ∃ v, W.heap[w.heap.size]? = some (.cells #[v] 50 (0, 0)) ∧ W.ownsRow B0 23 3 v pre.length (icells (ids.take pre.length))
  below : Below w.heap.size w W
theorem li_bides (w : World) {B0 c : Nat} (ids : List Id3) (h0 : w.heap.size ≤ B0) (hc : c < B0) (hcw : w.heap.size < c) : Rng.Bides B0 c (Li w B0 ids) := by
  intro pre W W' row h hg hr
  obtain ⟨v, h2, h3⟩ := h.more
  exact ⟨⟨v, (Rng.keeps_cells h2 rfl (by omega) hg hr).trans h2, own_bides h3 hc hg hr⟩, Rng.Bides.below (β := Unit) (Nat.le_refl _) h0 (by omega) () W W' row h.below hg hr⟩
/-- the next name is the next id's -/
theorem next_id {ids : List Id3} {pre : List ByteArray} {x : ByteArray} (h : pre ++ [x] <+: DiskO.strs (ids.map Id3.nm)) : ∃ i, ids[pre.length]? = some i ∧ i ∈ ids ∧ x = ⟨(i.nm).toArray⟩ ∧ ids.take (pre.length + 1) = ids.take pre.length ++ [i] := by
  obtain ⟨t, ht⟩ := h
  have h1 : (DiskO.strs (ids.map Id3.nm))[pre.length]? = some x := by rw [← ht]; simp
  unfold DiskO.strs at h1
  rw [List.getElem?_map, List.getElem?_map] at h1
  cases hi : ids[pre.length]? with
  | none => rw [hi] at h1; cases h1
  | some i =>
    rw [hi] at h1
    refine ⟨i, rfl, List.mem_of_getElem? hi, by simpa using h1.symm, ?_⟩
    rw [List.take_add_one, hi]
    rfl

set_option maxHeartbeats 8000000 in
set_option maxRecDepth 100000 in
theorem list_in {lo d mb sb : Nat} {M : Dp.Files} {full : Bool} {lost : Int} {node : Nat} (ids srt : List Id3) (w : World) (hS : Sf w sb node d) (hd : Drive lo d mb w M full lost) (hM : M.length ≤ 65536) (hi : Blobs M ids) (hm : Mx w) (ht : Itoa.Tab w)
    (hsort : ∀ (base : Nat) (v : Value) (W : World), W.ownsRow base 23 3 v ids.length (icells ids) → Calls Tryz.prog 46 #[v, .func (.func 18) #[] #[]] W fun e W' => e = .returned (.tuple #[]) ∧ Idl W' v srt ∧ W.grownBy W' v.ownBlock) :
    CallsIn Fence.wide 8 Tryz.prog 22 #[.pointer (some ⟨sb, 0, none⟩)] w fun e w' => ∃ v, e = .returned v ∧ Idl w' v srt ∧ Below w.heap.size w w' := by
  have hf1 : Fence.wide.fn 43 := trivial
  have hf2 : Fence.wide.fn 44 := trivial
  have hf3 : Fence.wide.fn 46 := trivial
  obtain ⟨w1, hw1, hb1, hx1⟩ : ∃ w1, w1 = w.alloc (.cells #[.slice none 0 0] 50) ∧ Below w.heap.size w w1 ∧ w1.heap[w.heap.size]? = some (.cells #[.slice none 0 0] 50 (0, 0)) := ⟨_, rfl, (Below.refl _ _).alloc (Nat.le_refl _) _, heap_alloc_new _ _⟩
  have c1 : (w.alloc (.cells #[.slice none 0 0] 50)).cell? ⟨sb, 1, none⟩ = some (.pointer (some ⟨d, 0, none⟩)) := by rw [← hw1]; exact (hS.below hb1).cells.2
  have HL := Lib.hid (fun n hn => DiskO.list n hn w1 (hd.below hb1) (by omega))
  have HX1 := Lib.hid hx1
  have HB1 := Lib.hid hb1
  have HSORT := Lib.hid hsort
  clear hb1 hx1 hd hsort
  refine callsIn_of_wp_marks Tryz.func22 rfl trivial ?_ rfl
  simp only [Tryz.ntmps22, List.size_toArray, List.length_cons, List.length_nil, Nat.reduceAdd, Nat.reduceSub, Array.replicate_succ, Array.replicate_zero, List.push_toArray, List.append_toArray, List.nil_append, List.cons_append]
  gi_wp2_with (rw [← hw1]; gi_at_call 43; refine (HL.out _ (by decide)).mono ?_; rintro e w3 ⟨aL, cL, B, rfl, hB1, hB2, hcl, hns, hb3⟩)
  have hz1 : w1.heap.size = w.heap.size + 1 := by rw [hw1]; simp
  have hnl : (Dp.names M).length ≤ 65536 := by unfold Dp.names; rw [List.length_map]; exact hM
  have HGV := Lib.hid (DiskO.gives (8 - 1) (by decide) B w1.heap.size aL cL (Dp.names M) w3 hcl hB1 hns (by omega))
  have hil : ids.length ≤ 65536 := by have := hi.1; have h2 := congrArg List.length this; rw [List.length_map] at h2; omega
  have HI := Lib.hid hi
  have HM := Lib.hid hm
  have HT := Lib.hid ht
  have HIL := Lib.hid hil
  have h0 : Li w w3.heap.size ids [] w3 := ⟨⟨.slice none 0 0, (hb3.block _ (by omega)).trans HX1.out, ⟨rfl, .inl ⟨rfl, rfl⟩⟩⟩, HB1.out.trans (hb3.mono HB1.out.size)⟩
  clear hcl hns hb3 HL hw1 c1 hm ht hi hil hnl
  refine Rng.range (a₁ := ?a1) rfl (by decide) (gf := 86) (lb := #[.pointer (some ⟨B, 0, none⟩)]) rfl trivial (enters_of Tryz.func86 (by kernel_rfl) rfl)
    (lo := w1.heap.size) (hi := w3.heap.size) (c := B) hB2 (Nat.le_refl _) HGV.out (Li w w3.heap.size ids) (fun _ _ _ => False) (li_bides w ids (by omega) hB2 (by omega)) (fun _ _ _ _ _ h _ _ => h) h0 ?assign ?body ?done ?stop
  case assign =>
    intro l x W K hK
    gi_wp2
    exact hK
  case body =>
    rintro l pre x W hli hpx hWz
    have hpx2 := hpx
    rw [HI.out.1] at hpx2
    obtain ⟨i, hik, him, rfl, htk⟩ := next_id hpx2
    have hpl : pre.length < ids.length := (List.getElem?_eq_some_iff.1 hik).1
    obtain ⟨⟨v, hv1, hv2⟩, hbel⟩ := hli
    have KP := Lib.hid (show Calls Tryz.prog 44 #[.string ⟨(i.nm).toArray⟩] W fun e w' => e = .returned (.tuple #[.agg #[.int .i64 (i.a : Int), .int .i64 (i.b : Int), .int .i64 (i.c : Int)], .bool true]) ∧ Below W.heap.size W w' from SfI.parse i.a i.b i.c W (HI.out.2 i him) (HM.out.below hbel) (HT.out.below hbel))
    have HTK := Lib.hid htk
    have HV1 := Lib.hid hv1
    have HV2 := Lib.hid hv2
    have HBE := Lib.hid hbel
    have HIL2 := Lib.hid (show pre.length < 65536 by have := HIL.out; omega)
    obtain ⟨i0, hi0, hz0, hz1', hz2⟩ := HtW.info_parts infoId
    have J0 := Lib.hid hi0
    have J1 := Lib.hid hz0
    have J2 := Lib.hid hz1'
    have J3 := Lib.hid hz2
    clear hpx2 hik htk hpl hv1 hv2 hbel hi0 hz0 hz1' hz2
    have hzlt : w.heap.size < W.heap.size := by have := HBE.out.size; omega
    gi_wp2_with (first
      | (gi_at_call 44; refine (CallsIn.inRound l (callsIn_wide.2 KP.out)).mono ?_; rintro e W1 ⟨rfl, hb1⟩; have hu1 := (hb1.block w.heap.size hzlt).trans HV1.out; have hz1p := hb1.size; have hu2 := (Below.heap_alloc W1 (.cells #[.int .i64 (i.a : Int), .int .i64 (i.b : Int), .int .i64 (i.c : Int)] 23) _ (Nat.lt_of_lt_of_le hzlt hz1p)).trans hu1; have c1 : (W1.alloc (.cells #[.int .i64 (i.a : Int), .int .i64 (i.b : Int), .int .i64 (i.c : Int)] 23)).cell? ⟨w.heap.size, 0, none⟩ = some v := (by rw [Lib.cell_of_heap hu2]; rfl); have hown3 := Com.own_below HV2.out hb1; have HU2 := Lib.hid hu2; have HB1p := Lib.hid hb1; clear hu1 hu2 hb1)
      | (gi_at_builtin; refine wpListIn_append_own _ rfl _ _ 50 rfl w3.heap.size 23 i0 (.agg #[.int .i64 0, .int .i64 0, .int .i64 0]) 3 24 Tryz.underlying50 J0.out J1.out J2.out J3.out rfl (by decide) _ _ _ rfl ((hown3.alloc _).alloc _) ⟨W1.heap.size + 1, 0, none⟩ 1 1 [.int .i64 (i.a : Int), .int .i64 (i.b : Int), .int .i64 (i.c : Int)] rfl rfl (cells_new _ _ _ _ _ (by simp)) (by simp [Value.oneCell']) (by have := HIL2.out; unfold maxLen; omega) (by have := HIL2.out; omega) (by have := HIL2.out; simp; omega) ?_; intro v' W4 hown' hgrow _; obtain ⟨g4, cap4, rfl⟩ := own_form hown'; have hne := (fun (e : some w.heap.size = v.ownBlock) => by have h1 := (hown3.lt _ e.symm).1; have h2 := HB1.out.size; omega : ¬ some w.heap.size = v.ownBlock); have hu4 := (hgrow.block w.heap.size (by simp; omega) hne).trans ((Below.heap_alloc _ _ _ (by simp; omega)).trans HU2.out); have c4 : W4.cell? ⟨w.heap.size, 0, none⟩ = some v := (by rw [Lib.cell_of_heap hu4]; rfl); have fz4 : W4.frozen? ⟨w.heap.size, 0, none⟩ = false := Lib.frozen_of_heap hu4 0; have HU4 := Lib.hid hu4; have HOWN' := Lib.hid hown'; have HGROW := Lib.hid hgrow; clear hu4 hown' hgrow hne))
    have hownF : W4.ownsRow w3.heap.size 23 3 (.slice (some ⟨g4, 0, none⟩) (pre.length + 1) cap4) (pre.length + 1) (icells (ids.take (pre.length + 1))) := by
      rw [HTK.out, icells_snoc]
      exact HOWN'.out
    have hgB : Below w3.heap.size W W4 := (((HB1p.out.mono hWz).alloc (by omega) _).alloc (by simp; omega) _).grown HGROW.out (by simp; omega) (fun j hj => (hown3.lt j hj).1)
    have hKO : KeepsOthers W W4 := ((keeps_below HB1p.out).trans ((KeepsOthers.alloc _ _).trans (KeepsOthers.alloc _ _))).trans (KeepsOthers.of_grownBy HGROW.out (fun j o hj ho => own_isCells ((hown3.alloc _).alloc _) hj ho))
    have hw3 : w.heap.size < w3.heap.size := by omega
    refine ⟨hKO.trans (KeepsOthers.setCell _ _ _), fun k hk1 hk2 => (Below.heap_setCell _ _ _ _ (by simp; omega)).trans (hgB.block k (by omega)), ⟨⟨.slice (some ⟨g4, 0, none⟩) (pre.length + 1) cap4, ?_, ?_⟩, ?_⟩⟩
    · simp only [World.setCell, Array.getElem?_modify, if_true, HU4.out]
      rfl
    · simp only [List.length_append, List.length_cons, List.length_nil]
      exact ownsRow_setCell_below hownF (by simp; omega) _
    · exact (HBE.out.trans (hgB.mono (by omega))).setCell (p := ⟨w.heap.size, 0, none⟩) (by simp) _
  case done =>
    rintro D W hD hli hK
    obtain ⟨⟨v, hv1, hv2⟩, hbel⟩ := hli
    have hnm : (DiskO.strs (Dp.names M)).length = ids.length := by rw [HI.out.1]; unfold DiskO.strs; simp
    rw [hnm, List.take_length] at hv2
    have c1 : W.cell? ⟨w.heap.size, 0, none⟩ = some v := by rw [Lib.cell_of_heap hv1]; rfl
    have HV1 := Lib.hid hv1; have HBEL := Lib.hid hbel; have HK := Lib.hid hK; have HOWN := Lib.hid hv2
    clear hv1 hbel hK hv2
    have hw3 : w.heap.size < w3.heap.size := by omega
    gi_wp2_with (gi_at_call 46; refine (callsIn_wide.2 (HSORT.out _ _ _ HOWN.out)).mono ?_; rintro e W1 ⟨rfl, hown1, hg1⟩; have hu1 := (hg1.block w.heap.size (by have := HBEL.out.size; have := (Array.getElem?_eq_some_iff.1 HV1.out).1; omega) (fun (e : some w.heap.size = v.ownBlock) => by have h1 := (HOWN.out.lt _ e.symm).1; omega)).trans HV1.out; have c2 : W1.cell? ⟨w.heap.size, 0, none⟩ = some v := (by rw [Lib.cell_of_heap hu1]; rfl); have HG1 := Lib.hid hg1; have HOWN1 := Lib.hid hown1; clear hg1 hown1 hu1)
    have hlb := HBEL.out.size
    have hk1 : W1.heap[D]? = some (.deferred (some [])) := (KeepsOthers.of_grownBy HG1.out (fun j o hj ho => own_isCells HOWN.out hj ho)).same _ _ HK.out rfl
    refine ⟨by simp, .inl ⟨_, _, rfl, run_takeDeferred hk1, ?_⟩⟩
    have hb9 : Below w.heap.size w W1 := HBEL.out.grown HG1.out hlb (fun j hj => by have := (HOWN.out.lt j hj).1; omega)
    refine ⟨_, results_tmp rfl _ _ _, v, rfl, idl_obj HOWN1.out (.deferred none) (own_ne HOWN.out HK.out rfl), below_obj hb9 _ (by omega) hb9.size⟩
  case stop =>
    rintro D k pre W hD hpre hl hK
    exact hl.elim
end Go.Proofs.YtecnnlppinhmgaaGreatDoor.SfK
namespace Go.Proofs
open Go.Shelf
def Tryz.sortId_ren : Go.Shelf.Ren := ⟨fun | 6 => 46 | 15 => 70 | 14 => 69 | 28 => 98 | 29 => 99 | 20 => 90 | 21 => 91 | 22 => 92 | 23 => 93 | 24 => 94 | 25 => 95 | 26 => 96 | 27 => 97 | 46 => 115 | 47 => 116 | 48 => 117 | 49 => 118 | 50 => 119 | 57 => 145 | n => n, fun | 22 => 50 | 24 => 23 | 25 => 45 | 3 => 3 | 39 => 92 | 0 => 0 | 53 => 90 | 55 => 127 | 4 => 4 | 46 => 156 | 45 => 155 | 50 => 160 | 5 => 5 | 9 => 9 | 66 => 183 | 70 => 187 | 76 => 213 | 77 => 117 | n => n, fun | n => n⟩
theorem Tryz.sortId : Go.Proofs.SlLaysF0.n6 Tryz.prog Tryz.sortId_ren := {
  mixed := by kernel_rfl
  f6 := ⟨Tryz.f46.name, by decide, Tryz.func46.trans (congrArg some (by kernel_rfl))⟩
  f14 := ⟨Tryz.f69.name, by decide, Tryz.func69.trans (congrArg some (by kernel_rfl))⟩
  f15 := Tryz.func70.trans (congrArg some (by kernel_rfl))
  f20 := ⟨Tryz.f90.name, by decide, Tryz.func90.trans (congrArg some (by kernel_rfl))⟩
  f21 := ⟨Tryz.f91.name, by decide, Tryz.func91.trans (congrArg some (by kernel_rfl))⟩
  f22 := ⟨Tryz.f92.name, by decide, Tryz.func92.trans (congrArg some (by kernel_rfl))⟩
  f23 := ⟨Tryz.f93.name, by decide, Tryz.func93.trans (congrArg some (by kernel_rfl))⟩
  f24 := ⟨Tryz.f94.name, by decide, Tryz.func94.trans (congrArg some (by kernel_rfl))⟩
  f25 := ⟨Tryz.f95.name, by decide, Tryz.func95.trans (congrArg some (by kernel_rfl))⟩
  f26 := ⟨Tryz.f96.name, by decide, Tryz.func96.trans (congrArg some (by kernel_rfl))⟩
  f27 := ⟨Tryz.f97.name, by decide, Tryz.func97.trans (congrArg some (by kernel_rfl))⟩
  f28 := Tryz.func98.trans (congrArg some (by kernel_rfl))
  f29 := Tryz.func99.trans (congrArg some (by kernel_rfl))
  f46 := ⟨Tryz.f115.name, by decide, Tryz.func115.trans (congrArg some (by kernel_rfl))⟩
  f47 := Tryz.func116.trans (congrArg some (by kernel_rfl))
  f48 := Tryz.func117.trans (congrArg some (by kernel_rfl))
  f49 := ⟨Tryz.f118.name, by decide, Tryz.func118.trans (congrArg some (by kernel_rfl))⟩
  f50 := ⟨Tryz.f119.name, by decide, Tryz.func119.trans (congrArg some (by kernel_rfl))⟩
  f57 := ⟨Tryz.f145.name, by decide, Tryz.func145.trans (congrArg some (by kernel_rfl))⟩
  t0 := Tryz.underlying0
  a0 := Tryz.isAgg0
  z0 := Tryz.sizeOf0
  v0 := Tryz.zeroValue0
  t3 := Tryz.underlying3
  a3 := Tryz.isAgg3
  z3 := Tryz.sizeOf3
  v3 := Tryz.zeroValue3
  t4 := Tryz.underlying4
  a4 := Tryz.isAgg4
  z4 := Tryz.sizeOf4
  v4 := Tryz.zeroValue4
  t5 := Tryz.underlying5
  a5 := Tryz.isAgg5
  z5 := Tryz.sizeOf5
  v5 := Tryz.zeroValue5
  t9 := Tryz.underlying9
  a9 := Tryz.isAgg9
  z9 := Tryz.sizeOf9
  v9 := Tryz.zeroValue9
  t22 := Tryz.underlying50
  a22 := Tryz.isAgg50
  z22 := Tryz.sizeOf50
  v22 := Tryz.zeroValue50
  t25 := Tryz.underlying45
  a25 := Tryz.isAgg45
  z25 := Tryz.sizeOf45
  v25 := Tryz.zeroValue45
  t39 := Tryz.underlying92
  a39 := Tryz.isAgg92
  z39 := Tryz.sizeOf92
  v39 := Tryz.zeroValue92
  t45 := Tryz.underlying155
  a45 := Tryz.isAgg155
  z45 := Tryz.sizeOf155
  v45 := Tryz.zeroValue155
  t46 := Tryz.underlying156
  a46 := Tryz.isAgg156
  z46 := Tryz.sizeOf156
  v46 := Tryz.zeroValue156
  t50 := Tryz.underlying160
  a50 := Tryz.isAgg160
  z50 := Tryz.sizeOf160
  v50 := Tryz.zeroValue160
  t53 := Tryz.underlying90
  a53 := Tryz.isAgg90
  z53 := Tryz.sizeOf90
  v53 := Tryz.zeroValue90
  t55 := Tryz.underlying127
  a55 := Tryz.isAgg127
  z55 := Tryz.sizeOf127
  v55 := Tryz.zeroValue127
  t66 := Tryz.underlying183
  a66 := Tryz.isAgg183
  z66 := Tryz.sizeOf183
  v66 := Tryz.zeroValue183
  t70 := Tryz.underlying187
  a70 := Tryz.isAgg187
  z70 := Tryz.sizeOf187
  v70 := Tryz.zeroValue187
  t76 := Tryz.underlying213
  a76 := Tryz.isAgg213
  z76 := Tryz.sizeOf213
  v76 := Tryz.zeroValue213
  t77 := Tryz.underlying117
  a77 := Tryz.isAgg117
  z77 := Tryz.sizeOf117
  v77 := Tryz.zeroValue117 }
end Go.Proofs
namespace Go.Proofs.YtecnnlppinhmgaaGreatDoor.SfM
open Go.Shelf Go.RowKit Go.Lib Go.Sort Go.Proofs.YtecnnlppinhmgaaGreatDoor Go.Proofs.YtecnnlppinhmgaaGreatDoor.SfJ Go.Proofs.YtecnnlppinhmgaaGreatDoor.SfK

/-- an id's cells -/
def enc (i : Id3) : List Value := [.int .i64 (i.a : Int), .int .i64 (i.b : Int), .int .i64 (i.c : Int)]
instance : Inhabited Id3 := ⟨⟨0, 0, 0⟩⟩
def cf (x y : Id3) : Int := SfE.cmpId x.a x.b x.c y.a y.b y.c
/-- one id lies ahead of the other -/
def Lt (x y : Id3) : Prop := x.a < y.a ∨ (x.a = y.a ∧ (x.b < y.b ∨ (x.b = y.b ∧ x.c < y.c)))
theorem less_lt (x y : Id3) : SfE.less x.a x.b x.c y.a y.b y.c = true ↔ Lt x y := by
  unfold SfE.less Lt
  by_cases h : (x.a : Int) = y.a
  · by_cases h2 : (x.b : Int) = y.b
    · have e1 : ((x.a : Int) != y.a) = false := by simpa using h
      have e2 : ((x.b : Int) != y.b) = false := by simpa using h2
      simp only [e1, e2, Bool.false_eq_true, if_false, decide_eq_true_eq]
      omega
    · have e1 : ((x.a : Int) != y.a) = false := by simpa using h
      have e2 : ((x.b : Int) != y.b) = true := by simpa using h2
      simp only [e1, e2, Bool.false_eq_true, if_false, if_true, decide_eq_true_eq]
      omega
  · have e1 : ((x.a : Int) != y.a) = true := by simpa using h
    simp only [e1, if_true, decide_eq_true_eq]
    omega
theorem cf_neg (x y : Id3) : cf x y < 0 ↔ Lt x y := by
  unfold cf
  rw [SfE.cmp_less]
  by_cases h : SfE.less y.a y.b y.c x.a x.b x.c = true
  · rw [if_pos h]
    have := (less_lt y x).1 h
    unfold Lt at *
    omega
  · rw [if_neg h]
    by_cases h2 : SfE.less x.a x.b x.c y.a y.b y.c = true
    · rw [if_pos h2]
      have := (less_lt x y).1 h2
      simp [this]
    · rw [if_neg h2]
      have : ¬ Lt x y := fun k => h2 ((less_lt x y).2 k)
      simp [this]
theorem lt_cf (x y : Id3) : ltOf cf x y = true ↔ Lt x y := by
  unfold ltOf; rw [decide_eq_true_eq]; exact cf_neg x y
theorem lt_cf_false (x y : Id3) : ltOf cf x y = false ↔ ¬ Lt x y := by
  rw [← lt_cf]; simp
theorem swo : SWO (ltOf cf) where
  irrefl x := (lt_cf_false x x).2 (by unfold Lt; omega)
  trans x y z h1 h2 := (lt_cf x z).2 (by have := (lt_cf _ _).1 h1; have := (lt_cf _ _).1 h2; unfold Lt at *; omega)
  ntrans x y z h1 h2 := by
    rw [lt_cf_false] at *
    unfold Lt at *
    omega
theorem parts (x y : Id3) (h1 : ltOf cf x y = false) (h2 : ltOf cf y x = false) : x = y := by
  rw [lt_cf_false] at *
  obtain ⟨a, b, c⟩ := x
  obtain ⟨a', b', c'⟩ := y
  unfold Lt at *
  simp only [Id3.mk.injEq]
  dsimp only at h1 h2
  omega
/-- sorted -/
noncomputable def srt (ids : List Id3) : List Id3 := ids.mergeSort fun x y => !ltOf cf y x
theorem srt_length (ids : List Id3) : (srt ids).length = ids.length := List.length_mergeSort ids
theorem srt_perm (ids : List Id3) : (srt ids).Perm ids := List.mergeSort_perm ids _
theorem srt_one (i : Id3) : srt [i] = [i] := by simp [srt]

theorem sizeId (w : World) : (Go.sizeOf 23).run Tryz.prog w = .ok 3 w := by
  have h := infoId
  cases hi : Tryz.prog.info? 23 with
  | none => rw [hi] at h; cases h
  | some i =>
    rw [hi] at h
    have hs : i.size = 3 := by have := congrArg (fun o => o.map (·.2.1)) h; simpa using this
    simp [sizeOf, typeInfo, hi, hs]
theorem aggId (w : World) : (isAgg 23).run Tryz.prog w = .ok true w := by
  simp [isAgg, run_underlying Tryz.underlying23]

theorem icells_get : ∀ (ids : List Id3) (j : Nat), j < ids.length * 3 → (icells ids)[j]? = some ((enc (ids[j / 3]!))[j % 3]!)
  | [], j, h => by simp at h
  | i :: t, 0, _ => rfl
  | i :: t, 1, _ => rfl
  | i :: t, 2, _ => rfl
  | i :: t, j + 3, h => by
    have ih := icells_get t j (by simp at h; omega)
    have e1 : (j + 3) / 3 = j / 3 + 1 := by omega
    have e2 : (j + 3) % 3 = j % 3 := by omega
    rw [e1, e2]
    have e3 : (icells (i :: t))[j + 3]? = (icells t)[j]? := by simp [icells]
    have e4 : ((i :: t)[j / 3 + 1]! : Id3) = t[j / 3]! := by simp
    rw [e3, e4]
    exact ih
theorem icells_length (ids : List Id3) : (icells ids).length = ids.length * 3 := by
  induction ids with
  | nil => rfl
  | cons i t ih => simp [icells] at ih ⊢; omega
theorem flat_at (ids : List Id3) (j : Nat) (h : j < ids.length * 3) : (flatK enc 3 ids.toArray)[j]! = (enc (ids[j / 3]!))[j % 3]! := by
  rw [get_flatK _ _ _ _ (by simpa using h)]
  simp
theorem own_holds {w : World} {base g : Nat} {n c : Nat} {ids : List Id3} (h : w.ownsRow base 23 3 (.slice (some ⟨g, 0, none⟩) n c) ids.length (icells ids)) : HoldsK enc 3 w g 0 ids.toArray ∧ g < w.heap.size := by
  rcases h.2 with ⟨h, _⟩ | ⟨g', cap, cur, hv, hb, hg, hn, hm, hcs, htk⟩
  · cases h
  · cases hv
    refine ⟨fun j hj => ?_, (Array.getElem?_eq_some_iff.1 hg).1⟩
    rw [size_flatK] at hj
    have hj' : j < ids.length * 3 := by simpa using hj
    have hc := h.cells (g := g) rfl j _ (icells_get ids j hj')
    have e : ((⟨g, 0, none⟩ : Addr).add j) = ⟨g, 0 + j, none⟩ := by simp [Addr.add]; omega
    rw [e] at hc
    refine ⟨hc.trans ?_, Lib.frozen_of_heap hg _⟩
    rw [flat_at ids j hj']
    rfl
theorem holds_idl {w : World} {g : Nat} {ids : List Id3} (c : Nat) (h : HoldsK enc 3 w g 0 ids.toArray) (hg : g < w.heap.size) : Idl w (.slice (some ⟨g, 0, none⟩) ids.length c) ids := by
  refine .inr ⟨g, c, rfl, hg, fun j u hj => ?_⟩
  have hlt : j < ids.length * 3 := by have := (List.getElem?_eq_some_iff.1 hj).1; rwa [icells_length] at this
  have k := (h j (by rw [size_flatK]; simpa using hlt)).1
  rw [flat_at ids j hlt] at k
  rw [icells_get ids j hlt] at hj
  rw [Nat.zero_add] at k
  exact k.trans hj
theorem grown_sorted {w : World} {g n : Nat} {d : Array Id3} {os : Array Obj} : w.grownBy (sortWorldK enc 3 w g 0 n d os) (some g) := by
  have hs : (sortWorldK enc 3 w g 0 n d os).heap = w.heap.modify g (onCells (putCells id 0 (flatK enc 3 d))) ++ os := rfl
  refine ⟨rfl, rfl, rfl, ?_, fun k hk hne => ?_⟩
  · rw [hs]; simp
  · have hne2 : g ≠ k := fun e => hne (by rw [e])
    rw [hs, Array.getElem?_append_left (by simpa using hk), Array.getElem?_modify, if_neg hne2]

theorem sort (ids : List Id3) (hl : ids.length ≤ 65536) (base : Nat) (v : Value) (w : World) (h : w.ownsRow base 23 3 v ids.length (icells ids)) :
    Calls Tryz.prog 46 #[v, .func (.func 18) #[] #[]] w fun e W' => e = .returned (.tuple #[]) ∧ Idl W' v (srt ids) ∧ w.grownBy W' v.ownBlock := by
  rcases h.2 with ⟨rfl, hn⟩ | ⟨g, cap, cur, rfl, hb, hg, _⟩
  · have e : ids = [] := List.eq_nil_of_length_eq_zero hn
    subst e
    refine (AnyF.slices_SortFunc_none Tryz.sortId none 0 _ w).mono fun e w' ⟨h1, h2⟩ => ⟨h1, .inl ⟨by simp [srt], 0, rfl⟩, h2 ▸ ⟨rfl, rfl, rfl, Nat.le_refl _, fun _ _ _ => rfl⟩⟩
  · obtain ⟨hH, hb⟩ := own_holds h
    have eg : ∀ args w, (callFunc 18 args).run Tryz.prog w = .ok (.enter 18 args) w := enters_of Tryz.func18 (by kernel_rfl) rfl
    have hcon := AnyQ.slices_SortFunc_total Tryz.sortId 3 aggId sizeId enc (fun _ => rfl) (fun x v hv => by simp [enc] at hv; rcases hv with rfl | rfl | rfl <;> rfl) cf swo 18 #[] g 0 cap ids.toArray w eg
      (fun m os dk _ x y => SfL.compareG x.a x.b x.c y.a y.b y.c _) hH hb (by simp; omega) parts
    refine hcon.mono ?_
    rintro e w' ⟨he, n, os, rfl⟩
    refine ⟨he, ?_, grown_sorted⟩
    have hk : AtK enc 3 w g 0 (srt ids).toArray (sortWorldK enc 3 w g 0 n (srt ids).toArray os) := ⟨n, os, rfl⟩
    obtain ⟨h1, h2⟩ := hk.holds hH (by simp [srt]) hb
    have := holds_idl cap h1 h2
    rwa [srt_length] at this
end Go.Proofs.YtecnnlppinhmgaaGreatDoor.SfM
namespace Go.Proofs.YtecnnlppinhmgaaGreatDoor.SfQ
open Go.ChangeShapes Go.WideShapes Go.ChangeAt Go.RowKit Go.Proofs.YtecnnlppinhmgaaGreatDoor Go.Proofs.YtecnnlppinhmgaaGreatDoor.HtW Go.Proofs.YtecnnlppinhmgaaGreatDoor.SfR

theorem tab {W : World} (h : laidMetH Tryz.prog Rows.shelfCutsRow.laid W) : Itoa.Tab W := by
  rw [MakeChecks.laidMetH_plain _ _ _ (by kernel_rfl)] at h
  refine Lib.tabIs_of_head (rest := Rows.shelfCutsRow.laid.drop 3) Itoa.tabNum tabType Tryz.underlying218 Tryz.underlying127 cellsU64 cellsTab ?_
  exact laidMet.tail (laidMet.tail h)
theorem erLost {W : World} (h : laidMet Tryz.prog Rows.shelfCutsRow.laid W) : ∃ a, Err.Er W 0 (Err.texts[3]'(by decide)) a := by
  obtain ⟨r, hr⟩ := laid_at 5 _ _ h rfl
  exact laid_sentinel2 hr (by kernel_rfl) (by kernel_rfl)
theorem erBytes {W : World} (h : laidMet Tryz.prog Rows.shelfCutsRow.laid W) : ∃ a, Err.Er W 3 (Err.texts[4]'(by decide)) a := by
  obtain ⟨r, hr⟩ := laid_at 6 _ _ h rfl
  exact laid_sentinel2 hr (by kernel_rfl) (by kernel_rfl)
theorem erDigest {W : World} (h : laidMet Tryz.prog Rows.shelfCutsRow.laid W) : ∃ a, Err.Er W 4 (Err.texts[5]'(by decide)) a := by
  obtain ⟨r, hr⟩ := laid_at 7 _ _ h rfl
  exact laid_sentinel2 hr (by kernel_rfl) (by kernel_rfl)
theorem erName {W : World} (h : laidMet Tryz.prog Rows.shelfCutsRow.laid W) : ∃ a, Err.Er W 5 (Err.texts[6]'(by decide)) a := by
  obtain ⟨r, hr⟩ := laid_at 8 _ _ h rfl
  exact laid_sentinel2 hr (by kernel_rfl) (by kernel_rfl)
theorem erGone {W : World} (h : laidMet Tryz.prog Rows.shelfCutsRow.laid W) : ∃ a, Err.Er W 6 (Err.texts[7]'(by decide)) a := by
  obtain ⟨r, hr⟩ := laid_at 9 _ _ h rfl
  exact laid_sentinel2 hr (by kernel_rfl) (by kernel_rfl)
theorem erFull {W : World} (h : laidMet Tryz.prog Rows.shelfCutsRow.laid W) : ∃ a, Err.Er W 1 (Err.texts[9]'(by decide)) a := by
  obtain ⟨r, hr⟩ := laid_at 10 _ _ h rfl
  exact laid_sentinel2 hr (by kernel_rfl) (by kernel_rfl)
theorem env {W : World} (hl : laidMetH Tryz.prog Rows.shelfCutsRow.laid W) : ∃ aL aB aD aN aF aG, SfB.Env W aL aB aD aN aF aG := by
  have ht := tab hl
  rw [MakeChecks.laidMetH_plain _ _ _ (by kernel_rfl)] at hl
  obtain ⟨aL, kL⟩ := erLost hl
  obtain ⟨aB, kB⟩ := erBytes hl
  obtain ⟨aD, kD⟩ := erDigest hl
  obtain ⟨aN, kN⟩ := erName hl
  obtain ⟨aG, kG⟩ := erGone hl
  obtain ⟨aF, kF⟩ := erFull hl
  exact ⟨aL, aB, aD, aN, aF, aG, ⟨kB.cell, kD.cell⟩, ⟨kN.cell, kF.cell, kG.cell⟩, ht, kL.cell, kD.ne kB (by decide), kB.block, kD.block⟩
noncomputable def w0 (os : Os) : World := World.laidAll Tryz.prog os Rows.shelfCutsRow.laid
theorem w0_os (os : Os) : (w0 os).os = os := World.laidAll_os _ _ _
theorem w0_met (os : Os) (args : Array Value) : laidMetH Tryz.prog Rows.shelfCutsRow.laid ((w0 os).forCall (fun _ _ => 0) ⟨#[], args, []⟩).memory := by
  rw [MakeChecks.laidMetH_plain _ _ _ (by kernel_rfl)]
  exact laidMet_laidAll _ (by kernel_rfl) (by kernel_rfl)
theorem mx {w : World} (h : w.ShapedOpen Tryz.prog) : SfI.Mx w :=
  Go.Proofs.cell_of_shapedOpen_int (zero := #[.int .i64 0]) (t := 3) h (of_decide_eq_true (by kernel_rfl)) (by kernel_rfl) rfl (by kernel_rfl) (by kernel_rfl) Tryz.underlying3
theorem six {l : Array Value} (h : l.size = 6) : ∃ a b c d e f, l = #[a, b, c, d, e, f] := by
  obtain ⟨l⟩ := l
  match l, h with
  | [a, b, c, d, e, f], _ => exact ⟨a, b, c, d, e, f, rfl⟩
theorem cOver : Tryz.prog.cellsOf 47 = 6 := by kernel_rfl
theorem cBool : Tryz.prog.cellsOf 4 = 1 := by kernel_rfl
end Go.Proofs.YtecnnlppinhmgaaGreatDoor.SfQ
