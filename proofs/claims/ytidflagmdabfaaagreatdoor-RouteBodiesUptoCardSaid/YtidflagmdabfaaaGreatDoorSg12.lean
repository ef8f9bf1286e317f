/-
  The walk of package uri's Parse. The walks of bollardref17's value, cut, Decode.
-/
import Derived.Test.YtidflagmdabfaaaGreatDoorSg10
import Derived.Test.YtidflagmdabfaaaGreatDoorSg11
import Derived.BigRegion
import Derived.RegionTactic
namespace Go.Proofs.YtidflagmdabfaaaGreatDoor.UriC
open Go.RowKit Go.Proofs.YtidflagmdabfaaaGreatDoor

attribute [local go_sem] Oper.semAt_some

theorem infoPair : (Tryz.prog.info? 152).map (fun i => (i.zero, i.size, i.bytes)) = some (some (.agg #[.string ⟨#[]⟩, .string ⟨#[]⟩]), 2, 32) := by kernel_rfl
/-- pairs, as cells -/
def pcells (ps : List (List UInt8 × List UInt8)) : List Value := ps.flatMap fun p => [.string ⟨p.1.toArray⟩, .string ⟨p.2.toArray⟩]
theorem pcells_snoc (ps : List (List UInt8 × List UInt8)) (n v : List UInt8) : pcells (ps ++ [(n, v)]) = pcells ps ++ [.string ⟨n.toArray⟩, .string ⟨v.toArray⟩] := by simp [pcells]
/-- the error of a target that is none -/
def EU (w : World) (aU : Addr) : Prop := w.cell? ⟨13, 0, none⟩ = some (.iface 288 (.pointer (some aU)))
theorem EU.below {w w' : World} {aU : Addr} (h : EU w aU) (hb : Below w.heap.size w w') : EU w' aU := (hb.cell (World.block_lt_of_cell? w _ h)).trans h
/-- no uri -/
abbrev noUri : Value := .agg #[.string ⟨#[]⟩, .slice none 0 0]

/-- the two results' blocks -/
structure Res (B : Nat) (w : World) (u0 u1 er : Value) : Prop where
  uri : w.heap[B]? = some (.cells #[u0, u1] 97 (0, 0))
  err : w.heap[B + 1]? = some (.cells #[er] 39 (0, 0))
theorem Res.below {B : Nat} {w w' : World} {u0 u1 er : Value} (h : Res B w u0 u1 er) (hb : Below w.heap.size w w') : Res B w' u0 u1 er :=
  ⟨(hb.block _ (Array.getElem?_eq_some_iff.1 h.uri).1).trans h.uri, (hb.block _ (Array.getElem?_eq_some_iff.1 h.err).1).trans h.err⟩
theorem Res.start (w : World) (u0 u1 er : Value) : Res w.heap.size ((w.alloc (.cells #[u0, u1] 97)).alloc (.cells #[er] 39)) u0 u1 er :=
  ⟨(Below.heap_alloc _ _ _ (by simp)).trans (heap_alloc_new _ _), by have := heap_alloc_new (w.alloc (.cells #[u0, u1] 97)) (.cells #[er] 39); rwa [World.size_alloc] at this⟩
theorem Res.cells {B : Nat} {w : World} {u0 u1 er : Value} (h : Res B w u0 u1 er) : w.cell? ⟨B, 0, none⟩ = some u0 ∧ w.cell? ⟨B, 1, none⟩ = some u1 ∧ w.cell? ⟨B + 1, 0, none⟩ = some er ∧ w.frozen? ⟨B, 0, none⟩ = false ∧ w.frozen? ⟨B, 1, none⟩ = false ∧ w.frozen? ⟨B + 1, 0, none⟩ = false := by
  refine ⟨?_, ?_, ?_, Lib.frozen_of_heap h.uri 0, Lib.frozen_of_heap h.uri 1, Lib.frozen_of_heap h.err 0⟩
  · rw [Lib.cell_of_heap h.uri]; rfl
  · rw [Lib.cell_of_heap h.uri]; rfl
  · rw [Lib.cell_of_heap h.err]; rfl

theorem Res.put0 {B : Nat} {w : World} {u0 u1 er : Value} (h : Res B w u0 u1 er) (a : Value) : Res B (w.setCell ⟨B, 0, none⟩ a) a u1 er :=
  ⟨by simp only [World.setCell, Array.getElem?_modify, if_true, h.uri]; rfl, (Below.heap_setCell _ _ _ _ (by simp)).trans h.err⟩
theorem Res.put1 {B : Nat} {w : World} {u0 u1 er : Value} (h : Res B w u0 u1 er) (a : Value) : Res B (w.setCell ⟨B, 1, none⟩ a) u0 a er :=
  ⟨by simp only [World.setCell, Array.getElem?_modify, if_true, h.uri]; rfl, (Below.heap_setCell _ _ _ _ (by simp)).trans h.err⟩
theorem Res.putE {B : Nat} {w : World} {u0 u1 er : Value} (h : Res B w u0 u1 er) (a : Value) : Res B (w.setCell ⟨B + 1, 0, none⟩ a) u0 u1 a :=
  ⟨(Below.heap_setCell _ _ _ _ (by simp)).trans h.uri, by simp only [World.setCell, Array.getElem?_modify, if_true, h.err]; rfl⟩
theorem Res.drew {B : Nat} {w : World} {u0 u1 er : Value} (h : Res B w u0 u1 er) : Res B w.drew u0 u1 er := ⟨h.uri, h.err⟩
theorem Res.put {B : Nat} {w : World} {u0 u1 er : Value} (h : Res B w u0 u1 er) (a b c : Value) : Res B (((w.setCell ⟨B, 0, none⟩ a).setCell ⟨B, 1, none⟩ b).setCell ⟨B + 1, 0, none⟩ c).drew a b c := (((h.put0 a).put1 b).putE c).drew
set_option maxRecDepth 100000 in
theorem Res.run {B : Nat} {w : World} {u0 u1 er : Value} (h : Res B w u0 u1 er) {tmps : Array Value} (h2 : tmps.getD 2 undef = .pointer (some ⟨B, 0, none⟩)) (h3 : tmps.getD 3 undef = .pointer (some ⟨B + 1, 0, none⟩)) :
    (results Tryz.f43 tmps).run Tryz.prog w = .ok (.tuple #[.agg #[u0, u1], er]) w := by
  obtain ⟨r0, r1, r2, _⟩ := h.cells
  have e : Tryz.f43.results = #[.cell 2 97, .cell 3 39] := Tryz.results43
  have h2' : tmps[2]?.getD undef = .pointer (some ⟨B, 0, none⟩) := by simpa using h2
  have h3' : tmps[3]?.getD undef = .pointer (some ⟨B + 1, 0, none⟩) := by simpa using h3
  simp only [results, e]
  simp [h2', h3', go_sem, r0, r1, r2, Result.andThen]
theorem below_put {B : Nat} {w w2 : World} (h : Below B w w2) (a b c : Value) : Below B w (((w2.setCell ⟨B, 0, none⟩ a).setCell ⟨B, 1, none⟩ b).setCell ⟨B + 1, 0, none⟩ c).drew :=
  (((h.setCell (p := ⟨B, 0, none⟩) (Nat.le_refl _) _).setCell (p := ⟨B, 1, none⟩) (Nat.le_refl _) _).setCell (p := ⟨B + 1, 0, none⟩) (by simp) _).drew

set_option maxHeartbeats 8000000 in
set_option maxRecDepth 100000 in
theorem parse_path (t : ByteArray) (w : World) {aU : Addr} (he : EU w aU) (hm : UriB.Mx w) (ht : t.size ≤ 16777216) (hn : Up.dec (Up.cutAt 63 t.data.toList).1 = none) :
    CallsIn Fence.wide 8 Tryz.prog 43 #[.string t] w fun e w' => e = .returned (.tuple #[noUri, .iface 288 (.pointer (some aU))]) ∧ Below w.heap.size w w' := by
  have hf1 : Fence.wide.fn 85 := trivial
  have hf2 : Fence.wide.fn 86 := trivial
  have hf3 : Fence.wide.fn 87 := trivial
  have hcl := Up.cutAt_len 63 t.data.toList
  rw [Com.toList_length] at hcl
  have HC := Lib.hid hcl; clear hcl
  refine callsIn_of_wp_marks Tryz.func43 rfl trivial ?_ rfl
  simp only [Tryz.ntmps43, List.size_toArray, List.length_cons, List.length_nil, Nat.reduceAdd, Nat.reduceSub, Array.replicate_succ, Array.replicate_zero, List.push_toArray, List.append_toArray, List.nil_append, List.cons_append]
  gi_wp2_with fail
  refine (callsIn_wide.2 (UriB.cut 63 t _ (by omega) ((hm.below ((Below.refl _ _).alloc (Nat.le_refl _) _)).below ((Below.refl _ _).alloc (Nat.le_refl _) _)))).mono ?_
  rintro e w1 ⟨⟨bb, rfl⟩, hb1⟩
  gi_wp2_with fail
  refine (callsIn_wide.2 (UriA.decodeN (s := ⟨(Up.cutAt 63 t.data.toList).1.toArray⟩) hn _ (by rw [Com.size_mk]; have := HC.out; omega))).mono ?_
  rintro e w2 ⟨rfl, hb2⟩
  have hbB : Below w.heap.size w w2 := (((Below.refl _ w).alloc (Nat.le_refl _) _).alloc (by simp) _).trans ((hb1.mono (by simp; omega)).trans (hb2.mono (by have := hb1.size; simp at this; omega)))
  have hR := ((Res.start w (.string ⟨#[]⟩) (.slice none 0 0) .nilIface).below hb1).below hb2
  obtain ⟨r0, r1, r2, f0, f1, f2⟩ := hR.cells
  have he2 := he.below hbB
  unfold EU at he2
  have hgl : 13 < w.heap.size := World.block_lt_of_cell? w _ he
  have hg1 : (13 : Nat) ≠ w.heap.size := by omega
  have hg2 : w.heap.size ≠ (13 : Nat) := by omega
  have HR := Lib.hid hR; clear hR
  have HB := Lib.hid hbB; clear hbB hb1 hb2
  gi_wp2_with fail
  gi_region
  gi_wp2
  exact ⟨_, Res.run (HR.out.put _ _ _) rfl rfl, rfl, below_put HB.out _ _ _⟩
set_option maxHeartbeats 8000000 in
set_option maxRecDepth 100000 in
theorem parse_slash (t : ByteArray) (w : World) {aU : Addr} (he : EU w aU) (hm : UriB.Mx w) (ht : t.size ≤ 16777216) {p : List UInt8} (hn : Up.dec (Up.cutAt 63 t.data.toList).1 = some p) (hpre : Lib.hasPrefix t.data.toList [47] = false) :
    CallsIn Fence.wide 8 Tryz.prog 43 #[.string t] w fun e w' => e = .returned (.tuple #[noUri, .iface 288 (.pointer (some aU))]) ∧ Below w.heap.size w w' := by
  have hf1 : Fence.wide.fn 85 := trivial
  have hf2 : Fence.wide.fn 86 := trivial
  have hf3 : Fence.wide.fn 87 := trivial
  have hcl := Up.cutAt_len 63 t.data.toList
  rw [Com.toList_length] at hcl
  have HC := Lib.hid hcl; clear hcl
  refine callsIn_of_wp_marks Tryz.func43 rfl trivial ?_ rfl
  simp only [Tryz.ntmps43, List.size_toArray, List.length_cons, List.length_nil, Nat.reduceAdd, Nat.reduceSub, Array.replicate_succ, Array.replicate_zero, List.push_toArray, List.append_toArray, List.nil_append, List.cons_append]
  gi_wp2_with fail
  refine (callsIn_wide.2 (UriB.cut 63 t _ (by omega) ((hm.below ((Below.refl _ _).alloc (Nat.le_refl _) _)).below ((Below.refl _ _).alloc (Nat.le_refl _) _)))).mono ?_
  rintro e w1 ⟨⟨bb, rfl⟩, hb1⟩
  gi_wp2_with fail
  refine (callsIn_wide.2 (UriA.decodeS (s := ⟨(Up.cutAt 63 t.data.toList).1.toArray⟩) hn _ (by rw [Com.size_mk]; have := HC.out; omega))).mono ?_
  rintro e w2 ⟨rfl, hb2⟩
  have hbB : Below w.heap.size w w2 := (((Below.refl _ w).alloc (Nat.le_refl _) _).alloc (by simp) _).trans ((hb1.mono (by simp; omega)).trans (hb2.mono (by have := hb1.size; simp at this; omega)))
  have hR := ((Res.start w (.string ⟨#[]⟩) (.slice none 0 0) .nilIface).below hb1).below hb2
  obtain ⟨r0, r1, r2, f0, f1, f2⟩ := hR.cells
  have he2 := he.below hbB
  unfold EU at he2
  have hgl : 13 < w.heap.size := World.block_lt_of_cell? w _ he
  have hg1 : (13 : Nat) ≠ w.heap.size := by omega
  have hg2 : w.heap.size ≠ (13 : Nat) := by omega
  have HR := Lib.hid hR; clear hR
  have HB := Lib.hid hbB; clear hbB hb1 hb2
  have hpf : Lib.hasPrefix t.data.toList (ByteArray.mk #[47]).data.toList = false := hpre
  gi_wp2_with (gi_at_call 87; refine (callsIn_wide.2 (Tryz.strings_HasPrefix t ⟨#[47]⟩ _)).mono ?_; rintro e w' ⟨rfl, rfl⟩)
  gi_region
  gi_wp2
  exact ⟨_, Res.run (HR.out.put _ _ _) rfl rfl, rfl, below_put HB.out _ _ _⟩

theorem pieces_size {c : UInt8} {l : List UInt8} {x : ByteArray} (h : x ∈ UriB.pieces c l) : x.size ≤ l.length := by
  obtain ⟨y, hy, rfl⟩ := List.mem_map.1 h
  rw [Com.size_mk]
  exact Up.splits_mem_len c l y hy
theorem pieces_data (c : UInt8) (l : List UInt8) : (UriB.pieces c l).map (·.data.toList) = Up.splits c l := by
  unfold UriB.pieces
  rw [List.map_map]
  exact List.map_id _
theorem keeps_below {W W' : World} (h : Below W.heap.size W W') : KeepsOthers W W' := ⟨h.size, fun k _ hk _ => (h.block k (Array.getElem?_eq_some_iff.1 hk).1).trans hk⟩

theorem res_low {B : Nat} {W W' : World} {u0 u1 er : Value} (h : Res B W u0 u1 er) (hb : Below W.heap.size W W') : Res B W' u0 u1 er := h.below hb
theorem keeps_put {B : Nat} {W W' : World} (h : Below W.heap.size W W') (a b c : Value) : KeepsOthers W (((W'.setCell ⟨B, 0, none⟩ a).setCell ⟨B, 1, none⟩ b).setCell ⟨B + 1, 0, none⟩ c).drew :=
  ((((keeps_below h).trans (KeepsOthers.setCell _ _ _)).trans (KeepsOthers.setCell _ _ _)).trans (KeepsOthers.setCell _ _ _)).trans (KeepsOthers.drew _)

theorem cells_two (w : World) (v0 v1 : Value) (t : TypeId) : ∀ (j : Nat) u, [v0, v1][j]? = some u → (w.alloc (.cells #[v0, v1] t)).cell? ((⟨w.heap.size, 0, none⟩ : Addr).add j) = some u := by
  intro j u hj
  match j, hj with
  | 0, hj => simp at hj; subst hj; simp [Addr.add]
  | 1, hj => simp at hj; subst hj; simp [Addr.add]
theorem own_form {w : World} {base : Nat} {e : TypeId} {size : Nat} {v : Value} {n : Nat} {xs : List Value} (h : w.ownsRow base e size v (n + 1) xs) : ∃ g cap, v = .slice (some ⟨g, 0, none⟩) (n + 1) cap := by
  rcases h.2 with ⟨_, h0⟩ | ⟨g, cap, cur, hv, _⟩
  · omega
  · exact ⟨g, cap, hv⟩
theorem own_isCells {w : World} {base : Nat} {e : TypeId} {size : Nat} {v : Value} {n : Nat} {xs : List Value} (h : w.ownsRow base e size v n xs) {j : Nat} {o : Obj} (hj : v.ownBlock = some j) (ho : w.heap[j]? = some o) : o.isCells = true := by
  rcases h.2 with ⟨rfl, _⟩ | ⟨g, cap, cur, hv, hb, hcell, _⟩
  · cases hj
  · rw [hv] at hj
    obtain rfl : g = j := by simpa [Value.ownBlock] using hj
    rw [hcell] at ho
    cases ho
    rfl

/-- what holds between two rounds -/
structure Inv (w : World) (B0 ub : Nat) (p : List UInt8) (pre : List ByteArray) (W : World) : Prop where
  more : ∃ ps v, Up.pairs (pre.map (·.data.toList)) = some ps ∧ W.heap[ub]? = some (.cells #[.string ⟨p.toArray⟩, v] 97 (0, 0)) ∧ W.ownsRow B0 152 2 v ps.length (pcells ps) ∧ ps.length ≤ pre.length
  res : Res w.heap.size W (.string ⟨#[]⟩) (.slice none 0 0) .nilIface
  below : Below w.heap.size w W
/-- a round has left -/
structure Left (w : World) (aU : Addr) (k : Code) (pre : List ByteArray) (W : World) : Prop where
  ret : k = .ret
  none : Up.pairs (pre.map (·.data.toList)) = .none
  res : Res w.heap.size W (.string ⟨#[]⟩) (.slice .none 0 0) (.iface 288 (.pointer (some aU)))
  below : Below w.heap.size w W
theorem res_bides {B0 c B : Nat} {W W' : World} {row : Option Nat} {u0 u1 er : Value} (h : Res B W u0 u1 er) (h1 : B ≠ c) (h2 : B + 1 ≠ c) (hg : W.grownBy W' row) (hr : ∀ r, row = some r → r = c ∨ (B0 ≤ r ∧ ∃ o : Obj, W.heap[r]? = some o ∧ o.isCells = false)) : Res B W' u0 u1 er :=
  ⟨(Rng.keeps_cells h.uri rfl h1 hg hr).trans h.uri, (Rng.keeps_cells h.err rfl h2 hg hr).trans h.err⟩
theorem own_bides {B0 c : Nat} {W W' : World} {row : Option Nat} {e : TypeId} {size : Nat} {v : Value} {n : Nat} {xs : List Value} (h : W.ownsRow B0 e size v n xs) (hc : c < B0) (hg : W.grownBy W' row) (hr : ∀ r, row = some r → r = c ∨ (B0 ≤ r ∧ ∃ o : Obj, W.heap[r]? = some o ∧ o.isCells = false)) : W'.ownsRow B0 e size v n xs := by
  refine h.kept hg ?_
  rcases h.2 with ⟨rfl, _⟩ | ⟨g, cap, cur, hv, hb, hcell, _⟩
  · exact .inl rfl
  · right
    intro e'
    have hvb : v.ownBlock = some g := by rw [hv]; rfl
    rw [hvb] at e'
    rcases hr g e'.symm with h' | ⟨_, o, ho, ho'⟩
    · omega
    · rw [hcell] at ho; cases ho; cases ho'
theorem inv_bides (w : World) {B0 ub c : Nat} (p : List UInt8) (h0 : w.heap.size ≤ B0) (hc : c < B0) (hub : ub ≠ c) (hcw : w.heap.size + 1 < c) : Rng.Bides B0 c (Inv w B0 ub p) := by
  intro pre W W' row h hg hr
  obtain ⟨ps, v, h1, h2, h3, h4⟩ := h.more
  exact ⟨⟨ps, v, h1, (Rng.keeps_cells h2 rfl hub hg hr).trans h2, own_bides h3 hc hg hr, h4⟩, res_bides h.res (by omega) (by omega) hg hr, Rng.Bides.below (β := Unit) (Nat.le_refl _) h0 (by omega) () W W' row h.below hg hr⟩
theorem left_bides (w : World) {B0 c : Nat} (aU : Addr) (h0 : w.heap.size ≤ B0) (hcw : w.heap.size + 1 < c) (k : Code) : Rng.Bides B0 c (Left w aU k) := by
  intro pre W W' row h hg hr
  exact ⟨h.ret, h.none, res_bides h.res (by omega) (by omega) hg hr, Rng.Bides.below (β := Unit) (Nat.le_refl _) h0 (by omega) () W W' row h.below hg hr⟩

theorem Res.obj {B : Nat} {w : World} {u0 u1 er : Value} (h : Res B w u0 u1 er) {D : Nat} (o : Obj) (h1 : B + 1 < D) : Res B (w.putObj D o) u0 u1 er :=
  ⟨(World.putObj_heap_other (by omega)).trans h.uri, (World.putObj_heap_other (by omega)).trans h.err⟩
theorem below_obj {B : Nat} {w W : World} (h : Below B w W) {D : Nat} (o : Obj) (h1 : B ≤ D) (h2 : B ≤ W.heap.size) : Below B w (W.putObj D o) :=
  h.grown (grownBy_putObj' W D o) h2 (fun k e => by cases e; exact h1)
theorem own_obj {w : World} {base : Nat} {e : TypeId} {size : Nat} {v : Value} {n : Nat} {xs : List Value} (h : w.ownsRow base e size v n xs) {D : Nat} {o : Obj} (o' : Obj) (hD : w.heap[D]? = some o) (ho : o.isCells = false) : (w.putObj D o').ownsRow base e size v n xs := by
  refine h.kept (grownBy_putObj' w D o') ?_
  rcases h.2 with ⟨rfl, _⟩ | ⟨g, cap, cur, hv, hb, hcell, _⟩
  · exact .inl rfl
  · right
    intro e'
    have hvb : v.ownBlock = some g := by rw [hv]; rfl
    rw [hvb] at e'
    obtain rfl : g = D := by simpa using e'
    rw [hcell] at hD; cases hD; cases ho

/-- pairs in memory -/
def Pairs (w : World) (a : Option Addr) (ps : List (List UInt8 × List UInt8)) : Prop :=
  ps = [] ∨ ∃ b o, a = some ⟨b, o, none⟩ ∧ b < w.heap.size ∧ ∀ (j : Nat) p, ps[j]? = some p → w.cell? ⟨b, o + j * 2, none⟩ = some (.string ⟨p.1.toArray⟩) ∧ w.cell? ⟨b, o + j * 2 + 1, none⟩ = some (.string ⟨p.2.toArray⟩)
theorem pcells_get {ps : List (List UInt8 × List UInt8)} {j : Nat} {p : List UInt8 × List UInt8} (h : ps[j]? = some p) : (pcells ps)[j * 2]? = some (.string ⟨p.1.toArray⟩) ∧ (pcells ps)[j * 2 + 1]? = some (.string ⟨p.2.toArray⟩) := by
  induction ps generalizing j with
  | nil => simp at h
  | cons q r ih =>
    match j, h with
    | 0, h => simp at h; subst h; simp [pcells]
    | j + 1, h =>
      have h' : r[j]? = some p := by simpa using h
      have := ih h'
      have e1 : (j + 1) * 2 = j * 2 + 1 + 1 := by omega
      rw [e1]
      simpa [pcells] using this
theorem pairs_of_own {w : World} {base : Nat} {e : TypeId} {v : Value} {ps : List (List UInt8 × List UInt8)} (h : w.ownsRow base e 2 v ps.length (pcells ps)) :
    ∃ a c, v = .slice a ps.length c ∧ ps.length ≤ c ∧ Pairs w a ps := by
  rcases h.2 with ⟨rfl, h0⟩ | ⟨g, cap, cur, hv, hb, hg, hn, hm, hcs, htk⟩
  · exact ⟨none, 0, by rw [h0], by omega, .inl (List.eq_nil_of_length_eq_zero h0)⟩
  · refine ⟨some ⟨g, 0, none⟩, cap, hv, hn, .inr ⟨g, 0, rfl, (Array.getElem?_eq_some_iff.1 hg).1, fun j p hp => ?_⟩⟩
    obtain ⟨h1, h2⟩ := pcells_get hp
    have k1 := h.cells (g := g) (by rw [hv]; rfl) (j * 2) _ h1
    have k2 := h.cells (g := g) (by rw [hv]; rfl) (j * 2 + 1) _ h2
    rw [UriA.addr_add] at k1 k2
    exact ⟨k1, by rw [Nat.add_assoc]; exact k2⟩
/-- an address that bears no spot -/
def FlatA (a : Option Addr) : Prop := ∀ p, a = some p → ∃ b o, p = ⟨b, o, none⟩
theorem own_flatA {w : World} {base : Nat} {e : TypeId} {size : Nat} {a : Option Addr} {n c k : Nat} {xs : List Value} (h : w.ownsRow base e size (.slice a n c) k xs) : FlatA a := by
  rcases h.2 with ⟨h, _⟩ | ⟨g, cap, cur, hv, _⟩
  · cases h; exact fun p hp => nomatch hp
  · cases hv; exact fun p hp => ⟨g, 0, (Option.some.inj hp).symm⟩
/-- what Parse answers where the path is well -/
def Said (o : Option (List (List UInt8 × List UInt8))) (p : List UInt8) (aU : Addr) (e : Ending) (w : World) : Prop :=
  match o with
  | none => e = .returned (.tuple #[noUri, .iface 288 (.pointer (some aU))])
  | some ps => ∃ a c, e = .returned (.tuple #[.agg #[.string ⟨p.toArray⟩, .slice a ps.length c], .nilIface]) ∧ (ps.length ≤ c ∧ FlatA a) ∧ Pairs w a ps

set_option maxHeartbeats 8000000 in
set_option maxRecDepth 100000 in
theorem parse_main (t : ByteArray) (w : World) {aU : Addr} (he : EU w aU) (hm : UriB.Mx w) (ht : t.size ≤ 16777216) {p : List UInt8} (hn : Up.dec (Up.cutAt 63 t.data.toList).1 = some p) (hpre : Lib.hasPrefix t.data.toList [47] = true) :
    CallsIn Fence.wide 8 Tryz.prog 43 #[.string t] w fun e w' => Said (Up.pairs (Up.splits 38 (Up.cutAt 63 t.data.toList).2)) p aU e w' ∧ Below w.heap.size w w' := by
  have hf1 : Fence.wide.fn 85 := trivial
  have hf2 : Fence.wide.fn 86 := trivial
  have hf3 : Fence.wide.fn 87 := trivial
  have hf4 : Fence.wide.fn 88 := trivial
  have hcl := Up.cutAt_len 63 t.data.toList
  rw [Com.toList_length] at hcl
  have HC := Lib.hid hcl; clear hcl
  refine callsIn_of_wp_marks Tryz.func43 rfl trivial ?_ rfl
  simp only [Tryz.ntmps43, List.size_toArray, List.length_cons, List.length_nil, Nat.reduceAdd, Nat.reduceSub, Array.replicate_succ, Array.replicate_zero, List.push_toArray, List.append_toArray, List.nil_append, List.cons_append]
  gi_wp2_with fail
  refine (callsIn_wide.2 (UriB.cut 63 t _ (by omega) ((hm.below ((Below.refl _ _).alloc (Nat.le_refl _) _)).below ((Below.refl _ _).alloc (Nat.le_refl _) _)))).mono ?_
  rintro e w1 ⟨⟨bb, rfl⟩, hb1⟩
  gi_wp2_with fail
  refine (callsIn_wide.2 (UriA.decodeS (s := ⟨(Up.cutAt 63 t.data.toList).1.toArray⟩) hn _ (by rw [Com.size_mk]; have := HC.out; omega))).mono ?_
  rintro e w2 ⟨rfl, hb2⟩
  have hbB : Below w.heap.size w w2 := (((Below.refl _ w).alloc (Nat.le_refl _) _).alloc (by simp) _).trans ((hb1.mono (by simp; omega)).trans (hb2.mono (by have := hb1.size; simp at this; omega)))
  have hR := ((Res.start w (.string ⟨#[]⟩) (.slice none 0 0) .nilIface).below hb1).below hb2
  have HR := Lib.hid hR; clear hR
  have HB := Lib.hid hbB
  have hsz2 : w.heap.size + 2 ≤ w2.heap.size := by have := hb1.size; have := hb2.size; simp at *; omega
  clear hb1 hb2
  have hpf : Lib.hasPrefix t.data.toList (ByteArray.mk #[47]).data.toList = true := hpre
  gi_wp2_with (first
    | (gi_at_call 87; refine (callsIn_wide.2 (Tryz.strings_HasPrefix t ⟨#[47]⟩ _)).mono ?_; rintro e w' ⟨rfl, hw'⟩; obtain rfl := hw'.symm)
    | (gi_at_call 88; refine (UriB.SplitSeq_in Fence.wide _ trivial trivial rfl (by decide) _ _ _).mono ?_; rintro e w' ⟨rfl, rfl⟩))
  have hgl : 13 < w.heap.size := World.block_lt_of_cell? w _ he
  generalize hq : (Up.cutAt 63 t.data.toList).2 = q
  have HQ := Lib.hid (show q.length ≤ 16777216 by rw [← hq]; have := HC.out; omega)
  have HQE := Lib.hid hq
  clear hq hbB
  obtain ⟨W0, hW0⟩ : ∃ W0, W0 = (((w2.alloc (.cells #[.string ⟨p.toArray⟩, .slice none 0 0] 97)).alloc (.cells #[.string ⟨q.toArray⟩] 9)).alloc (.cells #[.string ⟨#[38]⟩] 9)).alloc (.cells #[.int .i64 0] 3) := ⟨_, rfl⟩
  rw [← hW0]
  have hz0 : W0.heap.size = w2.heap.size + 4 := by rw [hW0]; simp
  have g0 : W0.heap[w2.heap.size]? = some (.cells #[.string ⟨p.toArray⟩, .slice none 0 0] 97 (0, 0)) := by
    rw [hW0]
    exact (Below.heap_alloc _ _ _ (by simp; omega)).trans ((Below.heap_alloc _ _ _ (by simp; omega)).trans ((Below.heap_alloc _ _ _ (by simp)).trans (heap_alloc_new _ _)))
  have g1 : W0.heap[w2.heap.size + 1]? = some (.cells #[.string ⟨q.toArray⟩] 9 (0, 0)) := by
    rw [hW0]
    refine (Below.heap_alloc _ _ _ (by simp <;> omega)).trans ((Below.heap_alloc _ _ _ (by simp)).trans ?_)
    have := heap_alloc_new (w2.alloc (.cells #[.string ⟨p.toArray⟩, .slice none 0 0] 97)) (.cells #[.string ⟨q.toArray⟩] 9)
    rwa [World.size_alloc] at this
  have g2 : W0.heap[w2.heap.size + 1 + 1]? = some (.cells #[.string ⟨#[38]⟩] 9 (0, 0)) := by
    rw [hW0]
    refine (Below.heap_alloc _ _ _ (by simp)).trans ?_
    have := heap_alloc_new ((w2.alloc (.cells #[.string ⟨p.toArray⟩, .slice none 0 0] 97)).alloc (.cells #[.string ⟨q.toArray⟩] 9)) (.cells #[.string ⟨#[38]⟩] 9)
    rwa [World.size_alloc, World.size_alloc] at this
  have g3 : W0.heap[w2.heap.size + 1 + 2]? = some (.cells #[.int .i64 0] 3 (0, 0)) := by
    rw [hW0]
    have := heap_alloc_new (((w2.alloc (.cells #[.string ⟨p.toArray⟩, .slice none 0 0] 97)).alloc (.cells #[.string ⟨q.toArray⟩] 9)).alloc (.cells #[.string ⟨#[38]⟩] 9)) (.cells #[.int .i64 0] 3)
    rwa [World.size_alloc, World.size_alloc, World.size_alloc] at this
  have hB20 : Below w2.heap.size w2 W0 := by
    rw [hW0]
    exact ((((Below.refl _ w2).alloc (Nat.le_refl _) _).alloc (by simp) _).alloc (by simp <;> omega) _).alloc (by simp <;> omega) _
  have HB0 := Lib.hid (HB.out.trans (hB20.mono (by omega)))
  have HR0 := Lib.hid (HR.out.below hB20)
  have hiv : Inv w W0.heap.size w2.heap.size p [] W0 := ⟨⟨[], .slice none 0 0, rfl, g0, World.ownsRow_nil _ _ _ _, Nat.le_refl _⟩, HR0.out, HB0.out⟩
  have HGV := Lib.hid (UriB.gives (8 - 1) (by decide) (w2.heap.size + 1) 38 ⟨q.toArray⟩ W0 g1 g2 g3 (by rw [Com.size_mk]; have := HQ.out; omega))
  have HI0 := Lib.hid hiv
  have hz1 : w2.heap.size + 4 ≤ W0.heap.size := by omega
  clear hiv g0 g1 g2 g3 hW0 hB20 hz0
  refine Rng.range (a₁ := ?a1) rfl (by decide) (gf := 174) (lb := #[.pointer (some ⟨w2.heap.size + 1 + 1, 0, none⟩), .pointer (some ⟨w2.heap.size + 1, 0, none⟩), .pointer (some ⟨w2.heap.size + 1 + 2, 0, none⟩)]) rfl trivial (enters_of Tryz.func174 (by kernel_rfl) rfl)
    (lo := w2.heap.size + 1) (hi := w2.heap.size + 1 + 3) (c := w2.heap.size + 1) (by omega) (by omega) HGV.out (Inv w W0.heap.size w2.heap.size p) (Left w aU) (inv_bides w p (by omega) (by omega) (by omega) (by omega)) (left_bides w aU (by omega) (by omega)) HI0.out ?assign ?body ?done ?stop
  case assign =>
    intro l x W K hK
    gi_wp2
    exact hK
  case body =>
    rintro l pre x W hi hpx hWz
    obtain ⟨⟨ps, v, hps, hu, hown, hpl⟩, hres, hbel⟩ := hi
    have hxs : x.size ≤ 16777216 := by
      have := pieces_size (List.IsPrefix.subset hpx (List.mem_append_right _ (List.mem_singleton.2 rfl)))
      rw [show (ByteArray.mk q.toArray).data.toList = q from rfl] at this
      have h2 := HQ.out
      omega
    have hmW := hm.below hbel
    have hcl := Up.cutAt_len 61 x.data.toList
    rw [Com.toList_length] at hcl
    have HCL := Lib.hid hcl; clear hcl
    have HPS := Lib.hid hps; clear hps
    by_cases hx : x.data.toList = []
    · have hx0 : x.toList.isEmpty = true := by rw [Com.toList_data, hx]; rfl
      have HX := Lib.hid hx; clear hx
      gi_wp2_with fail
      refine ⟨KeepsOthers.refl _, Rng.Span.refl _ _ _, ⟨ps, v, ?_, hu, hown, by simp; omega⟩, hres, hbel⟩
      rw [List.map_append, List.map_cons, List.map_nil, HX.out]
      exact Up.pairs_skip1 HPS.out
    · have hx0 : x.toList.isEmpty = false := by rw [Com.toList_data]; simpa using hx
      have HX := Lib.hid hx; clear hx
      gi_wp2_with fail
      refine (CallsIn.inRound l (callsIn_wide.2 (UriB.cut 61 x _ (by omega) hmW))).mono ?_
      rintro e W1 ⟨⟨bc, rfl⟩, hb1⟩
      generalize hn1 : (Up.cutAt 61 x.data.toList).1 = n1 at *
      generalize hv1 : (Up.cutAt 61 x.data.toList).2 = v1 at *
      have HN1 := Lib.hid hn1; have HV1 := Lib.hid hv1
      have hl1 : n1.length ≤ 16777216 := by have := HCL.out; omega
      have hl2 : v1.length ≤ 16777216 := by have := HCL.out; omega
      clear hn1 hv1
      have hws1 : W.heap.size ≤ W1.heap.size := hb1.size
      cases hdn : Up.dec n1 with
      | none =>
        have HDN := Lib.hid hdn
        gi_wp2_with fail
        refine (CallsIn.inRound l (callsIn_wide.2 (UriA.decodeN (s := ⟨n1.toArray⟩) hdn _ (by rw [Com.size_mk]; omega)))).mono ?_
        rintro e W2 ⟨rfl, hb2⟩
        clear hdn
        gi_wp2_with fail
        refine (CallsIn.inRound l (callsIn_wide.2 (UriA.decode ⟨v1.toArray⟩ _ (by rw [Com.size_mk]; omega)))).mono ?_
        rintro e W3 ⟨rfl, hb3⟩
        unfold UriA.ans
        have hBW : Below W.heap.size W W3 := (hb1.trans (hb2.mono hb1.size)).trans (hb3.mono (Nat.le_trans hb1.size hb2.size))
        have hr3 := res_low hres hBW
        obtain ⟨r0, r1, r2, f0, f1, f2⟩ := hr3.cells
        have he3 := (he.below hbel).below hBW
        unfold EU at he3
        have hg1 : (13 : Nat) ≠ w.heap.size := by omega
        have hg2 : w.heap.size ≠ (13 : Nat) := by omega
        have HR3 := Lib.hid hr3; clear hr3
        have HBW := Lib.hid hBW; clear hBW hb1 hb2 hb3
        gi_wp2_with fail
        gi_region
        all_goals
          gi_wp2
          refine ⟨keeps_put HBW.out _ _ _, ⟨rfl, ?_, HR3.out.put _ _ _, below_put (hbel.trans (HBW.out.mono hbel.size)) _ _ _⟩⟩
          rw [List.map_append, List.map_cons, List.map_nil]
          exact Up.pairs_fail HX.out (.inl (by rw [HN1.out]; exact HDN.out))
      | some n2 =>
        have HDN := Lib.hid hdn
        gi_wp2_with fail
        refine (CallsIn.inRound l (callsIn_wide.2 (UriA.decodeS (s := ⟨n1.toArray⟩) hdn _ (by rw [Com.size_mk]; omega)))).mono ?_
        rintro e W2 ⟨rfl, hb2⟩
        clear hdn
        cases hdv : Up.dec v1 with
        | none =>
          have HDV := Lib.hid hdv
          gi_wp2_with fail
          refine (CallsIn.inRound l (callsIn_wide.2 (UriA.decodeN (s := ⟨v1.toArray⟩) hdv _ (by rw [Com.size_mk]; omega)))).mono ?_
          rintro e W3 ⟨rfl, hb3⟩
          clear hdv
          have hBW : Below W.heap.size W W3 := (hb1.trans (hb2.mono hb1.size)).trans (hb3.mono (Nat.le_trans hb1.size hb2.size))
          have hr3 := res_low hres hBW
          obtain ⟨r0, r1, r2, f0, f1, f2⟩ := hr3.cells
          have he3 := (he.below hbel).below hBW
          unfold EU at he3
          have hg1 : (13 : Nat) ≠ w.heap.size := by omega
          have hg2 : w.heap.size ≠ (13 : Nat) := by omega
          have HR3 := Lib.hid hr3; clear hr3
          have HBW := Lib.hid hBW; clear hBW hb1 hb2 hb3
          gi_wp2_with fail
          gi_region
          all_goals
            gi_wp2
            refine ⟨keeps_put HBW.out _ _ _, ⟨rfl, ?_, HR3.out.put _ _ _, below_put (hbel.trans (HBW.out.mono hbel.size)) _ _ _⟩⟩
            rw [List.map_append, List.map_cons, List.map_nil]
            exact Up.pairs_fail HX.out (.inr (by rw [HV1.out]; exact HDV.out))
        | some v2 =>
          have HDV := Lib.hid hdv
          gi_wp2_with fail
          refine (CallsIn.inRound l (callsIn_wide.2 (UriA.decodeS (s := ⟨v1.toArray⟩) hdv _ (by rw [Com.size_mk]; omega)))).mono ?_
          rintro e W3 ⟨rfl, hb3⟩
          clear hdv
          have hBW : Below W.heap.size W W3 := (hb1.trans (hb2.mono hb1.size)).trans (hb3.mono (Nat.le_trans hb1.size hb2.size))
          have hu3 := (hBW.block w2.heap.size (by omega)).trans hu
          have hown3 := Com.own_below hown hBW
          have HU3 := Lib.hid hu3
          have c1 : W3.cell? ⟨w2.heap.size, 1, none⟩ = some v := by rw [Lib.cell_of_heap hu3]; rfl
          have hz3 : w2.heap.size < W3.heap.size := by have := hBW.size; omega
          have hz4 : W0.heap.size ≤ W3.heap.size := by have := hBW.size; omega
          have HBW := Lib.hid hBW; clear hBW hb1 hb2 hb3 hu3 hown
          have hpl2 : ps.length ≤ 16777217 := by
            have h1 := hpx.length_le
            have h2 := Up.splits_length 38 q
            have h3 := HQ.out
            simp [UriB.pieces] at h1
            omega
          obtain ⟨i0, hi, hz0, hz1', hz2⟩ := info_parts infoPair
          gi_wp2_with (gi_at_builtin; refine wpListIn_append_own _ rfl _ _ 95 rfl W0.heap.size 152 i0 (.agg #[.string ⟨#[]⟩, .string ⟨#[]⟩]) 2 32 Tryz.underlying95 hi hz0 hz1' hz2 rfl (by decide) _ _ _ rfl (hown3.alloc _) ⟨W3.heap.size, 0, none⟩ 1 1 [.string ⟨n2.toArray⟩, .string ⟨v2.toArray⟩] rfl rfl (cells_two _ _ _ _) (by simp [Value.oneCell']) (by unfold maxLen; omega) (by omega) (by simp; omega) ?_; intro v' W4 hown' hgrow _; obtain ⟨g4, cap4, rfl⟩ := own_form hown'; have hu4 := (hgrow.block w2.heap.size (by simp; omega) (fun e => by have := (hown3.lt _ e.symm).1; omega)).trans ((Below.heap_alloc W3 _ _ hz3).trans HU3.out); have c4 : W4.cell? ⟨w2.heap.size, 1, none⟩ = some v := (by rw [Lib.cell_of_heap hu4]; rfl); have fz4 : W4.frozen? ⟨w2.heap.size, 1, none⟩ = false := Lib.frozen_of_heap hu4 1; have HU4 := Lib.hid hu4; clear hu4)
          have hownF : W4.ownsRow W0.heap.size 152 2 (.slice (some ⟨g4, 0, none⟩) (ps.length + 1) cap4) (ps ++ [(n2, v2)]).length (pcells (ps ++ [(n2, v2)])) := by
            rw [pcells_snoc, List.length_append]
            exact hown'
          have hgB : Below W0.heap.size W W4 := ((HBW.out.mono hWz).alloc (by have := HBW.out.size; omega) _).grown hgrow (by have := HBW.out.size; simp; omega) (fun j hj => (hown3.lt j hj).1)
          have hKO : KeepsOthers W W4 := ((keeps_below HBW.out).trans (KeepsOthers.alloc _ _)).trans (KeepsOthers.of_grownBy hgrow (fun j o hj ho => own_isCells (hown3.alloc _) hj ho))
          refine ⟨hKO.trans (KeepsOthers.setCell _ _ _), fun k hk1 hk2 => (Below.heap_setCell _ _ _ _ (by simp; omega)).trans (hgB.block k (by omega)), ⟨ps ++ [(n2, v2)], .slice (some ⟨g4, 0, none⟩) (ps.length + 1) cap4, ?_, ?_, ownsRow_setCell_below hownF (by simp; omega) _, by simp; omega⟩, ?_, ?_⟩
          · rw [List.map_append, List.map_cons, List.map_nil]
            exact Up.pairs_snoc HPS.out HX.out (by rw [HN1.out]; exact HDN.out) (by rw [HV1.out]; exact HDV.out)
          · simp only [World.setCell, Array.getElem?_modify, if_true, HU4.out]
            rfl
          · exact ⟨(Below.heap_setCell _ _ _ _ (by simp; omega)).trans ((hgB.block _ (by omega)).trans hres.uri), (Below.heap_setCell _ _ _ _ (by simp; omega)).trans ((hgB.block _ (by omega)).trans hres.err)⟩
          · exact (hbel.trans (hgB.mono (by omega))).setCell (p := ⟨w2.heap.size, 1, none⟩) (by simp; omega) _
  case done =>
    rintro D W hD hi hK
    obtain ⟨⟨ps, v, hps, hu, hown, hpl⟩, hres, hbel⟩ := hi
    rw [pieces_data] at hps
    have HPS := Lib.hid hps; clear hps
    obtain ⟨ax, cx, rfl, hcx, hpx⟩ := pairs_of_own hown
    have c0 : W.cell? ⟨w2.heap.size, 0, none⟩ = some (.string ⟨p.toArray⟩) := by rw [Lib.cell_of_heap hu]; rfl
    have c1 : W.cell? ⟨w2.heap.size, 1, none⟩ = some (.slice ax ps.length cx) := by rw [Lib.cell_of_heap hu]; rfl
    obtain ⟨r0, r1, r2, f0, f1, f2⟩ := hres.cells
    have HRES := Lib.hid hres; have HBEL := Lib.hid hbel; have HK := Lib.hid hK; have HOWN := Lib.hid hown
    clear hres hbel hK hpx hu hown
    gi_wp2
    have hk1 := ((((KeepsOthers.setCell W ⟨w.heap.size, 0, none⟩ (.string ⟨p.toArray⟩)).trans (KeepsOthers.setCell _ ⟨w.heap.size, 1, none⟩ (.slice ax ps.length cx))).trans (KeepsOthers.setCell _ ⟨w.heap.size + 1, 0, none⟩ .nilIface))).same _ _ HK.out rfl
    refine ⟨by simp, .inl ⟨_, _, rfl, run_takeDeferred hk1, ?_⟩⟩
    have hr1 := (((HRES.out.put0 (.string ⟨p.toArray⟩)).put1 (.slice ax ps.length cx)).putE .nilIface).obj (D := D) (.deferred none) (by omega)
    have ho1 := own_obj (ownsRow_setCell_below (ownsRow_setCell_below (ownsRow_setCell_below HOWN.out (a := ⟨w.heap.size, 0, none⟩) (by simp; omega) (.string ⟨p.toArray⟩)) (a := ⟨w.heap.size, 1, none⟩) (by simp; omega) (.slice ax ps.length cx)) (a := ⟨w.heap.size + 1, 0, none⟩) (by simp; omega) .nilIface) (.deferred none) hk1 rfl
    obtain ⟨ay, cy, he1, hc1, hp1⟩ := pairs_of_own ho1
    have hfy : FlatA ay := by rw [he1] at ho1; exact own_flatA ho1
    have hb1 := below_obj (((HBEL.out.setCell (p := ⟨w.heap.size, 0, none⟩) (Nat.le_refl _) (.string ⟨p.toArray⟩)).setCell (p := ⟨w.heap.size, 1, none⟩) (Nat.le_refl _) (.slice ax ps.length cx)).setCell (p := ⟨w.heap.size + 1, 0, none⟩) (by simp) .nilIface) (D := D) (.deferred none) (by omega) (by have := HBEL.out.size; simpa [World.setCell] using this)
    refine ⟨_, hr1.run rfl rfl, ?_, hb1⟩
    rw [HQE.out, show Up.pairs (Up.splits 38 q) = some ps from HPS.out]
    exact ⟨ay, cy, by rw [he1], ⟨hc1, hfy⟩, hp1⟩
  case stop =>
    rintro D k pre W hD hpre2 hl hK
    obtain ⟨rfl, hnone, hres, hbel⟩ := hl
    have HS := Lib.hid (show Up.pairs (Up.splits 38 q) = none by
      rw [← pieces_data]
      exact Up.pairs_prefix_none (List.IsPrefix.map _ hpre2) hnone)
    gi_wp2
    refine ⟨by simp, .inl ⟨_, _, rfl, run_takeDeferred hK, ?_⟩⟩
    refine ⟨_, (hres.obj (D := D) (.deferred .none) (by omega)).run rfl rfl, ?_, below_obj hbel (.deferred .none) (by omega) hbel.size⟩
    rw [HQE.out, HS.out]
    rfl
end Go.Proofs.YtidflagmdabfaaaGreatDoor.UriC
namespace Go.Proofs.YtidflagmdabfaaaGreatDoor.UriE
open Go.RowKit Go.Proofs.YtidflagmdabfaaaGreatDoor

def vl (n : Nat) : Int := if 48 ≤ n ∧ n ≤ 57 then (n : Int) - 48 else if 97 ≤ n ∧ n ≤ 102 then (n : Int) - 97 + 10 else if 65 ≤ n ∧ n ≤ 70 then (n : Int) - 65 + 10 else -1
theorem vl_all : ∀ n : Fin 256, UriA.dg (UInt8.ofNat n.1) = vl n.1 := by decide +kernel
theorem vl_eq (c : UInt8) : UriA.dg c = vl c.toNat := by
  have := vl_all ⟨c.toNat, UInt8.toNat_lt c⟩
  simpa using this

set_option maxHeartbeats 1000000 in
theorem value (c : UInt8) (w : World) : Calls Tryz.prog 156 #[.int .u8 (c.toNat : Int)] w fun e w' => e = .returned (.int .i64 (UriA.dg c)) ∧ w = w' := by
  have hc := UInt8.toNat_lt c
  by_cases h1 : 48 ≤ c.toNat ∧ c.toNat ≤ 57
  · have HE := Lib.hid (show UriA.dg c = (c.toNat : Int) - 48 by rw [vl_eq, vl, if_pos h1])
    obtain ⟨h1, h2⟩ := h1
    go_enter Tryz.func156, Tryz.ntmps156
    go_wp2
    go_ret
    exact ⟨UriA.ret_i64 (by rw [HE.out]), rfl⟩
  · by_cases h2 : 97 ≤ c.toNat ∧ c.toNat ≤ 102
    · have HE := Lib.hid (show UriA.dg c = (c.toNat : Int) - 97 + 10 by rw [vl_eq, vl, if_neg h1, if_pos h2])
      clear h1
      obtain ⟨h1, h2⟩ := h2
      go_enter Tryz.func156, Tryz.ntmps156
      go_wp2
      go_ret
      exact ⟨UriA.ret_i64 (by rw [HE.out]), rfl⟩
    · by_cases h3 : 65 ≤ c.toNat ∧ c.toNat ≤ 70
      · have HE := Lib.hid (show UriA.dg c = (c.toNat : Int) - 65 + 10 by rw [vl_eq, vl, if_neg h1, if_neg h2, if_pos h3])
        clear h1 h2
        obtain ⟨h1, h2⟩ := h3
        go_enter Tryz.func156, Tryz.ntmps156
        go_wp2
        go_ret
        exact ⟨UriA.ret_i64 (by rw [HE.out]), rfl⟩
      · have HE := Lib.hid (show UriA.dg c = -1 by rw [vl_eq, vl, if_neg h1, if_neg h2, if_neg h3])
        by_cases g1 : c.toNat < 48
        · clear h1 h2 h3
          go_enter Tryz.func156, Tryz.ntmps156
          go_wp2
          go_ret
          exact ⟨UriA.ret_i64 (by rw [HE.out]), rfl⟩
        · have g2 : 57 < c.toNat := by omega
          by_cases g3 : c.toNat < 65
          · clear h1 h2 h3
            go_enter Tryz.func156, Tryz.ntmps156
            go_wp2
            go_ret
            exact ⟨UriA.ret_i64 (by rw [HE.out]), rfl⟩
          · have g4 : 70 < c.toNat := by omega
            by_cases g5 : c.toNat < 97
            · clear h1 h2 h3
              go_enter Tryz.func156, Tryz.ntmps156
              go_wp2
              go_ret
              exact ⟨UriA.ret_i64 (by rw [HE.out]), rfl⟩
            · have g6 : 102 < c.toNat := by omega
              clear h1 h2 h3
              go_enter Tryz.func156, Tryz.ntmps156
              go_wp2
              go_ret
              exact ⟨UriA.ret_i64 (by rw [HE.out]), rfl⟩

theorem not_mem_snoc {c : UInt8} {s : ByteArray} {k : Nat} (hk : k < s.size) (h : c ∉ s.data.toList.take k) (hc : s[k] ≠ c) : c ∉ s.data.toList.take (k + 1) := by
  rw [Com.take_succ s k hk, List.mem_append]
  simp [h, Ne.symm hc]

set_option maxHeartbeats 2000000 in
set_option maxRecDepth 100000 in
theorem cut (s : ByteArray) (c : UInt8) (w : World) (hs : s.size ≤ 70368744177664) :
    Calls Tryz.prog 94 #[.string s, .int .u8 (c.toNat : Int)] w fun e w' => e = .returned (.tuple #[.string ⟨(Up.cutAt c s.data.toList).1.toArray⟩, .string ⟨(Up.cutAt c s.data.toList).2.toArray⟩]) ∧ Below w.heap.size w w' := by
  go_enter Tryz.func94, Tryz.ntmps94
  go_wp2_with fail
  go_loop [6] (fun i => ∃ k : Nat, k ≤ s.size ∧ i = .int .i64 k ∧ Hid (c ∉ s.data.toList.take k)) (fun i => s.size - (intOf i).toNat)
  case atStart => exact ⟨0, Nat.zero_le _, rfl, by unfold Hid; simp⟩
  case round =>
    obtain ⟨k, hk, rfl, HM⟩ := hrel
    by_cases hlt : k < s.size
    · by_cases hc : s[k] = c
      · have t1 : ((s[k].toNat : Int) == (c.toNat : Int)) = true := by rw [hc]; simp
        have HC := Lib.hid (show Up.cutAt c s.data.toList = (s.data.toList.take k, s.data.toList.drop (k + 1)) by
          have e : s.data.toList = s.data.toList.take k ++ c :: s.data.toList.drop (k + 1) := by
            conv => lhs; rw [← List.take_append_drop k s.data.toList, UriA.drop_at s k hlt, hc]
          conv => lhs; rw [e]
          exact Up.cutAt_at HM.out)
        have hE1 : s.extract 0 k = ⟨(s.data.toList.take k).toArray⟩ := by
          rw [← Com.mk_data (s.extract 0 k), Com.extract_data]; simp
        have hE2 : s.extract (k + 1) s.size = ⟨(s.data.toList.drop (k + 1)).toArray⟩ := by
          rw [← Com.mk_data (s.extract (k + 1) s.size), Com.extract_data, Com.take_all s s.size rfl]
        clear hc
        go_wp2_with fail
        go_quiet (fail)
        go_wp2_with fail
        go_ret2
        exact ⟨by rw [HC.out]; rfl, UriA.below_drewN (Below.refl _ _) _⟩
      · have t1 : ((s[k].toNat : Int) == (c.toNat : Int)) = false := by
          simp only [beq_eq_false_iff_ne, ne_eq]
          exact fun e => hc (UInt8.toNat_inj.1 (by omega))
        have HN := Lib.hid (not_mem_snoc hlt HM.out hc)
        clear hc
        go_wp2_with fail
        go_round
        case rel => exact ⟨k + 1, by omega, by go_num, HN⟩
        case measure => simp [intOf]; omega
    · have HC := Lib.hid (show Up.cutAt c s.data.toList = (s.data.toList, []) by
        have := HM.out
        rw [Com.take_all s k (by omega)] at this
        exact Up.cutAt_free this)
      go_wp2_with fail
      go_ret2
      exact ⟨by rw [HC.out, Com.mk_data]; rfl, Below.refl _ _⟩
end Go.Proofs.YtidflagmdabfaaaGreatDoor.UriE
