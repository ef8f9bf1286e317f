/-
  The walk of bollardref17's Sorted.
-/
import Derived.Test.YtidflagmdabfaaaGreatDoorSc01
import Derived.RegionTactic
import Derived.BigRegion
import Derived.BigQuiet
import Derived.Deep.RegionLaw
namespace Go.Proofs.YtidflagmdabfaaaGreatDoor.UriT
open Go.RowKit Go.Proofs.YtidflagmdabfaaaGreatDoor Go.Proofs.YtidflagmdabfaaaGreatDoor.UriC Go.Proofs.YtidflagmdabfaaaGreatDoor.UriN Go.Proofs.YtidflagmdabfaaaGreatDoor.UriO Go.Proofs.YtidflagmdabfaaaGreatDoor.UriR Go.Proofs.YtidflagmdabfaaaGreatDoor.UriQ

theorem own_pairs {w : World} {base : Nat} {a : Option Addr} {n c : Nat} {ps : List Pr} (h : w.ownsRow base 152 2 (.slice a n c) ps.length (pcells ps)) : Pairs w a ps := by
  obtain ⟨a', c', hv, _, hp⟩ := pairs_of_own h
  cases hv
  exact hp

/-- 'append' in a region that draws its order, where the row is no nil; the source may be empty -/
theorem step_append_own {w : World} {ops : Array Oper} {o : Oper} {a : Act} {K : Act → World → Prop} {Q : Exit → Act → World → Prop} {E : Prop} (hgd : o.guard = none) (s x : Operand) (t : TypeId)
    (ho : o.op = .call { callee := .builtin .append, args := #[s, x], argTypes := #[t, t] })
    (base : Nat) (e : TypeId) (i : TypeInfo) (z : Value) (size bytes : Nat) (ht : Tryz.prog.underlying t = some (.slice e)) (hi : Tryz.prog.info? e = some i) (hz : i.zero = some z)
    (hsize : i.size = size) (hby : i.bytes = bytes) (hzs : z.cells.size = size) (hsz : 0 < size)
    (g0 n c0 : Nat) (xs : List Value) (hs : a.eval s = .slice (some ⟨g0, 0, none⟩) n c0) (hown : w.ownsRow base e size (.slice (some ⟨g0, 0, none⟩) n c0) n xs)
    (ad : Addr) (m c : Nat) (news : List Value) (hx : a.eval x = .slice (some ad) m c) (hl : news.length = m * size) (hnews : ∀ j u, news[j]? = some u → w.cell? (ad.add j) = some u) (h1 : ∀ u ∈ news, u.oneCell' = true)
    (h63 : n + m ≤ maxLen) (hbytes : (n + m) * bytes ≤ 140737488355328) (hbase : base ≤ w.heap.size)
    (h : ∀ g cap w', w'.ownsRow base e size (.slice (some ⟨g, 0, none⟩) (n + m) cap) (n + m) (xs ++ news) → w.grownBy w' (some g0) → K (a.put o.dst (.slice (some ⟨g, 0, none⟩) (n + m) cap)) w') :
    if Region.wanted o (yielded ops a.tmps) = true then Oper.wp Tryz.prog o a w K Q else E := by
  have hw : Region.wanted o (yielded ops a.tmps) = true := by simp [Region.wanted, hgd]
  rw [if_pos hw]
  refine wp_append_own w s x t ho base e i z size bytes ht hi hz hsize hby hzs hsz _ n xs hs hown ad m c news hx hl hnews h1 h63 hbytes hbase fun v' w' h2 h3 h4 => ?_
  rcases h2.2 with ⟨h5, _⟩ | ⟨g, cap, cur, rfl, _⟩
  · have := (h4.1 h5).1
    cases this
  · exact h g cap w' h2 h3
/-- pairs' cells in a block -/
def Qc (g : Nat) (qs : List Pr) (w : World) : Prop := ∀ (j : Nat) (p : Pr), qs[j]? = some p → w.cell? ⟨g, j * 2, none⟩ = some (.string ⟨p.1.toArray⟩) ∧ w.cell? ⟨g, j * 2 + 1, none⟩ = some (.string ⟨p.2.toArray⟩)
theorem Qc.below {g : Nat} {qs : List Pr} {w w' : World} (h : Qc g qs w) (hg : g < w.heap.size) (hb : Below w.heap.size w w') : Qc g qs w' := fun j p hj =>
  ⟨(hb.cell (p := ⟨g, j * 2, none⟩) hg).trans (h j p hj).1, (hb.cell (p := ⟨g, j * 2 + 1, none⟩) hg).trans (h j p hj).2⟩
theorem Qc.grown {g r : Nat} {qs : List Pr} {w w' : World} (h : Qc g qs w) (hg : g < w.heap.size) (hr : g ≠ r) (hb : w.grownBy w' (some r)) : Qc g qs w' := fun j p hj =>
  ⟨(hb.cell_far ⟨g, j * 2, none⟩ hg (fun e => hr (Option.some.inj e))).trans (h j p hj).1, (hb.cell_far ⟨g, j * 2 + 1, none⟩ hg (fun e => hr (Option.some.inj e))).trans (h j p hj).2⟩
theorem Qc.take {g : Nat} {qs : List Pr} {w : World} (h : Qc g qs w) (m : Nat) : ∀ (j : Nat) u, (pcells (qs.take m))[j]? = some u → w.cell? ((⟨g, 0, none⟩ : Addr).add j) = some u := by
  intro j u hj
  rw [UriA.addr_add]
  refine pcells_at (b := g) (qs.take m) 0 (fun i p hi => ?_) j u hj
  rw [List.getElem?_take] at hi
  split at hi
  · simpa using h i p hi
  · cases hi
theorem Qc.drop {g : Nat} {qs : List Pr} {w : World} (h : Qc g qs w) (m : Nat) : ∀ (j : Nat) u, (pcells (qs.drop m))[j]? = some u → w.cell? ((⟨g, m * 2, none⟩ : Addr).add j) = some u := by
  intro j u hj
  rw [UriA.addr_add]
  refine pcells_at (b := g) (qs.drop m) (m * 2) (fun i p hi => ?_) j u hj
  rw [List.getElem?_drop] at hi
  have := h (m + i) p hi
  rw [show (m + i) * 2 = m * 2 + i * 2 by omega] at this
  exact this
theorem Qc.drop0 {g : Nat} {qs : List Pr} {w : World} (h : Qc g qs w) : ∀ (j : Nat) u, (pcells qs)[j]? = some u → w.cell? ((⟨g, 0, none⟩ : Addr).add j) = some u := by
  have := Qc.drop h 0
  simpa using this
theorem own_lower {w : World} {base base' : Nat} {e : TypeId} {size : Nat} {v : Value} {n : Nat} {xs : List Value} (h : w.ownsRow base e size v n xs) (hb : base' ≤ base) : w.ownsRow base' e size v n xs := by
  refine ⟨h.1, ?_⟩
  rcases h.2 with h2 | ⟨g, cap, cur, h2, h3, h4⟩
  · exact .inl h2
  · exact .inr ⟨g, cap, cur, h2, Nat.le_trans hb h3, h4⟩
theorem own_ge {w : World} {base : Nat} {e : TypeId} {size : Nat} {g n c k : Nat} {xs : List Value} (h : w.ownsRow base e size (.slice (some ⟨g, 0, none⟩) n c) k xs) : base ≤ g ∧ g < w.heap.size := by
  rcases h.2 with ⟨h2, _⟩ | ⟨g', cap, cur, h2, h3, h4, _⟩
  · cases h2
  · cases h2; exact ⟨h3, (Array.getElem?_eq_some_iff.1 h4).1⟩
theorem own_qc {w : World} {base : Nat} {g n c : Nat} {qs : List Pr} (h : w.ownsRow base 152 2 (.slice (some ⟨g, 0, none⟩) n c) qs.length (pcells qs)) : Qc g qs w := by
  intro j p hj
  obtain ⟨q1, q2⟩ := pcells_get hj
  have c1 := h.cells (g := g) rfl _ _ q1
  have c2 := h.cells (g := g) rfl _ _ q2
  rw [UriA.addr_add] at c1 c2
  rw [Nat.zero_add] at c1
  rw [Nat.zero_add] at c2
  exact ⟨c1, c2⟩
theorem pcells_one (ps : List Pr) : ∀ u ∈ pcells ps, u.oneCell' = true := by
  intro u hu
  simp only [pcells, List.mem_flatMap, List.mem_cons, List.not_mem_nil, or_false] at hu
  obtain ⟨q, _, rfl | rfl⟩ := hu
  · rfl
  · rfl
theorem own_fresh (w : World) (base : Nat) (h : base ≤ w.heap.size) : (w.alloc (.cells #[] 152)).ownsRow base 152 2 (.slice (some ⟨w.heap.size, 0, none⟩) 0 0) 0 [] :=
  ⟨rfl, .inr ⟨w.heap.size, 0, _, rfl, h, heap_alloc_new _ _, Nat.le_refl _, by unfold maxLen; omega, rfl, rfl⟩⟩
theorem grown_after {X W1 W2 : World} {g0 wn r : Nat} {qs : List Pr} {nm vl : Value} (hX : wn < X.heap.size) (hg : g0 < wn) (hr : X.heap.size ≤ r) (x0 : X.cell? ⟨wn, 0, none⟩ = some nm) (x1 : X.cell? ⟨wn, 1, none⟩ = some vl) (hQ : Qc g0 qs X) (hb : Below X.heap.size X W1) (hg1 : W1.grownBy W2 (some r)) :
    W2.cell? ⟨wn, 0, none⟩ = some nm ∧ W2.cell? ⟨wn, 1, none⟩ = some vl ∧ Qc g0 qs W2 ∧ Below X.heap.size X W2 := by
  have hs := hb.size
  have e : ∀ i, some (Addr.block ⟨wn, i, none⟩) ≠ some r := fun i h => by
    have := Option.some.inj h
    simp only at this
    omega
  refine ⟨(hg1.cell_far ⟨wn, 0, none⟩ (by simp only; omega) (e 0)).trans ((hb.cell (p := ⟨wn, 0, none⟩) hX).trans x0), (hg1.cell_far ⟨wn, 1, none⟩ (by simp only; omega) (e 1)).trans ((hb.cell (p := ⟨wn, 1, none⟩) hX).trans x1), Qc.grown (Qc.below hQ (by omega) hb) (by omega) (by omega) hg1, hb.grown hg1 (by omega) (fun j hj => by cases hj; exact hr)⟩
theorem cells2 (w : World) (a b : Value) (t : TypeId) : ∀ (j : Nat) u, [a, b][j]? = some u → (w.alloc (.cells #[a, b] t)).cell? ((⟨w.heap.size, 0, none⟩ : Addr).add j) = some u := by
  intro j u hj
  have h := heap_alloc_new w (.cells #[a, b] t)
  rw [UriA.addr_add, Nat.zero_add, Lib.cell_of_heap h]
  simpa using hj
theorem cells2' (w : World) (a b : Value) (t : TypeId) (B : Nat) (hB : w.heap.size = B) : ∀ (j : Nat) u, [a, b][j]? = some u → (w.alloc (.cells #[a, b] t)).cell? ((⟨B, 0, none⟩ : Addr).add j) = some u := by
  subst hB; exact cells2 w a b t
theorem one2 (a b : ByteArray) : ∀ u ∈ [Value.string a, .string b], u.oneCell' = true := by
  intro u hu
  simp only [List.mem_cons, List.not_mem_nil, or_false] at hu
  rcases hu with rfl | rfl
  · rfl
  · rfl
theorem src_after {W1 W2 : World} {B r : Nat} {a b : Value} {t : TypeId} (hb : W1.heap[B]? = some (.cells #[a, b] t (0, 0))) (hr : B ≠ r) (hg : W1.grownBy W2 (some r)) : ∀ (j : Nat) u, [a, b][j]? = some u → W2.cell? ((⟨B, 0, none⟩ : Addr).add j) = some u := by
  intro j u hj
  rw [UriA.addr_add, Nat.zero_add]
  refine (hg.cell_far ⟨B, j, none⟩ (Array.getElem?_eq_some_iff.1 hb).1 (fun e => hr (Option.some.inj e))).trans ?_
  rw [Lib.cell_of_heap hb]
  simpa using hj
theorem own_fresh' (w : World) (base B : Nat) (h : base ≤ B) (hB : w.heap.size = B) : (w.alloc (.cells #[] 152)).ownsRow base 152 2 (.slice (some ⟨B, 0, none⟩) 0 0) 0 [] := by
  subst hB; exact own_fresh w base h
theorem new2 (X : World) (o : Obj) (a b : Value) (t : TypeId) : ((X.alloc o).alloc (.cells #[a, b] t)).heap[X.heap.size + 1]? = some (.cells #[a, b] t (0, 0)) := by
  have := heap_alloc_new (X.alloc o) (.cells #[a, b] t)
  rwa [World.size_alloc] at this
theorem new3 (X : World) (o : Obj) (a b : Value) (t : TypeId) : ((X.alloc (.cells #[a, b] t)).alloc o).heap[X.heap.size]? = some (.cells #[a, b] t (0, 0)) :=
  (Below.heap_alloc _ _ _ (by rw [World.size_alloc]; omega)).trans (heap_alloc_new _ _)
theorem new2d (X : World) (o : Obj) (a b : Value) (t : TypeId) : ((X.alloc o).alloc (.cells #[a, b] t)).drew.heap[X.heap.size + 1]? = some (.cells #[a, b] t (0, 0)) := new2 X o a b t
theorem new3d (X : World) (o : Obj) (a b : Value) (t : TypeId) : ((X.alloc (.cells #[a, b] t)).alloc o).drew.heap[X.heap.size]? = some (.cells #[a, b] t (0, 0)) := new3 X o a b t
theorem bel2 (X : World) (o o' : Obj) : Below X.heap.size X ((X.alloc o).alloc o') := ((Below.refl _ X).alloc (Nat.le_refl _) _).alloc (by rw [World.size_alloc]; omega) _
theorem drop_src {g0 m k0 : Nat} {qs : List Pr} (h1 : m ≤ qs.length) (h2 : qs.length ≤ k0) : ∃ ad, (if k0 = m then some (⟨g0, 0, none⟩ : Addr) else some ⟨g0, m * 2, none⟩) = some ad ∧ Hid (∀ W, Qc g0 qs W → ∀ (j : Nat) u, (pcells (qs.drop m))[j]? = some u → W.cell? (ad.add j) = some u) := by
  by_cases e : k0 = m
  · refine ⟨_, if_pos e, fun W hW j u hj => ?_⟩
    rw [List.drop_of_length_le (by omega)] at hj
    simp [pcells] at hj
  · exact ⟨_, if_neg e, fun W hW => Qc.drop hW m⟩
theorem cellsOld (X : World) (o : Obj) (a b : Value) (t : TypeId) : ∀ (j : Nat) u, [a, b][j]? = some u → ((X.alloc (.cells #[a, b] t)).alloc o).cell? ((⟨X.heap.size, 0, none⟩ : Addr).add j) = some u := by
  intro j u hj
  rw [UriA.addr_add, Nat.zero_add, Lib.cell_of_heap (new3 X o a b t)]
  simpa using hj
theorem pcells_ins (qs : List Pr) (q : Pr) (m : Nat) : pcells (qs.take m ++ q :: qs.drop m) = pcells (qs.take m) ++ [.string ⟨q.1.toArray⟩, .string ⟨q.2.toArray⟩] ++ pcells (qs.drop m) := by simp [pcells]

set_option maxHeartbeats 8000000 in
set_option maxRecDepth 100000 in
theorem sorted {a : Option Addr} {ps : List Pr} (c : Nat) (w : World) (hp : Pairs w a ps) (hl : ps.length ≤ 16777216) :
    Calls Tryz.prog 130 #[.slice a ps.length c] w fun e w' => (∃ v, e = .returned v ∧ w'.ownsRow w.heap.size 152 2 v ps.length (pcells (srt ps))) ∧ Below w.heap.size w w' := by
  have HP := Lib.hid hp; clear hp
  obtain ⟨i0, hi, hz0, hz1, hz2⟩ := info_parts infoPair
  go_enter Tryz.func130, Tryz.ntmps130
  go_wp2_with fail
  go_loopg [3, 6, 10] ps.length (fun g v3 _ v10 wr => ∃ (k : Nat) (qs : List Pr) (g0 c0 : Nat), k + g = ps.length ∧ v10 = .int .i64 k ∧ v3 = .slice (some ⟨g0, 0, none⟩) k c0 ∧ wr.ownsRow w.heap.size 152 2 v3 qs.length (pcells qs) ∧ Below w.heap.size w wr ∧ Hid ((qs.Pairwise fun x y => le x y = true) ∧ qs.Perm (ps.take k)) ∧ qs.length = k)
  case atStart => exact ⟨0, [], w.heap.size, 0, by simp, rfl, rfl, ⟨rfl, .inr ⟨w.heap.size, 0, _, rfl, Nat.le_refl _, heap_alloc_new _ _, Nat.le_refl _, by unfold maxLen; simp, rfl, rfl⟩⟩, (Below.refl _ w).alloc (Nat.le_refl _) _, ⟨List.Pairwise.nil, by simp⟩, rfl⟩
  case round =>
    obtain ⟨k, qs, g0, k0, hkg, rfl, rfl, hown, hb, HS, hql⟩ := hrel
    have HG := Lib.hid hkg; clear hkg
    have hsz := hb.size
    by_cases hlt : k < ps.length
    · obtain ⟨q, hqk⟩ : ∃ q, ps[k]? = some q := ⟨ps[k], List.getElem?_eq_getElem hlt⟩
      obtain ⟨b, o, rfl, hbb, d0, d1⟩ := cells_at HP.out hqk
      have c0 := (hb.cell (p := ⟨b, o + k * 2, none⟩) hbb).trans d0
      have c1 := (hb.cell (p := ⟨b, o + k * 2 + 1, none⟩) hbb).trans d1
      have HQK := Lib.hid hqk
      obtain ⟨nm, vl⟩ := q
      simp only at c0 c1
      rw [← hql] at hown
      have hpp := own_qc hown
      obtain ⟨hgb, hgl⟩ := own_ge hown
      have hcc : k ≤ k0 := by
        rcases hown.2 with ⟨h, _⟩ | ⟨g', cap, cur, hv, _, _, hn, _⟩
        · cases h
        · cases hv; omega
      have HW := Lib.hid hown
      clear d0 d1 hqk hown
      have HT : Below wr.heap.size wr (wr.alloc (.cells #[.string ⟨nm.toArray⟩, .string ⟨vl.toArray⟩] 152)) := (Below.refl _ _).alloc (Nat.le_refl _) _
      have hpn := hpp.below hgl HT
      have hVs : (wr.alloc (.cells #[.string ⟨nm.toArray⟩, .string ⟨vl.toArray⟩] 152)).heap.size = wr.heap.size + 1 := World.size_alloc _ _
      have e0 : (wr.alloc (.cells #[.string ⟨nm.toArray⟩, .string ⟨vl.toArray⟩] 152)).cell? ⟨wr.heap.size, 0, none⟩ = some (.string ⟨nm.toArray⟩) := by rw [Lib.cell_of_heap (heap_alloc_new _ _)]; rfl
      have e1 : (wr.alloc (.cells #[.string ⟨nm.toArray⟩, .string ⟨vl.toArray⟩] 152)).cell? ⟨wr.heap.size, 1, none⟩ = some (.string ⟨vl.toArray⟩) := by rw [Lib.cell_of_heap (heap_alloc_new _ _)]; rfl
      have HB := Lib.hid hb
      have HO := Lib.hid (Com.own_below HW.out HT)
      go_wp2_with fail
      generalize hV : wr.alloc (.cells #[.string ⟨nm.toArray⟩, .string ⟨vl.toArray⟩] 152) = V at *
      have HPN := Lib.hid hpn
      clear hpn hpp HP c0 c1 hb
      go_loopw [6] (fun v6 V' => ∃ m n : Nat, m ≤ qs.length ∧ v6 = .int .i64 m ∧ V' = V.drewN n ∧ Hid (∀ (j : Nat) x, m ≤ j → qs[j]? = some x → Lt (nm, vl) x)) (fun v6 _ => (intOf v6).toNat)
      case atStart => exact ⟨qs.length, 0, Nat.le_refl _, by rw [hql], rfl, by intro j x hj hx; rw [List.getElem?_eq_none (by omega)] at hx; cases hx⟩
      case round =>
        obtain ⟨m, n, hm, rfl, rfl, HL⟩ := hrel
        have f0 : (V.drewN n).cell? ⟨wr.heap.size, 0, none⟩ = some (.string ⟨nm.toArray⟩) := e0
        have f1 : (V.drewN n).cell? ⟨wr.heap.size, 1, none⟩ = some (.string ⟨vl.toArray⟩) := e1
        cases m with
        | zero =>
          go_wp2_with fail
          go_quiet (fail)
          go_wp2_with fail
          generalize hX : (V.drewN n).drewN nq = X at *
          have hXs : X.heap.size = wr.heap.size + 1 := by rw [← hX]; exact hVs
          have x0 : X.cell? ⟨wr.heap.size, 0, none⟩ = some (.string ⟨nm.toArray⟩) := by rw [← hX]; exact e0
          have x1 : X.cell? ⟨wr.heap.size, 1, none⟩ = some (.string ⟨vl.toArray⟩) := by rw [← hX]; exact e1
          have hQX : Qc g0 qs X := by rw [← hX]; exact HPN.out
          have HBX := Lib.hid (show Below wr.heap.size wr X by rw [← hX]; exact HT.trans ((UriA.below_drewN (UriA.below_drewN (Below.refl V.heap.size V) n) nq).mono (by omega)))
          have HXS := Lib.hid hXs
          have hxl : wr.heap.size < X.heap.size := by omega
          have hxn : ¬ wr.heap.size = X.heap.size := by omega
          clear hX hXs e0 e1 f0 f1 HT HO
          go_region_law
            (first
              | (refine step_append_own (by rfl) (.tmp 57) (.tmp 59) _ (by rfl) X.heap.size 152 i0 _ 2 32 Tryz.underlying95 hi hz0 hz1 hz2 rfl (by omega) X.heap.size 0 0 [] (by rfl) ((own_fresh X X.heap.size (Nat.le_refl _)).alloc _) ⟨X.heap.size + 1, 0, none⟩ 1 1 [.string ⟨nm.toArray⟩, .string ⟨vl.toArray⟩] (by rfl) (by rfl) (cells2' _ _ _ _ _ (World.size_alloc _ _)) (one2 _ _) (by unfold maxLen; omega) (by omega) (by show X.heap.size ≤ (World.alloc (World.alloc X _) _).heap.size; rw [World.size_alloc, World.size_alloc]; omega) ?_; intro g2 c2 W4 hown2' hg2; have hown2 : W4.ownsRow X.heap.size 152 2 (.slice (some ⟨g2, 0, none⟩) (0 + 1) c2) (0 + 1) (pcells (qs.take 0) ++ [.string ⟨nm.toArray⟩, .string ⟨vl.toArray⟩]) := hown2'; obtain ⟨ge2, gl2⟩ := own_ge hown2; obtain ⟨y0, y1, hQ4, hb4⟩ := grown_after (r := X.heap.size) (by have := HXS.out; omega) (by omega) (by omega) x0 x1 hQX (bel2 X _ _).drew hg2)
              | (refine step_append_own (by rfl) (.tmp 57) (.tmp 59) _ (by rfl) X.heap.size 152 i0 _ 2 32 Tryz.underlying95 hi hz0 hz1 hz2 rfl (by omega) (X.heap.size + 1) 0 0 [] (by rfl) (own_fresh' _ X.heap.size _ (by omega) (World.size_alloc _ _)) ⟨X.heap.size, 0, none⟩ 1 1 [.string ⟨nm.toArray⟩, .string ⟨vl.toArray⟩] (by rfl) (by rfl) (cellsOld _ _ _ _ _) (one2 _ _) (by unfold maxLen; omega) (by omega) (by show X.heap.size ≤ (World.alloc (World.alloc X _) _).heap.size; rw [World.size_alloc, World.size_alloc]; omega) ?_; intro g2 c2 W4 hown2' hg2; have hown2 : W4.ownsRow X.heap.size 152 2 (.slice (some ⟨g2, 0, none⟩) (0 + 1) c2) (0 + 1) (pcells (qs.take 0) ++ [.string ⟨nm.toArray⟩, .string ⟨vl.toArray⟩]) := hown2'; obtain ⟨ge2, gl2⟩ := own_ge hown2; obtain ⟨y0, y1, hQ4, hb4⟩ := grown_after (r := X.heap.size + 1) (by have := HXS.out; omega) (by omega) (by omega) x0 x1 hQX (bel2 X _ _).drew hg2)
              | (refine step_append_own (by rfl) (.tmp 60) (.tmp 63) _ (by rfl) X.heap.size 152 i0 _ 2 32 Tryz.underlying95 hi hz0 hz1 hz2 rfl (by omega) g2 (0 + 1) c2 (pcells (qs.take 0) ++ [.string ⟨nm.toArray⟩, .string ⟨vl.toArray⟩]) (by first | rfl | simp) hown2 ⟨g0, 0, none⟩ k k0 (pcells qs) (by first | rfl | simp) (by rw [pcells_length]; omega) (Qc.drop0 hQ4) (pcells_one _) (by unfold maxLen; omega) (by omega) (by omega) ?_; intro g3 c3 W5 hown3 hg3)
              | fail)
          all_goals
            go_wp2
            have hb5 := hb4.grown hg3 hb4.size (fun j hj => by cases hj; exact ge2)
            have hB5 : Below w.heap.size w W5 := HB.out.trans ((HBX.out.trans (hb5.mono HBX.out.size)).mono hsz)
            have hle : w.heap.size ≤ X.heap.size := Nat.le_trans hsz HBX.out.size
            have hown5 : W5.ownsRow w.heap.size 152 2 (.slice (some ⟨g3, 0, none⟩) (k + 1) c3) (k + 1) (pcells (qs.take 0 ++ (nm, vl) :: qs.drop 0)) := by
              rw [pcells_ins]
              refine own_lower ?_ hle
              have e : 0 + 1 + k = k + 1 := by omega
              rw [e] at hown3
              simpa using hown3
            have hin : (qs.take 0 ++ (nm, vl) :: qs.drop 0).Pairwise (fun x y => le x y = true) := insert_ok HS.out.1 HL.out (Or.inl rfl)
            have hpm : (qs.take 0 ++ (nm, vl) :: qs.drop 0).Perm (ps.take (k + 1)) := insert_perm 0 HS.out.2 HQK.out
            have hle2 : (qs.take 0 ++ (nm, vl) :: qs.drop 0).length = k + 1 := by simp; omega
            have e2 : 0 + 1 + k = k + 1 := by omega
            generalize qs.take 0 ++ (nm, vl) :: qs.drop 0 = qs' at hown5 hin hpm hle2
            rw [e2]
            go_roundg (ps.length - (k + 1))
            case measure => have := HG.out; omega
            case rel => exact ⟨k + 1, qs', g3, c3, by omega, by go_num, rfl, by rw [hle2]; exact hown5, hB5, ⟨hin, hpm⟩, hle2⟩
        | succ m =>
          obtain ⟨x, hxm⟩ : ∃ x, qs[m]? = some x := ⟨qs[m], List.getElem?_eq_getElem hm⟩
          obtain ⟨d0, d1⟩ := HPN.out m x hxm
          have HXM := Lib.hid hxm
          obtain ⟨xn, xv⟩ := x
          simp only at d0 d1
          have hmk : m < k := by omega
          obtain ⟨ad, hif, HQD⟩ := drop_src (g0 := g0) (m := m + 1) (k0 := k0) (qs := qs) (by omega) (by omega)
          have hs0 : (0 : Int) ≤ (m : Int) + 1 := by omega
          have hs1 : (m : Int) + 1 ≤ (k0 : Int) := by omega
          have hs2 : (m : Int) + 1 ≤ (k : Int) := by omega
          have hs3 : m + 1 ≤ k0 := by omega
          have hwm : IntKind.i64.wrap (m : Int) = m := IntWalk.i64_in _ ⟨by omega, by omega⟩
          have step : Lt (nm, vl) (xn, xv) → Hid (∀ (j : Nat) y, m ≤ j → qs[j]? = some y → Lt (nm, vl) y) := fun hA j y hj hy => by
            by_cases e : m = j
            · subst e; rw [HXM.out] at hy; cases hy; exact hA
            · exact HL.out j y (by omega) hy
          have STEP := Lib.hid step
          clear hxm step
          rcases UriO.tri nm xn with hA | hA | hA
          · have t1 : Op.bytesLess xn nm = false := by rw [Go.Proofs.bytesLess_eq]; simpa using fun h => List.lt_irrefl _ (List.lt_trans hA h)
            have t2 : (xn == nm) = false := by simp only [beq_eq_false_iff_ne]; rintro rfl; exact List.lt_irrefl _ hA
            have HL' := STEP.out (.inl hA)
            clear hA
            go_wp2_with fail
            go_quiet (fail)
            go_wp2_with fail
            go_roundw
            case rel => exact ⟨m, _, by omega, by go_num, rfl, HL'⟩
            case measure => simp [intOf]
          · subst hA
            have t1 : Op.bytesLess nm nm = false := by rw [Go.Proofs.bytesLess_eq]; simp
            have t2 : (nm == nm) = true := by simp
            rcases UriO.tri vl xv with hA | hA | hA
            · have t3 : Op.bytesLess xv vl = false := by rw [Go.Proofs.bytesLess_eq]; simpa using fun h => List.lt_irrefl _ (List.lt_trans hA h)
              have t4 : (xv == vl) = false := by simp only [beq_eq_false_iff_ne]; rintro rfl; exact List.lt_irrefl _ hA
              have HL' := STEP.out (.inr ⟨rfl, hA⟩)
              clear hA
              go_wp2_with fail
              go_quiet (fail)
              go_wp2_with fail
              go_roundw
              case rel => exact ⟨m, _, by omega, by go_num, rfl, HL'⟩
              case measure => simp [intOf]
            · subst hA
              have t3 : Op.bytesLess vl vl = false := by rw [Go.Proofs.bytesLess_eq]; simp
              have t4 : (vl == vl) = true := by simp
              have HIN : Hid (m + 1 = 0 ∨ ∃ q, qs[m + 1 - 1]? = some q ∧ ¬ Lt (nm, vl) q) := Or.inr ⟨_, HXM.out, Lt.irrefl _⟩
              go_wp2_with fail
              go_quiet (fail)
              go_wp2_with fail
              generalize hX : (V.drewN n).drewN nq = X at *
              have hXs : X.heap.size = wr.heap.size + 1 := by rw [← hX]; exact hVs
              have x0 : X.cell? ⟨wr.heap.size, 0, none⟩ = some (.string ⟨nm.toArray⟩) := by rw [← hX]; exact e0
              have x1 : X.cell? ⟨wr.heap.size, 1, none⟩ = some (.string ⟨vl.toArray⟩) := by rw [← hX]; exact e1
              have hQX : Qc g0 qs X := by rw [← hX]; exact HPN.out
              have HBX := Lib.hid (show Below wr.heap.size wr X by rw [← hX]; exact HT.trans ((UriA.below_drewN (UriA.below_drewN (Below.refl V.heap.size V) n) nq).mono (by omega)))
              have HXS := Lib.hid hXs
              have hxl : wr.heap.size < X.heap.size := by omega
              have hxn : ¬ wr.heap.size = X.heap.size := by omega
              clear hX hXs e0 e1 f0 f1 HT HO
              go_region_law
                (first
                  | (refine step_append_own (by rfl) (.tmp 53) (.tmp 56) _ (by rfl) X.heap.size 152 i0 _ 2 32 Tryz.underlying95 hi hz0 hz1 hz2 rfl (by omega) X.heap.size 0 0 [] (by rfl) (own_fresh X X.heap.size (Nat.le_refl _)) ⟨g0, 0, none⟩ (m + 1) k0 (pcells (qs.take (m + 1))) (by rfl) (by rw [pcells_length, List.length_take]; omega) (Qc.take (Qc.below hQX (by have := HXS.out; omega) ((Below.refl _ X).alloc (Nat.le_refl _) _).drew) _) (pcells_one _) (by unfold maxLen; omega) (by omega) (by show X.heap.size ≤ (World.alloc X _).heap.size; rw [World.size_alloc]; omega) ?_; intro g1 c1 W2 hown1' hg1; have hown1 : W2.ownsRow X.heap.size 152 2 (.slice (some ⟨g1, 0, none⟩) (m + 1) c1) (m + 1) (pcells (qs.take (m + 1))) := (by simpa using hown1'); obtain ⟨ge1, gl1⟩ := own_ge hown1; obtain ⟨z0, z1, hQ2, hb2⟩ := grown_after (r := X.heap.size) (by have := HXS.out; omega) (by omega) (by omega) x0 x1 hQX ((Below.refl _ X).alloc (Nat.le_refl _) _).drew hg1)
                  | (refine step_append_own (by rfl) (.tmp 53) (.tmp 56) _ (by rfl) X.heap.size 152 i0 _ 2 32 Tryz.underlying95 hi hz0 hz1 hz2 rfl (by omega) X.heap.size 0 0 [] (by rfl) ((own_fresh X X.heap.size (Nat.le_refl _)).alloc _) ⟨g0, 0, none⟩ (m + 1) k0 (pcells (qs.take (m + 1))) (by rfl) (by rw [pcells_length, List.length_take]; omega) (Qc.take (Qc.below hQX (by have := HXS.out; omega) (bel2 X _ _).drew) _) (pcells_one _) (by unfold maxLen; omega) (by omega) (by show X.heap.size ≤ (World.alloc (World.alloc X _) _).heap.size; rw [World.size_alloc, World.size_alloc]; omega) ?_; intro g1 c1 W2 hown1' hg1; have hown1 : W2.ownsRow X.heap.size 152 2 (.slice (some ⟨g1, 0, none⟩) (m + 1) c1) (m + 1) (pcells (qs.take (m + 1))) := (by simpa using hown1'); obtain ⟨ge1, gl1⟩ := own_ge hown1; obtain ⟨z0, z1, hQ2, hb2⟩ := grown_after (r := X.heap.size) (by have := HXS.out; omega) (by omega) (by omega) x0 x1 hQX (bel2 X _ _).drew hg1; have hsrc := src_after (new2d X _ _ _ _) (by omega) hg1)
                  | (refine step_append_own (by rfl) (.tmp 53) (.tmp 56) _ (by rfl) X.heap.size 152 i0 _ 2 32 Tryz.underlying95 hi hz0 hz1 hz2 rfl (by omega) (X.heap.size + 1) 0 0 [] (by rfl) (own_fresh' _ X.heap.size _ (by omega) (World.size_alloc _ _)) ⟨g0, 0, none⟩ (m + 1) k0 (pcells (qs.take (m + 1))) (by rfl) (by rw [pcells_length, List.length_take]; omega) (Qc.take (Qc.below hQX (by have := HXS.out; omega) (bel2 X _ _).drew) _) (pcells_one _) (by unfold maxLen; omega) (by omega) (by show X.heap.size ≤ (World.alloc (World.alloc X _) _).heap.size; rw [World.size_alloc, World.size_alloc]; omega) ?_; intro g1 c1 W2 hown1' hg1; have hown1 : W2.ownsRow X.heap.size 152 2 (.slice (some ⟨g1, 0, none⟩) (m + 1) c1) (m + 1) (pcells (qs.take (m + 1))) := (by simpa using hown1'); obtain ⟨ge1, gl1⟩ := own_ge hown1; obtain ⟨z0, z1, hQ2, hb2⟩ := grown_after (r := X.heap.size + 1) (by have := HXS.out; omega) (by omega) (by omega) x0 x1 hQX (bel2 X _ _).drew hg1; have hsrc := src_after (new3d X _ _ _ _) (by omega) hg1)
                  | (refine step_append_own (by rfl) (.tmp 57) (.tmp 59) _ (by rfl) X.heap.size 152 i0 _ 2 32 Tryz.underlying95 hi hz0 hz1 hz2 rfl (by omega) g1 (m + 1) c1 (pcells (qs.take (m + 1))) (by first | rfl | simp) (hown1.alloc _) ⟨W2.heap.size, 0, none⟩ 1 1 [.string ⟨nm.toArray⟩, .string ⟨vl.toArray⟩] (by rfl) (by rfl) (cells2 _ _ _ _) (one2 _ _) (by unfold maxLen; omega) (by omega) (by rw [World.size_alloc]; omega) ?_; intro g2 c2 W4 hown2 hg2; obtain ⟨ge2, gl2⟩ := own_ge hown2; obtain ⟨y0, y1, hQ4, hb4⟩ := grown_after (r := g1) (by have := HXS.out; omega) (by omega) ge1 x0 x1 hQX (hb2.alloc hb2.size _) hg2)
                  | (refine step_append_own (by rfl) (.tmp 57) (.tmp 59) _ (by rfl) X.heap.size 152 i0 _ 2 32 Tryz.underlying95 hi hz0 hz1 hz2 rfl (by omega) g1 (m + 1) c1 (pcells (qs.take (m + 1))) (by first | rfl | simp) hown1 ⟨X.heap.size + 1, 0, none⟩ 1 1 [.string ⟨nm.toArray⟩, .string ⟨vl.toArray⟩] (by rfl) (by rfl) hsrc (one2 _ _) (by unfold maxLen; omega) (by omega) (by omega) ?_; intro g2 c2 W4 hown2 hg2; obtain ⟨ge2, gl2⟩ := own_ge hown2; obtain ⟨y0, y1, hQ4, hb4⟩ := grown_after (r := g1) (by have := HXS.out; omega) (by omega) ge1 x0 x1 hQX hb2 hg2)
                  | (refine step_append_own (by rfl) (.tmp 57) (.tmp 59) _ (by rfl) X.heap.size 152 i0 _ 2 32 Tryz.underlying95 hi hz0 hz1 hz2 rfl (by omega) g1 (m + 1) c1 (pcells (qs.take (m + 1))) (by first | rfl | simp) hown1 ⟨X.heap.size, 0, none⟩ 1 1 [.string ⟨nm.toArray⟩, .string ⟨vl.toArray⟩] (by rfl) (by rfl) hsrc (one2 _ _) (by unfold maxLen; omega) (by omega) (by omega) ?_; intro g2 c2 W4 hown2 hg2; obtain ⟨ge2, gl2⟩ := own_ge hown2; obtain ⟨y0, y1, hQ4, hb4⟩ := grown_after (r := g1) (by have := HXS.out; omega) (by omega) ge1 x0 x1 hQX hb2 hg2)
                  | (refine step_append_own (by rfl) (.tmp 60) (.tmp 63) _ (by rfl) X.heap.size 152 i0 _ 2 32 Tryz.underlying95 hi hz0 hz1 hz2 rfl (by omega) g2 ((m + 1) + 1) c2 (pcells (qs.take (m + 1)) ++ [.string ⟨nm.toArray⟩, .string ⟨vl.toArray⟩]) (by first | rfl | simp) hown2 ad (k - (m + 1)) (k0 - (m + 1)) (pcells (qs.drop (m + 1))) (by first | rfl | simp) (by rw [pcells_length, List.length_drop]; omega) (HQD.out _ hQ4) (pcells_one _) (by unfold maxLen; omega) (by omega) (by omega) ?_; intro g3 c3 W5 hown3 hg3)
                  | fail)
              all_goals
                go_wp2
                have hb5 := hb4.grown hg3 hb4.size (fun j hj => by cases hj; exact ge2)
                have hB5 : Below w.heap.size w W5 := HB.out.trans ((HBX.out.trans (hb5.mono HBX.out.size)).mono hsz)
                have hle : w.heap.size ≤ X.heap.size := Nat.le_trans hsz HBX.out.size
                have hown5 : W5.ownsRow w.heap.size 152 2 (.slice (some ⟨g3, 0, none⟩) (k + 1) c3) (k + 1) (pcells (qs.take (m + 1) ++ (nm, vl) :: qs.drop (m + 1))) := by
                  rw [pcells_ins]
                  refine own_lower ?_ hle
                  have e : (m + 1) + 1 + (k - (m + 1)) = k + 1 := by omega
                  rw [e] at hown3
                  simpa using hown3
                have hin : (qs.take (m + 1) ++ (nm, vl) :: qs.drop (m + 1)).Pairwise (fun x y => le x y = true) := insert_ok HS.out.1 HL.out HIN.out
                have hpm : (qs.take (m + 1) ++ (nm, vl) :: qs.drop (m + 1)).Perm (ps.take (k + 1)) := insert_perm (m + 1) HS.out.2 HQK.out
                have hle2 : (qs.take (m + 1) ++ (nm, vl) :: qs.drop (m + 1)).length = k + 1 := by simp; omega
                have e2 : (m + 1) + 1 + (k - (m + 1)) = k + 1 := by omega
                generalize qs.take (m + 1) ++ (nm, vl) :: qs.drop (m + 1) = qs' at hown5 hin hpm hle2
                rw [e2]
                go_roundg (ps.length - (k + 1))
                case measure => have := HG.out; omega
                case rel => exact ⟨k + 1, qs', g3, c3, by omega, by go_num, rfl, by rw [hle2]; exact hown5, hB5, ⟨hin, hpm⟩, hle2⟩
            · have t3 : Op.bytesLess xv vl = true := by rw [Go.Proofs.bytesLess_eq]; simpa using hA
              have t4 : (xv == vl) = false := by simp only [beq_eq_false_iff_ne]; rintro rfl; exact List.lt_irrefl _ hA
              have HIN : Hid (m + 1 = 0 ∨ ∃ q, qs[m + 1 - 1]? = some q ∧ ¬ Lt (nm, vl) q) := Or.inr ⟨_, HXM.out, fun h => by
                rcases h with h | ⟨_, h⟩
                · exact List.lt_irrefl _ h
                · exact List.lt_irrefl _ (List.lt_trans h hA)⟩
              clear hA
              go_wp2_with fail
              go_quiet (fail)
              go_wp2_with fail
              generalize hX : (V.drewN n).drewN nq = X at *
              have hXs : X.heap.size = wr.heap.size + 1 := by rw [← hX]; exact hVs
              have x0 : X.cell? ⟨wr.heap.size, 0, none⟩ = some (.string ⟨nm.toArray⟩) := by rw [← hX]; exact e0
              have x1 : X.cell? ⟨wr.heap.size, 1, none⟩ = some (.string ⟨vl.toArray⟩) := by rw [← hX]; exact e1
              have hQX : Qc g0 qs X := by rw [← hX]; exact HPN.out
              have HBX := Lib.hid (show Below wr.heap.size wr X by rw [← hX]; exact HT.trans ((UriA.below_drewN (UriA.below_drewN (Below.refl V.heap.size V) n) nq).mono (by omega)))
              have HXS := Lib.hid hXs
              have hxl : wr.heap.size < X.heap.size := by omega
              have hxn : ¬ wr.heap.size = X.heap.size := by omega
              clear hX hXs e0 e1 f0 f1 HT HO
              go_region_law
                (first
                  | (refine step_append_own (by rfl) (.tmp 53) (.tmp 56) _ (by rfl) X.heap.size 152 i0 _ 2 32 Tryz.underlying95 hi hz0 hz1 hz2 rfl (by omega) X.heap.size 0 0 [] (by rfl) (own_fresh X X.heap.size (Nat.le_refl _)) ⟨g0, 0, none⟩ (m + 1) k0 (pcells (qs.take (m + 1))) (by rfl) (by rw [pcells_length, List.length_take]; omega) (Qc.take (Qc.below hQX (by have := HXS.out; omega) ((Below.refl _ X).alloc (Nat.le_refl _) _).drew) _) (pcells_one _) (by unfold maxLen; omega) (by omega) (by show X.heap.size ≤ (World.alloc X _).heap.size; rw [World.size_alloc]; omega) ?_; intro g1 c1 W2 hown1' hg1; have hown1 : W2.ownsRow X.heap.size 152 2 (.slice (some ⟨g1, 0, none⟩) (m + 1) c1) (m + 1) (pcells (qs.take (m + 1))) := (by simpa using hown1'); obtain ⟨ge1, gl1⟩ := own_ge hown1; obtain ⟨z0, z1, hQ2, hb2⟩ := grown_after (r := X.heap.size) (by have := HXS.out; omega) (by omega) (by omega) x0 x1 hQX ((Below.refl _ X).alloc (Nat.le_refl _) _).drew hg1)
                  | (refine step_append_own (by rfl) (.tmp 53) (.tmp 56) _ (by rfl) X.heap.size 152 i0 _ 2 32 Tryz.underlying95 hi hz0 hz1 hz2 rfl (by omega) X.heap.size 0 0 [] (by rfl) ((own_fresh X X.heap.size (Nat.le_refl _)).alloc _) ⟨g0, 0, none⟩ (m + 1) k0 (pcells (qs.take (m + 1))) (by rfl) (by rw [pcells_length, List.length_take]; omega) (Qc.take (Qc.below hQX (by have := HXS.out; omega) (bel2 X _ _).drew) _) (pcells_one _) (by unfold maxLen; omega) (by omega) (by show X.heap.size ≤ (World.alloc (World.alloc X _) _).heap.size; rw [World.size_alloc, World.size_alloc]; omega) ?_; intro g1 c1 W2 hown1' hg1; have hown1 : W2.ownsRow X.heap.size 152 2 (.slice (some ⟨g1, 0, none⟩) (m + 1) c1) (m + 1) (pcells (qs.take (m + 1))) := (by simpa using hown1'); obtain ⟨ge1, gl1⟩ := own_ge hown1; obtain ⟨z0, z1, hQ2, hb2⟩ := grown_after (r := X.heap.size) (by have := HXS.out; omega) (by omega) (by omega) x0 x1 hQX (bel2 X _ _).drew hg1; have hsrc := src_after (new2d X _ _ _ _) (by omega) hg1)
                  | (refine step_append_own (by rfl) (.tmp 53) (.tmp 56) _ (by rfl) X.heap.size 152 i0 _ 2 32 Tryz.underlying95 hi hz0 hz1 hz2 rfl (by omega) (X.heap.size + 1) 0 0 [] (by rfl) (own_fresh' _ X.heap.size _ (by omega) (World.size_alloc _ _)) ⟨g0, 0, none⟩ (m + 1) k0 (pcells (qs.take (m + 1))) (by rfl) (by rw [pcells_length, List.length_take]; omega) (Qc.take (Qc.below hQX (by have := HXS.out; omega) (bel2 X _ _).drew) _) (pcells_one _) (by unfold maxLen; omega) (by omega) (by show X.heap.size ≤ (World.alloc (World.alloc X _) _).heap.size; rw [World.size_alloc, World.size_alloc]; omega) ?_; intro g1 c1 W2 hown1' hg1; have hown1 : W2.ownsRow X.heap.size 152 2 (.slice (some ⟨g1, 0, none⟩) (m + 1) c1) (m + 1) (pcells (qs.take (m + 1))) := (by simpa using hown1'); obtain ⟨ge1, gl1⟩ := own_ge hown1; obtain ⟨z0, z1, hQ2, hb2⟩ := grown_after (r := X.heap.size + 1) (by have := HXS.out; omega) (by omega) (by omega) x0 x1 hQX (bel2 X _ _).drew hg1; have hsrc := src_after (new3d X _ _ _ _) (by omega) hg1)
                  | (refine step_append_own (by rfl) (.tmp 57) (.tmp 59) _ (by rfl) X.heap.size 152 i0 _ 2 32 Tryz.underlying95 hi hz0 hz1 hz2 rfl (by omega) g1 (m + 1) c1 (pcells (qs.take (m + 1))) (by first | rfl | simp) (hown1.alloc _) ⟨W2.heap.size, 0, none⟩ 1 1 [.string ⟨nm.toArray⟩, .string ⟨vl.toArray⟩] (by rfl) (by rfl) (cells2 _ _ _ _) (one2 _ _) (by unfold maxLen; omega) (by omega) (by rw [World.size_alloc]; omega) ?_; intro g2 c2 W4 hown2 hg2; obtain ⟨ge2, gl2⟩ := own_ge hown2; obtain ⟨y0, y1, hQ4, hb4⟩ := grown_after (r := g1) (by have := HXS.out; omega) (by omega) ge1 x0 x1 hQX (hb2.alloc hb2.size _) hg2)
                  | (refine step_append_own (by rfl) (.tmp 57) (.tmp 59) _ (by rfl) X.heap.size 152 i0 _ 2 32 Tryz.underlying95 hi hz0 hz1 hz2 rfl (by omega) g1 (m + 1) c1 (pcells (qs.take (m + 1))) (by first | rfl | simp) hown1 ⟨X.heap.size + 1, 0, none⟩ 1 1 [.string ⟨nm.toArray⟩, .string ⟨vl.toArray⟩] (by rfl) (by rfl) hsrc (one2 _ _) (by unfold maxLen; omega) (by omega) (by omega) ?_; intro g2 c2 W4 hown2 hg2; obtain ⟨ge2, gl2⟩ := own_ge hown2; obtain ⟨y0, y1, hQ4, hb4⟩ := grown_after (r := g1) (by have := HXS.out; omega) (by omega) ge1 x0 x1 hQX hb2 hg2)
                  | (refine step_append_own (by rfl) (.tmp 57) (.tmp 59) _ (by rfl) X.heap.size 152 i0 _ 2 32 Tryz.underlying95 hi hz0 hz1 hz2 rfl (by omega) g1 (m + 1) c1 (pcells (qs.take (m + 1))) (by first | rfl | simp) hown1 ⟨X.heap.size, 0, none⟩ 1 1 [.string ⟨nm.toArray⟩, .string ⟨vl.toArray⟩] (by rfl) (by rfl) hsrc (one2 _ _) (by unfold maxLen; omega) (by omega) (by omega) ?_; intro g2 c2 W4 hown2 hg2; obtain ⟨ge2, gl2⟩ := own_ge hown2; obtain ⟨y0, y1, hQ4, hb4⟩ := grown_after (r := g1) (by have := HXS.out; omega) (by omega) ge1 x0 x1 hQX hb2 hg2)
                  | (refine step_append_own (by rfl) (.tmp 60) (.tmp 63) _ (by rfl) X.heap.size 152 i0 _ 2 32 Tryz.underlying95 hi hz0 hz1 hz2 rfl (by omega) g2 ((m + 1) + 1) c2 (pcells (qs.take (m + 1)) ++ [.string ⟨nm.toArray⟩, .string ⟨vl.toArray⟩]) (by first | rfl | simp) hown2 ad (k - (m + 1)) (k0 - (m + 1)) (pcells (qs.drop (m + 1))) (by first | rfl | simp) (by rw [pcells_length, List.length_drop]; omega) (HQD.out _ hQ4) (pcells_one _) (by unfold maxLen; omega) (by omega) (by omega) ?_; intro g3 c3 W5 hown3 hg3)
                  | fail)
              all_goals
                go_wp2
                have hb5 := hb4.grown hg3 hb4.size (fun j hj => by cases hj; exact ge2)
                have hB5 : Below w.heap.size w W5 := HB.out.trans ((HBX.out.trans (hb5.mono HBX.out.size)).mono hsz)
                have hle : w.heap.size ≤ X.heap.size := Nat.le_trans hsz HBX.out.size
                have hown5 : W5.ownsRow w.heap.size 152 2 (.slice (some ⟨g3, 0, none⟩) (k + 1) c3) (k + 1) (pcells (qs.take (m + 1) ++ (nm, vl) :: qs.drop (m + 1))) := by
                  rw [pcells_ins]
                  refine own_lower ?_ hle
                  have e : (m + 1) + 1 + (k - (m + 1)) = k + 1 := by omega
                  rw [e] at hown3
                  simpa using hown3
                have hin : (qs.take (m + 1) ++ (nm, vl) :: qs.drop (m + 1)).Pairwise (fun x y => le x y = true) := insert_ok HS.out.1 HL.out HIN.out
                have hpm : (qs.take (m + 1) ++ (nm, vl) :: qs.drop (m + 1)).Perm (ps.take (k + 1)) := insert_perm (m + 1) HS.out.2 HQK.out
                have hle2 : (qs.take (m + 1) ++ (nm, vl) :: qs.drop (m + 1)).length = k + 1 := by simp; omega
                have e2 : (m + 1) + 1 + (k - (m + 1)) = k + 1 := by omega
                generalize qs.take (m + 1) ++ (nm, vl) :: qs.drop (m + 1) = qs' at hown5 hin hpm hle2
                rw [e2]
                go_roundg (ps.length - (k + 1))
                case measure => have := HG.out; omega
                case rel => exact ⟨k + 1, qs', g3, c3, by omega, by go_num, rfl, by rw [hle2]; exact hown5, hB5, ⟨hin, hpm⟩, hle2⟩
          · have t1 : Op.bytesLess xn nm = true := by rw [Go.Proofs.bytesLess_eq]; simpa using hA
            have t2 : (xn == nm) = false := by simp only [beq_eq_false_iff_ne]; rintro rfl; exact List.lt_irrefl _ hA
            have HIN : Hid (m + 1 = 0 ∨ ∃ q, qs[m + 1 - 1]? = some q ∧ ¬ Lt (nm, vl) q) := Or.inr ⟨_, HXM.out, fun h => by
              rcases h with h | ⟨h, _⟩
              · exact List.lt_irrefl _ (List.lt_trans h hA)
              · simp only at h; subst h; exact List.lt_irrefl _ hA⟩
            clear hA
            go_wp2_with fail
            go_quiet (fail)
            go_wp2_with fail
            generalize hX : (V.drewN n).drewN nq = X at *
            have hXs : X.heap.size = wr.heap.size + 1 := by rw [← hX]; exact hVs
            have x0 : X.cell? ⟨wr.heap.size, 0, none⟩ = some (.string ⟨nm.toArray⟩) := by rw [← hX]; exact e0
            have x1 : X.cell? ⟨wr.heap.size, 1, none⟩ = some (.string ⟨vl.toArray⟩) := by rw [← hX]; exact e1
            have hQX : Qc g0 qs X := by rw [← hX]; exact HPN.out
            have HBX := Lib.hid (show Below wr.heap.size wr X by rw [← hX]; exact HT.trans ((UriA.below_drewN (UriA.below_drewN (Below.refl V.heap.size V) n) nq).mono (by omega)))
            have HXS := Lib.hid hXs
            have hxl : wr.heap.size < X.heap.size := by omega
            have hxn : ¬ wr.heap.size = X.heap.size := by omega
            clear hX hXs e0 e1 f0 f1 HT HO
            go_region_law
              (first
                | (refine step_append_own (by rfl) (.tmp 53) (.tmp 56) _ (by rfl) X.heap.size 152 i0 _ 2 32 Tryz.underlying95 hi hz0 hz1 hz2 rfl (by omega) X.heap.size 0 0 [] (by rfl) (own_fresh X X.heap.size (Nat.le_refl _)) ⟨g0, 0, none⟩ (m + 1) k0 (pcells (qs.take (m + 1))) (by rfl) (by rw [pcells_length, List.length_take]; omega) (Qc.take (Qc.below hQX (by have := HXS.out; omega) ((Below.refl _ X).alloc (Nat.le_refl _) _).drew) _) (pcells_one _) (by unfold maxLen; omega) (by omega) (by show X.heap.size ≤ (World.alloc X _).heap.size; rw [World.size_alloc]; omega) ?_; intro g1 c1 W2 hown1' hg1; have hown1 : W2.ownsRow X.heap.size 152 2 (.slice (some ⟨g1, 0, none⟩) (m + 1) c1) (m + 1) (pcells (qs.take (m + 1))) := (by simpa using hown1'); obtain ⟨ge1, gl1⟩ := own_ge hown1; obtain ⟨z0, z1, hQ2, hb2⟩ := grown_after (r := X.heap.size) (by have := HXS.out; omega) (by omega) (by omega) x0 x1 hQX ((Below.refl _ X).alloc (Nat.le_refl _) _).drew hg1)
                | (refine step_append_own (by rfl) (.tmp 53) (.tmp 56) _ (by rfl) X.heap.size 152 i0 _ 2 32 Tryz.underlying95 hi hz0 hz1 hz2 rfl (by omega) X.heap.size 0 0 [] (by rfl) ((own_fresh X X.heap.size (Nat.le_refl _)).alloc _) ⟨g0, 0, none⟩ (m + 1) k0 (pcells (qs.take (m + 1))) (by rfl) (by rw [pcells_length, List.length_take]; omega) (Qc.take (Qc.below hQX (by have := HXS.out; omega) (bel2 X _ _).drew) _) (pcells_one _) (by unfold maxLen; omega) (by omega) (by show X.heap.size ≤ (World.alloc (World.alloc X _) _).heap.size; rw [World.size_alloc, World.size_alloc]; omega) ?_; intro g1 c1 W2 hown1' hg1; have hown1 : W2.ownsRow X.heap.size 152 2 (.slice (some ⟨g1, 0, none⟩) (m + 1) c1) (m + 1) (pcells (qs.take (m + 1))) := (by simpa using hown1'); obtain ⟨ge1, gl1⟩ := own_ge hown1; obtain ⟨z0, z1, hQ2, hb2⟩ := grown_after (r := X.heap.size) (by have := HXS.out; omega) (by omega) (by omega) x0 x1 hQX (bel2 X _ _).drew hg1; have hsrc := src_after (new2d X _ _ _ _) (by omega) hg1)
                | (refine step_append_own (by rfl) (.tmp 53) (.tmp 56) _ (by rfl) X.heap.size 152 i0 _ 2 32 Tryz.underlying95 hi hz0 hz1 hz2 rfl (by omega) (X.heap.size + 1) 0 0 [] (by rfl) (own_fresh' _ X.heap.size _ (by omega) (World.size_alloc _ _)) ⟨g0, 0, none⟩ (m + 1) k0 (pcells (qs.take (m + 1))) (by rfl) (by rw [pcells_length, List.length_take]; omega) (Qc.take (Qc.below hQX (by have := HXS.out; omega) (bel2 X _ _).drew) _) (pcells_one _) (by unfold maxLen; omega) (by omega) (by show X.heap.size ≤ (World.alloc (World.alloc X _) _).heap.size; rw [World.size_alloc, World.size_alloc]; omega) ?_; intro g1 c1 W2 hown1' hg1; have hown1 : W2.ownsRow X.heap.size 152 2 (.slice (some ⟨g1, 0, none⟩) (m + 1) c1) (m + 1) (pcells (qs.take (m + 1))) := (by simpa using hown1'); obtain ⟨ge1, gl1⟩ := own_ge hown1; obtain ⟨z0, z1, hQ2, hb2⟩ := grown_after (r := X.heap.size + 1) (by have := HXS.out; omega) (by omega) (by omega) x0 x1 hQX (bel2 X _ _).drew hg1; have hsrc := src_after (new3d X _ _ _ _) (by omega) hg1)
                | (refine step_append_own (by rfl) (.tmp 57) (.tmp 59) _ (by rfl) X.heap.size 152 i0 _ 2 32 Tryz.underlying95 hi hz0 hz1 hz2 rfl (by omega) g1 (m + 1) c1 (pcells (qs.take (m + 1))) (by first | rfl | simp) (hown1.alloc _) ⟨W2.heap.size, 0, none⟩ 1 1 [.string ⟨nm.toArray⟩, .string ⟨vl.toArray⟩] (by rfl) (by rfl) (cells2 _ _ _ _) (one2 _ _) (by unfold maxLen; omega) (by omega) (by rw [World.size_alloc]; omega) ?_; intro g2 c2 W4 hown2 hg2; obtain ⟨ge2, gl2⟩ := own_ge hown2; obtain ⟨y0, y1, hQ4, hb4⟩ := grown_after (r := g1) (by have := HXS.out; omega) (by omega) ge1 x0 x1 hQX (hb2.alloc hb2.size _) hg2)
                | (refine step_append_own (by rfl) (.tmp 57) (.tmp 59) _ (by rfl) X.heap.size 152 i0 _ 2 32 Tryz.underlying95 hi hz0 hz1 hz2 rfl (by omega) g1 (m + 1) c1 (pcells (qs.take (m + 1))) (by first | rfl | simp) hown1 ⟨X.heap.size + 1, 0, none⟩ 1 1 [.string ⟨nm.toArray⟩, .string ⟨vl.toArray⟩] (by rfl) (by rfl) hsrc (one2 _ _) (by unfold maxLen; omega) (by omega) (by omega) ?_; intro g2 c2 W4 hown2 hg2; obtain ⟨ge2, gl2⟩ := own_ge hown2; obtain ⟨y0, y1, hQ4, hb4⟩ := grown_after (r := g1) (by have := HXS.out; omega) (by omega) ge1 x0 x1 hQX hb2 hg2)
                | (refine step_append_own (by rfl) (.tmp 57) (.tmp 59) _ (by rfl) X.heap.size 152 i0 _ 2 32 Tryz.underlying95 hi hz0 hz1 hz2 rfl (by omega) g1 (m + 1) c1 (pcells (qs.take (m + 1))) (by first | rfl | simp) hown1 ⟨X.heap.size, 0, none⟩ 1 1 [.string ⟨nm.toArray⟩, .string ⟨vl.toArray⟩] (by rfl) (by rfl) hsrc (one2 _ _) (by unfold maxLen; omega) (by omega) (by omega) ?_; intro g2 c2 W4 hown2 hg2; obtain ⟨ge2, gl2⟩ := own_ge hown2; obtain ⟨y0, y1, hQ4, hb4⟩ := grown_after (r := g1) (by have := HXS.out; omega) (by omega) ge1 x0 x1 hQX hb2 hg2)
                | (refine step_append_own (by rfl) (.tmp 60) (.tmp 63) _ (by rfl) X.heap.size 152 i0 _ 2 32 Tryz.underlying95 hi hz0 hz1 hz2 rfl (by omega) g2 ((m + 1) + 1) c2 (pcells (qs.take (m + 1)) ++ [.string ⟨nm.toArray⟩, .string ⟨vl.toArray⟩]) (by first | rfl | simp) hown2 ad (k - (m + 1)) (k0 - (m + 1)) (pcells (qs.drop (m + 1))) (by first | rfl | simp) (by rw [pcells_length, List.length_drop]; omega) (HQD.out _ hQ4) (pcells_one _) (by unfold maxLen; omega) (by omega) (by omega) ?_; intro g3 c3 W5 hown3 hg3)
                | fail)
            all_goals
              go_wp2
              have hb5 := hb4.grown hg3 hb4.size (fun j hj => by cases hj; exact ge2)
              have hB5 : Below w.heap.size w W5 := HB.out.trans ((HBX.out.trans (hb5.mono HBX.out.size)).mono hsz)
              have hle : w.heap.size ≤ X.heap.size := Nat.le_trans hsz HBX.out.size
              have hown5 : W5.ownsRow w.heap.size 152 2 (.slice (some ⟨g3, 0, none⟩) (k + 1) c3) (k + 1) (pcells (qs.take (m + 1) ++ (nm, vl) :: qs.drop (m + 1))) := by
                rw [pcells_ins]
                refine own_lower ?_ hle
                have e : (m + 1) + 1 + (k - (m + 1)) = k + 1 := by omega
                rw [e] at hown3
                simpa using hown3
              have hin : (qs.take (m + 1) ++ (nm, vl) :: qs.drop (m + 1)).Pairwise (fun x y => le x y = true) := insert_ok HS.out.1 HL.out HIN.out
              have hpm : (qs.take (m + 1) ++ (nm, vl) :: qs.drop (m + 1)).Perm (ps.take (k + 1)) := insert_perm (m + 1) HS.out.2 HQK.out
              have hle2 : (qs.take (m + 1) ++ (nm, vl) :: qs.drop (m + 1)).length = k + 1 := by simp; omega
              have e2 : (m + 1) + 1 + (k - (m + 1)) = k + 1 := by omega
              generalize qs.take (m + 1) ++ (nm, vl) :: qs.drop (m + 1) = qs' at hown5 hin hpm hle2
              rw [e2]
              go_roundg (ps.length - (k + 1))
              case measure => have := HG.out; omega
              case rel => exact ⟨k + 1, qs', g3, c3, by omega, by go_num, rfl, by rw [hle2]; exact hown5, hB5, ⟨hin, hpm⟩, hle2⟩
    · have hk : k = ps.length := by have := HG.out; omega
      have hpm := HS.out.2
      rw [List.take_of_length_le (by omega)] at hpm
      have hU := srt_unique HS.out.1 hpm
      rw [hU, srt_length] at hown
      go_wp2_with fail
      go_ret
      exact ⟨⟨_, rfl, hown⟩, hb⟩
end Go.Proofs.YtidflagmdabfaaaGreatDoor.UriT
