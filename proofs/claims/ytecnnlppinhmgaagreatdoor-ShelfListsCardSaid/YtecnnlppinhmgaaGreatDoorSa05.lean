/-
  A slice of a slice, with no parting on its capacity: the new spot is told under its condition. The walks of package sha's New and Write.
-/
import Derived.Test.YtecnnlppinhmgaaGreatDoorSa04
import Derived.Test.YtecnnlppinhmgaaGreatDoorProg
import Derived.Laws.Slices
import Derived.WalkKit
import Derived.Lib.Hide
import Derived.Deep.MidRow
import Derived.Deep.RegionLaw
import Derived.BigRegion
import Derived.Deep.DrawnRows
namespace Go.Proofs.YtecnnlppinhmgaaGreatDoor.Slc
open Go.RowKit Go.Proofs.YtecnnlppinhmgaaGreatDoor

theorem sized {t : TypeId} {s : Nat} {P : Program} (hs : ∀ W, (sizeOf (P.elem t)).run P W = .ok s W) : ∀ W, (sizeOf (P.elem t)).run P W = .ok s W := hs
theorem addr_if (g o l s : Nat) (p : Prop) [Decidable p] : (if p then (some ⟨g, o, none⟩ : Option Addr) else (some ⟨g, o, none⟩ : Option Addr).map (·.add (l * s))) = some ⟨g, if p then o else o + l * s, none⟩ := by
  by_cases h : p
  · rw [if_pos h, if_pos h]
  · rw [if_neg h, if_neg h]
    simp only [Option.map_some, Option.some.injEq]
    unfold Addr.add
    split <;> simp_all
/-- x[l:] -/
theorem cut_from {P : Program} {t : TypeId} (ht : P.underlying t = some (.slice (P.elem t))) {s : Nat} (hs : ∀ W, (sizeOf (P.elem t)).run P W = .ok s W) (g o n c l : Nat) (z : Int) (hz : z = l) (h : l ≤ n) :
    ∃ o', (l < c → o' = o + l * s) ∧ ∀ W, (Instr.sliceAt t (.slice (some ⟨g, o, none⟩) n c) (some (.int .i64 z)) none none).run P W = .ok (.slice (some ⟨g, o', none⟩) (n - l) (c - l)) W := by
  subst hz
  refine ⟨if c = l then o else o + l * s, fun h => if_neg (by omega), fun W => ?_⟩
  rw [run_sliceAt_slice W t _ _ _ _ ht, run_slice_l W t _ n c ht .i64 l (by omega) (by omega), hs]
  simp only [Result.andThen, sliced, Int.toNat_natCast, addr_if]
/-- x[l:h] -/
theorem cut_mid {P : Program} {t : TypeId} (ht : P.underlying t = some (.slice (P.elem t))) {s : Nat} (hs : ∀ W, (sizeOf (P.elem t)).run P W = .ok s W) (g o n c l k : Nat) (z y : Int) (hz : z = l) (hy : y = l + k) (h : l + k ≤ c) :
    ∃ o', (l < c → o' = o + l * s) ∧ ∀ W, (Instr.sliceAt t (.slice (some ⟨g, o, none⟩) n c) (some (.int .i64 z)) (some (.int .i64 y)) none).run P W = .ok (.slice (some ⟨g, o', none⟩) k (c - l)) W := by
  subst hz hy
  refine ⟨if c = l then o else o + l * s, fun h => if_neg (by omega), fun W => ?_⟩
  rw [run_sliceAt_slice W t _ _ _ _ ht, run_slice_lh W t _ n c ht .i64 .i64 l (l + k) (by omega) (by omega) (by omega), hs]
  have e : ((l : Int) + (k : Int)).toNat = l + k := by omega
  simp only [Result.andThen, sliced, Int.toNat_natCast, e, addr_if, Nat.add_sub_cancel_left]
end Go.Proofs.YtecnnlppinhmgaaGreatDoor.Slc
namespace Go.Proofs.YtecnnlppinhmgaaGreatDoor.ShaE
open Go.RowKit Go.Proofs.YtecnnlppinhmgaaGreatDoor Go.Proofs.YtecnnlppinhmgaaGreatDoor.Sha Go.Proofs.YtecnnlppinhmgaaGreatDoor.ShaA Go.Proofs.YtecnnlppinhmgaaGreatDoor.ShaB Go.Proofs.YtecnnlppinhmgaaGreatDoor.ShaC Go.Proofs.YtecnnlppinhmgaaGreatDoor.HtW Go.Proofs.YtecnnlppinhmgaaGreatDoor.Lf

/-- a hash's cells -/
def hcells (s : St) (v : Value) (n : Nat) : Array Value := #[w32 s.a, w32 s.b, w32 s.c, w32 s.d, w32 s.e, w32 s.f, w32 s.g, w32 s.h, v, .int .i64 n]
def Hb (p : Nat) (w : World) (s : St) (v : Value) (n : Nat) : Prop := w.heap[p]? = some (.cells (hcells s v n) 170 (0, 0))
theorem Hb.lt {p : Nat} {w : World} {s : St} {v : Value} {n : Nat} (h : Hb p w s v n) : p < w.heap.size := (Array.getElem?_eq_some_iff.1 h).1
theorem Hb.below {p : Nat} {w w' : World} {s : St} {v : Value} {n : Nat} (h : Hb p w s v n) (hb : Below w.heap.size w w') : Hb p w' s v n := (hb.block _ h.lt).trans h
theorem Hb.state {p : Nat} {w : World} {s : St} {v : Value} {n : Nat} (h : Hb p w s v n) : w.rangeAt p 0 ((stw s).map w32) := fun j x hj => by
  rw [Nat.zero_add, Lib.cell_of_heap h]
  match j, hj with
  | 0, hj => exact hj
  | 1, hj => exact hj
  | 2, hj => exact hj
  | 3, hj => exact hj
  | 4, hj => exact hj
  | 5, hj => exact hj
  | 6, hj => exact hj
  | 7, hj => exact hj
  | n + 8, hj => simp [stw] at hj
theorem Hb.word {p : Nat} {w : World} {s : St} {v : Value} {n : Nat} (h : Hb p w s v n) {j : Nat} {x : Nat} (hj : (stw s)[j]? = some x) : w.cell? ⟨p, j, none⟩ = some (w32 x) := by
  have := h.state j (w32 x) (by rw [List.getElem?_map, hj]; rfl)
  rwa [Nat.zero_add] at this
theorem Hb.left {p : Nat} {w : World} {s : St} {v : Value} {n : Nat} (h : Hb p w s v n) : w.cell? ⟨p, 8, none⟩ = some v := by rw [Lib.cell_of_heap h]; rfl
theorem Hb.count {p : Nat} {w : World} {s : St} {v : Value} {n : Nat} (h : Hb p w s v n) : w.cell? ⟨p, 9, none⟩ = some (.int .i64 n) := by rw [Lib.cell_of_heap h]; rfl
theorem Hb.free {p : Nat} {w : World} {s : St} {v : Value} {n : Nat} (h : Hb p w s v n) (j : Nat) : w.frozen? ⟨p, j, none⟩ = false := Lib.frozen_of_heap h j
theorem Hb.putLeft {p : Nat} {w : World} {s : St} {v : Value} {n : Nat} (h : Hb p w s v n) (v' : Value) : Hb p (w.setCell ⟨p, 8, none⟩ v') s v' n := heap_setCell_same w p 8 _ _ v' h
theorem Hb.putCount {p : Nat} {w : World} {s : St} {v : Value} {n : Nat} (h : Hb p w s v n) (n' : Nat) : Hb p (w.setCell ⟨p, 9, none⟩ (.int .i64 n')) s v n' := heap_setCell_same w p 9 _ _ _ h
theorem wc8 (s : St) : wcells (stw s) = #[w32 s.a, w32 s.b, w32 s.c, w32 s.d, w32 s.e, w32 s.f, w32 s.g, w32 s.h] := rfl
theorem put8 {p : Nat} {w : World} {s : St} {v : Value} {n : Nat} (h : Hb p w s v n) (x0 x1 x2 x3 x4 x5 x6 x7 : Value) :
    ((((((((w.setCell ⟨p, 0, none⟩ x0).setCell ⟨p, 1, none⟩ x1).setCell ⟨p, 2, none⟩ x2).setCell ⟨p, 3, none⟩ x3).setCell ⟨p, 4, none⟩ x4).setCell ⟨p, 5, none⟩ x5).setCell ⟨p, 6, none⟩ x6).setCell ⟨p, 7, none⟩ x7).heap[p]? = some (.cells #[x0, x1, x2, x3, x4, x5, x6, x7, v, .int .i64 n] 170 (0, 0)) := by
  have h0 := heap_setCell_same w p 0 _ _ x0 h
  have h1 := heap_setCell_same _ p 1 _ _ x1 h0
  have h2 := heap_setCell_same _ p 2 _ _ x2 h1
  have h3 := heap_setCell_same _ p 3 _ _ x3 h2
  have h4 := heap_setCell_same _ p 4 _ _ x4 h3
  have h5 := heap_setCell_same _ p 5 _ _ x5 h4
  have h6 := heap_setCell_same _ p 6 _ _ x6 h5
  have h7 := heap_setCell_same _ p 7 _ _ x7 h6
  rw [h7]
  simp [hcells]
def put8w (w : World) (p : Nat) (s : St) : World := (((((((w.setCell ⟨p, 0, none⟩ (w32 s.a)).setCell ⟨p, 1, none⟩ (w32 s.b)).setCell ⟨p, 2, none⟩ (w32 s.c)).setCell ⟨p, 3, none⟩ (w32 s.d)).setCell ⟨p, 4, none⟩ (w32 s.e)).setCell ⟨p, 5, none⟩ (w32 s.f)).setCell ⟨p, 6, none⟩ (w32 s.g)).setCell ⟨p, 7, none⟩ (w32 s.h)
theorem put8_other {p k : Nat} (w : World) (s : St) (h : k ≠ p) : (put8w w p s).heap[k]? = w.heap[k]? := by
  unfold put8w
  rw [heap_setCell_other _ _ _ _ h, heap_setCell_other _ _ _ _ h, heap_setCell_other _ _ _ _ h, heap_setCell_other _ _ _ _ h, heap_setCell_other _ _ _ _ h, heap_setCell_other _ _ _ _ h, heap_setCell_other _ _ _ _ h, heap_setCell_other _ _ _ _ h]
theorem put8_size (w : World) (p : Nat) (s : St) : (put8w w p s).heap.size = w.heap.size := by
  unfold put8w
  simp [World.setCell]
theorem sizeByte (W : World) : (sizeOf (Tryz.prog.elem 24)).run Tryz.prog W = .ok 1 W := by kernel_rfl
theorem Hb.putState {p : Nat} {w : World} {s : St} {v : Value} {n : Nat} (h : Hb p w s v n) (s' : St) : Hb p (w.setCells p 0 (wcells (stw s')).toList) s' v n := by
  have := put8 h (w32 s'.a) (w32 s'.b) (w32 s'.c) (w32 s'.d) (w32 s'.e) (w32 s'.f) (w32 s'.g) (w32 s'.h)
  simp only [wcells, stw, List.map_cons, List.map_nil, World.setCells]
  exact this
theorem Hb.there {p : Nat} {w : World} {s : St} {v : Value} {n : Nat} (h : Hb p w s v n) : w.there p 0 8 := fun j hj => by
  refine ⟨?_, h.free _⟩
  rw [Nat.zero_add, Lib.cell_of_heap h]
  have : (hcells s v n).size = 10 := rfl
  rw [Array.getElem?_eq_getElem (by omega)]
  rfl
/-- a hash that was given l: its box at p, its bytes' row between p and hi -/
structure HashAt (p hi : Nat) (w : World) (l : List UInt8) : Prop where
  lt : p < hi
  size : hi ≤ w.heap.size
  ex : ∃ k a c, 64 * k ≤ l.length ∧ l.length < 64 * k + 64 ∧ Hb p w (st k l) (.slice a (l.length - 64 * k) c) l.length ∧ Own (p + 1) hi w a (l.drop (64 * k)) c
theorem HashAt.stay {p hi : Nat} {w w' : World} {l : List UInt8} (h : HashAt p hi w l) (hs : w.heap.size ≤ w'.heap.size) (hk : ∀ k, p ≤ k → k < hi → w'.heap[k]? = w.heap[k]?) : HashAt p hi w' l := by
  obtain ⟨k, a, c, h1, h2, h3, h4⟩ := h.ex
  exact ⟨h.lt, Nat.le_trans h.size hs, k, a, c, h1, h2, (hk p (Nat.le_refl _) h.lt).trans h3, h4.block fun j hj1 hj2 => hk j (by omega) hj2⟩
theorem HashAt.below {p hi : Nat} {w w' : World} {l : List UInt8} (h : HashAt p hi w l) (hb : Below w.heap.size w w') : HashAt p hi w' l :=
  h.stay hb.size fun k _ hk => hb.block k (Nat.lt_of_lt_of_le hk h.size)

set_option maxHeartbeats 1000000 in
set_option maxRecDepth 100000 in
theorem new (w : World) : Calls Tryz.prog 78 #[] w fun e w' => ∃ p, e = .returned (.pointer (some ⟨p, 0, none⟩)) ∧ w.heap.size ≤ p ∧ Below w.heap.size w w' ∧ HashAt p w'.heap.size w' [] := by
  go_enter Tryz.func78, Tryz.ntmps78
  go_wp2_with fail
  refine (ShaC.start w).mono ?_
  rintro e w1 ⟨rfl, hb⟩
  go_wp2_with (guard_target =~ wpList _ _ _ ({ dst := _, op := Op.build 170 _, type := _, pos := _, after := _, guard := none } :: _) _ _; refine wpList_build_as rfl 170 _ rfl (hcells init (.slice none 0 0) 0) (by kernel_rfl) ?_; generalize hL : hcells init (.slice none 0 0) 0 = L at *; have HL := Lib.hid hL; clear hL)
  go_ret
  refine ⟨w1.heap.size, rfl, hb.size, hb.alloc hb.size _, by simp, Nat.le_refl _, 0, none, 0, Nat.zero_le _, by decide, ?_, .inl ⟨rfl, rfl, rfl⟩⟩
  have := heap_alloc_new w1 (.cells L 170)
  rw [← HL.out] at this ⊢
  exact this

theorem fin_write (k : Nat) (l m : List UInt8) (h : 64 * k ≤ l.length) : l.drop (64 * k) ++ m = (l ++ m).drop (64 * k) := by rw [List.drop_append_of_le_length h]
theorem out_setCells {p hi : Nat} {w w' : World} (h : Out p hi w w') (hp : p < hi) : ∀ (vs : List Value) (o : Nat) {w' : World}, Out p hi w w' → Out p hi w (w'.setCells p o vs)
  | [], _, _, h => h
  | v :: r, o, _, h => out_setCells ‹Out p hi w w'› hp r (o + 1) (h.setCell rfl hp v)
set_option maxHeartbeats 4000000 in
set_option maxRecDepth 100000 in
theorem write (p hi : Nat) (l m : List UInt8) {a : Option Addr} (c : Nat) (w : World) (h : HashAt p hi w l) (hm : Bs w a m c) (hd : m ≠ [] → ∀ q, a = some q → ¬ (p ≤ q.block ∧ q.block < hi)) (hlen : l.length + m.length ≤ 140737488355328) :
    Calls Tryz.prog 79 #[.pointer (some ⟨p, 0, none⟩), .slice a m.length c] w fun e w' => e = .returned (.tuple #[]) ∧ Out p hi w w' ∧ HashAt p w'.heap.size w' (l ++ m) := by
  obtain ⟨k, a1, c1, hk1, hk2, hb, ho⟩ := h.ex
  have hp1 := h.lt
  have hp2 := h.size
  have hO1 : Out p hi w (w.setCell ⟨p, 9, none⟩ (.int .i64 ((l.length : Int) + m.length))) := (Out.refl p hi w).setCell rfl hp1 _
  have hm1 := bs_out hm hO1 hd
  have HM1 := Lib.hid hm1
  have ho1 : Own (p + 1) hi (w.setCell ⟨p, 9, none⟩ (.int .i64 ((l.length : Int) + m.length))) a1 (l.drop (64 * k)) c1 := ho.block fun j hj1 hj2 => heap_setCell_other _ _ _ _ (by simp only; omega)
  have hb1 : Hb p (w.setCell ⟨p, 9, none⟩ (.int .i64 ((l.length : Int) + m.length))) (st k l) (.slice a1 (l.length - 64 * k) c1) (l.length + m.length) := by
    rw [show ((l.length : Int) + m.length) = ((l.length + m.length : Nat) : Int) by omega]
    exact hb.putCount _
  have hn : l.length - 64 * k = (l.drop (64 * k)).length := by rw [List.length_drop]
  rw [hn] at hb hb1
  have e8 := hb.left
  have e9 := hb.count
  have f8 := hb.free 8
  have f9 := hb.free 9
  have hs1 : (w.setCell ⟨p, 9, none⟩ (.int .i64 ((l.length : Int) + m.length))).heap.size = w.heap.size := by simp [World.setCell]
  have HN := Lib.hid (fin_write k l m hk1)
  have hll : (l.drop (64 * k)).length ≤ l.length := by rw [List.length_drop]; omega
  have HLL := Lib.hid (show (l ++ m).length = l.length + m.length from List.length_append)
  have HST := Lib.hid (st_app k l m hk1)
  generalize hr : l.drop (64 * k) = r at *
  clear hr hn
  go_enter Tryz.func79, Tryz.ntmps79
  have HK := Lib.hid (show k ≤ (l ++ m).length / 64 by rw [HLL.out]; omega)
  have HM := Lib.hid hm; clear hm
  clear hm1 ho hb f8 hk1 hk2
  generalize hL : l ++ m = L at *
  clear hL
  go_wp2_with (at_builtin; refine Lf.wpList_own _ rfl (.tmp 17) (.tmp 18) rfl (p + 1) hi (by omega) (by omega) a1 r c1 ho1 a m c HM1.out (by omega) rfl rfl ?_; intro ar cr w2 n2 hn2 ho2 hO2; have hb2 := (hO2.block p (by omega) (by omega)).trans hb1; have e8b := Hb.left hb2; have f8b := Hb.free hb2 8; have HN2 := Lib.hid hn2; clear hn2)
  have HB3 := Lib.hid (Hb.putLeft hb2 (.slice ar n2 cr))
  have HO3 := Lib.hid (ho2.block (w' := w2.setCell ⟨p, 8, none⟩ (.slice ar n2 cr)) fun j hj1 hj2 => heap_setCell_other _ _ _ _ (by simp only; omega))
  have HU3 := Lib.hid ((hO1.trans (hO2.mono (Nat.le_succ p) (Nat.le_refl _)) (.inl (Nat.le_refl _))).setCell (q := ⟨p, 8, none⟩) rfl hp1 (.slice ar n2 cr))
  have HZ3 := Lib.hid (show w2.heap.size = (w2.setCell ⟨p, 8, none⟩ (.slice ar n2 cr)).heap.size by simp [World.setCell])
  clear e8 e8b f8b e9 f9 hb1 ho1 hO1 hO2 hb2 ho2 HM HM1 hs1
  generalize w2.setCell ⟨p, 8, none⟩ (.slice ar n2 cr) = w3 at *
  rw [HN.out] at HN2 HO3
  rw [HN2.out, ← HST.out, ← HLL.out] at HB3
  rw [HZ3.out] at HO3
  clear HN HST HN2 HZ3
  go_loopg [] (L.length / 64 - k) (fun g wr => ∃ (j : Nat) (a : Option Addr) (c : Nat), j + g = L.length / 64 ∧ Hid (Hb p wr (st j L) (.slice a (L.drop (64 * j)).length c) L.length) ∧ Hid (Own (p + 1) wr.heap.size wr a (L.drop (64 * j)) c) ∧ Hid (Out p hi w wr))
  case atStart => exact ⟨k, ar, cr, by have := HK.out; omega, HB3, HO3, HU3⟩
  case round =>
    clear HB3 HO3 HU3
    obtain ⟨j, a, c, hjg, HB, HO, HU⟩ := hrel
    have HG := Lib.hid hjg
    have HRL := Lib.hid (show (L.drop (64 * j)).length = L.length - 64 * j from List.length_drop)
    have HNX := Lib.hid (st_step j L)
    have HDR := Lib.hid (show (L.drop (64 * j)).drop 64 = L.drop (64 * (j + 1)) by rw [List.drop_drop]; congr 1)
    obtain ⟨R, hRE⟩ : ∃ R, L.drop (64 * j) = R := ⟨_, rfl⟩
    have HRE := Lib.hid hRE
    rw [hRE] at HRL HNX HDR HB HO
    clear hRE
    by_cases hlt : 64 ≤ R.length
    · obtain ⟨g0, o0, cur, rfl, q1, q2, q3, q4, q5, q6⟩ := HO.out.resolve_left (fun e => by rw [e.2.1] at hlt; simp at hlt)
      have e8 := HB.out.left
      have hok := st_ok j L
      generalize st j L = X at *
      have e0 := HB.out.word (j := 0) rfl
      have e1 := HB.out.word (j := 1) rfl
      have e2 := HB.out.word (j := 2) rfl
      have e3 := HB.out.word (j := 3) rfl
      have e4 := HB.out.word (j := 4) rfl
      have e5 := HB.out.word (j := 5) rfl
      have e6 := HB.out.word (j := 6) rfl
      have e7 := HB.out.word (j := 7) rfl
      have HQ := Lib.hid (show ∀ (j : Nat) (x : UInt8), (R.take 64)[j]? = some x → wr.drew.cell? ⟨g0, o0 + j, none⟩ = some (.int .u8 (x.toNat : Int)) from fun j x hj => by
        show wr.cell? _ = _
        rw [List.getElem?_take] at hj
        split at hj
        · rw [Lib.cell_of_heap q3]; exact q6 j x hj
        · cases hj)
      have hpl := HB.out.lt
      have HBD := Lib.hid (show Hb p wr.drew X (.slice (some ⟨g0, o0, none⟩) R.length c) L.length from HB.out)
      have z1 : (64 : Int) ≤ (c : Int) := by omega
      have hz2 : (R.take 64).length = 64 := by rw [List.length_take]; omega
      clear hjg q3 q6
      go_wp2_with fail
      go_region_law (first | (go_simp; go_at_call 103; refine (ShaD.digest X hok (R.take 64) g0 o0 c wr.drew hz2 HQ.out q2).mono ?_; rintro e w4 ⟨rfl, hb2⟩; obtain ⟨X2, hX2⟩ : ∃ X2, X2 = st (j + 1) L := ⟨_, rfl⟩; have HX2 := Lib.hid hX2; rw [← HNX.out, ← hX2, wc8 X2]; clear hX2; have hb3 := HBD.out.below hb2; have d0 := hb3.word (j := 0) rfl; have d1 := hb3.word (j := 1) rfl; have d2 := hb3.word (j := 2) rfl; have d3 := hb3.word (j := 3) rfl; have d4 := hb3.word (j := 4) rfl; have d5 := hb3.word (j := 5) rfl; have d6 := hb3.word (j := 6) rfl; have d7 := hb3.word (j := 7) rfl; have d8 := hb3.free 0; have d9 := hb3.free 1; have d10 := hb3.free 2; have d11 := hb3.free 3; have d12 := hb3.free 4; have d13 := hb3.free 5; have d14 := hb3.free 6; have d15 := hb3.free 7))
      all_goals
        have hb4 : Hb p _ X2 (.slice (some ⟨g0, o0, none⟩) R.length c) L.length := put8 hb3 (w32 X2.a) (w32 X2.b) (w32 X2.c) (w32 X2.d) (w32 X2.e) (w32 X2.f) (w32 X2.g) (w32 X2.h)
        have hO4 := ((((((((HU.out.drew.trans (hi' := 0) (Out.of_below hb2) (.inl (Nat.zero_le _))).setCell (q := ⟨p, 0, none⟩) rfl hp1 (w32 X2.a)).setCell (q := ⟨p, 1, none⟩) rfl hp1 (w32 X2.b)).setCell (q := ⟨p, 2, none⟩) rfl hp1 (w32 X2.c)).setCell (q := ⟨p, 3, none⟩) rfl hp1 (w32 X2.d)).setCell (q := ⟨p, 4, none⟩) rfl hp1 (w32 X2.e)).setCell (q := ⟨p, 5, none⟩) rfl hp1 (w32 X2.f)).setCell (q := ⟨p, 6, none⟩) rfl hp1 (w32 X2.g)).setCell (q := ⟨p, 7, none⟩) rfl hp1 (w32 X2.h)
        have ho4 := (HO.out.drew.block (w' := w4) fun j _ hj2 => hb2.block j hj2).block (w' := put8w w4 p X2) fun j hj1 _ => put8_other w4 X2 (by omega)
        have hz4 : w4.heap.size = (put8w w4 p X2).heap.size := (put8_size w4 p X2).symm
        have hzz : wr.heap.size ≤ w4.heap.size := hb2.size
        clear hb3 d0 d1 d2 d3 d4 d5 d6 d7 d8 d9 d10 d11 d12 d13 d14 d15 e0 e1 e2 e3 e4 e5 e6 e7 e8
        change Hb p (put8w w4 p X2) X2 _ _ at hb4
        change Out p hi w (put8w w4 p X2) at hO4
        change Exit.then _ _ _ _ (put8w w4 p X2)
        generalize put8w w4 p X2 = w5 at *
        have e8 := hb4.left
        have f8 := hb4.free 8
        obtain ⟨o', ho', hcut⟩ := Slc.cut_from (P := Tryz.prog) Tryz.underlying24 (s := 1) sizeByte g0 o0 R.length c 64 64 rfl hlt
        go_wp2_with fail
        have hO6 := hO4.setCell (q := ⟨p, 8, none⟩) rfl hp1 (.slice (some ⟨g0, o', none⟩) (R.length - 64) (c - 64))
        have hb6 := hb4.putLeft (.slice (some ⟨g0, o', none⟩) (R.length - 64) (c - 64))
        have ho6 := ((ho4.cut 64 hlt o' ho').block (w' := w5.setCell ⟨p, 8, none⟩ (.slice (some ⟨g0, o', none⟩) (R.length - 64) (c - 64))) fun j hj1 _ => heap_setCell_other _ _ _ _ (by simp only; omega)).mono (Nat.le_refl _) (hi' := (w5.setCell ⟨p, 8, none⟩ (.slice (some ⟨g0, o', none⟩) (R.length - 64) (c - 64))).heap.size) (by simp [World.setCell]; omega)
        rw [show R.length - 64 = (R.drop 64).length by rw [List.length_drop]] at hb6 ho6 hO6 ⊢
        rw [HDR.out] at hb6 ho6 hO6 ⊢
        go_roundg (L.length / 64 - (j + 1))
        case measure =>
          have := HG.out
          have := HRL.out
          omega
        case rel => exact ⟨j + 1, _, _, by have := HG.out; have := HRL.out; omega, by rw [← HX2.out]; exact hb6, ho6, hO6⟩
    · have e8 := HB.out.left
      have hz : (R.length : Int) < 64 := by omega
      clear hjg
      go_wp2_with fail
      go_end0
      have hG := HG.out
      have hR := HRL.out
      have hO := HB.out
      rw [hR] at hO
      refine ⟨rfl, HU.out, HB.out.lt, Nat.le_refl _, j, a, c, by omega, by omega, hO, ?_⟩
      rw [HRE.out]
      exact HO.out
end Go.Proofs.YtecnnlppinhmgaaGreatDoor.ShaE
