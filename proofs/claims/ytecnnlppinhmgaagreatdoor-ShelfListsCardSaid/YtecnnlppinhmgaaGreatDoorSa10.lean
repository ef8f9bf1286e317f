/-
  The walk of package frame's split where its header opens.
-/
import Derived.Test.YtecnnlppinhmgaaGreatDoorSa09
namespace Go.Proofs.YtecnnlppinhmgaaGreatDoor.FrI
open Go.RowKit Go.Proofs.YtecnnlppinhmgaaGreatDoor Go.Proofs.YtecnnlppinhmgaaGreatDoor.HtW Go.Proofs.YtecnnlppinhmgaaGreatDoor.HtX Go.Proofs.YtecnnlppinhmgaaGreatDoor.App Go.Proofs.YtecnnlppinhmgaaGreatDoor.FrA Go.Proofs.YtecnnlppinhmgaaGreatDoor.FrC Go.Proofs.YtecnnlppinhmgaaGreatDoor.FrD Go.Proofs.YtecnnlppinhmgaaGreatDoor.FrE Go.Proofs.YtecnnlppinhmgaaGreatDoor.FrF Go.Proofs.YtecnnlppinhmgaaGreatDoor.FrG Go.Proofs.YtecnnlppinhmgaaGreatDoor.FrH

theorem rd_far {B N : Nat} {w : World} {l : List UInt8} {p : Nat} (h : Rd B w l p) (hN : B < N) (j : Nat) (v : Value) : Rd B (w.setCell ⟨N, j, none⟩ v) l p := by
  obtain ⟨a, c, h1, h2, h3⟩ := h
  refine ⟨a, c, (Below.heap_setCell _ _ _ _ (fun h => absurd h (Nat.ne_of_lt hN))).trans h1, ⟨h2.1, h2.2.1, h2.2.2.imp id fun ⟨b, o, k1, k2, k3⟩ => ⟨b, o, k1, by simpa [World.setCell] using k2, fun i x hi => ?_⟩⟩, h3⟩
  have hne : l ≠ [] := fun h0 => by rw [h0] at hi; simp at hi
  have hn : b < B := h3 hne _ k1
  exact (World.cell?_of_block (w := w) (a := ⟨b, o + i, none⟩) (Below.heap_setCell _ _ _ _ (fun h => absurd h (by show b ≠ N; omega)))).trans (k3 i x hi)
theorem seven {l : List Nat} (h : l.length = 7) : ∃ a b c d e f g, l = [a, b, c, d, e, f, g] := by
  match l, h with
  | [a, b, c, d, e, f, g], _ => exact ⟨a, b, c, d, e, f, g, rfl⟩
set_option maxHeartbeats 2000000 in
set_option maxRecDepth 100000 in
theorem leftB (B n p : Nat) (a : Option Addr) (c : Nat) (w : World) (h : w.heap[B]? = some (.cells #[.slice a n c, .int .i64 (p : Int)] 165 (0, 0))) (hl : n ≤ 140737488351232) (hp : p ≤ 140737488351232) :
    Calls Tryz.prog 77 #[.pointer (some ⟨B, 0, none⟩)] w fun e w' => e = .returned (.int .i64 ((n : Int) - (p : Int))) ∧ ∃ k, w' = w.drewN k := by
  have c0 : w.cell? ⟨B, 0, none⟩ = some (.slice a n c) := by rw [Lib.cell_of_heap h]; rfl
  have c1 : w.cell? ⟨B, 1, none⟩ = some (.int .i64 (p : Int)) := by rw [Lib.cell_of_heap h]; rfl
  clear h
  go_enter Tryz.func77, Tryz.ntmps77
  go_upto_region 1 with fail
  go_quiet (fail)
  go_wp2_with fail
  go_ret
  exact ⟨rfl, _, rfl⟩
/-- numbers ahead of what is read -/
def ahead (ns : List Nat) : Option (List Nat × List UInt8) → Option (List Nat × List UInt8) := Option.map fun x => (ns ++ x.1, x.2)
theorem ahead_some (ns : List Nat) {l : List UInt8} {v k g : Nat} (hr : Fp.rd l = some (v, k)) (hv : v ≤ 1099511627776) : ahead ns (Fp.nums (g + 1) l) = ahead (ns ++ [v]) (Fp.nums g (l.drop k)) := by
  have e : Fp.nums (g + 1) l = match Fp.nums g (l.drop k) with | none => none | some (ns, r) => some (v :: ns, r) := by
    conv => lhs; unfold Fp.nums
    rw [hr]
    simp only
    rw [if_neg (by omega)]
    cases Fp.nums g (l.drop k) <;> rfl
  rw [e]
  cases Fp.nums g (l.drop k) with
  | none => rfl
  | some x => obtain ⟨a, b⟩ := x; simp [ahead]
theorem ahead_none (ns : List Nat) {l : List UInt8} {g : Nat} (hr : ∀ v k, Fp.rd l = some (v, k) → 1099511627776 < v) : ahead ns (Fp.nums (g + 1) l) = none := by
  have e : Fp.nums (g + 1) l = none := by
    conv => lhs; unfold Fp.nums
    cases h : Fp.rd l with
    | none => rfl
    | some x =>
      obtain ⟨v, k⟩ := x
      rw [h] at hr
      simp only
      rw [if_pos (hr v k rfl)]
  rw [e]
  rfl
/-- seven numbers' cells -/
def c7 (ns : List Nat) : Array Value := (ns.map (fun (n : Nat) => Value.int .i64 (n : Int)) ++ List.replicate (7 - ns.length) (Value.int .i64 0)).toArray
def Nb (N : Nat) (w : World) (ns : List Nat) : Prop := w.heap[N]? = some (.cells (c7 ns) 132 (0, 0))
theorem Nb.below {N : Nat} {w w' : World} {ns : List Nat} (h : Nb N w ns) (hb : Below w.heap.size w w') : Nb N w' ns := (hb.block _ (Array.getElem?_eq_some_iff.1 h).1).trans h
theorem Nb.keep {N B : Nat} {w w' : World} {ns : List Nat} (h : Nb N w ns) (hk : Dw.Keep [B] w w') (hne : N ≠ B) : Nb N w' ns := (hk.block _ (Array.getElem?_eq_some_iff.1 h).1 (by simpa using hne)).trans h
theorem Nb.put {N : Nat} {w : World} {ns : List Nat} (h : Nb N w ns) (v : Nat) (hl : ns.length < 7) : Nb N (w.setCell ⟨N, ns.length, none⟩ (.int .i64 (v : Int))) (ns ++ [v]) := by
  unfold Nb at h ⊢
  have e : (c7 ns).setIfInBounds ns.length (.int .i64 (v : Int)) = c7 (ns ++ [v]) := by
    unfold c7
    rw [List.setIfInBounds_toArray]
    congr 1
    rw [List.set_append_right _ _ (by simp), List.length_map, Nat.sub_self, show 7 - ns.length = (7 - (ns ++ [v]).length) + 1 by simp; omega, List.replicate_succ, List.set_cons_zero]
    simp
  rw [← e]
  simp only [World.setCell, Array.getElem?_modify, if_true, h]; rfl
theorem Nb.c6 {N : Nat} {w : World} {x0 x1 x2 x3 x4 x5 x6 : Nat} (h : Nb N w [x0, x1, x2, x3, x4, x5, x6]) : w.cell? ⟨N, 6, none⟩ = some (.int .i64 (x6 : Int)) := by rw [Lib.cell_of_heap h]; rfl
theorem Nb.at {N : Nat} {w : World} {ns : List Nat} (h : Nb N w ns) (j : Nat) (hj : j < 7) : (∃ v, w.cell? ⟨N, j, none⟩ = some v) ∧ w.frozen? ⟨N, j, none⟩ = false := by
  refine ⟨?_, Lib.frozen_of_heap h j⟩
  rw [Lib.cell_of_heap h]
  have : (c7 ns).size ≥ 7 := by simp [c7]; omega
  exact ⟨_, Array.getElem?_eq_getElem (by omega)⟩

/-- the world while split's last statement runs -/
def So (w : World) (Bq : Nat) (bx : Obj) (W : World) : Prop := Below w.heap.size w W ∧ W.heap[Bq]? = some bx ∧ ∃ x y z u v, W.heap[w.heap.size]? = some (.cells #[x, y, z, u, v] 34 (0, 0))
abbrev S20 (w : World) (G N Bq : Nat) (bx : Obj) (S : Fp.Stamp) (v6 : Value) (W : World) : Prop :=
  (((W.cell? ⟨G, 0, none⟩ = some (.int .i64 (S.node : Int)) ∧ W.cell? ⟨G, 1, none⟩ = some (.int .i64 (S.boot : Int)) ∧ W.cell? ⟨G, 2, none⟩ = some (.int .i64 (S.seq : Int))) ∧ W.cell? ⟨G, 3, none⟩ = some (.int .i64 (S.shard : Int)) ∧ W.cell? ⟨G, 4, none⟩ = some (.int .i64 (S.size : Int))) ∧ W.cell? ⟨N, 6, none⟩ = some v6) ∧ So w Bq bx W
theorem S20.below {w : World} {G N Bq : Nat} {bx : Obj} {S : Fp.Stamp} {v6 : Value} {W W' : World} (h : S20 w G N Bq bx S v6 W) (hb : Below W.heap.size W W') : S20 w G N Bq bx S v6 W' := by
  obtain ⟨⟨⟨⟨h0, h1, h2⟩, h3, h4⟩, h5⟩, h6, h7, x, y, z, u, v, h8⟩ := h
  have kG : G < W.heap.size := World.block_lt_of_cell? _ _ h0
  have kN : N < W.heap.size := World.block_lt_of_cell? _ _ h5
  exact ⟨⟨⟨⟨(hb.cell (p := ⟨G, 0, none⟩) kG).trans h0, (hb.cell (p := ⟨G, 1, none⟩) kG).trans h1, (hb.cell (p := ⟨G, 2, none⟩) kG).trans h2⟩, (hb.cell (p := ⟨G, 3, none⟩) kG).trans h3, (hb.cell (p := ⟨G, 4, none⟩) kG).trans h4⟩, (hb.cell (p := ⟨N, 6, none⟩) kN).trans h5⟩, h6.trans (hb.mono h6.size), (hb.block _ (Array.getElem?_eq_some_iff.1 h7).1).trans h7, x, y, z, u, v, (hb.block _ (Array.getElem?_eq_some_iff.1 h8).1).trans h8⟩
theorem S20.st {w : World} {G N Bq : Nat} {bx : Obj} {S : Fp.Stamp} {v6 : Value} {W : World} (h : S20 w G N Bq bx S v6 W) (hG : G ≠ w.heap.size) (hN : N ≠ w.heap.size) (hB : Bq ≠ w.heap.size) (a b c d e : Value) : S20 w G N Bq bx S v6 (st5 W w.heap.size a b c d e) := by
  obtain ⟨⟨⟨⟨h0, h1, h2⟩, h3, h4⟩, h5⟩, h6, h7, x, y, z, u, v, h8⟩ := h
  have hk : ∀ j, j ≠ w.heap.size → (st5 W w.heap.size a b c d e).heap[j]? = W.heap[j]? := fun j hj => by
    simp only [st5]
    iterate 5 rw [Below.heap_setCell _ _ _ _ (fun h => absurd h hj)]
  have hc : ∀ j i, j ≠ w.heap.size → (st5 W w.heap.size a b c d e).cell? ⟨j, i, none⟩ = W.cell? ⟨j, i, none⟩ := fun j i hj => World.cell?_of_block (a := ⟨j, i, none⟩) (hk j hj)
  exact ⟨⟨⟨⟨(hc G 0 hG).trans h0, (hc G 1 hG).trans h1, (hc G 2 hG).trans h2⟩, (hc G 3 hG).trans h3, (hc G 4 hG).trans h4⟩, (hc N 6 hN).trans h5⟩, below_st5 h6 (Nat.le_refl _) _ _ _ _ _, (hk Bq hB).trans h7, _, _, _, _, _, put5 h8 a b c d e⟩
theorem S20.cells {w : World} {G N Bq : Nat} {bx : Obj} {S : Fp.Stamp} {v6 : Value} {W : World} (h : S20 w G N Bq bx S v6 W) : ∃ x y z u v, (W.cell? ⟨w.heap.size, 0, none⟩ = some x ∧ W.cell? ⟨w.heap.size, 1, none⟩ = some y ∧ W.cell? ⟨w.heap.size, 2, none⟩ = some z ∧ W.cell? ⟨w.heap.size, 3, none⟩ = some u ∧ W.cell? ⟨w.heap.size, 4, none⟩ = some v) ∧ (W.frozen? ⟨w.heap.size, 0, none⟩ = false ∧ W.frozen? ⟨w.heap.size, 1, none⟩ = false ∧ W.frozen? ⟨w.heap.size, 2, none⟩ = false ∧ W.frozen? ⟨w.heap.size, 3, none⟩ = false ∧ W.frozen? ⟨w.heap.size, 4, none⟩ = false) := by
  obtain ⟨x, y, z, u, v, hb⟩ := h.2.2.2
  refine ⟨x, y, z, u, v, ⟨?_, ?_, ?_, ?_, ?_⟩, Lib.frozen_of_heap hb 0, Lib.frozen_of_heap hb 1, Lib.frozen_of_heap hb 2, Lib.frozen_of_heap hb 3, Lib.frozen_of_heap hb 4⟩
  all_goals (rw [Lib.cell_of_heap hb]; rfl)

set_option maxHeartbeats 8000000 in
set_option maxRecDepth 100000 in
theorem split_open (l o : List UInt8) {a : Option Addr} (c : Nat) (w : World) {aB aD : Addr} (hE : Ev w aB aD) (hb : Bs w a l c) (hl : l.length ≤ 140737488351232) (n m : Nat) (hr : Fp.rd l = some (n, m)) (hn : n ≤ 256) (hm : m + n ≤ l.length) (ho : Fp.openB ((l.drop m).take n) = .ok o) (hol : o.length ≤ 256) :
    Calls Tryz.prog 51 #[.slice a l.length c] w fun e w' => SPost aB aD w' (match Fp.nums 7 o with | none => .error 4 | some (ns, r) => Fp.ofNums ns r (l.drop (m + n))) e ∧ Below w.heap.size w w' := by
  obtain ⟨w1, hw1, hS1⟩ : ∃ w1, w1 = w.alloc (.cells sc0 34) ∧ Sp w w1 := ⟨_, rfl, (Below.refl _ _).alloc (Nat.le_refl _) _, heap_alloc_new _ _⟩
  have hg3 : ¬ 3 = w.heap.size := Nat.ne_of_lt (World.block_lt_of_cell? w _ hE.bytes)
  have hg3' : ¬ w.heap.size = 3 := fun h => hg3 h.symm
  have KR := Lib.hid (newReader l c w1 (hb.below hS1.bel) hl)
  have HE := Lib.hid (hE.below hS1.bel)
  have HS1 := Lib.hid hS1
  have hz1 : w.heap.size < w1.heap.size := (Array.getElem?_eq_some_iff.1 hS1.box).1
  have hln : ((l.drop m).take n).length = n := by rw [List.length_take, List.length_drop]; omega
  obtain ⟨T, hT⟩ : ∃ T, T = (l.drop m).take n := ⟨_, rfl⟩
  rw [← hT] at hln ho
  have HT := Lib.hid hT
  have HO := Lib.hid ho
  have HLN := Lib.hid hln
  have HR := Lib.hid hr
  obtain ⟨R, hR⟩ : ∃ R, R = (match Fp.nums 7 o with | none => Except.error 4 | some (ns, r) => Fp.ofNums ns r (l.drop (m + n))) := ⟨_, rfl⟩
  have HRR := Lib.hid hR
  rw [← hR]
  clear hS1 hE hT ho hln hr hR
  go_enter Tryz.func51, Tryz.ntmps51
  go_upto_region 1 with fail
  rw [← hw1]
  clear hw1
  go_upto_region 9 with (first
    | (go_at_call 71; have hd2 := hd1; refine KQ.out.mono ?_; rintro e w5 ⟨Bh, rfl, hBh, hR5, hb5⟩)
    | (go_at_call 71; refine KR.out.mono ?_; rintro e w2 ⟨Bq, rfl, hBq, hR2, hb2⟩; have hd1 := True.intro; have HS2 := Lib.hid (HS1.out.below hb2); have KB := Lib.hid (bytes_ok Bq l 0 256 n m w2 hR2 hl (by rw [List.drop_zero]; exact HR.out) hn (by omega)); rw [Nat.zero_add, ← HT.out] at KB; have HE2 := Lib.hid (HE.out.below hb2); have hBq2 : w.heap.size < Bq := (by omega); clear hR2 hb2)
    | (go_at_call 72; refine KB.out.mono ?_; rintro e w3 ⟨a3, c3, rfl, hB3, hR3, hk3⟩; have hS3 := HS2.out.keep hk3 hBq2; have HS3 := Lib.hid hS3; have HE3 := Lib.hid (ev_keep HE.out HE2.out hk3 hBq); have HR3 := Lib.hid hR3; have KO := Lib.hid (openW T c3 w3 HE3.out hB3 (by have := HLN.out; omega)); rw [HO.out, HLN.out] at KO; clear hB3 hR3 hk3)
    | (go_at_call 73; refine KO.out.mono ?_; rintro e w4 ⟨he, hb4⟩; obtain ⟨a4, c4, rfl, hB4⟩ := he; have HS4 := Lib.hid (HS3.out.below hb4); have HE4 := Lib.hid (HE3.out.below hb4); have HR4 := Lib.hid (HR3.out.below hb4); have KQ := Lib.hid (newReader o c4 w4 hB4 (by omega)); have hz4 := HR4.out.lt; clear hb4 hB4))
  have HS5 := Lib.hid (HS4.out.below hb5)
  obtain ⟨w6, hw6, hb6, hN6⟩ : ∃ w6, w6 = w5.alloc (.cells #[.int .i64 0, .int .i64 0, .int .i64 0, .int .i64 0, .int .i64 0, .int .i64 0, .int .i64 0] 132) ∧ Below w5.heap.size w5 w6 ∧ Nb w5.heap.size w6 [] := ⟨_, rfl, (Below.refl _ _).alloc (Nat.le_refl _) _, heap_alloc_new _ _⟩
  have hlt5 := hR5.lt
  have HW6 := Lib.hid (hb5.trans (hb6.mono hb5.size))
  have HR6 := Lib.hid (hR5.below hb6)
  have HN6 := Lib.hid hN6
  obtain ⟨N, hN⟩ : ∃ N, N = w5.heap.size := ⟨_, rfl⟩
  have hNB : Bh < N := by omega
  have hN4 : w4.heap.size ≤ N := by have := hb5.size; omega
  go_upto_region 10 with fail
  rw [← hw6, ← hN]
  rw [← hN] at HN6
  clear hw6 hb6 hN6 hb5 hR5 hlt5 hN KR KB KO KQ HS5 HT HO HLN
  go_wp2_with fail
  go_loopg [36] 7 (fun g v wr => ∃ (p : Nat) (ns : List Nat), ns.length + g = 7 ∧ v = .int .i64 ((ns.length : Nat) : Int) ∧ p ≤ o.length ∧ Hid (Fp.nums 7 o = ahead ns (Fp.nums g (o.drop p))) ∧ Hid (Rd Bh wr o p) ∧ Hid (Nb N wr ns) ∧ Hid (Below w4.heap.size w4 wr))
  case atStart => exact ⟨0, [], rfl, rfl, Nat.zero_le _, Lib.hid (by rw [List.drop_zero]; cases Fp.nums 7 o with | none => rfl | some x => rfl), HR6.out, HN6.out, HW6.out⟩
  case round =>
    obtain ⟨p, ns, hg, rfl, hp, HM, HRh, HNn, HW⟩ := hrel
    have HG := Lib.hid hg
    clear hg
    by_cases hi : ns.length < 7
    · obtain ⟨g, rfl⟩ : ∃ g, gk = g + 1 := ⟨gk - 1, by have := HG.out; omega⟩
      have hneB : N ≠ Bh := by omega
      have hneG : ¬ N = w.heap.size := by omega
      have hneG' : ¬ w.heap.size = N := by omega
      have hi' : ((ns.length : Nat) : Int) < 7 := by omega
      by_cases hok : ∃ v k, Fp.rd (o.drop p) = some (v, k) ∧ v ≤ 1099511627776
      · obtain ⟨v, k, hrd, hv⟩ := hok
        obtain ⟨-, hk2, -⟩ := rd_le hrd
        rw [List.length_drop] at hk2
        have KN := Lib.hid (num_ok Bh o p 1099511627776 v k wr HRh.out (by omega) (by omega) hrd hv)
        have HM2 := Lib.hid (show Fp.nums 7 o = ahead (ns ++ [v]) (Fp.nums g (o.drop (p + k))) by rw [HM.out, ahead_some ns hrd hv, List.drop_drop])
        have hpk : p + k ≤ o.length := by omega
        clear hrd hv hk2
        go_wp2_with (go_at_call 74; refine KN.out.mono ?_; rintro e w7 ⟨rfl, hR7, hk7⟩; have hN7 := HNn.out.keep hk7 hneB; obtain ⟨⟨vz, cz⟩, fz⟩ := hN7.at ns.length hi; have HN7 := Lib.hid hN7; have HR7 := Lib.hid hR7; have HW7 := Lib.hid (Dw.Keep.below HW.out hk7 (fun i hi => by simp at hi; omega)); clear hN7 hR7 hk7)
        go_roundg g
        case measure => omega
        case rel => exact ⟨p + k, ns ++ [v], by have := HG.out; simp; omega, by simp, hpk, HM2.out, rd_far HR7.out hNB _ _, HN7.out.put v hi, HW7.out.setCell hN4 _⟩
      · have hno : ∀ v k, Fp.rd (o.drop p) = some (v, k) → 1099511627776 < v := fun v k h => by
          rcases Nat.lt_or_ge 1099511627776 v with h1 | h1
          · exact h1
          · exact absurd ⟨v, k, h, h1⟩ hok
        have KN := Lib.hid (num_no Bh o p 1099511627776 wr (HE4.out.below HW.out) HRh.out (by omega) (by omega) hno)
        have HRE := Lib.hid (show R = .error 4 by rw [HRR.out, HM.out, ahead_none ns hno])
        clear hok hno
        go_wp2_with (go_at_call 74; refine KN.out.mono ?_; rintro e w7 ⟨rfl, k7, hw7⟩; have hW7 : Below w4.heap.size w4 w7 := (by rw [hw7]; exact below_drewN HW.out k7); have hN7 : Nb N w7 ns := (by rw [hw7]; exact HNn.out.below (below_drewN (Below.refl _ _) k7)); obtain ⟨⟨vz, cz⟩, fz⟩ := hN7.at ns.length hi; have hS7 := HS4.out.below hW7; have hS8 := HS4.out.below (hW7.setCell (p := ⟨N, ns.length, none⟩) hN4 (.int .i64 0)); obtain ⟨⟨c0, c1, c2, c3', c4'⟩, f0, f1, f2, f3, f4⟩ := hS7.cells; clear hw7)
        refine bodyPost_ret (res_split (put5 hS8.box _ _ _ _ _) rfl rfl rfl rfl rfl rfl) rfl ⟨?_, below_st5 hS8.bel (Nat.le_refl _) _ _ _ _ _⟩
        rw [HRE.out]
        rfl
    · obtain rfl : gk = 0 := by have := HG.out; omega
      obtain ⟨x0, x1, x2, x3, x4, x5, x6, rfl⟩ := seven (by have := HG.out; omega)
      have hnm : Fp.nums 7 o = some ([x0, x1, x2, x3, x4, x5, x6], o.drop p) := HM.out
      have HRE := Lib.hid (show R = Fp.ofNums [x0, x1, x2, x3, x4, x5, x6] (o.drop p) (l.drop (m + n)) by rw [HRR.out, hnm])
      have hNn := HNn.out
      have q0 : wr.cell? ⟨N, 0, none⟩ = some (.int .i64 (x0 : Int)) := by rw [Lib.cell_of_heap hNn]; rfl
      have q1 : wr.cell? ⟨N, 1, none⟩ = some (.int .i64 (x1 : Int)) := by rw [Lib.cell_of_heap hNn]; rfl
      have q2 : wr.cell? ⟨N, 2, none⟩ = some (.int .i64 (x2 : Int)) := by rw [Lib.cell_of_heap hNn]; rfl
      have q3 : wr.cell? ⟨N, 3, none⟩ = some (.int .i64 (x3 : Int)) := by rw [Lib.cell_of_heap hNn]; rfl
      have q4 : wr.cell? ⟨N, 4, none⟩ = some (.int .i64 (x4 : Int)) := by rw [Lib.cell_of_heap hNn]; rfl
      have q5 : wr.cell? ⟨N, 5, none⟩ = some (.int .i64 (x5 : Int)) := by rw [Lib.cell_of_heap hNn]; rfl
      obtain ⟨S, hS⟩ : ∃ S : Fp.Stamp, S = ⟨x1, x2, x3, x4, x5⟩ := ⟨_, rfl⟩
      have hi7 : ¬ (((7 : Nat) : Int) < 7) := by omega
      obtain ⟨w8, hw8, hb8, hx8⟩ : ∃ w8, w8 = wr.alloc (.cells #[.int .i64 (x1 : Int), .int .i64 (x2 : Int), .int .i64 (x3 : Int), .int .i64 (x4 : Int), .int .i64 (x5 : Int)] 34) ∧ Below wr.heap.size wr w8 ∧ w8.heap[wr.heap.size]? = some (.cells (sc S) 34 (0, 0)) := ⟨_, rfl, (Below.refl _ _).alloc (Nat.le_refl _) _, by rw [hS]; exact heap_alloc_new _ _⟩
      have HN8 := Lib.hid (hNn.below hb8)
      have HR8 := Lib.hid (HRh.out.below hb8)
      have HW8 := Lib.hid (HW.out.trans (hb8.mono HW.out.size))
      have HX8 := Lib.hid hx8
      have HSS := Lib.hid hS
      have hz8 : N < wr.heap.size := (Array.getElem?_eq_some_iff.1 hNn).1
      go_upto_region 18 with fail
      rw [← hw8]
      clear hw8 hb8 hx8 hnm hNn q0 q1 q2 q3 q4 q5 hi hi7 hS
      obtain ⟨G8, hG8⟩ : ∃ G8, G8 = wr.heap.size := ⟨_, rfl⟩
      rw [← hG8] at HX8 hz8 ⊢
      clear hG8 HRh HNn HW
      have q0 : w8.cell? ⟨N, 0, none⟩ = some (.int .i64 (x0 : Int)) := by rw [Lib.cell_of_heap HN8.out]; rfl
      have hg8G : ¬ G8 = w.heap.size := by omega
      have hg8G' : ¬ w.heap.size = G8 := by omega
      by_cases h0 : x0 = 1
      case neg =>
        have e0 : ((x0 : Int) != 1) = true := by rw [bne_iff_ne]; omega
        have HRE2 := Lib.hid (show R = .error 4 by rw [HRE.out, Fp.ofNums, if_neg (fun h => h0 h.1)])
        have hS9 := HS4.out.below HW8.out
        obtain ⟨⟨c0, c1, c2, c3', c4'⟩, f0, f1, f2, f3, f4⟩ := hS9.cells
        have cB := (HE4.out.below HW8.out).bytes
        clear h0
        go_upto_region 19 with fail
        go_region
        go_wp2_with fail
        refine bodyPost_ret (res_split (put5 hS9.box _ _ _ _ _) rfl rfl rfl rfl rfl rfl) rfl ⟨?_, (below_st5 hS9.bel (Nat.le_refl _) _ _ _ _ _).drew⟩
        rw [HRE2.out]
        rfl
      have e0 : ((x0 : Int) != 1) = false := by rw [h0]; rfl
      have H0 := Lib.hid h0
      clear h0
      have KE := Lib.hid (atEnd Bh o p w8 (HE4.out.below HW8.out) HR8.out (by omega) hp)
      by_cases h1 : p = o.length
      case neg =>
        have HRE2 := Lib.hid (show R = .error 4 by
          rw [HRE.out, Fp.ofNums, if_neg]
          intro h
          have := congrArg List.length h.2.1
          rw [List.length_drop] at this
          simp at this
          omega)
        rw [endV, if_neg h1] at KE
        clear h1
        go_upto_region 19 with (go_at_call 75; refine KE.out.mono ?_; rintro e w9 ⟨rfl, k9, hw9⟩; have hW9 : Below w4.heap.size w4 w9 := (by rw [hw9]; exact below_drewN HW8.out k9); have hS9 := HS4.out.below hW9; obtain ⟨⟨c0, c1, c2, c3', c4'⟩, f0, f1, f2, f3, f4⟩ := hS9.cells; have cB := (HE4.out.below hW9).bytes; clear hw9)
        go_region
        go_wp2_with fail
        refine bodyPost_ret (res_split (put5 hS9.box _ _ _ _ _) rfl rfl rfl rfl rfl rfl) rfl ⟨?_, (below_st5 hS9.bel (Nat.le_refl _) _ _ _ _ _).drew⟩
        rw [HRE2.out]
        rfl
      rw [endV, if_pos h1] at KE
      have H1 := Lib.hid h1
      clear h1
      by_cases h2 : S.fits
      case neg =>
        have HRE2 := Lib.hid (show R = .error 4 by
          rw [HRE.out, Fp.ofNums, if_neg]
          rintro ⟨-, -, h, -⟩
          rw [← HSS.out] at h
          exact h2 h)
        have hF : fitsB S = false := decide_eq_false h2
        clear h2
        go_upto_region 19 with (first
          | (go_at_call 75; refine KE.out.mono ?_; rintro e w9 ⟨rfl, k9, hw9⟩; have hW9 : Below w4.heap.size w4 w9 := (by rw [hw9]; exact below_drewN HW8.out k9); have hx : w9.heap[G8]? = some (.cells (sc S) 34 (0, 0)) := (by rw [hw9]; exact ((below_drewN (Below.refl w8.heap.size w8) k9).block _ (Array.getElem?_eq_some_iff.1 HX8.out).1).trans HX8.out); have KF := Lib.hid (inForm S w9); rw [hF] at KF; have g0 : w9.cell? ⟨G8, 0, none⟩ = some (.int .i64 (S.node : Int)) := (by rw [Lib.cell_of_heap hx]; rfl); have g1 : w9.cell? ⟨G8, 1, none⟩ = some (.int .i64 (S.boot : Int)) := (by rw [Lib.cell_of_heap hx]; rfl); have g2 : w9.cell? ⟨G8, 2, none⟩ = some (.int .i64 (S.seq : Int)) := (by rw [Lib.cell_of_heap hx]; rfl); have g3 : w9.cell? ⟨G8, 3, none⟩ = some (.int .i64 (S.shard : Int)) := (by rw [Lib.cell_of_heap hx]; rfl); have g4 : w9.cell? ⟨G8, 4, none⟩ = some (.int .i64 (S.size : Int)) := (by rw [Lib.cell_of_heap hx]; rfl); have HW9 := Lib.hid hW9; clear hw9 hx hW9)
          | (go_at_call 76; refine KF.out.mono ?_; rintro e w10 ⟨rfl, hb10⟩; have hW10 := HW9.out.trans (hb10.mono HW9.out.size); have hS9 := HS4.out.below hW10; obtain ⟨⟨c0, c1, c2, c3', c4'⟩, f0, f1, f2, f3, f4⟩ := hS9.cells; have cB := (HE4.out.below hW10).bytes))
        go_region
        go_wp2_with fail
        refine bodyPost_ret (res_split (put5 hS9.box _ _ _ _ _) rfl rfl rfl rfl rfl rfl) rfl ⟨?_, (below_st5 hS9.bel (Nat.le_refl _) _ _ _ _ _).drew⟩
        rw [HRE2.out]
        rfl
      have hF : fitsB S = true := decide_eq_true h2
      have H2 := Lib.hid h2
      clear h2
      have q6 : w8.cell? ⟨N, 6, none⟩ = some (.int .i64 (x6 : Int)) := by rw [Lib.cell_of_heap HN8.out]; rfl
      by_cases h6 : x6 ≤ 1024
      case neg =>
        have HRE2 := Lib.hid (show R = .error 4 by
          rw [HRE.out, Fp.ofNums, if_neg]
          rintro ⟨-, -, -, h⟩
          exact h6 h)
        have e6 : decide ((1024 : Int) < (x6 : Int)) = true := decide_eq_true (by omega)
        clear h6
        go_upto_region 19 with (first
          | (go_at_call 75; refine KE.out.mono ?_; rintro e w9 ⟨rfl, k9, hw9⟩; have hW9 : Below w4.heap.size w4 w9 := (by rw [hw9]; exact below_drewN HW8.out k9); have hx : w9.heap[G8]? = some (.cells (sc S) 34 (0, 0)) := (by rw [hw9]; exact ((below_drewN (Below.refl w8.heap.size w8) k9).block _ (Array.getElem?_eq_some_iff.1 HX8.out).1).trans HX8.out); have HN9 : Nb N w9 [x0, x1, x2, x3, x4, x5, x6] := (by rw [hw9]; exact HN8.out.below (below_drewN (Below.refl _ _) k9)); have KF := Lib.hid (inForm S w9); rw [hF] at KF; have g0 : w9.cell? ⟨G8, 0, none⟩ = some (.int .i64 (S.node : Int)) := (by rw [Lib.cell_of_heap hx]; rfl); have g1 : w9.cell? ⟨G8, 1, none⟩ = some (.int .i64 (S.boot : Int)) := (by rw [Lib.cell_of_heap hx]; rfl); have g2 : w9.cell? ⟨G8, 2, none⟩ = some (.int .i64 (S.seq : Int)) := (by rw [Lib.cell_of_heap hx]; rfl); have g3 : w9.cell? ⟨G8, 3, none⟩ = some (.int .i64 (S.shard : Int)) := (by rw [Lib.cell_of_heap hx]; rfl); have g4 : w9.cell? ⟨G8, 4, none⟩ = some (.int .i64 (S.size : Int)) := (by rw [Lib.cell_of_heap hx]; rfl); have HW9 := Lib.hid hW9; clear hw9 hx hW9)
          | (go_at_call 76; refine KF.out.mono ?_; rintro e w10 ⟨rfl, hb10⟩; have hW10 := HW9.out.trans (hb10.mono HW9.out.size); have q6b : _ = some (Value.int .i64 (x6 : Int)) := ((HN9.below hb10).c6); have hS9 := HS4.out.below hW10; obtain ⟨⟨c0, c1, c2, c3', c4'⟩, f0, f1, f2, f3, f4⟩ := hS9.cells; have cB := (HE4.out.below hW10).bytes))
        go_region
        go_wp2_with fail
        refine bodyPost_ret (res_split (put5 hS9.box _ _ _ _ _) rfl rfl rfl rfl rfl rfl) rfl ⟨?_, (below_st5 hS9.bel (Nat.le_refl _) _ _ _ _ _).drew⟩
        rw [HRE2.out]
        rfl
      have e6 : decide ((1024 : Int) < (x6 : Int)) = false := decide_eq_false (by omega)
      have HRE2 := Lib.hid (show R = .ok (S, x6, l.drop (m + n)) by
        rw [HRE.out, HSS.out, Fp.ofNums, if_pos]
        refine ⟨H0.out, by rw [H1.out]; simp, ?_, h6⟩
        have := H2.out
        rwa [HSS.out] at this)
      have H6 := Lib.hid h6
      clear h6
      go_upto_region 20 with (first
        | (go_at_call 75; refine KE.out.mono ?_; rintro e w9 ⟨rfl, k9, hw9⟩; have hW9 : Below w4.heap.size w4 w9 := (by rw [hw9]; exact below_drewN HW8.out k9); have hx : w9.heap[G8]? = some (.cells (sc S) 34 (0, 0)) := (by rw [hw9]; exact ((below_drewN (Below.refl w8.heap.size w8) k9).block _ (Array.getElem?_eq_some_iff.1 HX8.out).1).trans HX8.out); have HN9 : Nb N w9 [x0, x1, x2, x3, x4, x5, x6] := (by rw [hw9]; exact HN8.out.below (below_drewN (Below.refl _ _) k9)); have KF := Lib.hid (inForm S w9); rw [hF] at KF; have g0 : w9.cell? ⟨G8, 0, none⟩ = some (.int .i64 (S.node : Int)) := (by rw [Lib.cell_of_heap hx]; rfl); have g1 : w9.cell? ⟨G8, 1, none⟩ = some (.int .i64 (S.boot : Int)) := (by rw [Lib.cell_of_heap hx]; rfl); have g2 : w9.cell? ⟨G8, 2, none⟩ = some (.int .i64 (S.seq : Int)) := (by rw [Lib.cell_of_heap hx]; rfl); have g3 : w9.cell? ⟨G8, 3, none⟩ = some (.int .i64 (S.shard : Int)) := (by rw [Lib.cell_of_heap hx]; rfl); have g4 : w9.cell? ⟨G8, 4, none⟩ = some (.int .i64 (S.size : Int)) := (by rw [Lib.cell_of_heap hx]; rfl); have HW9 := Lib.hid hW9; have HX9 := Lib.hid hx; have HN9 := Lib.hid HN9; clear hw9 hx hW9)
        | (go_at_call 76; refine KF.out.mono ?_; rintro e w10 ⟨rfl, hb10⟩; have HW10 := Lib.hid (HW9.out.trans (hb10.mono HW9.out.size)); have q6b : w10.cell? ⟨N, 6, none⟩ = some (Value.int .i64 (x6 : Int)) := ((HN9.out.below hb10).c6); have HX10 := Lib.hid ((hb10.block _ (Array.getElem?_eq_some_iff.1 HX9.out).1).trans HX9.out); clear hb10))
      obtain ⟨P, hP⟩ : ∃ P, P = m + n := ⟨_, rfl⟩
      have HP := Lib.hid hP
      have hPl : P ≤ l.length := by omega
      rw [← hP] at HR4 HRE2
      clear hP
      obtain ⟨ar, cr, hbx, hbsr, -⟩ := HR4.out.below HW10.out
      obtain ⟨bx, hbxe⟩ : ∃ bx, bx = Obj.cells #[.slice ar l.length cr, .int .i64 (P : Int)] 165 (0, 0) := ⟨_, rfl⟩
      rw [← hbxe] at hbx
      have HBE := Lib.hid hbxe
      have HS10 := Lib.hid (show S20 w G8 N Bq bx S (.int .i64 (x6 : Int)) w10.drew from S20.below (W := w10) ⟨⟨⟨⟨by rw [Lib.cell_of_heap HX10.out]; rfl, by rw [Lib.cell_of_heap HX10.out]; rfl, by rw [Lib.cell_of_heap HX10.out]; rfl⟩, by rw [Lib.cell_of_heap HX10.out]; rfl, by rw [Lib.cell_of_heap HX10.out]; rfl⟩, q6b⟩, (HS4.out.below HW10.out).bel, hbx, _, _, _, _, _, (HS4.out.below HW10.out).box⟩ (Below.refl _ _).drew)
      obtain ⟨asl, hsl, hbs⟩ := Mid.suf hb P hPl (P : Int) rfl
      have HBS := Lib.hid hbs
      have hwr : IntKind.i64.wrap ((l.length : Int) - ((l.length : Int) - (P : Int))) = (P : Int) := by
        rw [IntWalk.i64_in _ ⟨by omega, by omega⟩]; omega
      have KL := Lib.hid (show ∀ W, S20 w G8 N Bq bx S (.int .i64 (x6 : Int)) W → Calls Tryz.prog 77 #[.pointer (some ⟨Bq, 0, none⟩)] W fun e w' => e = .returned (.int .i64 ((l.length : Int) - (P : Int))) ∧ S20 w G8 N Bq bx S (.int .i64 (x6 : Int)) w' from
        fun W hW => (leftB Bq l.length P ar cr W (HBE.out ▸ hW.2.2.1) hl (by omega)).mono fun e w' ⟨h1, k, h2⟩ => ⟨h1, h2 ▸ S20.below hW (below_drewN (Below.refl _ _) k)⟩)
      have hzN : N ≠ w.heap.size := by omega
      have hzB : Bq ≠ w.heap.size := by omega
      clear q6b hbx hbsr hbs hbxe
      have hS10 := HS10.out
      obtain ⟨⟨⟨⟨g0, g1, g2⟩, g3, g4⟩, g6⟩, hS10o⟩ := hS10
      go_region_with (first
          | (go_at_call 77; refine (KL.out _ (by first | assumption | exact HS10.out | exact S20.st HS10.out hg8G hzN hzB _ _ _ _ _)).mono ?_; rintro e w11 ⟨rfl, hS11⟩; obtain ⟨_, _, _, _, _, ⟨c0, c1, c2, c3', c4'⟩, f0, f1, f2, f3, f4⟩ := hS11.cells; have ⟨⟨⟨⟨g0, g1, g2⟩, g3, g4⟩, g6⟩, hS11o⟩ := hS11))
      all_goals
        clear c0 c1 c2 c3' c4' f0 f1 f2 f3 f4
        obtain ⟨_, _, _, _, _, ⟨c0, c1, c2, c3', c4'⟩, f0, f1, f2, f3, f4⟩ := hS11.cells
        obtain ⟨hw11, -, _, _, _, _, _, hx11⟩ := hS11o
        go_wp2_with fail
        refine bodyPost_ret (res_split (put5 hx11 _ _ _ _ _) rfl rfl rfl rfl rfl rfl) rfl ⟨?_, below_st5 hw11 (Nat.le_refl _) _ _ _ _ _⟩
        rw [HRE2.out]
        exact ⟨asl, c - P, by rw [List.length_drop]; rfl, HBS.out.below (below_st5 hw11 (Nat.le_refl _) _ _ _ _ _)⟩
end Go.Proofs.YtecnnlppinhmgaaGreatDoor.FrI
