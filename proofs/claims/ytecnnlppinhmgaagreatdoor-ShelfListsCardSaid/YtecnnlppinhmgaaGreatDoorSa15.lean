/-
  The walks of bollardref06's Blocks and Put. The walk of bollardref06's Put.
-/
import Derived.Test.YtecnnlppinhmgaaGreatDoorSa11
import Derived.Test.YtecnnlppinhmgaaGreatDoorSa14
import Derived.Deep.AppendLies
import Derived.Deep.RegionHeld3
namespace Go.Proofs.YtecnnlppinhmgaaGreatDoor.FrL
open Go.RowKit Go.Proofs.YtecnnlppinhmgaaGreatDoor Go.Proofs.YtecnnlppinhmgaaGreatDoor.HtW Go.Proofs.YtecnnlppinhmgaaGreatDoor.HtX Go.Proofs.YtecnnlppinhmgaaGreatDoor.App Go.Proofs.YtecnnlppinhmgaaGreatDoor.Sha Go.Proofs.YtecnnlppinhmgaaGreatDoor.ShaF Go.Proofs.YtecnnlppinhmgaaGreatDoor.FrA Go.Proofs.YtecnnlppinhmgaaGreatDoor.FrB Go.Proofs.YtecnnlppinhmgaaGreatDoor.FrC

/-- a shard's blocks -/
def Cs : Nat → List UInt8 → List (List UInt8)
  | 0, _ => []
  | g + 1, l => if l = [] then [] else l.take 32 :: Cs g (l.drop 32)
theorem Cs_len : ∀ (g : Nat) (l x : List UInt8), x ∈ Cs g l → x.length ≤ 32
  | 0, _, _, h => by simp [Cs] at h
  | g + 1, l, x, h => by
    unfold Cs at h
    split at h
    · simp at h
    · rcases List.mem_cons.1 h with rfl | h
      · exact List.length_take_le _ _
      · exact Cs_len g _ x h
theorem Cs_size : ∀ (g : Nat) (l : List UInt8), (Cs g l).length ≤ g
  | 0, _ => by simp [Cs]
  | g + 1, l => by
    unfold Cs
    split
    · simp
    · have := Cs_size g (l.drop 32); simp; omega
theorem blks_Cs : ∀ (g : Nat) (l : List UInt8), Fp.blks g l = ((Cs g l).map fun b => b ++ Sha.sha b).flatten
  | 0, _ => rfl
  | g + 1, l => by
    unfold Fp.blks Cs
    split
    · rfl
    · rw [List.map_cons, List.flatten_cons, ← blks_Cs g]
/-- a row of rows of bytes -/
def Cks (B0 : Nat) (w : World) (v : Value) (O : List (List UInt8)) : Prop :=
  ∃ xs, w.ownsRow B0 24 1 v O.length xs ∧ ∀ (j : Nat) x, O[j]? = some x → ∃ u, xs[j]? = some u ∧ Own B0 w u x
theorem Cks.below {B0 : Nat} {w w' : World} {v : Value} {O : List (List UInt8)} (h : Cks B0 w v O) (hb : Below w.heap.size w w') : Cks B0 w' v O := by
  obtain ⟨xs, h1, h2⟩ := h
  exact ⟨xs, Com.own_below h1 hb, fun j x hj => by obtain ⟨u, k1, k2⟩ := h2 j x hj; exact ⟨u, k1, k2.below hb⟩⟩
theorem own_grown {B : Nat} {w w' : World} {row : Option Nat} {v : Value} {l : List UInt8} (h : Own B w v l) (hg : w.grownBy w' row) (hr : ∀ r, row = some r → ∃ cur, w.heap[r]? = some (.cells cur 24 (0, 0))) : Own B w' v l := by
  obtain ⟨h1, h2⟩ := h
  refine ⟨h1, h2.imp id fun ⟨g, cap, cur, k1, k2, k3, k4⟩ => ⟨g, cap, cur, k1, k2, (hg.block g (Array.getElem?_eq_some_iff.1 k3).1 fun e => ?_).trans k3, k4⟩⟩
  obtain ⟨cur', hc⟩ := hr g e.symm
  rw [k3] at hc
  cases hc
theorem own_row {B e s n : Nat} {w : World} {v : Value} {xs : List Value} (h : w.ownsRow B e s v n xs) : ∀ r, v.ownBlock = some r → ∃ cur, w.heap[r]? = some (.cells cur e (0, 0)) := by
  obtain ⟨h1, h2⟩ := h
  intro r hr
  rcases h2 with ⟨rfl, -⟩ | ⟨g, cap, cur, rfl, k2, k3, k4⟩
  · cases hr
  · obtain rfl : g = r := by simpa [Value.ownBlock] using hr
    exact ⟨cur, k3⟩
theorem Cks.snoc {B0 : Nat} {w w' : World} {v v' u : Value} {O : List (List UInt8)} {xs : List Value} {x : List UInt8} (h1 : w.ownsRow B0 24 1 v O.length xs) (h2 : ∀ (j : Nat) x, O[j]? = some x → ∃ u, xs[j]? = some u ∧ Own B0 w u x) (hu : Own B0 w u x) (ho : w'.ownsRow B0 24 1 v' (O.length + 1) (xs ++ [u])) (hg : w.grownBy w' v.ownBlock) : Cks B0 w' v' (O ++ [x]) := by
  have hxl : xs.length = O.length := by have := h1.1; omega
  refine ⟨xs ++ [u], by rw [List.length_append]; exact ho, fun j y hj => ?_⟩
  rcases Nat.lt_or_ge j O.length with hlt | hge
  · rw [List.getElem?_append_left hlt] at hj
    obtain ⟨t, k1, k2⟩ := h2 j y hj
    exact ⟨t, by rw [List.getElem?_append_left (by omega)]; exact k1, own_grown k2 hg (own_row h1)⟩
  · have hj2 : j = O.length := by have := (List.getElem?_eq_some_iff.1 hj).1; simp at this; omega
    subst hj2
    rw [List.getElem?_append_right (Nat.le_refl _), Nat.sub_self] at hj
    cases hj
    exact ⟨u, by rw [List.getElem?_append_right (by omega), hxl, Nat.sub_self]; rfl, own_grown hu hg (own_row h1)⟩
theorem own_one {B : Nat} {w : World} {v : Value} {l : List UInt8} (h : Own B w v l) : v.oneCell' = true := by
  obtain ⟨a, c, rfl, -⟩ := h.bs
  rfl

set_option maxHeartbeats 2000000 in
set_option maxRecDepth 100000 in
theorem blocks (l : List UInt8) {a : Option Addr} (c : Nat) (w : World) (hb : Bs w a l c) (hl : l.length ≤ 4096) :
    Calls Tryz.prog 28 #[.slice a l.length c] w fun e w' => ∃ v, e = .returned v ∧ Cks w.heap.size w' v (Cs l.length l) ∧ Below w.heap.size w w' := by
  have HB := Lib.hid hb
  clear hb
  have infoS : (Tryz.prog.info? 24).map (fun i => (i.zero, i.size, i.bytes)) = some (some (.slice none 0 0), 1, 24) := by kernel_rfl
  obtain ⟨i0, hi, hz0, hz1, hz2⟩ := info_parts infoS
  have HI := Lib.hid hi
  have HZ0 := Lib.hid hz0
  have HZ1 := Lib.hid hz1
  have HZ2 := Lib.hid hz2
  clear infoS hi hz0 hz1 hz2
  go_enter Tryz.func28, Tryz.ntmps28
  go_wp2_with fail
  go_loopg [3, 4] l.length (fun g v3 v4 wr => ∃ (k : Nat) (O : List (List UInt8)), v4 = .int .i64 (k : Int) ∧ l.length ≤ k + g ∧ k ≤ l.length + 32 ∧ O.length + g ≤ l.length ∧ Hid (O ++ Cs g (l.drop k) = Cs l.length l) ∧ Hid (Cks w.heap.size wr v3 O) ∧ Hid (Below w.heap.size w wr))
  case atStart =>
    refine ⟨0, [], rfl, by omega, by omega, by simp, Lib.hid (by simp), ⟨[], ?_, fun j x h => by simp at h⟩, (Below.refl _ _).alloc (Nat.le_refl _) _⟩
    exact ⟨rfl, .inr ⟨w.heap.size, 0, _, rfl, Nat.le_refl _, heap_alloc_new _ _, Nat.le_refl _, by unfold maxLen; omega, rfl, rfl⟩⟩
  case round =>
    obtain ⟨k, O, rfl, hkg, hkl, hOg, HO, HC, HW⟩ := hrel
    by_cases hk : k < l.length
    · have e0 : decide ((k : Int) < (l.length : Int)) = true := decide_eq_true (by omega)
      obtain ⟨g, rfl⟩ : ∃ g, gk = g + 1 := ⟨gk - 1, by omega⟩
      obtain ⟨T1, hT1⟩ : ∃ T1, T1 = (l.drop k).take 32 := ⟨_, rfl⟩
      have hk1 : T1.length = min 32 (l.length - k) := by rw [hT1, List.length_take, List.length_drop]
      have hmin : (if (l.length : Int) < (k : Int) + 32 then (l.length : Int) else (k : Int) + 32) = (k : Int) + (T1.length : Int) := by split <;> omega
      have HO2 := Lib.hid (show (O ++ [T1]) ++ Cs g (l.drop (k + 32)) = Cs l.length l by
        rw [← HO.out, List.append_assoc]
        congr 1
        conv => rhs; unfold Cs
        rw [if_neg (fun h => by have := congrArg List.length h; rw [List.length_drop] at this; simp at this; omega), hT1, List.drop_drop]
        rfl)
      obtain ⟨a2, hsl2, hb2⟩ := Mid.mid (HB.out.below HW.out) k T1.length (by omega) (k : Int) ((k : Int) + (T1.length : Int)) rfl rfl
      have e2 : (l.drop k).take T1.length = T1 := by
        rw [hk1, hT1, ← List.length_drop, List.take_eq_take_iff]; simp
      rw [e2] at hb2
      have hT32 : T1.length ≤ 32 := by omega
      have HB2 := Lib.hid (hb2.below ((Below.refl wr.heap.size wr).alloc (Nat.le_refl _) (.cells #[] 5)))
      obtain ⟨xs, hx1, hx2⟩ := HC.out
      have HX1 := Lib.hid hx1
      have HX2 := Lib.hid hx2
      have HON := Lib.hid (own_nil wr.heap.size wr (Nat.le_refl _))
      have hz : ([] : List UInt8).length + T1.length ≤ 140737488355328 := by simp; omega
      clear hT1 hk1 e2 hb2 hx1 hx2
      go_wp2_with (first
        | (at_builtin; refine append_more _ rfl (.tmp 13) (.tmp 21) rfl wr.heap.size [] T1 HON.out a2 (c - k) HB2.out (by simp) hz rfl rfl ?_; rintro a6 c6 w6 n6 rfl o6 b6; rw [List.nil_append] at o6; have hd6 := True.intro; have HO6 := Lib.hid (show Own wr.heap.size w6 (.slice a6 T1.length c6) T1 from o6); have HW6 := Lib.hid (((Below.refl wr.heap.size wr).alloc (Nat.le_refl _) (.cells #[] 5)).trans b6); clear o6 b6)
        | (at_builtin; refine wpList_append_own _ rfl (.tmp 12) (.tmp 23) 61 rfl w.heap.size 24 i0 (.slice none 0 0) 1 24 Tryz.underlying61 HI.out HZ0.out HZ1.out HZ2.out rfl (by decide) _ O.length xs rfl (Com.own_below HX1.out (HW6.out.alloc HW6.out.size _)) ⟨w6.heap.size, 0, none⟩ 1 1 [.slice a6 T1.length c6] rfl rfl (Com.cells_new _ _ _) (by intro u hu; simp at hu; subst hu; rfl) (by unfold maxLen; omega) (by omega) (by have := HW6.out.size; have := HW.out.size; simp; omega) ?_; intro v8 w8 o8 g8 _))
      have hWA : Below wr.heap.size wr (w6.alloc (.cells #[.slice a6 T1.length c6] 24)) := HW6.out.alloc HW6.out.size _
      have hgB : Below w.heap.size (w6.alloc (.cells #[.slice a6 T1.length c6] 24)) w8 := (Below.refl _ _).grown g8 (by have := hWA.size; have := HW.out.size; omega) (fun q hq => (HX1.out.lt q hq).1)
      have hCK := Cks.snoc (Com.own_below HX1.out hWA) (fun j x hj => by obtain ⟨u, q1, q2⟩ := HX2.out j x hj; exact ⟨u, q1, q2.below hWA⟩) ((HO6.out.down HW.out.size).below ((Below.refl w6.heap.size w6).alloc (Nat.le_refl _) _)) o8 g8
      go_roundg g
      case measure => omega
      case rel => exact ⟨k + 32, O ++ [T1], by simp, by omega, by omega, by simp; omega, HO2.out, hCK, (HW.out.trans (hWA.mono HW.out.size)).trans hgB⟩
    · have e0 : decide ((k : Int) < (l.length : Int)) = false := decide_eq_false (by omega)
      have HO2 := Lib.hid (show O = Cs l.length l by
        rw [← HO.out, List.drop_eq_nil_of_le (by omega)]
        cases gk <;> simp [Cs])
      go_wp2_with fail
      go_ret
      exact ⟨_, rfl, HO2.out ▸ HC.out, HW.out⟩
end Go.Proofs.YtecnnlppinhmgaaGreatDoor.FrL
namespace Go.Proofs.YtecnnlppinhmgaaGreatDoor.FrM
open Go.RowKit Go.Proofs.YtecnnlppinhmgaaGreatDoor Go.Proofs.YtecnnlppinhmgaaGreatDoor.HtW Go.Proofs.YtecnnlppinhmgaaGreatDoor.HtX Go.Proofs.YtecnnlppinhmgaaGreatDoor.App Go.Proofs.YtecnnlppinhmgaaGreatDoor.Sha Go.Proofs.YtecnnlppinhmgaaGreatDoor.ShaA Go.Proofs.YtecnnlppinhmgaaGreatDoor.ShaB Go.Proofs.YtecnnlppinhmgaaGreatDoor.ShaC Go.Proofs.YtecnnlppinhmgaaGreatDoor.ShaF Go.Proofs.YtecnnlppinhmgaaGreatDoor.FrA Go.Proofs.YtecnnlppinhmgaaGreatDoor.FrB Go.Proofs.YtecnnlppinhmgaaGreatDoor.FrC Go.Proofs.YtecnnlppinhmgaaGreatDoor.FrL

/-- append of bytes onto a row of its own, at a step of a drawn region: the row's block is the old one or new -/
theorem step_append_by {ops : Array Oper} {o : Oper} {a : Act} {w : World} {K : Act → World → Prop} {Q : Exit → Act → World → Prop} {E : Prop} (hg : o.guard = none) (s x : Operand) (hop : o.op = Op.call { callee := Callee.builtin Builtin.append, args := #[s, x], argTypes := #[24, 24] })
    (base g cap : Nat) (l r : List UInt8) (nl nr : Nat) (hnl : nl = l.length) (hnr : nr = r.length) (hown : Own base w (.slice (some ⟨g, 0, none⟩) nl cap) l) (aR : Option Addr) (cR : Nat) (hB : Bs w aR r cR) (hr : r ≠ []) (hlen : l.length + r.length ≤ 140737488355328) (hbase : base ≤ w.heap.size)
    (hs : a.eval s = .slice (some ⟨g, 0, none⟩) nl cap) (hx : a.eval x = .slice aR nr cR)
    (hK : ∀ g' cap' w' n, n = (l ++ r).length → Own base w' (.slice (some ⟨g', 0, none⟩) n cap') (l ++ r) → w.grownBy w' (some g) → (g' = g ∨ g' = w.heap.size) → K (a.put o.dst (.slice (some ⟨g', 0, none⟩) n cap')) w') :
    if Region.wanted o (yielded ops a.tmps) = true then Oper.wp Tryz.prog o a w K Q else E := by
  subst hnl hnr
  obtain ⟨i0, hi, hz0, hz1, hz2⟩ := info_parts HtW.infoByte
  obtain ⟨p, rfl⟩ : ∃ p, aR = some p := by
    rcases hB.2.2 with h | ⟨b', o', h, _⟩
    · exact absurd h hr
    · exact ⟨_, h⟩
  have hr0 : 0 < r.length := List.length_pos_iff.2 hr
  refine Go.step_append_lies w hg s x 24 hop base 5 i0 _ 1 1 Tryz.underlying24 hi hz0 hz1 hz2 rfl (by decide) _ l.length (Lib.byteCells l) hs hown p r.length cR (Lib.byteCells r) hx (by rw [HtX.byteCells_length, Nat.mul_one]) hB.cells (byteCells_one r) hr0 (by unfold maxLen; omega) (by omega) hbase w.heap.size rfl ?_
  intro g' cap' w' h1 h2 h3 _
  rw [← List.length_append] at h1 ⊢
  rw [← byteCells_append] at h1
  refine hK g' cap' w' _ rfl h1 h2 ?_
  rcases h3 with h3 | h3
  · left; simpa [Value.ownBlock] using h3.symm
  · exact .inr h3
/-- append in a plain region, and what it turned -/
theorem append_grow {ops : Array Oper} {rest : List Oper} {o : Oper} {a : Act} {Q : Exit → Act → World → Prop} (w : World) (hg : o.guard = none) (s x : Operand) (hop : o.op = Op.call { callee := Callee.builtin Builtin.append, args := #[s, x], argTypes := #[24, 24] })
    (base : Nat) (l r : List UInt8) {v : Value} (hown : Own base w v l) (aR : Option Addr) (cR : Nat) (hB : Bs w aR r cR) (hbase : base ≤ w.heap.size) (hlen : l.length + r.length ≤ 140737488355328)
    (hs : a.eval s = v) (hx : a.eval x = .slice aR r.length cR)
    (hK : ∀ v' w', Own base w' v' (l ++ r) → w.grownBy w' v.ownBlock → Below base w w' → wpList Tryz.prog ops Q rest (a.put o.dst v') w') :
    wpList Tryz.prog ops Q (o :: rest) a w := by
  refine wpList_append_bytes w hg s x hop base _ l r hown aR cR hB hbase hlen hs hx ?_
  intro ar cr w' h1 h2 h3
  exact hK _ w' h1 h2 h3
theorem own_ints {B N : Nat} {w w' : World} {v : Value} {l : List UInt8} {C : Array Value} (h : Own B w v l) (hg : w.grownBy w' v.ownBlock) (hN : w.heap[N]? = some (.cells C 3 (0, 0))) : w'.heap[N]? = some (.cells C 3 (0, 0)) := by
  refine (hg.block N (Array.getElem?_eq_some_iff.1 hN).1 fun e => ?_).trans hN
  obtain ⟨cur, hc⟩ := own_row h N e.symm
  rw [hN] at hc
  cases hc
theorem own_keep {B g : Nat} {w w' : World} {v : Value} {l : List UInt8} (h : Own B w v l) (hk : Dw.Keep [g] w w') (hB : g < B) : Own B w' v l := by
  obtain ⟨h1, h2⟩ := h
  exact ⟨h1, h2.imp id fun ⟨r, cap, cur, k1, k2, k3, k4⟩ => ⟨r, cap, cur, k1, k2, (hk.block r (Array.getElem?_eq_some_iff.1 k3).1 (by simp; omega)).trans k3, k4⟩⟩
theorem keep_grown {l : List Nat} {a b c : World} {row : Option Nat} (h : Dw.Keep l a b) (hg : b.grownBy c row) (hr : ∀ k, row = some k → k ∈ l ∨ a.heap.size ≤ k) : Dw.Keep l a c :=
  ⟨hg.os.trans h.os, hg.tape.trans h.tape, hg.output.trans h.output, Nat.le_trans h.size hg.size, fun i hi hn => (hg.block i (Nat.lt_of_lt_of_le hi h.size) fun e => by
    rcases hr i e.symm with k | k
    · exact hn k
    · omega).trans (h.block i hi hn)⟩
theorem bs_grown {w w' : World} {a : Option Addr} {l : List UInt8} {c g : Nat} (h : Bs w a l c) (hg : w.grownBy w' (some g)) (ha : ∀ q, a = some q → q.block ≠ g) : Bs w' a l c := by
  refine ⟨h.1, h.2.1, h.2.2.imp id fun ⟨b, o, k1, k2, k3⟩ => ⟨b, o, k1, Nat.lt_of_lt_of_le k2 hg.size, fun j x hj => hg.cell (k3 j x hj) fun e => ?_⟩⟩
  cases e
  exact ha _ k1 rfl
theorem own_form {B : Nat} {w : World} {v : Value} {l : List UInt8} (h : Own B w v l) (hl : l ≠ []) : ∃ g cap, v = .slice (some ⟨g, 0, none⟩) l.length cap ∧ B ≤ g ∧ g < w.heap.size := by
  rcases h.2 with ⟨-, h0⟩ | ⟨g, cap, cur, k1, k2, k3, -⟩
  · exact absurd (List.length_eq_zero_iff.1 h0) hl
  · exact ⟨g, cap, k1, k2, (Array.getElem?_eq_some_iff.1 k3).1⟩
theorem row_form {B n : Nat} {e : TypeId} {w : World} {v : Value} {xs : List Value} (h : w.ownsRow B e 1 v n xs) : ∃ a c, v = .slice a n c ∧ ∀ (j : Nat) u, xs[j]? = some u → ∃ g, a = some ⟨g, 0, none⟩ ∧ B ≤ g ∧ g < w.heap.size ∧ w.cell? ⟨g, j, none⟩ = some u := by
  rcases h.2 with ⟨rfl, rfl⟩ | ⟨g, cap, cur, rfl, k2, k3, -⟩
  · have h1 : xs = [] := List.length_eq_zero_iff.1 (by have := h.1; omega)
    exact ⟨none, 0, rfl, fun j u hj => by rw [h1] at hj; simp at hj⟩
  · refine ⟨_, _, rfl, fun j u hj => ⟨g, rfl, k2, (Array.getElem?_eq_some_iff.1 k3).1, ?_⟩⟩
    have := h.cells (g := g) rfl j u hj
    by_cases h0 : j = 0
    · subst h0; simpa [Addr.add] using this
    · simpa [Addr.add, h0] using this
theorem Cs_ne : ∀ (g : Nat) (l x : List UInt8), x ∈ Cs g l → x ≠ []
  | 0, _, _, h => by simp [Cs] at h
  | g + 1, l, x, h => by
    unfold Cs at h
    split at h
    · simp at h
    · rename_i hl
      rcases List.mem_cons.1 h with rfl | h
      · cases l with
        | nil => exact absurd rfl hl
        | cons a t => simp
      · exact Cs_ne g _ x h
theorem head_eq (s : Fp.Stamp) (n : Nat) : Fp.headOf s n = [1] ++ ([s.node, s.boot, s.seq, s.shard, s.size, n].map Fp.enc).flatten := by
  simp [Fp.headOf]
theorem six {l : List Nat} {j : Nat} (hl : l.length = 6) (hj : j < 6) : ∃ x, l[j]? = some x := ⟨_, List.getElem?_eq_getElem (by omega)⟩
theorem enc_list_len (l : List Nat) : ((l.map Fp.enc).flatten).length ≤ 9 * l.length := by
  induction l with
  | nil => simp
  | cons x t ih => have := (Fp.enc_len x).2; simp at ih ⊢; omega

set_option maxHeartbeats 4000000 in
set_option maxRecDepth 100000 in
theorem put (s : Fp.Stamp) (l : List UInt8) {a : Option Addr} (c : Nat) (w : World) (hb : Bs w a l c) (hl : l.length ≤ 1024) (hs : ∀ x ∈ [s.node, s.boot, s.seq, s.shard, s.size], x < 9223372036854775808) :
    Calls Tryz.prog 10 #[.agg (FrG.sc s), .slice a l.length c] w fun e w' => ∃ v, e = .returned v ∧ Own w.heap.size w' v (Fp.put s l) ∧ Below w.heap.size w w' := by
  have HB := Lib.hid hb
  have HS := Lib.hid hs
  clear hb hs
  obtain ⟨w1, hw1, hb1, hx1⟩ : ∃ w1, w1 = w.alloc (.cells (FrG.sc s) 34) ∧ Below w.heap.size w w1 ∧ w1.heap[w.heap.size]? = some (.cells (FrG.sc s) 34 (0, 0)) := ⟨_, rfl, (Below.refl _ _).alloc (Nat.le_refl _) _, heap_alloc_new _ _⟩
  have hz1 : w.heap.size < w1.heap.size := (Array.getElem?_eq_some_iff.1 hx1).1
  go_enter Tryz.func10, Tryz.ntmps10
  go_upto_region 1 with fail
  rw [← hw1]
  clear hw1
  obtain ⟨w2, hw2, hb2, hx2⟩ : ∃ w2, w2 = w1.alloc (.cells #[.int .u8 1] 5) ∧ Below w1.heap.size w1 w2 ∧ Own w.heap.size w2 (.slice (some ⟨w1.heap.size, 0, none⟩) 1 1) [1] := by
    refine ⟨_, rfl, (Below.refl _ _).alloc (Nat.le_refl _) _, rfl, .inr ⟨w1.heap.size, 1, _, rfl, Nat.le_of_lt hz1, heap_alloc_new _ _, Nat.le_refl _, by unfold maxLen; omega, rfl, rfl⟩⟩
  have hx21 := (hb2.block _ hz1).trans hx1
  go_upto_region 2 with fail
  rw [← hw2]
  clear hw2 hx1
  have c0 : w2.cell? ⟨w.heap.size, 0, none⟩ = some (.int .i64 (s.node : Int)) := by rw [Lib.cell_of_heap hx21]; rfl
  have c1 : w2.cell? ⟨w.heap.size, 1, none⟩ = some (.int .i64 (s.boot : Int)) := by rw [Lib.cell_of_heap hx21]; rfl
  have c2 : w2.cell? ⟨w.heap.size, 2, none⟩ = some (.int .i64 (s.seq : Int)) := by rw [Lib.cell_of_heap hx21]; rfl
  have c3 : w2.cell? ⟨w.heap.size, 3, none⟩ = some (.int .i64 (s.shard : Int)) := by rw [Lib.cell_of_heap hx21]; rfl
  have c4 : w2.cell? ⟨w.heap.size, 4, none⟩ = some (.int .i64 (s.size : Int)) := by rw [Lib.cell_of_heap hx21]; rfl
  obtain ⟨ns, hns⟩ : ∃ ns : List Nat, ns = [s.node, s.boot, s.seq, s.shard, s.size, l.length] := ⟨_, rfl⟩
  have hn6 : ns.length = 6 := by rw [hns]; rfl
  have hnb : ∀ x ∈ ns, x < 9223372036854775808 := by
    intro x hx
    rw [hns] at hx
    rcases List.mem_append.1 (show x ∈ [s.node, s.boot, s.seq, s.shard, s.size] ++ [l.length] from hx) with h | h
    · exact HS.out x h
    · rw [List.mem_singleton.1 h]; omega
  obtain ⟨C6, hC6⟩ : ∃ C6, C6 = #[Value.int .i64 (s.node : Int), .int .i64 (s.boot : Int), .int .i64 (s.seq : Int), .int .i64 (s.shard : Int), .int .i64 (s.size : Int), .int .i64 (l.length : Int)] := ⟨_, rfl⟩
  obtain ⟨w3, hw3, hb3, hx3⟩ : ∃ w3, w3 = w2.alloc (.cells #[.int .i64 (s.node : Int), .int .i64 (s.boot : Int), .int .i64 (s.seq : Int), .int .i64 (s.shard : Int), .int .i64 (s.size : Int), .int .i64 (l.length : Int)] 3) ∧ Below w2.heap.size w2 w3 ∧ w3.heap[w2.heap.size]? = some (.cells C6 3 (0, 0)) := ⟨_, rfl, (Below.refl _ _).alloc (Nat.le_refl _) _, by rw [hC6]; exact heap_alloc_new _ _⟩
  have hcj : ∀ (j : Nat) x, ns[j]? = some x → C6[j]? = some (.int .i64 (x : Int)) := by
    intro j x hj
    rw [hns] at hj
    rw [hC6]
    match j, hj with
    | 0, h => cases h; rfl
    | 1, h => cases h; rfl
    | 2, h => cases h; rfl
    | 3, h => cases h; rfl
    | 4, h => cases h; rfl
    | 5, h => cases h; rfl
    | n + 6, h => simp at h
  have HCJ := Lib.hid hcj
  have HX3 := Lib.hid hx3
  have HNS := Lib.hid hns
  have HNB := Lib.hid hnb
  have HN6 := Lib.hid hn6
  have HO3 := Lib.hid (hx2.below hb3)
  have HW3 := Lib.hid ((hb1.trans (hb2.mono hb1.size)).trans (hb3.mono (Nat.le_trans hb1.size hb2.size)))
  have hz3 : w2.heap.size < w3.heap.size := (Array.getElem?_eq_some_iff.1 hx3).1
  have hzw : w.heap.size < w2.heap.size := by have := hb2.size; omega
  clear hC6
  go_wp2_with fail
  rw [← hw3]
  clear hw3 hb3 hx3 hcj hns hnb hn6 hx2 hx21 c0 c1 c2 c3 c4 hb1 hb2
  obtain ⟨N2, hN2⟩ : ∃ N2, N2 = w2.heap.size := ⟨_, rfl⟩
  rw [← hN2] at HX3 hz3 hzw ⊢
  clear hN2
  go_loopg [5, 30] 6 (fun g v5 v30 wr => ∃ (j : Nat) (A : List UInt8), j + g = 6 ∧ v30 = .int .i64 (j : Int) ∧ A.length ≤ 1 + 9 * j ∧ Hid (A ++ ((ns.drop j).map Fp.enc).flatten = Fp.headOf s l.length) ∧ Hid (Own w.heap.size wr v5 A) ∧ Hid (wr.heap[N2]? = some (.cells C6 3 (0, 0))) ∧ Hid (Below w.heap.size w3 wr))
  case atStart => exact ⟨0, [1], rfl, rfl, by simp, Lib.hid (by rw [head_eq, HNS.out]; rfl), HO3.out, HX3.out, Below.refl _ _⟩
  case round =>
    obtain ⟨j, A, hjg, rfl, hAl, HA, HO, HX, HW⟩ := hrel
    have HG := Lib.hid hjg
    clear hjg
    by_cases hj : j < 6
    · have e0 : decide ((j : Int) < 6) = true := decide_eq_true (by omega)
      have e1 : ((j : Int) < 6) := by omega
      obtain ⟨x, hx⟩ := six HN6.out hj
      have hxb : x < 9223372036854775808 := HNB.out x (List.mem_of_getElem? hx)
      have q0 : wr.cell? ⟨N2, j, none⟩ = some (.int .i64 (x : Int)) := by rw [Lib.cell_of_heap HX.out]; exact HCJ.out j x hx
      have hdr : ns.drop j = x :: ns.drop (j + 1) := by
        rw [List.drop_eq_getElem_cons (by have := HN6.out; omega)]
        congr 1
        exact (List.getElem?_eq_some_iff.1 hx).2
      have HA2 := Lib.hid (show (A ++ Fp.enc x) ++ ((ns.drop (j + 1)).map Fp.enc).flatten = Fp.headOf s l.length by
        rw [← HA.out, hdr, List.map_cons, List.flatten_cons, List.append_assoc])
      have KN := Lib.hid (num x wr hxb)
      have hex := (Fp.enc_len x).2
      clear hdr hx hxb
      go_wp2_with (first
        | (go_at_call 25; refine KN.out.mono ?_; rintro e w5 ⟨u5, rfl, ho5, hb5⟩; obtain ⟨a5, c5, rfl, hB5⟩ := ho5.bs; have HO5 := Lib.hid (HO.out.below hb5); have HX5 := Lib.hid ((hb5.block _ (Array.getElem?_eq_some_iff.1 HX.out).1).trans HX.out); have HW5 := Lib.hid (HW.out.trans (hb5.mono (by have := HW.out.size; have := HW3.out.size; omega))); have HB5 := Lib.hid hB5; clear ho5 hb5 hB5)
        | (at_builtin; refine append_grow _ rfl (.tmp 34) (.tmp 36) rfl w.heap.size A (Fp.enc x) HO5.out a5 c5 HB5.out (by have := HW5.out.size; have := HW3.out.size; omega) (by omega) rfl rfl ?_; intro v6 w6 o6 g6 b6))
      go_roundg (6 - (j + 1))
      case measure => have := HG.out; omega
      case rel => exact ⟨j + 1, A ++ Fp.enc x, by omega, by go_num, by simp; omega, HA2.out, o6, own_ints HO5.out g6 HX5.out, HW5.out.trans b6⟩
    · obtain rfl : j = 6 := by have := HG.out; omega
      have e0 : decide (((6 : Nat) : Int) < 6) = false := rfl
      have hAh : A = Fp.headOf s l.length := by
        rw [← HA.out, List.drop_eq_nil_of_le (by have := HN6.out; omega)]; simp
      obtain ⟨a5, c5, rfl, hB5⟩ := HO.out.bs
      obtain ⟨q, hq⟩ : ∃ q, q = Fp.sealB A := ⟨_, rfl⟩
      have hql : q.length = A.length + 4 := by rw [hq, Fp.sealB]; simp [Sha.bytes4]
      have HQ := Lib.hid (show Fp.put s l = Fp.enc q.length ++ q ++ ((Cs l.length l).map fun b => b ++ sha b).flatten by
        rw [← blks_Cs, Fp.put, hq, hAh, List.append_assoc])
      have KS := Lib.hid (sealR A c5 wr hB5 (by omega))
      rw [← hq] at KS
      have hqp : Fp.enc q.length ++ q ≠ [] := fun h => by have h1 := congrArg List.length h; rw [List.length_append, List.length_nil] at h1; have := (Fp.enc_len q.length).1; omega
      have hqq : (Fp.enc q.length ++ q).length ≤ 100 := by have := (Fp.enc_len q.length).2; simp; omega
      have hqs : q.length ≤ 140737488351232 := by omega
      have HWr := Lib.hid (HW3.out.trans (HW.out.mono (Nat.le_refl _)))
      clear hAh hB5 hq hql hj
      go_wp2_with (first
        | (go_at_call 27; go_loud (refine KS.out.mono ?_; rintro e w7 ⟨u7, rfl, ho7, hb7⟩; obtain ⟨a7, c7, rfl, hB7⟩ := ho7.bs; have KB := Lib.hid (FrC.bytes q c7 w7 hB7 hqs); have HW7 := Lib.hid (HWr.out.trans (hb7.mono HWr.out.size)); clear ho7 hb7 hB7))
        | (go_at_call 26; refine KB.out.mono ?_; rintro e w8 ⟨u8, rfl, ho8, hb8⟩; obtain ⟨g8, c8, rfl, hg8, hz8⟩ := own_form ho8 hqp; have HW8 := Lib.hid (HW7.out.trans (hb8.mono HW7.out.size)); have HO8 := Lib.hid (ho8.down HW7.out.size); have KK := Lib.hid (blocks l c w8 (HB.out.below HW8.out) (by omega)); clear ho8 hb8)
        | (go_at_call 28; refine KK.out.mono ?_; rintro e w9 ⟨u9, rfl, ⟨xs, hr9, hx9⟩, hb9⟩; obtain ⟨a9, c9, rfl, hc9⟩ := row_form hr9))
      have hOs := Cs_size l.length l
      have HOL := Lib.hid (Cs_len l.length l)
      have HON := Lib.hid (Cs_ne l.length l)
      obtain ⟨O, hO⟩ : ∃ O, O = Cs l.length l := ⟨_, rfl⟩
      rw [← hO] at HQ hr9 hx9 hOs HOL HON ⊢
      have HW9 := Lib.hid (HW8.out.trans (hb9.mono HW8.out.size))
      have HO9 := Lib.hid (HO8.out.below hb9)
      have hz9 : w8.heap.size ≤ w9.heap.size := hb9.size
      have HC9 := Lib.hid hc9
      have HX9 := Lib.hid hx9
      clear hO hr9 hx9 hb9 hc9 KS KB KK HA HO HX HW hg8
      go_loopg [8, 45] O.length (fun g v8 v45 wr => ∃ (j g' cap' : Nat) (A : List UInt8), j + g = O.length ∧ v45 = .int .i64 (j : Int) ∧ v8 = .slice (some ⟨g', 0, none⟩) A.length cap' ∧ A.length ≤ 100 + 64 * j ∧ Hid (A ++ ((O.drop j).map fun b => b ++ sha b).flatten = Fp.put s l) ∧ (g' = g8 ∨ w9.heap.size ≤ g') ∧ Hid (Own w.heap.size wr (.slice (some ⟨g', 0, none⟩) A.length cap') A) ∧ Hid (Dw.Keep [g8] w9 wr) ∧ Hid (Below w.heap.size w wr))
      case atStart => exact ⟨0, g8, c8, Fp.enc q.length ++ q, by omega, rfl, by rw [List.length_append], by omega, Lib.hid (by rw [HQ.out]; rfl), .inl rfl, HO9.out, Dw.Keep.refl _ _, HW9.out⟩
      case round =>
        obtain ⟨j, g', cap', A2, hjg, rfl, rfl, hAl2, HA2, hg', HO2, HK2, HW2⟩ := hrel
        have HG2 := Lib.hid hjg
        clear hjg
        by_cases hj : j < O.length
        · have e0 : decide ((j : Int) < (O.length : Int)) = true := decide_eq_true (by omega)
          have hjO : (j : Int) < (O.length : Int) := by omega
          obtain ⟨b, hb⟩ : ∃ b, O[j]? = some b := ⟨_, List.getElem?_eq_getElem hj⟩
          obtain ⟨u, hu1, hu2⟩ := HX9.out j b hb
          obtain ⟨r9, rfl, hr1, hr2, hr3⟩ := HC9.out j u hu1
          have hbm := List.mem_of_getElem? hb
          have hbl : b.length ≤ 32 := HOL.out b hbm
          have hbn : b ≠ [] := HON.out b hbm
          obtain ⟨ab, cb, rfl, hBb⟩ := (own_keep hu2 HK2.out hz8).bs
          have q0 : wr.cell? ⟨r9, j, none⟩ = some (.slice ab b.length cb) := (HK2.out.cell (p := ⟨r9, j, none⟩) hr2 (by simp; omega)).trans hr3
          have hdr : O.drop j = b :: O.drop (j + 1) := by
            rw [List.drop_eq_getElem_cons hj]
            congr 1
            exact (List.getElem?_eq_some_iff.1 hb).2
          have HA3 := Lib.hid (show ((A2 ++ b) ++ sha b) ++ ((O.drop (j + 1)).map fun b => b ++ sha b).flatten = Fp.put s l by
            rw [← HA2.out, hdr, List.map_cons, List.flatten_cons]; simp)
          have KR := Lib.hid (RsB.sum b cb wr hBb (by omega))
          have HBb := Lib.hid hBb
          have HBN := Lib.hid hbn
          have hs32 : (bcells (sha b)).size = 32 := by rw [bcells_size, sha_length]
          have HI33 := Lib.hid ((show (Tryz.prog.info? 63).map (·.size) = some 32 by kernel_rfl).trans (congrArg some hs32.symm))
          have HS32 := Lib.hid hs32
          have HSN := Lib.hid (show sha b ≠ [] from fun h => by have := congrArg List.length h; rw [sha_length] at this; simp at this)
          clear hb hu1 hu2 hr3 hbm hbn hdr hBb hs32
          go_upto_region 12 with (first
            | (go_at_call 29; refine KR.out.mono ?_; rintro e w5 ⟨rfl, hb5⟩)
            | (guard_target =~ wpList _ _ _ ({ dst := _, op := Op.store 63 _ _, type := _, pos := _, after := _, guard := none } :: _) _ _; refine wpList_store_row rfl 63 _ _ rfl _ (bcells (sha b)) rfl rfl _ _ (heap_alloc_new _ _) HI33.out (Eq.trans rfl HS32.out.symm) (bcells_one _) ?_; refine FrJ.lay32 rfl ?_; intro w6 hV6 hb6))
          have hWw6 : Below wr.heap.size wr w6 := hb5.trans (hb6.mono hb5.size)
          have hgl : g' < wr.heap.size := (HO2.out.lt g' rfl).2
          obtain ⟨N6, hN6⟩ : ∃ N6, N6 = w5.heap.size := ⟨_, rfl⟩
          have hN6g : wr.heap.size ≤ N6 := hN6 ▸ hb5.size
          rw [← hN6] at hV6 ⊢
          rw [sha_length] at hV6
          have HO6 := Lib.hid ((HO2.out.below hWw6).below (Below.refl _ _).drew)
          have HB6 := Lib.hid ((HBb.out.below hWw6).below (Below.refl _ _).drew)
          have HV6 := Lib.hid (hV6.below (Below.refl _ _).drew)
          have HWA := Lib.hid hWw6
          have HA2l := Lib.hid hAl2
          have h6w : w.heap.size ≤ w6.drew.heap.size := Nat.le_trans HW2.out.size hWw6.size
          clear hV6 hb5 hb6 hN6 hWw6 KR
          go_region_held3 (fun _ => True)
            (first | trivial | go_keep)
            (first
              | (have hd8 := hd7; refine step_append_by rfl (.tmp 53) (.tmp 54) rfl w.heap.size g7 cap7 (A2 ++ b) (sha b) n7 32 HN7.out (sha_length b).symm ho7 (some ⟨N6, 0, none⟩) 32 (bs_grown HV6.out hg7 (by rintro q ⟨⟩; show N6 ≠ g'; omega)) HSN.out (by rw [List.length_append, sha_length]; have := HA2l.out; omega) (Nat.le_trans h6w hg7.size) rfl rfl ?_; intro g9 cap9 w9' n9 hn9 ho9 hg9 hl9; have HN9 := Lib.hid hn9; clear hn9)
              | (refine step_append_by rfl (.tmp 51) (.tmp 52) rfl w.heap.size g' cap' A2 b _ _ rfl rfl HO6.out ab cb HB6.out HBN.out (by have := HA2l.out; omega) h6w rfl rfl ?_; intro g7 cap7 w7' n7 hn7 ho7 hg7 hl7; have hd7 := True.intro; have HN7 := Lib.hid hn7; clear hn7))
          all_goals
            have hs9 := HK2.out.size
            have hs6 : wr.heap.size ≤ w6.drew.heap.size := HWA.out.size
            have hs7 := hg7.size
            have K6 : Dw.Keep [g8] w9 w6.drew := (HK2.out.trans (Dw.Keep.of_below HWA.out _)).drew
            have K7 := keep_grown K6 hg7 (fun k hk => by
              cases hk
              rcases hg' with h | h
              · exact .inl (List.mem_singleton.2 h)
              · exact .inr h)
            have h7 : g7 = g8 ∨ w9.heap.size ≤ g7 := by omega
            have K9 := keep_grown K7 hg9 (fun k hk => by
              cases hk
              rcases h7 with h | h
              · exact .inl (List.mem_singleton.2 h)
              · exact .inr h)
            have h9 : g9 = g8 ∨ w9.heap.size ≤ g9 := by omega
            have B7 : Below w.heap.size w w7' := (HW2.out.trans (HWA.out.mono HW2.out.size)).drew.grown hg7 h6w (fun k hk => by cases hk; exact (HO2.out.lt g' rfl).1)
            have B9 : Below w.heap.size w w9' := B7.grown hg9 B7.size (fun k hk => by cases hk; exact (ho7.lt g7 rfl).1)
            have HB9 := Lib.hid B9
            have HK9 := Lib.hid K9
            have HO9' := Lib.hid ho9
            clear hg7 hg9 ho7 ho9 K6 K7 K9 B7 B9 hs9 hs6 hs7
            go_wp2_with fail
            go_roundg (O.length - (j + 1))
            case measure => have := HG2.out; omega
            case rel => exact ⟨j + 1, g9, cap9, A2 ++ b ++ sha b, by have := HG2.out; omega, by go_num, by rw [HN9.out], by rw [List.length_append, List.length_append, sha_length]; omega, HA3.out, h9, Lib.hid (by rw [← HN9.out]; exact HO9'.out), HK9.out, HB9.out⟩
        · obtain rfl : j = O.length := by have := HG2.out; omega
          have e0 : decide ((O.length : Int) < (O.length : Int)) = false := decide_eq_false (by omega)
          have HA3 := Lib.hid (show A2 = Fp.put s l by rw [← HA2.out, List.drop_length]; simp)
          clear hj
          go_wp2_with fail
          go_ret
          exact ⟨_, rfl, HA3.out ▸ HO2.out, HW2.out⟩
end Go.Proofs.YtecnnlppinhmgaaGreatDoor.FrM
