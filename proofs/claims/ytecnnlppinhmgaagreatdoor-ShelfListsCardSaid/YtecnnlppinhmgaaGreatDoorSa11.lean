/-
  Package frame's split, joined; the walk of its Get. The walks of bollardref06's GoodId and package shelf's good. Plain: the document's way to a digest, step by step, is the program's.
-/
import Derived.Test.YtecnnlppinhmgaaGreatDoorSa03
import Derived.Test.YtecnnlppinhmgaaGreatDoorSa04
import Derived.Test.YtecnnlppinhmgaaGreatDoorSa06
import Derived.Test.YtecnnlppinhmgaaGreatDoorSa10
namespace Go.Proofs.YtecnnlppinhmgaaGreatDoor.FrJ
open Go.RowKit Go.Proofs.YtecnnlppinhmgaaGreatDoor Go.Proofs.YtecnnlppinhmgaaGreatDoor.HtW Go.Proofs.YtecnnlppinhmgaaGreatDoor.HtX Go.Proofs.YtecnnlppinhmgaaGreatDoor.App Go.Proofs.YtecnnlppinhmgaaGreatDoor.Sha Go.Proofs.YtecnnlppinhmgaaGreatDoor.ShaA Go.Proofs.YtecnnlppinhmgaaGreatDoor.ShaB Go.Proofs.YtecnnlppinhmgaaGreatDoor.ShaC Go.Proofs.YtecnnlppinhmgaaGreatDoor.ShaF Go.Proofs.YtecnnlppinhmgaaGreatDoor.FrA Go.Proofs.YtecnnlppinhmgaaGreatDoor.FrC Go.Proofs.YtecnnlppinhmgaaGreatDoor.FrD Go.Proofs.YtecnnlppinhmgaaGreatDoor.FrE Go.Proofs.YtecnnlppinhmgaaGreatDoor.FrF Go.Proofs.YtecnnlppinhmgaaGreatDoor.FrG Go.Proofs.YtecnnlppinhmgaaGreatDoor.FrH Go.Proofs.YtecnnlppinhmgaaGreatDoor.FrI

theorem openB_len {l o : List UInt8} (h : Fp.openB l = .ok o) : o.length ≤ l.length := by
  unfold Fp.openB at h
  split at h
  · cases h
  split at h
  · cases h; simp
  · cases h
theorem split_ok {f r : List UInt8} {s : Fp.Stamp} {n : Nat} (h : Fp.split f = .ok (s, n, r)) : n ≤ 1024 ∧ s.fits ∧ r.length ≤ f.length := by
  unfold Fp.split at h
  split at h
  · cases h
  split at h
  · cases h
  split at h
  · cases h
  split at h
  · cases h
  unfold Fp.ofNums at h
  split at h
  · split at h
    · rename_i hh; cases h; exact ⟨hh.2.2.2, hh.2.2.1, by simp⟩
    · cases h
  · cases h
set_option maxRecDepth 100000 in
theorem split (l : List UInt8) {a : Option Addr} (c : Nat) (w : World) {aB aD : Addr} (hE : Ev w aB aD) (hb : Bs w a l c) (hl : l.length ≤ 140737488351232) :
    Calls Tryz.prog 51 #[.slice a l.length c] w fun e w' => SPost aB aD w' (Fp.split l) e ∧ Below w.heap.size w w' := by
  unfold Fp.split
  cases hr : Fp.rd l with
  | none =>
    refine (split_short l c w hE hb hl (fun n m h => by rw [hr] at h; cases h)).mono ?_
    rintro e w' ⟨rfl, h⟩
    exact ⟨rfl, h⟩
  | some x =>
    obtain ⟨n, m⟩ := x
    obtain ⟨k1, k2, k3⟩ := rd_le hr
    dsimp only
    by_cases hc : 256 < n ∨ l.length - m < n
    · rw [if_pos hc]
      refine (split_short l c w hE hb hl (fun n' m' h => ?_)).mono ?_
      · rw [hr] at h; cases h; rcases hc with h | h
        · exact .inl h
        · right; omega
      rintro e w' ⟨rfl, h⟩
      exact ⟨rfl, h⟩
    rw [if_neg hc]
    have hn : n ≤ 256 := by omega
    have hm : m + n ≤ l.length := by omega
    cases ho : Fp.openB ((l.drop m).take n) with
    | error k =>
      refine (split_shut l c w hE hb hl n m k hr hn hm ho).mono ?_
      rintro e w' ⟨rfl, h⟩
      exact ⟨rfl, h⟩
    | ok o =>
      exact split_open l o c w hE hb hl n m hr hn hm ho (Nat.le_trans (openB_len ho) (Nat.le_trans (List.length_take_le _ _) hn))

/-- what Get answers -/
def GPost (aB aD : Addr) (w' : World) : Except Nat (Fp.Stamp × List UInt8) → Ending → Prop
  | .error k, e => e = .returned (.tuple #[.agg sc0, .slice none 0 0, Err.ev (if k = 4 then aB else aD)])
  | .ok (s, d), e => ∃ a' c', e = .returned (.tuple #[.agg (sc s), .slice a' d.length c', .nilIface]) ∧ Bs w' a' d c'
def total (A : List UInt8) : Except Nat (List UInt8) → Except Nat (List UInt8)
  | .error k => .error k
  | .ok l => .ok (A ++ l)
theorem total_nil (e : Except Nat (List UInt8)) : total [] e = e := by cases e <;> rfl
theorem total_body (A : List UInt8) {g m : Nat} {R : List UInt8} (hm : m ≠ 0) :
    total A (Fp.body (g + 1) m R) = if Sha.sha (R.take (min m 32)) = (R.drop (min m 32)).take 32 then total (A ++ R.take (min m 32)) (Fp.body g (m - min m 32) (R.drop (min m 32 + 32))) else .error 5 := by
  rw [Fp.body, if_neg hm]
  split
  · cases Fp.body g (m - min m 32) (R.drop (min m 32 + 32)) with
    | error k => rfl
    | ok l => simp [total]
  · rfl

set_option maxHeartbeats 4000000 in
set_option maxRecDepth 100000 in
theorem get_no (l : List UInt8) {a : Option Addr} (c : Nat) (w : World) {aB aD : Addr} (hE : Ev w aB aD) (hb : Bs w a l c) (hl : l.length ≤ 140737488351232) (k : Nat) (hs : Fp.split l = .error k) :
    Calls Tryz.prog 30 #[.slice a l.length c] w fun e w' => e = .returned (.tuple #[.agg sc0, .slice none 0 0, Err.ev (if k = 4 then aB else aD)]) ∧ Below w.heap.size w w' := by
  obtain ⟨w1, hw1, hS1⟩ : ∃ w1, w1 = w.alloc (.cells sc0 34) ∧ Sp w w1 := ⟨_, rfl, (Below.refl _ _).alloc (Nat.le_refl _) _, heap_alloc_new _ _⟩
  have KS := Lib.hid (split l c w1 (hE.below hS1.bel) (hb.below hS1.bel) hl)
  rw [hs] at KS
  have HS1 := Lib.hid hS1
  obtain ⟨er, her⟩ : ∃ er, er = Err.ev (if k = 4 then aB else aD) := ⟨_, rfl⟩
  have HER := Lib.hid her
  rw [← her]
  have hnn : ∃ x, er = Err.ev x := ⟨_, her⟩
  clear her hs hS1
  obtain ⟨ax, rfl⟩ := hnn
  go_enter Tryz.func30, Tryz.ntmps30
  go_upto_region 1 with fail
  rw [← hw1]
  clear hw1
  go_wp2_with (first
    | (go_at_call 51; refine KS.out.mono ?_; rintro e w2 ⟨he, hb2⟩; obtain rfl : e = .returned (.tuple #[.agg sc0, .int .i64 0, .slice none 0 0, Err.ev ax]) := (he.trans (by rw [HER.out])); have hS2 := (HS1.out.below hb2).below ((Below.refl w2.heap.size w2).alloc (Nat.le_refl _) (.cells sc0 34)); obtain ⟨⟨c0, c1, c2, c3, c4⟩, f0, f1, f2, f3, f4⟩ := hS2.cells))
  refine bodyPost_ret (res_get (put5 hS2.box _ _ _ _ _) rfl rfl rfl rfl rfl) rfl ⟨rfl, below_st5 hS2.bel (Nat.le_refl _) _ _ _ _ _⟩

theorem own_st5 {base B : Nat} {w : World} {v : Value} {l : List UInt8} (h : Own base w v l) (hB : B < base) (x y z u t : Value) : Own base (st5 w B x y z u t) v l := by
  obtain ⟨h1, h2⟩ := h
  refine ⟨h1, h2.imp id fun ⟨g, cap, cur, k1, k2, k3, k4⟩ => ⟨g, cap, cur, k1, k2, Eq.trans ?_ k3, k4⟩⟩
  simp only [st5]
  iterate 5 rw [Below.heap_setCell _ _ _ _ (fun h => absurd h (show g ≠ B by omega))]
theorem below_after {B : Nat} {w4 w6 w7 : World} (h : Below B w4 w6) (hB : B = w4.heap.size) (hb7 : Below w6.drew.heap.size w6.drew w7) : Below B w4 w7 :=
  h.drew.trans (hb7.mono (Nat.le_trans (Nat.le_of_eq hB) h.drew.size))
theorem lay32 {P : Program} {ops : Array Oper} {rest : List Oper} {a : Act} {Q : Exit → Act → World → Prop} {w4 : World} {n : Nat} {o1 : Array Value} {L : List UInt8} {T : TypeId} (hz : w4.heap.size = n)
    (h : ∀ w5 : World, Bs w5 (some ⟨n, 0, none⟩) L L.length → Below n w4 w5 → wpList P ops Q rest a w5) :
    wpList P ops Q rest a ((w4.alloc (.cells o1 T)).setRow n (bcells L)) :=
  h _ (ShaG.bs_box (heap_setRow _ (ShaD.alloc_at hz _)) _ (Nat.le_refl _)) (below_row ((Below.refl _ _).alloc (Nat.le_of_eq hz.symm) _) (Nat.le_refl _) _)

set_option maxHeartbeats 8000000 in
set_option maxRecDepth 100000 in
theorem get_ok (l : List UInt8) {a : Option Addr} (c : Nat) (w : World) {aB aD : Addr} (hE : Ev w aB aD) (hb : Bs w a l c) (hl : l.length ≤ 140737488351232) (s : Fp.Stamp) (n : Nat) (r : List UInt8) (hs : Fp.split l = .ok (s, n, r)) :
    Calls Tryz.prog 30 #[.slice a l.length c] w fun e w' => GPost aB aD w' (if r.length ≠ n + (n + 31) / 32 * 32 then .error 4 else match Fp.body n n r with | .error e => .error e | .ok l => .ok (s, l)) e ∧ Below w.heap.size w w' := by
  obtain ⟨hn, hfit, hrl⟩ := split_ok hs
  obtain ⟨w1, hw1, hS1⟩ : ∃ w1, w1 = w.alloc (.cells sc0 34) ∧ Sp w w1 := ⟨_, rfl, (Below.refl _ _).alloc (Nat.le_refl _) _, heap_alloc_new _ _⟩
  have hg3 : ¬ 3 = w.heap.size := Nat.ne_of_lt (World.block_lt_of_cell? w _ hE.bytes)
  have hg3' : ¬ w.heap.size = 3 := fun h => hg3 h.symm
  have hg4 : ¬ 4 = w.heap.size := Nat.ne_of_lt (World.block_lt_of_cell? w _ hE.digest)
  have hg4' : ¬ w.heap.size = 4 := fun h => hg4 h.symm
  have KS := Lib.hid (split l c w1 (hE.below hS1.bel) (hb.below hS1.bel) hl)
  rw [hs] at KS
  have HS1 := Lib.hid hS1
  have HE1 := Lib.hid (hE.below hS1.bel)
  have hz1 : w.heap.size < w1.heap.size := (Array.getElem?_eq_some_iff.1 hS1.box).1
  obtain ⟨R, hR⟩ : ∃ R, R = (if r.length ≠ n + (n + 31) / 32 * 32 then .error 4 else match Fp.body n n r with | .error e => Except.error e | .ok l => .ok (s, l)) := ⟨_, rfl⟩
  have HRR := Lib.hid hR
  rw [← hR]
  clear hR hS1 hs hfit hE
  go_enter Tryz.func30, Tryz.ntmps30
  go_upto_region 1 with fail
  rw [← hw1]
  clear hw1
  go_upto_region 2 with (go_at_call 51; refine KS.out.mono ?_; rintro e w2 ⟨⟨ar, cr, rfl, hB2⟩, hb2⟩)
  obtain ⟨w4, hw4, hb4, hx4⟩ : ∃ w4, w4 = w2.alloc (.cells (sc s) 34) ∧ Below w2.heap.size w2 w4 ∧ w4.heap[w2.heap.size]? = some (.cells (sc s) 34 (0, 0)) := ⟨_, rfl, (Below.refl _ _).alloc (Nat.le_refl _) _, heap_alloc_new _ _⟩
  have hz4 : w2.heap.size < w4.heap.size := (Array.getElem?_eq_some_iff.1 hx4).1
  have HX4 := Lib.hid hx4
  have hz2 := hb2.size
  have HS4 := Lib.hid (HS1.out.below (hb2.trans (hb4.mono hb2.size)))
  have HE4 := Lib.hid (HE1.out.below (hb2.trans (hb4.mono hb2.size)))
  have HB4 := Lib.hid (hB2.below hb4)
  obtain ⟨G5, hG5⟩ : ∃ G5, G5 = w2.heap.size := ⟨_, rfl⟩
  rw [← hw4, ← hG5]
  rw [← hG5] at HX4 hz4
  have hG5n : G5 ≠ w.heap.size := by omega
  clear hw4 hb4 hx4 hb2 hB2 hz2 hG5
  obtain ⟨q, hq⟩ : ∃ q, q = (n + 31) / 32 := ⟨_, rfl⟩
  have eK : ((n : Int) + 32 - 1) / 32 = (q : Int) := by omega
  have hq2 : q ≤ 33 := by omega
  have HQ := Lib.hid hq
  clear hq
  go_upto_region 5 with fail
  rw [eK]
  clear eK
  by_cases hlen : r.length = n + q * 32
  case neg =>
    have e0 : ((r.length : Int) != (n : Int) + (q : Int) * 32) = true := by rw [bne_iff_ne]; omega
    have HRE := Lib.hid (show R = .error 4 by rw [HRR.out, if_pos (by rw [← HQ.out]; exact hlen)])
    have hS9 := HS4.out
    obtain ⟨⟨c0, c1, c2, c3', c4'⟩, f0, f1, f2, f3, f4⟩ := hS9.cells
    have cB := HE4.out.bytes
    clear hlen
    go_upto_region 6 with fail
    go_region
    go_wp2_with fail
    refine bodyPost_ret (res_get (put5 hS9.box _ _ _ _ _) rfl rfl rfl rfl rfl) rfl ⟨?_, (below_st5 hS9.bel (Nat.le_refl _) _ _ _ _ _).drew⟩
    rw [HRE.out]
    rfl
  have e0 : ((r.length : Int) != (n : Int) + (q : Int) * 32) = false := by
    rw [bne_eq_false_iff_eq]; omega
  have HRE := Lib.hid (show R = (match total [] (Fp.body n n r) with | .error e => Except.error e | .ok l => .ok (s, l)) by
    rw [HRR.out, if_neg (by rw [← HQ.out]; exact fun h => h hlen), total_nil])
  have HLEN := Lib.hid (show r.length = n + (n + 31) / 32 * 32 by rw [← HQ.out]; exact hlen)
  clear hlen
  go_upto_region 7 with fail
  clear e0 hq2
  go_wp2_with fail
  obtain ⟨B0, hB0⟩ : ∃ B0, B0 = w4.heap.size := ⟨_, rfl⟩
  have HB0 := Lib.hid hB0
  rw [← hB0] at hz4
  clear hB0
  go_loopg [6, 7, 10] n (fun g v6 v7 v10 wr => ∃ (m : Nat) (T A : List UInt8) (a7 : Option Addr) (c7 : Nat), m ≤ g ∧ v6 = .int .i64 (m : Int) ∧ v7 = .slice a7 T.length c7 ∧ m ≤ 1024 ∧ A.length + m ≤ 1024 ∧ Hid (T.length = m + (m + 31) / 32 * 32) ∧ Hid (R = (match total A (Fp.body g m T) with | .error e => Except.error e | .ok l => .ok (s, l))) ∧ Hid (Bs w4 a7 T c7) ∧ Hid (Own B0 wr v10 A) ∧ Hid (Below B0 w4 wr))
  case atStart => exact ⟨n, r, [], ar, cr, Nat.le_refl _, rfl, rfl, hn, by simpa using hn, HLEN.out, HRE.out, HB4.out, ⟨rfl, .inl ⟨rfl, rfl⟩⟩, Below.refl _ _⟩
  case round =>
    obtain ⟨m, T, A, a7, c7, hmg, rfl, rfl, hm, hA, HT, HM, HB7, HO, HW⟩ := hrel
    by_cases h0 : m = 0
    · obtain rfl : m = 0 := h0
      have hRR : R = .ok (s, A) := by
        rw [HM.out]
        cases gk <;> simp [Fp.body, total]
      have HX := Lib.hid ((HW.out.block _ hz4).trans HX4.out)
      have hS9 := HS4.out.below (HB0.out ▸ HW.out)
      obtain ⟨⟨c0, c1, c2, c3', c4'⟩, f0, f1, f2, f3, f4⟩ := hS9.cells
      have g0 : wr.cell? ⟨G5, 0, none⟩ = some (.int .i64 (s.node : Int)) := by rw [Lib.cell_of_heap HX.out]; rfl
      have g1 : wr.cell? ⟨G5, 1, none⟩ = some (.int .i64 (s.boot : Int)) := by rw [Lib.cell_of_heap HX.out]; rfl
      have g2 : wr.cell? ⟨G5, 2, none⟩ = some (.int .i64 (s.seq : Int)) := by rw [Lib.cell_of_heap HX.out]; rfl
      have g3 : wr.cell? ⟨G5, 3, none⟩ = some (.int .i64 (s.shard : Int)) := by rw [Lib.cell_of_heap HX.out]; rfl
      have g4 : wr.cell? ⟨G5, 4, none⟩ = some (.int .i64 (s.size : Int)) := by rw [Lib.cell_of_heap HX.out]; rfl
      have hGB : w.heap.size < B0 := by have := HB0.out; have := (Array.getElem?_eq_some_iff.1 HS4.out.box).1; omega
      obtain ⟨aA, cA, rfl, -⟩ := HO.out.bs
      have HRR := Lib.hid hRR
      clear hRR hmg
      go_wp2_with fail
      refine bodyPost_ret (res_get (put5 hS9.box _ _ _ _ _) rfl rfl rfl rfl rfl) rfl ⟨?_, below_st5 hS9.bel (Nat.le_refl _) _ _ _ _ _⟩
      rw [HRR.out]
      obtain ⟨aB', cB', e', hb'⟩ := (own_st5 HO.out hGB _ _ _ _ _).bs
      cases e'
      exact ⟨aA, cA, rfl, hb'⟩
    · have e0 : decide ((0 : Int) < (m : Int)) = true := decide_eq_true (by omega)
      obtain ⟨g, rfl⟩ : ∃ g, gk = g + 1 := ⟨gk - 1, by omega⟩
      have htl := HT.out
      obtain ⟨T1, hT1⟩ : ∃ T1, T1 = T.take (min m 32) := ⟨_, rfl⟩
      have hk : T1.length = min m 32 := by rw [hT1, List.length_take]; omega
      have hT1' : T.take T1.length = T1 := by rw [hk]; exact hT1.symm
      obtain ⟨T2, hT2⟩ : ∃ T2, T2 = (T.drop T1.length).take 32 := ⟨_, rfl⟩
      have hk2 : T2.length = 32 := by rw [hT2, List.length_take, List.length_drop]; omega
      have hmin : (if (32 : Int) < (m : Int) then (32 : Int) else (m : Int)) = (T1.length : Int) := by
        split <;> omega
      have HM2 := Lib.hid (show R = (match (if Sha.sha T1 = T2 then total (A ++ T1) (Fp.body g (m - T1.length) (T.drop (T1.length + 32))) else .error 5) with | .error e => Except.error e | .ok l => .ok (s, l)) by
        rw [HM.out, total_body A h0, ← hk, hT1', ← hT2])
      obtain ⟨a1, hsl1, hb1⟩ := Mid.pre HB7.out T1.length (by omega) (T1.length : Int) rfl
      obtain ⟨a2, hsl2, hb2⟩ := Mid.mid HB7.out T1.length 32 (by omega) (T1.length : Int) ((T1.length : Int) + 32) rfl rfl
      obtain ⟨a3, hsl3, hb3⟩ := Mid.suf HB7.out (T1.length + 32) (by omega) ((T1.length : Int) + 32) rfl
      rw [hT1'] at hb1
      rw [← hT2] at hb2
      have HW4 := Lib.hid (show Below w4.heap.size w4 wr from HB0.out ▸ HW.out)
      have KH := Lib.hid (ShaG.shaSum T1 c7 wr (hb1.below HW4.out) (by omega))
      have HB1 := Lib.hid hb1
      have HB2 := Lib.hid hb2
      have HB3 := Lib.hid hb3
      have hs32 : (bcells (sha T1)).size = 32 := by rw [bcells_size, sha_length]
      have hi33 : (Tryz.prog.info? 63).map (·.size) = some (bcells (sha T1)).size := (show _ = some 32 by kernel_rfl).trans (congrArg some hs32.symm)
      have HI33 := Lib.hid hi33
      have HS32 := Lib.hid hs32
      have hk32 : T1.length ≤ 32 := by omega
      have HK := Lib.hid hk
      have HK2 := Lib.hid hk2
      have HT1 := Lib.hid hT1'
      clear hi33 hs32 hb1 hb2 hb3 hT1 hT1' hT2 hk hk2 htl
      go_upto_region 10 with fail
      try rw [hmin]
      clear hmin
      go_upto_region 11 with (first
        | (go_at_call 52; refine KH.out.mono ?_; rintro e w5 ⟨rfl, hb5⟩)
        | (guard_target =~ wpList _ _ _ ({ dst := _, op := Op.store 63 _ _, type := _, pos := _, after := _, guard := none } :: _) _ _; refine wpList_store_row rfl 63 _ _ rfl _ (bcells (sha T1)) rfl rfl _ _ (heap_alloc_new _ _) HI33.out (Eq.trans rfl HS32.out.symm) (bcells_one _) ?_; refine lay32 rfl ?_; intro w6 hV6 hb6))
      have HW6 := Lib.hid (HW.out.trans ((hb5.trans (hb6.mono hb5.size)).mono (HB0.out ▸ HW.out.size)))
      have hHW : Below wr.heap.size wr w6 := hb5.trans (hb6.mono hb5.size)
      have HO6 := Lib.hid (HO.out.below hHW)
      have HW46 := Lib.hid (show Below w4.heap.size w4 w6 from HB0.out ▸ HW6.out)
      rw [sha_length] at hV6
      have HV6 := Lib.hid hV6
      have KE := Lib.hid (show ∀ W, Below w6.heap.size w6 W → Calls Tryz.prog 53 #[.slice (some ⟨w5.heap.size, 0, none⟩) 32 32, .slice a2 32 (c7 - T1.length)] W fun e w' => e = .returned (.bool (eqB (sha T1) T2)) ∧ Below W.heap.size W w' from
        fun W hW => by
          have := equal (sha T1) T2 32 (c7 - T1.length) W (HV6.out.below hW) ((HB2.out.below HW46.out).below hW) (by rw [sha_length]; omega) (by rw [HK2.out]; omega)
          rw [sha_length, HK2.out] at this
          exact this)
      clear hV6 hb5 hb6 hHW
      have hws : IntKind.i64.wrap ((T1.length : Int) + 32) = (T1.length : Int) + 32 := IntWalk.i64_in _ ⟨by omega, by omega⟩
      by_cases hh : sha T1 = T2
      · have hq : eqB (sha T1) T2 = true := by rw [eqB, hh]; exact beq_self_eq_true _
        rw [hq] at KE
        have HR2 := Lib.hid (show R = (match (total (A ++ T1) (Fp.body g (m - T1.length) (T.drop (T1.length + 32)))) with | .error e => Except.error e | .ok l => .ok (s, l)) by rw [HM2.out, if_pos hh])
        clear hq hh
        go_region_with (go_at_call 53; refine (KE.out _ (Below.refl _ _).drew).mono ?_; rintro e w7 ⟨rfl, hb7⟩)
        have HW7 := Lib.hid (below_after HW6.out HB0.out hb7)
        have HO7 := Lib.hid ((HO6.out.below (Below.refl _ _).drew).below hb7)
        have HB17 := Lib.hid (HB1.out.below (show Below w4.heap.size w4 w7 from HB0.out ▸ HW7.out))
        have hB07 : B0 ≤ w7.heap.size := Nat.le_trans (Nat.le_of_eq HB0.out) HW7.out.size
        have hAT : A.length + T1.length ≤ 140737488355328 := by omega
        clear hb7 hws
        go_wp2_with (at_builtin; refine append_more _ rfl (.tmp 55) (.tmp 58) rfl B0 A T1 HO7.out a1 c7 HB17.out hB07 hAT rfl rfl ?_; rintro a8 c8 w8 n8 rfl o8 b8)
        go_roundg g
        case measure => omega
        case rel =>
          have hkk := HK.out
          have htl := HT.out
          refine ⟨m - T1.length, T.drop (T1.length + 32), A ++ T1, a3, c7 - (T1.length + 32), by omega, ?_, ?_, by omega, by rw [List.length_append]; omega, ?_, HR2.out, HB3.out, Lib.hid (by rw [← List.length_append]; exact o8), HW7.out.trans b8⟩
          · congr 1; omega
          · rw [List.length_drop]
          · exact Lib.hid (by rw [List.length_drop]; omega)
      · have hq : eqB (sha T1) T2 = false := by rw [eqB, beq_eq_false_iff_ne]; exact hh
        rw [hq] at KE
        have HR2 := Lib.hid (show R = .error 5 by rw [HM2.out, if_neg hh])
        clear hq hh
        go_region_with (go_at_call 53; refine (KE.out _ (Below.refl _ _).drew).mono ?_; rintro e w7 ⟨rfl, hb7⟩)
        have hW7 : Below w4.heap.size w4 w7 := HB0.out ▸ (below_after HW6.out HB0.out hb7)
        have hS9 := HS4.out.below hW7
        obtain ⟨⟨c0, c1, c2, c3', c4'⟩, f0, f1, f2, f3, f4⟩ := hS9.cells
        have cD := (HE4.out.below hW7).digest
        go_upto_region 12 with fail
        go_region
        all_goals
          go_wp2_with fail
          refine bodyPost_ret (res_get (put5 hS9.box _ _ _ _ _) rfl rfl rfl rfl rfl) rfl ⟨?_, (below_st5 hS9.bel (Nat.le_refl _) _ _ _ _ _).drew⟩
          rw [HR2.out]
          rfl

theorem get (l : List UInt8) {a : Option Addr} (c : Nat) (w : World) {aB aD : Addr} (hE : Ev w aB aD) (hb : Bs w a l c) (hl : l.length ≤ 140737488351232) :
    Calls Tryz.prog 30 #[.slice a l.length c] w fun e w' => GPost aB aD w' (Fp.get l) e ∧ Below w.heap.size w w' := by
  unfold Fp.get
  cases hs : Fp.split l with
  | error k =>
    refine (get_no l c w hE hb hl k hs).mono ?_
    rintro e w' ⟨rfl, h⟩
    exact ⟨rfl, h⟩
  | ok x =>
    obtain ⟨s, n, r⟩ := x
    exact get_ok l c w hE hb hl s n r hs
end Go.Proofs.YtecnnlppinhmgaaGreatDoor.FrJ
namespace Go.Proofs.YtecnnlppinhmgaaGreatDoor.FrK
open Go.RowKit Go.Proofs.YtecnnlppinhmgaaGreatDoor Go.Proofs.YtecnnlppinhmgaaGreatDoor.HtW Go.Proofs.YtecnnlppinhmgaaGreatDoor.HtX

/-- a good id -/
def goodB (x y z : Int) : Bool := decide (0 ≤ x ∧ x < 16 ∧ 0 ≤ y ∧ y ≤ 1099511627776 ∧ 0 ≤ z ∧ z ≤ 1099511627776)
set_option maxHeartbeats 1000000 in
set_option maxRecDepth 100000 in
theorem goodId (x y z : Int) (w : World) :
    Calls Tryz.prog 9 #[.agg #[.int .i64 x, .int .i64 y, .int .i64 z]] w fun e w' => e = .returned (.bool (goodB x y z)) ∧ Below w.heap.size w w' := by
  go_enter Tryz.func9, Tryz.ntmps9
  go_wp2_with fail
  all_goals
    go_ret
    refine ⟨FrG.ret_bool ?_, (Below.refl _ w).alloc (Nat.le_refl _) _⟩
  all_goals unfold goodB
  all_goals first
    | (rw [decide_eq_decide]; omega)
    | (symm; rw [decide_eq_false_iff_not]; omega)
set_option maxHeartbeats 1000000 in
set_option maxRecDepth 100000 in
theorem good (x y z : Int) (w : World) :
    Calls Tryz.prog 37 #[.agg #[.int .i64 x, .int .i64 y, .int .i64 z]] w fun e w' => e = .returned (.bool (goodB x y z)) ∧ Below w.heap.size w w' := by
  go_enter Tryz.func37, Tryz.ntmps37
  go_wp2_with fail
  all_goals
    go_ret
    refine ⟨FrG.ret_bool ?_, (Below.refl _ w).alloc (Nat.le_refl _) _⟩
  all_goals unfold goodB
  all_goals first
    | (rw [decide_eq_decide]; omega)
    | (symm; rw [decide_eq_false_iff_not]; omega)
end Go.Proofs.YtecnnlppinhmgaaGreatDoor.FrK
namespace Go.Proofs.YtecnnlppinhmgaaGreatDoor.RsP
open Go.RowKit Go.Proofs.YtecnnlppinhmgaaGreatDoor.Sha Go.Proofs.YtecnnlppinhmgaaGreatDoor.ShaA Go.Proofs.YtecnnlppinhmgaaGreatDoor.ShaB Go.Proofs.YtecnnlppinhmgaaGreatDoor.ShaC

theorem lt8 {j : Nat} (h : j < 8) : j = 0 ∨ j = 1 ∨ j = 2 ∨ j = 3 ∨ j = 4 ∨ j = 5 ∨ j = 6 ∨ j = 7 := by omega
/-! the message -/
def fill (b : List UInt8) (z : Nat) : List UInt8 := b ++ 128 :: List.replicate z 0
theorem fill_length (b : List UInt8) (z : Nat) : (fill b z).length = b.length + 1 + z := by
  unfold fill
  simp only [List.length_append, List.length_cons, List.length_replicate]
  omega
theorem fill_succ (b : List UInt8) (z : Nat) : fill b z ++ [0] = fill b (z + 1) := by
  unfold fill
  rw [List.append_assoc, List.cons_append, ← List.replicate_succ']
theorem fill_more {n z : Nat} (h : z < zeros n) : (n + 1 + z) % 64 ≠ 56 := by
  unfold zeros at h
  omega
theorem fill_done {n z : Nat} (h : z ≤ zeros n) (hm : (n + 1 + z) % 64 = 56) : z = zeros n := by
  unfold zeros at h ⊢
  omega
def tail (b : List UInt8) (i : Nat) : List UInt8 := fill b (zeros b.length) ++ (be8 (8 * b.length)).take i
theorem tail_zero (b : List UInt8) : tail b 0 = fill b (zeros b.length) := by
  unfold tail
  rw [List.take_zero, List.append_nil]
theorem tail_all (b : List UInt8) : tail b 8 = pad b := by
  unfold tail pad fill
  rw [show (be8 (8 * b.length)).take 8 = be8 (8 * b.length) from rfl, List.append_assoc, List.cons_append]
theorem tail_length (b : List UInt8) {i : Nat} (hi : i ≤ 8) : (tail b i).length = b.length + 1 + zeros b.length + i := by
  unfold tail
  rw [List.length_append, fill_length, List.length_take]
  have : (be8 (8 * b.length)).length = 8 := rfl
  omega
theorem tail_succ (b : List UInt8) {i : Nat} (hi : i < 8) : tail b i ++ [UInt8.ofNat (8 * b.length / 2 ^ (56 - 8 * i))] = tail b (i + 1) := by
  unfold tail
  rw [List.append_assoc, List.take_add_one]
  congr 2
  rcases lt8 hi with rfl | rfl | rfl | rfl | rfl | rfl | rfl | rfl <;> rfl

/-! the eight words moved on -/
def sh (s : St) : Nat → List Nat
  | 0 => [s.a, s.a, s.b, s.c, s.d, s.e, s.f, s.g]
  | 1 => [s.a, s.b, s.b, s.c, s.d, s.e, s.f, s.g]
  | 2 => [s.a, s.b, s.c, s.c, s.d, s.e, s.f, s.g]
  | 3 => [s.a, s.b, s.c, s.d, s.d, s.e, s.f, s.g]
  | 4 => [s.a, s.b, s.c, s.d, s.e, s.e, s.f, s.g]
  | 5 => [s.a, s.b, s.c, s.d, s.e, s.f, s.f, s.g]
  | 6 => [s.a, s.b, s.c, s.d, s.e, s.f, s.g, s.g]
  | _ => [s.a, s.b, s.c, s.d, s.e, s.f, s.g, s.h]
theorem sh_get (s : St) {i : Nat} (h : i < 7) : (sh s (i + 1))[i]? = some ((stw s).getD i 0) := by
  match i, h with
  | 0, _ => rfl
  | 1, _ => rfl
  | 2, _ => rfl
  | 3, _ => rfl
  | 4, _ => rfl
  | 5, _ => rfl
  | 6, _ => rfl
theorem sh_set (s : St) {i : Nat} (h : i < 7) : (sh s (i + 1)).set (i + 1) ((stw s).getD i 0) = sh s i := by
  match i, h with
  | 0, _ => rfl
  | 1, _ => rfl
  | 2, _ => rfl
  | 3, _ => rfl
  | 4, _ => rfl
  | 5, _ => rfl
  | 6, _ => rfl
theorem sh_start (s : St) : sh s 7 = stw s := rfl
theorem sh_round (s : St) (k w : Nat) : ((sh s 0).set 4 ((s.d + t1 s k w) % M)).set 0 ((t1 s k w + t2 s) % M) = stw (round s k w) := rfl
/-- the sums while they are laid, the other way round -/
def mix2 (s r : St) (j : Nat) : List Nat := (stw (add s r)).take j ++ (stw s).drop j
theorem mix2_zero (s r : St) : mix2 s r 0 = stw s := rfl
theorem mix2_all (s r : St) : mix2 s r 8 = stw (add s r) := rfl
theorem mix2_get (s r : St) {j : Nat} (h : j < 8) : (mix2 s r j)[j]? = some ((stw s).getD j 0) := by
  rcases lt8 h with rfl | rfl | rfl | rfl | rfl | rfl | rfl | rfl <;> rfl
theorem mix2_set (s r : St) {j : Nat} (h : j < 8) : (mix2 s r j).set j ((stw (add s r)).getD j 0) = mix2 s r (j + 1) := by
  rcases lt8 h with rfl | rfl | rfl | rfl | rfl | rfl | rfl | rfl <;> rfl

/-! a block's words -/
/-- a word while its bytes come in -/
def wd (l : List UInt8) (t i : Nat) : Nat := ((l.drop (4 * t)).take i).foldl (fun n c => n * 256 + c.toNat) 0
theorem wd_zero (l : List UInt8) (t : Nat) : wd l t 0 = 0 := rfl
theorem wd_succ (l : List UInt8) (t : Nat) {i : Nat} {c : UInt8} (h : l[4 * t + i]? = some c) : wd l t (i + 1) = wd l t i * 256 + c.toNat := by
  unfold wd
  rw [List.take_add_one, List.getElem?_drop, h]
  simp only [Option.toList_some, List.foldl_append, List.foldl_cons, List.foldl_nil]
theorem wd_lt (l : List UInt8) (t : Nat) : ∀ i, wd l t i < 256 ^ i
  | 0 => Nat.lt_succ_self 0
  | i + 1 => by
    have ih := wd_lt l t i
    cases h : l[4 * t + i]? with
    | none =>
      have e : wd l t (i + 1) = wd l t i := by
        unfold wd
        rw [List.take_add_one, List.getElem?_drop, h]
        simp
      rw [e, Nat.pow_succ]
      omega
    | some c =>
      rw [wd_succ l t h, Nat.pow_succ]
      have := UInt8.toNat_lt c
      omega
theorem wd_all (l : List UInt8) {t : Nat} (h : 4 * t + 3 < l.length) : wd l t 4 = word l t := by
  have g : ∀ i, i < 4 → l[4 * t + i]? = some (l.getD (4 * t + i) 0) := fun i hi => by
    rw [List.getD_eq_getElem?_getD, List.getElem?_eq_getElem (by omega)]
    rfl
  rw [wd_succ l t (g 3 (by omega)), wd_succ l t (g 2 (by omega)), wd_succ l t (g 1 (by omega)), wd_succ l t (g 0 (by omega)), wd_zero]
  unfold word
  rw [Nat.zero_mul, Nat.zero_add]
  rfl

/-! the digest's bytes -/
theorem out_at (s : St) : ∀ i, i < 32 → (out s)[i]? = some (UInt8.ofNat ((stw s).getD (i / 4) 0 / 2 ^ (24 - 8 * (i % 4)))) := by
  intro i hi
  have h : i = 0 ∨ i = 1 ∨ i = 2 ∨ i = 3 ∨ i = 4 ∨ i = 5 ∨ i = 6 ∨ i = 7 ∨ i = 8 ∨ i = 9 ∨ i = 10 ∨ i = 11 ∨ i = 12 ∨ i = 13 ∨ i = 14 ∨ i = 15 ∨ i = 16 ∨ i = 17 ∨ i = 18 ∨ i = 19 ∨ i = 20 ∨ i = 21 ∨ i = 22 ∨ i = 23 ∨ i = 24 ∨ i = 25 ∨ i = 26 ∨ i = 27 ∨ i = 28 ∨ i = 29 ∨ i = 30 ∨ i = 31 := by omega
  have e : ∀ x : Nat, x / 2 ^ 0 = x := fun x => Nat.div_one x
  rcases h with rfl | rfl | rfl | rfl | rfl | rfl | rfl | rfl | rfl | rfl | rfl | rfl | rfl | rfl | rfl | rfl | rfl | rfl | rfl | rfl | rfl | rfl | rfl | rfl | rfl | rfl | rfl | rfl | rfl | rfl | rfl | rfl <;> first | rfl | (simp only [show (24 - 8 * (3 % 4)) = 0 from rfl]; rfl) | (show _ = some (UInt8.ofNat (_ / 2 ^ 0)); rw [e]; rfl)
end Go.Proofs.YtecnnlppinhmgaaGreatDoor.RsP
