/-
  The walk of package shelf's Put. An id's box; the comparison of two ids. The walk of package shelf's Get. A shelf's files, plain: what Put makes of an empty shelf and of one that holds a frame of that blob. The walk of bollardlaw08.alive.
-/
import Derived.Test.YtecnnlppinhmgaaGreatDoorSa01
import Derived.Test.YtecnnlppinhmgaaGreatDoorSd01
import Derived.Test.YtecnnlppinhmgaaGreatDoorSe02
import Derived.Test.YtecnnlppinhmgaaGreatDoorProg
import Derived.Laws.StructEq
import Derived.BigQuiet
import Derived.Lib.SlBytesConst
namespace Go.Proofs.YtecnnlppinhmgaaGreatDoor.SfB
open Go.RowKit Go.Proofs.YtecnnlppinhmgaaGreatDoor Go.Proofs.YtecnnlppinhmgaaGreatDoor.HtW Go.Proofs.YtecnnlppinhmgaaGreatDoor.FrJ Go.Proofs.YtecnnlppinhmgaaGreatDoor.FrG Go.Proofs.YtecnnlppinhmgaaGreatDoor.DiskB Go.Proofs.YtecnnlppinhmgaaGreatDoor.SfA

/-- what a shelf's world holds besides the drive -/
structure Env (w : World) (aL aB aD aN aF aG : Addr) : Prop where
  ev : FrE.Ev w aB aD
  errs : Dw.Errs w aN aF aG
  tab : Itoa.Tab w
  lost : w.cell? ⟨0, 0, none⟩ = some (Err.ev aL)
  ne : aD ≠ aB
  bB : ∃ c t, w.heap[aB.block]? = some (.cells c t (0, 0))
  bD : ∃ c t, w.heap[aD.block]? = some (.cells c t (0, 0))
theorem Env.below {w w' : World} {aL aB aD aN aF aG : Addr} (h : Env w aL aB aD aN aF aG) (hb : Below w.heap.size w w') : Env w' aL aB aD aN aF aG := by
  obtain ⟨c, t, h1⟩ := h.bB
  obtain ⟨c', t', h2⟩ := h.bD
  exact ⟨h.ev.below hb, ⟨(hb.cell (World.block_lt_of_cell? w _ h.errs.name)).trans h.errs.name, (hb.cell (World.block_lt_of_cell? w _ h.errs.full)).trans h.errs.full, (hb.cell (World.block_lt_of_cell? w _ h.errs.gone)).trans h.errs.gone⟩, h.tab.below hb, (hb.cell (World.block_lt_of_cell? w _ h.lost)).trans h.lost, h.ne, ⟨c, t, (hb.block _ (Array.getElem?_eq_some_iff.1 h1).1).trans h1⟩, ⟨c', t', (hb.block _ (Array.getElem?_eq_some_iff.1 h2).1).trans h2⟩⟩
theorem keep_below {w0 w w' : World} {mb : Nat} (h : Below w0.heap.size w0 w) (hk : Dw.Keep [mb] w w') (hm : w0.heap.size ≤ mb) : Below w0.heap.size w0 w' :=
  Dw.Keep.below h hk (fun i hi => by rw [List.mem_singleton.1 hi]; exact hm)
theorem bs_dw {w : World} {a : Option Addr} {l : List UInt8} {c : Nat} (h : Bs w a l c) : Dw.Bs 0 w a l c :=
  ⟨h.1, h.2.1, h.2.2.imp id fun ⟨b, o, h1, h2, h3⟩ => ⟨b, o, h1, Nat.zero_le _, h2, h3⟩⟩
theorem bs_of_dw {lo : Nat} {w : World} {a : Option Addr} {l : List UInt8} {c : Nat} (h : Dw.Bs lo w a l c) : Bs w a l c :=
  ⟨h.1, h.2.1, h.2.2.imp id fun ⟨b, o, h1, _, h2, h3⟩ => ⟨b, o, h1, h2, h3⟩⟩
theorem put_len (M : Dp.Files) (n : List UInt8) (f : Dp.File) : (Dp.put M n f).length ≤ M.length + 1 := by
  induction M with
  | nil => simp [Dp.put]
  | cons p r ih =>
    unfold Dp.put
    split
    · simp
    · split
      · simp
      · simp; omega
theorem erv_ne {aN aF aG : Addr} {e : DiskB.Er} (h : e ≠ .ok) : ∃ x, erv aN aF aG e = Err.ev x := by
  cases e with
  | ok => exact absurd rfl h
  | name => exact ⟨_, rfl⟩
  | full => exact ⟨_, rfl⟩
  | gone => exact ⟨_, rfl⟩
/-- a blob's two names -/
def tn (s : Fp.Stamp) : List UInt8 := nm 116 s.node s.boot s.seq
def bn (s : Fp.Stamp) : List UInt8 := nm 98 s.node s.boot s.seq
/-- what Put does -/
def putE (M : Dp.Files) (full : Bool) (s : Fp.Stamp) (f : List UInt8) : DiskB.Er :=
  if wrE M full (tn s) = .ok then (if syE (wrM M full (tn s) f) full (tn s) = .ok then reE (syM (wrM M full (tn s) f) full (tn s)) (tn s) (bn s) else syE (wrM M full (tn s) f) full (tn s)) else wrE M full (tn s)
def putM (M : Dp.Files) (full : Bool) (s : Fp.Stamp) (f : List UInt8) : Dp.Files :=
  if wrE M full (tn s) = .ok then (if syE (wrM M full (tn s) f) full (tn s) = .ok then reM (syM (wrM M full (tn s) f) full (tn s)) (tn s) (bn s) else syM (wrM M full (tn s) f) full (tn s)) else wrM M full (tn s) f
theorem wrM_len (M : Dp.Files) (full : Bool) (n l : List UInt8) : (wrM M full n l).length ≤ M.length + 1 := by
  unfold wrM
  split
  · exact put_len _ _ _
  · omega
theorem syM_len (M : Dp.Files) (full : Bool) (n : List UInt8) : (syM M full n).length ≤ M.length + 1 := by
  unfold syM
  split
  · exact put_len _ _ _
  · omega
theorem few_node {s : Fp.Stamp} (h : s.fits) : Few s.node := ⟨by omega, by have := h.1; omega⟩
theorem few_boot {s : Fp.Stamp} (h : s.fits) : Few s.boot := ⟨by omega, by have := h.2.1; omega⟩
theorem few_seq {s : Fp.Stamp} (h : s.fits) : Few s.seq := ⟨by omega, by have := h.2.2.1; omega⟩
theorem nameK (x : UInt8) (a b c : Int) (w0 : World) (g : Nat) (w : World) (ha : Few a) (hb : Few b) (hc : Few c) (ht : Carry w0 w) (h : w.cell? ⟨g, 0, none⟩ = some (.int .i64 a) ∧ w.cell? ⟨g, 1, none⟩ = some (.int .i64 b) ∧ w.cell? ⟨g, 2, none⟩ = some (.int .i64 c)) :
    Calls Tryz.prog 31 #[.string ⟨#[x]⟩, .agg #[.int .i64 a, .int .i64 b, .int .i64 c]] w fun e w' => e = .returned (.string ⟨(nm x a b c).toArray⟩) ∧ (w'.cell? ⟨g, 0, none⟩ = some (.int .i64 a) ∧ w'.cell? ⟨g, 1, none⟩ = some (.int .i64 b) ∧ w'.cell? ⟨g, 2, none⟩ = some (.int .i64 c)) ∧ Carry w0 w' := by
  refine (name x a b c w ha hb hc ht.1).mono ?_
  rintro e w1 ⟨rfl, hb1⟩
  have hg := World.block_lt_of_cell? w _ h.1
  exact ⟨rfl, ⟨(hb1.cell (p := ⟨g, 0, none⟩) hg).trans h.1, (hb1.cell (p := ⟨g, 1, none⟩) hg).trans h.2.1, (hb1.cell (p := ⟨g, 2, none⟩) hg).trans h.2.2⟩, ht.below hb1⟩

set_option maxHeartbeats 4000000 in
set_option maxRecDepth 100000 in
theorem put {lo d mb sb : Nat} {M : Dp.Files} {full : Bool} {lost : Int} {node : Nat} (f : List UInt8) {a : Option Addr} (c : Nat) (s : Fp.Stamp) (dt : List UInt8) (w0 w : World) {aL aB aD aN aF aG : Addr} (hE : Env w0 aL aB aD aN aF aG) (h0 : Below w0.heap.size w0 w) (hmb : w0.heap.size ≤ mb) (hS : Sf w sb node d) (hsb : sb ≠ mb) (hd : Dw.Drive lo d mb w M full lost) (hb : Bs w a f c) (hl : f.length ≤ 140737488351232) (hM : M.length < 4294967290) (hg : Fp.get f = .ok (s, dt)) (hn : s.shard = node) (hf : s.fits) :
    Calls Tryz.prog 11 #[.pointer (some ⟨sb, 0, none⟩), .slice a f.length c] w fun e w' => e = .returned (erv aN aF aG (putE M full s f)) ∧ Dw.Drive lo d mb w' (putM M full s f) full lost ∧ Dw.Keep [mb] w w' := by
  have KG := Lib.hid (FrJ.get f c w (hE.below h0).ev hb hl)
  rw [hg] at KG
  have HE := Lib.hid hE
  have H0 := Lib.hid h0
  have HS := Lib.hid hS
  have HD := Lib.hid hd
  have HB := Lib.hid hb
  have HF := Lib.hid hf
  have HN := Lib.hid hn
  have hzs : sb < w.heap.size := (Array.getElem?_eq_some_iff.1 hS).1
  clear hE h0 hS hd hb hg hf hn
  go_enter Tryz.func11, Tryz.ntmps11
  go_upto_region 2 with (go_at_call 30; refine KG.out.mono ?_; rintro e w2 ⟨⟨a2, c2, rfl, hB2⟩, hb2⟩)
  obtain ⟨w3, hw3, hb3, hx3⟩ : ∃ w3, w3 = w2.alloc (.cells (sc s) 34) ∧ Below w2.heap.size w2 w3 ∧ w3.heap[w2.heap.size]? = some (.cells (sc s) 34 (0, 0)) := ⟨_, rfl, (Below.refl _ _).alloc (Nat.le_refl _) _, heap_alloc_new _ _⟩
  have HW3 := Lib.hid (hb2.trans (hb3.mono hb2.size))
  have HX3 := Lib.hid hx3
  obtain ⟨G5, hG5⟩ : ∃ G5, G5 = w2.heap.size := ⟨_, rfl⟩
  rw [← hw3, ← hG5]
  rw [← hG5] at HX3
  have g0 : w3.cell? ⟨G5, 0, none⟩ = some (.int .i64 (s.node : Int)) := by rw [Lib.cell_of_heap HX3.out]; rfl
  have g1 : w3.cell? ⟨G5, 1, none⟩ = some (.int .i64 (s.boot : Int)) := by rw [Lib.cell_of_heap HX3.out]; rfl
  have g2 : w3.cell? ⟨G5, 2, none⟩ = some (.int .i64 (s.seq : Int)) := by rw [Lib.cell_of_heap HX3.out]; rfl
  have g3 : w3.cell? ⟨G5, 3, none⟩ = some (.int .i64 (s.shard : Int)) := by rw [Lib.cell_of_heap HX3.out]; rfl
  obtain ⟨c0, -⟩ := (HS.out.below HW3.out).cells
  rw [← HN.out] at c0
  clear hw3 hb3 hx3 hb2 hB2 hG5 KG
  go_upto_region 4 with fail
  go_quiet (fail)
  obtain ⟨w4, hw4⟩ : ∃ w4, w4 = w3.drewN nq := ⟨_, rfl⟩
  rw [← hw4]
  have hb4 : Below w3.heap.size w3 w4 := hw4 ▸ FrA.below_drewN (Below.refl _ _) nq
  have k3 : G5 < w3.heap.size := (Array.getElem?_eq_some_iff.1 HX3.out).1
  have h4 : w4.cell? ⟨G5, 0, none⟩ = some (.int .i64 (s.node : Int)) ∧ w4.cell? ⟨G5, 1, none⟩ = some (.int .i64 (s.boot : Int)) ∧ w4.cell? ⟨G5, 2, none⟩ = some (.int .i64 (s.seq : Int)) := ⟨(hb4.cell (p := ⟨G5, 0, none⟩) k3).trans g0, (hb4.cell (p := ⟨G5, 1, none⟩) k3).trans g1, (hb4.cell (p := ⟨G5, 2, none⟩) k3).trans g2⟩
  obtain ⟨q0, q1, q2⟩ := h4
  have HW4 := Lib.hid (HW3.out.trans (hb4.mono HW3.out.size))
  have HT : Carry w w4 := ⟨(HE.out.below (H0.out.trans (HW4.out.mono H0.out.size))).tab, HW4.out⟩
  have hfn := few_node HF.out
  have hfb := few_boot HF.out
  have hfs := few_seq HF.out
  clear hw4 hb4 k3 g0 g1 g2 g3 c0
  go_upto_region 6 with fail
  go_region_held3 (fun W => W.cell? ⟨G5, 0, none⟩ = some (.int .i64 (s.node : Int)) ∧ W.cell? ⟨G5, 1, none⟩ = some (.int .i64 (s.boot : Int)) ∧ W.cell? ⟨G5, 2, none⟩ = some (.int .i64 (s.seq : Int)))
    (first | go_keep)
    (first
      | (go_at_call 31; refine (nameK _ _ _ _ w G5 _ hfn hfb hfs ?_ ?_).mono ?_; (first | assumption | exact HT | exact HT.drew); (first | assumption | exact ⟨q0, q1, q2⟩); rintro e w' ⟨rfl, k0, t0⟩))
  have HW5 := Lib.hid t0.2
  have hB5 : Below w0.heap.size w0 w' := H0.out.trans (t0.2.mono H0.out.size)
  have hs5 := HS.out.below t0.2
  obtain ⟨-, c1⟩ := hs5.cells
  have hnt := nm_size (x := 116) hfn hfb hfs
  have hnb := nm_size (x := 98) hfn hfb hfs
  have KW := Lib.hid (DiskB.write ⟨(nm 116 s.node s.boot s.seq).toArray⟩ a f c w' (HD.out.below t0.2) (HE.out.below hB5).errs hnt hl (bs_dw (HB.out.below t0.2)) (by omega))
  have HB5 := Lib.hid hB5
  have HS5 := Lib.hid hs5
  have HNT := Lib.hid hnt
  have HNB := Lib.hid hnb
  obtain ⟨T, hT⟩ : ∃ T, T = nm 116 s.node s.boot s.seq := ⟨_, rfl⟩
  obtain ⟨N, hN⟩ : ∃ N, N = nm 98 s.node s.boot s.seq := ⟨_, rfl⟩
  have HTT := Lib.hid (show tn s = T from hT.symm)
  have HNN := Lib.hid (show bn s = N from hN.symm)
  rw [← hT] at KW HNT ⊢
  rw [← hN] at HNB ⊢
  rw [show (ByteArray.mk T.toArray).data.toList = T from rfl] at KW
  clear hT hN hnt hnb hs5 hB5 t0 k0 q0 q1 q2 HT hfn hfb hfs HX3 HW3
  have e5 : Dw.Keep [mb] w w' := Dw.Keep.of_below HW5.out _
  have HK5 := Lib.hid e5
  clear e5
  by_cases h1 : wrE M full T = .ok
  case neg =>
    obtain ⟨x, hx⟩ := erv_ne (aN := aN) (aF := aF) (aG := aG) h1
    rw [hx] at KW
    have HP := Lib.hid (show putE M full s f = wrE M full T ∧ putM M full s f = wrM M full T f by
      unfold putE putM
      rw [HTT.out, if_neg h1, if_neg h1]
      exact ⟨rfl, rfl⟩)
    have HX := Lib.hid hx
    clear h1 hx
    go_wp2_with (go_at_call 32; refine KW.out.mono ?_; rintro e w6 ⟨rfl, hd6, hk6⟩)
    go_ret
    rw [HP.out.1, HP.out.2, HX.out]
    exact ⟨rfl, hd6, HK5.out.trans hk6⟩
  rw [h1, show erv aN aF aG .ok = .nilIface from rfl] at KW
  have H1 := Lib.hid h1
  clear h1
  by_cases h2 : syE (wrM M full T f) full T = .ok
  case neg =>
    obtain ⟨x, hx⟩ := erv_ne (aN := aN) (aF := aF) (aG := aG) h2
    have HP := Lib.hid (show putE M full s f = syE (wrM M full T f) full T ∧ putM M full s f = syM (wrM M full T f) full T by
      unfold putE putM
      rw [HTT.out, if_pos H1.out, if_pos H1.out, if_neg h2, if_neg h2]
      exact ⟨rfl, rfl⟩)
    have HX := Lib.hid hx
    clear h2 hx
    go_wp2_with (first
      | (go_at_call 32; refine KW.out.mono ?_; rintro e w6 ⟨rfl, hd6, hk6⟩; obtain ⟨-, c6⟩ := (HS5.out.keep hk6 (by simpa using hsb)).cells; have KS := Lib.hid (DiskC.sync ⟨T.toArray⟩ w6 hd6 (HE.out.below (keep_below HB5.out hk6 hmb)).errs HNT.out (by have := wrM_len M full T f; omega)); rw [show (ByteArray.mk T.toArray).data.toList = T from rfl, HX.out] at KS; have HK6 := Lib.hid (HK5.out.trans hk6); clear hd6 hk6)
      | (go_at_call 33; refine KS.out.mono ?_; rintro e w7 ⟨rfl, hd7, hk7⟩))
    go_ret
    rw [HP.out.1, HP.out.2, HX.out]
    exact ⟨rfl, hd7, HK6.out.trans hk7⟩
  have HP := Lib.hid (show putE M full s f = reE (syM (wrM M full T f) full T) T N ∧ putM M full s f = reM (syM (wrM M full T f) full T) T N by
    unfold putE putM
    rw [HTT.out, HNN.out, if_pos H1.out, if_pos H1.out, if_pos h2, if_pos h2]
    exact ⟨rfl, rfl⟩)
  have H2 := Lib.hid h2
  clear h2
  go_wp2_with (first
    | (go_at_call 32; refine KW.out.mono ?_; rintro e w6 ⟨rfl, hd6, hk6⟩; have hs6 := HS5.out.keep hk6 (by simpa using hsb); obtain ⟨-, c6⟩ := hs6.cells; have HB6 := Lib.hid (keep_below HB5.out hk6 hmb); have KS := Lib.hid (DiskC.sync ⟨T.toArray⟩ w6 hd6 (HE.out.below HB6.out).errs HNT.out (by have := wrM_len M full T f; omega)); rw [show (ByteArray.mk T.toArray).data.toList = T from rfl, H2.out, show erv aN aF aG .ok = .nilIface from rfl] at KS; have HK6 := Lib.hid (HK5.out.trans hk6); have HS6 := Lib.hid hs6; clear hd6 hk6 hs6)
    | (go_at_call 33; refine KS.out.mono ?_; rintro e w7 ⟨rfl, hd7, hk7⟩; obtain ⟨-, c7⟩ := (HS6.out.keep hk7 (by simpa using hsb)).cells; have KR := Lib.hid (DiskD.rename ⟨T.toArray⟩ ⟨N.toArray⟩ w7 hd7 (HE.out.below (keep_below HB6.out hk7 hmb)).errs HNT.out HNB.out (by have := wrM_len M full T f; have := syM_len (wrM M full T f) full T; omega)); rw [show (ByteArray.mk T.toArray).data.toList = T from rfl, show (ByteArray.mk N.toArray).data.toList = N from rfl] at KR; have HK7 := Lib.hid (HK6.out.trans hk7); clear hd7 hk7)
    | (go_at_call 34; refine KR.out.mono ?_; rintro e w8 ⟨rfl, hd8, hk8⟩))
  go_ret
  rw [HP.out.1, HP.out.2]
  exact ⟨rfl, hd8, HK7.out.trans hk8⟩
end Go.Proofs.YtecnnlppinhmgaaGreatDoor.SfB
namespace Go.Proofs.YtecnnlppinhmgaaGreatDoor.IdBox
open Go.RowKit Go.Proofs.YtecnnlppinhmgaaGreatDoor

/-- an id's box -/
def Ix (w : World) (g : Nat) (x y z : Int) : Prop := w.heap[g]? = some (.cells #[.int .i64 x, .int .i64 y, .int .i64 z] 23 (0, 0))
theorem Ix.below {w w' : World} {g : Nat} {x y z : Int} (h : Ix w g x y z) (hb : Below w.heap.size w w') : Ix w' g x y z := (hb.block _ (Array.getElem?_eq_some_iff.1 h).1).trans h
theorem Ix.cells {w : World} {g : Nat} {x y z : Int} (h : Ix w g x y z) : w.cell? ⟨g, 0, none⟩ = some (.int .i64 x) ∧ w.cell? ⟨g, 1, none⟩ = some (.int .i64 y) ∧ w.cell? ⟨g, 2, none⟩ = some (.int .i64 z) := by
  refine ⟨?_, ?_, ?_⟩
  all_goals (rw [Lib.cell_of_heap h]; rfl)
@[go_sem] theorem undId : Tryz.prog.underlying 23 = some (.struct (Tryz.prog.fieldsOf 23)) := by kernel_rfl
@[go_sem] theorem heldId : Tryz.prog.stoodInHeld 23 = false := by kernel_rfl
theorem fieldsId : (Tryz.prog.fieldsOf 23).toList.map (fun f => (f.name, f.type, f.offset)) = [("Node", 3, 0), ("Boot", 3, 1), ("Seq", 3, 2)] := by kernel_rfl
theorem infoInt : (Tryz.prog.info? 3).map (·.size) = some 1 := by kernel_rfl
theorem run_partInt (xs : Array Value) (o : Nat) (w : World) {x : Value} (h : xs[o]? = some x) : (part 3 xs o).run Tryz.prog w = .ok x w := by
  have := infoInt
  cases hi : Tryz.prog.info? 3 with
  | none => rw [hi] at this; cases this
  | some i =>
    rw [hi] at this
    have hs : i.size = 1 := by simpa using this
    simp [part, typeInfo, hi, sizeOf, hs, h]
/-- are two ids one? -/
def idB (a b c x y z : Int) : Bool := a == x && (b == y && c == z)
theorem equalId (a b c x y z : Int) (w : World) : (Op.equalIn 10000 23 (.agg #[.int .i64 a, .int .i64 b, .int .i64 c]) (.agg #[.int .i64 x, .int .i64 y, .int .i64 z])).run Tryz.prog w = .ok (idB a b c x y z) w := by
  rw [run_equalIn_agg _ _ _ _ _ undId heldId]
  have hf := fieldsId
  generalize (Tryz.prog.fieldsOf 23).toList = fs at hf ⊢
  match fs, hf with
  | [⟨n1, t1, o1, _, _, _, _⟩, ⟨n2, t2, o2, _, _, _, _⟩, ⟨n3, t3, o3, _, _, _, _⟩], hf =>
    simp only [List.map_cons, List.map_nil, List.cons.injEq, Prod.mk.injEq] at hf
    obtain ⟨⟨rfl, rfl, rfl⟩, ⟨rfl, rfl, rfl⟩, ⟨rfl, rfl, rfl⟩, _⟩ := hf
    have e1 : ∀ a b c w, (part 3 #[Value.int .i64 a, .int .i64 b, .int .i64 c] 0).run Tryz.prog w = .ok (.int .i64 a) w := fun a b c w => run_partInt _ _ _ rfl
    have e2 : ∀ a b c w, (part 3 #[Value.int .i64 a, .int .i64 b, .int .i64 c] 1).run Tryz.prog w = .ok (.int .i64 b) w := fun a b c w => run_partInt _ _ _ rfl
    have e3 : ∀ a b c w, (part 3 #[Value.int .i64 a, .int .i64 b, .int .i64 c] 2).run Tryz.prog w = .ok (.int .i64 c) w := fun a b c w => run_partInt _ _ _ rfl
    have e4 : ∀ (n m : Int) w, (Op.equalIn 9999 3 (.int .i64 n) (.int .i64 m)).run Tryz.prog w = .ok (n == m) w := fun n m w => run_equalIn_int w 9998 _ _ _ _ _ Tryz.underlying3
    unfold idB
    cases h1 : a == x <;> cases h2 : b == y <;> cases h3 : c == z <;> simp [Op.eqFields, e1, e2, e3, e4, h1, h2, h3, Result.andThen]
theorem neqId (a b c x y z : Int) (w : World) : (binOp .neq 23 (.agg #[.int .i64 a, .int .i64 b, .int .i64 c]) (.agg #[.int .i64 x, .int .i64 y, .int .i64 z])).run Tryz.prog w = .ok (.bool (!idB a b c x y z)) w := by
  rw [run_neq_struct, equalId]; rfl
theorem eqlId (a b c x y z : Int) (w : World) : (binOp .eql 23 (.agg #[.int .i64 a, .int .i64 b, .int .i64 c]) (.agg #[.int .i64 x, .int .i64 y, .int .i64 z])).run Tryz.prog w = .ok (.bool (idB a b c x y z)) w := by
  rw [run_eql_struct, equalId]; rfl
end Go.Proofs.YtecnnlppinhmgaaGreatDoor.IdBox
namespace Go.Proofs.YtecnnlppinhmgaaGreatDoor.SfC
open Go.RowKit Go.Proofs.YtecnnlppinhmgaaGreatDoor Go.Proofs.YtecnnlppinhmgaaGreatDoor.HtW Go.Proofs.YtecnnlppinhmgaaGreatDoor.FrJ Go.Proofs.YtecnnlppinhmgaaGreatDoor.FrG Go.Proofs.YtecnnlppinhmgaaGreatDoor.DiskB Go.Proofs.YtecnnlppinhmgaaGreatDoor.SfA Go.Proofs.YtecnnlppinhmgaaGreatDoor.SfB Go.Proofs.YtecnnlppinhmgaaGreatDoor.IdBox

/-- what stands while Get reads -/
abbrev S3 (w : World) (sb d g : Nat) (x y z : Int) (W : World) : Prop := (W.cell? ⟨sb, 1, none⟩ = some (.pointer (some ⟨d, 0, none⟩)) ∧ W.cell? ⟨g, 0, none⟩ = some (.int .i64 x) ∧ W.cell? ⟨g, 1, none⟩ = some (.int .i64 y) ∧ W.cell? ⟨g, 2, none⟩ = some (.int .i64 z)) ∧ Carry w W
theorem S3.below {w : World} {sb d g : Nat} {x y z : Int} {W W' : World} (h : S3 w sb d g x y z W) (hb : Below W.heap.size W W') : S3 w sb d g x y z W' := by
  obtain ⟨⟨h1, h2, h3, h4⟩, h5⟩ := h
  have k1 : sb < W.heap.size := World.block_lt_of_cell? _ _ h1
  have k2 : g < W.heap.size := World.block_lt_of_cell? _ _ h2
  exact ⟨⟨(hb.cell (p := ⟨sb, 1, none⟩) k1).trans h1, (hb.cell (p := ⟨g, 0, none⟩) k2).trans h2, (hb.cell (p := ⟨g, 1, none⟩) k2).trans h3, (hb.cell (p := ⟨g, 2, none⟩) k2).trans h4⟩, h5.below hb⟩

/-- what Get answers of a file f that lies there -/
def GetV (f : List UInt8) (x y z : Int) (node : Nat) : Bool :=
  match Fp.get f with
  | .error _ => false
  | .ok (s, _) => idB s.node s.boot s.seq x y z && (s.shard == node)
def SG (aL : Addr) (f : List UInt8) (w' : World) : Bool → Ending → Prop
  | true, e => ∃ a c, e = .returned (.tuple #[.slice a f.length c, .nilIface]) ∧ Bs w' a f c
  | false, e => e = .returned (.tuple #[.slice none 0 0, Err.ev aL])

set_option maxHeartbeats 4000000 in
set_option maxRecDepth 100000 in
theorem get {lo d mb sb : Nat} {M : Dp.Files} {full : Bool} {lost : Int} {node : Nat} (x y z : Int) (f : List UInt8) (w0 w : World) {aL aB aD aN aF aG : Addr} (hE : Env w0 aL aB aD aN aF aG) (h0 : Below w0.heap.size w0 w) (hS : Sf w sb node d) (hd : Dw.Drive lo d mb w M full lost) (hM : ∀ p ∈ M, p.2.bytes.length ≤ 140737488351232) (hx : FrK.goodB x y z = true) (ha : askE M (nm 98 x y z) = .ok) (hf : rdL M (nm 98 x y z) = f) (hl : f.length ≤ 140737488351232) :
    Calls Tryz.prog 14 #[.pointer (some ⟨sb, 0, none⟩), .agg #[.int .i64 x, .int .i64 y, .int .i64 z]] w fun e w' => SG aL f w' (GetV f x y z node) e ∧ Below w.heap.size w w' := by
  have hgb : 0 ≤ x ∧ x < 16 ∧ 0 ≤ y ∧ y ≤ 1099511627776 ∧ 0 ≤ z ∧ z ≤ 1099511627776 := by unfold FrK.goodB at hx; exact of_decide_eq_true hx
  have hfx : Few x := ⟨by omega, by omega⟩
  have hfy : Few y := ⟨by omega, by omega⟩
  have hfz : Few z := ⟨by omega, by omega⟩
  obtain ⟨w1, hw1, hb1, hx1⟩ : ∃ w1, w1 = w.alloc (.cells #[.int .i64 x, .int .i64 y, .int .i64 z] 23) ∧ Below w.heap.size w w1 ∧ Ix w1 w.heap.size x y z := ⟨_, rfl, (Below.refl _ _).alloc (Nat.le_refl _) _, heap_alloc_new _ _⟩
  have KG := Lib.hid (FrK.good x y z w1)
  rw [hx] at KG
  have HE := Lib.hid hE
  have H0 := Lib.hid h0
  have HS := Lib.hid hS
  have HD := Lib.hid hd
  have HM := Lib.hid hM
  have HA := Lib.hid ha
  have HF := Lib.hid hf
  have HX := Lib.hid hx1
  have HW1 := Lib.hid hb1
  obtain ⟨c0, c1, c2⟩ := hx1.cells
  clear hE h0 hS hd hM ha hf hx1 hb1 hx hgb
  go_enter Tryz.func14, Tryz.ntmps14
  go_upto_region 1 with fail
  rw [← hw1]
  clear hw1
  go_upto_region 3 with (go_at_call 37; refine KG.out.mono ?_; rintro e w2 ⟨rfl, hb2⟩)
  have HW2 := Lib.hid (HW1.out.trans (hb2.mono HW1.out.size))
  have HX2 := Lib.hid (HX.out.below hb2)
  have hS3 : S3 w sb d w.heap.size x y z w2 := ⟨⟨(HS.out.below HW2.out).cells.2, HX2.out.cells.1, HX2.out.cells.2.1, HX2.out.cells.2.2⟩, (HE.out.below (H0.out.trans (HW2.out.mono H0.out.size))).tab, HW2.out⟩
  have HS3 := Lib.hid (hS3.below (Below.refl _ _).drew)
  obtain ⟨⟨q0, q1, q2, q3⟩, -⟩ := hS3
  have KN := Lib.hid (show ∀ W, S3 w sb d w.heap.size x y z W → Calls Tryz.prog 31 #[.string ⟨#[98]⟩, .agg #[.int .i64 x, .int .i64 y, .int .i64 z]] W fun e w' => e = .returned (.string ⟨(nm 98 x y z).toArray⟩) ∧ S3 w sb d w.heap.size x y z w' from
    fun W hW => (name 98 x y z W hfx hfy hfz hW.2.1).mono fun e w' ⟨h1, h2⟩ => ⟨h1, hW.below h2⟩)
  have HNS := Lib.hid (nm_size (x := 98) hfx hfy hfz)
  obtain ⟨N, hN⟩ : ∃ N, N = nm 98 x y z := ⟨_, rfl⟩
  rw [← hN] at KN HNS HA HF
  have KR := Lib.hid (show ∀ W, S3 w sb d w.heap.size x y z W → Calls Tryz.prog 38 #[.pointer (some ⟨d, 0, none⟩), .string ⟨N.toArray⟩] W fun e w' => (∃ a c, e = .returned (.tuple #[.slice a f.length c, .nilIface]) ∧ Bs w' a f c) ∧ S3 w sb d w.heap.size x y z w' from
    fun W hW => by
      have h := DiskC.read ⟨N.toArray⟩ W (HD.out.below hW.2.2) (HE.out.below (H0.out.trans (hW.2.2.mono H0.out.size))).errs HNS.out HM.out
      rw [show (ByteArray.mk N.toArray).data.toList = N from rfl, HA.out, HF.out, show erv aN aF aG .ok = .nilIface from rfl] at h
      exact h.mono fun e w' ⟨⟨a, c, h1, h2⟩, h3⟩ => ⟨⟨a, c, h1, bs_of_dw h2⟩, hW.below h3⟩)
  clear hb2 c0 c1 c2 hN
  go_region_held3 (fun W => (W.cell? ⟨sb, 1, none⟩ = some (.pointer (some ⟨d, 0, none⟩)) ∧ W.cell? ⟨w.heap.size, 0, none⟩ = some (.int .i64 x) ∧ W.cell? ⟨w.heap.size, 1, none⟩ = some (.int .i64 y) ∧ W.cell? ⟨w.heap.size, 2, none⟩ = some (.int .i64 z)) ∧ Carry w W)
    (first | exact HS3.out | assumption | go_keep)
    (first
      | (go_at_call 38; refine (KR.out _ (by assumption)).mono ?_; rintro e w4 ⟨⟨a4, c4, rfl, hB4⟩, hS4⟩)
      | (go_at_call 31; refine (KN.out _ (by first | assumption | exact HS3.out)).mono ?_; rintro e w3 ⟨rfl, hS3⟩))
  have HC4 := Lib.hid hS4.2
  have HB4 := Lib.hid hB4
  have HS4 := Lib.hid (HS.out.below hS4.2.2)
  have hk := HS4.out.cells.1
  obtain ⟨⟨-, i0, i1, i2⟩, -⟩ := hS4
  have HE4 := Lib.hid (HE.out.below (H0.out.trans (HC4.out.2.mono H0.out.size)))
  have KF := Lib.hid (FrJ.get f c4 w4 HE4.out.ev hB4 hl)
  clear hB4 KN KR KG HS3 HNS HA HF HM HD q0 q1 q2 q3 HX HX2 HW1 HW2
  cases hr : Fp.get f with
  | error k =>
    rw [hr] at KF
    have HV := Lib.hid (show GetV f x y z node = false by unfold GetV; rw [hr])
    clear hr
    obtain ⟨er, her⟩ : ∃ er, er = (if k = 4 then aB else aD) := ⟨_, rfl⟩
    have KF := Lib.hid (show Calls Tryz.prog 30 #[.slice a4 f.length c4] w4 fun e w' => e = .returned (.tuple #[.agg sc0, .slice none 0 0, Err.ev er]) ∧ Below w4.heap.size w4 w' by rw [her]; exact KF.out)
    have HER := Lib.hid her
    clear her
    go_upto_region 7 with (go_at_call 30; refine KF.out.mono ?_; rintro e w5 ⟨rfl, hb5⟩)
    obtain ⟨w6, hw6, hb6⟩ : ∃ w6, w6 = w5.alloc (.cells sc0 34) ∧ Below w5.heap.size w5 w6 := ⟨_, rfl, (Below.refl _ _).alloc (Nat.le_refl _) _⟩
    rw [← hw6]
    have hb46 := hb5.trans (hb6.mono hb5.size)
    have HW6 := Lib.hid (HC4.out.2.trans (hb46.mono HC4.out.2.size))
    have HE6 := Lib.hid (HE4.out.below hb46)
    clear hw6 hb6 hb5 hb46
    have eB := HE6.out.ev.bytes
    have eD := HE6.out.ev.digest
    have eL := HE6.out.lost
    by_cases h4 : k = 4
    · rw [if_pos h4] at HER
      obtain rfl := HER.out
      have KI := Lib.hid (show ∀ n, Calls Tryz.prog 39 #[Err.ev er, Err.ev er] (w6.drewN n) fun e w'' => e = .returned (.bool true) ∧ ∃ m, w'' = w6.drewN m from fun n => (IsF.is_same er (w6.drewN n)).mono fun e w'' h => ⟨h.1, n, h.2.symm⟩)
      go_quiet (first | (go_at_call 39; with_reducible exact KI.out _))
      go_upto_region 8 with fail
      go_quiet (fail)
      go_wp2_with fail
      go_ret2
      rw [HV.out]
      exact ⟨rfl, FrA.below_drewN HW6.out _⟩
    · rw [if_neg h4] at HER
      obtain rfl := HER.out
      have KI := Lib.hid (show ∀ n, Calls Tryz.prog 39 #[Err.ev er, Err.ev er] (w6.drewN n) fun e w'' => e = .returned (.bool true) ∧ ∃ m, w'' = w6.drewN m from fun n => (IsF.is_same er (w6.drewN n)).mono fun e w'' h => ⟨h.1, n, h.2.symm⟩)
      have KO := Lib.hid (show ∀ n, Calls Tryz.prog 39 #[Err.ev er, Err.ev aB] (w6.drewN n) fun e w'' => e = .returned (.bool false) ∧ ∃ m, w'' = w6.drewN m from fun n => by
        obtain ⟨cb, tb, hB⟩ := HE6.out.bB
        obtain ⟨cd, td, hD⟩ := HE6.out.bD
        exact (IsF.is_other (w := w6.drewN n) HE6.out.ne hD hB).mono fun e w'' h => ⟨h.1, n, h.2.symm⟩)
      go_quiet (first | (go_at_call 39; with_reducible exact KO.out _) | (go_at_call 39; with_reducible exact KI.out _))
      go_upto_region 8 with fail
      go_quiet (fail)
      go_wp2_with fail
      go_ret2
      rw [HV.out]
      exact ⟨rfl, FrA.below_drewN HW6.out _⟩
  | ok p =>
    obtain ⟨s, dt⟩ := p
    rw [hr] at KF
    have HV := Lib.hid (show GetV f x y z node = (idB s.node s.boot s.seq x y z && (s.shard == node)) by unfold GetV; rw [hr])
    clear hr
    have KF := Lib.hid (show Calls Tryz.prog 30 #[.slice a4 f.length c4] w4 fun e w' => (∃ a' c', e = .returned (.tuple #[.agg (sc s), .slice a' dt.length c', .nilIface]) ∧ Bs w' a' dt c') ∧ Below w4.heap.size w4 w' from KF.out)
    go_upto_region 7 with (go_at_call 30; refine KF.out.mono ?_; rintro e w5 ⟨⟨a5, c5, rfl, -⟩, hb5⟩)
    obtain ⟨w6, hw6, hb6, hx6⟩ : ∃ w6, w6 = w5.alloc (.cells (sc s) 34) ∧ Below w5.heap.size w5 w6 ∧ w6.heap[w5.heap.size]? = some (.cells (sc s) 34 (0, 0)) := ⟨_, rfl, (Below.refl _ _).alloc (Nat.le_refl _) _, heap_alloc_new _ _⟩
    rw [← hw6]
    have hb46 := hb5.trans (hb6.mono hb5.size)
    have HW6 := Lib.hid (HC4.out.2.trans (hb46.mono HC4.out.2.size))
    have HE6 := Lib.hid (HE4.out.below hb46)
    have HB6 := Lib.hid (HB4.out.below hb46)
    obtain ⟨G, hG⟩ : ∃ G, G = w5.heap.size := ⟨_, rfl⟩
    rw [← hG] at hx6 ⊢
    have g0 : w6.cell? ⟨G, 0, none⟩ = some (.int .i64 (s.node : Int)) := by rw [Lib.cell_of_heap hx6]; rfl
    have g1 : w6.cell? ⟨G, 1, none⟩ = some (.int .i64 (s.boot : Int)) := by rw [Lib.cell_of_heap hx6]; rfl
    have g2 : w6.cell? ⟨G, 2, none⟩ = some (.int .i64 (s.seq : Int)) := by rw [Lib.cell_of_heap hx6]; rfl
    have g3 : w6.cell? ⟨G, 3, none⟩ = some (.int .i64 (s.shard : Int)) := by rw [Lib.cell_of_heap hx6]; rfl
    have j0 := (hb46.cell (p := ⟨w.heap.size, 0, none⟩) (World.block_lt_of_cell? _ _ i0)).trans i0
    have j1 := (hb46.cell (p := ⟨w.heap.size, 1, none⟩) (World.block_lt_of_cell? _ _ i1)).trans i1
    have j2 := (hb46.cell (p := ⟨w.heap.size, 2, none⟩) (World.block_lt_of_cell? _ _ i2)).trans i2
    have jk := (hb46.cell (p := ⟨sb, 0, none⟩) (World.block_lt_of_cell? _ _ hk)).trans hk
    clear hw6 hb6 hb5 hb46 hx6 hG i0 i1 i2 hk
    have eB := HE6.out.ev.bytes
    have eD := HE6.out.ev.digest
    have eL := HE6.out.lost
    have hq : ∀ W, (binOp .neq 23 (.agg #[.int .i64 (s.node : Int), .int .i64 (s.boot : Int), .int .i64 (s.seq : Int)]) (.agg #[.int .i64 x, .int .i64 y, .int .i64 z])).run Tryz.prog W = .ok (.bool (!idB s.node s.boot s.seq x y z)) W := fun W => neqId _ _ _ _ _ _ W
    have KI := Lib.hid (show ∀ b n, Calls Tryz.prog 39 #[.nilIface, Err.ev b] (w6.drewN n) fun e w'' => e = .returned (.bool false) ∧ ∃ m, w'' = w6.drewN m from fun b n => (IsF.is_nil b (w6.drewN n)).mono fun e w'' h => ⟨h.1, n, h.2.symm⟩)
    cases hi : idB s.node s.boot s.seq x y z
    · rw [hi] at HV hq
      go_quiet (first | (go_at_call 39; with_reducible exact KI.out _ _))
      go_upto_region 8 with fail
      go_quiet (fail)
      go_wp2_with fail
      go_ret2
      rw [HV.out, Bool.false_and]
      exact ⟨rfl, FrA.below_drewN (FrA.below_drewN HW6.out _) _⟩
    · rw [hi] at HV hq
      cases hs : (((s.shard : Nat) : Int) != (node : Int))
      · go_quiet (first | (go_at_call 39; with_reducible exact KI.out _ _))
        go_wp2_with fail
        go_ret2
        rw [HV.out, Bool.true_and, show (s.shard == node) = true by rw [beq_iff_eq]; have h := bne_eq_false_iff_eq.1 hs; omega]
        exact ⟨⟨a4, c4, rfl, HB6.out.below (FrA.below_drewN (Below.refl _ _) _)⟩, FrA.below_drewN HW6.out _⟩
      · go_quiet (first | (go_at_call 39; with_reducible exact KI.out _ _))
        go_upto_region 8 with fail
        go_quiet (fail)
        go_wp2_with fail
        go_ret2
        rw [HV.out, Bool.true_and, show (s.shard == node) = false by rw [beq_eq_false_iff_ne]; intro h; rw [h] at hs; simp at hs]
        exact ⟨rfl, FrA.below_drewN (FrA.below_drewN HW6.out _) _⟩
end Go.Proofs.YtecnnlppinhmgaaGreatDoor.SfC
namespace Go.Proofs.YtecnnlppinhmgaaGreatDoor.SfP
open Go.Proofs.YtecnnlppinhmgaaGreatDoor Go.Proofs.YtecnnlppinhmgaaGreatDoor.DiskB Go.Proofs.YtecnnlppinhmgaaGreatDoor.SfA Go.Proofs.YtecnnlppinhmgaaGreatDoor.SfB

theorem gd_tn {s : Fp.Stamp} (h : s.fits) : DiskA.gd (tn s) = true := gd_nm (by decide) (few_node h) (few_boot h) (few_seq h)
theorem gd_bn {s : Fp.Stamp} (h : s.fits) : DiskA.gd (bn s) = true := gd_nm (by decide) (few_node h) (few_boot h) (few_seq h)
theorem tn_ne (s : Fp.Stamp) : tn s ≠ bn s := fun h => by unfold tn bn nm at h; rw [List.cons.injEq] at h; exact absurd h.1 (by decide)
theorem bn_lt (s : Fp.Stamp) : bn s < tn s := by unfold tn bn nm; exact List.cons_lt_cons_iff.2 (.inl (by decide))
/-- a shelf that holds one file -/
def one (n f : List UInt8) : Dp.Files := [(n, ⟨f, f, true⟩)]
theorem put_first (s : Fp.Stamp) (f : List UInt8) (h : s.fits) : putE [] false s f = .ok ∧ putM [] false s f = one (bn s) f := by
  have h1 := gd_tn h
  have h2 := gd_bn h
  have h3 := tn_ne s
  simp [putE, putM, wrE, wrM, syE, syM, reE, reM, askE, old, Dp.look, Dp.put, Dp.del, h1, h2, one, List.lt_irrefl]
theorem put_again (s : Fp.Stamp) (a f : List UInt8) (h : s.fits) : putE (one (bn s) a) false s f = .ok ∧ putM (one (bn s) a) false s f = one (bn s) f := by
  have h1 := gd_tn h
  have h2 := gd_bn h
  have h3 := tn_ne s
  have h4 := bn_lt s
  have h5 : ¬ tn s < bn s := fun h => List.lt_irrefl _ (List.lt_trans h h4)
  simp [putE, putM, wrE, wrM, syE, syM, reE, reM, askE, old, Dp.look, Dp.put, Dp.del, h1, h2, h3.symm, h5, one, List.lt_irrefl]
theorem put_full (s : Fp.Stamp) (a f : List UInt8) (h : s.fits) : putE (one (bn s) a) true s f = .full ∧ putM (one (bn s) a) true s f = one (bn s) a := by
  have h1 := gd_tn h
  simp [putE, putM, wrE, wrM, h1]
theorem crash_one (n f : List UInt8) : Dp.crash (one n f) = one n f := by simp [Dp.crash, one]
theorem ask_one {n : List UInt8} (f : List UInt8) (h : DiskA.gd n = true) : askE (one n f) n = .ok ∧ rdL (one n f) n = f := by
  simp [askE, rdL, old, Dp.look, one, h]
end Go.Proofs.YtecnnlppinhmgaaGreatDoor.SfP
namespace Go.Proofs.YtecnnlppinhmgaaGreatDoor.SfD
open Go.RowKit Go.Proofs.YtecnnlppinhmgaaGreatDoor Go.Proofs.YtecnnlppinhmgaaGreatDoor.HtW Go.Proofs.YtecnnlppinhmgaaGreatDoor.FrC Go.Proofs.YtecnnlppinhmgaaGreatDoor.FrG Go.Proofs.YtecnnlppinhmgaaGreatDoor.DiskB Go.Proofs.YtecnnlppinhmgaaGreatDoor.SfA Go.Proofs.YtecnnlppinhmgaaGreatDoor.SfB Go.Proofs.YtecnnlppinhmgaaGreatDoor.SfC Go.Proofs.YtecnnlppinhmgaaGreatDoor.IdBox Go.Proofs.YtecnnlppinhmgaaGreatDoor.SfP

/-- alive's stamp and frame -/
def st : Fp.Stamp := ⟨1, 2, 3, 0, 2⟩
def fr : List UInt8 := Fp.put st [97, 98]
theorem st_fits : st.fits := by decide
theorem get_fr : Fp.get fr = .ok (st, [97, 98]) := Fp.get_put st_fits (by decide)
theorem fr_len : fr.length ≤ 140737488351232 := Nat.le_trans (FrN.frame_len st [97, 98]) (by decide)
theorem getV_fr : GetV fr 1 2 3 0 = true := by unfold GetV; rw [get_fr]; decide

theorem two_bs (w : World) : Bs (w.alloc (.cells #[.int .u8 97, .int .u8 98] 5 (2, 3))) (some ⟨w.heap.size, 0, none⟩) [97, 98] 2 := by
  refine ⟨Nat.le_refl _, (fun h => by cases h), .inr ⟨_, 0, rfl, by simp, fun j x hj => ?_⟩⟩
  match j, hj with
  | 0, hj => simp at hj; subst hj; rw [Lib.cell_of_heap (heap_alloc_new _ _)]; rfl
  | 1, hj => simp at hj; subst hj; rw [Lib.cell_of_heap (heap_alloc_new _ _)]; rfl
theorem ix_keep {w w' : World} {g mb : Nat} {x y z : Int} (h : Ix w g x y z) (hk : Dw.Keep [mb] w w') (hg : g ≠ mb) : Ix w' g x y z := (hk.block _ (Array.getElem?_eq_some_iff.1 h).1 (by simpa using hg)).trans h
theorem one_names {n f : List UInt8} (h : n.length ≤ maxLen) : ∀ p ∈ SfP.one n f, p.1.length ≤ maxLen := fun p hp => by
  unfold SfP.one at hp
  rw [List.mem_singleton] at hp
  subst hp
  exact h
theorem one_bytes {n f : List UInt8} (h : f.length ≤ 140737488351232) : ∀ p ∈ SfP.one n f, p.2.bytes.length ≤ 140737488351232 := fun p hp => by
  unfold SfP.one at hp
  rw [List.mem_singleton] at hp
  subst hp
  exact h

set_option maxHeartbeats 4000000 in
set_option maxRecDepth 100000 in
theorem alive (w : World) {aL aB aD aN aF aG : Addr} (hE : Env w aL aB aD aN aF aG) : Calls Tryz.prog 7 #[] w fun e w' => e = .returned (.bool true) ∧ Below w.heap.size w w' := by
  have KN := Lib.hid (SfA.new 0 (by decide) w hE.errs.lt)
  have HE := Lib.hid hE
  clear hE
  go_enter Tryz.func7, Tryz.ntmps7
  go_upto_region 4 with (first
    | (go_at_call 8; refine KN.out.mono ?_; rintro e w1 ⟨sb, rfl, hS1, hsb, hD1, hb1⟩; have HB1 := Lib.hid hb1; have HS1 := Lib.hid hS1; have HD1 := Lib.hid hD1; have HSB := Lib.hid hsb; clear hS1 hD1 hb1 hsb)
    | (go_at_call 12; refine (drive _ _ _ _ HS1.out).mono ?_; rintro e w2 ⟨rfl, hw2⟩; subst hw2))
  have HL := Lib.hid HE.out.errs.lt
  obtain ⟨w2, hw2, hb2, hx2⟩ : ∃ w2, w2 = w1.alloc (.cells #[.int .i64 1, .int .i64 2, .int .i64 3] 23) ∧ Below w1.heap.size w1 w2 ∧ Ix w2 w1.heap.size 1 2 3 := ⟨_, rfl, (Below.refl _ _).alloc (Nat.le_refl _) _, heap_alloc_new _ _⟩
  obtain ⟨w3, hw3, hb3, hB3⟩ : ∃ w3, w3 = w2.alloc (.cells #[.int .u8 97, .int .u8 98] 5 (2, 3)) ∧ Below w2.heap.size w2 w3 ∧ Bs w3 (some ⟨w2.heap.size, 0, none⟩) [97, 98] 2 := ⟨_, rfl, (Below.refl _ _).alloc (Nat.le_refl _) _, two_bs _⟩
  have HB3 := Lib.hid (HB1.out.trans ((hb2.trans (hb3.mono hb2.size)).mono HB1.out.size))
  have HB13 := Lib.hid (hb2.trans (hb3.mono hb2.size))
  have HX3 := Lib.hid (hx2.below hb3)
  have KP := Lib.hid (FrM.put st [97, 98] 2 w3 hB3 (by decide) (by decide))
  have hz1 : w.heap.size + 2 ≤ w1.heap.size := HD1.out.low
  have HM := Lib.hid (show w.heap.size < w3.heap.size by have := HB13.out.size; omega)
  obtain ⟨p0, p1, p2⟩ := hx2.cells
  clear hb2 hx2 hb3 hB3
  go_upto_region 5 with fail
  rw [← hw2]
  clear hw2
  obtain ⟨g, hg⟩ : ∃ g, g = w1.heap.size := ⟨_, rfl⟩
  rw [← hg] at p0 p1 p2 HX3 hz1 ⊢
  clear hg
  have kc := Lib.run_convert_bytes_const (P := Tryz.prog) w2 24 5 #[.int .u8 97, .int .u8 98] 2 2 Tryz.underlying24 Tryz.underlying5
  go_upto_region 6 with (rw [← hw3]; go_at_call 10; refine KP.out.mono ?_; rintro e w4 ⟨v, rfl, hO4, hb4⟩)
  obtain ⟨a4, c4, rfl, hB4⟩ := hO4.bs
  have HO4 := Lib.hid hO4
  have HB4 := Lib.hid (HB3.out.trans (hb4.mono HB3.out.size))
  have HB14 := Lib.hid (HB13.out.trans (hb4.mono HB13.out.size))
  have HX4 := Lib.hid (HX3.out.below hb4)
  have KQ := Lib.hid (SfB.put fr c4 st [97, 98] w w4 HE.out HB4.out (Nat.le_refl _) (HS1.out.below HB14.out) (by have := HSB.out; omega) (HD1.out.below HB14.out) hB4 fr_len (by decide) get_fr rfl st_fits)
  rw [(put_first st fr st_fits).1, (put_first st fr st_fits).2, show erv aN aF aG .ok = .nilIface from rfl] at KQ
  have HG := Lib.hid (show w.heap.size ≠ g by omega)
  have h3s := HB3.out.size
  clear hB4 hO4 hb4 p0 p1 p2 KP hw3
  go_upto_region 7 with (go_at_call 11; refine KQ.out.mono ?_; rintro e w5 ⟨rfl, hD5, hk5⟩)
  have HS5 := Lib.hid ((HS1.out.below HB14.out).keep hk5 (by have := HSB.out; simp; omega))
  have HD5 := Lib.hid hD5
  have HK5 := Lib.hid hk5
  have KC := Lib.hid (DiskF.crash w5 hD5 (by decide) (one_names (nm_size (x := 98) (few_node st_fits) (few_boot st_fits) (few_seq st_fits))))
  rw [crash_one] at KC
  clear hD5 hk5
  go_upto_region 8 with (first
    | (go_at_call 12; refine (drive _ _ _ _ HS5.out).mono ?_; rintro e w6 ⟨rfl, hw6⟩; subst hw6)
    | (go_at_call 20; refine KC.out.mono ?_; rintro e w6 ⟨rfl, hD6, hk6⟩))
  have HD6 := Lib.hid hD6
  have HK46 := Lib.hid (HK5.out.trans hk6)
  have HS6 := Lib.hid (HS5.out.keep hk6 (by have := HSB.out; simp; omega))
  have hx6 := (ix_keep (ix_keep HX4.out HK5.out HG.out.symm) hk6 HG.out.symm).cells
  obtain ⟨p0, p1, p2⟩ := hx6
  have HB6 := Lib.hid (keep_below (keep_below HB4.out HK5.out (Nat.le_refl _)) hk6 (Nat.le_refl _))
  have hgd := gd_bn st_fits
  have KG := Lib.hid (SfC.get 1 2 3 fr w w6 HE.out HB6.out HS6.out hD6 (one_bytes fr_len) (by decide) (ask_one fr hgd).1 (ask_one fr hgd).2 fr_len)
  rw [getV_fr] at KG
  clear hD6 hk6 hgd KC KQ
  go_upto_region 9 with (go_at_call 14; refine KG.out.mono ?_; rintro e w7 ⟨⟨a7, c7, rfl, hB7⟩, hb7⟩)
  have kg := to_string hB7
  have hO7 := (FrM.own_keep HO4.out HK46.out HM.out).below hb7
  obtain ⟨a4', c4', e4, hB4'⟩ := hO7.bs
  cases e4
  have kf := to_string hB4'
  have HB7 := Lib.hid (HB6.out.trans (hb7.mono HB6.out.size))
  rw [show Fp.put st [97, 98] = fr from rfl] at kf ⊢
  clear hB7 hB4' hO7 hb7
  go_wp2
  go_ret
  exact ⟨rfl, HB7.out⟩
end Go.Proofs.YtecnnlppinhmgaaGreatDoor.SfD
