/-
  The walk of bollardlaw07.DiskApart.
-/
import Derived.Test.YtmimkgfkicgfiaaDoorDiskN
import Derived.Test.YtmimkgfkicgfiaaDoorDiskO
import Derived.Test.YtmimkgfkicgfiaaDoorDiskL
import Derived.Sort.CutIn
import Derived.Sort.LoopGhostIn
import Derived.Test.YtmimkgfkicgfiaaDoorFr
namespace Go.Proofs.YtmimkgfkicgfiaaDoor.DiskP
open Go.RowKit Go.Proofs.YtmimkgfkicgfiaaDoor Go.Proofs.YtmimkgfkicgfiaaDoor.Dw Go.Proofs.YtmimkgfkicgfiaaDoor.DiskB Go.Proofs.YtmimkgfkicgfiaaDoor.DiskC Go.Proofs.YtmimkgfkicgfiaaDoor.DiskH Go.Proofs.YtmimkgfkicgfiaaDoor.DiskN Go.Proofs.YtmimkgfkicgfiaaDoor.DiskL

set_option maxHeartbeats 1000000 in
theorem same {lo lo' : Nat} (l : List UInt8) {a a' : Option Addr} {c c' : Nat} (w : World) (h : Bs lo w a l c) (h' : Bs lo' w a' l c') :
    Calls Tryd.prog 42 #[.slice a l.length c, .slice a' l.length c'] w fun e w' => e = .returned (.bool true) ∧ w = w' := by
  have k1 := DiskG.to_string h
  have k2 := DiskG.to_string h'
  clear h h'
  generalize l.length = n at *
  go_enter Tryd.func42, Tryd.ntmps42
  go_wp2
  go_ret
  exact ⟨rfl, rfl⟩

theorem BsIn.keepL {B : Nat} {l' : List Nat} {w w' : World} {a : Option Addr} {l : List UInt8} {c : Nat} (h : BsIn B w a l c) (hk : Keep l' w w') (hl : ∀ k ∈ l', B ≤ k) : BsIn B w' a l c := by
  refine ⟨⟨h.1.1, h.1.2.1, ?_⟩, ?_⟩
  all_goals rcases h.2 with h0 | ⟨g, o, h1, h2, h3, h4⟩
  · exact .inl h0
  · exact .inr ⟨g, o, h1, Nat.zero_le _, Nat.lt_of_lt_of_le h3 hk.size, fun j x hx => (hk.cell (p := ⟨g, o + j, none⟩) h3 (fun hm => by have := hl g hm; omega)).trans (h4 j x hx)⟩
  · exact .inl h0
  · exact .inr ⟨g, o, h1, h2, Nat.lt_of_lt_of_le h3 hk.size, fun j x hx => (hk.cell (p := ⟨g, o + j, none⟩) h3 (fun hm => by have := hl g hm; omega)).trans (h4 j x hx)⟩
theorem Script.keepL {B : Nat} {l' : List Nat} {w w' : World} {a : Option Addr} {os : List OpV} (h : Script B w a os) (hk : Keep l' w w') (hl : ∀ k ∈ l', B ≤ k) : Script B w' a os :=
  h.imp id fun ⟨b, o, h1, h2, h3, h4⟩ => ⟨b, o, h1, h2, Nat.lt_of_lt_of_le h3 hk.size, fun j op hj => by
    have hn : b ∉ l' := fun hm => by have := hl b hm; omega
    obtain ⟨⟨c0, c1, c2, c3, c4, c5⟩, c6, c7⟩ := h4 j op hj
    exact ⟨⟨(hk.cell (p := ⟨b, _, none⟩) h3 hn).trans c0, (hk.cell (p := ⟨b, _, none⟩) h3 hn).trans c1, (hk.cell (p := ⟨b, _, none⟩) h3 hn).trans c2, (hk.cell (p := ⟨b, _, none⟩) h3 hn).trans c3, (hk.cell (p := ⟨b, _, none⟩) h3 hn).trans c4, (hk.cell (p := ⟨b, _, none⟩) h3 hn).trans c5⟩, BsIn.keepL c6 hk hl, c7⟩⟩

theorem bs_two (w : World) : Bs 0 (w.alloc (.cells #[.int .u8 1, .int .u8 2] 5)) (some ⟨w.heap.size, 0, none⟩) [1, 2] 2 := by
  refine ⟨Nat.le_refl _, (fun h => by cases h), .inr ⟨_, _, rfl, Nat.zero_le _, by simp, fun j x hx => ?_⟩⟩
  match j, hx with
  | 0, hx => simp at hx; subst hx; simp
  | 1, hx => simp at hx; subst hx; simp

theorem ap0 : Ap (p0 [1, 2]) := by
  refine ⟨?_, by decide, by decide, by decide, by decide⟩
  simp [Dp.Up, p0]

section
variable {lo d mb : Nat} {lost : Int} {w : World} {aN aF aG : Addr} {M : Dp.Files} {full : Bool}
theorem neF {b : ByteArray} (h : (b.toList == [102]) = false) : b.data.toList ≠ lF := by
  rw [Com.toList_data] at h
  simpa [lF] using h
theorem writeA (hap : Ap M) (hd : Drive lo d mb w M full lost) (he : Errs w aN aF aG) {n : ByteArray} (hn : (n.toList == [102]) = false) (hs : n.size ≤ maxLen) {a : Option Addr} (l : List UInt8) {c : Nat} (hl : l.length ≤ 140737488351232) (hb : Bs 0 w a l c) :
    Calls Tryd.prog 35 #[.pointer (some ⟨d, 0, none⟩), .string n, .slice a l.length c] w fun e w' => (∃ v, e = .returned v) ∧ (∃ M2, Ap M2 ∧ Drive lo d mb w' M2 full lost) ∧ Keep [mb] w w' := by
  refine (DiskB.write n a l c w hd he hs hl hb (by have := hap.len; omega)).mono ?_
  rintro e w' ⟨rfl, h1, h2⟩
  exact ⟨⟨_, rfl⟩, ⟨_, hap.write full l (neF hn) hl, h1⟩, h2⟩
theorem syncA (hap : Ap M) (hd : Drive lo d mb w M full lost) (he : Errs w aN aF aG) {n : ByteArray} (hn : (n.toList == [102]) = false) (hs : n.size ≤ maxLen) :
    Calls Tryd.prog 36 #[.pointer (some ⟨d, 0, none⟩), .string n] w fun e w' => (∃ v, e = .returned v) ∧ (∃ M2, Ap M2 ∧ Drive lo d mb w' M2 full lost) ∧ Keep [mb] w w' := by
  refine (DiskC.sync n w hd he hs (by have := hap.len; omega)).mono ?_
  rintro e w' ⟨rfl, h1, h2⟩
  exact ⟨⟨_, rfl⟩, ⟨_, hap.sync full (neF hn), h1⟩, h2⟩
theorem deleteA (hap : Ap M) (hd : Drive lo d mb w M full lost) (he : Errs w aN aF aG) {n : ByteArray} (hn : (n.toList == [102]) = false) (hs : n.size ≤ maxLen) :
    Calls Tryd.prog 37 #[.pointer (some ⟨d, 0, none⟩), .string n] w fun e w' => (∃ v, e = .returned v) ∧ (∃ M2, Ap M2 ∧ Drive lo d mb w' M2 full lost) ∧ Keep [mb] w w' := by
  refine (DiskC.delete n w hd he hs).mono ?_
  rintro e w' ⟨rfl, h1, h2⟩
  exact ⟨⟨_, rfl⟩, ⟨_, hap.delete (neF hn), h1⟩, h2⟩
theorem renameA (hap : Ap M) (hd : Drive lo d mb w M full lost) (he : Errs w aN aF aG) {n t : ByteArray} (hn : (n.toList == [102]) = false) (ht : (t.toList == [102]) = false) (hs : n.size ≤ maxLen) (hst : t.size ≤ maxLen) :
    Calls Tryd.prog 40 #[.pointer (some ⟨d, 0, none⟩), .string n, .string t] w fun e w' => (∃ v, e = .returned v) ∧ (∃ M2, Ap M2 ∧ Drive lo d mb w' M2 full lost) ∧ Keep [mb] w w' := by
  refine (DiskD.rename n t w hd he hs hst (by have := hap.len; omega)).mono ?_
  rintro e w' ⟨rfl, h1, h2⟩
  exact ⟨⟨_, rfl⟩, ⟨_, hap.rename (neF hn) (neF ht), h1⟩, h2⟩
theorem crashA (hap : Ap M) (hd : Drive lo d mb w M full lost) :
    Calls Tryd.prog 38 #[.pointer (some ⟨d, 0, none⟩)] w fun e w' => e = .returned (.tuple #[]) ∧ (∃ M2, Ap M2 ∧ Drive lo d mb w' M2 full lost) ∧ Keep [mb] w w' := by
  refine (DiskF.crash w hd (by have := hap.len; omega) hap.names).mono ?_
  rintro e w' ⟨rfl, h1, h2⟩
  exact ⟨rfl, ⟨_, hap.crash, h1⟩, h2⟩
theorem readA (hap : Ap M) (hd : Drive lo d mb w M full lost) (he : Errs w aN aF aG) :
    Calls Tryd.prog 39 #[.pointer (some ⟨d, 0, none⟩), .string ⟨#[102]⟩] w fun e w' => (∃ a c, e = .returned (.tuple #[.slice a 2 c, .nilIface]) ∧ Bs w.heap.size w' a [1, 2] c) ∧ Below w.heap.size w w' := by
  refine (DiskC.read bF w hd he (by decide) hap.bytes).mono ?_
  rintro e w' ⟨⟨a, c, rfl, h3⟩, h4⟩
  have hr := hap.read
  rw [show bF.data.toList = lF from rfl, hr.2] at h3
  exact ⟨⟨a, c, by rw [show bF.data.toList = lF from rfl, hr.1, hr.2]; rfl, h3⟩, h4⟩
end

theorem ds_keep {l ds : List Nat} {lo : Nat} {w w' : World} (h : ∀ D ∈ ds, lo ≤ D ∧ w.heap[D]? = some (.deferred (some []))) (hk : Keep l w w') (hl : ∀ k ∈ l, k < lo) : ∀ D ∈ ds, lo ≤ D ∧ w'.heap[D]? = some (.deferred (some [])) := fun D hD => by
  obtain ⟨h1, h2⟩ := h D hD
  exact ⟨h1, (hk.block D (Array.getElem?_eq_some_iff.1 h2).1 (fun hm => by have := hl D hm; omega)).trans h2⟩
theorem keep_grow {l : List Nat} {a b c : World} {row : Option Nat} (h : Keep l a b) (hg : b.grownBy c row) (hr : ∀ k, row = some k → k ∈ l ∨ a.heap.size ≤ k) : Keep l a c :=
  ⟨hg.os.trans h.os, hg.tape.trans h.tape, hg.output.trans h.output, Nat.le_trans h.size hg.size, fun i hi hn => (hg.block i (Nat.lt_of_lt_of_le hi h.size) fun e => by
    rcases hr i e.symm with h | h
    · exact hn h
    · omega).trans (h.block i hi hn)⟩

/-- a range's strings are the names -/
theorem strs_snoc {pl xs : List (List UInt8)} {x : ByteArray} (h : DiskO.strs pl ++ [x] <+: DiskO.strs xs) : x = ⟨x.data.toList.toArray⟩ ∧ pl ++ [x.data.toList] <+: xs := by
  refine ⟨(Com.mk_data x).symm, ?_⟩
  have := List.IsPrefix.map (fun b : ByteArray => b.data.toList) h
  have e : ∀ l : List (List UInt8), (DiskO.strs l).map (fun b : ByteArray => b.data.toList) = l := fun l => by
    simp [DiskO.strs, Function.comp_def]
  rw [List.map_append, e, e] at this
  exact this
theorem strs_inj {xs ys : List (List UInt8)} (h : DiskO.strs xs = DiskO.strs ys) : xs = ys := by
  have e : ∀ l : List (List UInt8), (DiskO.strs l).map (fun b : ByteArray => b.data.toList) = l := fun l => by
    simp [DiskO.strs, Function.comp_def]
  rw [← e xs, h, e]

/-- what stands between two rounds over the names -/
structure Mid (W6 : World) (bl B6 : Nat) (pre : List ByteArray) (W : World) : Prop where
  more : ∃ pl, pre = DiskO.strs pl ∧ W.heap[bl]? = some (.cells #[.string ⟨(before pl).toArray⟩] 9 (0, 0)) ∧ W.heap[bl + 1]? = some (.cells #[.bool (decide (lF ∈ pl))] 4 (0, 0))
  keep : Keep [bl, bl + 1, B6] W6 W
theorem mid_bides (W6 : World) {bl B6 : Nat} (h : bl + 1 < B6) : Rng.Bides W6.heap.size B6 (Mid W6 bl B6) := by
  intro pre W W' row hm hg hr
  obtain ⟨pl, h1, h2, h3⟩ := hm.more
  refine ⟨⟨pl, h1, (Rng.keeps_cells h2 rfl (by omega) hg hr).trans h2, (Rng.keeps_cells h3 rfl (by omega) hg hr).trans h3⟩, keep_grow hm.keep hg fun k e => ?_⟩
  rcases hr k e with rfl | ⟨h, _⟩
  · exact .inl (by simp)
  · exact .inr h

theorem mid_snoc {W6 W : World} {bl B6 : Nat} {pl : List (List UInt8)} {x : ByteArray} {s : Value} {u v : Bool} (h1 : W.heap[bl]? = some (.cells #[s] 9 (0, 0))) (h2 : W.heap[bl + 1]? = some (.cells #[.bool u] 4 (0, 0)))
    (hk : Keep [bl, bl + 1, B6] W6 W) (hx : x = ⟨x.data.toList.toArray⟩) (hv : v = decide (lF ∈ pl ++ [x.data.toList])) : Mid W6 bl B6 (DiskO.strs pl ++ [x]) ((W.setCell ⟨bl, 0, none⟩ (.string x)).setCell ⟨bl + 1, 0, none⟩ (.bool v)) := by
  refine ⟨⟨pl ++ [x.data.toList], ?_, ?_, ?_⟩, (hk.setCell (.inl (by simp)) _).setCell (.inl (by simp)) _⟩
  · have : DiskO.strs (pl ++ [x.data.toList]) = DiskO.strs pl ++ [⟨x.data.toList.toArray⟩] := by simp [DiskO.strs]
    rw [this, ← hx]
  · rw [before_snoc, ← hx]
    refine (Below.heap_setCell _ _ _ _ (by simp)).trans ?_
    simp only [World.setCell, Array.getElem?_modify, if_true, h1]
    rfl
  · rw [← hv]
    have h3 := (Below.heap_setCell W ⟨bl, 0, none⟩ (.string x) (bl + 1) (by simp)).trans h2
    generalize W.setCell ⟨bl, 0, none⟩ (.string x) = W' at *
    simp only [World.setCell, Array.getElem?_modify, if_true, h3]
    rfl
theorem le_no {s x : List UInt8} (h : s < x) : Op.bytesLess x s = false ∧ (x == s) = false := by
  rw [Go.Proofs.bytesLess_eq]
  refine ⟨decide_eq_false fun h2 => List.lt_irrefl _ (List.lt_trans h h2), ?_⟩
  simp only [beq_eq_false_iff_ne]
  rintro rfl
  exact List.lt_irrefl _ h

set_option maxRecDepth 100000 in
theorem res_run {B : Nat} {w : World} {v : Value} {t : TypeId} (h : w.heap[B]? = some (.cells #[v] t (0, 0))) {tmps : Array Value} (h2 : tmps.getD 2 undef = .pointer (some ⟨B, 0, none⟩)) :
    (results Tryd.f9 tmps).run Tryd.prog w = .ok v w := by
  have r0 : w.cell? ⟨B, 0, none⟩ = some v := by rw [Lib.cell_of_heap h]; rfl
  have e : Tryd.f9.results = #[.cell 2 4] := Tryd.results9
  have h2' : tmps[2]?.getD undef = .pointer (some ⟨B, 0, none⟩) := by simpa using h2
  simp only [results, e]
  simp [h2', go_sem, r0, Result.andThen]

attribute [local go_sem] Oper.semAt_some

set_option maxHeartbeats 1000000 in
set_option maxRecDepth 100000 in
theorem apart (a : Option Addr) (c : Nat) (os : List OpV) (w : World) {aN aF aG : Addr} (he : Errs w aN aF aG) (hos : Script w.heap.size w a os) (hlen : os.length ≤ 140737488351232) (hnm : ∀ op ∈ os, op.name.size ≤ maxLen ∧ op.to.size ≤ maxLen) :
    Calls Tryd.prog 9 #[.slice a os.length c] w fun e w' => e = .returned (.bool true) ∧ Below w.heap.size w w' := by
  refine (callsIn_wide (n := 8)).1 ?_
  have hq := Lib.hid he.lt
  have hf0 : Fence.wide.fn 33 := trivial
  have hf1 : Fence.wide.fn 34 := trivial
  have hf2 : Fence.wide.fn 35 := trivial
  have hf3 : Fence.wide.fn 36 := trivial
  have hf4 : Fence.wide.fn 40 := trivial
  have hf5 : Fence.wide.fn 37 := trivial
  have hf6 : Fence.wide.fn 38 := trivial
  have hf7 : Fence.wide.fn 41 := trivial
  have hf8 : Fence.wide.fn 39 := trivial
  have hf9 : Fence.wide.fn 42 := trivial
  have hf10 : Fence.wide.fn 43 := trivial
  refine callsIn_of_wp_marks Tryd.func9 rfl trivial ?_ rfl
  simp only [Tryd.ntmps9, List.size_toArray, List.length_cons, List.length_nil, Nat.reduceAdd, Nat.reduceSub, Array.replicate_succ, Array.replicate_zero, List.push_toArray, List.append_toArray, List.nil_append, List.cons_append]
  gi_wp2_with fail
  have hbr : Below w.heap.size w (w.alloc (.cells #[.bool false] 4)) := (Below.refl _ _).alloc (Nat.le_refl _) _
  refine (callsIn_wide.2 (DiskG.alive _ (he.below hbr))).mono ?_
  rintro e w0 ⟨rfl, hb0⟩
  have HRes := Lib.hid ((hb0.block w.heap.size (by simp)).trans (heap_alloc_new _ _))
  have he0 := (he.below hbr).below hb0
  have TL := Lib.hid (show ∀ k ∈ [w0.heap.size], top < k by have := he0.lt; simpa using this)
  have hq0 := Lib.hid he0.lt
  have hz0 : w.heap.size + 1 ≤ w0.heap.size := by have := hb0.size; simpa using this
  gi_wp2_with fail
  refine (callsIn_wide.2 (DiskB.new _ hq0.out)).mono ?_
  rintro e w1 ⟨rfl, hd1, hb1⟩
  have he1 := he0.below hb1
  have hos1 : Script w0.heap.size w1 a os := ((hos.below (hbr.trans (hb0.mono (by simp))) (by omega)).below hb1 (Nat.le_refl _))
  clear hos he he0
  gi_wp2_with fail
  have hba : Below w1.heap.size w1 (w1.alloc (.cells #[.int .u8 1, .int .u8 2] 5)) := (Below.refl _ _).alloc (Nat.le_refl _) _
  refine (callsIn_wide.2 (DiskH.write bF [1, 2] (DiskH.a0) (DiskH.b0 [1, 2]) (by decide) (by decide) (by decide) (hd1.below hba) (he1.below hba) (bs_two w1))).mono ?_
  rintro e w2 ⟨rfl, hd2, hk2⟩
  have he2 := (he1.below hba).keep hk2 TL.out
  gi_wp2_with fail
  refine (callsIn_wide.2 (DiskH.sync bF (DiskH.a1 [1, 2]) (DiskH.b1 [1, 2]) (by decide) (by simp [q0]) hd2 he2)).mono ?_
  rintro e w3 ⟨rfl, hd3, hk3⟩
  have he3 := he2.keep hk3 TL.out
  have K3 := (Keep.of_below hba [w0.heap.size]).trans (hk2.trans hk3)
  have hos3 := Script.keep hos1 K3
  have B3 := K3.below hb1 (by simp)
  have HR3 := Lib.hid ((B3.block w.heap.size (by omega)).trans HRes.out)
  have HB00 := Lib.hid ((hbr.trans (hb0.mono (by simp))).trans (B3.mono (by omega)))
  clear hd1 hd2 he1 he2 hk2 hk3 hba hos1 hbr
  gi_wp2_with fail
  refine wpIn_loop_ghost_k (fun g A wr => Fr.FrA (.pointer (some ⟨w.heap.size, 0, none⟩)) (.pointer (some ⟨w0.heap.size + 1, 0, none⟩)) (.slice a os.length c) (.int .i64 (os.length : Int)) (fun u29 dl => ∃ (k : Nat) (ds : List Nat) (M : Dp.Files) (full : Bool), k + g = os.length ∧ u29 = .int .i64 (k : Int) ∧ dl = RngM.marks ds ∧ ds.Nodup ∧ (∀ D ∈ ds, w3.heap.size ≤ D ∧ wr.heap[D]? = some (.deferred (some []))) ∧ Ap M ∧
      Drive (w0.heap.size + 2) (w0.heap.size + 1) w0.heap.size wr M full 0 ∧ Keep [w0.heap.size, w0.heap.size + 1] w3 wr) A) os.length ?start ?round
  case start => exact ⟨_, _, rfl, rfl, rfl, rfl, rfl, rfl, _, rfl, 0, [], _, false, by simp, rfl, rfl, List.nodup_nil, (fun D h => by cases h), ap0, hd3, Keep.refl _ _⟩
  case round =>
    intro gk A0 wr hinv J K hJ hK
    refine Fr.unpackA (P := fun A => Code.wpIn _ _ _ _ _ A wr) hinv ?_
    intro u0 u1 u4 u5 u6 u7 u8 u9 u10 u11 u12 u13 u14 u15 u16 u17 u18 u19 u20 u21 u22 u23 u24 u25 u26 u29 u30 u31 u32 u33 u34 u35 u36 u37 u38 u39 u40 u41 u42 u43 u44 u45 u46 u47 u48 u49 u50 u51 u52 u53 u54 u55 u56 u57 u58 u59 u60 u61 u62 u63 u64 u65 u66 u67 u68 u69 u70 u71 u72 u73 u74 u75 u76 u77 u78 u79 u80 u81 u82 u83 u84 u85 u86 u87 u88 u89 u90 u91 u92 u93 u94 u95 u96 u97 u98 u99 u100 u101 u102 u103 u104 u105 u106 u107 u108 u109 u110 dl hrel
    obtain ⟨k, ds, M, full, hkg, rfl, rfl, hnd, hds, hap, hdr, hkr⟩ := hrel
    have HG := Lib.hid hkg
    have hkx : k ≤ os.length := by omega
    clear hkg
    have her := he3.keep hkr (by intro k hk; simp at hk; have := hq0.out; omega)
    have hosr := Script.keepL hos3 hkr (by intro k hk; simp at hk; omega)
    by_cases hlt : k < os.length
    · obtain ⟨op, hop⟩ : ∃ op, os[k]? = some op := ⟨os[k], List.getElem?_eq_getElem hlt⟩
      rcases hosr with h | ⟨b, o, rfl, hbB, hbw, h3⟩
      · rw [h] at hlt; simp at hlt
      obtain ⟨⟨c0, c1, c2, c3, c4, c5⟩, c6, c7⟩ := h3 k op hop
      obtain ⟨z3, z4⟩ := hnm op (List.mem_of_getElem? hop)
      clear h3 hop hos3
      obtain ⟨kind, which, num, name, to, oa, ol, oc⟩ := op
      simp only at c0 c1 c2 c3 c4 c5 c6 c7 z3 z4
      have HC6 := Lib.hid c6; clear c6
      have HDS := Lib.hid hds; have HND := Lib.hid hnd; have HKR := Lib.hid hkr; have HAP := Lib.hid hap
      clear hds hnd hkr hap
      clear hinv
      have hbx : Below wr.heap.size wr (wr.alloc (.cells #[.int .i64 kind, .int .i64 which, .int .i64 num, .string name, .string to, .slice oa ol.length oc] 63)) := (Below.refl _ _).alloc (Nat.le_refl _) _
      have HBX := Lib.hid hbx
      have HKX0 := Lib.hid (Keep.of_below hbx [w0.heap.size, w0.heap.size + 1])
      have HKX := Lib.hid (HKR.out.trans HKX0.out)
      have hz3 : w0.heap.size + 2 ≤ w3.heap.size := hd3.low
      have DSA := Lib.hid (ds_keep HDS.out HKX0.out (by intro k hk; simp at hk; omega))
      clear hbx
      cases hn : (name.toList == [102])
      · cases ht : (to.toList == [102])
        · gi_upto_region 10 with fail
          rename_i K1 hK1 K0 hK0
          have hM : ∀ (A : Act) (W : World), Met (fun A W => Fr.FrA (.pointer (some ⟨w.heap.size, 0, none⟩)) (.pointer (some ⟨w0.heap.size + 1, 0, none⟩)) (.slice (some ⟨b, o, none⟩) os.length c) (.int .i64 (os.length : Int)) (fun u29 dl => u29 = .int .i64 (k : Int) ∧ dl = RngM.marks ds ∧ ∃ (M2 : Dp.Files) (full2 : Bool), Ap M2 ∧ Drive (w0.heap.size + 2) (w0.heap.size + 1) w0.heap.size W M2 full2 0 ∧ Keep [w0.heap.size, w0.heap.size + 1] wr W) A) A W → K1 A W := by
            intro A W hA
            refine hK1 A W ?_
            refine Fr.unpackA (P := fun A => Code.wpIn _ _ _ _ _ A W) hA ?_
            intro u0 u1 u4 u5 u6 u7 u8 u9 u10 u11 u12 u13 u14 u15 u16 u17 u18 u19 u20 u21 u22 u23 u24 u25 u26 u29 u30 u31 u32 u33 u34 u35 u36 u37 u38 u39 u40 u41 u42 u43 u44 u45 u46 u47 u48 u49 u50 u51 u52 u53 u54 u55 u56 u57 u58 u59 u60 u61 u62 u63 u64 u65 u66 u67 u68 u69 u70 u71 u72 u73 u74 u75 u76 u77 u78 u79 u80 u81 u82 u83 u84 u85 u86 u87 u88 u89 u90 u91 u92 u93 u94 u95 u96 u97 u98 u99 u100 u101 u102 u103 u104 u105 u106 u107 u108 u109 u110 dl hrel
            clear hK1 hA
            obtain ⟨rfl, rfl, M2, full2, hap2, hd2, hk2⟩ := hrel
            have HAP2 := Lib.hid hap2
            have he2 := her.keep hk2 (by intro k hk; simp at hk; have := hq0.out; omega)
            gi_wp2_with fail
            refine (callsIn_wide.2 (readA HAP2.out hd2 he2)).mono ?_
            rintro e W3 ⟨⟨a3, c3, rfl, hb3⟩, hB3⟩
            gi_wp2_with fail
            have hba : Below W3.heap.size W3 (W3.alloc (.cells #[.int .u8 1, .int .u8 2] 5)) := (Below.refl _ _).alloc (Nat.le_refl _) _
            refine (callsIn_wide.2 (same [1, 2] _ (hb3.below hba) (bs_two W3))).mono ?_
            rintro e W3' ⟨rfl, hW3⟩
            obtain rfl := hW3.symm
            gi_wp2_with fail
            have hd3' := hd2.below hB3
            obtain ⟨W5, hW5⟩ : ∃ W5, W5 = ((W3.alloc (.cells #[.int .u8 1, .int .u8 2] 5)).alloc (.cells #[.string ⟨#[]⟩] 9)).alloc (.cells #[.bool false] 4) := ⟨_, rfl⟩
            rw [← hW5]
            have hz5 : W5.heap.size = W3.heap.size + 3 := by rw [hW5]; simp
            have g1 : W5.heap[W3.heap.size + 1]? = some (.cells #[.string ⟨#[]⟩] 9 (0, 0)) := by
              rw [hW5]
              refine (Below.heap_alloc _ _ _ (by simp)).trans ?_
              have := heap_alloc_new (W3.alloc (.cells #[.int .u8 1, .int .u8 2] 5)) (.cells #[.string ⟨#[]⟩] 9)
              rwa [World.size_alloc] at this
            have g2 : W5.heap[W3.heap.size + 1 + 1]? = some (.cells #[.bool false] 4 (0, 0)) := by
              rw [hW5]
              have := heap_alloc_new ((W3.alloc (.cells #[.int .u8 1, .int .u8 2] 5)).alloc (.cells #[.string ⟨#[]⟩] 9)) (.cells #[.bool false] 4)
              rwa [World.size_alloc, World.size_alloc] at this
            have hB5 : Below W3.heap.size W3 W5 := by
              rw [hW5]
              exact (((Below.refl _ W3).alloc (Nat.le_refl _) _).alloc (by simp) _).alloc (by simp <;> omega) _
            clear hW5 hba hb3
            refine (DiskO.list _ (by decide) W5 (hd3'.below hB5) (by have := HAP2.out.len; omega)).mono ?_
            rintro e W6 ⟨a6, c6, B6, rfl, hB61, hB62, hbox, hns, hb6⟩
            have HG1 := Lib.hid ((hb6.block (W3.heap.size + 1) (by omega)).trans g1)
            have HG2 := Lib.hid ((hb6.block (W3.heap.size + 1 + 1) (by omega)).trans g2)
            have HGV := Lib.hid (DiskO.gives (8 - 1) (by decide) B6 W5.heap.size a6 c6 (Dp.names M2) W6 hbox hB61 hns (by have := HAP2.out.len; simp [Dp.names]; omega))
            have HB6 := Lib.hid (hB5.trans (hb6.mono (by omega)))
            have HK6 := Lib.hid ((hk2.trans (Keep.of_below hB3 [w0.heap.size, w0.heap.size + 1])).trans (Keep.of_below HB6.out _))
            clear g1 g2 hbox hns hb6 hB5
            gi_wp2_with fail
            refine Rng.range (a₁ := ?a1) rfl (by decide) (gf := 112) (lb := #[.pointer (some ⟨B6, 0, none⟩)]) rfl trivial (enters_of Tryd.func112 (by kernel_rfl) rfl)
              (lo := W5.heap.size) (hi := W6.heap.size) (c := B6) hB62 (Nat.le_refl _) HGV.out (Mid W6 (W3.heap.size + 1) B6) (fun _ _ _ => False) (mid_bides W6 (by omega)) (fun k s W W' row h _ _ => h) ⟨⟨[], rfl, HG1.out, HG2.out⟩, Keep.refl _ _⟩ ?assign ?body ?done ?stop
            case assign =>
              intro l x W K hK
              gi_wp2
              exact hK
            case body =>
              rintro l pre x Wb hi hpx hWz
              obtain ⟨⟨pl, rfl, h1, h2⟩, hkp⟩ := hi
              obtain ⟨hx, hpx2⟩ := strs_snoc hpx
              have hlt2 := before_lt HAP2.out.rise HAP2.out.long hpx2
              have q1 : Wb.cell? ⟨W3.heap.size + 1, 0, none⟩ = some (.string ⟨(before pl).toArray⟩) := by rw [Lib.cell_of_heap h1]; rfl
              have q2 : Wb.cell? ⟨W3.heap.size + 1 + 1, 0, none⟩ = some (.bool (decide (lF ∈ pl))) := by rw [Lib.cell_of_heap h2]; rfl
              have f1 : Wb.frozen? ⟨W3.heap.size + 1, 0, none⟩ = false := Lib.frozen_of_heap h1 0
              have f2 : Wb.frozen? ⟨W3.heap.size + 1 + 1, 0, none⟩ = false := Lib.frozen_of_heap h2 0
              have HH1 := Lib.hid h1; have HH2 := Lib.hid h2; have HKP := Lib.hid hkp; have HX := Lib.hid hx; have HPX := Lib.hid hpx2; have HLT := Lib.hid hlt2
              clear h1 h2 hkp hx hpx2 hpx hlt2
              have t12 := le_no HLT.out
              rw [← Com.toList_data] at t12
              obtain ⟨t1, t2⟩ := t12
              cases hF : decide (lF ∈ pl)
              · have HF := Lib.hid hF
                rw [hF] at q2
                clear hF
                cases hxf : (x.toList == [102])
                · gi_wp2_with fail
                  exact ⟨(KeepsOthers.setCell _ _ _).trans (KeepsOthers.setCell _ _ _), fun k0 h5 h6 => (Below.heap_setCell _ _ _ _ (by simp; omega)).trans (Below.heap_setCell _ _ _ _ (by simp; omega)), mid_snoc HH1.out HH2.out HKP.out (Com.mk_data x).symm (by have h9 := neF hxf; have h8 := HF.out; simp at h8; symm; simp only [decide_eq_false_iff_not, List.mem_append, List.mem_singleton, not_or]; exact ⟨h8, fun e => h9 e.symm⟩)⟩
                · gi_wp2_with fail
                  exact ⟨(KeepsOthers.setCell _ _ _).trans (KeepsOthers.setCell _ _ _), fun k0 h5 h6 => (Below.heap_setCell _ _ _ _ (by simp; omega)).trans (Below.heap_setCell _ _ _ _ (by simp; omega)), mid_snoc HH1.out HH2.out HKP.out (Com.mk_data x).symm (by symm; simp only [decide_eq_true_eq, List.mem_append, List.mem_singleton]; right; rw [Com.toList_data] at hxf; have h9 := eq_of_beq hxf; rw [h9]; rfl)⟩
              · have HF := Lib.hid hF
                rw [hF] at q2
                clear hF
                gi_wp2_with fail
                exact ⟨(KeepsOthers.setCell _ _ _).trans (KeepsOthers.setCell _ _ _), fun k0 h5 h6 => (Below.heap_setCell _ _ _ _ (by simp; omega)).trans (Below.heap_setCell _ _ _ _ (by simp; omega)), mid_snoc HH1.out HH2.out HKP.out (Com.mk_data x).symm (by have h8 := HF.out; symm; simp only [decide_eq_true_eq, List.mem_append] at h8 ⊢; exact .inl h8)⟩
            case done =>
              rintro D W hD hi hK2
              obtain ⟨⟨pl, hpl, h1, h2⟩, hkp⟩ := hi
              obtain rfl := strs_inj hpl
              have q2 : W.cell? ⟨W3.heap.size + 1 + 1, 0, none⟩ = some (.bool true) := by
                rw [Lib.cell_of_heap h2]
                have := HAP2.out.has
                simp [this]
              have HB6W := Lib.hid (Keep.below HB6.out hkp (by intro i hi; simp at hi; omega))
              have HD := Lib.hid (hd3'.below HB6W.out)
              have HKW0 := Lib.hid ((hk2.trans (Keep.of_below hB3 _)).trans (Keep.of_below HB6W.out [w0.heap.size, w0.heap.size + 1]))
              have HKW := Lib.hid (HKR.out.trans HKW0.out)
              have HD2 := Lib.hid hK2
              have hz6 : wr.heap.size ≤ D := by have := hk2.size; have := hB3.size; have := HB6.out.size; omega
              have hz7 := HKR.out.size
              clear h1 h2 hpl
              clear hK2
              gi_wp2_with fail
              exact Handed.intro (gk - 1) (by have := HG.out; omega) (hJ _ _ _ ⟨_, RngM.marks (D :: ds), rfl, rfl, rfl, rfl, rfl, rfl, _, rfl, k + 1, D :: ds, M2, full2, by have := HG.out; omega, by go_num, rfl,
                List.nodup_cons.2 ⟨fun hm => by have := (Array.getElem?_eq_some_iff.1 (HDS.out D hm).2).1; omega, HND.out⟩,
                fun E hE => by
                  rcases List.mem_cons.1 hE with rfl | hE
                  · exact ⟨by omega, HD2.out⟩
                  · exact ds_keep HDS.out HKW0.out (by intro k hk; simp at hk; omega) E hE,
                HAP2.out, HD.out, HKW.out⟩)
            case stop =>
              rintro D k pre W hD hpre2 hl hK
              exact hl.elim
          clear hK1
          have hdX := hdr.below HBX.out
          have heX := her.below HBX.out
          have hbX := Lib.hid (BsIn.below HC6.out HBX.out).1
          by_cases hk1 : kind = 1
          · subst hk1
            gi_wp2_with (gi_at_call 35; refine (callsIn_wide.2 (writeA HAP.out hdX heX hn z3 ol c7 hbX.out)).mono ?_; rintro e w2 ⟨⟨v, rfl⟩, ⟨M2, hap2, hdr2⟩, hk2⟩)
            exact Met.intro ⟨_, _, rfl, rfl, rfl, rfl, rfl, rfl, _, rfl, rfl, rfl, M2, full, hap2, hdr2, HKX0.out.trans (hk2.mono (by simp))⟩
          by_cases hk2 : kind = 2
          · subst hk2
            gi_wp2_with (gi_at_call 36; refine (callsIn_wide.2 (syncA HAP.out hdX heX hn z3)).mono ?_; rintro e w2 ⟨⟨v, rfl⟩, ⟨M2, hap2, hdr2⟩, hk2⟩)
            exact Met.intro ⟨_, _, rfl, rfl, rfl, rfl, rfl, rfl, _, rfl, rfl, rfl, M2, full, hap2, hdr2, HKX0.out.trans (hk2.mono (by simp))⟩
          by_cases hk3 : kind = 3
          · subst hk3
            gi_wp2_with (gi_at_call 40; refine (callsIn_wide.2 (renameA HAP.out hdX heX hn ht z3 z4)).mono ?_; rintro e w2 ⟨⟨v, rfl⟩, ⟨M2, hap2, hdr2⟩, hk2⟩)
            exact Met.intro ⟨_, _, rfl, rfl, rfl, rfl, rfl, rfl, _, rfl, rfl, rfl, M2, full, hap2, hdr2, HKX0.out.trans (hk2.mono (by simp))⟩
          by_cases hk4 : kind = 4
          · subst hk4
            gi_wp2_with (gi_at_call 37; refine (callsIn_wide.2 (deleteA HAP.out hdX heX hn z3)).mono ?_; rintro e w2 ⟨⟨v, rfl⟩, ⟨M2, hap2, hdr2⟩, hk2⟩)
            exact Met.intro ⟨_, _, rfl, rfl, rfl, rfl, rfl, rfl, _, rfl, rfl, rfl, M2, full, hap2, hdr2, HKX0.out.trans (hk2.mono (by simp))⟩
          by_cases hk7 : kind = 7
          · subst hk7
            gi_wp2_with (gi_at_call 38; refine (callsIn_wide.2 (crashA HAP.out hdX)).mono ?_; rintro e w2 ⟨rfl, ⟨M2, hap2, hdr2⟩, hk2⟩)
            exact Met.intro ⟨_, _, rfl, rfl, rfl, rfl, rfl, rfl, _, rfl, rfl, rfl, M2, full, hap2, hdr2, HKX0.out.trans (hk2.mono (by simp))⟩
          by_cases hk10 : kind = 10
          · subst hk10
            gi_wp2_with (gi_at_call 41; refine (callsIn_wide.2 (DiskC.fill _ _ hdX)).mono ?_; rintro e w2 ⟨rfl, hdr2, hk2⟩)
            exact Met.intro ⟨_, _, rfl, rfl, rfl, rfl, rfl, rfl, _, rfl, rfl, rfl, M, _, HAP.out, hdr2, HKX0.out.trans (hk2.mono (by simp))⟩
          gi_wp2_with fail
          exact Met.intro ⟨_, _, rfl, rfl, rfl, rfl, rfl, rfl, _, rfl, rfl, rfl, M, full, HAP.out, hdX, HKX0.out⟩
        · gi_wp2_with fail
          exact Handed.intro (gk - 1) (by have := HG.out; omega) (hJ _ _ _ ⟨_, _, rfl, rfl, rfl, rfl, rfl, rfl, _, rfl, k + 1, ds, M, full, by have := HG.out; omega, by go_num, rfl, HND.out, DSA.out, HAP.out, (hdr.below HBX.out), HKX.out⟩)
      · gi_wp2_with fail
        exact Handed.intro (gk - 1) (by have := HG.out; omega) (hJ _ _ _ ⟨_, _, rfl, rfl, rfl, rfl, rfl, rfl, _, rfl, k + 1, ds, M, full, by have := HG.out; omega, by go_num, rfl, HND.out, DSA.out, HAP.out, (hdr.below HBX.out), HKX.out⟩)
    · have hk : k = os.length := by omega
      have hres := (hkr.block w.heap.size (by have := hd3.low; omega) (by simp; omega)).trans HR3.out
      have q0 : wr.cell? ⟨w.heap.size, 0, none⟩ = some (.bool false) := by rw [Lib.cell_of_heap hres]; rfl
      have f0 : wr.frozen? ⟨w.heap.size, 0, none⟩ = false := Lib.frozen_of_heap hres 0
      have HRS := Lib.hid hres; have HDS := Lib.hid hds; have HND := Lib.hid hnd; have HKR := Lib.hid hkr
      clear hres hds hnd hkr hinv
      have hz3 := hd3.low
      gi_wp2_with fail
      refine RngM.leaves ds _ HND.out (fun D hD => ?_) (fun w' hw => ⟨.bool true, res_run (B := w.heap.size) (t := 4) ?_ rfl, rfl, ?_⟩)
      · obtain ⟨h1, h2⟩ := HDS.out D hD
        exact (Below.heap_setCell _ _ _ _ (by simp; omega)).trans h2
      · refine (hw.2.2.2.2 _ fun hm => by have := (HDS.out _ hm).1; omega).trans ?_
        simp only [World.setCell, Array.getElem?_modify, if_true, HRS.out]
        rfl
      · refine RngM.Shut.below hw ((HB00.out.trans ?_).setCell (p := ⟨w.heap.size, 0, none⟩) (Nat.le_refl _) _) (fun D hD => by have := (HDS.out D hD).1; omega)
        exact ⟨HKR.out.os, HKR.out.tape, HKR.out.output, HKR.out.size, fun i hi => HKR.out.block i (by omega) (by simp; omega)⟩
end Go.Proofs.YtmimkgfkicgfiaaDoor.DiskP
