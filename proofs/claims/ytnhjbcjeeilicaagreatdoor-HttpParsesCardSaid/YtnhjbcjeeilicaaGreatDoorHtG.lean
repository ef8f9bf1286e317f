/-
  The walk of package http's head.
-/
import Derived.Test.YtnhjbcjeeilicaaGreatDoorHtE
import Derived.Test.YtnhjbcjeeilicaaGreatDoorHtF
import Derived.RegionTactic
import Derived.BigRegion
namespace Go.Proofs.YtnhjbcjeeilicaaGreatDoor.HtG
open Go.RowKit Go.Proofs.YtnhjbcjeeilicaaGreatDoor Go.Proofs.YtnhjbcjeeilicaaGreatDoor.Ht Go.Proofs.YtnhjbcjeeilicaaGreatDoor.HtW Go.Proofs.YtnhjbcjeeilicaaGreatDoor.HtC Go.Proofs.YtnhjbcjeeilicaaGreatDoor.HtE

theorem fields_snoc : ∀ {ls : List (List UInt8)} {fs : List Fld} {l : List UInt8} {f : Fld}, fields ls = some fs → Ht.field l = some f → fields (ls ++ [l]) = some (fs ++ [f])
  | [], fs, l, f, h, hf => by
    simp only [fields, Option.some.injEq] at h
    subst h
    simp [fields, hf]
  | x :: r, fs, l, f, h, hf => by
    simp only [fields, List.cons_append] at h ⊢
    cases hx : Ht.field x with
    | none => rw [hx] at h; cases h
    | some g =>
      rw [hx] at h
      simp only at h ⊢
      cases hr : fields r with
      | none => rw [hr] at h; cases h
      | some gs =>
        rw [hr] at h
        simp only [Option.some.injEq] at h
        subst h
        rw [fields_snoc hr hf]
        rfl
theorem fields_stop : ∀ {ls : List (List UInt8)} {k : Nat} {l : List UInt8}, ls[k]? = some l → Ht.field l = none → fields ls = none
  | [], k, l, h, _ => by simp at h
  | x :: r, k, l, h, hf => by
    cases k with
    | zero => simp at h; subst h; simp [fields, hf]
    | succ k =>
      have := fields_stop (ls := r) (k := k) (by simpa using h) hf
      simp only [fields, this]
      split <;> rfl
theorem fields_length : ∀ {ls : List (List UInt8)} {fs : List Fld}, fields ls = some fs → fs.length = ls.length
  | [], fs, h => by simp [fields] at h; subst h; rfl
  | x :: r, fs, h => by
    simp only [fields] at h
    cases hx : Ht.field x with
    | none => rw [hx] at h; cases h
    | some g =>
      rw [hx] at h
      simp only at h
      cases hr : fields r with
      | none => rw [hr] at h; cases h
      | some gs =>
        rw [hr] at h
        simp only [Option.some.injEq] at h
        subst h
        simp [fields_length hr]
theorem head_bad1 {s l : List UInt8} {ls : List (List UInt8)} (h : Ht.split [13, 10] s = l :: ls) (h1 : Ht.first l = none) : Ht.head s = .no .bad := by unfold Ht.head; rw [h]; simp only [h1]
theorem head_bad2 {s l : List UInt8} {ls : List (List UInt8)} (h : Ht.split [13, 10] s = l :: ls) {mt : Fld} (h1 : Ht.first l = some mt) (h2 : fields ls = none) : Ht.head s = .no .bad := by unfold Ht.head; rw [h]; simp only [h1, h2]
theorem head_ok {s l : List UInt8} {ls : List (List UInt8)} (h : Ht.split [13, 10] s = l :: ls) {mt : Fld} (h1 : Ht.first l = some mt) {fs : List Fld} (h2 : fields ls = some fs) : Ht.head s = if 32 < fs.length then .no .large else .ok mt.1 mt.2 fs := by unfold Ht.head; rw [h]; simp only [h1, h2]

abbrev noReq : Value := .agg #[.string ⟨#[]⟩, .string ⟨#[]⟩, .slice none 0 0, .slice none 0 0]
def HeadPost (B : Nat) (s : List UInt8) (aR aL : Addr) (e : Ending) (w' : World) : Prop := match Ht.head s with
  | .ok m t fs => ∃ a c, e = .returned (.tuple #[.agg #[.string ⟨m.toArray⟩, .string ⟨t.toArray⟩, .slice a fs.length c, .slice none 0 0], .nilIface]) ∧ Fs w' a fs ∧ fs.length ≤ 32 ∧ ∀ p, a = some p → B ≤ p.block
  | .no er => e = .returned (.tuple #[noReq, erv aR aL er])
theorem cells_two' (w : World) (v0 v1 : Value) (t : TypeId) (B : Nat) (hB : w.heap.size = B) : ∀ (j : Nat) u, [v0, v1][j]? = some u → (w.alloc (.cells #[v0, v1] t)).cell? ((⟨B, 0, none⟩ : Addr).add j) = some u := by
  subst hB; exact cells_two w v0 v1 t
theorem own_form {w : World} {base : Nat} {e : TypeId} {size : Nat} {v : Value} {n : Nat} {xs : List Value} (h : w.ownsRow base e size v (n + 1) xs) : ∃ g cap, v = .slice (some ⟨g, 0, none⟩) (n + 1) cap := by
  rcases h.2 with ⟨_, h0⟩ | ⟨g, cap, cur, hv, _⟩
  · omega
  · exact ⟨g, cap, hv⟩
theorem rq_grown {B Wb n : Nat} {w w' : World} {o : Obj} {a b c d v : Value} {xs : List Value} (h : Rq B w a b c d) (ho : w.ownsRow Wb 39 2 v n xs) (hb : Wb = B + 1) (hg : (w.alloc o).grownBy w' v.ownBlock) : Rq B w' a b c d :=
  (hg.block B (by rw [World.size_alloc]; have := h.lt; omega) (fun e => by have := (ho.lt _ e.symm).1; omega)).trans ((Below.heap_alloc w o B h.lt).trans h)
theorem fs_put4 {w : World} {Wb B n c : Nat} {a : Option Addr} {fs : List Fld} {xs : List Value} (ho : w.ownsRow Wb 39 2 (.slice a n c) fs.length xs) (h : Fs w a fs) (hb : B < Wb) (v0 v1 v2 v3 : Value) : Fs (st4 w B v0 v1 v2 v3) a fs := by
  rcases h with h | ⟨b, o, rfl, h2, h3⟩
  · exact .inl h
  · have hlt := (ho.lt b rfl).1
    have e : ∀ (W : World) (i : Nat) (v : Value) (q : Addr), q.block = b → (W.setCell ⟨B, i, none⟩ v).cell? q = W.cell? q := fun W i v q hq => World.cell?_of_block (Below.heap_setCell _ _ _ _ (by rw [hq]; simp; omega))
    refine .inr ⟨b, o, rfl, by simpa [World.setCell] using h2, fun j p hj => ?_⟩
    simp only [e _ _ _ (⟨b, _, none⟩ : Addr) rfl]
    exact h3 j p hj
theorem rq_drew {B : Nat} {w : World} {a b c d : Value} (h : Rq B w a b c d) : Rq B w.drew a b c d := h
theorem hp_no {B : Nat} {s : List UInt8} {aR aL : Addr} {er : Er} {v : Value} {w' : World} (h : Ht.head s = .no er) (hv : v = erv aR aL er) : HeadPost B s aR aL (.returned (.tuple #[noReq, v])) w' := by unfold HeadPost; rw [h, hv]

set_option maxHeartbeats 4000000 in
set_option maxRecDepth 100000 in
theorem head (s : ByteArray) (w : World) {aR aL : Addr} (hs : s.size ≤ 1048576) (hm : Mx w) (he : Errs w aR aL) :
    Calls Tryz.prog 14 #[.string s] w fun e w' => HeadPost w.heap.size s.data.toList aR aL e w' ∧ Below w.heap.size w w' := by
  obtain ⟨i0, hi, hz0, hz1, hz2⟩ := info_parts infoField
  have hg1 : (12 : Nat) < w.heap.size := World.block_lt_of_cell? w _ he.req
  have hg2 : (0 : Nat) < w.heap.size := World.block_lt_of_cell? w _ he.large
  go_enter Tryz.func14, Tryz.ntmps14
  go_wp2_with fail
  have hb0 : Below w.heap.size w (w.alloc (.cells #[.string ⟨#[]⟩, .string ⟨#[]⟩, .slice none 0 0, .slice none 0 0] 27)) := (Below.refl _ _).alloc (Nat.le_refl _) _
  refine (split [13, 10] (by decide) s _ (by omega) (hm.below hb0)).mono ?_
  rintro e w1 ⟨rfl, hc, hlt, hb⟩
  simp only [World.size_alloc] at hc hlt
  have hR : Rq w.heap.size w1 (.string ⟨#[]⟩) (.string ⟨#[]⟩) (.slice none 0 0) (.slice none 0 0) := (hb.block _ (by simp)).trans (heap_alloc_new _ _)
  have hB := hb0.trans (hb.mono (by simp))
  have hlen := split_length [13, 10] s.data.toList
  rw [Com.toList_length] at hlen
  have hsz := fun x h => split_size (sep := [13, 10]) (l := s.data.toList) (x := x) h
  rw [Com.toList_length] at hsz
  cases hls : Ht.split [13, 10] s.data.toList with
  | nil => exact absurd hls (split_ne _ _)
  | cons l ls =>
    rw [hls] at hc hlen hsz
    have HLS := Lib.hid hls
    have c0 := hc 0 l rfl
    have HC := Lib.hid hc
    have hl0 : (l :: ls).length = ls.length + 1 := rfl
    rw [hl0]
    have hmx := (hm.below hb0).below hb
    have hel := (he.below hb0).below hb
    have HM := Lib.hid hm
    clear hc hls hb0 hb hm
    have hll : l.length ≤ 1048576 := by have := hsz l List.mem_cons_self; omega
    have HSZ := Lib.hid (show ∀ x ∈ ls, x.length ≤ 1048576 from fun x hx => by have := hsz x (List.mem_cons_of_mem _ hx); omega)
    have hlsl : ls.length ≤ 1048580 := by rw [hl0] at hlen; omega
    clear hsz hlen hl0
    go_wp2_with fail
    refine (first ⟨l.toArray⟩ _ (by rw [Com.size_mk]; omega) hmx).mono ?_
    rintro e w2 ⟨hfp, hb2⟩
    have hR2 := hR.below hb2
    have hB2 := hB.trans (hb2.mono hB.size)
    have hel2 := hel.below hb2
    have hmx2 := hmx.below hb2
    have hlb := (hb2.block (w.heap.size + 1) (by omega))
    unfold FirstPost at hfp
    rw [show (ByteArray.mk l.toArray).data.toList = l from rfl] at hfp
    cases hf : Ht.first l with
    | none =>
      rw [hf] at hfp
      obtain ⟨va, vb, rfl⟩ := hfp
      have HV := Lib.hid (head_bad1 HLS.out hf)
      have hb3 : Below w2.heap.size w2 (w2.alloc (.cells #[.string va, .string vb, .slice none 0 0, .slice none 0 0] 27)) := (Below.refl _ _).alloc (Nat.le_refl _) _
      have hR3 := hR2.below hb3
      have hB3 := hB2.trans (hb3.mono hB2.size)
      have hel3 := hel2.below hb3
      obtain ⟨r0, r1, r2, r3, f0, f1, f2, f3⟩ := hR3.cells
      have hq := hel3.req
      have n1 : (12 : Nat) ≠ w.heap.size := by omega
      have n2 : w.heap.size ≠ (12 : Nat) := by omega
      have HR3 := Lib.hid hR3
      have HB3 := Lib.hid hB3
      clear hR hR2 hB hB2 hel hel2 hel3 hmx hmx2 hlb hb2 hR3 hB3 hb3 c0 hf
      go_wp2_with fail
      go_region
      all_goals
        go_wp2
        refine bodyPost_ret (Rq.run (rq_drew (HR3.out.put _ _ _ _)) rfl rfl rfl) rfl ⟨?_, (below_four HB3.out _ _ _ _).drew⟩
        exact hp_no HV.out rfl
    | some mt =>
      rw [hf] at hfp
      simp only at hfp
      subst hfp
      obtain ⟨m, t⟩ := mt
      simp only
      have HF := Lib.hid hf
      have hb3 : Below w2.heap.size w2 (w2.alloc (.cells #[.string ⟨m.toArray⟩, .string ⟨t.toArray⟩, .slice none 0 0, .slice none 0 0] 27)) := (Below.refl _ _).alloc (Nat.le_refl _) _
      have HR3 := Lib.hid (hR2.below hb3)
      have HB3 := Lib.hid (hB2.trans (hb3.mono hB2.size))
      have HE0 := Lib.hid hel2
      have HM0 := Lib.hid hmx2
      have hQ3 : Rq w2.heap.size (w2.alloc (.cells #[.string ⟨m.toArray⟩, .string ⟨t.toArray⟩, .slice none 0 0, .slice none 0 0] 27)) (.string ⟨m.toArray⟩) (.string ⟨t.toArray⟩) (.slice none 0 0) (.slice none 0 0) := heap_alloc_new _ _
      have HQ3 := Lib.hid hQ3
      have hw2 : w.heap.size + 2 ≤ w2.heap.size := by have := hb2.size; omega
      have HL3 := Lib.hid (hb3.block (w.heap.size + 1) (by omega) |>.trans hlb)
      have hs3 : (w2.alloc (.cells #[.string ⟨m.toArray⟩, .string ⟨t.toArray⟩, .slice none 0 0, .slice none 0 0] 27)).heap.size = w2.heap.size + 1 := World.size_alloc _ _
      clear hR hR2 hB hB2 hel hel2 hmx hmx2 hlb hb2 hb3 c0 hf hQ3
      go_wp2_with fail
      all_goals
        generalize hW3 : w2.alloc (.cells #[.string ⟨m.toArray⟩, .string ⟨t.toArray⟩, .slice none 0 0, .slice none 0 0] 27) = W3 at *
        clear hW3
        go_loopg [27] ls.length (fun g v27 wr => ∃ (k : Nat) (fs : List Fld) (v : Value), k + g = ls.length ∧ v27 = .int .i64 k ∧ Hid (fields (ls.take k) = some fs) ∧ Hid (Rq w.heap.size wr (.string ⟨#[]⟩) (.string ⟨#[]⟩) (.slice none 0 0) (.slice none 0 0)) ∧
          Hid (Rq w2.heap.size wr (.string ⟨m.toArray⟩) (.string ⟨t.toArray⟩) v (.slice none 0 0)) ∧ Hid (wr.ownsRow W3.heap.size 39 2 v fs.length (fcells fs)) ∧ Hid (wr.heap[w.heap.size + 1]? = w1.heap[w.heap.size + 1]?) ∧ Hid (Below w.heap.size w wr) ∧ W3.heap.size ≤ wr.heap.size)
        case atStart => exact ⟨0, [], .slice none 0 0, by simp, rfl, rfl, HR3, HQ3, World.ownsRow_nil _ _ _ _, HL3, HB3, Nat.le_refl _⟩
        case round =>
          obtain ⟨k, fs, v, hkg, rfl, HFS, HR, HQ, HO, HL, HB, hzr⟩ := hrel
          have HG := Lib.hid hkg
          have hkx : k ≤ ls.length := by omega
          clear hkg
          have hfl : fs.length ≤ ls.length := by have := fields_length HFS.out; rw [this, List.length_take]; omega
          have HE := Lib.hid (show Errs wr aR aL from ⟨(HB.out.cell (p := ⟨_, 0, none⟩) hg1).trans he.req, (HB.out.cell (p := ⟨_, 0, none⟩) hg2).trans he.large⟩)
          by_cases hlt : k < ls.length
          · by_cases hnil : ls = []
            · rw [hnil] at hlt; simp at hlt
            · first
                | exact absurd h hnil
                | (obtain ⟨x, hx⟩ : ∃ x, ls[k]? = some x := ⟨ls[k], List.getElem?_eq_getElem hlt⟩
                   have cx : wr.cell? ⟨w.heap.size + 1, 1 + k, none⟩ = some (.string ⟨x.toArray⟩) := (World.cell?_of_block (w := w1) (a := ⟨w.heap.size + 1, 1 + k, none⟩) HL.out).trans (by rw [show 1 + k = k + 1 by omega]; exact HC.out (k + 1) x (by simpa using hx))
                   have hxs : x.length ≤ 1048576 := HSZ.out x (List.mem_of_getElem? hx)
                   have HX := Lib.hid hx
                   clear hx
                   go_wp2_with fail
                   refine (field ⟨x.toArray⟩ _ (by rw [Com.size_mk]; omega) (HM.out.below HB.out)).mono ?_
                   rintro e wf ⟨hfp, hbf⟩
                   have hzf := hbf.size
                   have HRf := Lib.hid (HR.out.below hbf)
                   have HQf := Lib.hid (HQ.out.below hbf)
                   have HOf := Lib.hid (Com.own_below HO.out hbf)
                   have HLf := Lib.hid ((hbf.block (w.heap.size + 1) (by omega)).trans HL.out)
                   have HBf := Lib.hid (HB.out.trans (hbf.mono HB.out.size))
                   have HEf := Lib.hid (HE.out.below hbf)
                   unfold FieldPost at hfp
                   rw [show (ByteArray.mk x.toArray).data.toList = x from rfl] at hfp
                   clear cx hbf
                   cases hff : Ht.field x with
                   | none =>
                     rw [hff] at hfp
                     obtain ⟨va, vb, rfl⟩ := hfp
                     have HV := Lib.hid (head_bad2 HLS.out HF.out (fields_stop HX.out hff))
                     have hb3 : Below wf.heap.size wf (wf.alloc (.cells #[.string va, .string vb] 39)) := (Below.refl _ _).alloc (Nat.le_refl _) _
                     have HR9 := Lib.hid (HRf.out.below hb3)
                     have HB9 := Lib.hid (HBf.out.trans (hb3.mono HBf.out.size))
                     obtain ⟨r0, r1, r2, r3, f0, f1, f2, f3⟩ := HR9.out.cells
                     have hq := (HEf.out.below hb3).req
                     have n1 : (12 : Nat) ≠ w.heap.size := by omega
                     have n2 : w.heap.size ≠ (12 : Nat) := by omega
                     clear hb3 hff
                     go_wp2_with fail
                     go_region
                     all_goals
                       go_wp2
                       refine bodyPost_ret (Rq.run (rq_drew (HR9.out.put _ _ _ _)) rfl rfl rfl) rfl ⟨?_, (below_four HB9.out _ _ _ _).drew⟩
                       exact hp_no HV.out rfl
                   | some f =>
                     rw [hff] at hfp
                     simp only at hfp
                     subst hfp
                     obtain ⟨fn, fv⟩ := f
                     simp only
                     have HFS2 := Lib.hid (show fields (ls.take (k + 1)) = some (fs ++ [(fn, fv)]) by
                       rw [List.take_add_one, HX.out]
                       exact fields_snoc HFS.out hff)
                     have hb3 : Below wf.heap.size wf (wf.alloc (.cells #[.string ⟨fn.toArray⟩, .string ⟨fv.toArray⟩] 39)) := (Below.refl _ _).alloc (Nat.le_refl _) _
                     have HO9 := Lib.hid (Com.own_below HOf.out hb3)
                     have HQ9 := Lib.hid (HQf.out.below hb3)
                     obtain ⟨r0, r1, r2, r3, f0, f1, f2, f3⟩ := HQ9.out.cells
                     have q0 : (wf.alloc (.cells #[.string ⟨fn.toArray⟩, .string ⟨fv.toArray⟩] 39)).cell? ⟨wf.heap.size, 0, none⟩ = some (.string ⟨fn.toArray⟩) := by rw [Lib.cell_of_heap (heap_alloc_new _ _)]; rfl
                     have q1 : (wf.alloc (.cells #[.string ⟨fn.toArray⟩, .string ⟨fv.toArray⟩] 39)).cell? ⟨wf.heap.size, 1, none⟩ = some (.string ⟨fv.toArray⟩) := by rw [Lib.cell_of_heap (heap_alloc_new _ _)]; rfl
                     have hz9 : (wf.alloc (.cells #[.string ⟨fn.toArray⟩, .string ⟨fv.toArray⟩] 39)).heap.size = wf.heap.size + 1 := World.size_alloc _ _
                     have HR9 := Lib.hid (HRf.out.below hb3)
                     have HL9 := Lib.hid ((hb3.block (w.heap.size + 1) (by omega)).trans HLf.out)
                     have HB9 := Lib.hid (HBf.out.trans (hb3.mono HBf.out.size))
                     clear hff hb3
                     go_wp2_with (at_builtin; refine wpList_append_own _ rfl _ _ 25 rfl W3.heap.size 39 i0 (.agg #[.string ⟨#[]⟩, .string ⟨#[]⟩]) 2 32 Tryz.underlying25 hi hz0 hz1 hz2 rfl (by decide) _ _ _ rfl (HO9.out.alloc _) ⟨wf.heap.size + 1, 0, none⟩ 1 1 [.string ⟨fn.toArray⟩, .string ⟨fv.toArray⟩] rfl rfl (cells_two' _ _ _ _ _ (World.size_alloc _ _)) (by simp [Value.oneCell']) (by unfold maxLen; omega) (by omega) (by simp; omega) ?_; intro v' W4 hown' hgrow _; obtain ⟨g4, cap4, rfl⟩ := own_form hown'; have hQ4 := rq_grown HQ9.out HO9.out hs3 hgrow; obtain ⟨y0, y1, y2, y3, z0, z1, z2, z3⟩ := hQ4.cells; have HQ4 := Lib.hid hQ4; clear hQ4)
                     have B4 : Below W3.heap.size (wf.alloc (.cells #[.string ⟨fn.toArray⟩, .string ⟨fv.toArray⟩] 39)) W4 := ((Below.refl _ _).alloc (by simp; omega) _).grown hgrow (by simp; omega) (fun j hj => (HO9.out.lt j hj).1)
                     have hownF : W4.ownsRow W3.heap.size 39 2 (.slice (some ⟨g4, 0, none⟩) (fs.length + 1) cap4) (fs ++ [(fn, fv)]).length (fcells (fs ++ [(fn, fv)])) := by
                       rw [fcells_snoc, List.length_append]
                       exact hown'
                     go_roundg (ls.length - (k + 1))
                     case measure => have := HG.out; omega
                     case rel =>
                       refine ⟨k + 1, fs ++ [(fn, fv)], .slice (some ⟨g4, 0, none⟩) (fs.length + 1) cap4, by omega, by go_num, HFS2, ?_, HQ4.out.put3 _, ownsRow_setCell_below hownF (by simp; omega) _, ?_, ?_, ?_⟩
                       · exact Rq.far ((B4.block w.heap.size (by omega)).trans HR9.out) (by simp; omega) _
                       · exact (Below.heap_setCell _ _ _ _ (by simp; omega)).trans ((B4.block _ (by omega)).trans HL9.out)
                       · exact (HB9.out.trans (B4.mono (by omega))).setCell (p := ⟨w2.heap.size, 2, none⟩) (by simp; omega) _
                       · have := B4.size; simp [World.setCell] at this ⊢; omega)
          · have hk : ls.take k = ls := List.take_of_length_le (by omega)
            obtain ⟨av, cv, rfl, hcv, hfs⟩ := fs_of_own HO.out
            have hfin := HFS.out
            rw [hk] at hfin
            have HH := Lib.hid (head_ok HLS.out HF.out hfin)
            clear hk hfin
            obtain ⟨r0, r1, r2, r3, f0, f1, f2, f3⟩ := HR.out.cells
            obtain ⟨y0, y1, y2, y3, z0, z1, z2, z3⟩ := HQ.out.cells
            by_cases h32 : 32 < fs.length
            · have hq := HE.out.large
              have n1 : (0 : Nat) ≠ w.heap.size := by omega
              have n2 : w.heap.size ≠ (0 : Nat) := by omega
              go_wp2_with fail
              go_region
              all_goals
                go_wp2
                refine bodyPost_ret (Rq.run (rq_drew (HR.out.put _ _ _ _)) rfl rfl rfl) rfl ⟨?_, (below_four HB.out _ _ _ _).drew⟩
                exact hp_no (by rw [HH.out, if_pos h32]) rfl
            · have HFsw := Lib.hid hfs
              clear hfs
              go_wp2_with fail
              refine bodyPost_ret ((HR.out.put _ _ _ _).run rfl rfl rfl) rfl ⟨?_, below_four HB.out _ _ _ _⟩
              unfold HeadPost
              rw [HH.out, if_neg h32]
              refine ⟨av, cv, rfl, ?_, by omega, fun p hp => by subst hp; have := (HO.out.lt p.block rfl).1; omega⟩
              exact fs_put4 HO.out HFsw.out (by omega) _ _ _ _
end Go.Proofs.YtnhjbcjeeilicaaGreatDoor.HtG
