/-
  The walk of the document's Same.
-/
import Derived.Test.YtnhjbcjeeilicaaGreatDoorHtC
import Derived.Deep.LoopGhost
import Derived.Deep.RegionHeld3
namespace Go.Proofs.YtnhjbcjeeilicaaGreatDoor.HtU
open Go.RowKit Go.Proofs.YtnhjbcjeeilicaaGreatDoor Go.Proofs.YtnhjbcjeeilicaaGreatDoor.Ht Go.Proofs.YtnhjbcjeeilicaaGreatDoor.HtW Go.Proofs.YtnhjbcjeeilicaaGreatDoor.HtC

/-- are two requests alike? -/
def eqR (m t bd : List UInt8) (fs : List Fld) (m' t' bd' : List UInt8) (fs' : List Fld) : Bool := decide (m = m' ∧ t = t' ∧ bd = bd' ∧ fs = fs')
theorem eqR_no {m t bd : List UInt8} {fs : List Fld} {m' t' bd' : List UInt8} {fs' : List Fld} (h : ¬ (m = m' ∧ t = t' ∧ bd = bd' ∧ fs = fs')) : eqR m t bd fs m' t' bd' fs' = false := decide_eq_false h
theorem eqR_yes (m t bd : List UInt8) (fs : List Fld) : eqR m t bd fs m t bd fs = true := decide_eq_true ⟨rfl, rfl, rfl, rfl⟩

set_option maxHeartbeats 4000000 in
set_option maxRecDepth 100000 in
theorem same (m t m' t' bd bd' : List UInt8) (fs fs' : List Fld) {a a' ab ab' : Option Addr} (c c' cb cb' : Nat) (w : World) (hf : Fs w a fs) (hf' : Fs w a' fs') (hb : Bs w ab bd cb) (hb' : Bs w ab' bd' cb') (hl : fs.length ≤ 9223372036854775807) :
    Calls Tryz.prog 8 #[.agg #[.string ⟨m.toArray⟩, .string ⟨t.toArray⟩, .slice a fs.length c, .slice ab bd.length cb], .agg #[.string ⟨m'.toArray⟩, .string ⟨t'.toArray⟩, .slice a' fs'.length c', .slice ab' bd'.length cb']] w fun e w' => e = .returned (.bool (eqR m t bd fs m' t' bd' fs')) ∧ Below w.heap.size w w' := by
  have hB := ((Below.refl w.heap.size w).alloc (Nat.le_refl _) (.cells #[.string ⟨m.toArray⟩, .string ⟨t.toArray⟩, .slice a fs.length c, .slice ab bd.length cb] 27)).alloc (by simp) (.cells #[.string ⟨m'.toArray⟩, .string ⟨t'.toArray⟩, .slice a' fs'.length c', .slice ab' bd'.length cb'] 27)
  have hR : Rq w.heap.size ((w.alloc (.cells #[.string ⟨m.toArray⟩, .string ⟨t.toArray⟩, .slice a fs.length c, .slice ab bd.length cb] 27)).alloc (.cells #[.string ⟨m'.toArray⟩, .string ⟨t'.toArray⟩, .slice a' fs'.length c', .slice ab' bd'.length cb'] 27)) (.string ⟨m.toArray⟩) (.string ⟨t.toArray⟩) (.slice a fs.length c) (.slice ab bd.length cb) := (Below.heap_alloc _ _ _ (by simp)).trans (heap_alloc_new _ _)
  have hR' : Rq (w.heap.size + 1) ((w.alloc (.cells #[.string ⟨m.toArray⟩, .string ⟨t.toArray⟩, .slice a fs.length c, .slice ab bd.length cb] 27)).alloc (.cells #[.string ⟨m'.toArray⟩, .string ⟨t'.toArray⟩, .slice a' fs'.length c', .slice ab' bd'.length cb'] 27)) (.string ⟨m'.toArray⟩) (.string ⟨t'.toArray⟩) (.slice a' fs'.length c') (.slice ab' bd'.length cb') := by
    have := heap_alloc_new (w.alloc (.cells #[.string ⟨m.toArray⟩, .string ⟨t.toArray⟩, .slice a fs.length c, .slice ab bd.length cb] 27)) (.cells #[.string ⟨m'.toArray⟩, .string ⟨t'.toArray⟩, .slice a' fs'.length c', .slice ab' bd'.length cb'] 27)
    rwa [World.size_alloc] at this
  have HF := Lib.hid hf; clear hf
  have HF' := Lib.hid hf'; clear hf'
  have hk := to_string (hb.below hB)
  have hk' := to_string (hb'.below hB)
  go_enter Tryz.func8, Tryz.ntmps8
  by_cases e1 : m = m'
  · by_cases e2 : t = t'
    · by_cases e3 : bd = bd'
      · subst e1 e2 e3
        by_cases e4 : fs.length = fs'.length
        · rw [← e4] at hR hR' hB hk hk' ⊢
          have HL := Lib.hid e4; clear e4
          go_wp2_with fail
          have HB := Lib.hid hB
          clear hB hk hk' hb hb'
          generalize (w.alloc (.cells #[.string ⟨m.toArray⟩, .string ⟨t.toArray⟩, .slice a fs.length c, .slice ab bd.length cb] 27)).alloc (.cells #[.string ⟨m.toArray⟩, .string ⟨t.toArray⟩, .slice a' fs.length c', .slice ab' bd.length cb'] 27) = W at *
          go_loopg [39] fs.length (fun g v39 wr => ∃ k : Nat, k + g = fs.length ∧ v39 = .int .i64 k ∧ Hid (fs.take k = fs'.take k) ∧ Rq w.heap.size wr (.string ⟨m.toArray⟩) (.string ⟨t.toArray⟩) (.slice a fs.length c) (.slice ab bd.length cb) ∧ Rq (w.heap.size + 1) wr (.string ⟨m.toArray⟩) (.string ⟨t.toArray⟩) (.slice a' fs.length c') (.slice ab' bd.length cb') ∧ Below w.heap.size w wr)
          case atStart => exact ⟨0, by simp, rfl, by unfold Hid; simp, hR, hR', HB.out⟩
          case round =>
            clear hR hR' HB
            obtain ⟨k, hkg, rfl, HK, hR, hR', hb⟩ := hrel
            have HG := Lib.hid hkg; clear hkg
            have HBB := Lib.hid hb
            by_cases hlt : k < fs.length
            · have hlt' : k < fs'.length := by rw [← HL.out]; exact hlt
              obtain ⟨q, hq⟩ : ∃ q, fs[k]? = some q := ⟨fs[k], List.getElem?_eq_getElem hlt⟩
              obtain ⟨q', hq'⟩ : ∃ q, fs'[k]? = some q := ⟨fs'[k], List.getElem?_eq_getElem hlt'⟩
              obtain ⟨bb, o, rfl, hbb, d0, d1⟩ := Fs.at HF.out hq
              obtain ⟨bb', o', rfl, hbb', d0', d1'⟩ := Fs.at HF'.out hq'
              have c0 := (hb.drew.cell (p := ⟨bb, o + k * 2, none⟩) hbb).trans d0
              have c1 := (hb.drew.cell (p := ⟨bb, o + k * 2 + 1, none⟩) hbb).trans d1
              have c0' := (hb.drew.cell (p := ⟨bb', o' + k * 2, none⟩) hbb').trans d0'
              have c1' := (hb.drew.cell (p := ⟨bb', o' + k * 2 + 1, none⟩) hbb').trans d1'
              have hRd := hR.below ((Below.refl wr.heap.size wr).drew)
              have hRd' := hR'.below ((Below.refl wr.heap.size wr).drew)
              obtain ⟨x0, x1, x2, x3, -, -, -, -⟩ := hRd.cells
              obtain ⟨y0, y1, y2, y3, -, -, -, -⟩ := hRd'.cells
              obtain ⟨nm, vl⟩ := q
              obtain ⟨nm', vl'⟩ := q'
              simp only at c0 c1 c0' c1'
              have z1 : (0 : Int) ≤ k := by omega
              have z2 : (k : Int) < fs.length := by omega
              clear d0 d1 d0' d1' hb hlt'
              by_cases e5 : nm = nm'
              · by_cases e6 : vl = vl'
                · subst e5 e6
                  have HK2 := Lib.hid (show fs.take (k + 1) = fs'.take (k + 1) by rw [List.take_add_one, List.take_add_one, hq, hq', HK.out])
                  clear hq hq'
                  go_wp2_with fail
                  go_region_held3 (fun W => (W.cell? ⟨w.heap.size, 2, none⟩ = some (.slice (some ⟨bb, o, none⟩) fs.length c) ∧ W.cell? ⟨w.heap.size + 1, 2, none⟩ = some (.slice (some ⟨bb', o', none⟩) fs.length c')) ∧ (W.cell? ⟨bb, o + k * 2, none⟩ = some (.string ⟨nm.toArray⟩) ∧ W.cell? ⟨bb, o + k * 2 + 1, none⟩ = some (.string ⟨vl.toArray⟩)) ∧ W.cell? ⟨bb', o' + k * 2, none⟩ = some (.string ⟨nm.toArray⟩) ∧ W.cell? ⟨bb', o' + k * 2 + 1, none⟩ = some (.string ⟨vl.toArray⟩))
                    (first | exact ⟨⟨x2, y2⟩, ⟨c0, c1⟩, c0', c1'⟩ | assumption)
                    (fail)
                  go_wp2_with fail
                  go_roundg (fs.length - (k + 1))
                  case rel => exact ⟨k + 1, by omega, by go_num, HK2, hRd, hRd', HBB.out.drew⟩
                  case measure => have := HG.out; omega
                · have hn := Lib.hid (eqR_no (m := m) (t := t) (bd := bd) (fs := fs) (m' := m) (t' := t) (bd' := bd) (fs' := fs') (fun h => e6 (by have h2 := h.2.2.2; rw [h2, hq'] at hq; cases hq; rfl)))
                  subst e5
                  have t5 : (vl == vl') = false := by simpa using e6
                  clear hq hq' e6
                  go_wp2_with fail
                  go_region_held3 (fun W => (W.cell? ⟨w.heap.size, 2, none⟩ = some (.slice (some ⟨bb, o, none⟩) fs.length c) ∧ W.cell? ⟨w.heap.size + 1, 2, none⟩ = some (.slice (some ⟨bb', o', none⟩) fs.length c')) ∧ (W.cell? ⟨bb, o + k * 2, none⟩ = some (.string ⟨nm.toArray⟩) ∧ W.cell? ⟨bb, o + k * 2 + 1, none⟩ = some (.string ⟨vl.toArray⟩)) ∧ W.cell? ⟨bb', o' + k * 2, none⟩ = some (.string ⟨nm.toArray⟩) ∧ W.cell? ⟨bb', o' + k * 2 + 1, none⟩ = some (.string ⟨vl'.toArray⟩))
                    (first | exact ⟨⟨x2, y2⟩, ⟨c0, c1⟩, c0', c1'⟩ | assumption)
                    (fail)
                  go_wp2_with fail
                  go_ret
                  exact ⟨by rw [hn.out]; rfl, HBB.out.drew⟩
              · have hn := Lib.hid (eqR_no (m := m) (t := t) (bd := bd) (fs := fs) (m' := m) (t' := t) (bd' := bd) (fs' := fs') (fun h => e5 (by have h2 := h.2.2.2; rw [h2, hq'] at hq; cases hq; rfl)))
                have t5 : (nm == nm') = false := by simpa using e5
                clear hq hq' e5
                go_wp2_with fail
                go_region_held3 (fun W => (W.cell? ⟨w.heap.size, 2, none⟩ = some (.slice (some ⟨bb, o, none⟩) fs.length c) ∧ W.cell? ⟨w.heap.size + 1, 2, none⟩ = some (.slice (some ⟨bb', o', none⟩) fs.length c')) ∧ (W.cell? ⟨bb, o + k * 2, none⟩ = some (.string ⟨nm.toArray⟩) ∧ W.cell? ⟨bb, o + k * 2 + 1, none⟩ = some (.string ⟨vl.toArray⟩)) ∧ W.cell? ⟨bb', o' + k * 2, none⟩ = some (.string ⟨nm'.toArray⟩) ∧ W.cell? ⟨bb', o' + k * 2 + 1, none⟩ = some (.string ⟨vl'.toArray⟩))
                  (first | exact ⟨⟨x2, y2⟩, ⟨c0, c1⟩, c0', c1'⟩ | assumption)
                  (fail)
                go_wp2_with fail
                go_ret
                exact ⟨by rw [hn.out]; rfl, HBB.out.drew⟩
            · have hy := Lib.hid (show eqR m t bd fs m t bd fs' = true by
                have h1 := HK.out
                have h2 := HL.out
                rw [List.take_of_length_le (by omega), List.take_of_length_le (by omega)] at h1
                rw [h1]
                exact eqR_yes m t bd fs')
              go_wp2_with fail
              go_ret
              exact ⟨by rw [hy.out]; rfl, hb⟩
        · have hn := Lib.hid (eqR_no (m := m) (t := t) (bd := bd) (fs := fs) (m' := m) (t' := t) (bd' := bd) (fs' := fs') (fun h => e4 (congrArg List.length h.2.2.2)))
          go_wp2_with fail
          go_ret
          exact ⟨by rw [hn.out]; rfl, hB⟩
      · have hn := Lib.hid (eqR_no (m := m) (t := t) (bd := bd) (fs := fs) (m' := m') (t' := t') (bd' := bd') (fs' := fs') (fun h => e3 h.2.2.1))
        subst e1 e2
        have t3 : (bd == bd') = false := by simpa using e3
        clear e3
        go_wp2_with fail
        go_ret
        exact ⟨by rw [hn.out]; rfl, hB⟩
    · have hn := Lib.hid (eqR_no (m := m) (t := t) (bd := bd) (fs := fs) (m' := m') (t' := t') (bd' := bd') (fs' := fs') (fun h => e2 h.2.1))
      subst e1
      have t3 : (t == t') = false := by simpa using e2
      clear e2
      go_wp2_with fail
      go_ret
      exact ⟨by rw [hn.out]; rfl, hB⟩
  · have hn := Lib.hid (eqR_no (m := m) (t := t) (bd := bd) (fs := fs) (m' := m') (t' := t') (bd' := bd') (fs' := fs') (fun h => e1 h.1))
    have t3 : (m == m') = false := by simpa using e1
    clear e1
    go_wp2_with fail
    go_ret
    exact ⟨by rw [hn.out]; rfl, hB⟩
end Go.Proofs.YtnhjbcjeeilicaaGreatDoor.HtU
