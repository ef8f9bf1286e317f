/-
  The walk of the law HttpRows.
-/
import Derived.Test.YtnhjbcjeeilicaaDoorHtBJ
namespace Go.Proofs.YtnhjbcjeeilicaaDoor.HtBK
open Go.RowKit Go.Proofs.YtnhjbcjeeilicaaDoor Go.Proofs.YtnhjbcjeeilicaaDoor.Ht Go.Proofs.YtnhjbcjeeilicaaDoor.HtW Go.Proofs.YtnhjbcjeeilicaaDoor.HtC Go.Proofs.YtnhjbcjeeilicaaDoor.HtG Go.Proofs.YtnhjbcjeeilicaaDoor.HtI Go.Proofs.YtnhjbcjeeilicaaDoor.HtK Go.Proofs.YtnhjbcjeeilicaaDoor.HtN Go.Proofs.YtnhjbcjeeilicaaDoor.HtU Go.Proofs.YtnhjbcjeeilicaaDoor.HtX Go.Proofs.YtnhjbcjeeilicaaDoor.HtAA Go.Proofs.YtnhjbcjeeilicaaDoor.HtBB Go.Proofs.YtnhjbcjeeilicaaDoor.HtBH Go.Proofs.YtnhjbcjeeilicaaDoor.HtBI Go.Proofs.YtnhjbcjeeilicaaDoor.HtBJ

set_option maxHeartbeats 4000000 in
set_option maxRecDepth 100000 in
theorem rows (L : List Rd) (X : List UInt8) {a0 aX : Option Addr} (c0 cX : Nat) (w : World) {aR aL : Addr} (hr : Rs w a0 L) (hl : ∀ r ∈ L, r.lies w) (hq : ∀ r ∈ L, r.bd.length ≤ 1024 → r.fs.length ≤ 32 → r.req.length ≤ 134217728) (hn : L.length ≤ 4294967296)
    (hx : Bs w aX X cX) (hxl : X.length ≤ 1048576) (hm : Mx w) (he : Errs w aR aL) (ht : Tab w) :
    Calls Tryd.prog 7 #[.slice a0 L.length c0, .slice aX X.length cX] w fun e w' => e = .returned (.bool true) ∧ Below w.heap.size w w' := by
  obtain ⟨i0, hi, hz0, hz1, hz2⟩ := info_parts infoReq
  have HRS := Lib.hid hr; clear hr
  have HLI := Lib.hid hl; clear hl
  have HQ := Lib.hid hq; clear hq
  have HX := Lib.hid hx; clear hx
  have HM := Lib.hid hm; clear hm
  have HE := Lib.hid he; clear he
  have HT := Lib.hid ht; clear ht
  go_enter Tryd.func7, Tryd.ntmps7
  go_wp2_with fail
  refine (alive w HM.out HE.out HT.out).mono ?_
  rintro e w1 ⟨rfl, hb1⟩
  have ho1 := own_empty w1 w.heap.size 5 1 hb1.size
  have hb2 := hb1.alloc hb1.size (.cells #[] 5)
  have ho2 := own_empty (w1.alloc (.cells #[] 5)) w.heap.size 25 4 hb2.size
  have hb3 := hb2.alloc hb2.size (.cells #[] 25)
  have ho3 := ho1.alloc (.cells #[] 25)
  rw [World.size_alloc] at ho2
  go_wp2_with fail
  go_loopg [5, 6, 20] L.length (fun g b rv iv wr => ∃ k : Nat, k + g = L.length ∧ iv = .int .i64 k ∧ Hid (wr.ownsRow w.heap.size 5 1 b (cat (sel L k)).length (Lib.byteCells (cat (sel L k)))) ∧ Hid (wr.ownsRow w.heap.size 25 4 rv (sel L k).length (rcells (sel L k))) ∧ Hid (Below w.heap.size w wr))
  case atStart => exact ⟨0, by omega, rfl, ho3, ho2, hb3⟩
  case round =>
    clear ho1 ho2 ho3 hb1 hb2 hb3
    obtain ⟨k, hkg, rfl, HOb, HOr, HB⟩ := hrel
    have HG := Lib.hid hkg
    have hk : k ≤ L.length := by omega
    clear hkg
    by_cases hlt : k < L.length
    · obtain ⟨r, hrk⟩ : ∃ r, L[k]? = some r := ⟨L[k], List.getElem?_eq_getElem hlt⟩
      obtain ⟨bb, oo, rfl, hbb, d0, d1, d2, d3⟩ := HRS.out.at hrk
      have c0 := (HB.out.cell (p := ⟨bb, _, none⟩) hbb).trans d0
      have c1 := (HB.out.cell (p := ⟨bb, _, none⟩) hbb).trans d1
      have c2 := (HB.out.cell (p := ⟨bb, _, none⟩) hbb).trans d2
      have c3 := (HB.out.cell (p := ⟨bb, _, none⟩) hbb).trans d3
      have hmem := List.mem_of_getElem? hrk
      have HL1 := Lib.hid (HLI.out r hmem)
      have HQ1 := Lib.hid (HQ.out r hmem)
      have HY := Lib.hid (sel_yes (k := k) hrk)
      have HN := Lib.hid (sel_no (k := k) hrk)
      clear hrk hmem d0 d1 d2 d3
      obtain ⟨m, t, bd, fs, af, cf, ab, cb⟩ := r
      simp only [Rd.v0, Rd.v1, Rd.v2, Rd.v3] at c0 c1 c2 c3
      have hal := (Below.refl wr.heap.size wr).alloc (Nat.le_refl _) (.cells #[.string ⟨m.toArray⟩, .string ⟨t.toArray⟩, .slice af fs.length cf, .slice ab bd.length cb] 25)
      have hR : Rq wr.heap.size (wr.alloc (.cells #[.string ⟨m.toArray⟩, .string ⟨t.toArray⟩, .slice af fs.length cf, .slice ab bd.length cb] 25)) (.string ⟨m.toArray⟩) (.string ⟨t.toArray⟩) (.slice af fs.length cf) (.slice ab bd.length cb) := heap_alloc_new _ _
      have HOb2 := Lib.hid (Com.own_below HOb.out hal)
      have HOr2 := Lib.hid (Com.own_below HOr.out hal)
      have HB2 := Lib.hid (HB.out.trans (hal.mono HB.out.size))
      have HR2 := Lib.hid hR
      clear hal hR
      have k0 : (k : Int) ≤ 9223372036854775806 := by omega
      by_cases h1 : 30 ≤ k
      · have h1' : ¬ (k : Int) < 30 := by omega
        have HS := Lib.hid (HN.out (by simp [Rd.ok]; omega))
        clear HY HN
        obtain ⟨x0, x1, x2, x3, -, -, -, -⟩ := HR2.out.cells
        go_wp2_with fail
        go_roundg (L.length - (k + 1))
        case measure => have := HG.out; omega
        case rel => exact ⟨k + 1, by omega, by go_num, by rw [HS.out]; exact HOb2, by rw [HS.out]; exact HOr2, HB2⟩
      have h1' : (k : Int) < 30 := by omega
      by_cases h2 : 1024 < bd.length
      · have h2' : ¬ (bd.length : Int) ≤ 1024 := by omega
        have HS := Lib.hid (HN.out (by simp [Rd.ok]; omega))
        clear HY HN
        obtain ⟨x0, x1, x2, x3, -, -, -, -⟩ := HR2.out.cells
        go_wp2_with fail
        go_roundg (L.length - (k + 1))
        case measure => have := HG.out; omega
        case rel => exact ⟨k + 1, by omega, by go_num, by rw [HS.out]; exact HOb2, by rw [HS.out]; exact HOr2, HB2⟩
      have h2' : (bd.length : Int) ≤ 1024 := by omega
      by_cases h3 : 32 < fs.length
      · have h3' : ¬ (fs.length : Int) ≤ 32 := by omega
        have HS := Lib.hid (HN.out (by simp [Rd.ok]; omega))
        clear HY HN
        obtain ⟨x0, x1, x2, x3, -, -, -, -⟩ := HR2.out.cells
        go_wp2_with fail
        go_roundg (L.length - (k + 1))
        case measure => have := HG.out; omega
        case rel => exact ⟨k + 1, by omega, by go_num, by rw [HS.out]; exact HOb2, by rw [HS.out]; exact HOr2, HB2⟩
      have h3' : (fs.length : Int) ≤ 32 := by omega
      obtain ⟨x0, x1, x2, x3, -, -, -, -⟩ := HR2.out.cells
      have hrl : (HtBB.req m t fs bd).length ≤ 134217728 := HQ1.out (by show bd.length ≤ 1024; omega) (by show fs.length ≤ 32; omega)
      go_wp2_with fail
      refine (plain m t bd fs cf cb _ (HL1.out.1.below HB2.out) (HL1.out.2.below HB2.out) (by omega) (by omega)).mono ?_
      rintro e w3 ⟨rfl, hb3⟩
      have HOb3 := Lib.hid (Com.own_below HOb2.out hb3)
      have HOr3 := Lib.hid (Com.own_below HOr2.out hb3)
      have HB3 := Lib.hid (HB2.out.trans (hb3.mono HB2.out.size))
      have HR3 := Lib.hid (HR2.out.below hb3)
      have hz3 : wr.heap.size < w3.heap.size := HR3.out.lt
      clear hb3 x0 x1 x2 x3 HOb2 HOr2 HB2 HR2
      obtain ⟨x0, x1, x2, x3, -, -, -, -⟩ := HR3.out.cells
      cases hip : isPlain m t bd fs
      · have HS := Lib.hid (HN.out (by simp [Rd.ok, Rd.plain, hip]))
        clear HY HN hip
        go_wp2_with fail
        go_roundg (L.length - (k + 1))
        case measure => have := HG.out; omega
        case rel => exact ⟨k + 1, by omega, by go_num, by rw [HS.out]; exact HOb3, by rw [HS.out]; exact HOr3, HB3⟩
      have HS := Lib.hid (HY.out (by simp [Rd.ok, Rd.plain, hip]; omega))
      have hsl := (sel_len L k).2
      have hcl := cat_len (R := sel L k) (fun r hr => by have := sel_mem hr; exact HQ.out r this.1 this.2.2.1 this.2.2.2)
      clear HY HN hip
      go_wp2_with (at_builtin; refine wpList_append_own _ rfl _ _ 49 rfl w.heap.size 25 i0 (.agg #[.string ⟨#[]⟩, .string ⟨#[]⟩, .slice none 0 0, .slice none 0 0]) 4 80 Tryd.underlying49 hi hz0 hz1 hz2 rfl (by decide) _ _ _ rfl (HOr3.out.alloc _) ⟨w3.heap.size, 0, none⟩ 1 1 [.string ⟨m.toArray⟩, .string ⟨t.toArray⟩, .slice af fs.length cf, .slice ab bd.length cb] rfl rfl (cells_four _ _ _ _ _ _ _ rfl) (rd_one ⟨m, t, bd, fs, af, cf, ab, cb⟩) (by unfold maxLen; omega) (by omega) (by have := HB3.out.size; simp; omega) ?_; intro v' W4 hown' hgrow _; have HR4 := Lib.hid (show Rq wr.heap.size W4 (.string ⟨m.toArray⟩) (.string ⟨t.toArray⟩) (.slice af fs.length cf) (.slice ab bd.length cb) from (hgrow.block wr.heap.size (by rw [World.size_alloc]; omega) (fun e => by have := (HOr.out.lt _ e.symm).2; omega)).trans ((Below.heap_alloc w3 _ _ hz3).trans HR3.out)); obtain ⟨y0, y1, y2, y3, -, -, -, -⟩ := HR4.out.cells)
      have HOb4 := Lib.hid (own_other (HOb3.out.alloc _) (HOr3.out.alloc _) (by decide) rfl hgrow)
      have HB4 := Lib.hid ((HB3.out.alloc HB3.out.size (.cells #[.string ⟨m.toArray⟩, .string ⟨t.toArray⟩, .slice af fs.length cf, .slice ab bd.length cb] 25)).grown hgrow (by have := HB3.out.size; simp; omega) (fun j hj => (HOr3.out.lt j hj).1))
      have HOr4 := Lib.hid (show W4.ownsRow w.heap.size 25 4 v' (sel L (k + 1)).length (rcells (sel L (k + 1))) by
        rw [HS.out, rcells_snoc, List.length_append]
        exact hown')
      have HC := Lib.hid (show cat (sel L (k + 1)) = cat (sel L k) ++ HtBB.req m t fs bd by rw [HS.out, cat_snoc]; rfl)
      clear hown' hgrow HR3 HB3 HOr3 HOb3 x0 x1 x2 x3 HS
      refine (request m t bd fs cf cb _ (HL1.out.1.below HB4.out) (HL1.out.2.below HB4.out) (by omega) (by omega)).mono ?_
      rintro e w5 ⟨⟨ar, cr, rfl, hbs5, -⟩, hb5⟩
      have HOb5 := Lib.hid (Com.own_below HOb4.out hb5)
      have HOr5 := Lib.hid (Com.own_below HOr4.out hb5)
      have HB5 := Lib.hid (HB4.out.trans (hb5.mono HB4.out.size))
      have HBS5 := Lib.hid hbs5
      clear hb5 hbs5 HOb4 HOr4 HB4 HR4 y0 y1 y2 y3
      have hl5 : (cat (sel L k)).length + (HtBB.req m t fs bd).length ≤ 140737488355328 := by omega
      go_wp2_with (at_builtin; refine wpList_append_bytes _ rfl (.tmp 47) (.tmp 49) rfl w.heap.size _ (cat (sel L k)) (HtBB.req m t fs bd) HOb5.out ar cr HBS5.out HB5.out.size hl5 rfl rfl ?_; intro a6 c6 w6 o6 g6 b6)
      have HOb6 := Lib.hid (show w6.ownsRow w.heap.size 5 1 (.slice a6 ((cat (sel L k)).length + (HtBB.req m t fs bd).length) c6) (cat (sel L (k + 1))).length (Lib.byteCells (cat (sel L (k + 1)))) by
        rw [HC.out]
        exact o6)
      have HOr6 := Lib.hid (own_other HOr5.out HOb5.out (by decide) rfl g6)
      have HB6 := Lib.hid (HB5.out.trans b6)
      clear o6 g6 b6
      go_roundg (L.length - (k + 1))
      case measure => have := HG.out; omega
      case rel => exact ⟨k + 1, by omega, by go_num, HOb6, HOr6, HB6⟩
    · obtain rfl : k = L.length := by omega
      clear hlt hk HG
      have hsl := (sel_len L L.length).2
      have hcl := cat_len (R := sel L L.length) (fun r hr => by have := sel_mem hr; exact HQ.out r this.1 this.2.2.1 this.2.2.2)
      have HRm := Lib.hid (show ∀ r ∈ sel L L.length, r.lies w ∧ r.plain = true ∧ r.bd.length ≤ 1024 ∧ r.fs.length ≤ 32 ∧ r.req.length ≤ 134217728 from fun r hr => by
        have h := sel_mem hr
        exact ⟨HLI.out r h.1, h.2.1, h.2.2.1, h.2.2.2, HQ.out r h.1 h.2.2.1 h.2.2.2⟩)
      generalize sel L L.length = R at *
      obtain ⟨aR', cR', rfl, hcR, hRs⟩ := rs_of_own HOr.out
      clear hRs HLI HQ HRS
      have hl5 : (cat R).length + X.length ≤ 140737488355328 := by omega
      go_wp2_with (at_builtin; refine wpList_append_bytes _ rfl (.tmp 52) (.tmp 53) rfl w.heap.size _ (cat R) X HOb.out aX cX (HX.out.below HB.out) HB.out.size hl5 rfl rfl ?_; intro a6 c6 w6 o6 g6 b6)
      obtain ⟨aR2, cR2, hv2, -, hRs⟩ := rs_of_own (own_other HOr.out HOb.out (by decide) rfl g6)
      cases hv2
      have HRs := Lib.hid hRs
      have HB6 := Lib.hid (HB.out.trans b6)
      have hbs6 := (bs_own (n := (cat R).length + X.length) o6).1
      have HBS6 := Lib.hid hbs6
      clear hRs hbs6 o6 g6 b6 HOr HOb HB
      obtain ⟨W6, rfl⟩ : ∃ W6, W6 = w6 := ⟨_, rfl⟩
      go_loopg [5, 57] R.length (fun g b jv wr => ∃ (j : Nat) (a : Option Addr) (n c : Nat), j + g = R.length ∧ jv = .int .i64 j ∧ b = .slice a n c ∧ n = (cat (R.drop j) ++ X).length ∧ Hid (Bs wr a (cat (R.drop j) ++ X) c) ∧ Hid (Below W6.heap.size W6 wr))
      case atStart => exact ⟨0, a6, _, c6, by omega, rfl, rfl, by rw [List.drop_zero, List.length_append], by rw [List.drop_zero]; exact HBS6, Below.refl _ _⟩
      case round =>
        obtain ⟨j, a, n, c, hjg, rfl, rfl, hnl, HBS, HB7⟩ := hrel
        have HG := Lib.hid hjg
        have hj : j ≤ R.length := by omega
        have HNL := Lib.hid hnl
        clear hjg hnl
        by_cases hlt : j < R.length
        · obtain ⟨r, hrj⟩ : ∃ r, R[j]? = some r := ⟨R[j], List.getElem?_eq_getElem hlt⟩
          obtain ⟨bb, oo, rfl, hbb, d0, d1, d2, d3⟩ := HRs.out.at hrj
          have c0 := (HB7.out.cell (p := ⟨bb, _, none⟩) hbb).trans d0
          have c1 := (HB7.out.cell (p := ⟨bb, _, none⟩) hbb).trans d1
          have c2 := (HB7.out.cell (p := ⟨bb, _, none⟩) hbb).trans d2
          have c3 := (HB7.out.cell (p := ⟨bb, _, none⟩) hbb).trans d3
          obtain ⟨hli, hpl, hb4, hf4, hrl⟩ := HRm.out r (List.mem_of_getElem? hrj)
          have HP := Lib.hid (parse_at hrj hpl X)
          have HCC := Lib.hid (cat_cons hrj)
          have HLI := Lib.hid hli
          have hcd := cat_drop R j
          have hxx : (cat (R.drop j) ++ X).length = (cat (R.drop j)).length + X.length := List.length_append
          have hxb : (cat (R.drop j) ++ X).length ≤ 140737488355328 := by omega
          obtain ⟨n4, nb⟩ := HtV.parse_len HP.out
          obtain ⟨g, o, rfl, -⟩ := HBS.out.2.2.resolve_left (fun e => by have e2 := congrArg List.length e; rw [List.length_nil] at e2; omega)
          clear hrj d0 d1 d2 d3 hli hpl
          obtain ⟨m, t, bd, fs, af, cf, ab, cb⟩ := r
          simp only [Rd.v0, Rd.v1, Rd.v2, Rd.v3] at c0 c1 c2 c3
          simp only at HP hb4 hf4
          have hal := (Below.refl wr.heap.size wr).alloc (Nat.le_refl _) (.cells #[.string ⟨m.toArray⟩, .string ⟨t.toArray⟩, .slice af fs.length cf, .slice ab bd.length cb] 25)
          have hR : Rq wr.heap.size (wr.alloc (.cells #[.string ⟨m.toArray⟩, .string ⟨t.toArray⟩, .slice af fs.length cf, .slice ab bd.length cb] 25)) (.string ⟨m.toArray⟩) (.string ⟨t.toArray⟩) (.slice af fs.length cf) (.slice ab bd.length cb) := heap_alloc_new _ _
          have HB8 := Lib.hid (HB7.out.trans (hal.mono HB7.out.size))
          have HBS8 := Lib.hid (HBS.out.below hal)
          have HR8 := Lib.hid hR
          clear hal hR
          go_wp2_with fail
          refine (parse' _ (cat (R.drop j) ++ X) c n _ HNL.out HBS8.out hxb (HM.out.below (HB6.out.trans (HB8.out.mono HB6.out.size))) (HE.out.below (HB6.out.trans (HB8.out.mono HB6.out.size)))).mono ?_
          rintro e w9 ⟨hp, hb9⟩
          unfold ParsePost at hp
          rw [HP.out] at hp
          obtain ⟨af', cf', ab', cb', rfl, hfs', hown', -, -⟩ := hp
          have hbs' := (bs_own hown').1
          have HB9 := Lib.hid (HB8.out.trans (hb9.mono HB8.out.size))
          have HBS9 := Lib.hid (HBS8.out.below hb9)
          have hR9 := HR8.out.below hb9
          have hal2 := (Below.refl w9.heap.size w9).alloc (Nat.le_refl _) (.cells #[.string ⟨m.toArray⟩, .string ⟨t.toArray⟩, .slice af' fs.length cf', .slice ab' bd.length cb'] 25)
          have hQ : Rq w9.heap.size (w9.alloc (.cells #[.string ⟨m.toArray⟩, .string ⟨t.toArray⟩, .slice af' fs.length cf', .slice ab' bd.length cb'] 25)) (.string ⟨m.toArray⟩) (.string ⟨t.toArray⟩) (.slice af' fs.length cf') (.slice ab' bd.length cb') := heap_alloc_new _ _
          have HB10 := Lib.hid (HB9.out.trans (hal2.mono HB9.out.size))
          have HBS10 := Lib.hid (HBS9.out.below hal2)
          have HR10 := Lib.hid (hR9.below hal2)
          have HQ10 := Lib.hid hQ
          have HF10 := Lib.hid (hfs'.below hal2)
          have HD10 := Lib.hid (hbs'.below hal2)
          clear hown' hbs' hfs' hb9 hR9 hal2 hQ HR8 HBS9 HBS8 HB8 HB9 c0 c1 c2 c3
          obtain ⟨x0, x1, x2, x3, -, -, -, -⟩ := HR10.out.cells
          go_wp2_with fail
          refine (request m t bd fs cf cb _ (HLI.out.1.below (HB6.out.trans (HB10.out.mono HB6.out.size))) (HLI.out.2.below (HB6.out.trans (HB10.out.mono HB6.out.size))) (Nat.le_trans hrl (by decide)) (by omega)).mono ?_
          rintro e w11 ⟨⟨ar, cr, rfl, hbs5, -⟩, hb11⟩
          have HB11 := Lib.hid (HB10.out.trans (hb11.mono HB10.out.size))
          have HBS11 := Lib.hid (HBS10.out.below hb11)
          have hR11 := HR10.out.below hb11
          have hQ11 := HQ10.out.below hb11
          have HF11 := Lib.hid (HF10.out.below hb11)
          have HD11 := Lib.hid (HD10.out.below hb11)
          clear hbs5 hb11 HR10 HQ10 HBS10 HB10 HF10 HD10 x0 x1 x2 x3
          obtain ⟨x0, x1, x2, x3, -, -, -, -⟩ := hR11.cells
          obtain ⟨y0, y1, y2, y3, -, -, -, -⟩ := hQ11.cells
          go_wp2_with fail
          refine (same m t m t bd bd fs fs cf cf' cb cb' _ (HLI.out.1.below (HB6.out.trans (HB11.out.mono HB6.out.size))) HF11.out (HLI.out.2.below (HB6.out.trans (HB11.out.mono HB6.out.size))) HD11.out (by omega)).mono ?_
          rintro e w12 ⟨rfl, hb12⟩
          rw [eqR_yes]
          have HB12 := Lib.hid (HB11.out.trans (hb12.mono HB11.out.size))
          have HBS12 := Lib.hid (HBS11.out.below hb12)
          clear hb12 hR11 hQ11 HF11 HD11 HBS11 HB11 x0 x1 x2 x3 y0 y1 y2 y3
          have HL3 := Lib.hid (show n = (cat (R.drop j) ++ X).length from HNL.out)
          have nb : (HtBB.req m t fs bd).length ≤ (cat (R.drop j) ++ X).length := nb
          have n4 : 4 ≤ (HtBB.req m t fs bd).length := n4
          have HCC : Hid (cat (R.drop j) = HtBB.req m t fs bd ++ cat (R.drop (j + 1))) := HCC
          obtain ⟨Q, hQ⟩ : ∃ Q, HtBB.req m t fs bd = Q := ⟨_, rfl⟩
          have hQ2 : (Rd.mk m t bd fs af cf ab cb).req = Q := hQ
          rw [hQ] at nb n4 HCC ⊢
          clear hQ2 hQ HP
          obtain ⟨Y, hY⟩ : ∃ Y, cat (R.drop (j + 1)) ++ X = Y := ⟨_, rfl⟩
          have HE2 := Lib.hid (show cat (R.drop j) ++ X = Q ++ Y by rw [HCC.out, List.append_assoc, hY])
          have HY := Lib.hid hY
          have hnn : Q.length + Y.length = n := by rw [HL3.out, HE2.out, List.length_append]
          obtain ⟨o', ho', ks⟩ := Slc.cut_from (P := Tryd.prog) (t := 23) (by kernel_rfl) (s := 1) (fun _ => by kernel_rfl) g o n c Q.length (Q.length : Int) rfl (by omega)
          have hcap := HBS12.out.1
          have HBN := Lib.hid (show Bs w12 (some ⟨g, o', none⟩) Y (c - Q.length) by
            have h1 := HBS12.out
            rw [HE2.out] at h1 hcap
            rw [List.length_append] at hcap
            by_cases hc : Q.length < c
            · rw [ho' hc, Nat.mul_one]
              have h2 := h1.part Q.length Y.length (by rw [List.length_append]; omega) (c - Q.length) (by omega)
              rw [List.drop_left, List.take_of_length_le (Nat.le_refl _)] at h2
              exact h2
            · have h0 : Y = [] := List.eq_nil_of_length_eq_zero (by omega)
              exact ⟨by omega, (fun h => by cases h), .inl h0⟩)
          clear hY hxx hcd hcap nb ho'
          go_wp2_with fail
          go_roundg (R.length - (j + 1))
          case measure => have := HG.out; omega
          case rel => exact ⟨j + 1, some ⟨g, o', none⟩, n - Q.length, c - Q.length, by omega, by go_num, rfl, by rw [HY.out]; omega, by rw [HY.out]; exact HBN, HB12⟩
        · obtain rfl : j = R.length := by omega
          have he : cat (R.drop R.length) ++ X = X := by rw [List.drop_length]; rfl
          rw [he] at HBS HNL
          obtain rfl := HNL.out
          clear HNL he HG hlt hj
          go_wp2_with fail
          refine (sameBytes X X _ HBS.out (HX.out.below (HB6.out.trans (HB7.out.mono HB6.out.size)))).mono ?_
          rintro e w8 ⟨rfl, rfl⟩
          rw [show eqB X X = true from decide_eq_true rfl]
          go_wp2_with fail
          go_ret
          exact ⟨rfl, HB6.out.trans (HB7.out.mono HB6.out.size)⟩
end Go.Proofs.YtnhjbcjeeilicaaDoor.HtBK
