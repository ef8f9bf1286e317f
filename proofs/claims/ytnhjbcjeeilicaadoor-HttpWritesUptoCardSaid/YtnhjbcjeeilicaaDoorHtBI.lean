/-
  The walk of the law HttpBack.
-/
import Derived.Test.YtnhjbcjeeilicaaDoorHtBG
import Derived.Test.YtnhjbcjeeilicaaDoorHtBH
namespace Go.Proofs.YtnhjbcjeeilicaaDoor.HtBI
open Go.RowKit Go.Proofs.YtnhjbcjeeilicaaDoor Go.Proofs.YtnhjbcjeeilicaaDoor.Ht Go.Proofs.YtnhjbcjeeilicaaDoor.HtW Go.Proofs.YtnhjbcjeeilicaaDoor.HtC Go.Proofs.YtnhjbcjeeilicaaDoor.HtG Go.Proofs.YtnhjbcjeeilicaaDoor.HtI Go.Proofs.YtnhjbcjeeilicaaDoor.HtK Go.Proofs.YtnhjbcjeeilicaaDoor.HtN Go.Proofs.YtnhjbcjeeilicaaDoor.HtU Go.Proofs.YtnhjbcjeeilicaaDoor.HtX Go.Proofs.YtnhjbcjeeilicaaDoor.HtAA Go.Proofs.YtnhjbcjeeilicaaDoor.HtBB Go.Proofs.YtnhjbcjeeilicaaDoor.HtBG Go.Proofs.YtnhjbcjeeilicaaDoor.HtBH

/-- can a request be written out? -/
def isPlain (m t bd : List UInt8) (fs : List Fld) : Bool := match Ht.parse (req m t fs bd) with
  | .ok m' t' fs' bd' _ => eqR m' t' bd' fs' m t bd fs
  | _ => false
theorem plain_yes {m t bd : List UInt8} {fs : List Fld} (h : isPlain m t bd fs = true) : ∃ n, Ht.parse (req m t fs bd) = .ok m t fs bd n := by
  unfold isPlain at h
  split at h
  · rename_i m' t' fs' bd' n e
    unfold eqR at h
    obtain ⟨rfl, rfl, rfl, rfl⟩ := of_decide_eq_true h
    exact ⟨n, e⟩
  · cases h
theorem plain_at {m t bd m' t' bd' : List UInt8} {fs fs' : List Fld} {n : Nat} (h : Ht.parse (req m t fs bd) = .ok m' t' fs' bd' n) : eqR m' t' bd' fs' m t bd fs = isPlain m t bd fs := by
  unfold isPlain
  rw [h]
theorem plain_not {m t bd : List UInt8} {fs : List Fld} (h : ∀ m' t' fs' bd' n, Ht.parse (req m t fs bd) ≠ .ok m' t' fs' bd' n) : isPlain m t bd fs = false := by
  unfold isPlain
  split
  · rename_i e; exact absurd e (h _ _ _ _ _)
  · rfl

/-- how long fields' lines are -/
theorem lns_bound {fs : List Fld} {B : Nat} (h : ∀ q ∈ fs, q.1.length ≤ B ∧ q.2.length ≤ B) : (lns fs).length ≤ fs.length * (2 * B + 4) := by
  induction fs with
  | nil => simp [lns]
  | cons f r ih =>
    have e : lns (f :: r) = ln f ++ lns r := by simp [lns]
    have h1 := ih fun q hq => h q (List.mem_cons_of_mem _ hq)
    have h2 := h f List.mem_cons_self
    have h3 : (ln f).length = f.1.length + 2 + f.2.length + 2 := by simp [ln, colon, crlf]; omega
    rw [e, List.length_append, List.length_cons, Nat.add_mul]
    omega
theorem req_bound {m t bd : List UInt8} {fs : List Fld} {B : Nat} (hB : B ≤ 1048576) (hm : m.length ≤ B) (ht : t.length ≤ B) (h : ∀ q ∈ fs, q.1.length ≤ B ∧ q.2.length ≤ B) (hf : fs.length ≤ 32) (hb : bd.length ≤ 1024) : (req m t fs bd).length ≤ 134217728 := by
  have h1 := lns_bound h
  have h2 : fs.length * (2 * B + 4) ≤ 32 * (2 * 1048576 + 4) := Nat.mul_le_mul hf (by omega)
  rw [req_length, top_length]
  omega

set_option maxHeartbeats 4000000 in
set_option maxRecDepth 100000 in
theorem plain (m t bd : List UInt8) (fs : List Fld) {a ab : Option Addr} (c cb : Nat) (w : World) (hf : Fs w a fs) (hb : Bs w ab bd cb) (hl : (req m t fs bd).length ≤ 4294967296) (hfl : fs.length ≤ 4294967296) :
    Calls Tryd.prog 21 #[.agg #[.string ⟨m.toArray⟩, .string ⟨t.toArray⟩, .slice a fs.length c, .slice ab bd.length cb]] w fun e w' => e = .returned (.bool (isPlain m t bd fs)) ∧ Below w.heap.size w w' := by
  have HF := Lib.hid hf; clear hf
  have HB := Lib.hid hb; clear hb
  have hbX : Below w.heap.size w (w.alloc (.cells #[.string ⟨m.toArray⟩, .string ⟨t.toArray⟩, .slice a fs.length c, .slice ab bd.length cb] 25)) := (Below.refl _ _).alloc (Nat.le_refl _) _
  have hRX : Rq w.heap.size (w.alloc (.cells #[.string ⟨m.toArray⟩, .string ⟨t.toArray⟩, .slice a fs.length c, .slice ab bd.length cb] 25)) (.string ⟨m.toArray⟩) (.string ⟨t.toArray⟩) (.slice a fs.length c) (.slice ab bd.length cb) := heap_alloc_new _ _
  have HL := Lib.hid hl; clear hl
  have HBX := Lib.hid hbX; clear hbX
  obtain ⟨r, hP⟩ : ∃ r, Ht.parse (req m t fs bd) = r := ⟨_, rfl⟩
  have HP := Lib.hid hP
  go_enter Tryd.func21, Tryd.ntmps21
  go_wp2_with fail
  generalize w.alloc (.cells #[.string ⟨m.toArray⟩, .string ⟨t.toArray⟩, .slice a fs.length c, .slice ab bd.length cb] 25) = X at *
  obtain ⟨x0, x1, x2, x3, -, -, -, -⟩ := hRX.cells
  have HRX := Lib.hid hRX; clear hRX
  go_wp2_with fail
  refine (request m t bd fs c cb _ (HF.out.below HBX.out) (HB.out.below HBX.out) HL.out hfl).mono ?_
  rintro e w1 ⟨⟨ar, cr, rfl, hbs1, -⟩, hb1⟩
  have HB1 := Lib.hid (HBX.out.trans (hb1.mono HBX.out.size))
  have HR1 := Lib.hid (HRX.out.below hb1)
  have HBS1 := Lib.hid hbs1
  clear hb1 hbs1 x0 x1 x2 x3
  go_wp2_with fail
  refine (rparse _ _ HBS1.out (by have := HL.out; omega)).mono ?_
  rintro e w2 ⟨hp, hb2⟩
  unfold RPost at hp
  rw [HP.out] at hp
  have HB2 := Lib.hid (HB1.out.trans (hb2.mono HB1.out.size))
  have HR2 := Lib.hid (HR1.out.below hb2)
  have HB12 := Lib.hid hb2
  clear hb2
  obtain ⟨x0, x1, x2, x3, -, -, -, -⟩ := HR2.out.cells
  cases r with
  | none =>
    have hpl := Lib.hid (plain_not (fun m' t' fs' bd' n e => by rw [HP.out] at e; cases e))
    simp only at hp
    subst hp
    clear hP
    go_wp2_with fail
    go_ret
    exact ⟨by rw [hpl.out]; rfl, HB2.out.alloc HB2.out.size _⟩
  | no er =>
    have hpl := Lib.hid (plain_not (fun m' t' fs' bd' n e => by rw [HP.out] at e; cases e))
    simp only at hp
    subst hp
    clear hP
    cases er
    all_goals
      simp only [ern]
      go_wp2_with fail
      go_ret
      exact ⟨by rw [hpl.out]; rfl, HB2.out.alloc HB2.out.size _⟩
  | ok m' t' fs' bd' n =>
    obtain ⟨af, cf, abd, cbd, rfl, hfs', hbs', h32⟩ := hp
    have hpl := Lib.hid (plain_at HP.out)
    obtain ⟨n4, nb⟩ := HtV.parse_len HP.out
    have hal := (Below.refl w2.heap.size w2).alloc (Nat.le_refl _) (.cells #[.string ⟨m'.toArray⟩, .string ⟨t'.toArray⟩, .slice af fs'.length cf, .slice abd bd'.length cbd] 25)
    obtain ⟨y0, y1, y2, y3, -, -, -, -⟩ := (HR2.out.below hal).cells
    have n0 : (0 : Int) < n := by omega
    have HB3 := Lib.hid (HB2.out.trans (hal.mono HB2.out.size))
    go_wp2_with fail
    refine (same m' t' m t bd' bd fs' fs cf c cbd cb _ (hfs'.below hal) (HF.out.below HB3.out) (hbs'.below hal) (HB.out.below HB3.out) (by omega)).mono ?_
    rintro e w4 ⟨rfl, hb4⟩
    rw [hpl.out]
    obtain ⟨ip, hip⟩ : ∃ ip, isPlain m t bd fs = ip := ⟨_, rfl⟩
    rw [hip]
    have HIP := Lib.hid hip
    clear hip hpl
    go_wp2_with fail
    go_ret
    exact ⟨by rw [HIP.out]; rfl, HB3.out.trans (hb4.mono HB3.out.size)⟩

set_option maxHeartbeats 4000000 in
set_option maxRecDepth 100000 in
theorem back (m t bd : List UInt8) (fs : List Fld) {a ab : Option Addr} (c cb : Nat) (w : World) {aR aL : Addr} (hf : Fs w a fs) (hb : Bs w ab bd cb) (hl : fs.length ≤ 32 → bd.length ≤ 1024 → (req m t fs bd).length ≤ 4294967296) (hm : Mx w) (he : Errs w aR aL) (ht : Tab w) :
    Calls Tryd.prog 6 #[.agg #[.string ⟨m.toArray⟩, .string ⟨t.toArray⟩, .slice a fs.length c, .slice ab bd.length cb]] w fun e w' => e = .returned (.bool true) ∧ Below w.heap.size w w' := by
  have HF := Lib.hid hf; clear hf
  have HB := Lib.hid hb; clear hb
  have HL0 := Lib.hid hl; clear hl
  have hbX : Below w.heap.size w (w.alloc (.cells #[.string ⟨m.toArray⟩, .string ⟨t.toArray⟩, .slice a fs.length c, .slice ab bd.length cb] 25)) := (Below.refl _ _).alloc (Nat.le_refl _) _
  have hRX : Rq w.heap.size (w.alloc (.cells #[.string ⟨m.toArray⟩, .string ⟨t.toArray⟩, .slice a fs.length c, .slice ab bd.length cb] 25)) (.string ⟨m.toArray⟩) (.string ⟨t.toArray⟩) (.slice a fs.length c) (.slice ab bd.length cb) := heap_alloc_new _ _
  have HBX := Lib.hid hbX; clear hbX
  have HM := Lib.hid hm; clear hm
  have HE := Lib.hid he; clear he
  have HT := Lib.hid ht; clear ht
  go_enter Tryd.func6, Tryd.ntmps6
  go_wp2_with fail
  generalize w.alloc (.cells #[.string ⟨m.toArray⟩, .string ⟨t.toArray⟩, .slice a fs.length c, .slice ab bd.length cb] 25) = X at *
  have HRX := Lib.hid hRX; clear hRX
  refine (alive X (HM.out.below HBX.out) (HE.out.below HBX.out) (HT.out.below HBX.out)).mono ?_
  rintro e w1 ⟨rfl, hb1⟩
  have HB1 := Lib.hid (HBX.out.trans (hb1.mono HBX.out.size))
  have HR1 := Lib.hid (HRX.out.below hb1)
  clear hb1 HRX HBX
  obtain ⟨x0, x1, x2, x3, -, -, -, -⟩ := HR1.out.cells
  by_cases h1 : 1024 < bd.length
  · have h1' : (1024 : Int) < bd.length := by omega
    go_wp2_with fail
    go_ret
    exact ⟨rfl, HB1.out⟩
  have h1' : ¬ (1024 : Int) < bd.length := by omega
  by_cases h2 : 32 < fs.length
  · have h2' : (32 : Int) < fs.length := by omega
    go_wp2_with fail
    go_ret
    exact ⟨rfl, HB1.out⟩
  have h2' : ¬ (32 : Int) < fs.length := by omega
  have HL := Lib.hid (HL0.out (by omega) (by omega))
  have hfl : fs.length ≤ 4294967296 := by omega
  clear HL0
  go_wp2_with fail
  refine (plain m t bd fs c cb _ (HF.out.below HB1.out) (HB.out.below HB1.out) HL.out hfl).mono ?_
  rintro e w2 ⟨rfl, hb2⟩
  have HB2 := Lib.hid (HB1.out.trans (hb2.mono HB1.out.size))
  have HR2 := Lib.hid (HR1.out.below hb2)
  clear hb2 HR1 HB1 x0 x1 x2 x3
  obtain ⟨x0, x1, x2, x3, -, -, -, -⟩ := HR2.out.cells
  cases hip : isPlain m t bd fs
  · clear hip
    go_wp2_with fail
    go_ret
    exact ⟨rfl, HB2.out⟩
  obtain ⟨n, hP⟩ := plain_yes hip
  have HP := Lib.hid (show Ht.parse (req m t fs bd) = .ok m t fs bd (req m t fs bd).length by have := req_parse hP []; rwa [List.append_nil] at this)
  clear hip hP
  go_wp2_with fail
  refine (request m t bd fs c cb _ (HF.out.below HB2.out) (HB.out.below HB2.out) HL.out hfl).mono ?_
  rintro e w3 ⟨⟨ar, cr, rfl, hbs3, -⟩, hb3⟩
  have HB3 := Lib.hid (HB2.out.trans (hb3.mono HB2.out.size))
  have HR3 := Lib.hid (HR2.out.below hb3)
  have HBS3 := Lib.hid hbs3
  clear hb3 hbs3 HR2 HB2 x0 x1 x2 x3
  obtain ⟨R, hR⟩ : ∃ R, req m t fs bd = R := ⟨_, rfl⟩
  rw [hR] at HP HBS3 HL ⊢
  go_wp2_with fail
  refine (parse ar R cr _ HBS3.out (by have := HL.out; omega) (HM.out.below HB3.out) (HE.out.below HB3.out)).mono ?_
  rintro e w4 ⟨hp, hb4⟩
  unfold ParsePost at hp
  rw [HP.out] at hp
  obtain ⟨af, cf, abd, cbd, rfl, hfs, hown, hf32, -⟩ := hp
  obtain ⟨hbs4, -⟩ := HtX.bs_own hown
  have HB4 := Lib.hid (HB3.out.trans (hb4.mono HB3.out.size))
  have HR4 := Lib.hid (HR3.out.below hb4)
  clear hb4 HR3 HB3 hown hR
  have hal := (Below.refl w4.heap.size w4).alloc (Nat.le_refl _) (.cells #[.string ⟨m.toArray⟩, .string ⟨t.toArray⟩, .slice af fs.length cf, .slice abd bd.length cbd] 25)
  obtain ⟨x0, x1, x2, x3, -, -, -, -⟩ := (HR4.out.below hal).cells
  have HB5 := Lib.hid (HB4.out.trans (hal.mono HB4.out.size))
  have HA := Lib.hid hal
  clear hal
  go_wp2_with fail
  refine (same m t m t bd bd fs fs c cf cb cbd _ (HF.out.below HB5.out) (hfs.below HA.out) (HB.out.below HB5.out) (hbs4.below HA.out) (by omega)).mono ?_
  rintro e w6 ⟨rfl, hb6⟩
  rw [eqR_yes]
  go_wp2_with fail
  go_ret
  exact ⟨rfl, HB5.out.trans (hb6.mono HB5.out.size)⟩
end Go.Proofs.YtnhjbcjeeilicaaDoor.HtBI
