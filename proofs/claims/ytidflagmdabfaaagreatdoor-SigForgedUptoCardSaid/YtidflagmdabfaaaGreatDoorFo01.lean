/-
  The walk of the law SigSkews. The walk of package sig's Sign, where it signs, once more: the fields' row is the callee's own.
-/
import Derived.Test.YtidflagmdabfaaaGreatDoorBo06
import Derived.Deep.CutRange
namespace Go.Proofs.YtidflagmdabfaaaGreatDoor.SgP
open Go.RowKit Go.Proofs.YtidflagmdabfaaaGreatDoor Go.Proofs.YtidflagmdabfaaaGreatDoor.HtW Go.Proofs.YtidflagmdabfaaaGreatDoor.HtC Go.Proofs.YtidflagmdabfaaaGreatDoor.Ato Go.Proofs.YtidflagmdabfaaaGreatDoor.SgA Go.Proofs.YtidflagmdabfaaaGreatDoor.SgB Go.Proofs.YtidflagmdabfaaaGreatDoor.SgC Go.Proofs.YtidflagmdabfaaaGreatDoor.SgM Go.Proofs.YtidflagmdabfaaaGreatDoor.SgO

/-- a key's box -/
def Ky (B : Nat) (w : World) (a b : Value) : Prop := w.heap[B]? = some (.cells #[a, b] 71 (0, 0))
theorem Ky.lt {B : Nat} {w : World} {a b : Value} (h : Ky B w a b) : B < w.heap.size := (Array.getElem?_eq_some_iff.1 h).1
theorem Ky.below {B : Nat} {w w' : World} {a b : Value} (h : Ky B w a b) (hb : Below w.heap.size w w') : Ky B w' a b := (hb.block _ h.lt).trans h
theorem Ky.cells {B : Nat} {w : World} {a b : Value} (h : Ky B w a b) : w.cell? ⟨B, 0, none⟩ = some a ∧ w.cell? ⟨B, 1, none⟩ = some b :=
  ⟨Lib.cell_of_heap (j := 0) h, Lib.cell_of_heap (j := 1) h⟩

set_option maxHeartbeats 4000000 in
set_option maxRecDepth 100000 in
theorem skews (m t bd n s oth : List UInt8) (fs : List Sg.Fld) {af ab : Option Addr} (cf cb : Nat) (date off : Int) (w : World) {aU aR aD aK : Addr} (hE : Env w aU aR aD aK) (hN : Ne w) (hf : Fs w af fs) (hb : Bs w ab bd cb)
    (ht : t.length ≤ 1048576) (hm : m.length ≤ 1048576) (hn : n.length ≤ 1048576) (hs : s.length ≤ 1048576) (hbl : bd.length ≤ 1048576) (hfl : fs.length ≤ 1048576) (hfv : ∀ q ∈ fs, q.2.length ≤ 1048576)
    (d0 : -9223372036854775808 ≤ date) (d1 : date ≤ 9223372036854775807) (e0 : -9223372036854775808 ≤ off) (e1 : off ≤ 9223372036854775807) :
    Calls Tryz.prog 10 #[.agg #[.string ⟨m.toArray⟩, .string ⟨t.toArray⟩, .slice af fs.length cf, .slice ab bd.length cb, .string ⟨n.toArray⟩, .string ⟨s.toArray⟩, .int .i64 date, .int .i64 off, .string ⟨oth.toArray⟩]] w fun e w' => e = .returned (.bool true) ∧ Below w.heap.size w w' := by
  have E := Lib.hid hE; clear hE
  have HN := Lib.hid hN; clear hN
  have HF := Lib.hid hf; clear hf
  have HB := Lib.hid hb; clear hb
  have hX0 : Sb w.heap.size (w.alloc (.cells #[.string ⟨m.toArray⟩, .string ⟨t.toArray⟩, .slice af fs.length cf, .slice ab bd.length cb, .string ⟨n.toArray⟩, .string ⟨s.toArray⟩, .int .i64 date, .int .i64 off, .string ⟨oth.toArray⟩] 87)) _ _ _ _ _ _ _ _ _ := heap_alloc_new w _
  have hB0 := (Below.refl w.heap.size w).alloc (Nat.le_refl _) (.cells #[.string ⟨m.toArray⟩, .string ⟨t.toArray⟩, .slice af fs.length cf, .slice ab bd.length cb, .string ⟨n.toArray⟩, .string ⟨s.toArray⟩, .int .i64 date, .int .i64 off, .string ⟨oth.toArray⟩] 87)
  go_enter Tryz.func10, Tryz.ntmps10
  go_upto_region 1 with fail
  obtain ⟨N, hN⟩ : ∃ N, N = w.heap.size := ⟨_, rfl⟩
  rw [← hN] at hX0 ⊢
  have hl0 := hX0.lt
  generalize w.alloc _ = w1 at *
  have HN1 := Lib.hid hN
  have HB1 := Lib.hid hB0
  clear hN hB0
  go_cut [3, 4, 5, 6] from 10 to 17 (fun v3 v4 v5 v6 wx => ∃ P Q : Nat, v3 = .pointer (some ⟨P, 0, none⟩) ∧ v4 = .pointer (some ⟨Q, 0, none⟩) ∧ v5 = .int .i64 date ∧ v6 = .int .i64 off ∧ Hid (Rq P wx (.string ⟨m.toArray⟩) (.string ⟨t.toArray⟩) (.slice af fs.length cf) (.slice ab bd.length cb)) ∧ Hid (Ky Q wx (.string ⟨n.toArray⟩) (.string ⟨s.toArray⟩)) ∧ Hid (Below w1.heap.size w1 wx))
  case first =>
    have hX1 : Sb N w1.drew _ _ _ _ _ _ _ _ _ := hX0
    obtain ⟨x0, x1, x2, x3, x4, x5, x6, x7⟩ := hX1.cells
    obtain ⟨z0, z1, z2, z3, z4, z5, z6, z7⟩ := hX0.cells
    have hne1 : ¬ (N = w1.heap.size) := by omega
    have hne2 : ¬ (w1.heap.size = N) := by omega
    have hne3 : ¬ (N = w1.heap.size + 1) := by omega
    have hne4 : ¬ (w1.heap.size + 1 = N) := by omega
    go_region
    all_goals
      go_wp2_with fail
      go_meet
    all_goals
      first
        | exact ⟨w1.heap.size, w1.heap.size + 1, rfl, rfl, rfl, rfl, heap_alloc2_old _ _ _, heap_alloc2_new _ _ _, (((Below.refl _ _).alloc (Nat.le_refl _) _).alloc (by simp) _).drew⟩
        | exact ⟨w1.heap.size + 1, w1.heap.size, rfl, rfl, rfl, rfl, heap_alloc2_new _ _ _, heap_alloc2_old _ _ _, (((Below.refl _ _).alloc (Nat.le_refl _) _).alloc (by simp) _).drew⟩
  case rest =>
    obtain ⟨P, Q, rfl, rfl, rfl, rfl, HR, HK, HU⟩ := hcut
    have HB2 := Lib.hid (HB1.out.trans (HU.out.mono HB1.out.size))
    clear HU HB1 hX0 hl0
    go_wp2_with fail
    refine (SgN.alive wc (E.out.below HB2.out) (HN.out.below HB2.out)).mono ?_
    rintro e w3 ⟨rfl, hb3⟩
    have HB3 := Lib.hid (HB2.out.trans (hb3.mono HB2.out.size))
    have HR3 := Lib.hid (HR.out.below hb3)
    have HK3 := Lib.hid (HK.out.below hb3)
    clear HR HK HB2 hb3
    have HBS3 := Lib.hid (HB.out.below HB3.out)
    have HFS3 := Lib.hid (HF.out.below HB3.out)
    obtain ⟨x0, x1, x2, x3, -, -, -, -⟩ := HR3.out.cells
    obtain ⟨k0, k1⟩ := HK3.out.cells
    have KS1 := Lib.hid (SgK.sign m t bd fs n s cb cf date w3 (E.out.below HB3.out) HBS3.out HFS3.out (by omega) (by omega) (by omega) d0 d1 (by omega) (by omega) (by omega))
    go_wp2_with fail
    refine KS1.out.mono ?_
    rintro e w4 ⟨hS, hb4⟩
    have HB4 := Lib.hid (HB3.out.trans (hb4.mono HB3.out.size))
    have HK4 := Lib.hid (HK3.out.below hb4)
    clear HR3 HK3 HB3 hb4 x0 x1 x2 x3 k0 k1 KS1 HBS3 HFS3
    cases hS1 : Sg.sign m t bd fs n s date with
    | no er =>
      rw [hS1] at hS
      obtain rfl := hS
      go_wp2_with fail
      go_ret
      exact ⟨rfl, HB4.out.alloc HB4.out.size _⟩
    | ok fa =>
      rw [hS1] at hS
      obtain ⟨aA, cA, aD1, cD1, rfl, hFa, -, hOa⟩ := hS
      have hB5 := (Below.refl w4.heap.size w4).alloc (Nat.le_refl _) (.cells #[.string ⟨m.toArray⟩, .string ⟨t.toArray⟩, .slice aA fa.length cA, .slice aD1 bd.length cD1] 25)
      have hQ5 : Rq w4.heap.size (w4.alloc (.cells #[.string ⟨m.toArray⟩, .string ⟨t.toArray⟩, .slice aA fa.length cA, .slice aD1 bd.length cD1] 25)) _ _ _ _ := heap_alloc_new w4 _
      obtain ⟨o, ho⟩ : ∃ o, Int.tmod off 2199023255552 = o := ⟨_, rfl⟩
      have ho1 : -2199023255552 < o ∧ o < 2199023255552 := by
        rw [← ho]
        have h1 := Int.tmod_lt_of_pos off (show (0 : Int) < 2199023255552 by decide)
        have h2 := Int.tmod_lt_of_pos (-off) (show (0 : Int) < 2199023255552 by decide)
        rw [Int.neg_tmod] at h2
        exact ⟨by omega, h1⟩
      go_upto_region 8 with fail
      obtain ⟨N4, hN4⟩ : ∃ N4, N4 = w4.heap.size := ⟨_, rfl⟩
      have HFA := Lib.hid (hFa.below hB5)
      have HBA := Lib.hid ((SgK.own_bs hOa).below hB5)
      have HB5 := Lib.hid (HB4.out.trans (hB5.mono HB4.out.size))
      have HK5 := Lib.hid (HK4.out.below hB5)
      rw [← hN4] at hQ5 ⊢
      generalize w4.alloc _ = w5 at *
      have hcl := HK5.out.lt
      clear hN4 hB5 hFa hOa HK4 HB4 ho
      obtain ⟨u, hP, hgd, hgn, hfa⟩ := SgL.sign_ok hS1
      simp only [Sg.goodDate, Bool.and_eq_true, decide_eq_true_eq] at hgd
      have hfaL : fa.length ≤ 1048578 := by
        rw [hfa, List.length_append]
        have : (Sg.others fs).length ≤ fs.length := List.length_filter_le _ _
        have h2 : (Sg.two date n (Sg.sigOf (Sg.lines m u bd date) s date)).length = 2 := rfl
        omega
      have hfav : ∀ q ∈ fa, q.2.length ≤ 16777216 := by
        intro q hq
        rw [hfa] at hq
        exact two_len fs n _ date (B := 16777216) (fun q hq => by have := hfv q hq; omega) (by rw [SgL.sig_len]; omega) q hq (Dec.itoa_len d0 d1)
      have hchk := SgL.check_off (s' := [120]) (off := o) hS1
      have hcat : (⟨n.toArray⟩ : ByteArray) ++ ⟨#[45]⟩ = ⟨(n ++ [45]).toArray⟩ := Com.mk_append n [45]
      have hnl : ¬ 9223372036854775807 < n.length + 1 := by omega
      have hwd : IntKind.i64.wrap (date + o) = date + o := IntWalk.i64_in _ ⟨by omega, by omega⟩
      clear hfa hgn hP hS1
      obtain ⟨k0, k1⟩ := HK5.out.cells
      obtain ⟨q0, q1, q2, q3, -, -, -, -⟩ := hQ5.cells
      have hbk := (Below.refl w5.heap.size w5).alloc (Nat.le_refl _) (.cells #[.string ⟨(n ++ [45]).toArray⟩, .string ⟨[(120 : UInt8)].toArray⟩, .string ⟨n.toArray⟩, .string ⟨s.toArray⟩] 71)
      have KC := SgK.check m t bd fa [(n ++ [45], [120]), (n, s)] cD1 cA 2 (date + o) _ (E.out.below (HB5.out.trans (hbk.mono HB5.out.size))) (HBA.out.below hbk) (HFA.out.below hbk) (two_keys w5 (n ++ [45]) [120] n s) (HN.out.below (HB5.out.trans (hbk.mono HB5.out.size))) (by omega) (by simp) (by simp; omega) hfav (by omega) (by omega) (by omega) (by omega) (by omega)
      rw [hchk] at KC
      have KC := Lib.hid KC
      clear hchk hfav hQ5
      go_wp2_with fail
      refine KC.out.mono ?_
      rintro e w6 ⟨rfl, hb6⟩
      have hb6' := hbk.trans (hb6.mono hbk.size)
      have HB6 := Lib.hid (HB5.out.trans (hb6'.mono HB5.out.size))
      have hK6 := HK5.out.below hb6'
      have hsk := (E.out.below HB6.out).skw
      have he := fun W => Err.eqErr aK W
      clear q0 q1 q2 q3 k0 k1 hb6 hb6' hbk KC HK5 hwd hcat
      obtain ⟨k0, k1⟩ := hK6.cells
      by_cases hlo : o < -100
      · rw [if_pos (.inl hlo), show tv aU aR aD aK (.no .skew) = .tuple #[.string ⟨#[]⟩, ev aK] from rfl]
        go_wp2_with fail
        go_ret
        exact ⟨rfl, HB6.out⟩
      · by_cases hhi : 100 < o
        · rw [if_pos (.inr hhi), show tv aU aR aD aK (.no .skew) = .tuple #[.string ⟨#[]⟩, ev aK] from rfl]
          have hlo' : decide (o < -100) = false := decide_eq_false hlo
          go_wp2_with fail
          go_ret
          exact ⟨rfl, HB6.out⟩
        · rw [if_neg (by omega), show tv aU aR aD aK (.ok n) = .tuple #[.string ⟨n.toArray⟩, .nilIface] from rfl]
          have hlo' : decide (o < -100) = false := decide_eq_false hlo
          have hhi' : decide (100 < o) = false := decide_eq_false hhi
          go_wp2_with fail
          go_ret
          exact ⟨rfl, HB6.out⟩
end Go.Proofs.YtidflagmdabfaaaGreatDoor.SgP
namespace Go.Proofs.YtidflagmdabfaaaGreatDoor.SgW
open Go.RowKit Go.Proofs.YtidflagmdabfaaaGreatDoor Go.Proofs.YtidflagmdabfaaaGreatDoor.HtW Go.Proofs.YtidflagmdabfaaaGreatDoor.HtC Go.Proofs.YtidflagmdabfaaaGreatDoor.Lf Go.Proofs.YtidflagmdabfaaaGreatDoor.App Go.Proofs.YtidflagmdabfaaaGreatDoor.ShaG Go.Proofs.YtidflagmdabfaaaGreatDoor.Itoa Go.Proofs.YtidflagmdabfaaaGreatDoor.SgA Go.Proofs.YtidflagmdabfaaaGreatDoor.SgB Go.Proofs.YtidflagmdabfaaaGreatDoor.SgC Go.Proofs.YtidflagmdabfaaaGreatDoor.HeldT Go.Proofs.YtidflagmdabfaaaGreatDoor.SgD

/-- a signed request whose fields lie in a row of its own, or an error -/
def SignPost2 (aU aR aD aK : Addr) (m t bd : List UInt8) (base : Nat) (w' : World) (e : Ending) : Sg.Ans (List Sg.Fld) → Prop
  | .no er => e = .returned (.tuple #[noReq, erv aU aR aD aK er])
  | .ok fs => ∃ af cf abd cbd, e = .returned (.tuple #[.agg #[.string ⟨m.toArray⟩, .string ⟨t.toArray⟩, .slice af fs.length cf, .slice abd bd.length cbd], .nilIface]) ∧ Fs w' af fs ∧ (fs.length ≤ cf ∧ w'.ownsRow base 91 2 (.slice af fs.length cf) fs.length (fcells fs)) ∧ w'.ownsRow base 5 1 (.slice abd bd.length cbd) bd.length (Lib.byteCells bd)

set_option maxHeartbeats 4000000 in
set_option maxRecDepth 100000 in
theorem sign_yes2 (m t bd : List UInt8) (fs : List Sg.Fld) (n s : List UInt8) {ab af : Option Addr} (cb cf : Nat) (date : Int) (w : World) {aU aR aD aK : Addr} {x : List UInt8} (hE : Env w aU aR aD aK) (hb : Bs w ab bd cb) (hf : Fs w af fs) (ht : t.length ≤ 16777215) (hm : m.length ≤ 16777216) (hbl : bd.length ≤ 140737488350000) (h0 : -9223372036854775808 ≤ date) (h1 : date ≤ 9223372036854775807)
    (hno : Sg.text m t bd date = .ok x) (hnl : n.length ≤ 16777216) (hsl : s.length ≤ 140737488340000) (hfl : fs.length ≤ 4294967296) (hxl : x.length ≤ 140737488340000) (hg : Sg.goodName n = true) :
    Calls Tryz.prog 36 #[.agg #[.string ⟨m.toArray⟩, .string ⟨t.toArray⟩, .slice af fs.length cf, .slice ab bd.length cb], .agg #[.string ⟨n.toArray⟩, .string ⟨s.toArray⟩], .int .i64 date] w fun e w' => SignPost2 aU aR aD aK m t bd w.heap.size w' e (.ok (Sg.others fs ++ Sg.two date n (Sg.sigOf x s date))) ∧ Below w.heap.size w w' := by
  have E := Lib.hid hE; clear hE
  have HB := Lib.hid hb; clear hb
  have HF := Lib.hid hf; clear hf
  obtain ⟨w3, hw3, hb3, hz3, hq3, hk3, hr3⟩ : ∃ w3 : World, w3 = (((w.alloc (.cells #[.string ⟨m.toArray⟩, .string ⟨t.toArray⟩, .slice af fs.length cf, .slice ab bd.length cb] 25)).alloc (.cells #[.string ⟨n.toArray⟩, .string ⟨s.toArray⟩] 71)).alloc (.cells #[.string ⟨#[]⟩, .string ⟨#[]⟩, .slice none 0 0, .slice none 0 0] 25)) ∧ Below w.heap.size w w3 ∧ w3.heap.size = w.heap.size + 3 ∧ Rq (w.heap.size + 2) w3 (.string ⟨#[]⟩) (.string ⟨#[]⟩) (.slice none 0 0) (.slice none 0 0) ∧ w3.heap[w.heap.size + 1]? = some (.cells #[.string ⟨n.toArray⟩, .string ⟨s.toArray⟩] 71 (0, 0)) ∧ Rq w.heap.size w3 (.string ⟨m.toArray⟩) (.string ⟨t.toArray⟩) (.slice af fs.length cf) (.slice ab bd.length cb) := by
    refine ⟨_, rfl, (((Below.refl _ _).alloc (Nat.le_refl _) _).alloc (by simp) _).alloc (by simp; omega) _, by simp, ?_, (Below.heap_alloc _ _ _ (by simp)).trans (heap_alloc_at1 _ _), (Below.heap_alloc _ _ _ (by simp; omega)).trans ((Below.heap_alloc _ _ _ (by simp)).trans (heap_alloc_new _ _))⟩
    have := heap_alloc_new ((w.alloc (.cells #[.string ⟨m.toArray⟩, .string ⟨t.toArray⟩, .slice af fs.length cf, .slice ab bd.length cb] 25)).alloc (.cells #[.string ⟨n.toArray⟩, .string ⟨s.toArray⟩] 71)) (.cells #[.string ⟨#[]⟩, .string ⟨#[]⟩, .slice none 0 0, .slice none 0 0] 25)
    rwa [World.size_alloc, World.size_alloc] at this
  have hT := text m t bd (.slice af fs.length cf) cb date w3 (E.out.below hb3) (HB.out.below hb3) ht hm hbl h0 h1
  rw [hno, hw3, show tv aU aR aD aK (.ok x) = .tuple #[.string ⟨x.toArray⟩, .nilIface] from rfl] at hT
  have KT := Lib.hid hT; clear hT
  go_enter Tryz.func36, Tryz.ntmps36
  go_wp2_with (first
    | (go_at_call 35; refine KT.out.mono ?_; rintro e w4 ⟨rfl, hb4⟩; rw [← hw3] at hb4; have hk4 := (hb4.block _ (by omega)).trans hk3; have k0 := Lib.cell_of_heap (j := 0) hk4; have hr4 := hr3.below hb4; obtain ⟨b0, b1, b2, b3, -, -, -, -⟩ := hr4.cells)
    | (go_at_call 73; refine (goodName ⟨n.toArray⟩ _ (by rw [Com.size_mk]; omega)).mono ?_; rintro e w5 ⟨rfl, hw5⟩; subst hw5; rw [show Sg.goodName (ByteArray.mk n.toArray).data.toList = true from hg]))
  have hB4 : Below w.heap.size w w4 := hb3.trans (hb4.mono (by omega))
  have hz4 : w.heap.size + 3 ≤ w4.heap.size := by have := hb4.size; omega
  have hl1 : w.heap.size < w4.heap.size := by omega
  have hl2 : ¬ (w.heap.size = w4.heap.size) := by omega
  have hl3 : ¬ (w4.heap.size = w.heap.size) := by omega
  have HB4 := Lib.hid (show Bs w4.drew ab bd cb from HB.out.below hB4.drew)
  refine Code.wp_mono (Q := onN (SgD.Met m t bd w4 (.pointer (some ⟨w.heap.size, 0, none⟩)) (.pointer (some ⟨w.heap.size + 1, 0, none⟩)) (.pointer (some ⟨w.heap.size + 2, 0, none⟩)) (.int .i64 date) (.string ⟨x.toArray⟩))) ?hq ?hw
  case hw =>
    have HR4 := Lib.hid hr4
    have HL1 := Lib.hid hl1
    clear KT hw3 hk3 hr3 hq3 k0 hk4 hr4 b2 hb3 hb4 hz3
    go_region_held3 (fun W => (W.cell? ⟨w.heap.size, 0, none⟩ = some (.string ⟨m.toArray⟩) ∧ W.cell? ⟨w.heap.size, 1, none⟩ = some (.string ⟨t.toArray⟩)) ∧ W.cell? ⟨w.heap.size, 3, none⟩ = some (.slice ab bd.length cb))
      (first | exact ⟨⟨b0, b1⟩, b3⟩ | exact ⟨⟨g0, g1⟩, g3⟩ | go_keep)
      (first | (refine step_append_nil (by rfl) (.const (.slice none 0 0)) (.tmp 34) (by rfl) _ bd ab cb ?_ (Nat.le_refl _) (by omega) (by rfl) (by rfl) ?_; (first | exact HB4.out | exact HB4.out.below ((Below.refl _ _).alloc (Nat.le_refl _) _)); intro ar cr w6 ho6 hb6; have hr6 : Rq w.heap.size w6 (.string ⟨m.toArray⟩) (.string ⟨t.toArray⟩) (.slice af fs.length cf) (.slice ab bd.length cb) := (hb6.block w.heap.size (by first | exact HL1.out | (simp; omega))).trans (by first | exact HR4.out | exact (Below.heap_alloc _ _ _ HL1.out).trans HR4.out); obtain ⟨g0, g1, g2, g3, -, -, -, -⟩ := hr6.cells; have hl6 := hr6.lt; have hl7 : ¬ w.heap.size = w6.heap.size := (by omega); have hl8 : ¬ w6.heap.size = w.heap.size := (by omega); (try have hq6 := (hb6.block w4.heap.size (by simp)).trans (heap_alloc_new _ _)); (try have c0 := Lib.cell_of_heap (j := 0) hq6); (try have c1 := Lib.cell_of_heap (j := 1) hq6); (try have c2 := Lib.cell_of_heap (j := 2) hq6); (try have c3 := Lib.cell_of_heap (j := 3) hq6); (try have f0 := Lib.frozen_of_heap hq6 0); (try have f1 := Lib.frozen_of_heap hq6 1); (try have f2 := Lib.frozen_of_heap hq6 2); (try have f3 := Lib.frozen_of_heap hq6 3)))
    · exact ⟨_, _, rfl, rfl, rfl, rfl, rfl, rfl, rfl, rfl, _, rfl, rfl, w6.heap.size, ar, cr, rfl, hb6.size, heap_alloc_new _ _, own_alloc ho6 _, ((Below.refl w4.heap.size w4).drew.trans hb6).alloc hb6.size _⟩
    · have hz6 : w4.heap.size + 1 ≤ w6.heap.size := by have := hb6.size; simp at this; omega
      have ho7 : w6.ownsRow (w4.heap.size + 1) 5 1 (.slice ar bd.length cr) bd.length (Lib.byteCells bd) := by
        have e : ∀ o : Obj, (w4.alloc o).drew.heap.size = w4.heap.size + 1 := fun o => World.size_alloc w4 o
        rw [← e]
        exact ho6
      exact ⟨_, _, rfl, rfl, rfl, rfl, rfl, rfl, rfl, rfl, _, rfl, rfl, w4.heap.size, ar, cr, rfl, Nat.le_refl _, Rq.put hq6 _ _ _ _, own_low (own_st4 ho7 (Nat.lt_succ_self _) _ _ _ _) (Nat.le_succ _), below_four' (((Below.refl w4.heap.size w4).alloc (Nat.le_refl _) _).drew.trans (hb6.mono (by simp))) (Nat.le_refl _) _ _ _ _⟩
  case hq =>
    intro e A W hM
    cases e with
    | normal =>
      refine unpackS (P := fun A => Exit.then _ _ Exit.normal A W) hM ?_
      intros
      rename_i hrel
      obtain ⟨rfl, p, ar, cr, rfl, hp4, hQ, hO, hU⟩ := hrel
      have hrW := hr4.below hU
      obtain ⟨x0, x1, x2, x3, -, -, -, -⟩ := hrW.cells
      have HFW := Lib.hid (show Fs w4 af fs from HF.out.below hB4)
      have HQ := Lib.hid hQ; clear hQ
      have HO := Lib.hid hO; clear hO
      have HU := Lib.hid hU; clear hU
      have hE4 := Lib.hid (E.out.below hB4)
      have HQ4 := Lib.hid (hq3.below hb4)
      have HB4' := Lib.hid hB4
      have HZ := Lib.hid (show w.heap.size ≤ w4.heap.size by omega)
      have HZ2 := Lib.hid (show w.heap.size + 2 < w4.heap.size by omega)
      clear KT hw3 hk3 hr3 hq3 k0 b0 b1 b2 b3 hb3 hb4 hz3 hM
      go_wp2_with fail
      clear x0 x1 x2 x3 hrW hl2 hl3
      go_loopg [40] fs.length (fun g v40 wr => ∃ (k : Nat) (a2 : Option Addr) (c2 : Nat), k + g = fs.length ∧ v40 = .int .i64 k ∧ Hid (Rq p wr (.string ⟨m.toArray⟩) (.string ⟨t.toArray⟩) (.slice a2 (Sg.others (fs.take k)).length c2) (.slice ar bd.length cr)) ∧ Hid (wr.ownsRow w4.heap.size 91 2 (.slice a2 (Sg.others (fs.take k)).length c2) (Sg.others (fs.take k)).length (fcells (Sg.others (fs.take k)))) ∧ Hid (wr.ownsRow w4.heap.size 5 1 (.slice ar bd.length cr) bd.length (Lib.byteCells bd)) ∧ Hid (Below w4.heap.size w4 wr))
      case atStart => exact ⟨0, none, 0, by omega, rfl, HQ, ⟨rfl, .inl ⟨rfl, rfl⟩⟩, HO, HU⟩
      case round =>
        clear HQ HO HU
        obtain ⟨k, a2, c2, hkg, rfl, HQ, HO2, HO, HU⟩ := hrel
        have HG := Lib.hid hkg
        by_cases hlt : k < fs.length
        · obtain ⟨q, hq⟩ : ∃ q, fs[k]? = some q := ⟨_, List.getElem?_eq_getElem hlt⟩
          obtain ⟨nm, vl⟩ := q
          obtain ⟨b, o, rfl, hbl', c0, c1⟩ := Fs.at (HFW.out.below HU.out) hq
          simp only at c0 c1
          have HMo := Lib.hid (others_more hq)
          have hpl := HQ.out.lt
          obtain ⟨y0, y1, y2, y3, -, -, f2, -⟩ := HQ.out.cells
          have hole := others_le fs k
          have z0 : (0 : Int) ≤ (k : Int) := by omega
          have z1 : (k : Int) < (fs.length : Int) := by omega
          clear hkg hq
          by_cases e1 : nm = [120, 45, 100, 97, 116, 101]
          · have hkf : keep (nm, vl) = false := by rw [e1]; rfl
            rw [if_neg (by rw [hkf]; decide), List.append_nil] at HMo
            go_wp2_with fail
            rw [← HMo.out] at HQ HO2
            go_roundg (fs.length - (k + 1))
            case measure => have := HG.out; omega
            case rel => exact ⟨k + 1, a2, c2, by have := HG.out; omega, by go_num, HQ.out.below ((Below.refl _ _).alloc (Nat.le_refl _) _), HO2.out.alloc _, HO.out.alloc _, HU.out.alloc HU.out.size _⟩
          · have t1 : (nm == [120, 45, 100, 97, 116, 101]) = false := by rw [beq_eq_false_iff_ne]; exact e1
            by_cases e2 : nm = [97, 117, 116, 104, 111, 114, 105, 122, 97, 116, 105, 111, 110]
            · have hkf : keep (nm, vl) = false := by rw [e2]; rfl
              rw [if_neg (by rw [hkf]; decide), List.append_nil] at HMo
              go_wp2_with fail
              rw [← HMo.out] at HQ HO2
              go_roundg (fs.length - (k + 1))
              case measure => have := HG.out; omega
              case rel => exact ⟨k + 1, a2, c2, by have := HG.out; omega, by go_num, HQ.out.below ((Below.refl _ _).alloc (Nat.le_refl _) _), HO2.out.alloc _, HO.out.alloc _, HU.out.alloc HU.out.size _⟩
            · have t2 : (nm == [97, 117, 116, 104, 111, 114, 105, 122, 97, 116, 105, 111, 110]) = false := by rw [beq_eq_false_iff_ne]; exact e2
              have hkt : keep (nm, vl) = true := by
                show (!(nm == Sg.xdate) && !(nm == Sg.auth)) = true
                rw [show (nm == Sg.xdate) = false from t1, show (nm == Sg.auth) = false from t2]
                rfl
              rw [if_pos hkt] at HMo
              obtain ⟨i0, hi, hz0, hz1, hz2⟩ := info_parts infoField
              have hzr := HU.out.size
              go_wp2_with (at_builtin; go_loud (refine wpList_append_own _ rfl (.tmp 53) (.tmp 55) 22 rfl w4.heap.size 91 i0 (.agg #[.string ⟨#[]⟩, .string ⟨#[]⟩]) 2 32 Tryz.underlying22 hi hz0 hz1 hz2 rfl (by decide) _ _ _ rfl ((HO2.out.alloc _).alloc _) ⟨wr.heap.size + 1, 0, none⟩ 1 1 [.string ⟨nm.toArray⟩, .string ⟨vl.toArray⟩] rfl rfl (two_cells _ _ _ _ _ (World.size_alloc _ _)) (by simp [Value.oneCell']) (by unfold maxLen; omega) (by omega) (by simp; omega) ?_; intro v' W5 hown' hgrow _; obtain ⟨g4, cap4, rfl, hQ5, q1, q2⟩ := more ((HO2.out.alloc _).alloc _) hown' hgrow (HQ.out.below (((Below.refl wr.heap.size wr).alloc (Nat.le_refl _) _).alloc (World.size_le_alloc _ _) _)) (show 25 ≠ 91 by decide)))
              have hOF : W5.ownsRow w4.heap.size 91 2 (.slice (some ⟨g4, 0, none⟩) (Sg.others (fs.take (k + 1))).length cap4) (Sg.others (fs.take (k + 1))).length (fcells (Sg.others (fs.take (k + 1)))) := by
                rw [HMo.out, fcells_snoc, List.length_append]
                exact hown'
              have hgp : g4 ≠ p := fun e => own_ne hown' (show Rq p W5 _ _ _ _ from hQ5) (show 25 ≠ 91 by decide) (by rw [← e]; rfl)
              have hOB : W5.ownsRow w4.heap.size 5 1 (.slice ar bd.length cr) bd.length (Lib.byteCells bd) := keep_other ((HO.out.alloc _).alloc _) ((HO2.out.alloc _).alloc _) hgrow (show 5 ≠ 91 by decide)
              have hUB : Below w4.heap.size w4 W5 := below_more ((HU.out.alloc HU.out.size _).alloc (Nat.le_trans HU.out.size (World.size_le_alloc _ _)) _) ((HO2.out.alloc _).alloc _) hgrow (Nat.le_trans HU.out.size (Nat.le_trans (World.size_le_alloc _ _) (World.size_le_alloc _ _)))
              go_roundg (fs.length - (k + 1))
              case measure => have := HG.out; omega
              case rel => exact ⟨k + 1, some ⟨g4, 0, none⟩, cap4, by have := HG.out; omega, by go_num, (by rw [HMo.out, List.length_append]; exact Rq.put3 hQ5 _), own_keep hOF (fun g hg => Below.heap_setCell _ _ _ _ (fun e => own_ne hOF (show Rq p W5 _ _ _ _ from hQ5) (show 25 ≠ 91 by decide) (hg.trans (congrArg some e)))), own_keep hOB (fun g hg => Below.heap_setCell _ _ _ _ (by rintro rfl; exact own_ne hOB (show Rq _ W5 _ _ _ _ from hQ5) (show 25 ≠ 5 by decide) hg)), hUB.setCell hp4 _⟩
        · obtain rfl : k = fs.length := by omega
          rw [List.take_length] at HQ HO2
          obtain ⟨y0, y1, y2, y3, -, -, f2, -⟩ := HQ.out.cells
          have z1 : ¬ ((fs.length : Int) < (fs.length : Int)) := by omega
          have hkW := (HU.out.block _ (by omega)).trans hk4
          have k0 := Lib.cell_of_heap (j := 0) hkW
          have k1 := Lib.cell_of_heap (j := 1) hkW
          have KI := Lib.hid (show ∀ W : World, ((W.cell? ⟨w.heap.size + 1, 0, none⟩ = some (.string ⟨n.toArray⟩) ∧ W.cell? ⟨w.heap.size + 1, 1, none⟩ = some (.string ⟨s.toArray⟩)) ∧ W.cell? ⟨p, 2, none⟩ = some (.slice a2 (Sg.others fs).length c2)) ∧ St w4 p m t bd (.slice a2 (Sg.others fs).length c2) (Sg.others fs) ar cr W → Calls Tryz.prog 56 #[.int .i64 date] W fun e w' => e = .returned (.string ⟨(Lib.itoa date).toArray⟩) ∧ (((w'.cell? ⟨w.heap.size + 1, 0, none⟩ = some (.string ⟨n.toArray⟩) ∧ w'.cell? ⟨w.heap.size + 1, 1, none⟩ = some (.string ⟨s.toArray⟩)) ∧ w'.cell? ⟨p, 2, none⟩ = some (.slice a2 (Sg.others fs).length c2)) ∧ St w4 p m t bd (.slice a2 (Sg.others fs).length c2) (Sg.others fs) ar cr w') from fun W hW => by
            refine (itoa date h0 h1 W (hE4.out.tab.below hW.2.2.2.2)).mono ?_
            rintro e w9 ⟨rfl, hb9⟩
            exact ⟨rfl, T_next hW hb9⟩)
          have KS := Lib.hid (show ∀ W : World, ((W.cell? ⟨w.heap.size + 1, 0, none⟩ = some (.string ⟨n.toArray⟩) ∧ W.cell? ⟨w.heap.size + 1, 1, none⟩ = some (.string ⟨s.toArray⟩)) ∧ W.cell? ⟨p, 2, none⟩ = some (.slice a2 (Sg.others fs).length c2)) ∧ St w4 p m t bd (.slice a2 (Sg.others fs).length c2) (Sg.others fs) ar cr W → Calls Tryz.prog 74 #[.string ⟨x.toArray⟩, .string ⟨s.toArray⟩, .int .i64 date] W fun e w' => e = .returned (.string ⟨(Sg.sigOf x s date).toArray⟩) ∧ (((w'.cell? ⟨w.heap.size + 1, 0, none⟩ = some (.string ⟨n.toArray⟩) ∧ w'.cell? ⟨w.heap.size + 1, 1, none⟩ = some (.string ⟨s.toArray⟩)) ∧ w'.cell? ⟨p, 2, none⟩ = some (.slice a2 (Sg.others fs).length c2)) ∧ St w4 p m t bd (.slice a2 (Sg.others fs).length c2) (Sg.others fs) ar cr w') from fun W hW => by
            refine (signature x s date W hxl hsl h0 h1 (hE4.out.tab.below hW.2.2.2.2)).mono ?_
            rintro e w9 ⟨rfl, hb9⟩
            exact ⟨rfl, T_next hW hb9⟩)
          have HSt := Lib.hid (show St w4 p m t bd (.slice a2 (Sg.others fs).length c2) (Sg.others fs) ar cr wr from ⟨HO2.out, HO.out, HQ.out, HU.out⟩)
          have hsg : (Sg.sigOf x s date).length ≤ 1000 := by
            rw [show Sg.sigOf x s date = Nm.hex (Sha.mac (Sg.derive s [Lib.itoa date, Sg.s3]) x) from rfl, Nm.hex_length, Sha.mac_length]
            omega
          obtain ⟨R, hR⟩ : ∃ R, R = Sg.others fs ++ Sg.two date n (Sg.sigOf x s date) := ⟨_, rfl⟩
          have HRr := Lib.hid hR
          have hLl : (Sg.others fs).length ≤ fs.length := List.length_filter_le _ _
          rw [show Sg.two date n (Sg.sigOf x s date) = [(Sg.xdate, Lib.itoa date), (Sg.auth, Sg.mark n (Sg.sigOf x s date))] from rfl] at HRr
          have HR0 := Lib.hid hR
          clear hR
          obtain ⟨V0, hV0⟩ : ∃ V, V = Sg.sigOf x s date := ⟨_, rfl⟩
          obtain ⟨I0, hI0⟩ : ∃ V, V = Lib.itoa date := ⟨_, rfl⟩
          obtain ⟨L, hL0⟩ : ∃ V, V = Sg.others fs := ⟨_, rfl⟩
          rw [← hV0] at hsg KS HRr
          rw [← hI0] at KI HRr
          rw [← hL0] at KI KS HRr HSt hLl HQ HO2 y2
          clear hV0 hI0 hL0
          have HT0 := Lib.hid (T_next (W' := wr.drew) ⟨⟨⟨k0, k1⟩, y2⟩, HSt.out⟩ (Below.refl _ _).drew)
          have KB := Lib.hid (show ∀ W : World, Below w4.heap.size w4 W → W.cell? ⟨w.heap.size + 1, 0, none⟩ = some (.string ⟨n.toArray⟩) ∧ W.cell? ⟨w.heap.size + 1, 1, none⟩ = some (.string ⟨s.toArray⟩) from fun W hW => ⟨Lib.cell_of_heap (j := 0) ((hW.block _ (by omega)).trans hk4), Lib.cell_of_heap (j := 1) ((hW.block _ (by omega)).trans hk4)⟩)
          have s1 : ¬ 9223372036854775807 < 9 + n.length := by omega
          have s2 : ¬ 9223372036854775807 < 9 + n.length + 1 := by omega
          have s3 : ¬ 9223372036854775807 < 9 + n.length + 1 + V0.length := by omega
          have hpl := HQ.out.lt
          have HHL := Lib.hid hLl
          have HFL := Lib.hid hfl
          have HXX := Lib.hid hxl
          have HH2 := Lib.hid hsl
          clear hkW hk4 hr4 hkg hLl hfl hxl hsl
          go_wp2_with fail
          refine wp_region_T (fun W => ((W.cell? ⟨w.heap.size + 1, 0, none⟩ = some (.string ⟨n.toArray⟩) ∧ W.cell? ⟨w.heap.size + 1, 1, none⟩ = some (.string ⟨s.toArray⟩)) ∧ W.cell? ⟨p, 2, none⟩ = some (.slice a2 L.length c2)) ∧ Below w4.heap.size w4 W) 19 (by kernel_rfl) ?_
          refine wpAnyT_take (i := 0) (v := ?v0) rfl (by kernel_rfl) (by kernel_rfl) (by kernel_rfl) (by kernel_rfl) (fun _ _ _ h => h) ⟨HT0.out.1, HT0.out.2.2.2.2⟩ (by rfl) ?hy0 ?hr0
          case hy0 => intro w hSw; go_simp; try with_reducible rfl
          try simp only [Act.put, List.setIfInBounds_toArray, List.set_cons_zero, List.set_cons_succ]
          refine wpAnyT_take (i := 1) (v := ?v1) rfl (by kernel_rfl) (by kernel_rfl) (by kernel_rfl) (by kernel_rfl) (fun _ _ _ h => h) ⟨HT0.out.1, HT0.out.2.2.2.2⟩ (by rfl) ?hy1 ?hr1
          case hy1 => intro w hSw; go_simp; try with_reducible rfl
          try simp only [Act.put, List.setIfInBounds_toArray, List.set_cons_zero, List.set_cons_succ]
          refine wpAnyT_take (i := 2) (v := ?v2) rfl (by kernel_rfl) (by kernel_rfl) (by kernel_rfl) (by kernel_rfl) (fun _ _ _ h => h) ⟨HT0.out.1, HT0.out.2.2.2.2⟩ (by rfl) ?hy2 ?hr2
          case hy2 => intro w hSw; go_simp; try with_reducible rfl
          try simp only [Act.put, List.setIfInBounds_toArray, List.set_cons_zero, List.set_cons_succ]
          refine wpAnyT_take (i := 5) (v := ?v5) rfl (by kernel_rfl) (by kernel_rfl) (by kernel_rfl) (by kernel_rfl) (fun _ _ _ h => h) ⟨HT0.out.1, HT0.out.2.2.2.2⟩ (by rfl) ?hy5 ?hr5
          case hy5 => intro w hSw; go_simp; try with_reducible rfl
          try simp only [Act.put, List.setIfInBounds_toArray, List.set_cons_zero, List.set_cons_succ]
          refine wpAnyT_take (i := 6) (v := ?v6) rfl (by kernel_rfl) (by kernel_rfl) (by kernel_rfl) (by kernel_rfl) (fun _ _ _ h => h) ⟨HT0.out.1, HT0.out.2.2.2.2⟩ (by rfl) ?hy6 ?hr6
          case hy6 => intro w hSw; go_simp; try with_reducible rfl
          try simp only [Act.put, List.setIfInBounds_toArray, List.set_cons_zero, List.set_cons_succ]
          refine wpAnyT_take (i := 7) (v := ?v7) rfl (by kernel_rfl) (by kernel_rfl) (by kernel_rfl) (by kernel_rfl) (fun _ _ _ h => h) ⟨HT0.out.1, HT0.out.2.2.2.2⟩ (by rfl) ?hy7 ?hr7
          case hy7 => intro w hSw; go_simp; try with_reducible rfl
          try simp only [Act.put, List.setIfInBounds_toArray, List.set_cons_zero, List.set_cons_succ]
          refine wpAnyT_take (i := 8) (v := ?v8) rfl (by kernel_rfl) (by kernel_rfl) (by kernel_rfl) (by kernel_rfl) (fun _ _ _ h => h) ⟨HT0.out.1, HT0.out.2.2.2.2⟩ (by rfl) ?hy8 ?hr8
          case hy8 => intro w hSw; go_simp; try with_reducible rfl
          try simp only [Act.put, List.setIfInBounds_toArray, List.set_cons_zero, List.set_cons_succ]
          refine wpAnyT_take (i := 9) (v := ?v9) rfl (by kernel_rfl) (by kernel_rfl) (by kernel_rfl) (by kernel_rfl) (fun _ _ _ h => h) ⟨HT0.out.1, HT0.out.2.2.2.2⟩ (by rfl) ?hy9 ?hr9
          case hy9 => intro w hSw; go_simp; try with_reducible rfl
          try simp only [Act.put, List.setIfInBounds_toArray, List.set_cons_zero, List.set_cons_succ]
          refine wpAnyT_take (i := 10) (v := ?v10) rfl (by kernel_rfl) (by kernel_rfl) (by kernel_rfl) (by kernel_rfl) (fun _ _ _ h => h) ⟨HT0.out.1, HT0.out.2.2.2.2⟩ (by rfl) ?hy10 ?hr10
          case hy10 => intro w hSw; go_simp; try with_reducible rfl
          try simp only [Act.put, List.setIfInBounds_toArray, List.set_cons_zero, List.set_cons_succ]
          refine wpAnyT_take (i := 11) (v := ?v11) rfl (by kernel_rfl) (by kernel_rfl) (by kernel_rfl) (by kernel_rfl) (fun _ _ _ h => h) ⟨HT0.out.1, HT0.out.2.2.2.2⟩ (by rfl) ?hy11 ?hr11
          case hy11 => intro w hSw; go_simp; try with_reducible rfl
          try simp only [Act.put, List.setIfInBounds_toArray, List.set_cons_zero, List.set_cons_succ]
          refine wpAnyT_take (i := 12) (v := ?v12) rfl (by kernel_rfl) (by kernel_rfl) (by kernel_rfl) (by kernel_rfl) (fun _ _ _ h => h) ⟨HT0.out.1, HT0.out.2.2.2.2⟩ (by rfl) ?hy12 ?hr12
          case hy12 => intro w hSw; go_simp; try with_reducible rfl
          try simp only [Act.put, List.setIfInBounds_toArray, List.set_cons_zero, List.set_cons_succ]
          refine wpAnyT_one (i := 3) (by kernel_rfl) rfl (fun K hK => ?_)
          go_simp
          go_at_call 56
          refine (KI.out _ HT0.out).mono ?_
          rintro e w9 ⟨rfl, hS9⟩
          try go_wp2_with fail
          refine hK.out _ _ (fun _ => ⟨hS9.1, hS9.2.2.2.2⟩) ?_
          clear hK K
          try simp only [Act.put, List.setIfInBounds_toArray, List.set_cons_zero, List.set_cons_succ]
          refine wpAnyT_take (i := 4) (v := ?v4) rfl (by kernel_rfl) (by kernel_rfl) (by kernel_rfl) (by kernel_rfl) (fun _ _ _ h => h) ⟨hS9.1, hS9.2.2.2.2⟩ (by rfl) ?hy4 ?hr4
          case hy4 => intro w hSw; go_simp; try with_reducible rfl
          try simp only [Act.put, List.setIfInBounds_toArray, List.set_cons_zero, List.set_cons_succ]
          refine wpAnyT_one (i := 13) (by kernel_rfl) rfl (fun K hK => ?_)
          go_simp
          go_at_call 74
          refine (KS.out _ hS9).mono ?_
          rintro e w10 ⟨rfl, hS10⟩
          try go_wp2_with fail
          refine hK.out _ _ (fun _ => ⟨hS10.1, hS10.2.2.2.2⟩) ?_
          clear hK K
          try simp only [Act.put, List.setIfInBounds_toArray, List.set_cons_zero, List.set_cons_succ]
          refine wpAnyT_take (i := 14) (v := ?v14) rfl (by kernel_rfl) (by kernel_rfl) (by kernel_rfl) (by kernel_rfl) (fun _ _ _ h => h) ⟨hS10.1, hS10.2.2.2.2⟩ (by rfl) ?hy14 ?hr14
          case hy14 => intro w hSw; go_simp; try with_reducible rfl
          try simp only [Act.put, List.setIfInBounds_toArray, List.set_cons_zero, List.set_cons_succ]
          refine wpAnyT_take (i := 15) (v := ?v15) rfl (by kernel_rfl) (by kernel_rfl) (by kernel_rfl) (by kernel_rfl) (fun _ _ _ h => h) ⟨hS10.1, hS10.2.2.2.2⟩ (by rfl) ?hy15 ?hr15
          case hy15 => intro w hSw; go_simp; try with_reducible rfl
          try simp only [Act.put, List.setIfInBounds_toArray, List.set_cons_zero, List.set_cons_succ]
          refine wpAnyT_one (i := 16) (by kernel_rfl) rfl (fun K hK => ?_)
          go_simp
          refine hK.out _ _ (fun _ => ⟨(T_next hS10 ((Below.refl _ _).alloc (Nat.le_refl _) _)).1, (T_next hS10 ((Below.refl _ _).alloc (Nat.le_refl _) _)).2.2.2.2⟩) ?_
          clear hK K
          try simp only [Act.put, List.setIfInBounds_toArray, List.set_cons_zero, List.set_cons_succ]
          refine wpAnyT_one (i := 17) (by kernel_rfl) rfl (fun K hK => ?_)
          refine step_append_own (by rfl) (.tmp 60) (.tmp 75) (by rfl) w4.heap.size (.slice a2 L.length c2) L _ _ _ _ (by rfl) hS10.2.1 (by rfl) (by have := HHL.out; have := HFL.out; omega) (by exact hS10.2.2.2.2.size) ?_
          intro v' w6 ho6 hg6
          obtain ⟨g6, c6, rfl, hq6, q1, q2⟩ := more (hS10.2.1.alloc _) ho6 hg6 (hS10.2.2.2.1.below ((Below.refl _ _).alloc (Nat.le_refl _) _)) (show 25 ≠ 91 by decide)
          have hO6 := keep_other (hS10.2.2.1.alloc _) (hS10.2.1.alloc _) hg6 (show 5 ≠ 91 by decide)
          have hU6 := below_more (hS10.2.2.2.2.alloc hS10.2.2.2.2.size _) (hS10.2.1.alloc _) hg6 (Nat.le_trans hS10.2.2.2.2.size (World.size_le_alloc _ _))
          refine hK.out _ _ (fun _ => ⟨⟨KB.out _ hU6, q1⟩, hU6⟩) ?_
          clear hK K
          try simp only [Act.put, List.setIfInBounds_toArray, List.set_cons_zero, List.set_cons_succ]
          refine wpAnyT_take (i := 18) (v := ?v18) rfl (by kernel_rfl) (by kernel_rfl) (by kernel_rfl) (by kernel_rfl) (fun _ _ _ h => h) ⟨⟨KB.out _ hU6, q1⟩, hU6⟩ (by rfl) ?hy18 ?hr18
          case hy18 => intro w hSw; go_simp; try with_reducible rfl
          try simp only [Act.put, List.setIfInBounds_toArray, List.set_cons_zero, List.set_cons_succ]
          refine wpAnyT_one (i := 19) (by kernel_rfl) rfl (fun K hK => ?_)
          go_simp
          refine hK.out _ _ (fun h => absurd rfl h) ?_
          clear hK K
          refine wpAnyT_done (by kernel_rfl) ?_ _
          have hRl : R.length = L.length + 1 + 1 := by rw [HRr.out, List.length_append]; rfl
          have ho7 : w6.ownsRow w4.heap.size 91 2 (.slice (some ⟨g6, 0, none⟩) R.length c6) R.length (fcells R) := by
            rw [hRl, HRr.out, show fcells (L ++ [(Sg.xdate, I0), (Sg.auth, Sg.mark n V0)]) = fcells L ++ fcells [(Sg.xdate, I0), (Sg.auth, Sg.mark n V0)] from List.flatMap_append]
            exact ho6
          have hQ7 := Rq.put3 hq6 (.slice (some ⟨g6, 0, none⟩) (L.length + 1 + 1) c6)
          have hF7 := own_keep ho7 (w' := w6.setCell ⟨p, 2, none⟩ (.slice (some ⟨g6, 0, none⟩) (L.length + 1 + 1) c6)) (fun g hg => Below.heap_setCell _ _ _ _ (fun e => own_ne ho7 hq6 (show 25 ≠ 91 by decide) (hg.trans (congrArg some e))))
          have hO7 := own_keep hO6 (w' := w6.setCell ⟨p, 2, none⟩ (.slice (some ⟨g6, 0, none⟩) (L.length + 1 + 1) c6)) (fun g hg => Below.heap_setCell _ _ _ _ (fun e => own_ne hO6 hq6 (show 25 ≠ 5 by decide) (hg.trans (congrArg some e))))
          have hU7 := hU6.setCell (p := ⟨p, 2, none⟩) hp4 (.slice (some ⟨g6, 0, none⟩) (L.length + 1 + 1) c6)
          generalize w6.setCell _ _ = w7 at *
          obtain ⟨v0, v1, v2, v3, -, -, -, -⟩ := hQ7.cells
          have hQr := HQ4.out.below hU7
          obtain ⟨e0, e1, e2, e3, fr0, fr1, fr2, fr3⟩ := hQr.cells
          have hql := hQr.lt
          go_wp2_with fail
          refine bodyPost_ret (Rq.run6 (hQr.put (.string ⟨m.toArray⟩) (.string ⟨t.toArray⟩) (.slice (some ⟨g6, 0, none⟩) (L.length + 1 + 1) c6) (.slice ar bd.length cr)) rfl rfl rfl) rfl ⟨?_, ?_⟩
          · rw [← HR0.out]
            obtain ⟨aF, cF, hv, hc, hFs⟩ := fs_of_own (own_st4 hF7 HZ2.out (.string ⟨m.toArray⟩) (.string ⟨t.toArray⟩) (.slice (some ⟨g6, 0, none⟩) (L.length + 1 + 1) c6) (.slice ar bd.length cr))
            simp only [Value.slice.injEq] at hv
            obtain ⟨rfl, -, rfl⟩ := hv
            exact ⟨_, c6, ar, cr, (by rw [hRl]; rfl), hFs, ⟨hc, own_low (own_st4 hF7 HZ2.out _ _ _ _) HZ.out⟩, own_low (own_st4 hO7 HZ2.out _ _ _ _) HZ.out⟩
          · exact below_four' (HB4'.out.trans (hU7.mono HZ.out)) (by omega) _ _ _ _
    | _ => exact hM.elim
theorem sign2 (m t bd : List UInt8) (fs : List Sg.Fld) (n s : List UInt8) {ab af : Option Addr} (cb cf : Nat) (date : Int) (w : World) {aU aR aD aK : Addr} (hE : Env w aU aR aD aK) (hb : Bs w ab bd cb) (hf : Fs w af fs) (ht : t.length ≤ 16777215) (hm : m.length ≤ 16777216) (hbl : bd.length ≤ 140737488350000) (h0 : -9223372036854775808 ≤ date) (h1 : date ≤ 9223372036854775807) (hnl : n.length ≤ 16777216) (hsl : s.length ≤ 140737488340000) (hfl : fs.length ≤ 4294967296) :
    Calls Tryz.prog 36 #[.agg #[.string ⟨m.toArray⟩, .string ⟨t.toArray⟩, .slice af fs.length cf, .slice ab bd.length cb], .agg #[.string ⟨n.toArray⟩, .string ⟨s.toArray⟩], .int .i64 date] w fun e w' => SignPost2 aU aR aD aK m t bd w.heap.size w' e (Sg.sign m t bd fs n s date) ∧ Below w.heap.size w w' := by
  cases hx : Sg.text m t bd date with
  | no er =>
    have hs : Sg.sign m t bd fs n s date = .no er := by unfold Sg.sign; rw [hx]
    rw [hs]
    exact sign_no m t bd fs n s cb cf date w hE hb ht hm hbl h0 h1 hx
  | ok x =>
    have hxl := SgK.text_len hx ht hm h0 h1
    by_cases hg : Sg.goodName n = true
    · have hs : Sg.sign m t bd fs n s date = .ok (Sg.others fs ++ Sg.two date n (Sg.sigOf x s date)) := by unfold Sg.sign; rw [hx]; simp only; rw [if_pos hg]
      rw [hs]
      exact sign_yes2 m t bd fs n s cb cf date w hE hb hf ht hm hbl h0 h1 hx hnl hsl hfl (by omega) hg
    · have hs : Sg.sign m t bd fs n s date = .no .req := by unfold Sg.sign; rw [hx]; simp only; rw [if_neg hg]
      rw [hs]
      exact sign_req m t bd fs n s cb cf date w hE hb ht hm hbl h0 h1 hx hnl (by simpa using hg)
end Go.Proofs.YtidflagmdabfaaaGreatDoor.SgW
