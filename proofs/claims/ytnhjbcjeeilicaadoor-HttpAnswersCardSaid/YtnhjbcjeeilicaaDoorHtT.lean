/-
  The walk of the law HttpAnswers.
-/
import Derived.Test.YtnhjbcjeeilicaaDoorHtS
import Derived.Deep.LoopGhost
import Derived.Laws.BitsLemmas
import Derived.Deep.RegionHeld3
namespace Go.Proofs.YtnhjbcjeeilicaaDoor.HtT
open Go.RowKit Go.Proofs.YtnhjbcjeeilicaaDoor Go.Proofs.YtnhjbcjeeilicaaDoor.Ht Go.Proofs.YtnhjbcjeeilicaaDoor.HtW Go.Proofs.YtnhjbcjeeilicaaDoor.HtC Go.Proofs.YtnhjbcjeeilicaaDoor.HtJ Go.Proofs.YtnhjbcjeeilicaaDoor.HtK Go.Proofs.YtnhjbcjeeilicaaDoor.HtL Go.Proofs.YtnhjbcjeeilicaaDoor.HtN Go.Proofs.YtnhjbcjeeilicaaDoor.HtO Go.Proofs.YtnhjbcjeeilicaaDoor.HtS

theorem ab_fs (w : World) : Fs (w.alloc (.cells #[.string ⟨#[97]⟩, .string ⟨#[98]⟩] 30)) (some ⟨w.heap.size, 0, none⟩) ab := by
  refine .inr ⟨w.heap.size, 0, rfl, by simp, fun j p hj => ?_⟩
  match j, hj with
  | 0, hj =>
    simp at hj
    subst hj
    have := Lib.cell_of_heap (heap_alloc_new w (.cells #[.string ⟨#[97]⟩, .string ⟨#[98]⟩] 30))
    exact ⟨(this 0).trans rfl, (this 1).trans rfl⟩
/-- a slice of bytes reads as the text l -/
abbrev Conv (W : World) (v : Value) (l : List UInt8) : Prop := (convert 23 9 v).run Tryd.prog W = .ok (.string ⟨l.toArray⟩) W
theorem heapBs {w w' : World} {a : Option Addr} {l : List UInt8} {c : Nat} (h : Bs w a l c) (e : w'.heap = w.heap) : Bs w' a l c := by
  refine ⟨h.1, h.2.1, h.2.2.imp id fun ⟨b, o, h1, h2, h3⟩ => ⟨b, o, h1, by rw [e]; exact h2, fun j x hj => ?_⟩⟩
  rw [← h3 j x hj]
  exact World.cell?_of_block (by rw [e])
theorem u8_13 (x : UInt8) (h : (x.toNat : Int) = 13) : x = 13 := UInt8.toNat_inj.1 (Int.ofNat.inj h)
theorem u8_10 (x : UInt8) (h : (x.toNat : Int) = 10) : x = 10 := UInt8.toNat_inj.1 (Int.ofNat.inj h)
set_option maxHeartbeats 4000000 in
set_option maxRecDepth 100000 in
theorem answers (st : Int) (bd : List UInt8) {aB : Option Addr} {cB : Nat} (w : World) {aR aL : Addr} (h0 : -9223372036854775808 ≤ st) (h1 : st ≤ 9223372036854775807) (hb : Bs w aB bd cB) (hl : bd.length ≤ 140737488351232) (hm : Mx w) (he : Errs w aR aL) (ht : Tab w) :
    Calls Tryd.prog 8 #[.int .i64 st, .slice aB bd.length cB] w fun e w' => e = .returned (.bool true) ∧ Below w.heap.size w w' := by
  obtain ⟨l38, l120⟩ := pre_len st bd.length h0 h1 (by omega)
  have hwl : (wr st ab bd).length = (pre st bd.length).length + bd.length := by rw [wr_pre, List.length_append]
  go_enter Tryd.func8, Tryd.ntmps8
  go_wp2_with (go_at_call 9; refine (alive w hm he ht).mono ?_; rintro e w1 ⟨rfl, hb1⟩)
  have hal := (Below.refl w1.heap.size w1).alloc (Nat.le_refl _) (.cells #[.string ⟨#[97]⟩, .string ⟨#[98]⟩] 30)
  have hB2 := hb1.trans (hal.mono hb1.size)
  go_wp2_with (go_at_call 15; refine (write (aF := some ⟨w1.heap.size, 0, none⟩) (cF := 1) st ab bd _ h0 h1 (ht.below hB2) (ab_fs w1) (fun h => by cases h) (Nat.le_refl _) (hb.below hB2) (by decide) hl (by omega)).mono ?_; rintro e w2 ⟨⟨ar, cr, rfl, hbs, -⟩, hb2⟩; rw [wr_pre] at hbs; rw [hwl]; obtain ⟨gg, og, rfl, hgl, hgc⟩ := hbs.2.2.resolve_left (fun e => by have h2 := congrArg List.length e; rw [List.length_append, List.length_nil] at h2; omega))
  have htop := pre_top st bd.length bd
  have hend := pre_end st bd.length bd
  have hcp := cp_pre st bd.length
  generalize hP : pre st bd.length = P at *
  clear hP
  have hcr : P.length + bd.length ≤ cr := by have := hbs.1; rwa [List.length_append] at this
  have hbd : Bs w2 aB bd cB := (hb.below hB2).below hb2
  have HS : ∀ W : World, W.heap = w2.heap → Conv W (.slice aB bd.length cB) bd ∧ Conv W (.slice (some ⟨gg, og + P.length, none⟩) bd.length (cr - P.length)) bd ∧ Conv W (.slice (some ⟨gg, og + (P.length - 4), none⟩) 4 (cr - (P.length - 4))) [13, 10, 13, 10] ∧ Conv W (.slice (some ⟨gg, og, none⟩) 9 cr) [72, 84, 84, 80, 47, 49, 46, 49, 32] := by
    intro W hW
    have b1 : Bs W (some ⟨gg, og, none⟩) (P ++ bd) cr := heapBs hbs hW
    have b2 := b1.part P.length bd.length (by rw [List.length_append]; omega) (cr - P.length) (by omega)
    have b3 := b1.part (P.length - 4) 4 (by rw [List.length_append]; omega) (cr - (P.length - 4)) (by omega)
    have b4 := b1.part 0 9 (by rw [List.length_append]; omega) cr (by omega)
    rw [List.drop_left, List.take_of_length_le (Nat.le_refl _)] at b2
    rw [hend] at b3
    rw [List.drop_zero, htop, Nat.add_zero] at b4
    exact ⟨to_string (heapBs hbd hW), to_string b2, to_string b3, to_string b4⟩
  have HS2 := Lib.hid HS; clear HS
  have HB := Lib.hid hbs; clear hbs
  have HG := Lib.hid hgc; clear hgc
  obtain ⟨k, hk⟩ : ∃ k, P.length = k + 4 := ⟨P.length - 4, by omega⟩
  rw [hk] at HS2 hcr l38 l120 hwl ⊢
  rw [show k + 4 - 4 = k by omega] at HS2
  have z0 : (0 : Int) ≤ k := by omega
  have z1 : ¬ ((k : Int) < 0) := by omega
  have z2 : ¬ ((k : Int) + 4 < 4) := by omega
  have z3 : (k : Int) + 4 ≤ (k : Int) + 4 + bd.length := by omega
  have z4 : (k : Int) + 4 + bd.length ≤ cr := by omega
  have z5 : (k : Int) ≤ (k : Int) + 4 := by omega
  have z6 : (9 : Int) ≤ (k : Int) + 4 + bd.length := by omega
  have z7 : (k : Int) + 4 ≤ cr := by omega
  have z8 : (9 : Int) ≤ cr := by omega
  have y3 : k + 4 ≤ k + 4 + bd.length := by omega
  have y7 : k + 4 ≤ cr := by omega
  have y8 : 9 ≤ cr := by omega
  have x1 : (k : Int) + 4 ≤ ((k + 4 + bd.length : Nat) : Int) := by omega
  have x2 : (9 : Int) ≤ ((k + 4 + bd.length : Nat) : Int) := by omega
  have x3 : ¬ cr = k := by omega
  have x4 : ¬ cr - k = 0 := by omega
  have x5 : ¬ cr ≤ k := by omega
  have u1 : (0 : Int) ≤ (k : Int) + 4 := by omega
  have u2 : (k : Int) + 4 ≤ (k : Int) + 4 + bd.length := by omega
  have u3 : ((k : Int) + 4).toNat = k + 4 := by omega
  have u4 : k + 4 + bd.length - (k + 4) = bd.length := by omega
  have u5 : (k : Int) + 4 - 4 = k := by omega
  have u6 : IntKind.i64.wrap (k : Int) = k := by rw [IntKind.wrap_i64]; omega
  have u7 : IntKind.i64.wrap ((k : Int) + 4 - 4) = k := by rw [IntKind.wrap_i64]; omega
  have HS3 : ∀ W : World, W.heap = w2.heap → Conv W (.slice aB bd.length cB) bd ∧ Conv W (.slice (if cr = k + 4 then some ⟨gg, og, none⟩ else some ⟨gg, og + (k + 4), none⟩) bd.length (cr - (k + 4))) bd ∧ Conv W (.slice (some ⟨gg, og + k, none⟩) 4 (cr - k)) [13, 10, 13, 10] ∧ Conv W (.slice (some ⟨gg, og, none⟩) 9 cr) [72, 84, 84, 80, 47, 49, 46, 49, 32] := by
    intro W hW
    obtain ⟨q1, q2, q3, q4⟩ := HS2.out W hW
    refine ⟨q1, ?_, q3, q4⟩
    by_cases hc : cr = k + 4
    · rw [if_pos hc]
      obtain rfl : bd = [] := List.eq_nil_of_length_eq_zero (by omega)
      exact to_string (a := some ⟨gg, og, none⟩) (l := []) ⟨Nat.zero_le _, (fun h => by cases h), .inl rfl⟩
    · rw [if_neg hc]; exact q2
  have HS4 := Lib.hid HS3; clear HS3
  go_region_held3 (fun W => Conv W (.slice aB bd.length cB) bd ∧ Conv W (.slice (if cr = k + 4 then some ⟨gg, og, none⟩ else some ⟨gg, og + (k + 4), none⟩) bd.length (cr - (k + 4))) bd ∧ Conv W (.slice (some ⟨gg, og + k, none⟩) 4 (cr - k)) [13, 10, 13, 10] ∧ Conv W (.slice (some ⟨gg, og, none⟩) 9 cr) [72, 84, 84, 80, 47, 49, 46, 49, 32])
      (first | exact HS4.out _ rfl | assumption)
      (fail)
  generalize (if cr = k + 4 then some (⟨gg, og, none⟩ : Addr) else some ⟨gg, og + (k + 4), none⟩) = q27
  clear z1 z2 z3 z4 z5 z6 z7 z8 y3 y7 y8 x1 x2 x3 x4 x5 u1 u2 u3 u4 u5 u6 u7 HS2 HS4 hb hm he ht hwl
  have hlP : P.length = k + 4 := hk
  have HBB := Lib.hid (hB2.trans ((hb2.mono hB2.size).drew))
  have hrp := rsn_pos st
  have hrl := rsn_len st
  clear hB2 hb2 hal hb1
  have HGd := Lib.hid (show ∀ (j : Nat) (x : UInt8), (P ++ bd)[j]? = some x → w2.drew.cell? ⟨gg, og + j, none⟩ = some (.int .u8 (x.toNat : Int)) from HG.out)
  clear HG
  generalize w2.drew = W2 at *
  go_wp2_with fail
  go_loopg [7, 8] (k + 4) (fun g v7 v8 wr => ∃ i c : Nat, i + g = k + 4 ∧ v8 = .int .i64 i ∧ v7 = .int .i64 c ∧ Hid (c + cp (P.drop i) = 4) ∧ wr = W2)
  case atStart => exact ⟨0, 0, by simp, rfl, rfl, by unfold Hid; rw [List.drop_zero, hcp], rfl⟩
  case round =>
    obtain ⟨i, c, hig, rfl, rfl, HC, rfl⟩ := hrel
    have HI := Lib.hid hig; clear hig
    have hc4 : c ≤ 4 := by have := HC.out; omega
    have hib : i ≤ 120 := by have := HI.out; omega
    by_cases hlt : i + 1 < k + 4
    · have hi1 : i + 1 < P.length := by omega
      have c0 := HGd.out i (P[i]'(by omega)) (by rw [List.getElem?_append_left (by omega), List.getElem?_eq_getElem])
      have c1 := HGd.out (i + 1) (P[i + 1]'hi1) (by rw [List.getElem?_append_left hi1, List.getElem?_eq_getElem])
      have HD := Lib.hid (cp_drop hi1)
      have HC2 := Lib.hid (show c + (if P[i] = 13 ∧ P[i + 1] = 10 then 1 else 0) + cp (P.drop (i + 1)) = 4 by have h1 := HC.out; have h2 := HD.out; omega)
      generalize P[i] = x at *
      generalize P[i + 1] = y at *
      clear HC HD hi1
      have ex := u8_13 x
      have ey := u8_10 y
      by_cases e1 : x = 13
      · have t1 : (x.toNat : Int) = 13 := by rw [e1]; rfl
        by_cases e2 : y = 10
        · have t2 : (y.toNat : Int) = 10 := by rw [e2]; rfl
          have HC3 := Lib.hid (show c + 1 + cp (P.drop (i + 1)) = 4 by have := HC2.out; rwa [if_pos ⟨e1, e2⟩] at this)
          clear e1 e2 ex ey HC2
          rw [t1] at c0
          rw [t2] at c1
          go_wp2_with fail
          go_roundg (k + 4 - (i + 1))
          case rel => exact ⟨i + 1, c + 1, by omega, by go_num, by go_num, HC3, rfl⟩
          case measure => have := HI.out; omega
        · have t2 : ¬ (y.toNat : Int) = 10 := fun h => e2 (ey h)
          have HC3 := Lib.hid (show c + cp (P.drop (i + 1)) = 4 by have := HC2.out; rwa [if_neg (fun h => e2 h.2)] at this)
          clear e1 e2 ex ey HC2
          rw [t1] at c0
          go_wp2_with fail
          go_roundg (k + 4 - (i + 1))
          case rel => exact ⟨i + 1, c, by omega, by go_num, rfl, HC3, rfl⟩
          case measure => have := HI.out; omega
      · have t1 : ¬ (x.toNat : Int) = 13 := fun h => e1 (ex h)
        have HC3 := Lib.hid (show c + cp (P.drop (i + 1)) = 4 by have := HC2.out; rwa [if_neg (fun h => e1 h.1)] at this)
        clear e1 ex ey HC2
        go_wp2_with fail
        go_roundg (k + 4 - (i + 1))
        case rel => exact ⟨i + 1, c, by omega, by go_num, rfl, HC3, rfl⟩
        case measure => have := HI.out; omega
    · have HE := Lib.hid (cp_end (l := P) (i := i) (by omega))
      have e4 : c = 4 := by have := HE.out; have := HC.out; omega
      subst e4
      go_wp2_with (go_at_call 12; refine (reason st _).mono ?_; rintro e w4 ⟨rfl, rfl⟩)
      go_ret
      exact ⟨rfl, HBB.out⟩
end Go.Proofs.YtnhjbcjeeilicaaDoor.HtT
