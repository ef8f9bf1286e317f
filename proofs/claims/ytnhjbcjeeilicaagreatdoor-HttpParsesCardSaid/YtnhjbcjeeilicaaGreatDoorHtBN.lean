/-
  The walk of the law HttpParses.
-/
import Derived.Test.YtnhjbcjeeilicaaGreatDoorHtBG
import Derived.Test.YtnhjbcjeeilicaaGreatDoorNumK
import Derived.Test.YtnhjbcjeeilicaaGreatDoorErr
import Derived.Test.YtnhjbcjeeilicaaGreatDoorHtAA
import Derived.Test.YtnhjbcjeeilicaaGreatDoorHtN
namespace Go.Proofs.YtnhjbcjeeilicaaGreatDoor.HtBN
open Go.RowKit Go.Proofs.YtnhjbcjeeilicaaGreatDoor Go.Proofs.YtnhjbcjeeilicaaGreatDoor.Ht Go.Proofs.YtnhjbcjeeilicaaGreatDoor.HtW Go.Proofs.YtnhjbcjeeilicaaGreatDoor.HtC Go.Proofs.YtnhjbcjeeilicaaGreatDoor.HtG Go.Proofs.YtnhjbcjeeilicaaGreatDoor.HtI Go.Proofs.YtnhjbcjeeilicaaGreatDoor.HtK Go.Proofs.YtnhjbcjeeilicaaGreatDoor.HtN Go.Proofs.YtnhjbcjeeilicaaGreatDoor.HtU Go.Proofs.YtnhjbcjeeilicaaGreatDoor.HtX Go.Proofs.YtnhjbcjeeilicaaGreatDoor.HtAA Go.Proofs.YtnhjbcjeeilicaaGreatDoor.HtBG Go.Proofs.YtnhjbcjeeilicaaGreatDoor.Num Go.Proofs.YtnhjbcjeeilicaaGreatDoor.NumK

theorem errs_of {w : World} {es : List Addr} (h : Err.All w es) : ∃ aR aL, es[12]? = some aR ∧ es[10]? = some aL ∧ Errs w aR aL := by
  obtain ⟨t, g, aR, h1, h2, h3, h4⟩ := h.at (i := 12) (by decide)
  obtain ⟨t', g', aL, h1', h2', h3', h4'⟩ := h.at (i := 10) (by decide)
  cases h2
  cases h2'
  exact ⟨aR, aL, h3, h3', ⟨h4.cell, h4'.cell⟩⟩
/-- the marked copy and the law's own bytes, while others are made -/
structure Kp (w0 w : World) (a : Option Addr) (b : List UInt8) (c g cg : Nat) : Prop where
  below : Below w0.heap.size w0 w
  bs : Bs w (some ⟨g, 0, none⟩) (b ++ marks) cg
  arg : Bs w a b c
theorem Kp.more {w0 w w' : World} {a : Option Addr} {b : List UInt8} {c g cg : Nat} (h : Kp w0 w a b c g cg) (hb : Below w.heap.size w w') : Kp w0 w' a b c g cg :=
  ⟨h.below.trans (hb.mono h.below.size), h.bs.below hb, h.arg.below hb⟩

set_option maxHeartbeats 4000000 in
set_option maxRecDepth 100000 in
theorem parses (b : List UInt8) {a : Option Addr} {c : Nat} (w : World) {es : List Addr} (hb : Bs w a b c) (hl : b.length ≤ 140737488351232) (hm : Mx w) (he : Err.All w es) (ht : Tab w) :
    Calls Tryz.prog 3 #[.slice a b.length c] w fun e w' => e = .returned (.bool true) ∧ Below w.heap.size w w' := by
  obtain ⟨aR, aL, hR, hL, heR⟩ := errs_of he
  have HM := Lib.hid hm; clear hm
  have HE := Lib.hid heR; clear heR
  have HA := Lib.hid he; clear he
  have HT := Lib.hid ht; clear ht
  have HB := Lib.hid hb; clear hb
  have ER := Lib.hid hR; clear hR
  have EL := Lib.hid hL; clear hL
  obtain ⟨r, hP⟩ : ∃ r, Ht.parse b = r := ⟨_, rfl⟩
  have HP := Lib.hid hP; clear hP
  go_enter Tryz.func3, Tryz.ntmps3
  go_wp2_with fail
  refine (alive w HM.out HE.out HT.out).mono ?_
  rintro e w1 ⟨rfl, hb1⟩
  have HB1 := Lib.hid hb1; clear hb1
  go_wp2_with fail
  refine (Num.bytes b _ (HB.out.below HB1.out) hl).mono ?_
  rintro e w2 ⟨⟨g, cg, rfl, ho2⟩, hb2⟩
  have hglt := (ho2.lt g rfl)
  have hgw : w.heap.size ≤ g := Nat.le_trans HB1.out.size hglt.1
  have HK2 := Lib.hid (show Kp w w2 a b c g cg from ⟨HB1.out.trans (hb2.mono HB1.out.size), (bs_own ho2).1, (HB.out.below HB1.out).below hb2⟩)
  have hg2 := hglt.2
  clear ho2 hb2 hglt HB1
  go_wp2_with fail
  refine (parse (some ⟨g, 0, none⟩) b cg _ (bs_left HK2.out.bs) (by omega) (HM.out.below HK2.out.below) (HE.out.below HK2.out.below)).mono ?_
  rintro e w3 ⟨hp, hb3⟩
  unfold ParsePost at hp
  rw [HP.out] at hp
  have HK3 := Lib.hid (HK2.out.more hb3)
  have HB3 := Lib.hid hb3
  clear hb3
  cases r with
  | none =>
    simp only at hp
    subst hp
    have hal := (Below.refl w3.heap.size w3).alloc (Nat.le_refl _) (.cells #[.string ⟨#[]⟩, .string ⟨#[]⟩, .slice none 0 0, .slice none 0 0] 27)
    have HK4 := Lib.hid (HK3.out.more hal)
    have HR4 := Lib.hid (box_no w3)
    clear hal
    go_wp2_with fail
    refine (rparse b _ HK4.out.arg (by omega)).mono ?_
    rintro e w5 ⟨hp, hb5⟩
    unfold RPost at hp
    rw [HP.out] at hp
    simp only at hp
    subst hp
    have HR5 := Lib.hid (HR4.out.below hb5)
    have hal := (Below.refl w5.heap.size w5).alloc (Nat.le_refl _) (.cells #[.string ⟨#[]⟩, .string ⟨#[]⟩, .slice none 0 0, .slice none 0 0] 27)
    have HR6 := Lib.hid (HR5.out.below hal)
    have HK6 := Lib.hid ((HK4.out.more hb5).more hal)
    clear hal hb5 HK2 HK3 HK4 HR4 HR5
    obtain ⟨x0, x1, x2, x3, -, -, -, -⟩ := HR6.out.cells
    go_wp2_with fail
    refine (no_same _).mono ?_
    rintro e w7 ⟨rfl, hb7⟩
    have HK7 := Lib.hid (HK6.out.more hb7)
    have HR7 := Lib.hid (HR6.out.below hb7)
    clear hb7 HK6 HR6 x0 x1 x2 x3
    go_wp2_with fail
    refine (Err.num_nil _).mono ?_
    rintro e w8 ⟨rfl, rfl⟩
    go_wp2_with fail
    refine (kept b g cg _ HK7.out.bs HK7.out.arg hl).mono ?_
    rintro e w8 ⟨rfl, hb8⟩
    have HK8 := Lib.hid (HK7.out.more hb8)
    have HR8 := Lib.hid (HR7.out.below hb8)
    clear hb8 HK7 HR7
    obtain ⟨x0, x1, x2, x3, -, -, -, -⟩ := HR8.out.cells
    go_wp2_with fail
    refine (apart b [] w8.heap.size _ (bs_left HK8.out.bs) (World.ownsRow_nil _ _ _ _) (fun p q _ h => by cases h) (by decide) (Nat.le_refl _)).mono ?_
    rintro e w9 ⟨rfl, hb9, -, -⟩
    have HK9 := Lib.hid (HK8.out.more hb9)
    clear hb9
    go_wp2_with fail
    refine (kept b g cg _ HK9.out.bs HK9.out.arg hl).mono ?_
    rintro e w10 ⟨rfl, hb10⟩
    go_wp2_with fail
    go_ret
    exact ⟨rfl, (HK9.out.more hb10).below⟩
  | no er =>
    cases er with
    | bad =>
      simp only [erv] at hp
      subst hp
      have hal := (Below.refl w3.heap.size w3).alloc (Nat.le_refl _) (.cells #[.string ⟨#[]⟩, .string ⟨#[]⟩, .slice none 0 0, .slice none 0 0] 27)
      have HK4 := Lib.hid (HK3.out.more hal)
      have HR4 := Lib.hid (box_no w3)
      clear hal
      go_wp2_with fail
      refine (rparse b _ HK4.out.arg (by omega)).mono ?_
      rintro e w5 ⟨hp, hb5⟩
      unfold RPost at hp
      rw [HP.out] at hp
      simp only [ern] at hp
      subst hp
      have HR5 := Lib.hid (HR4.out.below hb5)
      have hal := (Below.refl w5.heap.size w5).alloc (Nat.le_refl _) (.cells #[.string ⟨#[]⟩, .string ⟨#[]⟩, .slice none 0 0, .slice none 0 0] 27)
      have HR6 := Lib.hid (HR5.out.below hal)
      have HK6 := Lib.hid ((HK4.out.more hb5).more hal)
      clear hal hb5 HK2 HK3 HK4 HR4 HR5
      obtain ⟨x0, x1, x2, x3, -, -, -, -⟩ := HR6.out.cells
      go_wp2_with fail
      refine (no_same _).mono ?_
      rintro e w7 ⟨rfl, hb7⟩
      have HK7 := Lib.hid (HK6.out.more hb7)
      have HR7 := Lib.hid (HR6.out.below hb7)
      clear hb7 HK6 HR6 x0 x1 x2 x3
      go_wp2_with fail
      refine (Err.num _ (HA.out.below HK7.out.below) 12 (by decide) ER.out).mono ?_
      rintro e w75 ⟨rfl, hb75⟩
      rw [show ((12 + 1 : Nat) : Int) = 13 from rfl]
      have HK75 := Lib.hid (HK7.out.more hb75)
      have HR75 := Lib.hid (HR7.out.below hb75)
      clear hb75
      go_wp2_with fail
      refine (kept b g cg _ HK75.out.bs HK75.out.arg hl).mono ?_
      rintro e w8 ⟨rfl, hb8⟩
      have HK8 := Lib.hid (HK75.out.more hb8)
      have HR8 := Lib.hid (HR75.out.below hb8)
      clear hb8 HK7 HR7
      obtain ⟨x0, x1, x2, x3, -, -, -, -⟩ := HR8.out.cells
      go_wp2_with fail
      refine (apart b [] w8.heap.size _ (bs_left HK8.out.bs) (World.ownsRow_nil _ _ _ _) (fun p q _ h => by cases h) (by decide) (Nat.le_refl _)).mono ?_
      rintro e w9 ⟨rfl, hb9, -, -⟩
      have HK9 := Lib.hid (HK8.out.more hb9)
      clear hb9
      go_wp2_with fail
      refine (kept b g cg _ HK9.out.bs HK9.out.arg hl).mono ?_
      rintro e w10 ⟨rfl, hb10⟩
      go_wp2_with fail
      go_ret
      exact ⟨rfl, (HK9.out.more hb10).below⟩

    | large =>
      simp only [erv] at hp
      subst hp
      have hal := (Below.refl w3.heap.size w3).alloc (Nat.le_refl _) (.cells #[.string ⟨#[]⟩, .string ⟨#[]⟩, .slice none 0 0, .slice none 0 0] 27)
      have HK4 := Lib.hid (HK3.out.more hal)
      have HR4 := Lib.hid (box_no w3)
      clear hal
      go_wp2_with fail
      refine (rparse b _ HK4.out.arg (by omega)).mono ?_
      rintro e w5 ⟨hp, hb5⟩
      unfold RPost at hp
      rw [HP.out] at hp
      simp only [ern] at hp
      subst hp
      have HR5 := Lib.hid (HR4.out.below hb5)
      have hal := (Below.refl w5.heap.size w5).alloc (Nat.le_refl _) (.cells #[.string ⟨#[]⟩, .string ⟨#[]⟩, .slice none 0 0, .slice none 0 0] 27)
      have HR6 := Lib.hid (HR5.out.below hal)
      have HK6 := Lib.hid ((HK4.out.more hb5).more hal)
      clear hal hb5 HK2 HK3 HK4 HR4 HR5
      obtain ⟨x0, x1, x2, x3, -, -, -, -⟩ := HR6.out.cells
      go_wp2_with fail
      refine (no_same _).mono ?_
      rintro e w7 ⟨rfl, hb7⟩
      have HK7 := Lib.hid (HK6.out.more hb7)
      have HR7 := Lib.hid (HR6.out.below hb7)
      clear hb7 HK6 HR6 x0 x1 x2 x3
      go_wp2_with fail
      refine (Err.num _ (HA.out.below HK7.out.below) 10 (by decide) EL.out).mono ?_
      rintro e w75 ⟨rfl, hb75⟩
      rw [show ((10 + 1 : Nat) : Int) = 11 from rfl]
      have HK75 := Lib.hid (HK7.out.more hb75)
      have HR75 := Lib.hid (HR7.out.below hb75)
      clear hb75
      go_wp2_with fail
      refine (kept b g cg _ HK75.out.bs HK75.out.arg hl).mono ?_
      rintro e w8 ⟨rfl, hb8⟩
      have HK8 := Lib.hid (HK75.out.more hb8)
      have HR8 := Lib.hid (HR75.out.below hb8)
      clear hb8 HK7 HR7
      obtain ⟨x0, x1, x2, x3, -, -, -, -⟩ := HR8.out.cells
      go_wp2_with fail
      refine (apart b [] w8.heap.size _ (bs_left HK8.out.bs) (World.ownsRow_nil _ _ _ _) (fun p q _ h => by cases h) (by decide) (Nat.le_refl _)).mono ?_
      rintro e w9 ⟨rfl, hb9, -, -⟩
      have HK9 := Lib.hid (HK8.out.more hb9)
      clear hb9
      go_wp2_with fail
      refine (kept b g cg _ HK9.out.bs HK9.out.arg hl).mono ?_
      rintro e w10 ⟨rfl, hb10⟩
      go_wp2_with fail
      go_ret
      exact ⟨rfl, (HK9.out.more hb10).below⟩
  | ok m t fs bd n =>
    obtain ⟨af, cf, ab, cb, rfl, hfs, hown, hf32, -⟩ := hp
    have hbl := (HtV.parse_ok HP.out)
    have HO3 := Lib.hid hown
    have HF3 := Lib.hid hfs
    have hz3 := HB3.out.size
    clear hown hfs
    have hal := (Below.refl w3.heap.size w3).alloc (Nat.le_refl _) (.cells #[.string ⟨m.toArray⟩, .string ⟨t.toArray⟩, .slice af fs.length cf, .slice ab bd.length cb] 27)
    have HK4 := Lib.hid (HK3.out.more hal)
    have HR4 := Lib.hid (show Rq w3.heap.size (w3.alloc (.cells #[.string ⟨m.toArray⟩, .string ⟨t.toArray⟩, .slice af fs.length cf, .slice ab bd.length cb] 27)) (.string ⟨m.toArray⟩) (.string ⟨t.toArray⟩) (.slice af fs.length cf) (.slice ab bd.length cb) from heap_alloc_new _ _)
    have HO4 := Lib.hid (Com.own_below HO3.out hal)
    have HF4 := Lib.hid (HF3.out.below hal)
    clear hal
    go_wp2_with fail
    refine (rparse b _ HK4.out.arg (by omega)).mono ?_
    rintro e w5 ⟨hp, hb5⟩
    unfold RPost at hp
    rw [HP.out] at hp
    obtain ⟨ag, cg', ac, cc, rfl, hfs, hbs, -⟩ := hp
    have HR5 := Lib.hid (HR4.out.below hb5)
    have hal := (Below.refl w5.heap.size w5).alloc (Nat.le_refl _) (.cells #[.string ⟨m.toArray⟩, .string ⟨t.toArray⟩, .slice ag fs.length cg', .slice ac bd.length cc] 27)
    have HQ6 := Lib.hid (show Rq w5.heap.size (w5.alloc (.cells #[.string ⟨m.toArray⟩, .string ⟨t.toArray⟩, .slice ag fs.length cg', .slice ac bd.length cc] 27)) (.string ⟨m.toArray⟩) (.string ⟨t.toArray⟩) (.slice ag fs.length cg') (.slice ac bd.length cc) from heap_alloc_new _ _)
    have HR6 := Lib.hid (HR5.out.below hal)
    have HK6 := Lib.hid ((HK4.out.more hb5).more hal)
    have HO6 := Lib.hid (Com.own_below (Com.own_below HO4.out hb5) hal)
    have HF6 := Lib.hid ((HF4.out.below hb5).below hal)
    have HG6 := Lib.hid (hfs.below hal)
    have HD6 := Lib.hid (hbs.below hal)
    clear hal hb5 HK2 HK3 HK4 HR4 HR5 HO3 HF3 HO4 HF4 hfs hbs
    obtain ⟨x0, x1, x2, x3, -, -, -, -⟩ := HR6.out.cells
    obtain ⟨y0, y1, y2, y3, -, -, -, -⟩ := HQ6.out.cells
    go_wp2_with fail
    refine (same m t m t bd bd fs fs cf cg' cb cc _ HF6.out HG6.out (bs_own HO6.out).1 HD6.out (by omega)).mono ?_
    rintro e w7 ⟨rfl, hb7⟩
    rw [eqR_yes]
    have HK7 := Lib.hid (HK6.out.more hb7)
    have HR7 := Lib.hid (HR6.out.below hb7)
    have HO7 := Lib.hid (Com.own_below HO6.out hb7)
    clear hb7 HK6 HR6 HO6 HF6 HG6 HD6 HQ6 x0 x1 x2 x3 y0 y1 y2 y3
    go_wp2_with fail
    refine (Err.num_nil _).mono ?_
    rintro e w8 ⟨rfl, rfl⟩
    go_wp2_with fail
    refine (kept b g cg _ HK7.out.bs HK7.out.arg hl).mono ?_
    rintro e w8 ⟨rfl, hb8⟩
    have HK8 := Lib.hid (HK7.out.more hb8)
    have HR8 := Lib.hid (HR7.out.below hb8)
    have HO8 := Lib.hid (Com.own_below HO7.out hb8)
    clear hb8 HK7 HR7 HO7
    obtain ⟨x0, x1, x2, x3, -, -, -, -⟩ := HR8.out.cells
    have hbd : bd.length ≤ 140737488351232 := by
      obtain ⟨i, k, _, _, _, _, h5, _⟩ := hbl
      rw [h5, List.length_take, List.length_drop]
      omega
    have hsz : w2.heap.size ≤ w8.heap.size := by
      have := HR8.out.lt
      omega
    have hw2 : w.heap.size ≤ w2.heap.size := by omega
    have hob : ∀ q, ab = some q → w2.heap.size ≤ q.block := fun q hq => (HO8.out.lt q.block (by rw [hq]; rfl)).1
    obtain ⟨n4, nb⟩ := HtV.parse_len HP.out
    have hal : ∀ p, a = some p → p.block < w.heap.size := fun p hp => by
      rcases HB.out.2.2 with h | ⟨b', o', h1, h2, _⟩
      · rw [h, List.length_nil] at nb; omega
      · rw [hp] at h1; cases h1; exact h2
    have HOB := Lib.hid hob
    have HAL := Lib.hid hal
    clear hob hal hbl
    go_wp2_with fail
    refine (apart b bd w2.heap.size _ (bs_left HK8.out.bs) HO8.out (fun p q hp hq => by cases hp; have := HOB.out q hq; show g ≠ q.block; omega) hbd hsz).mono ?_
    rintro e w9 ⟨rfl, hb9, hg9, -⟩
    have hrow : ∀ x, x < w2.heap.size → some x ≠ (Value.slice ab bd.length cb).ownBlock := by
      intro x hx e
      cases ab with
      | none => simp [Value.ownBlock] at e
      | some q =>
        have := HOB.out q rfl
        simp only [Value.ownBlock, Option.some.injEq] at e
        omega
    have HK9 := Lib.hid (show Kp w w9 a b c g cg from ⟨HK8.out.below.trans (hb9.mono hw2), bs_grown HK8.out.bs hg9 (fun p hp => by cases hp; exact hrow g hg2), bs_grown HK8.out.arg hg9 (fun p hp => hrow _ (Nat.lt_of_lt_of_le (HAL.out p hp) hw2))⟩)
    clear hb9 hg9 hrow
    go_wp2_with fail
    refine (kept b g cg _ HK9.out.bs HK9.out.arg hl).mono ?_
    rintro e w10 ⟨rfl, hb10⟩
    go_wp2_with fail
    go_ret
    exact ⟨rfl, (HK9.out.more hb10).below⟩
end Go.Proofs.YtnhjbcjeeilicaaGreatDoor.HtBN
