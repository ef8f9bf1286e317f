/-
  The walk of the document's firstLine.
-/
import Derived.Test.YtnhjbcjeeilicaaGreatDoorHtBD
namespace Go.Proofs.YtnhjbcjeeilicaaGreatDoor.HtBE
open Go.RowKit Go.Proofs.YtnhjbcjeeilicaaGreatDoor Go.Proofs.YtnhjbcjeeilicaaGreatDoor.Ht Go.Proofs.YtnhjbcjeeilicaaGreatDoor.HtW Go.Proofs.YtnhjbcjeeilicaaGreatDoor.HtC Go.Proofs.YtnhjbcjeeilicaaGreatDoor.HtV Go.Proofs.YtnhjbcjeeilicaaGreatDoor.HtBA Go.Proofs.YtnhjbcjeeilicaaGreatDoor.HtBD

/-- a first line's parts, empty where it is none -/
def gm (s : List UInt8) : Fld := (Ht.first s).getD ([], [])
def isf (s : List UInt8) : Bool := (Ht.first s).isSome
abbrev fv (s : List UInt8) : Value := .tuple #[.string ⟨(gm s).1.toArray⟩, .string ⟨(gm s).2.toArray⟩, .bool (isf s)]
theorem fv_no {s : List UInt8} (h : Ht.first s = none) : fv s = .tuple #[.string ⟨#[]⟩, .string ⟨#[]⟩, .bool false] := by
  unfold fv gm isf
  rw [h]
  rfl
theorem fv_yes {s m t : List UInt8} (h : Ht.first s = some (m, t)) : fv s = .tuple #[.string ⟨m.toArray⟩, .string ⟨t.toArray⟩, .bool true] := by
  unfold fv gm isf
  rw [h]
  rfl
theorem run_start (p : UInt8 → Bool) (s : List UInt8) (o : Nat) : ∀ (j : Nat) (c : UInt8), o ≤ j → j < o → s[j]? = some c → p c = true := fun j _ h1 h2 => absurd h1 (by omega)
theorem run_step {p : UInt8 → Bool} {s : List UInt8} {o k : Nat} (h : ∀ (j : Nat) (c : UInt8), o ≤ j → j < k → s[j]? = some c → p c = true) {x : UInt8} (hx : s[k]? = some x) (hp : p x = true) : ∀ (j : Nat) (c : UInt8), o ≤ j → j < k + 1 → s[j]? = some c → p c = true := fun j c h1 h2 h3 => by
  rcases Nat.lt_or_ge j k with h4 | h4
  · exact h j c h1 h4 h3
  · obtain rfl : j = k := by omega
    rw [hx] at h3
    cases h3
    exact hp
theorem no_run {s : List UInt8} {a : Nat} (ha : Run upc s 0 a) (h : a < 1 ∨ 16 < a ∨ s[a]? ≠ some 32) : Ht.first s = none := by
  cases e : Ht.first s with
  | none => rfl
  | some mt =>
    obtain ⟨_, h1, h2, h3, _⟩ := first_run (m := mt.1) (t := mt.2) e ha
    rcases h with h | h | h
    · omega
    · omega
    · exact absurd h3 h
theorem no_run2 {s : List UInt8} {a z : Nat} (ha : Run upc s 0 a) (hz : a + 1 ≤ z) (hr : Run (rng 33 126) s (a + 1) z) (h : z = a + 1 ∨ s[a + 1]? ≠ some 47 ∨ s.drop z ≠ 32 :: http) : Ht.first s = none := by
  cases e : Ht.first s with
  | none => rfl
  | some mt =>
    obtain ⟨_, _, _, _, h4⟩ := first_run (m := mt.1) (t := mt.2) e ha
    obtain ⟨h5, h6, h7, h8⟩ := h4 z hz hr
    rcases h with h | h | h
    · omega
    · exact absurd h7 h
    · exact absurd h8 h
theorem rng_of {lo hi : Int} {x : UInt8} (h1 : lo ≤ (x.toNat : Int)) (h2 : (x.toNat : Int) ≤ hi) : rng lo hi x = true := by simp [rng, h1, h2]
theorem rng_lo {lo hi : Int} {x : UInt8} (h1 : (x.toNat : Int) < lo) : rng lo hi x = false := by simp [rng]; omega
theorem rng_hi {lo hi : Int} {x : UInt8} (h1 : hi < (x.toNat : Int)) : rng lo hi x = false := by simp [rng]; omega
theorem end_none {s : ByteArray} {k : Nat} (h : s.size ≤ k) : ∀ c, s.data.toList[k]? = some c → ∀ p : UInt8 → Bool, p c = false := fun c e => by
  have := (List.getElem?_eq_some_iff.1 e).1
  rw [Com.toList_length] at this
  omega

set_option maxHeartbeats 4000000 in
set_option maxRecDepth 100000 in
theorem firstLine (s : ByteArray) (w : World) (hs : s.size ≤ 4294967296) :
    Calls Tryz.prog 19 #[.string s] w fun e w' => e = .returned (fv s.data.toList) ∧ Below w.heap.size w w' := by
  go_enter Tryz.func19, Tryz.ntmps19
  go_wp2
  go_loopg [5] s.size (fun g v wr => ∃ k : Nat, k + g = s.size ∧ v = .int .i64 k ∧ Hid (∀ (j : Nat) (c : UInt8), 0 ≤ j → j < k → s.data.toList[j]? = some c → upc c = true) ∧ wr = w)
  case atStart => exact ⟨0, by omega, rfl, run_start _ _ 0, rfl⟩
  case round =>
    obtain ⟨k, hg, rfl, HA, rfl⟩ := hrel
    have hks : k ≤ s.size := by omega
    have HG := Lib.hid hg; clear hg
    have z0 : (0 : Int) ≤ k := by omega
    by_cases hlt : k < s.size
    · have q1 : (k : Int) < s.size := by omega
      have g0 := get_data hlt
      by_cases a1 : (s[k].toNat : Int) < 65
      · have a1' : ¬ (65 : Int) ≤ s[k].toNat := by omega
        have HR := Lib.hid (Run.mk (p := upc) (by rw [Com.toList_length]; exact hks) HA (fun c hc => by rw [g0] at hc; cases hc; exact rng_lo a1))
        by_cases b1 : k < 1
        · have HF := Lib.hid (fv_no (no_run HR.out (.inl b1)))
          have b1' : (k : Int) < 1 := by omega
          go_wp2
          go_ret3
          exact ⟨by rw [HF.out]; rfl, Below.refl _ _⟩
        · have b1' : ¬ (k : Int) < 1 := by omega
          by_cases b2 : 16 < k
          · have HF := Lib.hid (fv_no (no_run HR.out (.inr (.inl b2))))
            have b2' : (16 : Int) < k := by omega
            go_wp2
            go_ret3
            exact ⟨by rw [HF.out]; rfl, Below.refl _ _⟩
          · have b2' : ¬ (16 : Int) < k := by omega
            have b3' : ¬ (s.size : Int) ≤ k := by omega
            by_cases b4 : s[k] = 32
            · have t4 : ((s[k].toNat : Int) != 32) = false := by rw [b4]; rfl
              have g32 := Lib.hid (show s.data.toList[k]? = some 32 by rw [g0, b4])
              clear g0 b4 a1
              go_wp2
              go_loopg [6] (s.size - (k + 1)) (fun g v wr' => ∃ z : Nat, z + g = s.size ∧ k + 1 ≤ z ∧ v = .int .i64 z ∧ Hid (∀ (j : Nat) (c : UInt8), k + 1 ≤ j → j < z → s.data.toList[j]? = some c → rng 33 126 c = true) ∧ wr' = wr)
              case atStart => exact ⟨k + 1, by omega, Nat.le_refl _, by go_num, run_start _ _ _, rfl⟩
              case round =>
                obtain ⟨z, hg2, hkz, rfl, HZ, rfl⟩ := hrel
                have hzs : z ≤ s.size := by omega
                have HG2 := Lib.hid hg2; clear hg2
                have y0 : (0 : Int) ≤ z := by omega
                by_cases hr : ∃ h : z < s.size, (33 : Int) ≤ s[z].toNat ∧ (s[z].toNat : Int) ≤ 126
                · obtain ⟨hlz, c1, c2⟩ := hr
                  have p1 : (z : Int) < s.size := by omega
                  have HN := Lib.hid (run_step (p := rng 33 126) HZ (get_data hlz) (rng_of c1 c2))
                  go_wp2
                  go_roundg (s.size - (z + 1))
                  case rel => exact ⟨z + 1, by omega, by omega, by go_num, HN, rfl⟩
                  case measure => have := HG2.out; omega
                · have HRZ := Lib.hid (Run.mk (p := rng 33 126) (s := s.data.toList) (o := k + 1) (a := z) (by rw [Com.toList_length]; exact hzs) HZ (fun c hc => by
                    rcases Nat.lt_or_ge z s.size with hlz | hlz
                    · rw [get_data hlz] at hc
                      cases hc
                      by_cases c1 : (33 : Int) ≤ s[z].toNat
                      · exact rng_hi (by have : ¬ (s[z].toNat : Int) ≤ 126 := fun c2 => hr ⟨hlz, c1, c2⟩
                                         omega)
                      · exact rng_lo (by omega)
                    · exact end_none hlz c hc _))
                  have hcase : (∃ h : z < s.size, ¬ (33 : Int) ≤ s[z].toNat) ∨ (∃ h : z < s.size, (33 : Int) ≤ s[z].toNat ∧ ¬ (s[z].toNat : Int) ≤ 126) ∨ ¬ (z : Int) < s.size := by
                    rcases Nat.lt_or_ge z s.size with hlz | hlz
                    · by_cases c1 : (33 : Int) ≤ s[z].toNat
                      · exact .inr (.inl ⟨hlz, c1, fun c2 => hr ⟨hlz, c1, c2⟩⟩)
                      · exact .inl ⟨hlz, c1⟩
                    · exact .inr (.inr (by omega))
                  clear hr
                  rcases hcase with ⟨hlz, c1⟩ | ⟨hlz, c1, c2⟩ | p1
                  all_goals try have p1 : (z : Int) < s.size := by omega
                  all_goals
                    by_cases d1 : z = k + 1
                    · have HF := Lib.hid (fv_no (no_run2 HR.out hkz HRZ.out (.inl d1)))
                      subst d1
                      go_wp2
                      go_ret3
                      exact ⟨by rw [HF.out]; rfl, Below.refl _ _⟩
                    · have t5 : ((z : Int) == (k : Int) + 1) = false := by simp; omega
                      have hk1 : k + 1 < s.size := by omega
                      have g2 := get_data hk1
                      have y1 : (z : Int) ≤ s.size := by omega
                      have y2 : (k : Int) + 1 ≤ z := by omega
                      have y3 : (k : Int) ≤ s.size := by omega
                      by_cases d2 : s[k + 1] = 47
                      · have t6 : ((s[k + 1].toNat : Int) != 47) = false := by rw [d2]; rfl
                        have hx := Com.extract_data s z s.size
                        rw [List.take_of_length_le (by rw [Com.toList_length]; exact Nat.le_refl _)] at hx
                        obtain ⟨X, hX⟩ : ∃ X, s.extract z s.size = ⟨X.toArray⟩ ∧ s.data.toList.drop z = X := ⟨_, by rw [← hx, Com.mk_data], rfl⟩
                        obtain ⟨hX1, hX2⟩ := hX
                        by_cases d3 : X = 32 :: http
                        · have HF := Lib.hid (fv_yes (first_made HR.out (by omega) (by omega) g32.out hkz HRZ.out (by rw [g2, d2]) d1 (by rw [hX2, d3])))
                          have E1 := Lib.hid (show s.extract 0 k = ⟨(s.data.toList.take k).toArray⟩ by rw [← Com.mk_data (s.extract 0 k), Com.extract_data, List.drop_zero])
                          have E2 := Lib.hid (show s.extract (k + 1) z = ⟨((s.data.toList.drop (k + 1)).take (z - (k + 1))).toArray⟩ by rw [← Com.mk_data (s.extract (k + 1) z), Com.extract_data, List.drop_take])
                          subst d3
                          unfold http at hX1
                          clear g2 d2 hX2 hx
                          go_wp2
                          go_region
                          all_goals
                            go_wp2
                            go_ret3
                            exact ⟨by rw [HF.out, ← E1.out, ← E2.out]; rfl, (Below.refl _ _).drew⟩
                        · have HF := Lib.hid (fv_no (no_run2 HR.out hkz HRZ.out (.inr (.inr (by rw [hX2]; exact d3)))))
                          have t7 : (X == [32, 72, 84, 84, 80, 47, 49, 46, 49]) = false := by simpa [http] using d3
                          clear g2 d2 hX2 hx d3
                          go_wp2
                          go_ret3
                          exact ⟨by rw [HF.out]; rfl, Below.refl _ _⟩
                      · have t6 : ((s[k + 1].toNat : Int) != 47) = true := Com.u8_bne d2 rfl
                        have HF := Lib.hid (fv_no (no_run2 HR.out hkz HRZ.out (.inr (.inl (fun h => d2 (by rw [g2] at h; exact Option.some.inj h))))))
                        clear g2 d2
                        go_wp2
                        go_ret3
                        exact ⟨by rw [HF.out]; rfl, Below.refl _ _⟩
            · have t4 : ((s[k].toNat : Int) != 32) = true := Com.u8_bne b4 rfl
              have HF := Lib.hid (fv_no (no_run HR.out (.inr (.inr (fun h => b4 (by rw [g0] at h; exact Option.some.inj h))))))
              clear g0 b4
              go_wp2
              go_ret3
              exact ⟨by rw [HF.out]; rfl, Below.refl _ _⟩
      · by_cases a2 : (90 : Int) < s[k].toNat
        · have a1' : (65 : Int) ≤ s[k].toNat := by omega
          have a2' : ¬ (s[k].toNat : Int) ≤ 90 := by omega
          have HR := Lib.hid (Run.mk (p := upc) (by rw [Com.toList_length]; exact hks) HA (fun c hc => by rw [g0] at hc; cases hc; exact rng_hi a2))
          have b4 : s[k] ≠ 32 := fun e => by rw [e] at a1'; exact absurd a1' (by decide)
          have HF := Lib.hid (fv_no (no_run HR.out (.inr (.inr (fun h => b4 (by rw [g0] at h; exact Option.some.inj h))))))
          have t4 : ((s[k].toNat : Int) != 32) = true := Com.u8_bne b4 rfl
          have b3' : ¬ (s.size : Int) ≤ k := by omega
          clear g0 b4
          by_cases b1 : (k : Int) < 1
          · go_wp2
            go_ret3
            exact ⟨by rw [HF.out]; rfl, Below.refl _ _⟩
          · by_cases b2 : (16 : Int) < k
            · go_wp2
              go_ret3
              exact ⟨by rw [HF.out]; rfl, Below.refl _ _⟩
            · go_wp2
              go_ret3
              exact ⟨by rw [HF.out]; rfl, Below.refl _ _⟩
        · have a1' : (65 : Int) ≤ s[k].toNat := by omega
          have a2' : (s[k].toNat : Int) ≤ 90 := by omega
          have HN := Lib.hid (run_step (p := upc) HA g0 (rng_of a1' a2'))
          clear g0
          go_wp2
          go_roundg (s.size - (k + 1))
          case rel => exact ⟨k + 1, by omega, by go_num, HN, rfl⟩
          case measure => have := HG.out; omega
    · have q1 : ¬ (k : Int) < s.size := by omega
      have hen := end_none (s := s) (k := k) (by omega)
      have HR := Lib.hid (Run.mk (p := upc) (by rw [Com.toList_length]; exact hks) HA (fun c hc => hen c hc _))
      have HF := Lib.hid (fv_no (no_run HR.out (.inr (.inr (fun h => by have := hen 32 h (fun _ => true); cases this)))))
      have b3' : (s.size : Int) ≤ k := by omega
      clear hen
      by_cases b1 : (k : Int) < 1
      · go_wp2
        go_ret3
        exact ⟨by rw [HF.out]; rfl, Below.refl _ _⟩
      · by_cases b2 : (16 : Int) < k
        · go_wp2
          go_ret3
          exact ⟨by rw [HF.out]; rfl, Below.refl _ _⟩
        · go_wp2
          go_ret3
          exact ⟨by rw [HF.out]; rfl, Below.refl _ _⟩
end Go.Proofs.YtnhjbcjeeilicaaGreatDoor.HtBE
