/-
  The walk of bollardref08.number.
-/
import Derived.Test.YtmimkgfkicgfiaaDoorIdA
namespace Go.Proofs.YtmimkgfkicgfiaaDoor.IdB
open Go.RowKit Go.Proofs.YtmimkgfkicgfiaaDoor Go.Proofs.YtmimkgfkicgfiaaDoor.Ip

theorem digs_take (L : List UInt8) : digs L = L.take (digs L).length := by
  obtain ⟨r, hr⟩ : ∃ r, digs L ++ r = L := ⟨_, digs_rest L⟩
  generalize digs L = d at hr
  rw [← hr, List.take_left]
theorem digs_len (L : List UInt8) : (digs L).length ≤ 14 ∧ (digs L).length ≤ L.length := by
  constructor
  · unfold digs; rw [List.length_take]; omega
  · have := congrArg List.length (digs_rest L)
    rw [List.length_append] at this
    omega
theorem digs_next {L : List UInt8} {m : Nat} (h : m < (digs L).length) : ∃ c, L[m]? = some c ∧ isD c = true ∧ L.take (m + 1) = L.take m ++ [c] := by
  have hl := (digs_len L).2
  have e : (digs L)[m]? = L[m]? := by
    conv => lhs; rw [digs_take L]
    rw [List.getElem?_take, if_pos h]
  have hm : L[m]? = some L[m] := List.getElem?_eq_getElem (by omega)
  refine ⟨L[m], hm, ?_, by rw [List.take_add_one, hm]; rfl⟩
  refine digs_isD L _ ?_
  rw [hm] at e
  exact List.mem_of_getElem? e
theorem digs_stop (L : List UInt8) : L.length = (digs L).length ∨ (∃ c, L[(digs L).length]? = some c ∧ isD c = false) ∨ (digs L).length = 14 := by
  by_cases h : 14 ≤ (L.takeWhile isD).length
  · right; right; unfold digs; rw [List.length_take]; omega
  · have e : digs L = L.takeWhile isD := by unfold digs; rw [List.take_of_length_le (by omega)]
    rw [e]
    have hp := List.takeWhile_append_dropWhile (p := isD) (l := L)
    cases hd : L.dropWhile isD with
    | nil => left; rw [hd, List.append_nil] at hp; rw [hp]
    | cons c r =>
      right; left
      refine ⟨c, ?_, ?_⟩
      · conv => lhs; lhs; rw [← hp]
        rw [hd, List.getElem?_append_right (Nat.le_refl _)]
        simp
      · have := List.head?_dropWhile_not isD L
        rw [hd] at this
        simpa using this
theorem val_lt : ∀ (n : Nat) (l : List UInt8), l.length = n → (∀ c ∈ l, isD c = true) → val l < 10 ^ n := by
  intro n
  induction n with
  | zero => intro l h _; rw [List.eq_nil_of_length_eq_zero h]; decide
  | succ n ih =>
    intro l hn h
    rcases List.eq_nil_or_concat l with rfl | ⟨t, c, rfl⟩
    · cases hn
    · rw [List.concat_eq_append] at *
      have h1 := ih t (by simpa using hn) fun d hd => h d (by simp [hd])
      have hc := (isD_iff c).1 (h c (by simp))
      rw [val_snoc, Nat.pow_succ]
      omega
theorem val_take {L : List UInt8} {m : Nat} (h : m ≤ (digs L).length) : val (L.take m) < 100000000000000 := by
  have h14 := (digs_len L).1
  have e : L.take m = (digs L).take m := by
    conv => rhs; rw [digs_take L]
    rw [List.take_take, Nat.min_eq_left h]
  have h1 := val_lt _ (L.take m) rfl fun c hc => by
    rw [e] at hc
    exact digs_isD L c (List.mem_of_mem_take hc)
  have h2 : (L.take m).length ≤ 14 := by rw [List.length_take]; omega
  have h3 : 10 ^ (L.take m).length ≤ 10 ^ 14 := Nat.pow_le_pow_right (by omega) h2
  have h4 : (10 ^ 14 : Nat) = 100000000000000 := by decide
  omega
theorem at_of {s : ByteArray} {k m : Nat} {c : UInt8} (h : (s.data.toList.drop k)[m]? = some c) : ∃ hlt : k + m < s.size, s[k + m] = c := by
  rw [List.getElem?_drop] at h
  obtain ⟨h1, h2⟩ := List.getElem?_eq_some_iff.1 h
  exact ⟨by rw [← Com.toList_length]; exact h1, h2⟩
theorem ret3 {a a' b b' : Int} {c c' : Bool} (h1 : a = a') (h2 : b = b') (h3 : c = c') : Ending.returned (.tuple #[.int .i64 a, .int .i64 b, .bool c]) = .returned (.tuple #[.int .i64 a', .int .i64 b', .bool c']) := by rw [h1, h2, h3]
/-- how the numeral stands -/
theorem ok_cases (L : List UInt8) : ((digs L).length = 0 ∧ okd (digs L) = false) ∨ (∃ c, 0 < (digs L).length ∧ L[0]? = some c ∧ c ≠ 48 ∧ okd (digs L) = true) ∨ ((digs L).length = 1 ∧ L[0]? = some 48 ∧ okd (digs L) = true) ∨ (1 < (digs L).length ∧ L[0]? = some 48 ∧ okd (digs L) = false) := by
  by_cases h0 : (digs L).length = 0
  · left; exact ⟨h0, by rw [List.eq_nil_of_length_eq_zero h0]; rfl⟩
  · have hne : digs L ≠ [] := fun e => h0 (by rw [e]; rfl)
    have hh : (digs L).head? = L[0]? := by
      rw [List.head?_eq_getElem?]
      conv => lhs; lhs; rw [digs_take L]
      rw [List.getElem?_take, if_pos (by omega)]
    obtain ⟨c, hc⟩ : ∃ c, L[0]? = some c := ⟨_, List.getElem?_eq_getElem (by have := (digs_len L).2; omega)⟩
    rw [hc] at hh
    by_cases h48 : c = 48
    · subst h48
      by_cases h1 : (digs L).length = 1
      · right; right; left; exact ⟨h1, hc, (okd_iff _).2 ⟨hne, .inr h1⟩⟩
      · right; right; right
        refine ⟨by omega, hc, ?_⟩
        cases ho : okd (digs L) with
        | false => rfl
        | true =>
          rcases ((okd_iff _).1 ho).2 with h | h
          · exact absurd hh h
          · exact absurd h h1
    · right; left
      exact ⟨c, by omega, hc, h48, (okd_iff _).2 ⟨hne, .inl (by rw [hh]; simpa using h48)⟩⟩

set_option maxHeartbeats 4000000 in
set_option maxRecDepth 100000 in
theorem number (s : ByteArray) (k : Nat) (hk : k ≤ s.size) (hs : s.size ≤ 70368744177664) (w : World) :
    Calls Tryd.prog 129 #[.string s, .int .i64 k] w fun e w' =>
      e = .returned (.tuple #[.int .i64 (val (digs (s.data.toList.drop k))), .int .i64 ((k + (digs (s.data.toList.drop k)).length : Nat)), .bool (okd (digs (s.data.toList.drop k)))]) ∧ w = w' := by
  have hL : (s.data.toList.drop k).length = s.size - k := by rw [List.length_drop, Com.toList_length]
  have HAT := Lib.hid (show ∀ m c, (s.data.toList.drop k)[m]? = some c → ∃ hlt : k + m < s.size, s[k + m] = c from fun m c h => at_of h)
  generalize hLd : s.data.toList.drop k = L at *
  have HLD := Lib.hid hLd
  clear hLd
  have HL := Lib.hid hL
  have hd := digs_len L
  obtain ⟨hd14, hdl⟩ := hd
  have hkd : k + (digs L).length ≤ s.size := by omega
  have hst := digs_stop L
  have hoc := ok_cases L
  have hE : (¬ k + (digs L).length < s.size) ∨ (∃ h : k + (digs L).length < s.size, s[k + (digs L).length].toNat < 48) ∨ (∃ h : k + (digs L).length < s.size, 57 < s[k + (digs L).length].toNat) ∨ (∃ h : k + (digs L).length < s.size, 48 ≤ s[k + (digs L).length].toNat ∧ s[k + (digs L).length].toNat ≤ 57 ∧ (digs L).length = 14) := by
    rcases hst with h | ⟨c, hc, hcd⟩ | h
    · left; omega
    · obtain ⟨h1, h2⟩ := HAT.out _ c hc
      have h3 : ¬ (48 ≤ c.toNat ∧ c.toNat ≤ 57) := fun h => by rw [← isD_iff, hcd] at h; cases h
      by_cases h4 : c.toNat < 48
      · right; left; exact ⟨h1, by rw [h2]; exact h4⟩
      · right; right; left; exact ⟨h1, by rw [h2]; omega⟩
    · by_cases he : k + (digs L).length = s.size
      · left; omega
      · have hpl : k + (digs L).length < s.size := by omega
        right
        by_cases h1 : s[k + (digs L).length].toNat < 48
        · left; exact ⟨hpl, h1⟩
        · right
          by_cases h2 : 57 < s[k + (digs L).length].toNat
          · left; exact ⟨hpl, h2⟩
          · right; exact ⟨hpl, by omega, by omega, h⟩
  have hO : ((digs L).length = 0 ∧ okd (digs L) = false) ∨ (∃ h : k < s.size, 0 < (digs L).length ∧ ((s[k].toNat : Int) != 48) = true ∧ okd (digs L) = true) ∨ (∃ h : k < s.size, (digs L).length = 1 ∧ ((s[k].toNat : Int) != 48) = false ∧ okd (digs L) = true) ∨ (∃ h : k < s.size, 1 < (digs L).length ∧ ((s[k].toNat : Int) != 48) = false ∧ okd (digs L) = false) := by
    rcases hoc with ⟨h1, h2⟩ | ⟨c, h1, h2, h3, h4⟩ | ⟨h1, h2, h3⟩ | ⟨h1, h2, h3⟩
    · exact .inl ⟨h1, h2⟩
    · obtain ⟨a1, a2⟩ := HAT.out 0 c h2
      refine .inr (.inl ⟨a1, h1, ?_, h4⟩)
      have := Com.u8_ne (c := c) (d := 48) h3 (n := 48) rfl
      simp only [Nat.add_zero] at a2
      rw [a2]
      simpa [bne] using this
    · obtain ⟨a1, a2⟩ := HAT.out 0 48 h2
      simp only [Nat.add_zero] at a2
      exact .inr (.inr (.inl ⟨a1, h1, by rw [a2]; rfl, h3⟩))
    · obtain ⟨a1, a2⟩ := HAT.out 0 48 h2
      simp only [Nat.add_zero] at a2
      exact .inr (.inr (.inr ⟨a1, h1, by rw [a2]; rfl, h3⟩))
  have hdt := digs_take L
  have hnx : ∀ m, m < (digs L).length → ∃ c, L[m]? = some c ∧ isD c = true ∧ L.take (m + 1) = L.take m ++ [c] := fun m h => digs_next h
  have hvl : ∀ m, m ≤ (digs L).length → val (L.take m) < 100000000000000 := fun m h => val_take h
  have hvd : val (L.take (digs L).length) = val (digs L) := by rw [← hdt]
  clear hdt hst hoc
  generalize okd (digs L) = ok at *
  generalize val (digs L) = vv at *
  generalize (digs L).length = D at *
  have HE := Lib.hid hE; have HO := Lib.hid hO; have HNX := Lib.hid hnx; have HVL := Lib.hid hvl; have HVD := Lib.hid hvd
  clear hE hO hnx hvl hvd
  clear hL
  go_enter Tryd.func129, Tryd.ntmps129
  go_wp2_with fail
  go_loop [1, 7] (fun a n => ∃ m : Nat, m ≤ D ∧ a = .int .i64 ((k + m : Nat) : Int) ∧ n = .int .i64 (val (L.take m))) (fun a _ => s.size - (intOf a).toNat)
  case atStart => exact ⟨0, Nat.zero_le _, rfl, rfl⟩
  case round =>
    obtain ⟨m, hm, rfl, rfl⟩ := hrel
    have hvt := HVL.out m hm
    by_cases hlt : m < D
    · obtain ⟨c, hc, hcd, htk⟩ := HNX.out m hlt
      obtain ⟨hpl, hsc⟩ := HAT.out m c hc
      have HTK := Lib.hid (show val (L.take (m + 1)) = 10 * val (L.take m) + (c.toNat - 48) by rw [htk, val_snoc])
      obtain ⟨h1, h2⟩ := (isD_iff c).1 hcd
      generalize hp : k + m = p at *
      generalize val (L.take m) = v at *
      have g1 : 48 ≤ s[p].toNat := by rw [hsc]; exact h1
      have g2 : s[p].toNat ≤ 57 := by rw [hsc]; exact h2
      have HSC := Lib.hid hsc
      have q1 : IntKind.u8.wrap ((s[p].toNat : Int) - 48) = (s[p].toNat : Int) - 48 := IntWalk.u8_in _ ⟨by omega, by omega⟩
      have q2 : (p : Int) - (k : Int) < 14 := by omega
      clear hc hcd htk hsc
      go_wp2_with fail
      go_round
      case rel => exact ⟨m + 1, by omega, by go_num, by
        have := HTK.out
        have := congrArg UInt8.toNat HSC.out
        go_num⟩
      case measure => simp [intOf]; omega
    · have hme : m = D := by omega
      subst hme
      have hpv := HVL.out _ (Nat.le_refl _)
      rw [HVD.out] at hpv ⊢
      have hE := HE.out; have hO := HO.out
      generalize hp : k + m = p at *
      clear hvt
      rcases hE with h1 | ⟨hpl, h1⟩ | ⟨hpl, h1⟩ | ⟨hpl, h1, h2, h3⟩
      all_goals
        rcases hO with ⟨o1, rfl⟩ | ⟨hks, o1, o2, rfl⟩ | ⟨hks, o1, o2, rfl⟩ | ⟨hks, o1, o2, rfl⟩
      all_goals
        first
          | have q2 : ¬ ((p : Int) - (k : Int) < 14) := by omega
          | skip
        try have e : p = k := by omega
        try have hk1 : k < s.size := by omega
        try have hk2 : s[k].toNat < 48 := (show ∀ q, q = p → ∀ h : q < s.size, s[q].toNat < 48 by rintro q rfl h; exact h1) k (by omega) hk1
        try have hk3 : 57 < s[k].toNat := (show ∀ q, q = p → ∀ h : q < s.size, 57 < s[q].toNat by rintro q rfl h; exact h1) k (by omega) hk1
        first
          | have q3 : (p : Int) = (k : Int) := by omega
          | have q3 : (k : Int) < (p : Int) := by omega
        first
          | have q4 : ((p : Int) == (k : Int) + 1) = true := by simp; omega
          | have q4 : ((p : Int) == (k : Int) + 1) = false := by simp; omega
          | skip
      all_goals
        go_wp2_with fail
      all_goals
        go_ret3
        exact ⟨ret3 rfl (by first | rfl | omega) rfl, rfl⟩
end Go.Proofs.YtmimkgfkicgfiaaDoor.IdB
