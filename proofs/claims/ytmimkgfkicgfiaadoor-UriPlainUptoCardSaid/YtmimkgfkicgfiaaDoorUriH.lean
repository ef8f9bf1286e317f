/-
  The walk of bollardlaw17.UriPlain.
-/
import Derived.Test.YtmimkgfkicgfiaaDoorUriF
import Derived.Test.YtmimkgfkicgfiaaDoorUriG
namespace Go.Proofs.YtmimkgfkicgfiaaDoor.UriH
open Go.RowKit Go.Proofs.YtmimkgfkicgfiaaDoor Go.Proofs.YtmimkgfkicgfiaaDoor.UriC

/-- a byte that an encoded text may hold -/
def Ok (slash : Bool) (n : Nat) : Prop :=
  (97 ≤ n ∧ n ≤ 122) ∨ (65 ≤ n ∧ n ≤ 90) ∨ (48 ≤ n ∧ n ≤ 57) ∨ n = 45 ∨ n = 95 ∨ n = 46 ∨ n = 126 ∨ n = 37 ∨ (n = 47 ∧ slash = true)
theorem ok_pl {c : UInt8} (slash : Bool) (h : UriD.pl c = true) : Ok slash c.toNat := by
  simp only [UriD.pl, Bool.or_eq_true, Bool.and_eq_true, decide_eq_true_eq, beq_iff_eq] at h
  unfold Ok
  rcases h with (((((h | h) | h) | rfl) | rfl) | rfl) | rfl
  · exact .inl h
  · exact .inr (.inl h)
  · exact .inr (.inr (.inl h))
  · right; right; right; left; rfl
  · right; right; right; right; left; rfl
  · right; right; right; right; right; left; rfl
  · right; right; right; right; right; right; left; rfl
theorem hx_pl : ∀ i : Fin 16, UriD.pl (UriD.hx i.1) = true := by decide
theorem ok_enc (slash : Bool) (l : List UInt8) : ∀ c ∈ UriD.enc slash l, Ok slash c.toNat := by
  intro c hc
  obtain ⟨d, _, hd⟩ := List.mem_flatMap.1 hc
  unfold UriD.enc1 at hd
  split at hd
  · rename_i hs
    obtain rfl : c = d := by simpa using hd
    simp only [UriD.self, Bool.or_eq_true, Bool.and_eq_true, beq_iff_eq] at hs
    rcases hs with hs | ⟨rfl, hs⟩
    · exact ok_pl slash hs
    · unfold Ok; right; right; right; right; right; right; right; right; exact ⟨rfl, hs⟩
  · have hd16 : d.toNat / 16 < 16 := by have := UInt8.toNat_lt d; omega
    have hm16 : d.toNat % 16 < 16 := by omega
    simp only [List.mem_cons, List.not_mem_nil, or_false] at hd
    rcases hd with rfl | rfl | rfl
    · unfold Ok; right; right; right; right; right; right; right; left; rfl
    · exact ok_pl slash (hx_pl ⟨_, hd16⟩)
    · exact ok_pl slash (hx_pl ⟨_, hm16⟩)

theorem hexv_hx : ∀ i : Fin 16, Up.hexv (UriD.hx i.1) = some i.1 := by decide
theorem pl_range : ∀ n : Fin 256, UriD.pl (UInt8.ofNat n.1) = true → (UInt8.ofNat n.1) ≠ 37 ∧ 32 ≤ n.1 ∧ n.1 ≤ 126 := by decide +kernel
theorem self_range {slash : Bool} {c : UInt8} (h : UriD.self slash c = true) : c ≠ 37 ∧ 32 ≤ c.toNat ∧ c.toNat ≤ 126 := by
  simp only [UriD.self, Bool.or_eq_true, Bool.and_eq_true, beq_iff_eq] at h
  rcases h with h | ⟨rfl, h⟩
  · have := pl_range ⟨c.toNat, UInt8.toNat_lt c⟩
    simp only [UInt8.ofNat_toNat] at this
    exact this h
  · exact ⟨by decide, by decide, by decide⟩
/-- one byte, encoded, is taken back, or refused -/
theorem step_enc1 (slash : Bool) (c : UInt8) (r : List UInt8) : Up.step (UriD.enc1 slash c ++ r) = if 32 ≤ c.toNat ∧ c.toNat ≤ 126 then some (c, r) else none := by
  unfold UriD.enc1
  split
  · rename_i h
    obtain ⟨h1, h2, h3⟩ := self_range h
    rw [if_pos ⟨h2, h3⟩]
    exact UriA.step_in h1 h2 h3
  · have hc := UInt8.toNat_lt c
    have e : 16 * (c.toNat / 16) + c.toNat % 16 = c.toNat := Nat.div_add_mod _ _
    have h := UriA.step_pct (r := r) (hexv_hx ⟨c.toNat / 16, by omega⟩) (hexv_hx ⟨c.toNat % 16, by omega⟩)
    simp only [e, UInt8.ofNat_toNat] at h
    exact h
/-- what is decoded of an encoded text is the text -/
theorem dec_enc (slash : Bool) (l : List UInt8) : Up.dec (UriD.enc slash l) = if l.all (fun c => decide (32 ≤ c.toNat) && decide (c.toNat ≤ 126)) = true then some l else none := by
  induction l with
  | nil => simp [UriD.enc, Up.dec_nil]
  | cons c t ih =>
    have hs := step_enc1 slash c (UriD.enc slash t)
    have hcons : UriD.enc slash (c :: t) = UriD.enc1 slash c ++ UriD.enc slash t := by simp [UriD.enc]
    have hne : UriD.enc1 slash c ++ UriD.enc slash t ≠ [] := by
      unfold UriD.enc1; split <;> simp
    rw [hcons]
    by_cases h : 32 ≤ c.toNat ∧ c.toNat ≤ 126
    · rw [if_pos h] at hs
      rw [Up.dec_some hs, ih]
      simp only [List.all_cons, h.1, h.2, decide_true, Bool.and_self, Bool.true_and]
      split <;> rfl
    · rw [if_neg h] at hs
      rw [Up.dec_none hne hs, if_neg]
      simp only [List.all_cons, Bool.and_eq_true, decide_eq_true_eq]
      exact fun ⟨h1, _⟩ => h h1

set_option maxHeartbeats 8000000 in
set_option maxRecDepth 100000 in
theorem plain (s : ByteArray) (slash : Bool) (w : World) {aU : Addr} (he : EU w aU) (hm : UriB.Mx w) (hs : s.size ≤ 16777216) :
    Calls Tryd.prog 4 #[.string s, .bool slash] w fun e w' => e = .returned (.bool true) ∧ Below w.heap.size w w' := by
  have hde := dec_enc slash s.data.toList
  have HDE := Lib.hid hde; clear hde
  go_enter Tryd.func4, Tryd.ntmps4
  go_wp2_with fail
  refine (UriG.alive _ he hm).mono ?_
  rintro e w1 ⟨rfl, hb1⟩
  go_wp2_with fail
  refine (UriD.encode s slash _ hs).mono ?_
  rintro e w2 ⟨rfl, hb2⟩
  have hel := UriD.enc_len slash s.data.toList
  rw [Com.toList_length] at hel
  have hok := ok_enc slash s.data.toList
  generalize hE : (⟨(UriD.enc slash s.data.toList).toArray⟩ : ByteArray) = E
  have hED : E.data.toList = UriD.enc slash s.data.toList := by rw [← hE]
  have hEs : E.size ≤ 50331648 := by rw [← hE, Com.size_mk]; omega
  have HOK := Lib.hid (show ∀ (k : Nat) (h : k < E.size), Ok slash (E[k]).toNat by
    intro k h
    refine hok _ ?_
    rw [← hED]
    exact List.getElem_mem (by rw [Com.toList_length]; exact h))
  have HED := Lib.hid hED
  have hB2 : Below w.heap.size w w2 := hb1.trans (hb2.mono hb1.size)
  clear hE hED hok hel hb1 hb2
  go_wp2_with fail
  go_loop [6, 7] (fun i _ => ∃ k : Nat, k ≤ E.size ∧ i = .int .i64 k) (fun i _ => E.size - (intOf i).toNat)
  case atStart => exact ⟨0, Nat.zero_le _, rfl⟩
  case round =>
    obtain ⟨k, hk, rfl⟩ := hrel
    by_cases hlt : k < E.size
    · have hck := HOK.out k hlt
      rcases hck with ⟨h1, h2⟩ | ⟨h1, h2⟩ | ⟨h1, h2⟩ | h1 | h1 | h1 | h1 | h1 | ⟨h1, rfl⟩
      all_goals
        go_wp2_with fail
        go_round
        case rel => exact ⟨k + 1, by omega, by go_num⟩
        case measure => simp [intOf]; omega
    · by_cases hall : s.data.toList.all (fun c => decide (32 ≤ c.toNat) && decide (c.toNat ≤ 126)) = true
      · have hd : Up.dec E.data.toList = some s.data.toList := by rw [HED.out, HDE.out, if_pos hall]
        clear hall
        have HD := Lib.hid hd; clear hd
        go_wp2_with fail
        refine (UriF.decodeS HD.out _ (by omega)).mono ?_
        rintro e w3 ⟨rfl, hb3⟩
        rw [Com.mk_data]
        go_wp2_with fail
        go_ret
        exact ⟨rfl, hB2.trans (hb3.mono hB2.size)⟩
      · have hd : Up.dec E.data.toList = none := by rw [HED.out, HDE.out, if_neg hall]
        clear hall
        have HD := Lib.hid hd; clear hd
        go_wp2_with fail
        refine (UriF.decodeN HD.out _ (by omega)).mono ?_
        rintro e w3 ⟨rfl, hb3⟩
        go_wp2_with fail
        go_ret
        exact ⟨rfl, hB2.trans (hb3.mono hB2.size)⟩
end Go.Proofs.YtmimkgfkicgfiaaDoor.UriH
