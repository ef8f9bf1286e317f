/-
  Requests as bytes: what stands behind a request changes nothing; a strict beginning is no request. Plain: of no program.
-/
import Derived.Test.YtnhjbcjeeilicaaGreatDoorHtPlain
import Derived.Lib.IndexMore
namespace Go.Proofs.YtnhjbcjeeilicaaGreatDoor.HtV
open Go Go.Proofs.YtnhjbcjeeilicaaGreatDoor.Ht

theorem occ_iff (s sub : List UInt8) (i : Nat) : Lib.occAt s sub i = true ↔ (s.drop i).take sub.length = sub := by
  unfold Lib.occAt
  rw [List.isPrefixOf_iff_prefix, List.prefix_iff_eq_take]
  exact ⟨fun h => h.symm, fun h => h.symm⟩
theorem occ_take {s : List UInt8} {n i : Nat} (h : i + 4 ≤ n) : Lib.occAt (s.take n) crlf2 i = Lib.occAt s crlf2 i := by
  apply Bool.eq_iff_iff.2
  rw [occ_iff, occ_iff, List.drop_take, List.take_take]
  have : crlf2.length = 4 := rfl
  rw [this, Nat.min_eq_left (by omega)]
theorem occ_app {s r : List UInt8} {i : Nat} (h : i + 4 ≤ s.length) : Lib.occAt (s ++ r) crlf2 i = Lib.occAt s crlf2 i := by
  apply Bool.eq_iff_iff.2
  rw [occ_iff, occ_iff, List.drop_append_of_le_length (by omega), List.take_append_of_le_length (by rw [List.length_drop]; have : crlf2.length = 4 := rfl; omega)]
theorem occ_len {s : List UInt8} {i : Nat} (h : Lib.occAt s crlf2 i = true) : i + 4 ≤ s.length := by
  rw [occ_iff] at h
  have := congrArg List.length h
  rw [List.length_take, List.length_drop] at this
  have e : crlf2.length = 4 := rfl
  omega
/-- where the head ends -/
theorem at_some {b : List UInt8} {i : Nat} (h : Lib.index (b.take 2048) crlf2 = i) : i + 4 ≤ b.length ∧ i + 4 ≤ 2048 ∧ Lib.occAt b crlf2 i = true ∧ ∀ j, j < i → Lib.occAt b crlf2 j = false := by
  rcases Lib.index_spec (b.take 2048) crlf2 with ⟨h1, _⟩ | ⟨i', h1, _, h3, h4⟩
  · omega
  · obtain rfl : i' = i := by omega
    have hl := occ_len h3
    rw [List.length_take] at hl
    refine ⟨by omega, by omega, by rw [← occ_take (n := 2048) (by omega)]; exact h3, fun j hj => ?_⟩
    rw [← occ_take (n := 2048) (by omega)]
    exact h4 j hj
theorem some_at {b : List UInt8} {i : Nat} (h1 : i + 4 ≤ 2048) (h2 : Lib.occAt b crlf2 i = true) (h3 : ∀ j, j < i → Lib.occAt b crlf2 j = false) : Lib.index (b.take 2048) crlf2 = i := by
  have hl := occ_len h2
  refine Lib.index_first (by rw [List.length_take]; omega) (by rw [occ_take (by omega)]; exact h2) (fun j hj => by rw [occ_take (by omega)]; exact h3 j hj)
theorem none_at {b : List UInt8} (h : ∀ j, j + 4 ≤ b.length → j + 4 ≤ 2048 → Lib.occAt b crlf2 j = false) : Lib.index (b.take 2048) crlf2 = -1 := by
  refine Lib.index_none fun j _ => ?_
  cases e : Lib.occAt (b.take 2048) crlf2 j with
  | false => rfl
  | true =>
    have hl := occ_len e
    rw [List.length_take] at hl
    rw [occ_take (by omega), h j (by omega) (by omega)] at e
    cases e

theorem parse_none {b : List UInt8} (h : Lib.index (b.take 2048) crlf2 = -1) : parse b = if 2048 ≤ b.length then .no .large else .none := by
  unfold parse
  rw [if_pos h]
theorem parse_some {b : List UInt8} {i : Nat} (h : Lib.index (b.take 2048) crlf2 = i) : parse b = match head (b.take i) with
    | .no e => .no e
    | .ok m t fs => match size fs with
      | .no e => .no e
      | .ok k => if b.length - (i + 4) < k then .none else .ok m t fs ((b.drop (i + 4)).take k) (i + 4 + k) := by
  unfold parse
  rw [if_neg (by omega), h]
  rfl
/-- a request's parts -/
theorem parse_ok {b : List UInt8} {m t : List UInt8} {fs : List Fld} {body : List UInt8} {n : Nat} (h : parse b = .ok m t fs body n) :
    ∃ i k, Lib.index (b.take 2048) crlf2 = (i : Nat) ∧ head (b.take i) = .ok m t fs ∧ size fs = .ok k ∧ k ≤ b.length - (i + 4) ∧ body = (b.drop (i + 4)).take k ∧ n = i + 4 + k := by
  rcases Lib.index_spec (b.take 2048) crlf2 with ⟨h1, _⟩ | ⟨i, h1, _, _, _⟩
  · rw [parse_none h1] at h
    split at h <;> cases h
  · rw [parse_some h1] at h
    cases hh : head (b.take i) with
    | no e => rw [hh] at h; cases h
    | ok m' t' fs' =>
      rw [hh] at h
      simp only at h
      cases hs : size fs' with
      | no e => rw [hs] at h; cases h
      | ok k =>
        rw [hs] at h
        simp only at h
        split at h
        · cases h
        · cases h
          exact ⟨i, k, h1, hh, hs, by omega, rfl, rfl⟩
theorem parse_len {b : List UInt8} {m t : List UInt8} {fs : List Fld} {body : List UInt8} {n : Nat} (h : parse b = .ok m t fs body n) : 4 ≤ n ∧ n ≤ b.length := by
  obtain ⟨i, k, h1, h2, h3, h4, h5, h6⟩ := parse_ok h
  have := at_some h1
  omega
/-- bytes behind a request change nothing -/
theorem parse_behind {b : List UInt8} {m t : List UInt8} {fs : List Fld} {body : List UInt8} {n : Nat} (h : parse b = .ok m t fs body n) (r : List UInt8) : parse (b.take n ++ r) = .ok m t fs body n := by
  obtain ⟨i, k, h1, h2, h3, h4, rfl, rfl⟩ := parse_ok h
  obtain ⟨a1, a2, a3, a4⟩ := at_some h1
  have hl : (b.take (i + 4 + k)).length = i + 4 + k := by rw [List.length_take]; omega
  have e1 : Lib.index ((b.take (i + 4 + k) ++ r).take 2048) crlf2 = i := by
    refine some_at a2 ?_ fun j hj => ?_
    · rw [occ_app (by omega), occ_take (by omega)]; exact a3
    · rw [occ_app (by omega), occ_take (by omega)]; exact a4 j hj
  rw [parse_some e1, List.take_append_of_le_length (by omega), List.take_take, Nat.min_eq_left (by omega), h2]
  simp only
  rw [h3]
  simp only
  rw [if_neg (by rw [List.length_append, hl]; omega), List.drop_append_of_le_length (by omega), List.take_append_of_le_length (by rw [List.length_drop]; omega), List.drop_take, List.take_take, Nat.min_eq_left (by omega)]
/-- a strict beginning of a request is no request, and no error -/
theorem parse_cut {b : List UInt8} {m t : List UInt8} {fs : List Fld} {body : List UInt8} {n : Nat} (h : parse b = .ok m t fs body n) {c : Nat} (hc : c < n) : parse (b.take c) = .none := by
  obtain ⟨i, k, h1, h2, h3, h4, rfl, rfl⟩ := parse_ok h
  obtain ⟨a1, a2, a3, a4⟩ := at_some h1
  have hl : (b.take c).length = c := by rw [List.length_take]; omega
  rcases Nat.lt_or_ge c (i + 4) with hci | hci
  · rw [parse_none (none_at fun j hj _ => by rw [hl] at hj; rw [occ_take (by omega)]; exact a4 j (by omega)), if_neg (by omega)]
  · have e1 : Lib.index ((b.take c).take 2048) crlf2 = i := by
      refine some_at a2 ?_ fun j hj => ?_
      · rw [occ_take (by omega)]; exact a3
      · rw [occ_take (by omega)]; exact a4 j hj
    rw [parse_some e1, List.take_take, Nat.min_eq_left (by omega), h2]
    simp only
    rw [h3]
    simp only
    rw [if_pos (by rw [hl]; omega)]
end Go.Proofs.YtnhjbcjeeilicaaGreatDoor.HtV
