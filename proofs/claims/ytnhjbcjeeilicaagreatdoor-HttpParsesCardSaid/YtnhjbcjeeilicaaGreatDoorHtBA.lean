/-
  The document's parser of requests, piece by piece, says what the program's says. Plain: of no program.
-/
import Derived.Test.YtnhjbcjeeilicaaGreatDoorHtV
namespace Go.Proofs.YtnhjbcjeeilicaaGreatDoor.HtBA
open Go Go.Proofs.YtnhjbcjeeilicaaGreatDoor.Ht Go.Proofs.YtnhjbcjeeilicaaGreatDoor.HtV

theorem split_none {sep l : List UInt8} (h : Lib.index l sep = -1) : split sep l = [l] := by
  unfold split
  rw [Lib.count_miss h]
  rfl
theorem split_some {sep l : List UInt8} {i : Nat} (hs : sep ≠ []) (h : Lib.index l sep = i) : split sep l = l.take i :: split sep (l.drop (i + sep.length)) := by
  unfold split
  rw [Lib.count_hit hs h, Nat.add_comm 1]
  conv => lhs; unfold parts
  rw [if_neg (by omega), h]
  rfl

/-- the end of a line at j -/
def at13 (s : List UInt8) (j : Nat) : Prop := s[j]? = some 13 ∧ s[j + 1]? = some 10
theorem two_iff {l : List UInt8} {a b : UInt8} : [a, b].isPrefixOf l = true ↔ l[0]? = some a ∧ l[1]? = some b := by
  match l with
  | [] => simp [List.isPrefixOf]
  | [x] => simp [List.isPrefixOf]
  | x :: y :: r =>
    simp only [List.isPrefixOf, Bool.and_true, Bool.and_eq_true, beq_iff_eq, List.getElem?_cons_zero, List.getElem?_cons_succ, Option.some.injEq]
    exact ⟨fun h => ⟨h.1.symm, h.2.symm⟩, fun h => ⟨h.1.symm, h.2.symm⟩⟩
theorem occ2 {s : List UInt8} {f j : Nat} : Lib.occAt (s.drop f) [13, 10] j = true ↔ at13 s (f + j) := by
  unfold Lib.occAt at13
  rw [two_iff, List.drop_drop, List.getElem?_drop, List.getElem?_drop, Nat.add_zero, Nat.add_assoc]
/-- the lines so far -/
structure Ls (s : List UInt8) (i f : Nat) (out : List (List UInt8)) : Prop where
  le : f ≤ i
  len : f ≤ s.length
  no : ∀ j, f ≤ j → j < i → ¬ at13 s j
  eq : split [13, 10] s = out ++ split [13, 10] (s.drop f)
theorem Ls.start (s : List UInt8) : Ls s 0 0 [] := ⟨Nat.le_refl _, Nat.zero_le _, fun _ _ h => absurd h (Nat.not_lt_zero _), rfl⟩
theorem Ls.step {s : List UInt8} {i f : Nat} {out : List (List UInt8)} (h : Ls s i f out) (hn : ¬ at13 s i) : Ls s (i + 1) f out :=
  ⟨Nat.le_succ_of_le h.le, h.len, fun j h1 h2 => by
    rcases Nat.lt_or_ge j i with h3 | h3
    · exact h.no j h1 h3
    · obtain rfl : j = i := by omega
      exact hn, h.eq⟩
theorem Ls.line {s : List UInt8} {i f : Nat} {out : List (List UInt8)} (h : Ls s i f out) (hy : at13 s i) : Ls s (i + 2) (i + 2) (out ++ [(s.drop f).take (i - f)]) := by
  have hl : i + 2 ≤ s.length := by
    have := (List.getElem?_eq_some_iff.1 hy.2).1
    omega
  have hle := h.le
  have e : f + (i - f) = i := by omega
  have hix : Lib.index (s.drop f) [13, 10] = ((i - f : Nat) : Int) := Lib.index_first (by rw [List.length_drop]; omega) (occ2.2 (by rw [e]; exact hy)) fun j hj => by
    cases ho : Lib.occAt (s.drop f) [13, 10] j with
    | false => rfl
    | true => exact absurd (occ2.1 ho) (h.no (f + j) (by omega) (by omega))
  refine ⟨Nat.le_refl _, hl, fun _ h1 h2 => absurd h2 (by omega), ?_⟩
  rw [h.eq, split_some (by simp) hix, List.drop_drop, List.append_assoc]
  have : f + (i - f + [(13 : UInt8), 10].length) = i + 2 := by simp only [List.length_cons, List.length_nil]; omega
  rw [this]
  rfl
theorem Ls.fin {s : List UInt8} {i f : Nat} {out : List (List UInt8)} (h : Ls s i f out) (he : s.length ≤ i + 1) : split [13, 10] s = out ++ [s.drop f] := by
  rw [h.eq, split_none]
  refine Lib.index_none fun j _ => ?_
  cases ho : Lib.occAt (s.drop f) [13, 10] j with
  | false => rfl
  | true =>
    have hy := occ2.1 ho
    have := (List.getElem?_eq_some_iff.1 hy.2).1
    exact absurd hy (h.no _ (Nat.le_add_right _ _) (by omega))

/-- where a byte stands first -/
theorem one_iff {s : List UInt8} {c : UInt8} {j : Nat} : Lib.occAt s [c] j = true ↔ s[j]? = some c := by
  unfold Lib.occAt
  have e : (s.drop j)[0]? = s[j]? := by rw [List.getElem?_drop, Nat.add_zero]
  rw [← e]
  cases s.drop j with
  | nil => simp [List.isPrefixOf]
  | cons x r =>
    simp only [List.isPrefixOf, Bool.and_true, beq_iff_eq, List.getElem?_cons_zero, Option.some.injEq]
    exact eq_comm
theorem index_at {s : List UInt8} {c : UInt8} {i : Nat} (h : s[i]? = some c) (hn : ∀ j, j < i → s[j]? ≠ some c) : Lib.index s [c] = i :=
  Lib.index_first (Nat.le_of_lt (List.getElem?_eq_some_iff.1 h).1) (one_iff.2 h) fun j hj => by
    cases ho : Lib.occAt s [c] j with
    | false => rfl
    | true => exact absurd (one_iff.1 ho) (hn j hj)
theorem index_not {s : List UInt8} {c : UInt8} (hn : ∀ j : Nat, s[j]? ≠ some c) : Lib.index s [c] = -1 :=
  Lib.index_none fun j _ => by
    cases ho : Lib.occAt s [c] j with
    | false => rfl
    | true => exact absurd (one_iff.1 ho) (hn j)
theorem at_index {s : List UInt8} {c : UInt8} {i : Nat} (h : Lib.index s [c] = i) : s = s.take i ++ c :: s.drop (i + 1) := by
  rcases Lib.index_spec s [c] with ⟨h1, _⟩ | ⟨i', h1, _, h3, _⟩
  · omega
  · obtain rfl : i' = i := by omega
    have h4 := one_iff.1 h3
    obtain ⟨hl, rfl⟩ := List.getElem?_eq_some_iff.1 h4
    rw [List.getElem_cons_drop, List.take_append_drop]
theorem split_three {s m t v : List UInt8} (h : split [32] s = [m, t, v]) : s = m ++ 32 :: (t ++ 32 :: v) := by
  rcases Lib.index_spec s [32] with ⟨h1, _⟩ | ⟨i, h1, _, _, _⟩
  · rw [split_none h1] at h; simp at h
  · have e1 := at_index h1
    rw [split_some (by simp) h1] at h
    simp only [List.length_cons, List.length_nil, Nat.zero_add, List.cons.injEq] at h
    obtain ⟨rfl, h⟩ := h
    generalize s.drop (i + 1) = r at *
    rcases Lib.index_spec r [32] with ⟨h2, _⟩ | ⟨k, h2, _, _, _⟩
    · rw [split_none h2] at h; simp at h
    · have e2 := at_index h2
      rw [split_some (by simp) h2] at h
      simp only [List.length_cons, List.length_nil, Nat.zero_add, List.cons.injEq] at h
      obtain ⟨rfl, h⟩ := h
      generalize hq : r.drop (k + 1) = q at *
      rcases Lib.index_spec q [32] with ⟨h3, _⟩ | ⟨l, h3, _, _, _⟩
      · rw [split_none h3] at h
        simp only [List.cons.injEq, and_true] at h
        subst h
        rw [← e2]
        exact e1
      · rw [split_some (by simp) h3] at h
        simp only [List.cons.injEq] at h
        exact absurd h.2 (split_ne _ _)
theorem index_app {m r : List UInt8} {c : UInt8} (h : ∀ x ∈ m, x ≠ c) : Lib.index (m ++ c :: r) [c] = (m.length : Nat) :=
  index_at (by simp) fun j hj e => by
    rw [List.getElem?_append_left hj] at e
    exact h c (List.mem_of_getElem? e) rfl
theorem split_of {m t v : List UInt8} (hm : ∀ x ∈ m, x ≠ 32) (ht : ∀ x ∈ t, x ≠ 32) (hv : ∀ x ∈ v, x ≠ 32) : split [32] (m ++ 32 :: (t ++ 32 :: v)) = [m, t, v] := by
  rw [split_some (by simp) (index_app hm), List.take_left]
  have e1 : (m ++ 32 :: (t ++ 32 :: v)).drop (m.length + [(32 : UInt8)].length) = t ++ 32 :: v := by simp [← List.drop_drop]
  rw [e1, split_some (by simp) (index_app ht), List.take_left]
  have e2 : (t ++ 32 :: v).drop (t.length + [(32 : UInt8)].length) = v := by simp [← List.drop_drop]
  rw [e2, split_none]
  exact index_not fun j e => hv 32 (List.mem_of_getElem? e) rfl
theorem rng_ne {lo hi : Int} {x : UInt8} (h : rng lo hi x = true) (hl : 32 < lo) : x ≠ 32 := by
  intro e
  subst e
  simp [rng] at h
  omega
theorem first_iff {s m t : List UInt8} : first s = some (m, t) ↔ s = m ++ 32 :: (t ++ 32 :: http) ∧ okm m = true ∧ okt t = true := by
  constructor
  · intro h
    unfold first at h
    split at h
    · rename_i m' t' v e
      split at h
      · rename_i hc
        simp only [Option.some.injEq, Prod.mk.injEq] at h
        obtain ⟨rfl, rfl⟩ := h
        have := split_three e
        rw [hc.1] at this
        exact ⟨this, hc.2.1, hc.2.2⟩
      · cases h
    · cases h
  · rintro ⟨rfl, hm, ht⟩
    have e : split [32] (m ++ 32 :: (t ++ 32 :: http)) = [m, t, http] := split_of
      (fun x hx => by
        have h2 : allR 65 90 m = true := by unfold okm at hm; simp only [Bool.and_eq_true] at hm; exact hm.2
        exact rng_ne (List.all_eq_true.1 h2 x hx) (by omega))
      (fun x hx => by
        have h2 : allR 33 126 t = true := by unfold okt at ht; simp only [Bool.and_eq_true] at ht; exact ht.2
        exact rng_ne (List.all_eq_true.1 h2 x hx) (by omega))
      (by decide)
    rw [first_three e, if_pos ⟨rfl, hm, ht⟩]

/-- the first a bytes are of a kind, and no more -/
structure Run (p : UInt8 → Bool) (s : List UInt8) (o a : Nat) : Prop where
  le : a ≤ s.length
  yes : ∀ j c, o ≤ j → j < a → s[j]? = some c → p c = true
  no : ∀ c, s[a]? = some c → p c = false
theorem Run.eq {p : UInt8 → Bool} {s : List UInt8} {o a a' : Nat} (h : Run p s o a) (h' : Run p s o a') (ho : o ≤ a) (ho' : o ≤ a') : a = a' := by
  rcases Nat.lt_trichotomy a a' with h1 | h1 | h1
  · have hl : a < s.length := by have := h'.le; omega
    have := h.no s[a] (List.getElem?_eq_getElem hl)
    rw [h'.yes a s[a] ho h1 (List.getElem?_eq_getElem hl)] at this
    cases this
  · exact h1
  · have hl : a' < s.length := by have := h.le; omega
    have := h'.no s[a'] (List.getElem?_eq_getElem hl)
    rw [h.yes a' s[a'] ho' h1 (List.getElem?_eq_getElem hl)] at this
    cases this
theorem run_app {p : UInt8 → Bool} {pre m r : List UInt8} {c : UInt8} (h : m.all p = true) (hc : p c = false) : Run p (pre ++ (m ++ c :: r)) pre.length (pre.length + m.length) := by
  refine ⟨by simp, fun j d h1 h2 hj => ?_, fun d hd => ?_⟩
  · rw [List.getElem?_append_right h1, List.getElem?_append_left (by omega)] at hj
    exact List.all_eq_true.1 h d (List.mem_of_getElem? hj)
  · rw [List.getElem?_append_right (by omega), List.getElem?_append_right (by omega)] at hd
    simp at hd
    rw [← hd]; exact hc
/-- a first line's parts -/
theorem first_run {s m t : List UInt8} (h : first s = some (m, t)) {a : Nat} (ha : Run upc s 0 a) : a = m.length ∧ 1 ≤ a ∧ a ≤ 16 ∧ s[a]? = some 32 ∧ ∀ z, a + 1 ≤ z → Run (rng 33 126) s (a + 1) z → z = a + 1 + t.length ∧ 1 ≤ t.length ∧ s[a + 1]? = some 47 ∧ s.drop z = 32 :: http := by
  obtain ⟨rfl, hm, ht⟩ := first_iff.1 h
  unfold okm at hm
  unfold okt at ht
  simp only [Bool.and_eq_true, decide_eq_true_eq] at hm ht
  have h1 : Run upc (m ++ 32 :: (t ++ 32 :: http)) 0 m.length := by
    have := run_app (p := upc) (pre := []) (m := m) (r := t ++ 32 :: http) (c := 32) hm.2 (by decide)
    simpa using this
  obtain rfl : a = m.length := ha.eq h1 (Nat.zero_le _) (Nat.zero_le _)
  obtain ⟨x, t', rfl, hx⟩ : ∃ x t', t = x :: t' ∧ x = 47 := by
    cases t with
    | nil => simp [Lib.hasPrefix] at ht
    | cons x t' => exact ⟨x, t', rfl, by have := ht.1; simp [Lib.hasPrefix, List.isPrefixOf] at this; exact this.symm⟩
  subst hx
  refine ⟨rfl, hm.1.1, hm.1.2, by simp, fun z hz hr => ?_⟩
  have h2 : Run (rng 33 126) (m ++ 32 :: (47 :: t' ++ 32 :: http)) (m.length + 1) (m.length + 1 + (47 :: t').length) := by
    have := run_app (p := rng 33 126) (pre := m ++ [32]) (m := 47 :: t') (r := http) (c := 32) ht.2 (by decide)
    simpa [List.append_assoc] using this
  obtain rfl := hr.eq h2 hz (Nat.le_add_right _ _)
  refine ⟨rfl, by simp, by simp, ?_⟩
  have : m ++ 32 :: (47 :: t' ++ 32 :: http) = (m ++ 32 :: 47 :: t') ++ 32 :: http := by simp
  rw [this]
  exact List.drop_left' (by simp; omega)
theorem first_made {s : List UInt8} {a z : Nat} (ha : Run upc s 0 a) (a1 : 1 ≤ a) (a16 : a ≤ 16) (hs : s[a]? = some 32) (hz : a + 1 ≤ z) (hr : Run (rng 33 126) s (a + 1) z) (h47 : s[a + 1]? = some 47) (hz1 : z ≠ a + 1) (he : s.drop z = 32 :: http) : first s = some (s.take a, (s.drop (a + 1)).take (z - (a + 1))) := by
  refine first_iff.2 ⟨?_, ?_, ?_⟩
  · have hl := (List.getElem?_eq_some_iff.1 hs)
    have e1 : s = s.take a ++ 32 :: s.drop (a + 1) := by
      obtain ⟨hl, h2⟩ := hl
      rw [← h2, List.getElem_cons_drop, List.take_append_drop]
    have e2 : s.drop (a + 1) = (s.drop (a + 1)).take (z - (a + 1)) ++ s.drop z := by
      conv => lhs; rw [← List.take_append_drop (z - (a + 1)) (s.drop (a + 1))]
      rw [List.drop_drop, show a + 1 + (z - (a + 1)) = z by omega]
    rw [he] at e2
    rw [← e2]
    exact e1
  · unfold okm
    have hl : (s.take a).length = a := by rw [List.length_take]; have := ha.le; omega
    have : allR 65 90 (s.take a) = true := List.all_eq_true.2 fun x hx => by
      obtain ⟨j, hj, rfl⟩ := List.getElem_of_mem hx
      rw [hl] at hj
      exact ha.yes j _ (Nat.zero_le _) hj (by rw [← List.getElem?_eq_getElem, List.getElem?_take, if_pos hj])
    rw [hl, this]
    simp [a1, a16]
  · unfold okt
    have h1 : Lib.hasPrefix ((s.drop (a + 1)).take (z - (a + 1))) [47] = true := by
      have e0 : ((s.drop (a + 1)).take (z - (a + 1)))[0]? = some 47 := by
        rw [List.getElem?_take, if_pos (by omega), List.getElem?_drop]
        exact h47
      cases hq : (s.drop (a + 1)).take (z - (a + 1)) with
      | nil => rw [hq] at e0; cases e0
      | cons x r =>
        rw [hq] at e0
        simp at e0
        subst e0
        simp [Lib.hasPrefix, List.isPrefixOf]
    have h2 : allR 33 126 ((s.drop (a + 1)).take (z - (a + 1))) = true := List.all_eq_true.2 fun x hx => by
      obtain ⟨j, hj, hjx⟩ := List.getElem_of_mem hx
      have hj2 := List.getElem?_eq_getElem hj
      rw [hjx, List.getElem?_take] at hj2
      split at hj2
      · rw [List.getElem?_drop] at hj2
        exact hr.yes (a + 1 + j) x (by omega) (by omega) hj2
      · cases hj2
    rw [h1, h2]
    rfl

/-- lines' fields -/
theorem cut_at {s : List UInt8} {i : Nat} (h : s[i]? = some 58) (hn : ∀ j : Nat, j < i → s[j]? ≠ some 58) : name s = s.take i ∧ value s = s.drop (i + 1) ∧ found s = true := by
  have e := index_at h hn
  unfold name value found Lib.cut
  rw [if_pos (by omega), e]
  exact ⟨rfl, rfl, rfl⟩
theorem cut_no {s : List UInt8} (hn : ∀ j : Nat, s[j]? ≠ some 58) : found s = false := by
  have e := index_not hn
  unfold found Lib.cut
  rw [if_neg (by omega)]
/-- the first i bytes may stand in a name -/
structure Nm (s : List UInt8) (i : Nat) : Prop where
  le : i ≤ s.length
  yes : ∀ j c, j < i → s[j]? = some c → c ≠ 58 ∧ nmc c = true
theorem Nm.start (s : List UInt8) : Nm s 0 := ⟨Nat.zero_le _, fun _ _ h => absurd h (Nat.not_lt_zero _)⟩
theorem Nm.step {s : List UInt8} {i : Nat} (h : Nm s i) {c : UInt8} (hc : s[i]? = some c) (h1 : c ≠ 58) (h2 : nmc c = true) : Nm s (i + 1) :=
  ⟨(List.getElem?_eq_some_iff.1 hc).1, fun j d hj hd => by
    rcases Nat.lt_or_ge j i with h3 | h3
    · exact h.yes j d h3 hd
    · obtain rfl : j = i := by omega
      rw [hc] at hd
      cases hd
      exact ⟨h1, h2⟩⟩
theorem Nm.not {s : List UInt8} {i : Nat} (h : Nm s i) : ∀ j, j < i → s[j]? ≠ some 58 := fun j hj e => (h.yes j 58 hj e).1 rfl
theorem field_bad {s : List UInt8} {i : Nat} (h : Nm s i) {c : UInt8} (hc : s[i]? = some c) (h1 : c ≠ 58) (h2 : nmc c = false) : field s = none := by
  unfold field
  refine if_neg fun ⟨a1, a2, _, _⟩ => ?_
  rcases Lib.index_spec s [58] with ⟨e1, _⟩ | ⟨k, e1, _, e3, _⟩
  · unfold found Lib.cut at a1
    rw [if_neg (by omega)] at a1
    cases a1
  · have hk := one_iff.1 e3
    have hik : i < k := by
      rcases Nat.lt_trichotomy i k with h3 | h3 | h3
      · exact h3
      · subst h3; rw [hc] at hk; cases hk; exact absurd rfl h1
      · exact absurd hk (h.not k h3)
    unfold name Lib.cut at a2
    rw [if_pos (by omega), e1] at a2
    have hm : c ∈ s.take k := List.mem_of_getElem? (i := i) (by rw [List.getElem?_take, if_pos hik, hc])
    have := List.all_eq_true.1 a2 c (by simpa using hm)
    rw [h2] at this
    cases this
theorem field_nocolon {s : List UInt8} (h : Nm s s.length) : field s = none := by
  unfold field
  refine if_neg fun ⟨a1, _⟩ => ?_
  rw [cut_no fun j e => ?_] at a1
  · cases a1
  · exact h.not j (List.getElem?_eq_some_iff.1 e).1 e
theorem field_zero {s : List UInt8} (h : s[0]? = some 58) : field s = none := by
  obtain ⟨e1, e2, e3⟩ := cut_at h (fun j hj => absurd hj (Nat.not_lt_zero _))
  unfold field
  exact if_neg fun ⟨_, _, a3, _⟩ => a3 (by rw [e1]; rfl)
theorem field_value {s : List UInt8} {i : Nat} (h : Nm s i) (hc : s[i]? = some 58) (hv : (s.drop (i + 1)).all vlc = false) : field s = none := by
  obtain ⟨e1, e2, e3⟩ := cut_at hc h.not
  unfold field
  exact if_neg fun ⟨_, _, _, a4⟩ => by rw [e2, hv] at a4; cases a4
theorem field_made {s : List UInt8} {i : Nat} (h : Nm s i) (h0 : i ≠ 0) (hc : s[i]? = some 58) (hv : (s.drop (i + 1)).all vlc = true) : field s = some ((s.take i).map lc, trim (s.drop (i + 1))) := by
  obtain ⟨e1, e2, e3⟩ := cut_at hc h.not
  have hl := h.le
  unfold field
  rw [e1, e2, e3, if_pos]
  refine ⟨rfl, List.all_eq_true.2 fun x hx => ?_, fun e => ?_, hv⟩
  · obtain ⟨j, hj, hjx⟩ := List.getElem_of_mem hx
    have hj2 := List.getElem?_eq_getElem hj
    rw [hjx, List.getElem?_take] at hj2
    split at hj2
    · rename_i hji
      exact (h.yes j x hji hj2).2
    · cases hj2
  · have := congrArg List.length e
    rw [List.length_take, List.length_nil] at this
    omega
/-- trimmed from the left first, or from the right -/
def dropL (l : List UInt8) : List UInt8 := l.dropWhile spc
def dropR (l : List UInt8) : List UInt8 := (l.reverse.dropWhile spc).reverse
theorem dropR_cons (x : UInt8) (l : List UInt8) : dropR (x :: l) = if dropR l = [] then (if spc x = true then [] else [x]) else x :: dropR l := by
  unfold dropR
  rw [List.reverse_cons, List.dropWhile_append]
  by_cases h : l.reverse.dropWhile spc = []
  · rw [h]
    by_cases hx : spc x = true <;> simp [hx]
  · have : (l.reverse.dropWhile spc).isEmpty = false := by simpa using h
    rw [this]
    simp [h]
theorem drop_comm (l : List UInt8) : dropL (dropR l) = dropR (dropL l) := by
  induction l with
  | nil => rfl
  | cons x l ih =>
    rw [dropR_cons]
    by_cases hx : spc x = true
    · have e : dropL (x :: l) = dropL l := by unfold dropL; rw [List.dropWhile_cons_of_pos hx]
      rw [e]
      by_cases h : dropR l = []
      · rw [if_pos h, if_pos hx, ← ih, h]
      · rw [if_neg h, ← ih]
        unfold dropL
        rw [List.dropWhile_cons_of_pos hx]
    · have e : dropL (x :: l) = x :: l := by unfold dropL; rw [List.dropWhile_cons_of_neg hx]
      rw [e, dropR_cons]
      by_cases h : dropR l = []
      · rw [if_pos h, if_neg hx]
        unfold dropL
        rw [List.dropWhile_cons_of_neg hx]
      · rw [if_neg h]
        unfold dropL
        rw [List.dropWhile_cons_of_neg hx]
theorem trim_eq (v : List UInt8) : trim v = dropR (dropL v) := by
  rw [← drop_comm]
  have : (fun x => [(32 : UInt8), 9].contains x) = spc := by funext x; simp [spc, List.contains, List.elem]; cases x == 32 <;> cases x == 9 <;> rfl
  unfold trim Lib.trimS Lib.trimLeftS Lib.trimRightS dropL dropR
  rw [this]
end Go.Proofs.YtnhjbcjeeilicaaGreatDoor.HtBA
