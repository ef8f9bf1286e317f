/-
  Targets, plainly: what is decoded, cut and split. Of no program.
-/
import Derived.Lib.IndexMore
namespace Go.Proofs.YtmimkgfkicgfiaaDoor.Up

def hexv (c : UInt8) : Option Nat :=
  if 48 ≤ c ∧ c ≤ 57 then some (c.toNat - 48) else if 65 ≤ c ∧ c ≤ 70 then some (c.toNat - 55) else if 97 ≤ c ∧ c ≤ 102 then some (c.toNat - 87) else none
theorem hexv_lt {c : UInt8} {x : Nat} (h : hexv c = some x) : x < 16 := by
  unfold hexv at h
  split at h
  · rename_i e
    have h1 := UInt8.le_iff_toNat_le.1 e.1
    have h2 := UInt8.le_iff_toNat_le.1 e.2
    simp at h1 h2 h
    omega
  · split at h
    · rename_i e
      have h1 := UInt8.le_iff_toNat_le.1 e.1
      have h2 := UInt8.le_iff_toNat_le.1 e.2
      simp at h1 h2 h
      omega
    · split at h
      · rename_i e
        have h1 := UInt8.le_iff_toNat_le.1 e.1
        have h2 := UInt8.le_iff_toNat_le.1 e.2
        simp at h1 h2 h
        omega
      · cases h

/-- one sign more of a decoded text: what it takes, what it gives -/
def step : List UInt8 → Option (UInt8 × List UInt8)
  | [] => none
  | c :: t =>
    if c = 37 then
      match t with
      | a :: b :: r =>
        match hexv a, hexv b with
        | some x, some y => if 32 ≤ 16 * x + y ∧ 16 * x + y ≤ 126 then some (UInt8.ofNat (16 * x + y), r) else none
        | _, _ => none
      | _ => none
    else if 32 ≤ c ∧ c ≤ 126 then some (c, t) else none
theorem step_len {s : List UInt8} {c : UInt8} {r : List UInt8} (h : step s = some (c, r)) : r.length < s.length := by
  unfold step at h
  split at h
  · cases h
  · rename_i d t
    split at h
    · split at h
      · split at h
        · split at h
          · simp at h; rw [← h.2]; simp; omega
          · cases h
        · cases h
      · cases h
    · split at h
      · simp at h; rw [← h.2]; simp
      · cases h
/-- the decoded text -/
def dec (s : List UInt8) : Option (List UInt8) :=
  if s = [] then some [] else
  match _h : step s with
  | some (c, r) => (dec r).map (c :: ·)
  | none => none
termination_by s.length
decreasing_by exact step_len _h
theorem dec_nil : dec [] = some [] := by unfold dec; simp
theorem dec_none {s : List UInt8} (hs : s ≠ []) (h : step s = none) : dec s = none := by
  unfold dec
  rw [if_neg hs]
  split
  · rename_i e; rw [h] at e; cases e
  · rfl
theorem dec_some {s : List UInt8} {c : UInt8} {r : List UInt8} (h : step s = some (c, r)) : dec s = (dec r).map (c :: ·) := by
  have hs : s ≠ [] := by rintro rfl; cases h
  rw [dec, if_neg hs]
  split
  · rename_i e; rw [h] at e; simp at e; rw [e.1, e.2]
  · rename_i e; rw [h] at e; cases e
/-- what stands ahead of a byte, and behind it -/
def cutAt (c : UInt8) : List UInt8 → List UInt8 × List UInt8
  | [] => ([], [])
  | x :: t => if x = c then ([], t) else (x :: (cutAt c t).1, (cutAt c t).2)
theorem cutAt_len (c : UInt8) (s : List UInt8) : (cutAt c s).1.length + (cutAt c s).2.length ≤ s.length := by
  induction s with
  | nil => simp [cutAt]
  | cons x t ih => unfold cutAt; split <;> simp <;> omega
/-- the pieces between a byte -/
def splits (c : UInt8) : List UInt8 → List (List UInt8)
  | [] => [[]]
  | x :: t => if x = c then [] :: splits c t else match splits c t with | h :: r => (x :: h) :: r | [] => [[x]]
theorem splits_ne (c : UInt8) (s : List UInt8) : splits c s ≠ [] := by
  cases s with
  | nil => simp [splits]
  | cons x t => unfold splits; split; simp; split <;> simp
theorem splits_free {c : UInt8} : ∀ {s : List UInt8}, c ∉ s → splits c s = [s]
  | [], _ => rfl
  | x :: t, h => by
    have h1 : x ≠ c := fun e => h (by simp [e])
    have h2 : c ∉ t := fun e => h (by simp [e])
    unfold splits
    rw [if_neg h1, splits_free h2]
theorem splits_at {c : UInt8} : ∀ {a b : List UInt8}, c ∉ a → splits c (a ++ c :: b) = a :: splits c b
  | [], b, _ => by simp [splits]
  | x :: a, b, h => by
    have h1 : x ≠ c := fun e => h (by simp [e])
    have h2 : c ∉ a := fun e => h (by simp [e])
    rw [List.cons_append, splits, if_neg h1, splits_at h2]
theorem cutAt_free {c : UInt8} : ∀ {s : List UInt8}, c ∉ s → cutAt c s = (s, [])
  | [], _ => rfl
  | x :: t, h => by
    have h1 : x ≠ c := fun e => h (by simp [e])
    have h2 : c ∉ t := fun e => h (by simp [e])
    unfold cutAt
    rw [if_neg h1, cutAt_free h2]
theorem cutAt_at {c : UInt8} : ∀ {a b : List UInt8}, c ∉ a → cutAt c (a ++ c :: b) = (a, b)
  | [], b, _ => by simp [cutAt]
  | x :: a, b, h => by
    have h1 : x ≠ c := fun e => h (by simp [e])
    have h2 : c ∉ a := fun e => h (by simp [e])
    rw [List.cons_append, cutAt, if_neg h1, cutAt_at h2]
/-- a byte is in a text just where the text parts at it -/
theorem parts {c : UInt8} : ∀ {s : List UInt8}, c ∈ s → ∃ a b, s = a ++ c :: b ∧ c ∉ a
  | [], h => by cases h
  | x :: t, h => by
    by_cases e : x = c
    · exact ⟨[], t, by rw [e]; rfl, by simp⟩
    · rcases List.mem_cons.1 h with h | h
      · exact absurd h.symm e
      · obtain ⟨a, b, h1, h2⟩ := parts h
        exact ⟨x :: a, b, by rw [h1]; rfl, by simp [Ne.symm e, h2]⟩
/-- a query's pairs -/
def pair (p : List UInt8) : Option (List UInt8 × List UInt8) :=
  match dec (cutAt 61 p).1, dec (cutAt 61 p).2 with
  | some n, some v => some (n, v)
  | _, _ => none
def pairs : List (List UInt8) → Option (List (List UInt8 × List UInt8))
  | [] => some []
  | p :: r => if p = [] then pairs r else match pair p with | some x => (pairs r).map (x :: ·) | none => none
/-- a uri: its path, its pairs -/
structure Uri where
  path : List UInt8
  query : List (List UInt8 × List UInt8)
def parse (t : List UInt8) : Option Uri :=
  match dec (cutAt 63 t).1 with
  | some p => if t.head? = some 47 then (pairs (splits 38 (cutAt 63 t).2)).map (⟨p, ·⟩) else none
  | none => none

theorem pairs_skip (r : List (List UInt8)) : pairs ([] :: r) = pairs r := by simp [pairs]
/-- what is found one piece after the other -/
theorem pairs_cut (q : List UInt8) : pairs (splits 38 q) = pairs ((cutAt 38 q).1 :: splits 38 (cutAt 38 q).2) := by
  by_cases h : (38 : UInt8) ∈ q
  · obtain ⟨a, b, rfl, ha⟩ := parts h
    rw [splits_at ha, cutAt_at ha]
  · rw [splits_free h, cutAt_free h]
    have : splits 38 [] = [[]] := rfl
    rw [this]
    by_cases e : q = []
    · simp [pairs, e]
    · simp [pairs, e]

/-- the first place of a byte -/
theorem index_free {c : UInt8} {s : List UInt8} (h : c ∉ s) : Lib.index s [c] = -1 := by
  induction s with
  | nil => rfl
  | cons x t ih =>
    have h1 : x ≠ c := fun e => h (by simp [e])
    have h2 : c ∉ t := fun e => h (by simp [e])
    simp [Lib.index, List.isPrefixOf, Ne.symm h1, ih h2]
theorem index_at {c : UInt8} {a b : List UInt8} (h : c ∉ a) : Lib.index (a ++ c :: b) [c] = a.length := by
  induction a with
  | nil => simp [Lib.index, List.isPrefixOf]
  | cons x t ih =>
    have h1 : x ≠ c := fun e => h (by simp [e])
    have h2 : c ∉ t := fun e => h (by simp [e])
    simp [Lib.index, List.isPrefixOf, Ne.symm h1, ih h2]
    try omega
theorem cut_eq (c : UInt8) (s : List UInt8) : (Lib.cut s [c]).1 = (cutAt c s).1 ∧ (Lib.cut s [c]).2.1 = (cutAt c s).2 := by
  by_cases h : c ∈ s
  · obtain ⟨a, b, rfl, ha⟩ := parts h
    rw [cutAt_at ha]
    simp [Lib.cut, index_at ha]
  · rw [cutAt_free h]
    simp [Lib.cut, index_free h]
theorem pairs_append {l r : List (List UInt8)} : pairs (l ++ r) = match pairs l, pairs r with | some a, some b => some (a ++ b) | _, _ => none := by
  induction l with
  | nil => simp only [List.nil_append, pairs]; cases pairs r <;> rfl
  | cons p t ih =>
    simp only [List.cons_append, pairs]
    split
    · exact ih
    · cases pair p with
      | none => rfl
      | some x =>
        simp only [ih]
        cases pairs t <;> cases pairs r <;> rfl
theorem pairs_prefix_none {l r : List (List UInt8)} (h : l <+: r) (hn : pairs l = none) : pairs r = none := by
  obtain ⟨t, rfl⟩ := h
  rw [pairs_append, hn]
theorem pairs_skip1 {l : List (List UInt8)} {ps : List (List UInt8 × List UInt8)} (h : pairs l = some ps) : pairs (l ++ [[]]) = some ps := by
  rw [pairs_append, h]; simp [pairs]
theorem pairs_snoc {l : List (List UInt8)} {ps : List (List UInt8 × List UInt8)} {p n v : List UInt8} (h : pairs l = some ps) (hp : p ≠ []) (hn : dec (cutAt 61 p).1 = some n) (hv : dec (cutAt 61 p).2 = some v) : pairs (l ++ [p]) = some (ps ++ [(n, v)]) := by
  rw [pairs_append, h]; simp [pairs, hp, pair, hn, hv]
theorem pairs_fail {l : List (List UInt8)} {p : List UInt8} (hp : p ≠ []) (h : dec (cutAt 61 p).1 = none ∨ dec (cutAt 61 p).2 = none) : pairs (l ++ [p]) = none := by
  rw [pairs_append]
  have : pairs [p] = none := by
    simp only [pairs, if_neg hp, pair]
    rcases h with h | h
    · rw [h]
    · rw [h]; cases dec (cutAt 61 p).1 <;> rfl
  rw [this]
  cases pairs l <;> rfl
theorem pairs_length {l : List (List UInt8)} {ps : List (List UInt8 × List UInt8)} (h : pairs l = some ps) : ps.length ≤ l.length := by
  induction l generalizing ps with
  | nil => simp [pairs] at h; subst h; simp
  | cons p t ih =>
    simp only [pairs] at h
    split at h
    · have := ih h; simp; omega
    · split at h
      · cases hk : pairs t with
        | none => rw [hk] at h; cases h
        | some q => rw [hk] at h; simp at h; have := ih hk; subst h; simp; omega
      · cases h
theorem splits_length (c : UInt8) (s : List UInt8) : (splits c s).length ≤ s.length + 1 := by
  induction s with
  | nil => simp [splits]
  | cons x t ih =>
    unfold splits
    split
    · simp; omega
    · split
      · rename_i e; rw [e] at ih; simp at ih ⊢; omega
      · simp
theorem splits_mem_len (c : UInt8) (s : List UInt8) : ∀ p ∈ splits c s, p.length ≤ s.length := by
  induction s with
  | nil => simp [splits]
  | cons x t ih =>
    unfold splits
    split
    · intro p hp
      rcases List.mem_cons.1 hp with rfl | hp
      · simp
      · have := ih p hp; simp; omega
    · split
      · rename_i e
        rw [e] at ih
        intro p hp
        rcases List.mem_cons.1 hp with rfl | hp
        · have := ih _ List.mem_cons_self; simp; omega
        · have := ih p (List.mem_cons_of_mem _ hp); simp; omega
      · simp
end Go.Proofs.YtmimkgfkicgfiaaDoor.Up
