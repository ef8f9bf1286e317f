/-
  Plain Lean, no program in sight: what the entities of a text are, what is read back of them, and that the two fit.
-/
namespace Go.Proofs.YtnhjbcjeeilicaaGreatDoor.Xp

/-- how a byte is written; the empty list: as it is -/
def ent (c : UInt8) : List UInt8 :=
  if c = 38 then [38, 97, 109, 112, 59] else if c = 60 then [38, 108, 116, 59] else if c = 62 then [38, 103, 116, 59] else
  if c = 34 then [38, 113, 117, 111, 116, 59] else if c = 39 then [38, 97, 112, 111, 115, 59] else []
def escB (c : UInt8) : List UInt8 := if ent c = [] then [c] else ent c
def esc (l : List UInt8) : List UInt8 := l.flatMap escB
def cand : List UInt8 := [38, 60, 62, 34, 39]
/-- one byte read back -/
def un1 (s : List UInt8) : Option (UInt8 × List UInt8) := match s with
  | [] => none
  | c :: t => if c ≠ 38 then (if ent c ≠ [] then none else some (c, t)) else
      cand.findSome? fun d => if (ent d).isPrefixOf (c :: t) then some (d, (c :: t).drop (ent d).length) else none
def unF : Nat → List UInt8 → List UInt8 → Option (List UInt8)
  | _, [], acc => some acc
  | 0, _ :: _, _ => none
  | n + 1, c :: t, acc => match un1 (c :: t) with
    | none => none
    | some (d, r) => unF n r (acc ++ [d])
def unesc (s : List UInt8) : Option (List UInt8) := unF s.length s []

theorem ent_cases (d : UInt8) : (d = 38 ∧ ent d = [38, 97, 109, 112, 59]) ∨ (d = 60 ∧ ent d = [38, 108, 116, 59]) ∨ (d = 62 ∧ ent d = [38, 103, 116, 59]) ∨
    (d = 34 ∧ ent d = [38, 113, 117, 111, 116, 59]) ∨ (d = 39 ∧ ent d = [38, 97, 112, 111, 115, 59]) ∨ (d ≠ 38 ∧ d ≠ 60 ∧ d ≠ 62 ∧ d ≠ 34 ∧ d ≠ 39 ∧ ent d = []) := by
  by_cases h1 : d = 38
  · subst h1; exact .inl ⟨rfl, rfl⟩
  by_cases h2 : d = 60
  · subst h2; exact .inr (.inl ⟨rfl, rfl⟩)
  by_cases h3 : d = 62
  · subst h3; exact .inr (.inr (.inl ⟨rfl, rfl⟩))
  by_cases h4 : d = 34
  · subst h4; exact .inr (.inr (.inr (.inl ⟨rfl, rfl⟩)))
  by_cases h5 : d = 39
  · subst h5; exact .inr (.inr (.inr (.inr (.inl ⟨rfl, rfl⟩))))
  · exact .inr (.inr (.inr (.inr (.inr ⟨h1, h2, h3, h4, h5, by simp [ent, h1, h2, h3, h4, h5]⟩))))

theorem escB_plain {d : UInt8} (h : ent d = []) : escB d = [d] := by simp [escB, h]
theorem escB_ent {d : UInt8} (h : ent d ≠ []) : escB d = ent d := by simp [escB, h]
theorem escB_len (d : UInt8) : 1 ≤ (escB d).length ∧ (escB d).length ≤ 6 := by
  rcases ent_cases d with ⟨rfl, e⟩ | ⟨rfl, e⟩ | ⟨rfl, e⟩ | ⟨rfl, e⟩ | ⟨rfl, e⟩ | ⟨_, _, _, _, _, e⟩ <;> simp [escB, e]
theorem esc_nil : esc [] = [] := rfl
theorem esc_append (a b : List UInt8) : esc (a ++ b) = esc a ++ esc b := by simp [esc]
theorem esc_snoc (a : List UInt8) (c : UInt8) : esc (a ++ [c]) = esc a ++ escB c := by simp [esc]
theorem esc_cons (c : UInt8) (a : List UInt8) : esc (c :: a) = escB c ++ esc a := by simp [esc]
theorem esc_len (l : List UInt8) : (esc l).length ≤ 6 * l.length := by
  induction l with
  | nil => simp [esc]
  | cons c t ih => have := (escB_len c).2; rw [esc_cons]; simp; omega

theorem un1_hit {s : List UInt8} {d : UInt8} (h : (escB d).isPrefixOf s = true) : un1 s = some (d, s.drop (escB d).length) := by
  rw [List.isPrefixOf_iff_prefix] at h
  obtain ⟨r, rfl⟩ := h
  rcases ent_cases d with ⟨rfl, e⟩ | ⟨rfl, e⟩ | ⟨rfl, e⟩ | ⟨rfl, e⟩ | ⟨rfl, e⟩ | ⟨h1, _, _, _, _, e⟩
  · rfl
  · rfl
  · rfl
  · rfl
  · rfl
  · simp [escB_plain e, un1, h1, e]
theorem un1_miss {s : List UInt8} (h : ∀ d, (escB d).isPrefixOf s = false) : un1 s = none := by
  match s with
  | [] => rfl
  | c :: t =>
    by_cases h38 : c = 38
    · subst h38
      have e1 := h 38; have e2 := h 60; have e3 := h 62; have e4 := h 34; have e5 := h 39
      rw [escB_ent (by decide)] at e1 e2 e3 e4 e5
      simp only [un1, ne_eq, not_true_eq_false, if_false, cand, List.findSome?, e1, e2, e3, e4, e5]
      rfl
    · by_cases he : ent c = []
      · have := h c
        rw [escB_plain he] at this
        simp at this
      · simp [un1, h38, he]
theorem un1_lt {s : List UInt8} {d : UInt8} {r : List UInt8} (h : un1 s = some (d, r)) : r.length < s.length := by
  by_cases hx : ∃ x, (escB x).isPrefixOf s = true
  · obtain ⟨x, hx⟩ := hx
    rw [un1_hit hx] at h
    injection h with h
    injection h with _ h
    subst h
    have := (escB_len x).1
    rw [List.isPrefixOf_iff_prefix] at hx
    have := hx.length_le
    simp; omega
  · rw [un1_miss (fun d => Bool.eq_false_iff.2 fun h => hx ⟨d, h⟩)] at h
    cases h

theorem unF_step {n : Nat} {s acc : List UInt8} {d : UInt8} {r : List UInt8} (h : un1 s = some (d, r)) : unF (n + 1) s acc = unF n r (acc ++ [d]) := by
  cases s with
  | nil => cases h
  | cons c t => simp [unF, h]
theorem unF_stop {n : Nat} {s acc : List UInt8} (hs : s ≠ []) (h : un1 s = none) : unF n s acc = none := by
  cases s with
  | nil => exact absurd rfl hs
  | cons c t => cases n <;> simp [unF, h]
theorem unF_nil (n : Nat) (acc : List UInt8) : unF n [] acc = some acc := by cases n <;> rfl

theorem unF_esc (l : List UInt8) : ∀ (n : Nat) (acc : List UInt8), l.length ≤ n → unF n (esc l) acc = some (acc ++ l) := by
  induction l with
  | nil => intro n acc _; simp [esc, unF_nil]
  | cons c t ih =>
    intro n acc hn
    obtain ⟨m, rfl⟩ : ∃ m, n = m + 1 := ⟨n - 1, by simp at hn; omega⟩
    rw [esc_cons, unF_step (un1_hit (by rw [List.isPrefixOf_iff_prefix]; exact ⟨_, rfl⟩)), List.drop_left, ih m _ (by simp at hn; omega)]
    simp
theorem esc_len_ge (l : List UInt8) : l.length ≤ (esc l).length := by
  induction l with
  | nil => simp
  | cons c t ih => have := (escB_len c).1; rw [esc_cons]; simp; omega
theorem unesc_esc (l : List UInt8) : unesc (esc l) = some l := by
  simpa [unesc] using unF_esc l (esc l).length [] (esc_len_ge l)
theorem unF_len : ∀ (n : Nat) (s acc x : List UInt8), unF n s acc = some x → x.length ≤ acc.length + s.length := by
  intro n
  induction n with
  | zero => intro s acc x h; cases s <;> simp [unF] at h; subst h; simp
  | succ n ih =>
    intro s acc x h
    cases s with
    | nil => simp [unF] at h; subst h; simp
    | cons c t =>
      cases hu : un1 (c :: t) with
      | none => simp [unF, hu] at h
      | some p =>
        obtain ⟨d, r⟩ := p
        rw [unF_step hu] at h
        have := ih _ _ _ h
        have := un1_lt hu
        simp at *; omega

/-- no byte of an escaped text is one of < > and the two quotes -/
theorem esc_clean (l : List UInt8) : ∀ c ∈ esc l, c ≠ 60 ∧ c ≠ 62 ∧ c ≠ 34 ∧ c ≠ 39 := by
  intro c hc
  simp only [esc, List.mem_flatMap] at hc
  obtain ⟨d, _, hd⟩ := hc
  rcases ent_cases d with ⟨rfl, e⟩ | ⟨rfl, e⟩ | ⟨rfl, e⟩ | ⟨rfl, e⟩ | ⟨rfl, e⟩ | ⟨h1, h2, h3, h4, h5, e⟩
  all_goals (simp [escB, e] at hd)
  all_goals first | (rcases hd with rfl | rfl | rfl | rfl | rfl | rfl <;> decide) | (rcases hd with rfl | rfl | rfl | rfl | rfl <;> decide) | (rcases hd with rfl | rfl | rfl | rfl <;> decide) | (subst hd; exact ⟨h2, h3, h4, h5⟩)

/-- an element -/
def tag (name s : List UInt8) : List UInt8 := [60] ++ name ++ [62] ++ s ++ [60, 47] ++ name ++ [62]
theorem un1_38 {t : List UInt8} (h : ∀ j, j < 5 → (ent (cand.getD j 0)).isPrefixOf (38 :: t) = false) : un1 (38 :: t) = none := by
  have e1 := h 0 (by omega); have e2 := h 1 (by omega); have e3 := h 2 (by omega); have e4 := h 3 (by omega); have e5 := h 4 (by omega)
  simp only [cand, List.getD_cons_zero, List.getD_cons_succ] at e1 e2 e3 e4 e5
  simp only [un1, ne_eq, not_true_eq_false, if_false, cand, List.findSome?, e1, e2, e3, e4, e5]
  rfl
theorem cand_ent {j : Nat} (h : j < 5) : ent (cand.getD j 0) ≠ [] := by
  match j, h with
  | 0, _ => decide
  | 1, _ => decide
  | 2, _ => decide
  | 3, _ => decide
  | 4, _ => decide
theorem esc_one (d : UInt8) : esc [d] = escB d := by simp [esc]
theorem prefix_at {s e : List UInt8} {a : Nat} (h : e.isPrefixOf (s.drop a) = true) (ha : a ≤ s.length) : a + e.length ≤ s.length ∧ (s.take (a + e.length)).drop a = e := by
  rw [List.isPrefixOf_iff_prefix] at h
  have hl := h.length_le
  rw [List.length_drop] at hl
  refine ⟨by omega, ?_⟩
  rw [List.drop_take, Nat.add_sub_cancel_left]
  exact (List.prefix_iff_eq_take.1 h).symm
theorem prefix_of {s e : List UInt8} {a : Nat} (h : (s.take (a + e.length)).drop a = e) : e.isPrefixOf (s.drop a) = true := by
  rw [List.isPrefixOf_iff_prefix, List.prefix_iff_eq_take]
  rw [List.drop_take, Nat.add_sub_cancel_left] at h
  exact h.symm
def top : List UInt8 := [60, 63, 120, 109, 108, 32, 118, 101, 114, 115, 105, 111, 110, 61, 34, 49, 46, 48, 34, 63, 62, 10]
def docError (code : List UInt8) : List UInt8 := top ++ tag [69, 114, 114, 111, 114] (tag [67, 111, 100, 101] (esc code))
theorem tag_len (name s : List UInt8) : (tag name s).length = 2 * name.length + s.length + 5 := by simp [tag]; omega
theorem docError_alive : docError [97, 60, 98] = [60, 63, 120, 109, 108, 32, 118, 101, 114, 115, 105, 111, 110, 61, 34, 49, 46, 48, 34, 63, 62, 10, 60, 69, 114, 114, 111, 114, 62, 60, 67, 111, 100, 101, 62, 97, 38, 108, 116, 59, 98, 60, 47, 67, 111, 100, 101, 62, 60, 47, 69, 114, 114, 111, 114, 62] := rfl
/-- an entry of a page -/
structure Ent where
  name : List UInt8
  pre : Bool
  size : Int
  etag : List UInt8
  time : Int
def tName : List UInt8 := [78, 97, 109, 101]
def tPrefix : List UInt8 := [80, 114, 101, 102, 105, 120]
def tKey : List UInt8 := [75, 101, 121]
def tSize : List UInt8 := [83, 105, 122, 101]
def tEtag : List UInt8 := [69, 116, 97, 103]
def tTime : List UInt8 := [84, 105, 109, 101]
def tNext : List UInt8 := [78, 101, 120, 116]
def tList : List UInt8 := [76, 105, 115, 116]
def tBucket : List UInt8 := [66, 117, 99, 107, 101, 116]
def entKey (num : Int → List UInt8) (e : Ent) : List UInt8 := tag tName (esc e.name) ++ (tag tSize (num e.size) ++ (tag tEtag (esc e.etag) ++ tag tTime (num e.time)))
def entDoc (num : Int → List UInt8) (e : Ent) : List UInt8 := if e.pre then tag tPrefix (tag tName (esc e.name)) else tag tKey (entKey num e)
def listBody (num : Int → List UInt8) (bucket : List UInt8) (es : List Ent) (next : List UInt8) : List UInt8 :=
  tag tBucket (esc bucket) ++ ((es.map (entDoc num)).flatten ++ (if next = [] then [] else tag tNext (esc next)))
def docList (num : Int → List UInt8) (bucket : List UInt8) (es : List Ent) (next : List UInt8) : List UInt8 := top ++ tag tList (listBody num bucket es next)
end Go.Proofs.YtnhjbcjeeilicaaGreatDoor.Xp
