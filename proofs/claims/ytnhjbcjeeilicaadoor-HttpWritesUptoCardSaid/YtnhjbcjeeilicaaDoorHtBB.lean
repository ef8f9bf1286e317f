/-
  A request that is written out, as bytes: where its head ends. Plain: of no program.
-/
import Derived.Test.YtnhjbcjeeilicaaDoorHtBA
namespace Go.Proofs.YtnhjbcjeeilicaaDoor.HtBB
open Go Go.Proofs.YtnhjbcjeeilicaaDoor.Ht Go.Proofs.YtnhjbcjeeilicaaDoor.HtV Go.Proofs.YtnhjbcjeeilicaaDoor.HtBA

def colon : List UInt8 := [58, 32]
def crlf : List UInt8 := [13, 10]
/-- a field's line -/
def ln (f : Fld) : List UInt8 := f.1 ++ colon ++ f.2 ++ crlf
/-- fields' lines -/
def lns (fs : List Fld) : List UInt8 := (fs.map ln).flatten
/-- a request's first line -/
def top (m t : List UInt8) : List UInt8 := m ++ [32] ++ t ++ ([32] ++ http ++ crlf)
/-- a request, written out -/
def req (m t : List UInt8) (fs : List Fld) (bd : List UInt8) : List UInt8 := top m t ++ lns fs ++ crlf ++ bd
theorem lns_snoc (fs : List Fld) (f : Fld) : lns (fs ++ [f]) = lns fs ++ ln f := by simp [lns]

/-- lines, each with its end -/
def J (ls : List (List UInt8)) : List UInt8 := (ls.map (· ++ crlf)).flatten
theorem four_iff {s : List UInt8} {j : Nat} : Lib.occAt s crlf2 j = true ↔ s[j]? = some 13 ∧ s[j + 1]? = some 10 ∧ s[j + 2]? = some 13 ∧ s[j + 3]? = some 10 := by
  have e : ∀ l : List UInt8, List.isPrefixOf crlf2 l = true ↔ l[0]? = some 13 ∧ l[1]? = some 10 ∧ l[2]? = some 13 ∧ l[3]? = some 10 := by
    intro l
    match l with
    | [] => simp [crlf2]
    | [x] => simp [crlf2]
    | [x, y] => simp [crlf2]
    | [x, y, z] => simp [crlf2]
    | x :: y :: z :: u :: r =>
      simp only [crlf2, List.isPrefixOf, Bool.and_true, Bool.and_eq_true, beq_iff_eq, List.getElem?_cons_zero, List.getElem?_cons_succ, Option.some.injEq]
      exact ⟨fun h => ⟨h.1.symm, h.2.1.symm, h.2.2.1.symm, h.2.2.2.symm⟩, fun h => ⟨h.1.symm, h.2.1.symm, h.2.2.1.symm, h.2.2.2.symm⟩⟩
  unfold Lib.occAt
  rw [e, List.getElem?_drop, List.getElem?_drop, List.getElem?_drop, List.getElem?_drop, Nat.add_zero]
/-- where lines end, none of them empty -/
theorem ends : ∀ (ls : List (List UInt8)) (x : List UInt8), ls ≠ [] → (∀ l ∈ ls, l ≠ [] ∧ ∀ c ∈ l, c ≠ 13) →
    2 ≤ (J ls).length ∧ Lib.occAt (J ls ++ crlf ++ x) crlf2 ((J ls).length - 2) = true ∧ ∀ j, j < (J ls).length - 2 → Lib.occAt (J ls ++ crlf ++ x) crlf2 j = false
  | [], x, h, _ => absurd rfl h
  | l :: ls, x, _, hl => by
    obtain ⟨hl0, hl13⟩ := hl l (List.mem_cons_self)
    have eJ : J (l :: ls) = l ++ crlf ++ J ls := by simp [J]
    have hin : ∀ (r : List UInt8) (j : Nat), j < l.length → Lib.occAt (l ++ crlf ++ r) crlf2 j = false := by
      intro r j hj
      cases ho : Lib.occAt (l ++ crlf ++ r) crlf2 j with
      | false => rfl
      | true =>
        have := (four_iff.1 ho).1
        rw [List.append_assoc, List.getElem?_append_left hj] at this
        exact absurd rfl (hl13 13 (List.mem_of_getElem? this))
    by_cases h0 : ls = []
    · subst h0
      have eJ' : J [l] = l ++ crlf := by simp [J]
      have hlen : (J [l]).length = l.length + 2 := by rw [eJ', List.length_append]; rfl
      rw [hlen]
      refine ⟨by omega, ?_, fun j hj => ?_⟩
      · rw [four_iff, eJ', Nat.add_sub_cancel]
        have e : l ++ crlf ++ crlf ++ x = l ++ (13 :: 10 :: 13 :: 10 :: x) := by simp [crlf]
        rw [e]
        simp
      · rw [eJ', List.append_assoc]
        exact hin _ j (by omega)
    · obtain ⟨i1, i2, i3⟩ := ends ls x h0 fun k hk => hl k (List.mem_cons_of_mem _ hk)
      have hlen : (J (l :: ls)).length = l.length + 2 + (J ls).length := by rw [eJ, List.length_append, List.length_append]; rfl
      have e : J (l :: ls) ++ crlf ++ x = (l ++ crlf) ++ (J ls ++ crlf ++ x) := by rw [eJ]; simp
      have hlc : (l ++ crlf).length = l.length + 2 := by rw [List.length_append]; rfl
      have hsh : ∀ j, Lib.occAt ((l ++ crlf) ++ (J ls ++ crlf ++ x)) crlf2 (l.length + 2 + j) = Lib.occAt (J ls ++ crlf ++ x) crlf2 j := by
        intro j
        unfold Lib.occAt
        rw [← hlc, ← List.drop_drop, List.drop_left]
      rw [hlen, e]
      refine ⟨by omega, ?_, fun j hj => ?_⟩
      · rw [show l.length + 2 + (J ls).length - 2 = l.length + 2 + ((J ls).length - 2) by omega, hsh]
        exact i2
      · rcases Nat.lt_or_ge j l.length with h1 | h1
        · exact hin _ j h1
        · rcases Nat.lt_or_ge j (l.length + 2) with h2 | h2
          · cases ho : Lib.occAt ((l ++ crlf) ++ (J ls ++ crlf ++ x)) crlf2 j with
            | false => rfl
            | true =>
              exfalso
              obtain ⟨o1, o2, o3, o4⟩ := four_iff.1 ho
              obtain ⟨l', ls', rfl⟩ : ∃ l' ls', ls = l' :: ls' := by cases ls with | nil => exact absurd rfl h0 | cons a b => exact ⟨a, b, rfl⟩
              obtain ⟨g0, g13⟩ := hl l' (List.mem_cons_of_mem _ List.mem_cons_self)
              obtain ⟨c, l'', rfl⟩ : ∃ c l'', l' = c :: l'' := by cases l' with | nil => exact absurd rfl g0 | cons a b => exact ⟨a, b, rfl⟩
              have hc := g13 c List.mem_cons_self
              have e2 : (l ++ crlf) ++ (J ((c :: l'') :: ls') ++ crlf ++ x) = l ++ (13 :: 10 :: c :: (l'' ++ crlf ++ J ls' ++ crlf ++ x)) := by simp [J, crlf]
              rw [e2] at o1 o3
              rcases Nat.lt_or_ge l.length j with h3 | h3
              · obtain rfl : j = l.length + 1 := by omega
                rw [List.getElem?_append_right (by omega)] at o1
                simp at o1
              · obtain rfl : j = l.length := by omega
                rw [List.getElem?_append_right (by omega)] at o3
                simp at o3
                exact hc o3
          · obtain ⟨q, rfl⟩ : ∃ q, j = l.length + 2 + q := ⟨j - (l.length + 2), by omega⟩
            rw [hsh]
            exact i3 q (by omega)

theorem rng13 {lo hi : Int} {x : UInt8} (h : rng lo hi x = true) (hl : 13 < lo) : x ≠ 13 := by
  intro e
  subst e
  simp [rng] at h
  omega
theorem vlc13 {x : UInt8} (h : vlc x = true) : x ≠ 13 := by
  intro e
  subst e
  revert h
  decide
theorem lc13 {x : UInt8} (h : nmc x = true) : lc x ≠ 13 := by
  have hx : rng 65 90 x = true ∨ rng 97 122 x = true ∨ rng 48 57 x = true ∨ x = 45 := by
    unfold nmc upc at h
    simp only [Bool.or_eq_true, beq_iff_eq] at h
    rcases h with ((h | h) | h) | h
    · exact .inl h
    · exact .inr (.inl h)
    · exact .inr (.inr (.inl h))
    · exact .inr (.inr (.inr h))
  unfold lc upc
  by_cases hu : rng 65 90 x = true
  · rw [if_pos hu]
    intro e
    have h1 : x = 13 - 32 := by rw [← e]; simp
    subst h1
    simp [rng] at hu
  · rw [if_neg hu]
    rcases hx with h | h | h | h
    · exact absurd h hu
    · exact rng13 h (by omega)
    · exact rng13 h (by omega)
    · subst h; decide
theorem trim_mem {v : List UInt8} {x : UInt8} (h : x ∈ trim v) : x ∈ v := by
  unfold trim Lib.trimS Lib.trimLeftS Lib.trimRightS at h
  have h2 := (List.dropWhile_sublist _).subset h
  rw [List.mem_reverse] at h2
  have h3 := (List.dropWhile_sublist _).subset h2
  rwa [List.mem_reverse] at h3
theorem field_13 {l : List UInt8} {f : Fld} (h : field l = some f) : (∀ c ∈ f.1, c ≠ 13) ∧ ∀ c ∈ f.2, c ≠ 13 := by
  unfold field at h
  split at h
  · rename_i hc
    cases h
    refine ⟨fun c hm => ?_, fun c hm => ?_⟩
    · obtain ⟨x, hx, rfl⟩ := List.mem_map.1 hm
      exact lc13 (List.all_eq_true.1 hc.2.1 x hx)
    · exact vlc13 (List.all_eq_true.1 hc.2.2.2 c (trim_mem hm))
  · cases h
theorem fields_13 : ∀ {ls : List (List UInt8)} {fs : List Fld}, fields ls = some fs → ∀ f ∈ fs, (∀ c ∈ f.1, c ≠ 13) ∧ ∀ c ∈ f.2, c ≠ 13
  | [], fs, h, f, hf => by
    unfold fields at h
    cases h
    simp at hf
  | l :: ls, fs, h, f, hf => by
    unfold fields at h
    cases h1 : field l with
    | none => rw [h1] at h; cases h
    | some f' =>
      cases h2 : fields ls with
      | none => rw [h1, h2] at h; cases h
      | some fs' =>
        rw [h1, h2] at h
        cases h
        rcases List.mem_cons.1 hf with rfl | hf
        · exact field_13 h1
        · exact fields_13 h2 f hf
theorem head_13 {s m t : List UInt8} {fs : List Fld} (h : head s = .ok m t fs) : (∀ c ∈ m, c ≠ 13) ∧ (∀ c ∈ t, c ≠ 13) ∧ ∀ f ∈ fs, (∀ c ∈ f.1, c ≠ 13) ∧ ∀ c ∈ f.2, c ≠ 13 := by
  unfold head at h
  split at h
  · cases h
  · rename_i l ls _
    cases h1 : first l with
    | none => rw [h1] at h; cases h
    | some mt =>
      cases h2 : fields ls with
      | none => rw [h1, h2] at h; cases h
      | some fs' =>
        rw [h1, h2] at h
        simp only at h
        split at h
        · cases h
        · cases h
          obtain ⟨-, hm, ht⟩ := first_iff.1 (show first l = some (mt.1, mt.2) from h1)
          unfold okm at hm
          unfold okt at ht
          simp only [Bool.and_eq_true] at hm ht
          exact ⟨fun c hc => rng13 (List.all_eq_true.1 hm.2 c hc) (by omega), fun c hc => rng13 (List.all_eq_true.1 ht.2 c hc) (by omega), fields_13 h2⟩

/-- a request that is written out is as long as it is -/
theorem req_len {m t bd : List UInt8} {fs : List Fld} {n : Nat} (h : parse (req m t fs bd) = .ok m t fs bd n) : n = (req m t fs bd).length := by
  obtain ⟨i, k, h1, h2, h3, h4, h5, h6⟩ := parse_ok h
  obtain ⟨a1, a2, a3, a4⟩ := at_some h1
  obtain ⟨m13, t13, f13⟩ := head_13 h2
  obtain ⟨e1, e2, e3⟩ := ends ((m ++ [32] ++ t ++ ([32] ++ http)) :: fs.map fun f => f.1 ++ colon ++ f.2) bd (by simp) (by
    intro l hl
    rcases List.mem_cons.1 hl with rfl | hl
    · refine ⟨by simp, fun c hc => ?_⟩
      simp only [List.mem_append] at hc
      rcases hc with ((hc | hc) | hc) | hc | hc
      · exact m13 c hc
      · simp at hc; subst hc; decide
      · exact t13 c hc
      · simp at hc; subst hc; decide
      · intro e; subst e; revert hc; decide
    · obtain ⟨f, hf, rfl⟩ := List.mem_map.1 hl
      refine ⟨by simp [colon], fun c hc => ?_⟩
      simp only [List.mem_append] at hc
      rcases hc with (hc | hc) | hc
      · exact (f13 f hf).1 c hc
      · intro e; subst e; revert hc; decide
      · exact (f13 f hf).2 c hc)
  have eJ : J ((m ++ [32] ++ t ++ ([32] ++ http)) :: fs.map fun f => f.1 ++ colon ++ f.2) ++ crlf ++ bd = req m t fs bd := by
    unfold J req top lns
    rw [List.map_cons, List.flatten_cons, List.map_map]
    have : ((fun x => x ++ crlf) ∘ fun f : Fld => f.1 ++ colon ++ f.2) = ln := rfl
    rw [this]
    simp
  rw [eJ] at e2 e3
  generalize hJ : (J ((m ++ [32] ++ t ++ ([32] ++ http)) :: fs.map fun f => f.1 ++ colon ++ f.2)) = Y at *
  have hi : i = Y.length - 2 := by
    rcases Nat.lt_trichotomy i (Y.length - 2) with q | q | q
    · rw [e3 i q] at a3; cases a3
    · exact q
    · rw [a4 _ q] at e2; cases e2
  have hb : (req m t fs bd).length = Y.length + 2 + bd.length := by rw [← eJ, List.length_append, List.length_append]; rfl
  have hd : (req m t fs bd).drop (i + 4) = bd := by
    rw [← eJ]
    exact List.drop_left' (by rw [List.length_append]; have : crlf.length = 2 := rfl; omega)
  rw [hd] at h5
  have := congrArg List.length h5
  rw [List.length_take] at this
  omega
theorem req_parse {m t bd : List UInt8} {fs : List Fld} {n : Nat} (h : parse (req m t fs bd) = .ok m t fs bd n) (r : List UInt8) : parse (req m t fs bd ++ r) = .ok m t fs bd (req m t fs bd).length := by
  have h1 := parse_behind h r
  rw [req_len h, List.take_of_length_le (Nat.le_refl _)] at h1
  exact h1
end Go.Proofs.YtnhjbcjeeilicaaDoor.HtBB
