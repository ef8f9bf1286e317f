/-
  The document's parser of requests: fields of lines, and how long a body is, one by one. Plain: of no program.
-/
import Derived.Test.YtnhjbcjeeilicaaGreatDoorHtBA
import Derived.Laws.BitsLemmas
namespace Go.Proofs.YtnhjbcjeeilicaaGreatDoor.HtBC
open Go Go.Proofs.YtnhjbcjeeilicaaGreatDoor.Ht Go.Proofs.YtnhjbcjeeilicaaGreatDoor.HtV Go.Proofs.YtnhjbcjeeilicaaGreatDoor.HtBA

/-- a line's field, empty where it is none -/
def gf (l : List UInt8) : Fld := (field l).getD ([], [])
def fine (l : List UInt8) : Bool := (field l).isSome
theorem gf_some {l : List UInt8} {f : Fld} (h : field l = some f) : gf l = f ∧ fine l = true := by unfold gf fine; rw [h]; exact ⟨rfl, rfl⟩
theorem gf_none {l : List UInt8} (h : field l = none) : gf l = ([], []) ∧ fine l = false := by unfold gf fine; rw [h]; exact ⟨rfl, rfl⟩
theorem fields_all : ∀ ls : List (List UInt8), fields ls = if ls.all fine = true then some (ls.map gf) else none
  | [] => rfl
  | l :: ls => by
    unfold fields
    rw [fields_all ls]
    cases h : field l with
    | none => rw [List.all_cons, (gf_none h).2]; rfl
    | some f =>
      rw [List.all_cons, (gf_some h).2, Bool.true_and, List.map_cons, (gf_some h).1]
      by_cases h2 : ls.all fine = true
      · rw [if_pos h2, if_pos h2]
      · rw [if_neg h2, if_neg h2]
theorem all_snoc {ls : List (List UInt8)} {k : Nat} {l : List UInt8} (h : ls[k]? = some l) : (ls.take (k + 1)).all fine = ((ls.take k).all fine && fine l) := by
  rw [List.take_add_one, h, List.all_append]
  simp
theorem map_snoc {ls : List (List UInt8)} {k : Nat} {l : List UInt8} (h : ls[k]? = some l) : (ls.take (k + 1)).map gf = (ls.take k).map gf ++ [gf l] := by
  rw [List.take_add_one, h, List.map_append]
  rfl
/-- a head's answer, by its parts -/
theorem head_parts {s l : List UInt8} {ls : List (List UInt8)} (h : split [13, 10] s = l :: ls) : head s = match first l with
    | none => .no .bad
    | some mt => if ls.all fine = true then (if 32 < ls.length then .no .large else .ok mt.1 mt.2 (ls.map gf)) else .no .bad := by
  unfold head
  rw [h]
  simp only
  rw [fields_all]
  cases first l with
  | none => rfl
  | some mt =>
    simp only
    by_cases h2 : ls.all fine = true
    · rw [if_pos h2, if_pos h2]
      simp
    · rw [if_neg h2, if_neg h2]

theorem cnt_snoc {fs : List Fld} {k : Nat} {f : Fld} (h : fs[k]? = some f) (n : List UInt8) : cnt (fs.take (k + 1)) n = cnt (fs.take k) n + (if f.1 = n then 1 else 0) := by
  unfold cnt
  rw [List.take_add_one, h, List.filter_append, List.length_append]
  by_cases e : f.1 = n <;> simp [e]
theorem cnt_le {fs : List Fld} (k : Nat) (n : List UInt8) : cnt (fs.take k) n ≤ cnt fs n := by
  unfold cnt
  exact ((List.take_sublist k fs).filter _).length_le
theorem get_snoc_ne {fs : List Fld} {k : Nat} {f : Fld} (h : fs[k]? = some f) {n : List UInt8} (hn : f.1 ≠ n) : Ht.get (fs.take (k + 1)) n = Ht.get (fs.take k) n := by
  unfold Ht.get
  rw [List.take_add_one, h, List.find?_append]
  have : List.find? (fun g : Fld => g.1 == n) (some f).toList = none := by simp [hn]
  rw [this, Option.or_none]
theorem get_none {fs : List Fld} {n : List UInt8} (h : cnt fs n = 0) : Ht.get fs n = none := by
  unfold cnt at h
  unfold Ht.get
  rw [List.length_eq_zero_iff, List.filter_eq_nil_iff] at h
  rw [List.find?_eq_none.2 h]
  rfl
theorem get_snoc_eq {fs : List Fld} {k : Nat} {f : Fld} (h : fs[k]? = some f) (h0 : cnt (fs.take k) f.1 = 0) : Ht.get (fs.take (k + 1)) f.1 = some f.2 := by
  have := get_none h0
  unfold Ht.get at this ⊢
  rw [Option.map_eq_none_iff] at this
  rw [List.take_add_one, h, List.find?_append, this]
  simp

def good (s : List UInt8) : Prop := 1 ≤ s.length ∧ s.length ≤ 9 ∧ allR 48 57 s = true
/-- the body's length so far -/
structure Sg (fs : List Fld) (k : Nat) (len : Nat) (ok : Bool) (z : Int) : Prop where
  ne : cnt (fs.take k) Ht.te = 0
  num : len = cnt (fs.take k) cl
  none : len = 0 → ok = true ∧ z = 0
  one : len = 1 → ∃ s, Ht.get (fs.take k) cl = some s ∧ (ok = true ↔ good s) ∧ (ok = true → z = dec s)
theorem Sg.start (fs : List Fld) : Sg fs 0 0 true 0 := ⟨rfl, rfl, fun _ => ⟨rfl, rfl⟩, fun h => by cases h⟩
theorem Sg.bad {fs : List Fld} {k : Nat} {f : Fld} (h : fs[k]? = some f) (e : f.1 = Ht.te) : Ht.size fs = .no .bad := by
  unfold Ht.size
  refine if_pos (.inl ?_)
  have h1 := cnt_snoc h Ht.te
  have h2 := cnt_le (fs := fs) (k + 1) Ht.te
  rw [if_pos e] at h1
  omega
theorem Sg.skip {fs : List Fld} {k len : Nat} {ok : Bool} {z : Int} (g : Sg fs k len ok z) {f : Fld} (h : fs[k]? = some f) (e1 : f.1 ≠ Ht.te) (e2 : f.1 ≠ cl) : Sg fs (k + 1) len ok z := by
  refine ⟨?_, ?_, g.none, fun hl => ?_⟩
  · rw [cnt_snoc h, if_neg e1, g.ne]
  · rw [cnt_snoc h, if_neg e2, g.num]; rfl
  · rw [get_snoc_ne h e2]; exact g.one hl
theorem Sg.more {fs : List Fld} {k len : Nat} {ok : Bool} {z : Int} (g : Sg fs k len ok z) {f : Fld} (h : fs[k]? = some f) (e : f.1 = cl) {ok' : Bool} {z' : Int} (h2 : len = 0 → (ok' = true ↔ good f.2) ∧ (ok' = true → z' = dec f.2)) : Sg fs (k + 1) (len + 1) ok' z' := by
  refine ⟨?_, ?_, (fun hl => by cases hl), fun hl => ?_⟩
  · rw [cnt_snoc h, if_neg (by rw [e]; decide), g.ne]
  · rw [cnt_snoc h, if_pos e, g.num]
  · have h0 : len = 0 := by omega
    have := get_snoc_eq h (by rw [e, ← g.num, h0])
    rw [e] at this
    exact ⟨f.2, this, h2 h0⟩
theorem Sg.fin_bad {fs : List Fld} {len : Nat} {ok : Bool} {z : Int} (g : Sg fs fs.length len ok z) (h : ok = false ∨ 1 < len) : Ht.size fs = .no .bad := by
  have hl := g.num
  have ht := g.ne
  have h1 := g.one
  have h0 := g.none
  rw [List.take_of_length_le (Nat.le_refl _)] at hl ht h1
  unfold Ht.size
  by_cases hc : 1 < cnt fs cl
  · exact if_pos (.inr hc)
  · rw [if_neg (by omega)]
    rcases h with h | h
    · rcases Nat.lt_or_ge 0 len with h3 | h3
      · obtain ⟨s, e1, e2, _⟩ := h1 (by omega)
        rw [e1]
        simp only
        refine if_neg fun hg => ?_
        rw [e2.2 hg] at h
        cases h
      · rw [(h0 (by omega)).1] at h; cases h
    · omega
theorem Sg.fin_ok {fs : List Fld} {len : Nat} {z : Int} (g : Sg fs fs.length len true z) (h : ¬ 1 < len) : 0 ≤ z ∧ Ht.size fs = if 1024 < z then .no .large else .ok z.toNat := by
  have hl := g.num
  have ht := g.ne
  have h1 := g.one
  have h0 := g.none
  rw [List.take_of_length_le (Nat.le_refl _)] at hl ht h1
  unfold Ht.size
  rw [if_neg (by omega)]
  rcases Nat.lt_or_ge 0 len with h3 | h3
  · obtain ⟨s, e1, e2, e3⟩ := h1 (by omega)
    obtain rfl := e3 rfl
    have hg : 1 ≤ s.length ∧ s.length ≤ 9 ∧ allR 48 57 s = true := e2.1 rfl
    rw [e1]
    simp only
    rw [if_pos hg]
    refine ⟨by omega, ?_⟩
    by_cases h5 : 1024 < dec s
    · rw [if_pos h5, if_pos (by omega)]
    · rw [if_neg h5, if_neg (by omega)]; rfl
  · obtain ⟨-, rfl⟩ := h0 (by omega)
    rw [get_none (by omega)]
    exact ⟨by omega, rfl⟩
/-- a number's digits so far -/
structure Dg (s : List UInt8) (i : Nat) (p : Prop) (ok : Bool) (z : Int) : Prop where
  le : i ≤ s.length
  yn : p → (ok = true ↔ 1 ≤ s.length ∧ s.length ≤ 9 ∧ allR 48 57 (s.take i) = true)
  val : p → ok = true → z = dec (s.take i)
theorem dec_snoc (l : List UInt8) (c : UInt8) : dec (l ++ [c]) = dec l * 10 + (c.toNat - 48) := by simp [dec]
theorem dec_lt {l : List UInt8} (h : allR 48 57 l = true) : dec l < 10 ^ l.length := by
  have : ∀ (n : Nat) (l : List UInt8), l.length = n → allR 48 57 l = true → dec l < 10 ^ l.length := by
    intro n
    induction n with
    | zero => intro l hl _; rw [List.eq_nil_of_length_eq_zero hl]; decide
    | succ n ih =>
      intro l hl h
      obtain ⟨r, c, rfl⟩ : ∃ r c, l = r ++ [c] := ⟨l.dropLast, l.getLast (by intro e; subst e; cases hl), (List.dropLast_concat_getLast _).symm⟩
      have hl' : r.length = n := by simpa using hl
      have hr : allR 48 57 r = true ∧ rng 48 57 c = true := by
        unfold allR at h
        rw [List.all_append] at h
        simpa [allR] using h
      have h2 := ih r hl' hr.1
      have hc : c.toNat ≤ 57 := by
        have := hr.2
        simp [rng] at this
        omega
      rw [dec_snoc, List.length_append, List.length_cons, List.length_nil, Nat.zero_add, Nat.pow_succ]
      omega
  exact this _ l rfl h
theorem Dg.start {s : List UInt8} {p : Prop} {ok : Bool} {z : Int} (h : p → ok = true ∧ z = 0) : Dg s 0 p (ok && decide (1 ≤ s.length) && decide (s.length ≤ 9)) z := by
  refine ⟨Nat.zero_le _, fun hp => ?_, fun hp _ => ?_⟩
  · rw [(h hp).1]
    simp [allR]
  · rw [(h hp).2]; rfl
theorem all_take {s : List UInt8} {i : Nat} {c : UInt8} (h : s[i]? = some c) : allR 48 57 (s.take (i + 1)) = (allR 48 57 (s.take i) && rng 48 57 c) := by
  unfold allR
  rw [List.take_add_one, h, List.all_append]
  simp
theorem Dg.yes {s : List UInt8} {i : Nat} {p : Prop} {z z' : Int} (g : Dg s i p true z) {c : UInt8} (h : s[i]? = some c) (hc : rng 48 57 c = true) (hz : z' = (IntKind.i64).wrap ((IntKind.i64).wrap (10 * z) + ((c.toNat : Int) - 48))) : Dg s (i + 1) p true z' := by
  have hil := (List.getElem?_eq_some_iff.1 h).1
  refine ⟨hil, fun hp => ?_, fun hp _ => ?_⟩
  · rw [all_take h, hc, Bool.and_true]
    exact g.yn hp
  · obtain ⟨g1, g2, g3⟩ := (g.yn hp).1 rfl
    have e := g.val hp rfl
    have hd := dec_lt g3
    have hlt : dec (s.take i) < 1000000000 := Nat.lt_of_lt_of_le hd (Nat.le_trans (Nat.pow_le_pow_right (n := 10) (j := 9) (by omega) (by rw [List.length_take]; omega)) (by decide))
    clear hd
    have h48 : 48 ≤ c.toNat ∧ c.toNat ≤ 57 := by
      simp [rng] at hc
      omega
    have hs : s.take (i + 1) = s.take i ++ [c] := by rw [List.take_add_one, h]; rfl
    rw [hs, dec_snoc, hz, e]
    generalize dec (s.take i) = D at *
    rw [IntKind.wrap_i64, IntKind.wrap_i64]
    omega
theorem Dg.no {s : List UInt8} {i : Nat} {p : Prop} {z' : Int} {c : UInt8} (h : s[i]? = some c) (hc : rng 48 57 c = false) : Dg s (i + 1) p false z' := by
  refine ⟨(List.getElem?_eq_some_iff.1 h).1, fun _ => ?_, fun _ hk => by cases hk⟩
  rw [all_take h, hc, Bool.and_false]
  simp
theorem Dg.fin {s : List UInt8} {i : Nat} {p : Prop} {ok : Bool} {z : Int} (g : Dg s i p ok z) (h : i = s.length ∨ ok = false) (hp : p) : (ok = true ↔ good s) ∧ (ok = true → z = dec s) := by
  have h1 := g.yn hp
  have h2 := g.val hp
  have mono : allR 48 57 s = true → allR 48 57 (s.take i) = true := fun h => List.all_eq_true.2 fun x hx => List.all_eq_true.1 h x (List.mem_of_mem_take hx)
  rcases h with rfl | rfl
  · rw [List.take_of_length_le (Nat.le_refl _)] at h1 h2
    exact ⟨h1, h2⟩
  · refine ⟨Iff.intro (fun h => by cases h) (fun hg => ?_), fun h => by cases h⟩
    exact h1.2 ⟨hg.1, hg.2.1, mono hg.2.2⟩
end Go.Proofs.YtnhjbcjeeilicaaGreatDoor.HtBC
