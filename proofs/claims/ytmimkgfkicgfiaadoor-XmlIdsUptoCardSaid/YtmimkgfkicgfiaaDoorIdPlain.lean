/-
  Ids as texts, plainly: three decimal numerals with '-' between. Of no program.
-/
import Derived.Lib.ItoaNum
import Derived.Lib.AtoiTie
import Derived.Lib.Split
import Derived.Lib.SplitLaws
import Derived.Test.YtmimkgfkicgfiaaDoorDec
namespace Go.Proofs.YtmimkgfkicgfiaaDoor.Ip
open Go

def isD (c : UInt8) : Bool := decide (48 ≤ c.toNat) && decide (c.toNat ≤ 57)
theorem isD_iff (c : UInt8) : isD c = true ↔ 48 ≤ c.toNat ∧ c.toNat ≤ 57 := by simp [isD]
/-- a row of digits' value -/
def val (l : List UInt8) : Nat := l.foldl (fun n c => 10 * n + (c.toNat - 48)) 0
theorem val_snoc (l : List UInt8) (c : UInt8) : val (l ++ [c]) = 10 * val l + (c.toNat - 48) := by simp [val]
/-- a numeral in its form -/
def okd (d : List UInt8) : Bool := decide (d ≠ []) && (decide (d.head? ≠ some 48) || decide (d.length = 1))
theorem okd_iff (d : List UInt8) : okd d = true ↔ d ≠ [] ∧ (d.head? ≠ some 48 ∨ d.length = 1) := by simp [okd]

theorem byte_of {c : UInt8} (h1 : 48 ≤ c.toNat) : UInt8.ofNat (48 + (c.toNat - 48)) = c := by
  rw [show 48 + (c.toNat - 48) = c.toNat by omega]; simp
theorem dec_snoc {u x : Nat} (hu : u ≠ 0) (hx : x < 10) : Lib.decDigits (10 * u + x) = Lib.decDigits u ++ [UInt8.ofNat (48 + x)] := by
  rw [Lib.decDigits, dif_neg (by omega), show (10 * u + x) / 10 = u by omega, show (10 * u + x) % 10 = x by omega]
theorem dec_val : ∀ (n : Nat) (d : List UInt8), d.length = n → (∀ c ∈ d, isD c = true) → okd d = true → Lib.decDigits (val d) = d := by
  intro n
  induction n with
  | zero => intro d hn _ hok; rw [okd_iff] at hok; exact absurd (List.eq_nil_of_length_eq_zero hn) hok.1
  | succ n ih =>
    intro d hn hd hok
    rw [okd_iff] at hok
    rcases List.eq_nil_or_concat d with rfl | ⟨l, c, rfl⟩
    · cases hn
    · rw [List.concat_eq_append] at *
      have hc := (isD_iff c).1 (hd c (by simp))
      rw [val_snoc]
      by_cases hl : l = []
      · subst hl
        show Lib.decDigits (10 * 0 + (c.toNat - 48)) = _
        rw [Nat.mul_zero, Nat.zero_add, Lib.decDigits_one (by omega), byte_of hc.1]
        rfl
      · have hh : l.head? ≠ some 48 := by
          rcases hok.2 with h | h
          · rw [List.head?_append] at h
            cases l with
            | nil => exact absurd rfl hl
            | cons a t => simpa using h
          · simp at h; exact absurd h hl
        have h1 := ih l (by simp at hn; exact hn) (fun x hx => hd x (by simp [hx])) ((okd_iff l).2 ⟨hl, .inl hh⟩)
        have h0 : val l ≠ 0 := by
          intro h
          rw [h, Lib.decDigits_one (by omega)] at h1
          rw [← h1] at hh
          exact hh rfl
        rw [dec_snoc h0 (by omega), h1, byte_of hc.1]
theorem val_dec : ∀ (n u : Nat), u ≤ n → val (Lib.decDigits u) = u ∧ okd (Lib.decDigits u) = true ∧ (u ≠ 0 → (Lib.decDigits u).head? ≠ some 48) := by
  intro n
  induction n with
  | zero =>
    intro u hu
    obtain rfl : u = 0 := by omega
    rw [Lib.decDigits_one (by omega)]
    exact ⟨by decide, by decide, fun h => absurd rfl h⟩
  | succ n ih =>
    intro u hu
    by_cases h : u < 10
    · rw [Lib.decDigits_one h]
      have hb : (UInt8.ofNat (48 + u)).toNat = 48 + u := by rw [UInt8.toNat_ofNat']; omega
      refine ⟨?_, by simp [okd], fun h0 e => ?_⟩
      · show 10 * 0 + ((UInt8.ofNat (48 + u)).toNat - 48) = u
        omega
      · have := congrArg UInt8.toNat (Option.some.inj (show some (UInt8.ofNat (48 + u)) = some 48 from e))
        rw [hb] at this
        have h48 : (48 : UInt8).toNat = 48 := rfl
        omega
    · obtain ⟨i1, i2, i3⟩ := ih (u / 10) (by omega)
      have e : Lib.decDigits u = Lib.decDigits (u / 10) ++ [UInt8.ofNat (48 + u % 10)] := by
        conv => lhs; rw [Lib.decDigits]
        rw [dif_neg h]
      have hb : (UInt8.ofNat (48 + u % 10)).toNat = 48 + u % 10 := by rw [UInt8.toNat_ofNat']; omega
      have hne := Dec.dec_pos (u / 10)
      have hhd : (Lib.decDigits u).head? ≠ some 48 := by
        rw [e, List.head?_append]
        have := i3 (by omega)
        cases hq : Lib.decDigits (u / 10) with
        | nil => rw [hq] at hne; simp at hne
        | cons a t => rw [hq] at this; simpa using this
      refine ⟨?_, (okd_iff _).2 ⟨by rw [e]; simp, .inl hhd⟩, fun _ => hhd⟩
      rw [e, val_snoc, i1, hb]
      omega
theorem dec_isD (u : Nat) : ∀ c ∈ Lib.decDigits u, isD c = true := fun c hc => (isD_iff c).2 (Dec.dec_digit u u (Nat.le_refl _) c hc)

/-- the digits with which a text begins, fourteen at most -/
def digs (s : List UInt8) : List UInt8 := (s.takeWhile isD).take 14
def rest (s : List UInt8) : List UInt8 := s.drop (digs s).length
theorem digs_rest (s : List UInt8) : digs s ++ rest s = s := by
  unfold rest digs
  obtain ⟨t, ht⟩ : List.takeWhile isD s <+: s := List.takeWhile_prefix _
  have h : List.take 14 (List.takeWhile isD s) <+: s := (List.take_prefix 14 _).trans ⟨t, ht⟩
  obtain ⟨r, hr⟩ := h
  generalize List.take 14 (List.takeWhile isD s) = d at hr
  rw [← hr, List.drop_left]
theorem digs_isD (s : List UInt8) : ∀ c ∈ digs s, isD c = true := fun c hc => by
  have := List.mem_of_mem_take hc
  have h2 := List.all_takeWhile (p := isD) (l := s)
  rw [List.all_eq_true] at h2
  exact h2 c this
theorem digs_dec {u : Nat} (h : u < 10 ^ 14) {r : List UInt8} (hr : ∀ c, r.head? = some c → isD c = false) : digs (Lib.decDigits u ++ r) = Lib.decDigits u := by
  have hl := Dec.dec_len 13 u h
  unfold digs
  have : List.takeWhile isD (Lib.decDigits u ++ r) = Lib.decDigits u := by
    rw [List.takeWhile_append_of_pos (dec_isD u)]
    cases r with
    | nil => simp
    | cons c t => simp [hr c rfl]
  rw [this, List.take_of_length_le hl]
theorem rest_dec {u : Nat} (h : u < 10 ^ 14) {r : List UInt8} (hr : ∀ c, r.head? = some c → isD c = false) : rest (Lib.decDigits u ++ r) = r := by
  unfold rest; rw [digs_dec h hr, List.drop_left]
theorem isD45 {r : List UInt8} : ∀ c, (45 :: r : List UInt8).head? = some c → isD c = false := by
  intro c hc; simp at hc; subst hc; rfl

/-- the text of an id -/
def idt (a b c : Nat) : List UInt8 := Lib.decDigits a ++ 45 :: (Lib.decDigits b ++ 45 :: Lib.decDigits c)
def good (a b c : Nat) : Prop := a ≤ 15 ∧ b ≤ 1099511627776 ∧ c ≤ 1099511627776
instance (a b c : Nat) : Decidable (good a b c) := by unfold good; infer_instance
/-- what the reference reads -/
structure Reads (s : List UInt8) (a b c : Nat) : Prop where
  ok1 : okd (digs s) = true
  a : val (digs s) = a
  m1 : (rest s).head? = some 45
  ok2 : okd (digs (rest s).tail) = true
  b : val (digs (rest s).tail) = b
  m2 : (rest (rest s).tail).head? = some 45
  ok3 : okd (digs (rest (rest s).tail).tail) = true
  c : val (digs (rest (rest s).tail).tail) = c
  done : rest (rest (rest s).tail).tail = []
theorem cons_of {l : List UInt8} (h : l.head? = some 45) : l = 45 :: l.tail := by
  cases l with
  | nil => cases h
  | cons x t => simp at h; rw [h]; rfl
theorem Reads.text {s : List UInt8} {a b c : Nat} (h : Reads s a b c) : s = idt a b c := by
  have e1 := dec_val _ _ rfl (digs_isD s) h.ok1
  have e2 := dec_val _ _ rfl (digs_isD _) h.ok2
  have e3 := dec_val _ _ rfl (digs_isD _) h.ok3
  rw [h.a] at e1; rw [h.b] at e2; rw [h.c] at e3
  have f1 := digs_rest s
  have f2 := digs_rest (rest s).tail
  have f3 := digs_rest (rest (rest s).tail).tail
  rw [h.done, List.append_nil] at f3
  rw [cons_of h.m2, ← f3, ← e2, ← e3] at f2
  rw [cons_of h.m1, ← f2, ← e1] at f1
  exact f1.symm
theorem Reads.of {a b c : Nat} (h : good a b c) : Reads (idt a b c) a b c := by
  obtain ⟨h1, h2, h3⟩ := h
  have ha : a < 10 ^ 14 := by have : (10 ^ 14 : Nat) = 100000000000000 := by decide
                              omega
  have hb : b < 10 ^ 14 := by have : (10 ^ 14 : Nat) = 100000000000000 := by decide
                              omega
  have hc : c < 10 ^ 14 := by have : (10 ^ 14 : Nat) = 100000000000000 := by decide
                              omega
  have d1 := digs_dec ha (r := 45 :: (Lib.decDigits b ++ 45 :: Lib.decDigits c)) isD45
  have r1 := rest_dec ha (r := 45 :: (Lib.decDigits b ++ 45 :: Lib.decDigits c)) isD45
  have d2 := digs_dec hb (r := 45 :: Lib.decDigits c) isD45
  have r2 := rest_dec hb (r := 45 :: Lib.decDigits c) isD45
  have d3 := digs_dec hc (r := []) (fun c h => by cases h)
  have r3 := rest_dec hc (r := []) (fun c h => by cases h)
  rw [List.append_nil] at d3 r3
  have e1 : rest (idt a b c) = 45 :: (Lib.decDigits b ++ 45 :: Lib.decDigits c) := r1
  have e2 : rest (rest (idt a b c)).tail = 45 :: Lib.decDigits c := by rw [e1]; exact r2
  have v1 := val_dec a a (Nat.le_refl _)
  have v2 := val_dec b b (Nat.le_refl _)
  have v3 := val_dec c c (Nat.le_refl _)
  refine ⟨?_, ?_, ?_, ?_, ?_, ?_, ?_, ?_, ?_⟩
  · show okd (digs (Lib.decDigits a ++ _)) = true
    rw [d1]; exact v1.2.1
  · show val (digs (Lib.decDigits a ++ _)) = a
    rw [d1]; exact v1.1
  · rw [e1]; rfl
  · rw [e1, List.tail_cons, d2]; exact v2.2.1
  · rw [e1, List.tail_cons, d2]; exact v2.1
  · rw [e2]; rfl
  · rw [e2, List.tail_cons, d3]; exact v3.2.1
  · rw [e2, List.tail_cons, d3]; exact v3.1
  · rw [e2, List.tail_cons, r3]

/-! the three words of an id's text -/
theorem free45 (u : Nat) : (45 : UInt8) ∉ Lib.decDigits u := fun h => by
  have := dec_isD u 45 h
  exact absurd this (by decide)
theorem index_free45 {s : List UInt8} (h : (45 : UInt8) ∉ s) : Lib.index s [45] = -1 := by
  induction s with
  | nil => rfl
  | cons x t ih =>
    have h1 : x ≠ 45 := fun e => h (by simp [e])
    have h2 : (45 : UInt8) ∉ t := fun e => h (by simp [e])
    simp [Lib.index, List.isPrefixOf, Ne.symm h1, ih h2]
theorem index_at45 {a b : List UInt8} (h : (45 : UInt8) ∉ a) : Lib.index (a ++ 45 :: b) [45] = a.length := by
  induction a with
  | nil => simp [Lib.index, List.isPrefixOf]
  | cons x t ih =>
    have h1 : x ≠ 45 := fun e => h (by simp [e])
    have h2 : (45 : UInt8) ∉ t := fun e => h (by simp [e])
    simp [Lib.index, List.isPrefixOf, Ne.symm h1, ih h2]
    try omega
theorem splitK_at45 {a b : List UInt8} (h : (45 : UInt8) ∉ a) (k : Nat) : Lib.splitK [45] 0 (k + 1) (a ++ 45 :: b) = a :: Lib.splitK [45] 0 k b := by
  conv => lhs; rw [Lib.splitK, index_at45 h]
  have : ¬ ((a.length : Int) == -1) = true := by simp <;> omega
  rw [if_neg this]
  simp
theorem split_idt (a b c : Nat) : Lib.split (idt a b c) [45] = [Lib.decDigits a, Lib.decDigits b, Lib.decDigits c] := by
  have hc : Lib.count (idt a b c) [45] = 2 := by
    rw [Lib.count_one]
    have f : ∀ u, List.count 45 (Lib.decDigits u) = 0 := fun u => List.count_eq_zero.2 (free45 u)
    simp [idt, f]
  unfold Lib.split
  rw [hc]
  unfold idt
  rw [splitK_at45 (free45 a), splitK_at45 (free45 b)]
  rfl

/-! numerals are read back -/
theorem digitVal_isD {c : UInt8} (h : isD c = true) : Lib.digitVal c = some (c.toNat - 48) := by
  rw [isD_iff] at h
  unfold Lib.digitVal
  rw [if_pos h]
theorem decFrom_val (l : List UInt8) (h : ∀ c ∈ l, isD c = true) : ∀ acc, Lib.decFrom acc l = some (l.foldl (fun n c => 10 * n + (c.toNat - 48)) acc) := by
  induction l with
  | nil => intro acc; rfl
  | cons c t ih =>
    intro acc
    simp only [Lib.decFrom, digitVal_isD (h c (by simp)), List.foldl_cons]
    rw [ih (fun d hd => h d (by simp [hd])), Nat.mul_comm acc 10]
theorem atoi_dec {u : Nat} (h : u < 10 ^ 14) : Lib.atoiAll (Lib.decDigits u) = Lib.NumEnd.ok (u : Int) := by
  have hl := Dec.dec_len 13 u h
  have hp := Dec.dec_pos u
  rw [Lib.atoiAll_short _ (by omega)]
  have hv := (val_dec u u (Nat.le_refl _)).1
  have hd := dec_isD u
  have hn : Lib.decNat (Lib.decDigits u) = some u := by
    unfold Lib.decNat
    have : (Lib.decDigits u).isEmpty = false := by
      cases hq : Lib.decDigits u with
      | nil => rw [hq] at hp; simp at hp
      | cons x t => rfl
    rw [this]
    simp only [Bool.false_eq_true, if_false]
    rw [decFrom_val _ hd]
    exact congrArg some hv
  have : Lib.atoi (Lib.decDigits u) = some (u : Int) := by
    cases hq : Lib.decDigits u with
    | nil => rw [hq] at hp; simp at hp
    | cons x t =>
      rw [hq] at hn hd
      have hx := (isD_iff x).1 (hd x (by simp))
      have h1 : ¬ (x == 45) = true := by
        simp only [beq_iff_eq]; rintro rfl; exact absurd hx.1 (by decide)
      have h2 : ¬ (x == 43) = true := by
        simp only [beq_iff_eq]; rintro rfl; exact absurd hx.1 (by decide)
      simp only [Lib.atoi, if_neg h1, if_neg h2, hn]
      rfl
  rw [this]
  rfl
end Go.Proofs.YtmimkgfkicgfiaaDoor.Ip
