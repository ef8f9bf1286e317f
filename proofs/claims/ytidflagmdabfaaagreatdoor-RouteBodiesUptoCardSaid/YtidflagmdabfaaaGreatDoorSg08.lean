/-
  Ids as texts, plainly: three decimal numerals with '-' between. Of no program. Plain: numbers' texts, digits of base 16. The walks of package mac's Derive and Same. The methods of a strings.Builder that a call has made itself, at this seat's numbers: copyCheck, WriteByte, WriteString. (The shelf's own layings of these three do not fit: copyCheck's last branch is refused by the loader at this translation.)
-/
import Derived.Test.YtidflagmdabfaaaGreatDoorSg07
import Derived.Lib.ItoaNum
import Derived.Lib.AtoiTie
import Derived.Lib.Split
import Derived.Lib.SplitLaws
import Derived.Lib.AtoiErrMem
import Derived.Test.YtidflagmdabfaaaGreatDoorProg
import Derived.Shelf.RegionOpenPlain
import Derived.Lib.Strings
import Derived.Lib.Slices
import Derived.Lib.Walk
import Derived.Lib.Builder
import Derived.Lib.AppendStr
import Derived.Lib.UnsafeStr
import Derived.WalkKit
import Derived.Laws.Externs
import Derived.Lib.Hide
namespace Go.Proofs.YtidflagmdabfaaaGreatDoor.Ip
open Go

def isD (c : UInt8) : Bool := decide (48 ≤ c.toNat) && decide (c.toNat ≤ 57)
theorem isD_iff (c : UInt8) : isD c = true ↔ 48 ≤ c.toNat ∧ c.toNat ≤ 57 := by simp [isD]
/-- a row of digits' value -/
def val (l : List UInt8) : Nat := l.foldl (fun n c => 10 * n + (c.toNat - 48)) 0
theorem val_snoc (l : List UInt8) (c : UInt8) : val (l ++ [c]) = 10 * val l + (c.toNat - 48) := by simp [val]
/-- a numeral in its form -/
def okd (d : List UInt8) : Bool := decide (d ≠ []) && (decide (d.head? ≠ some 48) || decide (d.length = 1))
theorem okd_iff (d : List UInt8) : okd d = true ↔ d ≠ [] ∧ (d.head? ≠ some 48 ∨ d.length = 1) := by simp [okd]

theorem byte_of {c : UInt8} (h1 : 48 ≤ c.toNat) : UInt8.ofNat (48 + (c.toNat - 48)) = c := by
  rw [show 48 + (c.toNat - 48) = c.toNat by omega]; simp
theorem dec_snoc {u x : Nat} (hu : u ≠ 0) (hx : x < 10) : Lib.decDigits (10 * u + x) = Lib.decDigits u ++ [UInt8.ofNat (48 + x)] := by
  rw [Lib.decDigits, dif_neg (by omega), show (10 * u + x) / 10 = u by omega, show (10 * u + x) % 10 = x by omega]
theorem dec_val : ∀ (n : Nat) (d : List UInt8), d.length = n → (∀ c ∈ d, isD c = true) → okd d = true → Lib.decDigits (val d) = d := by
  intro n
  induction n with
  | zero => intro d hn _ hok; rw [okd_iff] at hok; exact absurd (List.eq_nil_of_length_eq_zero hn) hok.1
  | succ n ih =>
    intro d hn hd hok
    rw [okd_iff] at hok
    rcases List.eq_nil_or_concat d with rfl | ⟨l, c, rfl⟩
    · cases hn
    · rw [List.concat_eq_append] at *
      have hc := (isD_iff c).1 (hd c (by simp))
      rw [val_snoc]
      by_cases hl : l = []
      · subst hl
        show Lib.decDigits (10 * 0 + (c.toNat - 48)) = _
        rw [Nat.mul_zero, Nat.zero_add, Lib.decDigits_one (by omega), byte_of hc.1]
        rfl
      · have hh : l.head? ≠ some 48 := by
          rcases hok.2 with h | h
          · rw [List.head?_append] at h
            cases l with
            | nil => exact absurd rfl hl
            | cons a t => simpa using h
          · simp at h; exact absurd h hl
        have h1 := ih l (by simp at hn; exact hn) (fun x hx => hd x (by simp [hx])) ((okd_iff l).2 ⟨hl, .inl hh⟩)
        have h0 : val l ≠ 0 := by
          intro h
          rw [h, Lib.decDigits_one (by omega)] at h1
          rw [← h1] at hh
          exact hh rfl
        rw [dec_snoc h0 (by omega), h1, byte_of hc.1]
theorem val_dec : ∀ (n u : Nat), u ≤ n → val (Lib.decDigits u) = u ∧ okd (Lib.decDigits u) = true ∧ (u ≠ 0 → (Lib.decDigits u).head? ≠ some 48) := by
  intro n
  induction n with
  | zero =>
    intro u hu
    obtain rfl : u = 0 := by omega
    rw [Lib.decDigits_one (by omega)]
    exact ⟨by decide, by decide, fun h => absurd rfl h⟩
  | succ n ih =>
    intro u hu
    by_cases h : u < 10
    · rw [Lib.decDigits_one h]
      have hb : (UInt8.ofNat (48 + u)).toNat = 48 + u := by rw [UInt8.toNat_ofNat']; omega
      refine ⟨?_, by simp [okd], fun h0 e => ?_⟩
      · show 10 * 0 + ((UInt8.ofNat (48 + u)).toNat - 48) = u
        omega
      · have := congrArg UInt8.toNat (Option.some.inj (show some (UInt8.ofNat (48 + u)) = some 48 from e))
        rw [hb] at this
        have h48 : (48 : UInt8).toNat = 48 := rfl
        omega
    · obtain ⟨i1, i2, i3⟩ := ih (u / 10) (by omega)
      have e : Lib.decDigits u = Lib.decDigits (u / 10) ++ [UInt8.ofNat (48 + u % 10)] := by
        conv => lhs; rw [Lib.decDigits]
        rw [dif_neg h]
      have hb : (UInt8.ofNat (48 + u % 10)).toNat = 48 + u % 10 := by rw [UInt8.toNat_ofNat']; omega
      have hne := Dec.dec_pos (u / 10)
      have hhd : (Lib.decDigits u).head? ≠ some 48 := by
        rw [e, List.head?_append]
        have := i3 (by omega)
        cases hq : Lib.decDigits (u / 10) with
        | nil => rw [hq] at hne; simp at hne
        | cons a t => rw [hq] at this; simpa using this
      refine ⟨?_, (okd_iff _).2 ⟨by rw [e]; simp, .inl hhd⟩, fun _ => hhd⟩
      rw [e, val_snoc, i1, hb]
      omega
theorem dec_isD (u : Nat) : ∀ c ∈ Lib.decDigits u, isD c = true := fun c hc => (isD_iff c).2 (Dec.dec_digit u u (Nat.le_refl _) c hc)

/-- the digits with which a text begins, fourteen at most -/
def digs (s : List UInt8) : List UInt8 := (s.takeWhile isD).take 14
def rest (s : List UInt8) : List UInt8 := s.drop (digs s).length
theorem digs_rest (s : List UInt8) : digs s ++ rest s = s := by
  unfold rest digs
  obtain ⟨t, ht⟩ : List.takeWhile isD s <+: s := List.takeWhile_prefix _
  have h : List.take 14 (List.takeWhile isD s) <+: s := (List.take_prefix 14 _).trans ⟨t, ht⟩
  obtain ⟨r, hr⟩ := h
  generalize List.take 14 (List.takeWhile isD s) = d at hr
  rw [← hr, List.drop_left]
theorem digs_isD (s : List UInt8) : ∀ c ∈ digs s, isD c = true := fun c hc => by
  have := List.mem_of_mem_take hc
  have h2 := List.all_takeWhile (p := isD) (l := s)
  rw [List.all_eq_true] at h2
  exact h2 c this
theorem digs_dec {u : Nat} (h : u < 10 ^ 14) {r : List UInt8} (hr : ∀ c, r.head? = some c → isD c = false) : digs (Lib.decDigits u ++ r) = Lib.decDigits u := by
  have hl := Dec.dec_len 13 u h
  unfold digs
  have : List.takeWhile isD (Lib.decDigits u ++ r) = Lib.decDigits u := by
    rw [List.takeWhile_append_of_pos (dec_isD u)]
    cases r with
    | nil => simp
    | cons c t => simp [hr c rfl]
  rw [this, List.take_of_length_le hl]
theorem rest_dec {u : Nat} (h : u < 10 ^ 14) {r : List UInt8} (hr : ∀ c, r.head? = some c → isD c = false) : rest (Lib.decDigits u ++ r) = r := by
  unfold rest; rw [digs_dec h hr, List.drop_left]
theorem isD45 {r : List UInt8} : ∀ c, (45 :: r : List UInt8).head? = some c → isD c = false := by
  intro c hc; simp at hc; subst hc; rfl

/-- the text of an id -/
def idt (a b c : Nat) : List UInt8 := Lib.decDigits a ++ 45 :: (Lib.decDigits b ++ 45 :: Lib.decDigits c)
def good (a b c : Nat) : Prop := a ≤ 15 ∧ b ≤ 1099511627776 ∧ c ≤ 1099511627776
instance (a b c : Nat) : Decidable (good a b c) := by unfold good; infer_instance
/-- what the reference reads -/
structure Reads (s : List UInt8) (a b c : Nat) : Prop where
  ok1 : okd (digs s) = true
  a : val (digs s) = a
  m1 : (rest s).head? = some 45
  ok2 : okd (digs (rest s).tail) = true
  b : val (digs (rest s).tail) = b
  m2 : (rest (rest s).tail).head? = some 45
  ok3 : okd (digs (rest (rest s).tail).tail) = true
  c : val (digs (rest (rest s).tail).tail) = c
  done : rest (rest (rest s).tail).tail = []
theorem cons_of {l : List UInt8} (h : l.head? = some 45) : l = 45 :: l.tail := by
  cases l with
  | nil => cases h
  | cons x t => simp at h; rw [h]; rfl
theorem Reads.text {s : List UInt8} {a b c : Nat} (h : Reads s a b c) : s = idt a b c := by
  have e1 := dec_val _ _ rfl (digs_isD s) h.ok1
  have e2 := dec_val _ _ rfl (digs_isD _) h.ok2
  have e3 := dec_val _ _ rfl (digs_isD _) h.ok3
  rw [h.a] at e1; rw [h.b] at e2; rw [h.c] at e3
  have f1 := digs_rest s
  have f2 := digs_rest (rest s).tail
  have f3 := digs_rest (rest (rest s).tail).tail
  rw [h.done, List.append_nil] at f3
  rw [cons_of h.m2, ← f3, ← e2, ← e3] at f2
  rw [cons_of h.m1, ← f2, ← e1] at f1
  exact f1.symm
theorem Reads.of {a b c : Nat} (h : good a b c) : Reads (idt a b c) a b c := by
  obtain ⟨h1, h2, h3⟩ := h
  have ha : a < 10 ^ 14 := by have : (10 ^ 14 : Nat) = 100000000000000 := by decide
                              omega
  have hb : b < 10 ^ 14 := by have : (10 ^ 14 : Nat) = 100000000000000 := by decide
                              omega
  have hc : c < 10 ^ 14 := by have : (10 ^ 14 : Nat) = 100000000000000 := by decide
                              omega
  have d1 := digs_dec ha (r := 45 :: (Lib.decDigits b ++ 45 :: Lib.decDigits c)) isD45
  have r1 := rest_dec ha (r := 45 :: (Lib.decDigits b ++ 45 :: Lib.decDigits c)) isD45
  have d2 := digs_dec hb (r := 45 :: Lib.decDigits c) isD45
  have r2 := rest_dec hb (r := 45 :: Lib.decDigits c) isD45
  have d3 := digs_dec hc (r := []) (fun c h => by cases h)
  have r3 := rest_dec hc (r := []) (fun c h => by cases h)
  rw [List.append_nil] at d3 r3
  have e1 : rest (idt a b c) = 45 :: (Lib.decDigits b ++ 45 :: Lib.decDigits c) := r1
  have e2 : rest (rest (idt a b c)).tail = 45 :: Lib.decDigits c := by rw [e1]; exact r2
  have v1 := val_dec a a (Nat.le_refl _)
  have v2 := val_dec b b (Nat.le_refl _)
  have v3 := val_dec c c (Nat.le_refl _)
  refine ⟨?_, ?_, ?_, ?_, ?_, ?_, ?_, ?_, ?_⟩
  · show okd (digs (Lib.decDigits a ++ _)) = true
    rw [d1]; exact v1.2.1
  · show val (digs (Lib.decDigits a ++ _)) = a
    rw [d1]; exact v1.1
  · rw [e1]; rfl
  · rw [e1, List.tail_cons, d2]; exact v2.2.1
  · rw [e1, List.tail_cons, d2]; exact v2.1
  · rw [e2]; rfl
  · rw [e2, List.tail_cons, d3]; exact v3.2.1
  · rw [e2, List.tail_cons, d3]; exact v3.1
  · rw [e2, List.tail_cons, r3]

/-! the three words of an id's text -/
theorem free45 (u : Nat) : (45 : UInt8) ∉ Lib.decDigits u := fun h => by
  have := dec_isD u 45 h
  exact absurd this (by decide)
theorem index_free45 {s : List UInt8} (h : (45 : UInt8) ∉ s) : Lib.index s [45] = -1 := by
  induction s with
  | nil => rfl
  | cons x t ih =>
    have h1 : x ≠ 45 := fun e => h (by simp [e])
    have h2 : (45 : UInt8) ∉ t := fun e => h (by simp [e])
    simp [Lib.index, List.isPrefixOf, Ne.symm h1, ih h2]
theorem index_at45 {a b : List UInt8} (h : (45 : UInt8) ∉ a) : Lib.index (a ++ 45 :: b) [45] = a.length := by
  induction a with
  | nil => simp [Lib.index, List.isPrefixOf]
  | cons x t ih =>
    have h1 : x ≠ 45 := fun e => h (by simp [e])
    have h2 : (45 : UInt8) ∉ t := fun e => h (by simp [e])
    simp [Lib.index, List.isPrefixOf, Ne.symm h1, ih h2]
    try omega
theorem splitK_at45 {a b : List UInt8} (h : (45 : UInt8) ∉ a) (k : Nat) : Lib.splitK [45] 0 (k + 1) (a ++ 45 :: b) = a :: Lib.splitK [45] 0 k b := by
  conv => lhs; rw [Lib.splitK, index_at45 h]
  have : ¬ ((a.length : Int) == -1) = true := by simp <;> omega
  rw [if_neg this]
  simp
theorem split_idt (a b c : Nat) : Lib.split (idt a b c) [45] = [Lib.decDigits a, Lib.decDigits b, Lib.decDigits c] := by
  have hc : Lib.count (idt a b c) [45] = 2 := by
    rw [Lib.count_one]
    have f : ∀ u, List.count 45 (Lib.decDigits u) = 0 := fun u => List.count_eq_zero.2 (free45 u)
    simp [idt, f]
  unfold Lib.split
  rw [hc]
  unfold idt
  rw [splitK_at45 (free45 a), splitK_at45 (free45 b)]
  rfl

/-! numerals are read back -/
theorem digitVal_isD {c : UInt8} (h : isD c = true) : Lib.digitVal c = some (c.toNat - 48) := by
  rw [isD_iff] at h
  unfold Lib.digitVal
  rw [if_pos h]
theorem decFrom_val (l : List UInt8) (h : ∀ c ∈ l, isD c = true) : ∀ acc, Lib.decFrom acc l = some (l.foldl (fun n c => 10 * n + (c.toNat - 48)) acc) := by
  induction l with
  | nil => intro acc; rfl
  | cons c t ih =>
    intro acc
    simp only [Lib.decFrom, digitVal_isD (h c (by simp)), List.foldl_cons]
    rw [ih (fun d hd => h d (by simp [hd])), Nat.mul_comm acc 10]
theorem atoi_dec {u : Nat} (h : u < 10 ^ 14) : Lib.atoiAll (Lib.decDigits u) = Lib.NumEnd.ok (u : Int) := by
  have hl := Dec.dec_len 13 u h
  have hp := Dec.dec_pos u
  rw [Lib.atoiAll_short _ (by omega)]
  have hv := (val_dec u u (Nat.le_refl _)).1
  have hd := dec_isD u
  have hn : Lib.decNat (Lib.decDigits u) = some u := by
    unfold Lib.decNat
    have : (Lib.decDigits u).isEmpty = false := by
      cases hq : Lib.decDigits u with
      | nil => rw [hq] at hp; simp at hp
      | cons x t => rfl
    rw [this]
    simp only [Bool.false_eq_true, if_false]
    rw [decFrom_val _ hd]
    exact congrArg some hv
  have : Lib.atoi (Lib.decDigits u) = some (u : Int) := by
    cases hq : Lib.decDigits u with
    | nil => rw [hq] at hp; simp at hp
    | cons x t =>
      rw [hq] at hn hd
      have hx := (isD_iff x).1 (hd x (by simp))
      have h1 : ¬ (x == 45) = true := by
        simp only [beq_iff_eq]; rintro rfl; exact absurd hx.1 (by decide)
      have h2 : ¬ (x == 43) = true := by
        simp only [beq_iff_eq]; rintro rfl; exact absurd hx.1 (by decide)
      simp only [Lib.atoi, if_neg h1, if_neg h2, hn]
      rfl
  rw [this]
  rfl
end Go.Proofs.YtidflagmdabfaaaGreatDoor.Ip
namespace Go.Proofs.YtidflagmdabfaaaGreatDoor.Nm
open Go.Proofs.YtidflagmdabfaaaGreatDoor.Ip

/-- the number that a text is, if it is one up to 2^40 -/
def numOf (s : List UInt8) : Option Nat := if s.all isD = true ∧ okd s = true ∧ val s ≤ 1099511627776 then some (val s) else none
theorem numOf_iff (s : List UInt8) (n : Nat) : numOf s = some n ↔ s = Lib.decDigits n ∧ n ≤ 1099511627776 := by
  unfold numOf
  constructor
  · intro h
    split at h
    · rename_i h1
      cases h
      exact ⟨(dec_val _ s rfl (fun c hc => List.all_eq_true.1 h1.1 c hc) h1.2.1).symm, h1.2.2⟩
    · cases h
  · rintro ⟨rfl, h⟩
    have hv := val_dec n n (Nat.le_refl _)
    rw [if_pos ⟨List.all_eq_true.2 fun c hc => dec_isD n c hc, hv.2.1, by rw [hv.1]; exact h⟩, hv.1]
theorem numOf_dec {n : Nat} (h : n ≤ 1099511627776) : numOf (Lib.decDigits n) = some n := (numOf_iff _ n).2 ⟨rfl, h⟩
theorem numOf_none {s : List UInt8} (h : ∀ n : Nat, n ≤ 1099511627776 → s ≠ Lib.decDigits n) : numOf s = none := by
  cases e : numOf s with
  | none => rfl
  | some n =>
    have := (numOf_iff s n).1 e
    exact absurd this.1 (h n this.2)
/-- digits of base 16 -/
def hxd : List UInt8 := [48, 49, 50, 51, 52, 53, 54, 55, 56, 57, 97, 98, 99, 100, 101, 102]
def hx (n : Nat) : UInt8 := hxd.getD n 0
def hex1 (c : UInt8) : List UInt8 := [hx (c.toNat / 16), hx (c.toNat % 16)]
def hex (l : List UInt8) : List UInt8 := l.flatMap hex1
theorem hex_snoc (l : List UInt8) (c : UInt8) : hex (l ++ [c]) = hex l ++ hex1 c := by simp [hex]
theorem hex_length (l : List UInt8) : (hex l).length = 2 * l.length := by
  induction l with
  | nil => rfl
  | cons c t ih =>
    have : hex (c :: t) = hex1 c ++ hex t := by simp [hex]
    rw [this, List.length_append, ih, List.length_cons]
    show 2 + _ = _
    omega
/-- is it a digit? -/
def isX (c : UInt8) : Bool := (decide (48 ≤ c.toNat) && decide (c.toNat ≤ 57)) || (decide (97 ≤ c.toNat) && decide (c.toNat ≤ 102))
theorem isX_iff (c : UInt8) : isX c = true ↔ (48 ≤ c.toNat ∧ c.toNat ≤ 57) ∨ (97 ≤ c.toNat ∧ c.toNat ≤ 102) := by simp [isX]
/-- are they the digits of bytes? -/
def isHex (l : List UInt8) : Bool := decide (l.length % 2 = 0) && l.all isX
theorem isX_all : ∀ n : Fin 256, isX (UInt8.ofNat n.1) = decide (0 ≤ Lib.indexByte hxd (UInt8.ofNat n.1)) := by decide +kernel
theorem isX_eq (c : UInt8) : isX c = decide (0 ≤ Lib.indexByte hxd c) := by
  have := isX_all ⟨c.toNat, UInt8.toNat_lt c⟩
  simpa using this
theorem hx_isX : ∀ n : Fin 16, isX (hx n.1) = true := by decide +kernel
theorem hex_isX (l : List UInt8) : ∀ c ∈ hex l, isX c = true := by
  intro c hc
  simp only [hex, List.mem_flatMap, hex1, List.mem_cons, List.not_mem_nil, or_false] at hc
  obtain ⟨d, _, h | h⟩ := hc
  · rw [h]; exact hx_isX ⟨d.toNat / 16, by have := UInt8.toNat_lt d; omega⟩
  · rw [h]; exact hx_isX ⟨d.toNat % 16, by omega⟩
theorem hex_isHex (l : List UInt8) : isHex (hex l) = true := by
  unfold isHex
  rw [Bool.and_eq_true, decide_eq_true_iff, hex_length, List.all_eq_true]
  exact ⟨by omega, hex_isX l⟩
end Go.Proofs.YtidflagmdabfaaaGreatDoor.Nm
namespace Go.Proofs.YtidflagmdabfaaaGreatDoor.ShaJ
open Go.RowKit Go.Proofs.YtidflagmdabfaaaGreatDoor Go.Proofs.YtidflagmdabfaaaGreatDoor.Sha Go.Proofs.YtidflagmdabfaaaGreatDoor.ShaA Go.Proofs.YtidflagmdabfaaaGreatDoor.ShaB Go.Proofs.YtidflagmdabfaaaGreatDoor.ShaC Go.Proofs.YtidflagmdabfaaaGreatDoor.HtW Go.Proofs.YtidflagmdabfaaaGreatDoor.Lf Go.Proofs.YtidflagmdabfaaaGreatDoor.ShaE Go.Proofs.YtidflagmdabfaaaGreatDoor.App Go.Proofs.YtidflagmdabfaaaGreatDoor.ShaF Go.Proofs.YtidflagmdabfaaaGreatDoor.ShaG Go.Proofs.YtidflagmdabfaaaGreatDoor.ShaH Go.Proofs.YtidflagmdabfaaaGreatDoor.ShaI

def lead : List UInt8 := [66, 79, 76, 76, 65, 82, 68]
/-- a key made of a secret and words -/
def derive (secret : List UInt8) (ws : List (List UInt8)) : List UInt8 := ws.foldl mac (lead ++ secret)
theorem derive_snoc (s : List UInt8) (ws : List (List UInt8)) (x : List UInt8) : derive s (ws ++ [x]) = mac (derive s ws) x := by simp [derive]
theorem derive_len (s : List UInt8) (ws : List (List UInt8)) : (derive s ws).length ≤ s.length + 32 := by
  rcases List.eq_nil_or_concat ws with rfl | ⟨t, x, rfl⟩
  · simp [derive, lead]
  · rw [List.concat_eq_append, derive_snoc, mac_length]; omega
theorem conv_bs (w : World) (l : List UInt8) : Bs (Lib.bytesWorld w 5 ⟨l.toArray⟩) (some ⟨w.heap.size, 0, none⟩) l (grownCap w l.length 0 5) := by
  refine ⟨grownCap_ge w l.length 0 5, (fun h => by cases h), .inr ⟨w.heap.size, 0, rfl, by rw [Lib.bytesWorld_size]; omega, fun j x hj => ?_⟩⟩
  have hl := (List.getElem?_eq_some_iff.1 hj).1
  have := Lib.bytesWorld_cell w 5 ⟨l.toArray⟩ j (by rw [Com.size_mk]; exact hl)
  rw [Nat.zero_add, this]
  simp [List.getD_eq_getElem?_getD, hj]
/-- words at a -/
def Wd (w : World) (a : Option Addr) (ws : List (List UInt8)) : Prop :=
  ws = [] ∨ ∃ b o, a = some ⟨b, o, none⟩ ∧ b < w.heap.size ∧ ∀ (j : Nat) x, ws[j]? = some x → w.cell? ⟨b, o + j, none⟩ = some (.string ⟨x.toArray⟩)
theorem Wd.below {w w' : World} {a : Option Addr} {ws : List (List UInt8)} (h : Wd w a ws) (hb : Below w.heap.size w w') : Wd w' a ws :=
  h.imp id fun ⟨b, o, h1, h2, h3⟩ => ⟨b, o, h1, Nat.lt_of_lt_of_le h2 hb.size, fun j x hj => (hb.cell (p := ⟨b, _, none⟩) h2).trans (h3 j x hj)⟩
theorem Wd.at {w : World} {a : Option Addr} {ws : List (List UInt8)} (hp : Wd w a ws) {k : Nat} {x : List UInt8} (h : ws[k]? = some x) : ∃ b o, a = some ⟨b, o, none⟩ ∧ b < w.heap.size ∧ w.cell? ⟨b, o + k, none⟩ = some (.string ⟨x.toArray⟩) := by
  rcases hp with hp | ⟨b, o, h1, h2, h3⟩
  · subst hp; cases h
  · exact ⟨b, o, h1, h2, h3 k x h⟩

set_option maxHeartbeats 2000000 in
set_option maxRecDepth 100000 in
theorem deriveW (s : List UInt8) (ws : List (List UInt8)) {a : Option Addr} (c : Nat) (w : World) (hw : Wd w a ws) (hs : s.length ≤ 140737488340000) (hx : ∀ x ∈ ws, x.length ≤ 140737488340000) (hwl : ws.length ≤ 4294967296) :
    Calls Tryz.prog 129 #[.string ⟨s.toArray⟩, .slice a ws.length c] w fun e w' => ∃ ar cr, e = .returned (.slice ar (derive s ws).length cr) ∧ Bs w' ar (derive s ws) cr ∧ Below w.heap.size w w' := by
  have HW := Lib.hid hw; clear hw
  have hcat : (⟨#[66, 79, 76, 76, 65, 82, 68]⟩ : ByteArray) ++ ⟨s.toArray⟩ = ⟨(derive s []).toArray⟩ := Com.mk_append lead s
  have hd0 : (derive s []).length = s.length + 7 := by simp [derive, lead]
  have hsz : (ByteArray.mk (derive s []).toArray).size = (derive s []).length := Com.size_mk _
  have kc := fun w s => Lib.run_convert_string_bytes (P := Tryz.prog) w 9 23 5 s Tryz.underlying9 Tryz.underlying23 Tryz.underlying5
  have hc0 := conv_bs w (derive s [])
  have hb0 := Lib.bytesWorld_below w 5 ⟨(derive s []).toArray⟩
  have hle : (derive s []).length ≤ 140737488340040 := by omega
  obtain ⟨D0, hD0⟩ : ∃ D0, D0 = derive s [] := ⟨_, rfl⟩
  have HD0 := Lib.hid hD0
  rw [← hD0] at hcat hsz hc0 hb0 hle
  clear hD0 hd0
  go_enter Tryz.func129, Tryz.ntmps129
  go_wp2_with fail
  have hc1 := Lib.hid hc0
  have hb1 := Lib.hid hb0
  clear hc0 hb0 hcat hsz
  generalize Lib.bytesWorld w 5 ⟨D0.toArray⟩ = W0 at *
  generalize grownCap w D0.length 0 5 = cp0 at *
  go_loopg [5, 14] ws.length (fun g v5 v14 wr => ∃ (j : Nat) (D : List UInt8) (ar : Option Addr) (cr : Nat), j + g = ws.length ∧ v14 = .int .i64 j ∧ v5 = .slice ar D.length cr ∧ Hid (D = derive s (ws.take j)) ∧ Hid (Bs wr ar D cr) ∧ Hid (Below w.heap.size w wr))
  case atStart => exact ⟨0, D0, _, _, by omega, rfl, rfl, by rw [List.take_zero]; exact HD0.out, hc1, hb1⟩
  case round =>
    clear hc1 hb1
    obtain ⟨j, D, ar, cr, hjg, rfl, rfl, HD, HB, HU⟩ := hrel
    have HG := Lib.hid hjg
    have hdl : D.length ≤ 140737488340040 := by
      have := derive_len s (ws.take j)
      rw [HD.out]
      omega
    by_cases hlt : j < ws.length
    · obtain ⟨x, hxj⟩ : ∃ x, ws[j]? = some x := ⟨_, List.getElem?_eq_getElem hlt⟩
      have hxl := hx x (List.mem_of_getElem? hxj)
      obtain ⟨b, o, rfl, hb, hc⟩ := (HW.out.below HU.out).at hxj
      have HD2 := Lib.hid (show mac D x = derive s (ws.take (j + 1)) by
        rw [List.take_add_one, hxj, HD.out]
        exact (derive_snoc _ _ _).symm)
      have hsx : (ByteArray.mk x.toArray).size = x.length := Com.size_mk _
      have hxc := conv_bs wr x
      have hxb := Lib.bytesWorld_below wr 5 ⟨x.toArray⟩
      have HBX := HB.out.below hxb
      have hzx := hxb.size
      have y0 : (0 : Int) ≤ (j : Int) := by omega
      have y1 : (j : Int) < (ws.length : Int) := by omega
      have hzz := HU.out.size
      clear hjg hxj
      go_wp2_with (first
        | (go_at_call 128; refine (macSum D x cr (grownCap wr x.length 0 5) _ HBX hxc (by omega) hxl).mono ?_; rintro e w2 ⟨rfl, hb2⟩)
        | (guard_target =~ wpList _ _ _ ({ dst := _, op := Op.store 128 _ _, type := _, pos := _, after := _, guard := none } :: _) _ _; refine store32 rfl _ _ rfl (mac D x) (mac_length D x) rfl rfl rfl ?_; intro w3 z3 h3 hb3))
      go_roundg (ws.length - (j + 1))
      case measure => have := HG.out; omega
      case rel =>
        refine ⟨j + 1, mac D x, some ⟨w2.heap.size, 0, none⟩, 32, by have := HG.out; omega, by go_num, rfl, HD2.out, bs_box h3 32 (Nat.le_of_eq (mac_length D x)), ?_⟩
        have hz2 := hb2.size
        exact ((HU.out.trans (hxb.mono hzz)).trans (hb2.mono (by omega))).trans (hb3.mono (by omega))
    · have hj : j = ws.length := by omega
      have HE := Lib.hid (show D = derive s ws by rw [HD.out, hj, List.take_length])
      clear hjg
      go_wp2_with fail
      go_ret
      refine ⟨ar, cr, by rw [HE.out]; rfl, ?_, HU.out⟩
      rw [← HE.out]
      exact HB.out
end Go.Proofs.YtidflagmdabfaaaGreatDoor.ShaJ
set_option linter.unusedVariables false
namespace Go.Proofs.YtidflagmdabfaaaGreatDoor.Bld
open Go.RowKit

theorem sizeBuilder : (Tryz.prog.info? 185).map (·.size) = some 2 := by kernel_rfl
theorem infoByte : (Tryz.prog.info? 5).map (fun i => (i.zero, i.size, i.bytes)) = some (some (.int .u8 0), 1, 1) := by kernel_rfl

set_option maxHeartbeats 1000000 in
set_option maxRecDepth 100000 in
theorem copyCheck_used (b : Nat) (w : World) (h0 : w.cell? ⟨b, 0, none⟩ = some (.pointer (some ⟨b, 0, none⟩))) :
    Calls Tryz.prog 167 #[.pointer (some ⟨b, 0, none⟩)] w fun e w' => e = .returned (.tuple #[]) ∧ w' = w := by
  obtain ⟨j, hj, _⟩ := Option.map_eq_some_iff.1 sizeBuilder
  go_enter Tryz.func167, Tryz.ntmps167
  go_wp2
  rw [Lib.run_neq_ptr_same w _ Tryz.underlying183 hj]
  go_wp2
  go_end0
  exact ⟨rfl, rfl⟩

set_option maxHeartbeats 1000000 in
set_option maxRecDepth 100000 in
theorem copyCheck_fresh (b : Nat) (w : World) (h0 : w.cell? ⟨b, 0, none⟩ = some (.pointer none)) (hsh : w.shape? b = some (185, 2)) (hfz : w.frozen? ⟨b, 0, none⟩ = false) :
    Calls Tryz.prog 167 #[.pointer (some ⟨b, 0, none⟩)] w fun e w' => e = .returned (.tuple #[]) ∧ w' = w.setCell ⟨b, 0, none⟩ (.pointer (some ⟨b, 0, none⟩)) := by
  obtain ⟨j, hj, hjs⟩ := Option.map_eq_some_iff.1 sizeBuilder
  go_enter Tryz.func167, Tryz.ntmps167
  go_wp2
  rw [Lib.run_to_unsafe w ⟨b, 0, none⟩ Tryz.underlying183 Tryz.underlying250 hj (by rw [hjs]; decide) hsh (Nat.zero_lt_succ 1)]
  simp only [Result.andThen]
  rw [Oper.upon_value]
  go_wp2
  rw [run_callFunc_extern Tryz.func204 (by kernel_rfl) (by kernel_rfl) (by kernel_rfl) (e := Extern.AbiNoEscape.same) (by kernel_rfl)]
  rw [Lib.run_noEscape]
  simp only [Result.andThen]
  rw [Oper.upon_value]
  go_wp2
  rw [Lib.run_from_unsafe w ⟨b, 0, none⟩ Tryz.underlying250 Tryz.underlying183 hj hsh (by kernel_rfl)]
  simp only [Result.andThen]
  rw [Oper.upon_value]
  go_wp2
  go_end0
  exact ⟨rfl, rfl⟩

abbrev T : TypeId := 185
abbrev E : TypeId := 5

theorem copyCheck (B b : Nat) (bs : List Value) (w : World) (h : Lib.IsBuilder 185 5 B b bs w) :
    Calls Tryz.prog 167 #[.pointer (some ⟨b, 0, none⟩)] w fun e w' => e = .returned (.tuple #[]) ∧ (Lib.BuilderAt 185 5 B b (.pointer (some ⟨b, 0, none⟩)) bs w' ∧ Below B w w') := by
  rcases h with h | h
  · refine (copyCheck_fresh b w h.cell0 h.shape h.frozen0).mono ?_
    rintro e w' ⟨rfl, rfl⟩
    exact ⟨rfl, h.used _, (Below.refl B w).setCell (p := ⟨b, 0, none⟩) h.1 _⟩
  · refine (copyCheck_used b w h.cell0).mono ?_
    rintro e w' ⟨rfl, rfl⟩
    exact ⟨rfl, h, Below.refl B _⟩

set_option maxHeartbeats 2000000 in
set_option maxRecDepth 100000 in
/-- WriteByte: one byte more. -/
theorem writeByte (B b : Nat) (bs : List Value) (c : Int) (w : World) (h : Lib.IsBuilder 185 5 B b bs w) (hlen : bs.length + 1 ≤ 140737488355328) (hBw : B ≤ w.heap.size) :
    Calls Tryz.prog 127 #[.pointer (some ⟨b, 0, none⟩), .int .u8 c] w fun e w' => e = .returned .nilIface ∧ (Lib.IsBuilder 185 5 B b (bs ++ [.int .u8 c]) w' ∧ Below B w w') := by
  obtain ⟨i0, hi, hz0, hz1, hz2⟩ := info_parts infoByte
  go_enter Tryz.func127, Tryz.ntmps127
  go_wp2_with (go_at_call 167; refine (copyCheck B b bs _ h).mono ?_)
  rintro e w1 ⟨rfl, h1, hb1⟩
  obtain ⟨hB, v, hbk, hown, hne⟩ := h1
  have c0 : w1.cell? ⟨b, 0, none⟩ = some (.pointer (some ⟨b, 0, none⟩)) := by rw [Lib.cell_of_heap hbk]; rfl
  have c1 : w1.cell? ⟨b, 1, none⟩ = some v := by rw [Lib.cell_of_heap hbk]; rfl
  go_wp2_with (at_builtin; refine wpList_append_own _ rfl _ _ 23 rfl B 5 i0 (.int .u8 0) 1 1 Tryz.underlying23 hi hz0 hz1 hz2 rfl (by decide) _ _ _ rfl (hown.alloc _) ⟨w1.heap.size, 0, none⟩ 1 1 [.int .u8 c] rfl rfl ?c1 ?c2 ?c3 ?c4 ?c5 ?_)
  case c1 =>
    intro j u hj
    match j, hj with
    | 0, hj => simp at hj; subst hj; simp [Addr.add]
  case c2 => intro u hu; simp at hu; subst hu; rfl
  case c3 => unfold maxLen; omega
  case c4 => omega
  case c5 => have := hb1.size; simp; omega
  intro v' w2 hown' hgrow _
  have hlt : b < w1.heap.size := by
    rcases Nat.lt_or_ge b w1.heap.size with h' | h'
    · exact h'
    · simp [Array.getElem?_eq_none h'] at hbk
  have hb2 : w2.heap[b]? = some (.cells #[.pointer (some ⟨b, 0, none⟩), v] 185 (0, 0)) := by
    rw [hgrow.block b (by simp; omega) (fun e => hne e.symm), Lib.alloc_old w1 _ b hlt]
    exact hbk
  have d0 : w2.cell? ⟨b, 0, none⟩ = some (.pointer (some ⟨b, 0, none⟩)) := by rw [Lib.cell_of_heap hb2]; rfl
  have d1 : w2.cell? ⟨b, 1, none⟩ = some v := by rw [Lib.cell_of_heap hb2]; rfl
  have f1 : w2.frozen? ⟨b, 1, none⟩ = false := Lib.frozen_of_heap hb2 1
  obtain ⟨g, cap, rfl⟩ : ∃ g cap, v' = .slice (some ⟨g, 0, none⟩) (bs.length + 1) cap := by
    rcases hown'.2 with ⟨_, h0⟩ | ⟨g, cap, cur, hv, _⟩
    · omega
    · exact ⟨g, cap, hv⟩
  go_wp2
  go_ret
  refine ⟨rfl, Or.inr ?_, ?_⟩
  · exact Lib.BuilderAt.put (T := 185) (e := 5) hB hb2 (bs' := bs ++ [.int .u8 c]) (by simpa using hown') (by decide)
  · exact ((hb1.alloc (by have := hb1.size; omega) _).grown hgrow (by have := hb1.size; simp; omega) (fun k hk => (hown.lt k hk).1)).setCell (p := ⟨b, 1, none⟩) hB _

set_option maxHeartbeats 2000000 in
set_option maxRecDepth 100000 in
theorem writeString (B b : Nat) (bs : List Value) (s : ByteArray) (w : World) (h : Lib.IsBuilder 185 5 B b bs w) (hlen : bs.length + s.size ≤ 140737488355328) (hBw : B ≤ w.heap.size) :
    Calls Tryz.prog 125 #[.pointer (some ⟨b, 0, none⟩), .string s] w fun e w' => e = .returned (.tuple #[.int .i64 s.size, .nilIface]) ∧ (Lib.IsBuilder 185 5 B b (bs ++ Lib.strCells s) w' ∧ Below B w w') := by
  obtain ⟨i0, hi, hz0, hz1, hz2⟩ := info_parts infoByte
  go_enter Tryz.func125, Tryz.ntmps125
  go_wp2_with (go_at_call 167; refine (copyCheck B b bs _ h).mono ?_)
  rintro e w1 ⟨rfl, h1, hb1⟩
  obtain ⟨hB, v, hbk, hown, hne⟩ := h1
  have c0 : w1.cell? ⟨b, 0, none⟩ = some (.pointer (some ⟨b, 0, none⟩)) := by rw [Lib.cell_of_heap hbk]; rfl
  have c1 : w1.cell? ⟨b, 1, none⟩ = some v := by rw [Lib.cell_of_heap hbk]; rfl
  go_wp2_with (at_builtin; refine Lib.wpList_append_own_string _ rfl _ _ 23 9 rfl B 5 i0 Tryz.underlying23 Tryz.underlying9 hi hz0 hz1 hz2 _ _ _ rfl hown s rfl ?c3 ?c4 ?c5 ?_)
  case c3 => unfold maxLen; omega
  case c4 => omega
  case c5 => have := hb1.size; omega
  intro v' w2 hown' hgrow _
  have hlt : b < w1.heap.size := by
    rcases Nat.lt_or_ge b w1.heap.size with h' | h'
    · exact h'
    · simp [Array.getElem?_eq_none h'] at hbk
  have hb2 : w2.heap[b]? = some (.cells #[.pointer (some ⟨b, 0, none⟩), v] 185 (0, 0)) := by
    rw [hgrow.block b hlt (fun e => hne e.symm)]
    exact hbk
  have d0 : w2.cell? ⟨b, 0, none⟩ = some (.pointer (some ⟨b, 0, none⟩)) := by rw [Lib.cell_of_heap hb2]; rfl
  have d1 : w2.cell? ⟨b, 1, none⟩ = some v := by rw [Lib.cell_of_heap hb2]; rfl
  have f1 : w2.frozen? ⟨b, 1, none⟩ = false := Lib.frozen_of_heap hb2 1
  obtain ⟨ao, n', cap, rfl⟩ : ∃ ao n' cap, v' = .slice ao n' cap := by
    rcases hown'.2 with ⟨hv, _⟩ | ⟨g, cap, cur, hv, _⟩
    · exact ⟨_, _, _, hv⟩
    · exact ⟨_, _, _, hv⟩
  go_wp2
  go_ret2
  refine ⟨rfl, Or.inr ?_, ?_⟩
  · exact Lib.BuilderAt.put (T := 185) (e := 5) hB hb2 (bs' := bs ++ Lib.strCells s) (by simpa [Lib.strCells_length] using hown') (by decide)
  · exact (hb1.grown hgrow (by have := hb1.size; omega) (fun k hk => (hown.lt k hk).1)).setCell (p := ⟨b, 1, none⟩) hB _
end Go.Proofs.YtidflagmdabfaaaGreatDoor.Bld
