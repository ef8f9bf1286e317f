/-
  Ids as texts, plainly: three decimal numerals with '-' between. Of no program. The walk of package shelf's parse at a blob's name.
-/
import Derived.Test.YtecnnlppinhmgaaGreatDoorSd01
import Derived.Test.YtecnnlppinhmgaaGreatDoorSe03
import Derived.Test.YtecnnlppinhmgaaGreatDoorSh01
import Derived.Lib.ItoaNum
import Derived.Lib.AtoiTie
import Derived.Lib.Split
import Derived.Lib.SplitLaws
namespace Go.Proofs.YtecnnlppinhmgaaGreatDoor.Ip
open Go

def isD (c : UInt8) : Bool := decide (48 ≤ c.toNat) && decide (c.toNat ≤ 57)
theorem isD_iff (c : UInt8) : isD c = true ↔ 48 ≤ c.toNat ∧ c.toNat ≤ 57 := by simp [isD]
/-- a row of digits' value -/
def val (l : List UInt8) : Nat := l.foldl (fun n c => 10 * n + (c.toNat - 48)) 0
theorem val_snoc (l : List UInt8) (c : UInt8) : val (l ++ [c]) = 10 * val l + (c.toNat - 48) := by simp [val]
/-- a numeral in its form -/
def okd (d : List UInt8) : Bool := decide (d ≠ []) && (decide (d.head? ≠ some 48) || decide (d.length = 1))
theorem okd_iff (d : List UInt8) : okd d = true ↔ d ≠ [] ∧ (d.head? ≠ some 48 ∨ d.length = 1) := by simp [okd]

theorem byte_of {c : UInt8} (h1 : 48 ≤ c.toNat) : UInt8.ofNat (48 + (c.toNat - 48)) = c := by
  rw [show 48 + (c.toNat - 48) = c.toNat by omega]; simp
theorem dec_snoc {u x : Nat} (hu : u ≠ 0) (hx : x < 10) : Lib.decDigits (10 * u + x) = Lib.decDigits u ++ [UInt8.ofNat (48 + x)] := by
  rw [Lib.decDigits, dif_neg (by omega), show (10 * u + x) / 10 = u by omega, show (10 * u + x) % 10 = x by omega]
theorem dec_val : ∀ (n : Nat) (d : List UInt8), d.length = n → (∀ c ∈ d, isD c = true) → okd d = true → Lib.decDigits (val d) = d := by
  intro n
  induction n with
  | zero => intro d hn _ hok; rw [okd_iff] at hok; exact absurd (List.eq_nil_of_length_eq_zero hn) hok.1
  | succ n ih =>
    intro d hn hd hok
    rw [okd_iff] at hok
    rcases List.eq_nil_or_concat d with rfl | ⟨l, c, rfl⟩
    · cases hn
    · rw [List.concat_eq_append] at *
      have hc := (isD_iff c).1 (hd c (by simp))
      rw [val_snoc]
      by_cases hl : l = []
      · subst hl
        show Lib.decDigits (10 * 0 + (c.toNat - 48)) = _
        rw [Nat.mul_zero, Nat.zero_add, Lib.decDigits_one (by omega), byte_of hc.1]
        rfl
      · have hh : l.head? ≠ some 48 := by
          rcases hok.2 with h | h
          · rw [List.head?_append] at h
            cases l with
            | nil => exact absurd rfl hl
            | cons a t => simpa using h
          · simp at h; exact absurd h hl
        have h1 := ih l (by simp at hn; exact hn) (fun x hx => hd x (by simp [hx])) ((okd_iff l).2 ⟨hl, .inl hh⟩)
        have h0 : val l ≠ 0 := by
          intro h
          rw [h, Lib.decDigits_one (by omega)] at h1
          rw [← h1] at hh
          exact hh rfl
        rw [dec_snoc h0 (by omega), h1, byte_of hc.1]
theorem val_dec : ∀ (n u : Nat), u ≤ n → val (Lib.decDigits u) = u ∧ okd (Lib.decDigits u) = true ∧ (u ≠ 0 → (Lib.decDigits u).head? ≠ some 48) := by
  intro n
  induction n with
  | zero =>
    intro u hu
    obtain rfl : u = 0 := by omega
    rw [Lib.decDigits_one (by omega)]
    exact ⟨by decide, by decide, fun h => absurd rfl h⟩
  | succ n ih =>
    intro u hu
    by_cases h : u < 10
    · rw [Lib.decDigits_one h]
      have hb : (UInt8.ofNat (48 + u)).toNat = 48 + u := by rw [UInt8.toNat_ofNat']; omega
      refine ⟨?_, by simp [okd], fun h0 e => ?_⟩
      · show 10 * 0 + ((UInt8.ofNat (48 + u)).toNat - 48) = u
        omega
      · have := congrArg UInt8.toNat (Option.some.inj (show some (UInt8.ofNat (48 + u)) = some 48 from e))
        rw [hb] at this
        have h48 : (48 : UInt8).toNat = 48 := rfl
        omega
    · obtain ⟨i1, i2, i3⟩ := ih (u / 10) (by omega)
      have e : Lib.decDigits u = Lib.decDigits (u / 10) ++ [UInt8.ofNat (48 + u % 10)] := by
        conv => lhs; rw [Lib.decDigits]
        rw [dif_neg h]
      have hb : (UInt8.ofNat (48 + u % 10)).toNat = 48 + u % 10 := by rw [UInt8.toNat_ofNat']; omega
      have hne := Dec.dec_pos (u / 10)
      have hhd : (Lib.decDigits u).head? ≠ some 48 := by
        rw [e, List.head?_append]
        have := i3 (by omega)
        cases hq : Lib.decDigits (u / 10) with
        | nil => rw [hq] at hne; simp at hne
        | cons a t => rw [hq] at this; simpa using this
      refine ⟨?_, (okd_iff _).2 ⟨by rw [e]; simp, .inl hhd⟩, fun _ => hhd⟩
      rw [e, val_snoc, i1, hb]
      omega
theorem dec_isD (u : Nat) : ∀ c ∈ Lib.decDigits u, isD c = true := fun c hc => (isD_iff c).2 (Dec.dec_digit u u (Nat.le_refl _) c hc)

/-- the digits with which a text begins, fourteen at most -/
def digs (s : List UInt8) : List UInt8 := (s.takeWhile isD).take 14
def rest (s : List UInt8) : List UInt8 := s.drop (digs s).length
theorem digs_rest (s : List UInt8) : digs s ++ rest s = s := by
  unfold rest digs
  obtain ⟨t, ht⟩ : List.takeWhile isD s <+: s := List.takeWhile_prefix _
  have h : List.take 14 (List.takeWhile isD s) <+: s := (List.take_prefix 14 _).trans ⟨t, ht⟩
  obtain ⟨r, hr⟩ := h
  generalize List.take 14 (List.takeWhile isD s) = d at hr
  rw [← hr, List.drop_left]
theorem digs_isD (s : List UInt8) : ∀ c ∈ digs s, isD c = true := fun c hc => by
  have := List.mem_of_mem_take hc
  have h2 := List.all_takeWhile (p := isD) (l := s)
  rw [List.all_eq_true] at h2
  exact h2 c this
theorem digs_dec {u : Nat} (h : u < 10 ^ 14) {r : List UInt8} (hr : ∀ c, r.head? = some c → isD c = false) : digs (Lib.decDigits u ++ r) = Lib.decDigits u := by
  have hl := Dec.dec_len 13 u h
  unfold digs
  have : List.takeWhile isD (Lib.decDigits u ++ r) = Lib.decDigits u := by
    rw [List.takeWhile_append_of_pos (dec_isD u)]
    cases r with
    | nil => simp
    | cons c t => simp [hr c rfl]
  rw [this, List.take_of_length_le hl]
theorem rest_dec {u : Nat} (h : u < 10 ^ 14) {r : List UInt8} (hr : ∀ c, r.head? = some c → isD c = false) : rest (Lib.decDigits u ++ r) = r := by
  unfold rest; rw [digs_dec h hr, List.drop_left]
theorem isD45 {r : List UInt8} : ∀ c, (45 :: r : List UInt8).head? = some c → isD c = false := by
  intro c hc; simp at hc; subst hc; rfl

/-- the text of an id -/
def idt (a b c : Nat) : List UInt8 := Lib.decDigits a ++ 45 :: (Lib.decDigits b ++ 45 :: Lib.decDigits c)
def good (a b c : Nat) : Prop := a ≤ 15 ∧ b ≤ 1099511627776 ∧ c ≤ 1099511627776
instance (a b c : Nat) : Decidable (good a b c) := by unfold good; infer_instance
/-- what the reference reads -/
structure Reads (s : List UInt8) (a b c : Nat) : Prop where
  ok1 : okd (digs s) = true
  a : val (digs s) = a
  m1 : (rest s).head? = some 45
  ok2 : okd (digs (rest s).tail) = true
  b : val (digs (rest s).tail) = b
  m2 : (rest (rest s).tail).head? = some 45
  ok3 : okd (digs (rest (rest s).tail).tail) = true
  c : val (digs (rest (rest s).tail).tail) = c
  done : rest (rest (rest s).tail).tail = []
theorem cons_of {l : List UInt8} (h : l.head? = some 45) : l = 45 :: l.tail := by
  cases l with
  | nil => cases h
  | cons x t => simp at h; rw [h]; rfl
theorem Reads.text {s : List UInt8} {a b c : Nat} (h : Reads s a b c) : s = idt a b c := by
  have e1 := dec_val _ _ rfl (digs_isD s) h.ok1
  have e2 := dec_val _ _ rfl (digs_isD _) h.ok2
  have e3 := dec_val _ _ rfl (digs_isD _) h.ok3
  rw [h.a] at e1; rw [h.b] at e2; rw [h.c] at e3
  have f1 := digs_rest s
  have f2 := digs_rest (rest s).tail
  have f3 := digs_rest (rest (rest s).tail).tail
  rw [h.done, List.append_nil] at f3
  rw [cons_of h.m2, ← f3, ← e2, ← e3] at f2
  rw [cons_of h.m1, ← f2, ← e1] at f1
  exact f1.symm
theorem Reads.of {a b c : Nat} (h : good a b c) : Reads (idt a b c) a b c := by
  obtain ⟨h1, h2, h3⟩ := h
  have ha : a < 10 ^ 14 := by have : (10 ^ 14 : Nat) = 100000000000000 := by decide
                              omega
  have hb : b < 10 ^ 14 := by have : (10 ^ 14 : Nat) = 100000000000000 := by decide
                              omega
  have hc : c < 10 ^ 14 := by have : (10 ^ 14 : Nat) = 100000000000000 := by decide
                              omega
  have d1 := digs_dec ha (r := 45 :: (Lib.decDigits b ++ 45 :: Lib.decDigits c)) isD45
  have r1 := rest_dec ha (r := 45 :: (Lib.decDigits b ++ 45 :: Lib.decDigits c)) isD45
  have d2 := digs_dec hb (r := 45 :: Lib.decDigits c) isD45
  have r2 := rest_dec hb (r := 45 :: Lib.decDigits c) isD45
  have d3 := digs_dec hc (r := []) (fun c h => by cases h)
  have r3 := rest_dec hc (r := []) (fun c h => by cases h)
  rw [List.append_nil] at d3 r3
  have e1 : rest (idt a b c) = 45 :: (Lib.decDigits b ++ 45 :: Lib.decDigits c) := r1
  have e2 : rest (rest (idt a b c)).tail = 45 :: Lib.decDigits c := by rw [e1]; exact r2
  have v1 := val_dec a a (Nat.le_refl _)
  have v2 := val_dec b b (Nat.le_refl _)
  have v3 := val_dec c c (Nat.le_refl _)
  refine ⟨?_, ?_, ?_, ?_, ?_, ?_, ?_, ?_, ?_⟩
  · show okd (digs (Lib.decDigits a ++ _)) = true
    rw [d1]; exact v1.2.1
  · show val (digs (Lib.decDigits a ++ _)) = a
    rw [d1]; exact v1.1
  · rw [e1]; rfl
  · rw [e1, List.tail_cons, d2]; exact v2.2.1
  · rw [e1, List.tail_cons, d2]; exact v2.1
  · rw [e2]; rfl
  · rw [e2, List.tail_cons, d3]; exact v3.2.1
  · rw [e2, List.tail_cons, d3]; exact v3.1
  · rw [e2, List.tail_cons, r3]

/-! the three words of an id's text -/
theorem free45 (u : Nat) : (45 : UInt8) ∉ Lib.decDigits u := fun h => by
  have := dec_isD u 45 h
  exact absurd this (by decide)
theorem index_free45 {s : List UInt8} (h : (45 : UInt8) ∉ s) : Lib.index s [45] = -1 := by
  induction s with
  | nil => rfl
  | cons x t ih =>
    have h1 : x ≠ 45 := fun e => h (by simp [e])
    have h2 : (45 : UInt8) ∉ t := fun e => h (by simp [e])
    simp [Lib.index, List.isPrefixOf, Ne.symm h1, ih h2]
theorem index_at45 {a b : List UInt8} (h : (45 : UInt8) ∉ a) : Lib.index (a ++ 45 :: b) [45] = a.length := by
  induction a with
  | nil => simp [Lib.index, List.isPrefixOf]
  | cons x t ih =>
    have h1 : x ≠ 45 := fun e => h (by simp [e])
    have h2 : (45 : UInt8) ∉ t := fun e => h (by simp [e])
    simp [Lib.index, List.isPrefixOf, Ne.symm h1, ih h2]
    try omega
theorem splitK_at45 {a b : List UInt8} (h : (45 : UInt8) ∉ a) (k : Nat) : Lib.splitK [45] 0 (k + 1) (a ++ 45 :: b) = a :: Lib.splitK [45] 0 k b := by
  conv => lhs; rw [Lib.splitK, index_at45 h]
  have : ¬ ((a.length : Int) == -1) = true := by simp <;> omega
  rw [if_neg this]
  simp
theorem split_idt (a b c : Nat) : Lib.split (idt a b c) [45] = [Lib.decDigits a, Lib.decDigits b, Lib.decDigits c] := by
  have hc : Lib.count (idt a b c) [45] = 2 := by
    rw [Lib.count_one]
    have f : ∀ u, List.count 45 (Lib.decDigits u) = 0 := fun u => List.count_eq_zero.2 (free45 u)
    simp [idt, f]
  unfold Lib.split
  rw [hc]
  unfold idt
  rw [splitK_at45 (free45 a), splitK_at45 (free45 b)]
  rfl

/-! numerals are read back -/
theorem digitVal_isD {c : UInt8} (h : isD c = true) : Lib.digitVal c = some (c.toNat - 48) := by
  rw [isD_iff] at h
  unfold Lib.digitVal
  rw [if_pos h]
theorem decFrom_val (l : List UInt8) (h : ∀ c ∈ l, isD c = true) : ∀ acc, Lib.decFrom acc l = some (l.foldl (fun n c => 10 * n + (c.toNat - 48)) acc) := by
  induction l with
  | nil => intro acc; rfl
  | cons c t ih =>
    intro acc
    simp only [Lib.decFrom, digitVal_isD (h c (by simp)), List.foldl_cons]
    rw [ih (fun d hd => h d (by simp [hd])), Nat.mul_comm acc 10]
theorem atoi_dec {u : Nat} (h : u < 10 ^ 14) : Lib.atoiAll (Lib.decDigits u) = Lib.NumEnd.ok (u : Int) := by
  have hl := Dec.dec_len 13 u h
  have hp := Dec.dec_pos u
  rw [Lib.atoiAll_short _ (by omega)]
  have hv := (val_dec u u (Nat.le_refl _)).1
  have hd := dec_isD u
  have hn : Lib.decNat (Lib.decDigits u) = some u := by
    unfold Lib.decNat
    have : (Lib.decDigits u).isEmpty = false := by
      cases hq : Lib.decDigits u with
      | nil => rw [hq] at hp; simp at hp
      | cons x t => rfl
    rw [this]
    simp only [Bool.false_eq_true, if_false]
    rw [decFrom_val _ hd]
    exact congrArg some hv
  have : Lib.atoi (Lib.decDigits u) = some (u : Int) := by
    cases hq : Lib.decDigits u with
    | nil => rw [hq] at hp; simp at hp
    | cons x t =>
      rw [hq] at hn hd
      have hx := (isD_iff x).1 (hd x (by simp))
      have h1 : ¬ (x == 45) = true := by
        simp only [beq_iff_eq]; rintro rfl; exact absurd hx.1 (by decide)
      have h2 : ¬ (x == 43) = true := by
        simp only [beq_iff_eq]; rintro rfl; exact absurd hx.1 (by decide)
      simp only [Lib.atoi, if_neg h1, if_neg h2, hn]
      rfl
  rw [this]
  rfl
end Go.Proofs.YtecnnlppinhmgaaGreatDoor.Ip
namespace Go.Proofs.YtecnnlppinhmgaaGreatDoor.SfI
open Go.RowKit Go.Proofs.YtecnnlppinhmgaaGreatDoor Go.Proofs.YtecnnlppinhmgaaGreatDoor.HtW Go.Proofs.YtecnnlppinhmgaaGreatDoor.SfA Go.Proofs.YtecnnlppinhmgaaGreatDoor.SfB Go.Proofs.YtecnnlppinhmgaaGreatDoor.IdBox

/-- package bytealg's variable holds some number -/
def Mx (w : World) : Prop := ∃ m, w.cell? ⟨10, 0, none⟩ = some (.int .i64 m)
theorem Mx.below {w w' : World} (h : Mx w) (hb : Below w.heap.size w w') : Mx w' := by
  obtain ⟨m, h⟩ := h
  exact ⟨m, (hb.cell (World.block_lt_of_cell? w _ h)).trans h⟩
theorem itoa_nat (a : Nat) : Lib.itoa (a : Int) = Lib.decDigits a := by
  unfold Lib.itoa
  rw [if_neg (by omega)]
  rfl
theorem nm_nat (x : UInt8) (a b c : Nat) : nm x a b c = x :: 45 :: (Lib.decDigits a ++ 45 :: (Lib.decDigits b ++ 45 :: Lib.decDigits c)) := by
  unfold nm; rw [itoa_nat, itoa_nat, itoa_nat]
theorem count_nm (a b c : Nat) : Lib.count (nm 98 a b c) [45] = 3 := by
  rw [nm_nat, Lib.count_one]
  have f : ∀ u, List.count 45 (Lib.decDigits u) = 0 := fun u => List.count_eq_zero.2 (Ip.free45 u)
  simp [f]
theorem split_nm (a b c : Nat) : Lib.split (nm 98 a b c) [45] = [[98], Lib.decDigits a, Lib.decDigits b, Lib.decDigits c] := by
  unfold Lib.split
  rw [count_nm, nm_nat]
  rw [show (98 : UInt8) :: 45 :: (Lib.decDigits a ++ 45 :: (Lib.decDigits b ++ 45 :: Lib.decDigits c)) = [98] ++ 45 :: (Lib.decDigits a ++ 45 :: (Lib.decDigits b ++ 45 :: Lib.decDigits c)) from rfl]
  rw [Ip.splitK_at45 (by decide), Ip.splitK_at45 (Ip.free45 a), Ip.splitK_at45 (Ip.free45 b)]
  rfl
theorem words_nm (a b c : Nat) : Lib.splitB ⟨#[45]⟩ 0 3 ⟨(nm 98 a b c).toArray⟩ = [⟨#[98]⟩, ⟨(Lib.decDigits a).toArray⟩, ⟨(Lib.decDigits b).toArray⟩, ⟨(Lib.decDigits c).toArray⟩] := by
  have hl := Lib.splitB_all ⟨#[45]⟩ (by decide) 0 3 ⟨(nm 98 a b c).toArray⟩ (count_nm a b c)
  have hd := Lib.splitB_data ⟨#[45]⟩ 0 3 ⟨(nm 98 a b c).toArray⟩
  have hs := split_nm a b c
  unfold Lib.split at hs
  rw [count_nm] at hs
  match hb : Lib.splitB ⟨#[45]⟩ 0 3 ⟨(nm 98 a b c).toArray⟩, hl with
  | [u, x, y, z], _ =>
    rw [hb] at hd
    have h2 : [u.data.toList, x.data.toList, y.data.toList, z.data.toList] = [[98], Lib.decDigits a, Lib.decDigits b, Lib.decDigits c] := by
      rw [← hs]; exact hd
    simp only [List.cons.injEq, and_true] at h2
    obtain ⟨e0, e1, e2, e3⟩ := h2
    rw [← Com.mk_data u, ← Com.mk_data x, ← Com.mk_data y, ← Com.mk_data z, e0, e1, e2, e3]
theorem below_bytes (w : World) (e : TypeId) (t : ByteArray) : Below w.heap.size w (Lib.bytesWorld w e t) :=
  ⟨rfl, rfl, rfl, by rw [Lib.bytesWorld_size]; omega, fun k hk => Lib.bytesWorld_at_old w e t k hk⟩
theorem atoi (u : Nat) (hu : u < 10 ^ 14) (w : World) : Calls Tryz.prog 68 #[.string ⟨(Lib.decDigits u).toArray⟩] w fun e w' => e = .returned (.tuple #[.int .i64 (u : Int), .nilIface]) ∧ Below w.heap.size w w' := by
  have hl := dec_len 13 u hu
  refine (Tryz.strconv_Atoi_ok ⟨(Lib.decDigits u).toArray⟩ (by rw [Com.size_mk]; omega) (u : Int) (Ip.atoi_dec hu) w).mono ?_
  rintro e w' ⟨rfl, rfl | ⟨t, rfl⟩⟩
  · exact ⟨rfl, Below.refl _ _⟩
  · exact ⟨rfl, below_bytes _ _ _⟩

/-- the array's block -/
def Ab (B : Nat) (w : World) (x y z : Value) : Prop := w.heap[B]? = some (.cells #[x, y, z] 122 (0, 0))
theorem Ab.cells {B : Nat} {w : World} {x y z : Value} (h : Ab B w x y z) : w.cell? ⟨B, 0, none⟩ = some x ∧ w.cell? ⟨B, 1, none⟩ = some y ∧ w.cell? ⟨B, 2, none⟩ = some z ∧ w.frozen? ⟨B, 0, none⟩ = false ∧ w.frozen? ⟨B, 1, none⟩ = false ∧ w.frozen? ⟨B, 2, none⟩ = false := by
  unfold Ab at h
  refine ⟨?_, ?_, ?_, Lib.frozen_of_heap h 0, Lib.frozen_of_heap h 1, Lib.frozen_of_heap h 2⟩
  all_goals (rw [Lib.cell_of_heap h]; rfl)
theorem Ab.put0 {B : Nat} {w : World} {x y z : Value} (h : Ab B w x y z) (a : Value) : Ab B (w.setCell ⟨B, 0, none⟩ a) a y z := by
  unfold Ab at h ⊢
  simp only [World.setCell, Array.getElem?_modify, if_true, h]
  rfl
theorem Ab.put1 {B : Nat} {w : World} {x y z : Value} (h : Ab B w x y z) (a : Value) : Ab B (w.setCell ⟨B, 1, none⟩ a) x a z := by
  unfold Ab at h ⊢
  simp only [World.setCell, Array.getElem?_modify, if_true, h]
  rfl
theorem Ab.put2 {B : Nat} {w : World} {x y z : Value} (h : Ab B w x y z) (a : Value) : Ab B (w.setCell ⟨B, 2, none⟩ a) x y a := by
  unfold Ab at h ⊢
  simp only [World.setCell, Array.getElem?_modify, if_true, h]
  rfl
/-- what stands between two rounds: the answer's box, the four words, the three numbers -/
structure St (w W : World) (A B C : ByteArray) (n0 n1 n2 : Int) : Prop where
  bel : Below w.heap.size w W
  id : Ix W w.heap.size 0 0 0
  wd : W.heap[w.heap.size + 1]? = some (.cells #[.string ⟨#[98]⟩, .string A, .string B, .string C] 9 (0, 0))
  ar : Ab (w.heap.size + 2) W (.int .i64 n0) (.int .i64 n1) (.int .i64 n2)
theorem St.below {w W W' : World} {x y z : ByteArray} {n0 n1 n2 : Int} (h : St w W x y z n0 n1 n2) (hb : Below W.heap.size W W') : St w W' x y z n0 n1 n2 :=
  ⟨h.bel.trans (hb.mono h.bel.size), h.id.below hb, (hb.block _ (Array.getElem?_eq_some_iff.1 h.wd).1).trans h.wd, (hb.block _ (Array.getElem?_eq_some_iff.1 h.ar).1).trans h.ar⟩
theorem St.far {w W : World} {x y z : ByteArray} {n0 n1 n2 : Int} (h : St w W x y z n0 n1 n2) (i : Nat) (v : Value) : Below w.heap.size w (W.setCell ⟨w.heap.size + 2, i, none⟩ v) ∧ Ix (W.setCell ⟨w.heap.size + 2, i, none⟩ v) w.heap.size 0 0 0 ∧ (W.setCell ⟨w.heap.size + 2, i, none⟩ v).heap[w.heap.size + 1]? = some (.cells #[.string ⟨#[98]⟩, .string x, .string y, .string z] 9 (0, 0)) :=
  ⟨h.bel.setCell (p := ⟨w.heap.size + 2, i, none⟩) (by simp only; omega) v, (Below.heap_setCell _ _ _ _ (by simp only; omega)).trans h.id, (Below.heap_setCell _ _ _ _ (by simp only; omega)).trans h.wd⟩
theorem St.put0 {w W : World} {x y z : ByteArray} {n0 n1 n2 : Int} (h : St w W x y z n0 n1 n2) (n : Int) : St w (W.setCell ⟨w.heap.size + 2, 0, none⟩ (.int .i64 n)) x y z n n1 n2 :=
  ⟨(h.far 0 _).1, (h.far 0 _).2.1, (h.far 0 _).2.2, h.ar.put0 _⟩
theorem St.put1 {w W : World} {x y z : ByteArray} {n0 n1 n2 : Int} (h : St w W x y z n0 n1 n2) (n : Int) : St w (W.setCell ⟨w.heap.size + 2, 1, none⟩ (.int .i64 n)) x y z n0 n n2 :=
  ⟨(h.far 1 _).1, (h.far 1 _).2.1, (h.far 1 _).2.2, h.ar.put1 _⟩
theorem St.put2 {w W : World} {x y z : ByteArray} {n0 n1 n2 : Int} (h : St w W x y z n0 n1 n2) (n : Int) : St w (W.setCell ⟨w.heap.size + 2, 2, none⟩ (.int .i64 n)) x y z n0 n1 n :=
  ⟨(h.far 2 _).1, (h.far 2 _).2.1, (h.far 2 _).2.2, h.ar.put2 _⟩
theorem St.words {w W : World} {x y z : ByteArray} {n0 n1 n2 : Int} (h : St w W x y z n0 n1 n2) : W.cell? ⟨w.heap.size + 1, 1, none⟩ = some (.string x) ∧ W.cell? ⟨w.heap.size + 1, 2, none⟩ = some (.string y) ∧ W.cell? ⟨w.heap.size + 1, 3, none⟩ = some (.string z) := by
  have := h.wd
  refine ⟨?_, ?_, ?_⟩
  all_goals (rw [Lib.cell_of_heap this]; rfl)

/-- what stands while the answer is made -/
abbrev Sk (w : World) (k : Nat) (a b c : Int) (W : World) : Prop := (W.cell? ⟨k, 0, none⟩ = some (.int .i64 a) ∧ W.cell? ⟨k, 1, none⟩ = some (.int .i64 b) ∧ W.cell? ⟨k, 2, none⟩ = some (.int .i64 c)) ∧ Below w.heap.size w W
theorem Sk.below {w W W' : World} {k : Nat} {a b c : Int} (h : Sk w k a b c W) (hb : Below W.heap.size W W') : Sk w k a b c W' := by
  obtain ⟨⟨h1, h2, h3⟩, h5⟩ := h
  have g1 : k < W.heap.size := World.block_lt_of_cell? _ _ h1
  exact ⟨⟨(hb.cell (p := ⟨k, 0, none⟩) g1).trans h1, (hb.cell (p := ⟨k, 1, none⟩) g1).trans h2, (hb.cell (p := ⟨k, 2, none⟩) g1).trans h3⟩, h5.trans (hb.mono h5.size)⟩
theorem st3_cell {w : World} {B g j : Nat} (h : g ≠ B) (x y z : Value) : (((w.setCell ⟨B, 0, none⟩ x).setCell ⟨B, 1, none⟩ y).setCell ⟨B, 2, none⟩ z).cell? ⟨g, j, none⟩ = w.cell? ⟨g, j, none⟩ := by
  refine World.cell?_of_block (a := ⟨g, j, none⟩) ?_
  iterate 3 rw [Below.heap_setCell _ _ _ _ (fun e => absurd e (show g ≠ B from h))]
theorem put_ix {w : World} {g : Nat} {x y z : Int} (h : Ix w g x y z) (a b c : Int) : Ix (((w.setCell ⟨g, 0, none⟩ (.int .i64 a)).setCell ⟨g, 1, none⟩ (.int .i64 b)).setCell ⟨g, 2, none⟩ (.int .i64 c)) g a b c := by
  unfold Ix at h ⊢
  simp only [World.setCell, Array.getElem?_modify, if_true, h]
  rfl
theorem id_size : (Tryz.prog.info? 23).map (·.size) = some 3 := by kernel_rfl
theorem results2 {fn : Func} {p t : Tmp} {ty : TypeId} (h : fn.results = #[.cell p ty, .tmp t]) (tmps : Array Value) (P : Program) (w : World) :
    (results fn tmps).run P w = ((asAddr (tmps.getD p undef)).run P w).andThen fun a w₁ => ((loadVar ty a).run P w₁).andThen fun x w₂ => .ok (.tuple #[x, tmps.getD t undef]) w₂ := by
  simp only [results, h]
  simp [Sem.run_bind, Result.andThen]
theorem res_id {w : World} {g : Nat} {x y z : Int} {b : Value} {fn : Func} {tmps : Array Value} (hg : Ix w g x y z) (e : fn.results = #[.cell 2 23, .tmp 3]) (h2 : tmps.getD 2 undef = .pointer (some ⟨g, 0, none⟩)) (h3 : tmps.getD 3 undef = b) :
    (results fn tmps).run Tryz.prog w = .ok (.tuple #[.agg #[.int .i64 x, .int .i64 y, .int .i64 z], b]) w := by
  rw [results2 e, h2, h3]
  simp [asAddr, Result.andThen, run_loadVar_row w g 23 23 _ _ _ hg Tryz.underlying23 rfl (id_size.trans (congrArg some rfl))]

set_option maxHeartbeats 8000000 in
set_option maxRecDepth 100000 in
theorem parse (a b c : Nat) (w : World) (hg : FrK.goodB a b c = true) (hm : Mx w) (ht : Itoa.Tab w) :
    Calls Tryz.prog 44 #[.string ⟨(nm 98 a b c).toArray⟩] w fun e w' => e = .returned (.tuple #[.agg #[.int .i64 (a : Int), .int .i64 (b : Int), .int .i64 (c : Int)], .bool true]) ∧ Below w.heap.size w w' := by
  have hgb : 0 ≤ (a : Int) ∧ (a : Int) < 16 ∧ 0 ≤ (b : Int) ∧ (b : Int) ≤ 1099511627776 ∧ 0 ≤ (c : Int) ∧ (c : Int) ≤ 1099511627776 := by unfold FrK.goodB at hg; exact of_decide_eq_true hg
  have hfa : Few a := ⟨by omega, by omega⟩
  have hfb : Few b := ⟨by omega, by omega⟩
  have hfc : Few c := ⟨by omega, by omega⟩
  have e14 : (10 ^ 14 : Nat) = 100000000000000 := by decide
  obtain ⟨w1, hw1, hb1, hI1⟩ : ∃ w1, w1 = w.alloc (.cells #[.int .i64 0, .int .i64 0, .int .i64 0] 23) ∧ Below w.heap.size w w1 ∧ Ix w1 w.heap.size 0 0 0 := ⟨_, rfl, (Below.refl _ _).alloc (Nat.le_refl _) _, heap_alloc_new _ _⟩
  have hz1 : w1.heap.size = w.heap.size + 1 := by rw [hw1]; simp
  obtain ⟨mm, hm1⟩ := hm.below hb1
  have hsn := nm_size (x := 98) hfa hfb hfc
  have hsz : (⟨(nm 98 a b c).toArray⟩ : ByteArray).size ≤ 64 := by
    have la := hfa.len
    have lb := hfb.len
    have lc := hfc.len
    rw [Com.size_mk]
    unfold nm
    simp
    omega
  have HC := Lib.hid (show Calls Tryz.prog 67 #[.string ⟨(nm 98 a b c).toArray⟩, .string ⟨#[45]⟩] w1 fun e w' => e = .returned (.slice (some ⟨w.heap.size + 1, 0, none⟩) 4 4) ∧ w' = w1.alloc (.cells #[.string ⟨#[98]⟩, .string ⟨(Lib.decDigits a).toArray⟩, .string ⟨(Lib.decDigits b).toArray⟩, .string ⟨(Lib.decDigits c).toArray⟩] 9) by
    refine (Tryz.strings_Split ⟨(nm 98 a b c).toArray⟩ ⟨#[45]⟩ mm w1 (by omega) hm1 (by decide)).mono ?_
    rintro e w' ⟨rfl, rfl⟩
    rw [show Lib.countB ⟨(nm 98 a b c).toArray⟩ ⟨#[45]⟩ = 3 from count_nm a b c, words_nm, hz1]
    exact ⟨rfl, rfl⟩)
  obtain ⟨W0, hW0⟩ : ∃ W0, W0 = (w1.alloc (.cells #[.string ⟨#[98]⟩, .string ⟨(Lib.decDigits a).toArray⟩, .string ⟨(Lib.decDigits b).toArray⟩, .string ⟨(Lib.decDigits c).toArray⟩] 9)).alloc (.cells #[.int .i64 0, .int .i64 0, .int .i64 0] 122) := ⟨_, rfl⟩
  have hS0 : St w W0 ⟨(Lib.decDigits a).toArray⟩ ⟨(Lib.decDigits b).toArray⟩ ⟨(Lib.decDigits c).toArray⟩ 0 0 0 := by
    rw [hW0]
    refine ⟨(hb1.alloc hb1.size _).alloc (hb1.alloc hb1.size _).size _, ?_, ?_, ?_⟩
    · exact (Below.heap_alloc _ _ _ (by simp; omega)).trans ((Below.heap_alloc _ _ _ (by omega)).trans hI1)
    · refine (Below.heap_alloc _ _ _ (by simp; omega)).trans ?_
      have := heap_alloc_new w1 (.cells #[.string ⟨#[98]⟩, .string ⟨(Lib.decDigits a).toArray⟩, .string ⟨(Lib.decDigits b).toArray⟩, .string ⟨(Lib.decDigits c).toArray⟩] 9)
      rwa [hz1] at this
    · have := heap_alloc_new (w1.alloc (.cells #[.string ⟨#[98]⟩, .string ⟨(Lib.decDigits a).toArray⟩, .string ⟨(Lib.decDigits b).toArray⟩, .string ⟨(Lib.decDigits c).toArray⟩] 9)) (.cells #[.int .i64 0, .int .i64 0, .int .i64 0] 122)
      rwa [World.size_alloc, hz1] at this
  have HS0 := Lib.hid hS0
  have KA0 := Lib.hid (fun W => atoi a (by omega) W)
  have KA1 := Lib.hid (fun W => atoi b (by omega) W)
  have KA2 := Lib.hid (fun W => atoi c (by omega) W)
  have HT := Lib.hid ht
  have HG := Lib.hid hg
  obtain ⟨N, hN⟩ : ∃ N, N = nm 98 a b c := ⟨_, rfl⟩
  rw [← hN] at HC ⊢
  have HN := Lib.hid hN
  have HZ1 := Lib.hid hz1
  clear hgb hS0 hm hm1 hb1 hI1 hsn hsz ht hg hN e14
  go_enter Tryz.func44, Tryz.ntmps44
  go_upto_region 1 with fail
  rw [← hw1]
  clear hw1
  go_wp2_with (go_at_call 67; refine HC.out.mono ?_; rintro e w' ⟨rfl, rfl⟩)
  rw [show w.heap.size + 1 + 1 = w.heap.size + 2 from rfl]
  rw [← hW0]
  clear hW0 hz1
  obtain ⟨c0, c1, c2⟩ := HS0.out.words
  refine wp_loop_rounds 4 ?_
  rw [rounds_succ]
  go_wp2_with (go_at_call 68; refine (KA0.out _).mono ?_; rintro e v0 ⟨rfl, hb⟩; have S0 := HS0.out.below hb; obtain ⟨a0, a1, a2, f0, f1, f2⟩ := S0.ar.cells; have T0 := Lib.hid (S0.put0 (a : Int)); clear hb S0)
  clear a0 a1 a2 f0 f1 f2 c0 c1 c2
  generalize v0.setCell ⟨w.heap.size + 2, 0, none⟩ (.int .i64 (a : Int)) = W1 at *
  obtain ⟨c0, c1, c2⟩ := T0.out.words
  rw [rounds_succ]
  go_wp2_with (go_at_call 68; refine (KA1.out _).mono ?_; rintro e v1 ⟨rfl, hb⟩; have S1 := T0.out.below hb; obtain ⟨a0, a1, a2, f0, f1, f2⟩ := S1.ar.cells; have T1 := Lib.hid (S1.put1 (b : Int)); clear hb S1)
  clear a0 a1 a2 f0 f1 f2 c0 c1 c2
  generalize v1.setCell ⟨w.heap.size + 2, 1, none⟩ (.int .i64 (b : Int)) = W2 at *
  obtain ⟨c0, c1, c2⟩ := T1.out.words
  rw [rounds_succ]
  go_wp2_with (go_at_call 68; refine (KA2.out _).mono ?_; rintro e v2 ⟨rfl, hb⟩; have S2 := T1.out.below hb; obtain ⟨a0, a1, a2, f0, f1, f2⟩ := S2.ar.cells; have T2 := Lib.hid (S2.put2 (c : Int)); clear hb S2)
  clear a0 a1 a2 f0 f1 f2 c0 c1 c2
  generalize v2.setCell ⟨w.heap.size + 2, 2, none⟩ (.int .i64 (c : Int)) = W3 at *
  obtain ⟨c0, c1, c2⟩ := T2.out.words
  rw [rounds_succ]
  obtain ⟨a0, a1, a2, _, _, _⟩ := T2.out.ar.cells
  obtain ⟨W4, hW4, hbx, hK⟩ : ∃ W4, W4 = W3.alloc (.cells #[.int .i64 (a : Int), .int .i64 (b : Int), .int .i64 (c : Int)] 23) ∧ Below W3.heap.size W3 W4 ∧ Ix W4 W3.heap.size a b c := ⟨_, rfl, (Below.refl _ _).alloc (Nat.le_refl _) _, heap_alloc_new _ _⟩
  have HI4 := Lib.hid (T2.out.id.below hbx)
  have HB4 := Lib.hid (T2.out.bel.trans (hbx.mono T2.out.bel.size))
  have HK4 := Lib.hid hK
  clear hbx hK
  go_upto_region 11 with fail
  rw [← hW4]
  clear hW4 a0 a1 a2 c0 c1 c2
  obtain ⟨k, hk⟩ : ∃ k, k = W3.heap.size := ⟨_, rfl⟩
  have hkw : k ≠ w.heap.size := by have := (Array.getElem?_eq_some_iff.1 T2.out.id).1; omega
  rw [← hk] at HK4 ⊢
  clear hk
  have hS4 : Sk w k a b c W4.drew := Sk.below ⟨⟨HK4.out.cells.1, HK4.out.cells.2.1, HK4.out.cells.2.2⟩, HB4.out⟩ (Below.refl _ _).drew
  have HS4 := Lib.hid hS4
  have HI4' := Lib.hid (HI4.out.below (Below.refl _ _).drew)
  have KG := Lib.hid (show ∀ W, Calls Tryz.prog 37 #[.agg #[.int .i64 (a : Int), .int .i64 (b : Int), .int .i64 (c : Int)]] W fun e w' => e = .returned (.bool true) ∧ Below W.heap.size W w' from fun W => by
    have h := FrK.good a b c W
    rw [HG.out] at h
    exact h)
  have KM := Lib.hid (show ∀ W, Sk w k a b c W → Calls Tryz.prog 31 #[.string ⟨#[98]⟩, .agg #[.int .i64 (a : Int), .int .i64 (b : Int), .int .i64 (c : Int)]] W fun e w' => e = .returned (.string ⟨N.toArray⟩) ∧ Below W.heap.size W w' from fun W hW => by
    have h := name 98 a b c W hfa hfb hfc (HT.out.below hW.2)
    rw [← HN.out] at h
    exact h)
  clear hS4
  refine HeldH.region (fun W => (W.cell? ⟨k, 0, none⟩ = some (.int .i64 (a : Int)) ∧ W.cell? ⟨k, 1, none⟩ = some (.int .i64 (b : Int)) ∧ W.cell? ⟨k, 2, none⟩ = some (.int .i64 (c : Int))) ∧ Below w.heap.size w W) (by kernel_rfl) ?_
  refine HeldH.take (i := 0) (v := ?v0) rfl (by kernel_rfl) (by kernel_rfl) (by kernel_rfl) (fun _ _ _ h => h) HS4.out (by rfl) ?hy0 ?hr0
  case hy0 => intro W hSw; go_simp; try with_reducible rfl
  try simp only [Act.put, List.setIfInBounds_toArray]
  refine HeldH.take (i := 1) (v := ?v1) rfl (by kernel_rfl) (by kernel_rfl) (by kernel_rfl) (fun _ _ _ h => h) HS4.out (by rfl) ?hy1 ?hr1
  case hy1 => intro W hSw; go_simp; try with_reducible rfl
  try simp only [Act.put]
  refine HeldH.one (i := 2) (by kernel_rfl) rfl (fun K hK => ?_)
  go_simp
  go_at_call 37
  refine (KG.out _).mono ?_
  rintro e W5 ⟨rfl, hb5⟩
  try go_wp2_with fail
  have hS5 := HS4.out.below hb5
  have HI5 := Lib.hid (HI4'.out.below hb5)
  refine hK.out _ _ hS5 ?_
  clear hK K
  try simp only [Act.put, List.setIfInBounds_toArray, List.set_cons_zero, List.set_cons_succ]
  refine HeldH.take (i := 3) (v := ?v3) rfl (by kernel_rfl) (by kernel_rfl) (by kernel_rfl) (fun _ _ _ h => h) hS5 (by rfl) ?hy3 ?hr3
  case hy3 => intro W hSw; go_simp; try with_reducible rfl
  try simp only [Act.put, List.setIfInBounds_toArray]
  refine HeldH.take (i := 4) (v := ?v4) rfl (by kernel_rfl) (by kernel_rfl) (by kernel_rfl) (fun _ _ _ h => h) hS5 (by rfl) ?hy4 ?hr4
  case hy4 => intro W hSw; go_simp; try with_reducible rfl
  try simp only [Act.put]
  refine HeldH.take (i := 6) (v := ?v6) rfl (by kernel_rfl) (by kernel_rfl) (by kernel_rfl) (fun _ _ _ h => h) hS5 (by rfl) ?hy6 ?hr6
  case hy6 => intro W hSw; go_simp; try with_reducible rfl
  try simp only [Act.put]
  refine HeldH.one (i := 5) (by kernel_rfl) rfl (fun K hK => ?_)
  go_simp
  go_at_call 31
  refine (KM.out _ hS5).mono ?_
  rintro e W6 ⟨rfl, hb6⟩
  try go_wp2_with fail
  have hS6 := hS5.below hb6
  have HI6 := Lib.hid (HI5.out.below hb6)
  refine hK.out _ _ hS6 ?_
  clear hK K
  try simp only [Act.put, List.setIfInBounds_toArray, List.set_cons_zero, List.set_cons_succ]
  refine HeldH.take (i := 7) (v := ?v7) rfl (by kernel_rfl) (by kernel_rfl) (by kernel_rfl) (fun _ _ _ h => h) hS6 (by rfl) ?hy7 ?hr7
  case hy7 => intro W hSw; go_simp; try with_reducible rfl
  try simp only [Act.put, List.setIfInBounds_toArray]
  refine HeldH.take (i := 8) (v := ?v8) rfl (by kernel_rfl) (by kernel_rfl) (by kernel_rfl) (fun _ _ _ h => h) hS6 (by rfl) ?hy8 ?hr8
  case hy8 => intro W hSw; go_simp; try with_reducible rfl
  try simp only [Act.put]
  obtain ⟨i0, i1, i2⟩ := HI6.out.cells
  have f0 : W6.frozen? ⟨w.heap.size, 0, none⟩ = false := Lib.frozen_of_heap HI6.out _
  have f1 : W6.frozen? ⟨w.heap.size, 1, none⟩ = false := Lib.frozen_of_heap HI6.out _
  have f2 : W6.frozen? ⟨w.heap.size, 2, none⟩ = false := Lib.frozen_of_heap HI6.out _
  have hcg : ∀ j, (((W6.setCell ⟨w.heap.size, 0, none⟩ (.int .i64 (a : Int))).setCell ⟨w.heap.size, 1, none⟩ (.int .i64 (b : Int))).setCell ⟨w.heap.size, 2, none⟩ (.int .i64 (c : Int))).cell? ⟨k, j, none⟩ = W6.cell? ⟨k, j, none⟩ := fun j => st3_cell hkw _ _ _
  have hbe := ((hS6.2.setCell (p := ⟨w.heap.size, 0, none⟩) (Nat.le_refl _) (.int .i64 (a : Int))).setCell (p := ⟨w.heap.size, 1, none⟩) (Nat.le_refl _) (.int .i64 (b : Int))).setCell (p := ⟨w.heap.size, 2, none⟩) (Nat.le_refl _) (.int .i64 (c : Int))
  have hS7 := And.intro (And.intro ((hcg 0).trans hS6.1.1) (And.intro ((hcg 1).trans hS6.1.2.1) ((hcg 2).trans hS6.1.2.2))) hbe
  have hP := put_ix HI6.out a b c
  refine HeldH.one (i := 9) (by kernel_rfl) rfl (fun K hK => ?_)
  go_simp
  refine hK.out _ _ hS7 ?_
  clear hK K
  try simp only [Act.put, List.setIfInBounds_toArray, List.set_cons_zero, List.set_cons_succ]
  refine HeldH.one (i := 10) (by kernel_rfl) rfl (fun K hK => ?_)
  go_simp
  refine hK.out _ _ hS7 ?_
  clear hK K
  try simp only [Act.put, List.setIfInBounds_toArray, List.set_cons_zero, List.set_cons_succ]
  refine wpAnyH_done (by kernel_rfl) ?_ _
  have HP := Lib.hid hP
  have HBE := Lib.hid hbe
  clear hS7 hcg i0 i1 i2 f0 f1 f2 hbe hP hS6 hS5
  go_wp2_with fail
  exact bodyPost_ret (res_id HP.out rfl rfl rfl) rfl ⟨rfl, HBE.out⟩
end Go.Proofs.YtecnnlppinhmgaaGreatDoor.SfI
