/-
  Ids' texts, plainly, once more; strconv.Atoi at every text.
-/
import Derived.Test.YtmimkgfkicgfiaaDoorIdF
import Derived.Test.YtmimkgfkicgfiaaDoorShelfB
import Derived.Test.YtmimkgfkicgfiaaDoorXmlL
namespace Go.Proofs.YtmimkgfkicgfiaaDoor.IdD
open Go.Shelf Go.RowKit Go.Proofs.YtmimkgfkicgfiaaDoor Go.Proofs.YtmimkgfkicgfiaaDoor.Ip Go.Proofs.YtmimkgfkicgfiaaDoor.IdC Go.Proofs.YtmimkgfkicgfiaaDoor.IdF

/-! texts cut at '-' -/
theorem cut45 : ∀ {a b a' b' : List UInt8}, (45 : UInt8) ∉ a → (45 : UInt8) ∉ a' → a ++ 45 :: b = a' ++ 45 :: b' → a = a' ∧ b = b'
  | [], b, [], b', _, _, h => by simp at h; exact ⟨rfl, h⟩
  | [], b, x :: t, b', _, h2, h => by simp at h; exact absurd (by rw [← h.1]; simp) h2
  | x :: t, b, [], b', h1, _, h => by simp at h; exact absurd (by rw [h.1]; simp) h1
  | x :: t, b, y :: u, b', h1, h2, h => by
    simp only [List.cons_append, List.cons.injEq] at h
    obtain ⟨e1, e2⟩ := cut45 (a := t) (a' := u) (fun hm => h1 (by simp [hm])) (fun hm => h2 (by simp [hm])) h.2
    exact ⟨by rw [h.1, e1], e2⟩
theorem itoa_nat (a : Nat) : Lib.itoa (a : Int) = Lib.decDigits a := by
  unfold Lib.itoa
  rw [if_neg (by omega)]
  rfl
theorem dec_inj {a b : Nat} (h : Lib.decDigits a = Lib.decDigits b) : a = b := by
  have := congrArg val h
  rwa [(val_dec a a (Nat.le_refl _)).1, (val_dec b b (Nat.le_refl _)).1] at this
theorem itoa_head {x : Int} {a : Nat} {r r' : List UInt8} (h : Lib.itoa x ++ 45 :: r = Lib.decDigits a ++ 45 :: r') : x = a ∧ r = r' := by
  by_cases hx : x < 0
  · unfold Lib.itoa at h
    rw [if_pos hx] at h
    have hp := Dec.dec_pos a
    cases hd : Lib.decDigits a with
    | nil => rw [hd] at hp; simp at hp
    | cons y t =>
      rw [hd] at h
      simp only [List.cons_append, List.cons.injEq] at h
      have := dec_isD a y (by rw [hd]; simp)
      rw [← h.1] at this
      exact absurd this (by decide)
  · obtain ⟨n, rfl⟩ : ∃ n : Nat, x = n := ⟨x.toNat, by omega⟩
    rw [itoa_nat] at h
    obtain ⟨h1, h2⟩ := cut45 (free45 n) (free45 a) h
    exact ⟨by rw [dec_inj h1], h2⟩
theorem itoa_last {x : Int} {a : Nat} (h : Lib.itoa x = Lib.decDigits a) : x = a := by
  have h2 : Lib.itoa x ++ 45 :: [] = Lib.decDigits a ++ 45 :: [] := by rw [h]
  exact (itoa_head h2).1
theorem idText_nat (a b c : Nat) : Xd.idText a b c = idt a b c := by
  unfold Xd.idText idt
  rw [itoa_nat, itoa_nat, itoa_nat]
  simp
theorem idText_inj {x y z : Int} {a b c : Nat} (h : Xd.idText x y z = idt a b c) : x = a ∧ y = b ∧ z = c := by
  unfold Xd.idText idt at h
  have h' : Lib.itoa x ++ 45 :: (Lib.itoa y ++ 45 :: Lib.itoa z) = Lib.decDigits a ++ 45 :: (Lib.decDigits b ++ 45 :: Lib.decDigits c) := by simpa using h
  obtain ⟨h1, h2⟩ := itoa_head h'
  obtain ⟨h3, h4⟩ := itoa_head h2
  exact ⟨h1, h3, itoa_last h4⟩
theorem idt_inj {a b c a' b' c' : Nat} (h : idt a b c = idt a' b' c') : a = a' ∧ b = b' ∧ c = c' := by
  rw [← idText_nat] at h
  obtain ⟨h1, h2, h3⟩ := idText_inj h
  exact ⟨by omega, by omega, by omega⟩
theorem yes_iff (t : List UInt8) (a b c : Nat) : Yes t a b c ↔ t = idt a b c ∧ good a b c :=
  ⟨fun ⟨h, g⟩ => ⟨h.text, g⟩, fun ⟨h, g⟩ => ⟨by rw [h]; exact Reads.of g, g⟩⟩
theorem gd_good {x y z : Int} : IdA.gd x y z = true ↔ ∃ a b c : Nat, x = a ∧ y = b ∧ z = c ∧ good a b c := by
  constructor
  · intro h
    simp only [IdA.gd, Bool.and_eq_true, decide_eq_true_eq] at h
    obtain ⟨⟨⟨⟨⟨h1, h2⟩, h3⟩, h4⟩, h5⟩, h6⟩ := h
    exact ⟨x.toNat, y.toNat, z.toNat, by omega, by omega, by omega, by omega, by omega, by omega⟩
  · rintro ⟨a, b, c, rfl, rfl, rfl, h1, h2, h3⟩
    simp only [IdA.gd, Bool.and_eq_true, decide_eq_true_eq]
    omega
/-! Atoi at every text -/
/-- the number that Atoi gives -/
def vA (l : List UInt8) : Int := match Lib.atoiAll l with
  | .ok n => n
  | .range => Lib.atoiSat l
  | _ => 0
theorem vA_in (l : List UInt8) : -9223372036854775808 ≤ vA l ∧ vA l ≤ 9223372036854775807 := by
  unfold vA
  cases h : Lib.atoiAll l with
  | ok v =>
    simp only
    unfold Lib.atoiAll at h
    cases l with
    | nil => cases h
    | cons c r =>
      simp only at h
      split at h
      · cases h
      · cases h
      · split at h
        · cases h
        · split at h
          · cases h
          · rename_i h1 h2
            cases h
            split
            · rename_i h3
              have : ¬ 9223372036854775808 < _ := fun h4 => h2 ⟨h3, h4⟩
              omega
            · rename_i h3
              have : ¬ 9223372036854775808 ≤ _ := fun h4 => h1 ⟨h3, h4⟩
              omega
  | range => simp only [Lib.atoiSat]; split <;> omega
  | _ => simp only; omega
theorem vA_dec {u : Nat} (h : u < 10 ^ 14) : vA (Lib.decDigits u) = u := by
  unfold vA
  rw [atoi_dec h]
/-- the errors that Atoi names -/
structure Ne (w : World) : Prop where
  syn : ∃ te pe, w.cell? ⟨19, 0, none⟩ = some (.iface te pe)
  rng : ∃ te pe, w.cell? ⟨20, 0, none⟩ = some (.iface te pe)
theorem Ne.below {w w' : World} (h : Ne w) (hb : Below w.heap.size w w') : Ne w' := by
  obtain ⟨te, pe, h1⟩ := h.syn
  obtain ⟨tf, pf, h2⟩ := h.rng
  exact ⟨⟨te, pe, (hb.cell (World.block_lt_of_cell? w _ h1)).trans h1⟩, ⟨tf, pf, (hb.cell (World.block_lt_of_cell? w _ h2)).trans h2⟩⟩
def Mx (w : World) : Prop := ∃ m, w.cell? ⟨18, 0, none⟩ = some (.int .i64 m)
theorem Mx.below {w w' : World} (h : Mx w) (hb : Below w.heap.size w w') : Mx w' := by
  obtain ⟨m, h⟩ := h
  exact ⟨m, (hb.cell (World.block_lt_of_cell? w _ h)).trans h⟩
theorem below_bytes (w : World) (e : TypeId) (t : ByteArray) : Below w.heap.size w (Lib.bytesWorld w e t) :=
  ⟨rfl, rfl, rfl, by rw [Lib.bytesWorld_size]; omega, fun k hk => Lib.bytesWorld_at_old w e t k hk⟩
theorem atoi (s : ByteArray) (w : World) (hs : s.size ≤ 281474976710656) (hn : Ne w) :
    Calls Tryd.prog 99 #[.string s] w fun e w' => (∃ ev, e = .returned (.tuple #[.int .i64 (vA s.data.toList), ev])) ∧ Below w.heap.size w w' := by
  unfold vA
  cases h : Lib.atoiAll s.data.toList with
  | ok v =>
    refine (Tryd.strconv_Atoi_ok s (by omega) v h w).mono ?_
    rintro e w' ⟨rfl, rfl | ⟨t, rfl⟩⟩
    · exact ⟨⟨_, rfl⟩, Below.refl _ _⟩
    · exact ⟨⟨_, rfl⟩, below_bytes _ _ _⟩
  | range =>
    obtain ⟨te, pe, h2⟩ := hn.rng
    refine (Tryd.strconv_Atoi_range s hs h _ w h2 (.inr ⟨te, pe, rfl⟩)).mono ?_
    rintro e w' ⟨N, rfl, _, _, hb⟩
    exact ⟨⟨_, rfl⟩, hb⟩
  | _ =>
    obtain ⟨te, pe, h1⟩ := hn.syn
    refine (Any.strconv_Atoi_syntax Tryd.laysC172 s hs h _ w h1 (.inr ⟨te, pe, rfl⟩)).mono ?_
    rintro e w' ⟨N, rfl, _, _, hb⟩
    exact ⟨⟨_, rfl⟩, hb⟩
end Go.Proofs.YtmimkgfkicgfiaaDoor.IdD
