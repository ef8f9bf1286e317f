/-
  Decimal numerals, plain Lean: their length and their bytes.
-/
import Derived.Lib.ItoaNum
import Derived.Test.YtnhjbcjeeilicaaGreatDoorXmlPlain
namespace Go.Proofs.YtnhjbcjeeilicaaGreatDoor.Dec

theorem dec_len : ∀ (k u : Nat), u < 10 ^ (k + 1) → (Lib.decDigits u).length ≤ k + 1
  | 0, u, h => by
    rw [Lib.decDigits, dif_pos (by simpa using h)]
    simp
  | k + 1, u, h => by
    rw [Lib.decDigits]
    split
    · simp
    · have h2 : u / 10 < 10 ^ (k + 1) := by rw [Nat.pow_succ] at h; omega
      have := dec_len k (u / 10) h2
      simp; omega
theorem dec_pos (u : Nat) : 1 ≤ (Lib.decDigits u).length := by
  rw [Lib.decDigits]; split <;> simp
theorem dec_digit : ∀ (n u : Nat), u ≤ n → ∀ c ∈ Lib.decDigits u, 48 ≤ c.toNat ∧ c.toNat ≤ 57
  | n, u, hn, c, hc => by
    rw [Lib.decDigits] at hc
    split at hc
    · rename_i h
      rw [List.mem_singleton] at hc
      subst hc
      have : (UInt8.ofNat (48 + u)).toNat = 48 + u := by rw [UInt8.toNat_ofNat']; omega
      omega
    · rename_i h
      rw [List.mem_append] at hc
      rcases hc with hc | hc
      · cases n with
        | zero => omega
        | succ n => exact dec_digit n (u / 10) (by omega) c hc
      · rw [List.mem_singleton] at hc
        subst hc
        have : (UInt8.ofNat (48 + u % 10)).toNat = 48 + u % 10 := by rw [UInt8.toNat_ofNat']; omega
        omega
theorem itoa_len {n : Int} (h0 : -9223372036854775808 ≤ n) (h1 : n ≤ 9223372036854775807) : (Lib.itoa n).length ≤ 21 := by
  unfold Lib.itoa
  split
  · have := dec_len 19 n.natAbs (by have : n.natAbs ≤ 9223372036854775808 := by omega
                                    have : (9223372036854775808 : Nat) < 10 ^ 20 := by decide
                                    omega)
    simp; omega
  · have := dec_len 19 n.toNat (by have : n.toNat ≤ 9223372036854775807 := by omega
                                   have : (9223372036854775807 : Nat) < 10 ^ 20 := by decide
                                   omega)
    omega
theorem itoa_byte {n : Int} : ∀ c ∈ Lib.itoa n, c.toNat = 45 ∨ 48 ≤ c.toNat ∧ c.toNat ≤ 57 := by
  intro c hc
  unfold Lib.itoa at hc
  split at hc
  · rcases List.mem_cons.1 hc with rfl | hc
    · exact .inl rfl
    · exact .inr (dec_digit _ _ (Nat.le_refl _) c hc)
  · exact .inr (dec_digit _ _ (Nat.le_refl _) c hc)
theorem esc_plain {l : List UInt8} (h : ∀ c ∈ l, c.toNat = 45 ∨ 48 ≤ c.toNat ∧ c.toNat ≤ 57) : Xp.esc l = l := by
  induction l with
  | nil => rfl
  | cons c t ih =>
    rw [Xp.esc_cons, ih fun d hd => h d (List.mem_cons_of_mem _ hd)]
    have hc := h c List.mem_cons_self
    rcases Xp.ent_cases c with ⟨rfl, e⟩ | ⟨rfl, e⟩ | ⟨rfl, e⟩ | ⟨rfl, e⟩ | ⟨rfl, e⟩ | ⟨_, _, _, _, _, e⟩
    · exact absurd hc (by decide)
    · exact absurd hc (by decide)
    · exact absurd hc (by decide)
    · exact absurd hc (by decide)
    · exact absurd hc (by decide)
    · rw [Xp.escB_plain e]; rfl
theorem esc_itoa (n : Int) : Xp.esc (Lib.itoa n) = Lib.itoa n := esc_plain itoa_byte
end Go.Proofs.YtnhjbcjeeilicaaGreatDoor.Dec
