/-
  The walks of the documents' Decimal and Signed.
-/
import Derived.Test.YtnhjbcjeeilicaaDoorCom
import Derived.Test.YtnhjbcjeeilicaaDoorDec
import Derived.WalkKit
import Derived.WalkSpells
import Derived.WalkLawsBesides
import Derived.WalkSmall
import Derived.Outline
import Derived.Deep.LoopGhost
import Derived.Lib.Hide
import Derived.Test.YtnhjbcjeeilicaaDoorProg
namespace Go.Proofs.YtnhjbcjeeilicaaDoor.DecW
open Go.RowKit Go.Proofs.YtnhjbcjeeilicaaDoor

/-- the digits that stand ahead of those that are written -/
def ahead (u : Nat) : List UInt8 := if u = 0 then [] else Lib.decDigits u
theorem ahead_step (u : Nat) (l : List UInt8) (h : u ≠ 0) : ahead (u / 10) ++ (UInt8.ofNat (48 + u % 10) :: l) = ahead u ++ l := by
  unfold ahead
  rw [if_neg h]
  conv => rhs; rw [Lib.decDigits]
  by_cases h2 : u < 10
  · rw [dif_pos h2, if_pos (by omega), show u % 10 = u by omega]
    rfl
  · rw [dif_neg h2, if_neg (by omega)]
    simp
theorem dec_first (n : Nat) : ahead (n / 10) ++ [UInt8.ofNat (48 + n % 10)] = Lib.decDigits n := by
  by_cases h : n = 0
  · subst h
    rw [Lib.decDigits, dif_pos (by omega)]
    rfl
  · have := ahead_step n [] h
    rw [List.append_nil] at this
    rw [this]
    unfold ahead
    rw [if_neg h]

theorem one (wr : World) (u : Nat) : ∃ d : UInt8, Hid (d = UInt8.ofNat (48 + u % 10)) ∧ (convert 23 9 (.slice (some ⟨wr.heap.size, 0, none⟩) 1 1)).run Tryd.prog (wr.alloc (.cells #[.int .u8 (48 + (u : Int) % 10)] 5)) = .ok (.string ⟨[d].toArray⟩) (wr.alloc (.cells #[.int .u8 (48 + (u : Int) % 10)] 5)) := by
  have h := Com.one_byte (P := Tryd.prog) wr 23 9 5 Tryd.underlying23 Tryd.underlying5 Tryd.underlying9 (48 + u % 10) (by omega)
  rw [show (48 + (u : Int) % 10) = ((48 + u % 10 : Nat) : Int) by omega]
  exact ⟨_, rfl, h⟩
theorem len_of {u m : Nat} {l : List UInt8} (h : ahead u ++ l = Lib.decDigits m) (hm : m ≤ 9223372036854775808) : l.length ≤ 20 := by
  have h1 := congrArg List.length h
  have h2 := Dec.dec_len 19 m (by have : (9223372036854775808 : Nat) < 10 ^ 20 := by decide
                                  omega)
  rw [List.length_append] at h1
  omega

set_option maxHeartbeats 1000000 in
set_option maxRecDepth 100000 in
theorem decimal (n : Nat) (hn : n ≤ 9223372036854775807) (w : World) :
    Calls Tryd.prog 28 #[.int .i64 n] w fun e w' => e = .returned (.string ⟨(Lib.decDigits n).toArray⟩) ∧ Below w.heap.size w w' := by
  go_enter Tryd.func28, Tryd.ntmps28
  go_wp2
  go_loopg [0, 3] (n + 1) (fun g t s wr => ∃ (u : Nat) (l : List UInt8), t = .int .i64 u ∧ s = .string ⟨l.toArray⟩ ∧ u ≤ 9223372036854775807 ∧ Below w.heap.size w wr ∧ ((l = [] ∧ u = n ∧ g = n + 1) ∨ (l ≠ [] ∧ u = g ∧ Hid (ahead u ++ l = Lib.decDigits n))))
  case atStart => exact ⟨n, [], rfl, rfl, hn, Below.refl _ _, .inl ⟨rfl, rfl, rfl⟩⟩
  case round =>
    obtain ⟨u, l, rfl, rfl, hu, hb, h⟩ := hrel
    have hsz := hb.size
    obtain ⟨d, HX, conv⟩ := one wr u
    rcases h with ⟨rfl, rfl, rfl⟩ | ⟨hl, rfl, H⟩
    · have HD := Lib.hid (dec_first u)
      rw [← HX.out] at HD
      go_wp2
      go_roundg (u / 10)
      case measure => omega
      case rel =>
        exact ⟨u / 10, [d], by go_num, Com.cat rfl, by omega, hb.alloc hsz _, .inr ⟨by simp, rfl, HD⟩⟩
    · have he : l.isEmpty = false := by cases l with
        | nil => exact absurd rfl hl
        | cons _ _ => rfl
      have hll := len_of H.out (by omega)
      clear hl
      by_cases h0 : u = 0
      · subst h0
        go_wp2
        go_ret
        exact ⟨Com.str_eq rfl (by rw [← H.out]; rfl), hb⟩
      · have HD := Lib.hid ((ahead_step u l h0).trans H.out)
        rw [← HX.out] at HD
        clear H
        go_wp2
        go_roundg (u / 10)
        case measure => omega
        case rel =>
          exact ⟨u / 10, d :: l, by go_num, Com.cat rfl, by omega, hb.alloc hsz _, .inr ⟨by simp, rfl, HD⟩⟩

set_option maxHeartbeats 1000000 in
set_option maxRecDepth 100000 in
theorem signed (n : Int) (h0 : -9223372036854775808 ≤ n) (h1 : n ≤ 9223372036854775807) (w : World) :
    Calls Tryd.prog 27 #[.int .i64 n] w fun e w' => e = .returned (.string ⟨(Lib.itoa n).toArray⟩) ∧ Below w.heap.size w w' := by
  by_cases hn : 0 ≤ n
  · obtain ⟨m, rfl⟩ : ∃ m : Nat, n = m := ⟨n.toNat, by omega⟩
    have HI := Lib.hid (show Lib.itoa (m : Int) = Lib.decDigits m by unfold Lib.itoa; rw [if_neg (by omega)]; rfl)
    have hm : m ≤ 9223372036854775807 := by omega
    clear h0 h1 hn
    go_enter Tryd.func27, Tryd.ntmps27
    go_wp2_with fail
    refine (decimal m hm w).mono ?_
    rintro e w1 ⟨rfl, b1⟩
    go_wp2
    go_ret
    exact ⟨Com.str_eq rfl HI.out.symm, b1⟩
  · obtain ⟨m, rfl⟩ : ∃ m : Nat, n = -(m : Int) := ⟨n.natAbs, by omega⟩
    have hm0 : m ≠ 0 := by omega
    have hm : m ≤ 9223372036854775808 := by omega
    have HI := Lib.hid (show Lib.itoa (-(m : Int)) = 45 :: Lib.decDigits m by unfold Lib.itoa; rw [if_pos (by omega), Int.natAbs_neg, Int.natAbs_natCast])
    clear h0 h1
    go_enter Tryd.func27, Tryd.ntmps27
    go_wp2
    go_loopg [0, 3] m (fun g t s wr => ∃ (l : List UInt8), t = .int .i64 (-(g : Int)) ∧ s = .string ⟨l.toArray⟩ ∧ g ≤ m ∧ Below w.heap.size w wr ∧ Hid (ahead g ++ l = Lib.decDigits m))
    case atStart => exact ⟨[], rfl, rfl, Nat.le_refl _, Below.refl _ _, (show Hid _ by unfold Hid ahead; rw [if_neg hm0, List.append_nil])⟩
    case round =>
      obtain ⟨l, rfl, rfl, hu, hb, H⟩ := hrel
      have hsz := hb.size
      obtain ⟨d, HX, conv⟩ := one wr gk
      have hll := len_of H.out hm
      by_cases h0 : gk = 0
      · subst h0
        go_wp2
        go_ret
        exact ⟨Com.str_eq rfl (by rw [HI.out, ← H.out]; rfl), hb⟩
      · have HD := Lib.hid ((ahead_step gk l h0).trans H.out)
        rw [← HX.out] at HD
        have hne : (-(gk : Int) != 0) = true := by simp only [bne_iff_ne, ne_eq]; omega
        clear H
        go_wp2
        go_roundg (gk / 10)
        case measure => omega
        case rel =>
          exact ⟨d :: l, by go_num, Com.cat rfl, by omega, hb.alloc hsz _, HD⟩
end Go.Proofs.YtnhjbcjeeilicaaDoor.DecW
