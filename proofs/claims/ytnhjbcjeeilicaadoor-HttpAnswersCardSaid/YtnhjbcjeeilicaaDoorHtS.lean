/-
  The walk of the law HttpAnswers.
-/
import Derived.Test.YtnhjbcjeeilicaaDoorHtN
import Derived.Test.YtnhjbcjeeilicaaDoorHtO
namespace Go.Proofs.YtnhjbcjeeilicaaDoor.HtS
open Go.RowKit Go.Proofs.YtnhjbcjeeilicaaDoor Go.Proofs.YtnhjbcjeeilicaaDoor.Ht Go.Proofs.YtnhjbcjeeilicaaDoor.HtW Go.Proofs.YtnhjbcjeeilicaaDoor.HtC Go.Proofs.YtnhjbcjeeilicaaDoor.HtJ Go.Proofs.YtnhjbcjeeilicaaDoor.HtK Go.Proofs.YtnhjbcjeeilicaaDoor.HtL Go.Proofs.YtnhjbcjeeilicaaDoor.HtN Go.Proofs.YtnhjbcjeeilicaaDoor.HtO

/-- how often CR LF stands in a text -/
def cp : List UInt8 → Nat
  | [] => 0
  | a :: r => (if a = 13 ∧ r.head? = some 10 then 1 else 0) + cp r
theorem cp_skip : ∀ {l : List UInt8} (r : List UInt8), (∀ c ∈ l, c ≠ 13) → cp (l ++ r) = cp r
  | [], _, _ => rfl
  | a :: l, r, h => by
    rw [List.cons_append, cp, if_neg (fun e => h a (by simp) e.1), cp_skip r (fun c hc => h c (by simp [hc])), Nat.zero_add]
theorem cp_crlf (r : List UInt8) : cp (13 :: 10 :: r) = 1 + cp r := by
  rw [cp, cp, if_pos ⟨rfl, rfl⟩, if_neg (by simp), Nat.zero_add]
theorem rsn_no (st : Int) : ∀ c ∈ rsn st, c ≠ 13 := by
  rw [rsn_look]
  have h : ∀ p ∈ tab, ∀ c ∈ p.2, c ≠ 13 := by decide +kernel
  generalize tab = t at h
  induction t with
  | nil => simp [HtO.look]
  | cons p r ih =>
    unfold HtO.look
    split
    · exact h p (by simp)
    · exact ih fun q hq => h q (by simp [hq])
theorem rsn_pos (st : Int) : 0 < (rsn st).length := by
  rw [rsn_look]
  have h : ∀ p ∈ tab, 0 < p.2.length := by decide +kernel
  generalize tab = t at h
  induction t with
  | nil => simp [HtO.look]
  | cons p r ih =>
    unfold HtO.look
    split
    · exact h p (by simp)
    · exact ih fun q hq => h q (by simp [hq])
theorem itoa_no (n : Int) : ∀ c ∈ Lib.itoa n, c ≠ 13 := by
  intro c hc e
  have := Dec.itoa_byte c hc
  rw [e] at this
  revert this
  decide
abbrev ab : List Fld := [([97], [98])]
/-- what stands ahead of an answer's body -/
def pre (st : Int) (n : Nat) : List UInt8 := top st ++ (all ab n).flatMap lineOf ++ [13, 10]
theorem wr_pre (st : Int) (bd : List UInt8) : wr st ab bd = pre st bd.length ++ bd := rfl
theorem pre_eq (st : Int) (n : Nat) : pre st n = [72, 84, 84, 80, 47, 49, 46, 49, 32] ++ (Lib.itoa st ++ ([32] ++ (rsn st ++ (13 :: 10 :: ([97, 58, 32, 98] ++ (13 :: 10 :: ((cl ++ [58, 32]) ++ (Lib.itoa (n : Int) ++ (13 :: 10 :: 13 :: 10 :: []))))))))) := by
  simp [pre, top, HtJ.all, lineOf]
theorem cp_pre (st : Int) (n : Nat) : cp (pre st n) = 4 := by
  rw [pre_eq, cp_skip _ (by decide), cp_skip _ (itoa_no _), cp_skip _ (by decide), cp_skip _ (rsn_no _), cp_crlf, cp_skip _ (by decide), cp_crlf, cp_skip _ (by decide), cp_skip _ (itoa_no _), cp_crlf, cp_crlf]
  rfl
theorem pre_len (st : Int) (n : Nat) (h0 : -9223372036854775808 ≤ st) (h1 : st ≤ 9223372036854775807) (hn : n ≤ 9223372036854775807) : 38 ≤ (pre st n).length ∧ (pre st n).length ≤ 120 := by
  have l1 := Dec.itoa_len h0 h1
  have l2 := Dec.itoa_len (n := (n : Int)) (by omega) (by omega)
  have l3 := rsn_len st
  have l4 := rsn_pos st
  rw [pre_eq]
  simp [cl]
  omega
theorem pre_top (st : Int) (n : Nat) (r : List UInt8) : (pre st n ++ r).take 9 = [72, 84, 84, 80, 47, 49, 46, 49, 32] := by
  rw [pre_eq]
  simp
theorem pre_end (st : Int) (n : Nat) (r : List UInt8) : ((pre st n ++ r).drop ((pre st n).length - 4)).take 4 = [13, 10, 13, 10] := by
  have e : ∃ x : List UInt8, pre st n = x ++ [13, 10, 13, 10] := by
    rw [pre_eq]
    refine ⟨[72, 84, 84, 80, 47, 49, 46, 49, 32] ++ (Lib.itoa st ++ ([32] ++ (rsn st ++ (13 :: 10 :: ([97, 58, 32, 98] ++ (13 :: 10 :: ((cl ++ [58, 32]) ++ Lib.itoa (n : Int)))))))), ?_⟩
    simp
  obtain ⟨x, e⟩ := e
  rw [e, List.length_append]
  simp
theorem cp_drop {l : List UInt8} {i : Nat} (h : i + 1 < l.length) : cp (l.drop i) = (if l[i] = 13 ∧ l[i + 1] = 10 then 1 else 0) + cp (l.drop (i + 1)) := by
  rw [List.drop_eq_getElem_cons (by omega : i < l.length), cp]
  rw [List.head?_drop, List.getElem?_eq_getElem h]
  simp
theorem cp_end {l : List UInt8} {i : Nat} (h : l.length ≤ i + 1) : cp (l.drop i) = 0 := by
  rcases Nat.lt_or_ge i l.length with h1 | h1
  · rw [List.drop_eq_getElem_cons h1, List.drop_eq_nil_of_le (by omega)]
    simp [cp]
  · rw [List.drop_eq_nil_of_le h1]
    rfl
end Go.Proofs.YtnhjbcjeeilicaaDoor.HtS
