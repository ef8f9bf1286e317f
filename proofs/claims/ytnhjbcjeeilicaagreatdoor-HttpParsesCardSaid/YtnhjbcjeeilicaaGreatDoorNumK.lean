/-
  The walk of bollardnum's Kept.
-/
import Derived.Test.YtnhjbcjeeilicaaGreatDoorNum
import Derived.Deep.RegionHeld3
namespace Go.Proofs.YtnhjbcjeeilicaaGreatDoor.NumK
open Go.RowKit Go.Proofs.YtnhjbcjeeilicaaGreatDoor Go.Proofs.YtnhjbcjeeilicaaGreatDoor.Ht Go.Proofs.YtnhjbcjeeilicaaGreatDoor.HtW Go.Proofs.YtnhjbcjeeilicaaGreatDoor.HtX Go.Proofs.YtnhjbcjeeilicaaGreatDoor.Num

abbrev Conv (w : World) (v : Value) (l : List UInt8) : Prop := (convert 22 9 v).run Tryz.prog w = .ok (.string ⟨l.toArray⟩) w
theorem bs_left {w : World} {a : Option Addr} {l r : List UInt8} {c : Nat} (h : Bs w a (l ++ r) c) : Bs w a l c := by
  have h1 := h.1
  rw [List.length_append] at h1
  refine ⟨by omega, h.2.1, ?_⟩
  rcases h.2.2 with h0 | ⟨b, o, q1, q2, q3⟩
  · exact .inl (List.append_eq_nil_iff.1 h0).1
  · exact .inr ⟨b, o, q1, q2, fun j x hj => q3 j x (by rw [List.getElem?_append_left (List.getElem?_eq_some_iff.1 hj).1]; exact hj)⟩
theorem mark_at : ∀ k, k < 6 → marks[k]? = some (UInt8.ofNat (201 + k)) ∧ (UInt8.ofNat (201 + k)).toNat = 201 + k := by decide

set_option maxHeartbeats 1000000 in
set_option maxRecDepth 100000 in
theorem kept (l : List UInt8) (g c : Nat) {a' : Option Addr} {c' : Nat} (w : World) (h : Bs w (some ⟨g, 0, none⟩) (l ++ marks) c) (h' : Bs w a' l c') (hl : l.length ≤ 140737488351232) :
    Calls Tryz.prog 10 #[.slice (some ⟨g, 0, none⟩) l.length c, .slice a' l.length c'] w fun e w' => e = .returned (.bool true) ∧ Below w.heap.size w w' := by
  have hcap := h.1
  rw [List.length_append, marks_len] at hcap
  have hcell : ∀ k, k < 6 → w.drew.cell? ⟨g, l.length + k, none⟩ = some (.int .u8 (201 + (k : Int))) := by
    intro k hk
    rcases h.2.2 with h0 | ⟨b, o, q1, q2, q3⟩
    · have := congrArg List.length h0
      rw [List.length_append, marks_len, List.length_nil] at this
      omega
    · cases q1
      have := q3 (l.length + k) (UInt8.ofNat (201 + k)) (by rw [List.getElem?_append_right (by omega), show l.length + k - l.length = k by omega]; exact (mark_at k hk).1)
      rw [(mark_at k hk).2, Nat.zero_add] at this
      rw [show w.drew.cell? ⟨g, l.length + k, none⟩ = w.cell? ⟨g, l.length + k, none⟩ from rfl, this]
      rfl
  have HC := Lib.hid hcell; clear hcell
  have k1 := to_string (bs_left h)
  have k2 := to_string h'
  have k1d : Conv w.drew (.slice (some ⟨g, 0, none⟩) l.length c) l := to_string ((bs_left h).below ((Below.refl w.heap.size w).drew))
  have k2d : Conv w.drew (.slice a' l.length c') l := to_string (h'.below ((Below.refl w.heap.size w).drew))
  have z1 : ¬ (c : Int) < (l.length : Int) + 6 := by omega
  have z2 : (l.length : Int) ≤ c := by omega
  have z3 : (0 : Int) ≤ l.length := by omega
  have z4 : ¬ c = 0 := by omega
  have z5 : l.length ≤ c := by omega
  have e6 : IntKind.i64.wrap ((l.length : Int) + 6) = (l.length : Int) + 6 := IntWalk.i64_in _ ⟨by omega, by omega⟩
  have t1 : decide ((c : Int) < (l.length : Int) + 6) = false := decide_eq_false z1
  clear h h'
  go_enter Tryz.func10, Tryz.ntmps10
  go_wp2_with fail
  go_region_held3 (fun W => Conv W (.slice (some ⟨g, 0, none⟩) l.length c) l ∧ Conv W (.slice a' l.length c') l)
    (first | exact ⟨k1d, k2d⟩ | assumption)
    (fail)
  have hb : Below w.heap.size w w.drew := (Below.refl _ _).drew
  have HB := Lib.hid hb
  clear k1 k2 k1d k2d hb
  generalize w.drew = W at *
  go_wp2_with fail
  go_loopg [6] 6 (fun m v wr => ∃ k : Nat, k + m = 6 ∧ v = .int .i64 k ∧ wr = W)
  case atStart => exact ⟨0, by omega, rfl, rfl⟩
  case round =>
    obtain ⟨k, hk, rfl, rfl⟩ := hrel
    have HG := Lib.hid hk
    have hk6 : k ≤ 6 := by omega
    clear hk
    by_cases hlt : k < 6
    · have ck := HC.out k hlt
      have e1 : IntKind.u8.wrap (201 + (k : Int)) = 201 + (k : Int) := by rw [IntKind.wrap_u8']; omega
      have y1 : (l.length : Int) + k < c := by omega
      go_wp2_with fail
      go_roundg (6 - (k + 1))
      case measure => have := HG.out; omega
      case rel => exact ⟨k + 1, by omega, by go_num, rfl⟩
    · go_wp2_with fail
      go_ret
      exact ⟨rfl, HB.out⟩
end Go.Proofs.YtnhjbcjeeilicaaGreatDoor.NumK
