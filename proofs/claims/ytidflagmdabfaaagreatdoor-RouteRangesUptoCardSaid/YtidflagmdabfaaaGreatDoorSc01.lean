/-
  The walks of bollard/uri's Join and Get.
-/
import Derived.Test.YtidflagmdabfaaaGreatDoorSg15
namespace Go.Proofs.YtidflagmdabfaaaGreatDoor.UriQ
open Go.RowKit Go.Proofs.YtidflagmdabfaaaGreatDoor Go.Proofs.YtidflagmdabfaaaGreatDoor.UriC Go.Proofs.YtidflagmdabfaaaGreatDoor.UriN Go.Proofs.YtidflagmdabfaaaGreatDoor.UriO Go.Proofs.YtidflagmdabfaaaGreatDoor.UriR

/-- a pair's value -/
def gt (ps : List Pr) (n : List UInt8) : Option (List UInt8) := (ps.find? fun q => q.1 == n).map (·.2)
theorem gt_drop {ps : List Pr} {k : Nat} {q : Pr} (n : List UInt8) (h : ps[k]? = some q) : gt (ps.drop k) n = if q.1 = n then some q.2 else gt (ps.drop (k + 1)) n := by
  obtain ⟨hk, rfl⟩ := List.getElem?_eq_some_iff.1 h
  rw [List.drop_eq_getElem_cons hk]
  unfold gt
  rw [List.find?_cons]
  by_cases e : ps[k].1 = n
  · simp [e]
  · have : (ps[k].1 == n) = false := by simpa using e
    rw [this, if_neg e]
theorem cells_at {w : World} {a : Option Addr} {ps : List Pr} (hp : Pairs w a ps) {k : Nat} {q : Pr} (h : ps[k]? = some q) : ∃ b o, a = some ⟨b, o, none⟩ ∧ b < w.heap.size ∧ w.cell? ⟨b, o + k * 2, none⟩ = some (.string ⟨q.1.toArray⟩) ∧ w.cell? ⟨b, o + k * 2 + 1, none⟩ = some (.string ⟨q.2.toArray⟩) := by
  rcases hp with hp | ⟨b, o, h1, h2, h3⟩
  · subst hp; cases h
  · exact ⟨b, o, h1, h2, h3 k q h⟩

set_option maxHeartbeats 4000000 in
set_option maxRecDepth 100000 in
theorem get (p : Value) {a : Option Addr} {ps : List Pr} (n : List UInt8) (c : Nat) (w : World) (hp : Pairs w a ps) (hl : ps.length ≤ 4294967296) :
    Calls Tryz.prog 216 #[.agg #[p, .slice a ps.length c], .string ⟨n.toArray⟩] w fun e w' => e = .returned (.tuple #[.string ⟨((gt ps n).getD []).toArray⟩, .bool (gt ps n).isSome]) ∧ Below w.heap.size w w' := by
  have HP := Lib.hid hp; clear hp
  go_enter Tryz.func216, Tryz.ntmps216
  go_wp2_with fail
  go_loopg [11] ps.length (fun g v11 wr => ∃ k : Nat, k + g = ps.length ∧ v11 = .int .i64 k ∧ Hid (gt ps n = gt (ps.drop k) n) ∧ Below w.heap.size w wr)
  case atStart => exact ⟨0, by simp, rfl, by unfold Hid; rfl, (Below.refl _ w).alloc (Nat.le_refl _) _⟩
  case round =>
    obtain ⟨k, hkg, rfl, HN, hb⟩ := hrel
    have HG := Lib.hid hkg; clear hkg
    have HBB := Lib.hid hb
    by_cases hlt : k < ps.length
    · obtain ⟨q, hqk⟩ : ∃ q, ps[k]? = some q := ⟨ps[k], List.getElem?_eq_getElem hlt⟩
      obtain ⟨b, o, rfl, hbb, d0, d1⟩ := cells_at HP.out hqk
      have c0 := (hb.cell (p := ⟨b, o + k * 2, none⟩) hbb).trans d0
      have c1 := (hb.cell (p := ⟨b, o + k * 2 + 1, none⟩) hbb).trans d1
      have HD := Lib.hid (gt_drop n hqk)
      obtain ⟨nm, vl⟩ := q
      simp only at c0 c1
      clear d0 d1 hqk hb
      by_cases e : nm = n
      · have HV := Lib.hid (show gt ps n = some vl by rw [HN.out, HD.out, if_pos e])
        subst e
        go_wp2_with fail
        go_ret2
        exact ⟨by rw [HV.out]; rfl, HBB.out.alloc HBB.out.size _⟩
      · have HV : Hid (gt ps n = gt (ps.drop (k + 1)) n) := by unfold Hid; rw [HN.out, HD.out, if_neg e]
        have t1 : (nm == n) = false := by simpa using e
        clear e
        go_wp2_with fail
        go_roundg (ps.length - (k + 1))
        case rel => exact ⟨k + 1, by omega, by go_num, HV, HBB.out.alloc HBB.out.size _⟩
        case measure => have := HG.out; omega
    · have HV := Lib.hid (show gt ps n = none by rw [HN.out, List.drop_eq_nil_of_le (by omega)]; rfl)
      go_wp2_with fail
      go_ret2
      exact ⟨by rw [HV.out]; rfl, hb⟩
end Go.Proofs.YtidflagmdabfaaaGreatDoor.UriQ
