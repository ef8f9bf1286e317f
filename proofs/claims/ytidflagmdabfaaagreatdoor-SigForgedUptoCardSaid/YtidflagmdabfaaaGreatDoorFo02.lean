/-
  Plain: what was signed, with another signature; a field's value put anew. The walks of bollard/uri's Join and Get.
-/
import Derived.Test.YtidflagmdabfaaaGreatDoorFo01
namespace Go.Proofs.YtidflagmdabfaaaGreatDoor.SgU
open Go.RowKit Go.Proofs.YtidflagmdabfaaaGreatDoor Go.Proofs.YtidflagmdabfaaaGreatDoor.Sg Go.Proofs.YtidflagmdabfaaaGreatDoor.Nm

theorem parts_any {n h : List UInt8} (hg : goodName n = true) : parts (Sg.mark n h) = if h.length = 64 ∧ isHex h = true then some (n, h) else none := by
  by_cases hh : h.length = 64 ∧ isHex h = true
  · rw [if_pos hh, SgL.parts_mark hg hh.1 hh.2]
  · rw [if_neg hh]
    have e0 : Sg.mark n h = (scheme ++ [32]) ++ (n ++ 58 :: h) := by
      unfold Sg.mark
      simp only [List.append_assoc, List.cons_append, List.nil_append]
    have e1 : (Sg.mark n h).take 9 = scheme ++ [32] := by rw [e0]; exact List.take_left' rfl
    have e2 : (Sg.mark n h).drop 9 = n ++ 58 :: h := by rw [e0]; exact List.drop_left' rfl
    have hn : (58 : UInt8) ∉ n := fun hx => by
      simp only [goodName, Bool.and_eq_true, List.all_eq_true] at hg
      exact absurd (hg.2 58 hx) (by decide)
    have e3 : Lib.cut (n ++ 58 :: h) [58] = (n, h, true) := by
      unfold Lib.cut
      rw [Up.index_at hn, if_pos (by omega), Int.toNat_natCast, List.take_left, show n.length + ([58] : List UInt8).length = n.length + 1 from rfl, List.drop_length_add_append]
      rfl
    unfold parts
    rw [if_pos e1, e2, e3]
    simp only
    rw [if_neg (fun x => hh ⟨x.2.2.1, x.2.2.2⟩)]
theorem claimed_not {fs : List Fld} {k : Nat} {n h : List UInt8} (hk : k ≤ 1099511627776) (hg : goodName n = true) (hh : ¬ (h.length = 64 ∧ isHex h = true)) : claimed (others fs ++ two k n h) = none := by
  unfold claimed
  rw [if_pos ⟨SgL.cnt_date _ _ _ _, SgL.cnt_auth _ _ _ _⟩, SgL.get_date, SgL.get_auth, Ato.itoa_nat]
  simp only [Option.bind_some, numOf_dec hk, parts_any hg, if_neg hh]
/-- checked with another signature -/
theorem check_forged {m t bd x : List UInt8} {fs fa : List Fld} {n s : List UInt8} {d : Int} (h : sign m t bd fs n s d = .ok fa) (hx : text m t bd d = .ok x) (o : List UInt8) :
    check m t bd (others fs ++ two d n o) [(n, s)] d = if o = sigOf x s d then .ok n else if o.length = 64 ∧ isHex o = true then .no .denied else .no .req := by
  obtain ⟨u, hP, hd, hg, rfl⟩ := SgL.sign_ok h
  obtain ⟨k, rfl, hk⟩ := SgL.good_nat hd
  obtain rfl : lines m u bd k = x := by
    unfold text at hx
    rw [hP] at hx
    simp only at hx
    rw [if_pos hd] at hx
    cases hx
    rfl
  by_cases hh : o.length = 64 ∧ isHex o = true
  · rw [SgL.check_signed hP hk hg hh.1 hh.2]
    unfold among
    rw [if_pos rfl]
    by_cases ho : o = sigOf (lines m u bd k) s k
    · rw [if_pos ho, if_pos ho.symm, if_neg (by omega)]
    · rw [if_neg ho, if_pos hh, if_neg (fun e => ho e.symm)]
  · rw [if_neg (fun e => hh (by rw [e]; exact ⟨SgL.sig_len _ _ _, SgL.sig_hex _ _ _⟩)), if_neg hh]
    unfold check
    rw [hP]
    simp only
    rw [claimed_not hk hg hh]
theorem at_ne {g i j : Nat} (h : i ≠ j) : (⟨g, i, none⟩ : Addr) ≠ ⟨g, j, none⟩ := fun e => h (by injection e)
theorem set_other {w : World} {g i j : Nat} {v : Value} (h : i ≠ j) : (w.setCell ⟨g, i, none⟩ v).cell? ⟨g, j, none⟩ = w.cell? ⟨g, j, none⟩ := by
  apply World.cell?_setCell_other
  exact at_ne h
theorem set_same {w : World} {a : Addr} {u v : Value} (h : w.cell? a = some u) : (w.setCell a v).cell? a = some v := by
  apply World.cell?_setCell_same
  exact h
theorem fs_put {w : World} {g : Nat} {L : List Fld} {a b b' : List UInt8} (h : HtW.Fs w (some ⟨g, 0, none⟩) (L ++ [(a, b)])) : HtW.Fs (w.setCell ⟨g, L.length * 2 + 1, none⟩ (.string ⟨b'.toArray⟩)) (some ⟨g, 0, none⟩) (L ++ [(a, b')]) := by
  rcases h with h | ⟨b0, o, h1, h2, h3⟩
  · exact absurd h (by simp)
  · cases h1
    refine .inr ⟨g, 0, rfl, by rw [World.size_setCell]; exact h2, fun j e hj => ?_⟩
    simp only [Nat.zero_add] at h3 ⊢
    have hjl : j < (L ++ [(a, b')]).length := (List.getElem?_eq_some_iff.1 hj).1
    rw [List.length_append, List.length_singleton] at hjl
    by_cases hj2 : j < L.length
    · have hj' : (L ++ [(a, b)])[j]? = some e := by
        rw [List.getElem?_append_left hj2] at hj ⊢
        exact hj
      obtain ⟨c1, c2⟩ := h3 j e hj'
      exact ⟨(set_other (by omega)).trans c1, (set_other (by omega)).trans c2⟩
    · obtain rfl : j = L.length := by omega
      rw [List.getElem?_append_right (Nat.le_refl _), Nat.sub_self] at hj
      obtain rfl : (a, b') = e := by simpa using hj
      obtain ⟨c1, c2⟩ := h3 L.length (a, b) (by rw [List.getElem?_append_right (Nat.le_refl _), Nat.sub_self]; rfl)
      exact ⟨(set_other (by omega)).trans c1, set_same c2⟩
theorem fs_last {w : World} {g : Nat} {L : List Fld} {q : Fld} (h : HtW.Fs w (some ⟨g, 0, none⟩) (L ++ [q])) : w.cell? ⟨g, L.length * 2 + 1, none⟩ = some (.string ⟨q.2.toArray⟩) := by
  rcases h with h | ⟨b0, o, h1, h2, h3⟩
  · exact absurd h (by simp)
  · cases h1
    have := (h3 L.length q (by rw [List.getElem?_append_right (Nat.le_refl _), Nat.sub_self]; rfl)).2
    rwa [Nat.zero_add] at this
end Go.Proofs.YtidflagmdabfaaaGreatDoor.SgU
namespace Go.Proofs.YtidflagmdabfaaaGreatDoor.UriQ
open Go.RowKit Go.Proofs.YtidflagmdabfaaaGreatDoor Go.Proofs.YtidflagmdabfaaaGreatDoor.UriC Go.Proofs.YtidflagmdabfaaaGreatDoor.UriN Go.Proofs.YtidflagmdabfaaaGreatDoor.UriO Go.Proofs.YtidflagmdabfaaaGreatDoor.UriR

/-- a pair's value -/
def gt (ps : List Pr) (n : List UInt8) : Option (List UInt8) := (ps.find? fun q => q.1 == n).map (·.2)
theorem gt_drop {ps : List Pr} {k : Nat} {q : Pr} (n : List UInt8) (h : ps[k]? = some q) : gt (ps.drop k) n = if q.1 = n then some q.2 else gt (ps.drop (k + 1)) n := by
  obtain ⟨hk, rfl⟩ := List.getElem?_eq_some_iff.1 h
  rw [List.drop_eq_getElem_cons hk]
  unfold gt
  rw [List.find?_cons]
  by_cases e : ps[k].1 = n
  · simp [e]
  · have : (ps[k].1 == n) = false := by simpa using e
    rw [this, if_neg e]
theorem cells_at {w : World} {a : Option Addr} {ps : List Pr} (hp : Pairs w a ps) {k : Nat} {q : Pr} (h : ps[k]? = some q) : ∃ b o, a = some ⟨b, o, none⟩ ∧ b < w.heap.size ∧ w.cell? ⟨b, o + k * 2, none⟩ = some (.string ⟨q.1.toArray⟩) ∧ w.cell? ⟨b, o + k * 2 + 1, none⟩ = some (.string ⟨q.2.toArray⟩) := by
  rcases hp with hp | ⟨b, o, h1, h2, h3⟩
  · subst hp; cases h
  · exact ⟨b, o, h1, h2, h3 k q h⟩

set_option maxHeartbeats 4000000 in
set_option maxRecDepth 100000 in
theorem get (p : Value) {a : Option Addr} {ps : List Pr} (n : List UInt8) (c : Nat) (w : World) (hp : Pairs w a ps) (hl : ps.length ≤ 4294967296) :
    Calls Tryz.prog 216 #[.agg #[p, .slice a ps.length c], .string ⟨n.toArray⟩] w fun e w' => e = .returned (.tuple #[.string ⟨((gt ps n).getD []).toArray⟩, .bool (gt ps n).isSome]) ∧ Below w.heap.size w w' := by
  have HP := Lib.hid hp; clear hp
  go_enter Tryz.func216, Tryz.ntmps216
  go_wp2_with fail
  go_loopg [11] ps.length (fun g v11 wr => ∃ k : Nat, k + g = ps.length ∧ v11 = .int .i64 k ∧ Hid (gt ps n = gt (ps.drop k) n) ∧ Below w.heap.size w wr)
  case atStart => exact ⟨0, by simp, rfl, by unfold Hid; rfl, (Below.refl _ w).alloc (Nat.le_refl _) _⟩
  case round =>
    obtain ⟨k, hkg, rfl, HN, hb⟩ := hrel
    have HG := Lib.hid hkg; clear hkg
    have HBB := Lib.hid hb
    by_cases hlt : k < ps.length
    · obtain ⟨q, hqk⟩ : ∃ q, ps[k]? = some q := ⟨ps[k], List.getElem?_eq_getElem hlt⟩
      obtain ⟨b, o, rfl, hbb, d0, d1⟩ := cells_at HP.out hqk
      have c0 := (hb.cell (p := ⟨b, o + k * 2, none⟩) hbb).trans d0
      have c1 := (hb.cell (p := ⟨b, o + k * 2 + 1, none⟩) hbb).trans d1
      have HD := Lib.hid (gt_drop n hqk)
      obtain ⟨nm, vl⟩ := q
      simp only at c0 c1
      clear d0 d1 hqk hb
      by_cases e : nm = n
      · have HV := Lib.hid (show gt ps n = some vl by rw [HN.out, HD.out, if_pos e])
        subst e
        go_wp2_with fail
        go_ret2
        exact ⟨by rw [HV.out]; rfl, HBB.out.alloc HBB.out.size _⟩
      · have HV : Hid (gt ps n = gt (ps.drop (k + 1)) n) := by unfold Hid; rw [HN.out, HD.out, if_neg e]
        have t1 : (nm == n) = false := by simpa using e
        clear e
        go_wp2_with fail
        go_roundg (ps.length - (k + 1))
        case rel => exact ⟨k + 1, by omega, by go_num, HV, HBB.out.alloc HBB.out.size _⟩
        case measure => have := HG.out; omega
    · have HV := Lib.hid (show gt ps n = none by rw [HN.out, List.drop_eq_nil_of_le (by omega)]; rfl)
      go_wp2_with fail
      go_ret2
      exact ⟨by rw [HV.out]; rfl, hb⟩
end Go.Proofs.YtidflagmdabfaaaGreatDoor.UriQ
