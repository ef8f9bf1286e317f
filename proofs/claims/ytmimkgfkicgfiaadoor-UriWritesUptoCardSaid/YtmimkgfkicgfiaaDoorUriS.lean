/-
  The walk of bollardref17's Encode.
-/
import Derived.Test.YtmimkgfkicgfiaaDoorUriD
import Derived.Test.YtmimkgfkicgfiaaDoorUriF
import Derived.RegionTactic
import Derived.BigRegion
import Derived.Deep.RegionHeld3
import Derived.Deep.RegionLaw
import Derived.Deep.AppendLies
namespace Go.Proofs.YtmimkgfkicgfiaaDoor.UriS
open Go.RowKit Go.Proofs.YtmimkgfkicgfiaaDoor

/-- a byte that stands for itself -/
def Ok (slash : Bool) (n : Nat) : Prop :=
  (97 ≤ n ∧ n ≤ 122) ∨ (65 ≤ n ∧ n ≤ 90) ∨ (48 ≤ n ∧ n ≤ 57) ∨ (45 ≤ n ∧ n ≤ 45) ∨ (95 ≤ n ∧ n ≤ 95) ∨ (46 ≤ n ∧ n ≤ 46) ∨ (126 ≤ n ∧ n ≤ 126) ∨ (47 ≤ n ∧ n ≤ 47 ∧ slash = true)
/-- a byte that does not -/
def Not (slash : Bool) (n : Nat) : Prop :=
  n < 45 ∨ (47 ≤ n ∧ n < 48 ∧ slash = false) ∨ (58 ≤ n ∧ n < 65) ∨ (91 ≤ n ∧ n < 95) ∨ (96 ≤ n ∧ n < 97) ∨ (123 ≤ n ∧ n < 126) ∨ 127 ≤ n
theorem self_ok {slash : Bool} {c : UInt8} (h : UriD.self slash c = true) : Ok slash c.toNat := by
  simp only [UriD.self, UriD.pl, Bool.or_eq_true, Bool.and_eq_true, decide_eq_true_eq, beq_iff_eq] at h
  unfold Ok
  rcases h with ((((((h | h) | h) | rfl) | rfl) | rfl) | rfl) | ⟨rfl, h⟩
  · exact .inl h
  · exact .inr (.inl h)
  · exact .inr (.inr (.inl h))
  · right; right; right; left; exact ⟨by decide, by decide⟩
  · right; right; right; right; left; exact ⟨by decide, by decide⟩
  · right; right; right; right; right; left; exact ⟨by decide, by decide⟩
  · right; right; right; right; right; right; left; exact ⟨by decide, by decide⟩
  · right; right; right; right; right; right; right; exact ⟨by decide, by decide, h⟩
theorem self_not {slash : Bool} {c : UInt8} (h : UriD.self slash c = false) : Not slash c.toNat := by
  have n1 : c.toNat ≠ 45 := fun e => by
    obtain rfl : c = 45 := UInt8.toNat_inj.1 e
    cases slash <;> exact absurd h (by decide)
  have n2 : c.toNat ≠ 95 := fun e => by
    obtain rfl : c = 95 := UInt8.toNat_inj.1 e
    cases slash <;> exact absurd h (by decide)
  have n3 : c.toNat ≠ 46 := fun e => by
    obtain rfl : c = 46 := UInt8.toNat_inj.1 e
    cases slash <;> exact absurd h (by decide)
  have n4 : c.toNat ≠ 126 := fun e => by
    obtain rfl : c = 126 := UInt8.toNat_inj.1 e
    cases slash <;> exact absurd h (by decide)
  have n5 : c.toNat = 47 → slash = false := fun e => by
    obtain rfl : c = 47 := UInt8.toNat_inj.1 e
    cases slash
    · rfl
    · exact absurd h (by decide)
  simp only [UriD.self, UriD.pl, Bool.or_eq_false_iff, Bool.and_eq_false_iff, decide_eq_false_iff_not] at h
  have h1 := h.1.1.1.1.1.1.1
  have h2 := h.1.1.1.1.1.1.2
  have h3 := h.1.1.1.1.1.2
  unfold Not
  by_cases e : c.toNat = 47
  · exact .inr (.inl ⟨by omega, by omega, n5 e⟩)
  · omega

theorem refDig {i : Nat} {h : i < (ByteArray.mk #[48, 49, 50, 51, 52, 53, 54, 55, 56, 57, 65, 66, 67, 68, 69, 70]).size} : ((ByteArray.mk #[48, 49, 50, 51, 52, 53, 54, 55, 56, 57, 65, 66, 67, 68, 69, 70])[i]'h) = UriD.hx i := UriD.dig_get h

theorem own_drew {w : World} {base : Nat} {e : TypeId} {size : Nat} {v : Value} {n : Nat} {xs : List Value} (h : w.ownsRow base e size v n xs) : w.drew.ownsRow base e size v n xs := h
theorem cells_drew {w : World} {p : Addr} {xs : List Value} (h : ∀ (j : Nat) u, xs[j]? = some u → w.cell? (p.add j) = some u) : ∀ (j : Nat) u, xs[j]? = some u → w.drew.cell? (p.add j) = some u := h

theorem cells3 (w : World) (a b c : Value) (t : TypeId) : ∀ (j : Nat) u, [a, b, c][j]? = some u → (w.alloc (.cells #[a, b, c] t)).cell? ((⟨w.heap.size, 0, none⟩ : Addr).add j) = some u := by
  intro j u hj
  have h := heap_alloc_new w (.cells #[a, b, c] t)
  rw [UriA.addr_add, Nat.zero_add, Lib.cell_of_heap h]
  simpa using hj
theorem one3 (a b c : Int) : ∀ u ∈ [Value.int .u8 a, .int .u8 b, .int .u8 c], u.oneCell' = true := by
  intro u hu
  simp only [List.mem_cons, List.not_mem_nil, or_false] at hu
  rcases hu with rfl | rfl | rfl
  · rfl
  · rfl
  · rfl

set_option maxHeartbeats 8000000 in
set_option maxRecDepth 100000 in
theorem encode (s : ByteArray) (slash : Bool) (w : World) (hs : s.size ≤ 16777216) :
    Calls Tryd.prog 52 #[.string s, .bool slash] w fun e w' => e = .returned (.string ⟨(UriD.enc slash s.data.toList).toArray⟩) ∧ Below w.heap.size w w' := by
  obtain ⟨i0, hi, hz0, hz1, hz2⟩ := info_parts UriA.infoByte
  go_enter Tryd.func52, Tryd.ntmps52
  go_wp2_with fail
  go_loopg [5, 7] s.size (fun g v i wr => ∃ k : Nat, k + g = s.size ∧ i = .int .i64 k ∧ wr.ownsRow w.heap.size 5 1 v (UriD.enc slash (s.data.toList.take k)).length (Lib.byteCells (UriD.enc slash (s.data.toList.take k))) ∧ Below w.heap.size w wr)
  case atStart => exact ⟨0, by simp, rfl, ⟨rfl, .inr ⟨w.heap.size, 0, _, rfl, Nat.le_refl _, heap_alloc_new _ _, Nat.le_refl _, by unfold maxLen; omega, rfl, rfl⟩⟩, (Below.refl _ w).alloc (Nat.le_refl _) _⟩
  case round =>
    obtain ⟨k, hkg, rfl, hown, hb⟩ := hrel
    have HG := Lib.hid hkg
    have hsz := hb.size
    by_cases hlt : k < s.size
    · have HN := Lib.hid (show UriD.enc slash (s.data.toList.take (k + 1)) = UriD.enc slash (s.data.toList.take k) ++ UriD.enc1 slash s[k] by rw [Com.take_succ s k hlt, UriD.enc_snoc])
      have hl : (UriD.enc slash (s.data.toList.take k)).length ≤ 3 * s.size := by
        have h1 := UriD.enc_len slash (s.data.toList.take k)
        have h2 : (s.data.toList.take k).length ≤ k := List.length_take_le _ _
        omega
      have hc := UInt8.toNat_lt s[k]
      cases hp : UriD.self slash s[k]
      · have hnot := self_not hp
        have HE := Lib.hid (show UriD.enc1 slash s[k] = [37, UriD.hx (s[k].toNat / 16), UriD.hx (s[k].toNat % 16)] by simp [UriD.enc1, hp])
        generalize hout : UriD.enc slash (s.data.toList.take k) = out at *
        have q1 : (s[k].toNat : Int) / 16 < 16 := by omega
        have q2 : (s[k].toNat : Int) % 16 < 16 := by omega
        have q3 : (0 : Int) ≤ (s[k].toNat : Int) / 16 := by omega
        have d1 : ((s[k].toNat : Int) / 16).toNat = s[k].toNat / 16 := by omega
        have d2 : ((s[k].toNat : Int) % 16).toNat = s[k].toNat % 16 := by omega
        have q5 : IntKind.u8.wrap ((s[k].toNat : Int) / 16) = (s[k].toNat : Int) / 16 := IntWalk.u8_in _ ⟨by omega, by omega⟩
        have q6 : IntKind.u8.wrap ((s[k].toNat : Int) % 16) = (s[k].toNat : Int) % 16 := IntWalk.u8_in _ ⟨by omega, by omega⟩
        have q7 : (s[k].toNat : Int).tmod 16 = (s[k].toNat : Int) % 16 := Int.tmod_eq_emod_of_nonneg (by omega)
        have q4 : (0 : Int) ≤ (s[k].toNat : Int) % 16 := by omega
        clear hp hout hkg
        rcases hnot with h1 | ⟨h1, h2, rfl⟩ | ⟨h1, h2⟩ | ⟨h1, h2⟩ | ⟨h1, h2⟩ | ⟨h1, h2⟩ | h1
        all_goals
          have t45 : ((s[k].toNat : Int) == 45) = false := by simp; omega
          have t95 : ((s[k].toNat : Int) == 95) = false := by simp; omega
          have t46 : ((s[k].toNat : Int) == 46) = false := by simp; omega
          have t126 : ((s[k].toNat : Int) == 126) = false := by simp; omega
          first
            | have t47 : ((s[k].toNat : Int) == 47) = false := by simp; omega
            | have t47 : ((s[k].toNat : Int) == 47) = true := by simp; omega
        all_goals
          go_wp2_with fail
          go_region_held3 (fun _ => True)
            (first | trivial | go_keep)
            (first | (refine step_append_lies _ (by rfl) (.tmp 68) (.tmp 77) _ (by rfl) w.heap.size 5 i0 _ 1 1 Tryd.underlying61 hi hz0 hz1 hz2 rfl (by omega) u5 out.length (Lib.byteCells out) (by rfl) (own_drew (hown.alloc _)) ⟨wr.heap.size, 0, none⟩ 3 3 _ (by rfl) (by rfl) (cells_drew (cells3 _ _ _ _ _)) (one3 _ _ _) (by omega) (by unfold maxLen; omega) (by omega) (by show w.heap.size ≤ (World.alloc wr _).heap.size; rw [World.size_alloc]; omega) (wr.heap.size + 1) (by show (World.alloc wr _).heap.size = _; rw [World.size_alloc]) ?_; intro gg cap w7 hown7 hg7 hat hlt7))
          all_goals
            rw [UriD.dig_get, UriD.dig_get] at hown7
            have hown1 : w7.ownsRow w.heap.size 5 1 (.slice (some ⟨gg, 0, none⟩) (out.length + 3) cap) (out ++ [37, UriD.hx (s[k].toNat / 16), UriD.hx (s[k].toNat % 16)]).length (Lib.byteCells (out ++ [37, UriD.hx (s[k].toNat / 16), UriD.hx (s[k].toNat % 16)])) := by
              simpa [Lib.byteCells] using hown7
            have hb1 : Below w.heap.size w w7 := ((hb.alloc hb.size _).drew).grown hg7 (by show w.heap.size ≤ (World.alloc wr _).heap.size; rw [World.size_alloc]; omega) (fun j hj => (hown.lt j hj).1)
            have HO1 := Lib.hid hown1; clear hown1 hown7 hg7 hat hlt7
            go_wp2
            go_roundg (s.size - (k + 1))
            case measure => have := HG.out; omega
            case rel => exact ⟨k + 1, by have := HG.out; omega, by go_num, by rw [HN.out, HE.out]; exact HO1.out, hb1⟩
      · have hok := self_ok hp
        have HE := Lib.hid (show UriD.enc1 slash s[k] = [s[k]] by simp [UriD.enc1, hp])
        generalize hout : UriD.enc slash (s.data.toList.take k) = out at *
        clear hp hout hkg
        rcases hok with ⟨h1, h2⟩ | ⟨h1, h2⟩ | ⟨h1, h2⟩ | ⟨h1, h2⟩ | ⟨h1, h2⟩ | ⟨h1, h2⟩ | ⟨h1, h2⟩ | ⟨h1, h2, rfl⟩
        all_goals
          first
            | have t45 : ((s[k].toNat : Int) == 45) = false := by simp; omega
            | have t45 : ((s[k].toNat : Int) == 45) = true := by simp; omega
          first
            | have t95 : ((s[k].toNat : Int) == 95) = false := by simp; omega
            | have t95 : ((s[k].toNat : Int) == 95) = true := by simp; omega
          first
            | have t46 : ((s[k].toNat : Int) == 46) = false := by simp; omega
            | have t46 : ((s[k].toNat : Int) == 46) = true := by simp; omega
          first
            | have t126 : ((s[k].toNat : Int) == 126) = false := by simp; omega
            | have t126 : ((s[k].toNat : Int) == 126) = true := by simp; omega
          first
            | have t47 : ((s[k].toNat : Int) == 47) = false := by simp; omega
            | have t47 : ((s[k].toNat : Int) == 47) = true := by simp; omega
        all_goals
          go_wp2_with (at_builtin; refine wpList_append_own _ rfl _ _ 61 rfl w.heap.size 5 i0 (.int .u8 0) 1 1 Tryd.underlying61 hi hz0 hz1 hz2 rfl (by decide) _ _ _ rfl (hown.alloc _) ⟨wr.heap.size, 0, none⟩ 1 1 [.int .u8 (s[k].toNat : Int)] rfl rfl (Com.cells_new _ _ _) (by simp [Value.oneCell']) (by unfold maxLen; omega) (by omega) (by simp; omega) ?_; intro v' w1 hown' hgrow _)
          have hown1 : w1.ownsRow w.heap.size 5 1 v' (out ++ [s[k]]).length (Lib.byteCells (out ++ [s[k]])) := by simpa [Lib.byteCells] using hown'
          have hb1 : Below w.heap.size w w1 := (hb.alloc hb.size _).grown hgrow (by simp; omega) (fun j hj => (hown.lt j hj).1)
          have HO1 := Lib.hid hown1; clear hown1 hown'
          go_roundg (s.size - (k + 1))
          case measure => have := HG.out; omega
          case rel => exact ⟨k + 1, by omega, by go_num, by rw [HN.out, HE.out]; exact HO1.out, hb1⟩
    · have HK := Lib.hid (show s.data.toList.take k = s.data.toList from List.take_of_length_le (by rw [Com.toList_length]; omega))
      rw [HK.out] at hown
      obtain ⟨A, c, rfl, hbs⟩ := UriA.bs_own hown
      have kc := UriA.to_string hbs
      go_wp2_with fail
      go_ret
      exact ⟨rfl, hb⟩
end Go.Proofs.YtmimkgfkicgfiaaDoor.UriS
