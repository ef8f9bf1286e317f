/-
  The walk of package uri's Encode.
-/
import Derived.Test.YtmimkgfkicgfiaaDoorUriA
import Derived.Test.YtmimkgfkicgfiaaDoorBld
namespace Go.Proofs.YtmimkgfkicgfiaaDoor.UriD
open Go.RowKit Go.Proofs.YtmimkgfkicgfiaaDoor

def plainL : List UInt8 := [65, 66, 67, 68, 69, 70, 71, 72, 73, 74, 75, 76, 77, 78, 79, 80, 81, 82, 83, 84, 85, 86, 87, 88, 89, 90, 97, 98, 99, 100, 101, 102, 103, 104, 105, 106, 107, 108, 109, 110, 111, 112, 113, 114, 115, 116, 117, 118, 119, 120, 121, 122, 48, 49, 50, 51, 52, 53, 54, 55, 56, 57, 45, 95, 46, 126]
/-- a plain byte -/
def pl (c : UInt8) : Bool := (decide (97 ≤ c.toNat) && decide (c.toNat ≤ 122)) || (decide (65 ≤ c.toNat) && decide (c.toNat ≤ 90)) || (decide (48 ≤ c.toNat) && decide (c.toNat ≤ 57)) || c == 45 || c == 95 || c == 46 || c == 126
theorem pl_all : ∀ n : Fin 256, pl (UInt8.ofNat n.1) = decide (0 ≤ Lib.indexByte plainL (UInt8.ofNat n.1)) := by decide +kernel
theorem pl_eq (c : UInt8) : pl c = decide (0 ≤ Lib.indexByte plainL c) := by
  have := pl_all ⟨c.toNat, UInt8.toNat_lt c⟩
  simpa using this
def hx (n : Nat) : UInt8 := UriA.digits.getD n 0
/-- does it stand for itself? -/
def self (slash : Bool) (c : UInt8) : Bool := pl c || (c == 47 && slash)
def enc1 (slash : Bool) (c : UInt8) : List UInt8 := if self slash c then [c] else [37, hx (c.toNat / 16), hx (c.toNat % 16)]
/-- the encoded text -/
def enc (slash : Bool) (l : List UInt8) : List UInt8 := l.flatMap (enc1 slash)
theorem enc_snoc (slash : Bool) (l : List UInt8) (c : UInt8) : enc slash (l ++ [c]) = enc slash l ++ enc1 slash c := by simp [enc]
theorem enc1_len (slash : Bool) (c : UInt8) : (enc1 slash c).length ≤ 3 := by unfold enc1; split <;> simp
theorem enc_len (slash : Bool) (l : List UInt8) : (enc slash l).length ≤ 3 * l.length := by
  induction l with
  | nil => simp [enc]
  | cons c r ih =>
    have := enc1_len slash c
    simp only [enc, List.flatMap_cons, List.length_append, List.length_cons] at ih ⊢
    omega

theorem indexS (p : ByteArray) (hp : p.data.toList = plainL) (c : UInt8) (h : pl c = true) (w : World) : Calls Tryd.prog 63 #[.string p, .int .u8 (c.toNat : Int)] w fun e w' => (∃ j : Int, 0 ≤ j ∧ e = .returned (.int .i64 j)) ∧ w' = w := by
  refine (Tryd.strings_IndexByte p _ w).mono ?_
  rintro e w' ⟨rfl, rfl⟩
  refine ⟨⟨_, ?_, rfl⟩, rfl⟩
  have := pl_eq c
  rw [h] at this
  rw [hp]
  simpa using this.symm
theorem indexN (p : ByteArray) (hp : p.data.toList = plainL) (c : UInt8) (h : pl c = false) (w : World) : Calls Tryd.prog 63 #[.string p, .int .u8 (c.toNat : Int)] w fun e w' => (∃ j : Int, j < 0 ∧ e = .returned (.int .i64 j)) ∧ w' = w := by
  refine (Tryd.strings_IndexByte p _ w).mono ?_
  rintro e w' ⟨rfl, rfl⟩
  refine ⟨⟨_, ?_, rfl⟩, rfl⟩
  have := pl_eq c
  rw [h] at this
  rw [hp]
  simpa using this.symm

theorem dig_get {i : Nat} (h : i < (ByteArray.mk #[48, 49, 50, 51, 52, 53, 54, 55, 56, 57, 65, 66, 67, 68, 69, 70]).size) : (ByteArray.mk #[48, 49, 50, 51, 52, 53, 54, 55, 56, 57, 65, 66, 67, 68, 69, 70])[i]'h = hx i := by
  have hi : i < 16 := h
  have : ∀ j : Fin 16, (ByteArray.mk #[48, 49, 50, 51, 52, 53, 54, 55, 56, 57, 65, 66, 67, 68, 69, 70])[j.1]'j.2 = hx j.1 := by decide
  exact this ⟨i, hi⟩
theorem three (l : List UInt8) (a b c : UInt8) : Lib.byteCells (l ++ [a, b, c]) = Lib.byteCells l ++ [.int .u8 a.toNat] ++ [.int .u8 b.toNat] ++ [.int .u8 c.toNat] := by simp [Lib.byteCells]

set_option maxHeartbeats 4000000 in
set_option maxRecDepth 100000 in
theorem encode (s : ByteArray) (slash : Bool) (w : World) (hs : s.size ≤ 16777216) :
    Calls Tryd.prog 19 #[.string s, .bool slash] w fun e w' => e = .returned (.string ⟨(enc slash s.data.toList).toArray⟩) ∧ Below w.heap.size w w' := by
  go_enter Tryd.func19, Tryd.ntmps19
  go_wp2_with fail
  go_loopw [6, 7, 10] (fun _ _ i wr => ∃ k : Nat, k ≤ s.size ∧ i = .int .i64 k ∧ Lib.IsBuilder 109 5 w.heap.size w.heap.size (Lib.byteCells (enc slash (s.data.toList.take k))) wr ∧ Below w.heap.size w wr) (fun _ _ i _ => s.size - (intOf i).toNat)
  case atStart => exact ⟨0, Nat.zero_le _, rfl, Lib.fresh_isBuilder _ _ _, (Below.refl _ w).alloc (Nat.le_refl _) _⟩
  case round =>
    obtain ⟨k, hk, rfl, hI, hb⟩ := hrel
    have hsz := hb.size
    by_cases hlt : k < s.size
    · have hts := Com.take_succ s k hlt
      have HN := Lib.hid (show enc slash (s.data.toList.take (k + 1)) = enc slash (s.data.toList.take k) ++ enc1 slash s[k] by rw [hts, enc_snoc])
      have hl : (enc slash (s.data.toList.take k)).length ≤ 3 * s.size := by
        have h1 := enc_len slash (s.data.toList.take k)
        have h2 : (s.data.toList.take k).length ≤ k := List.length_take_le _ _
        omega
      clear hts
      have hc := UInt8.toNat_lt s[k]
      by_cases hp : pl s[k] = true
      · have HE := Lib.hid (show enc1 slash s[k] = [s[k]] by simp [enc1, self, hp])
        go_wp2_with (first
          | (go_at_call 63; refine (indexS _ rfl s[k] hp _).mono ?_; rintro e w' ⟨⟨j, hj, rfl⟩, hw'⟩; obtain rfl := hw'.symm)
          | (go_at_call 64; refine (Bld.writeByte _ _ _ _ _ hI (by rw [Com.byteCells_length]; omega) hsz).mono ?_; rintro e w1 ⟨rfl, h1, b1⟩))
        go_roundw
        case rel => exact ⟨k + 1, by omega, by go_num, by rw [HN.out, HE.out, Com.byteCells_snoc]; exact h1, hb.trans b1⟩
        case measure => simp [intOf]; omega
      · have hp' : pl s[k] = false := by simpa using hp
        clear hp
        by_cases h47 : s[k] = 47 ∧ slash = true
        · obtain ⟨h1, rfl⟩ := h47
          have HE := Lib.hid (show enc1 true s[k] = [s[k]] by simp [enc1, self, h1])
          have t1 : ((s[k].toNat : Int) == 47) = true := by rw [h1]; rfl
          clear h1
          go_wp2_with (first
            | (go_at_call 63; refine (indexN _ rfl s[k] hp' _).mono ?_; rintro e w' ⟨⟨j, hj, rfl⟩, hw'⟩; obtain rfl := hw'.symm)
            | (go_at_call 64; refine (Bld.writeByte _ _ _ _ _ hI (by rw [Com.byteCells_length]; omega) hsz).mono ?_; rintro e w1 ⟨rfl, h1, b1⟩))
          go_roundw
          case rel => exact ⟨k + 1, by omega, by go_num, by rw [HN.out, HE.out, Com.byteCells_snoc]; exact h1, hb.trans b1⟩
          case measure => simp [intOf]; omega
        · have hsf : self slash s[k] = false := by
            simp only [self, hp', Bool.false_or, Bool.and_eq_false_iff, beq_eq_false_iff_ne]
            by_cases h1 : s[k] = 47
            · right; simpa using fun h2 => h47 ⟨h1, h2⟩
            · left; exact h1
          have HE := Lib.hid (show enc1 slash s[k] = [37, hx (s[k].toNat / 16), hx (s[k].toNat % 16)] by simp [enc1, hsf])
          have hs47 : slash = true → s[k] ≠ 47 := fun h1 h2 => h47 ⟨h2, h1⟩
          clear h47 hsf
          cases slash
          · clear hs47
            by_cases hq : s[k] = 47
            · have t1 : ((s[k].toNat : Int) == 47) = true := by rw [hq]; rfl
              clear hq
              go_wp2_with (first
                | (go_at_call 63; refine (indexN _ rfl s[k] hp' _).mono ?_; rintro e w' ⟨⟨j, hj, rfl⟩, hw'⟩; obtain rfl := hw'.symm)
                | (go_at_call 64; refine (Bld.writeByte _ _ _ _ _ hI (by rw [Com.byteCells_length]; omega) hsz).mono ?_; rintro e w1 ⟨rfl, h1, b1⟩))
              have hz1 := b1.size
              refine (Bld.writeByte _ _ _ _ _ h1 (by simp [Com.byteCells_length]; omega) (by omega)).mono ?_
              rintro e w2 ⟨rfl, h2, b2⟩
              have hz2 := b2.size
              go_wp2_with fail
              refine (Bld.writeByte _ _ _ _ _ h2 (by simp [Com.byteCells_length]; omega) (by omega)).mono ?_
              rintro e w3 ⟨rfl, h3, b3⟩
              go_wp2_with fail
              go_roundw
              case rel => exact ⟨k + 1, by omega, by go_num, by rw [HN.out, HE.out, three]; rw [dig_get, dig_get] at h3; exact h3, ((hb.trans b1).trans b2).trans b3⟩
              case measure => simp [intOf]; omega
            · have t1 := Com.u8_ne hq (n := 47) rfl
              clear hq
              go_wp2_with (first
                | (go_at_call 63; refine (indexN _ rfl s[k] hp' _).mono ?_; rintro e w' ⟨⟨j, hj, rfl⟩, hw'⟩; obtain rfl := hw'.symm)
                | (go_at_call 64; refine (Bld.writeByte _ _ _ _ _ hI (by rw [Com.byteCells_length]; omega) hsz).mono ?_; rintro e w1 ⟨rfl, h1, b1⟩))
              have hz1 := b1.size
              refine (Bld.writeByte _ _ _ _ _ h1 (by simp [Com.byteCells_length]; omega) (by omega)).mono ?_
              rintro e w2 ⟨rfl, h2, b2⟩
              have hz2 := b2.size
              go_wp2_with fail
              refine (Bld.writeByte _ _ _ _ _ h2 (by simp [Com.byteCells_length]; omega) (by omega)).mono ?_
              rintro e w3 ⟨rfl, h3, b3⟩
              go_wp2_with fail
              go_roundw
              case rel => exact ⟨k + 1, by omega, by go_num, by rw [HN.out, HE.out, three]; rw [dig_get, dig_get] at h3; exact h3, ((hb.trans b1).trans b2).trans b3⟩
              case measure => simp [intOf]; omega
          · have t1 := Com.u8_ne (hs47 rfl) (n := 47) rfl
            clear hs47
            go_wp2_with (first
              | (go_at_call 63; refine (indexN _ rfl s[k] hp' _).mono ?_; rintro e w' ⟨⟨j, hj, rfl⟩, hw'⟩; obtain rfl := hw'.symm)
              | (go_at_call 64; refine (Bld.writeByte _ _ _ _ _ hI (by rw [Com.byteCells_length]; omega) hsz).mono ?_; rintro e w1 ⟨rfl, h1, b1⟩))
            have hz1 := b1.size
            refine (Bld.writeByte _ _ _ _ _ h1 (by simp [Com.byteCells_length]; omega) (by omega)).mono ?_
            rintro e w2 ⟨rfl, h2, b2⟩
            have hz2 := b2.size
            go_wp2_with fail
            refine (Bld.writeByte _ _ _ _ _ h2 (by simp [Com.byteCells_length]; omega) (by omega)).mono ?_
            rintro e w3 ⟨rfl, h3, b3⟩
            go_wp2_with fail
            go_roundw
            case rel => exact ⟨k + 1, by omega, by go_num, by rw [HN.out, HE.out, three]; rw [dig_get, dig_get] at h3; exact h3, ((hb.trans b1).trans b2).trans b3⟩
            case measure => simp [intOf]; omega
    · have hk2 : k = s.size := by omega
      have HK := Lib.hid hk2; clear hk2
      go_wp2_with (go_at_call 65; refine (Tryd.Builder_String_any _ _ _ _ hI hsz).mono ?_; rintro e w1 ⟨rfl, b1⟩)
      go_ret
      refine ⟨Com.str_eq rfl ?_, hb.trans b1⟩
      rw [List.take_of_length_le]
      rw [Com.toList_length, HK.out]
      exact Nat.le_refl _
end Go.Proofs.YtmimkgfkicgfiaaDoor.UriD
