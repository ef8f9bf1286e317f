/-
  The walk of the document's GoodName. (Printed by mkrgood.py.) The walk of the document's Same.
-/
import Derived.Test.YtidflagmdabfaaaGreatDoorSg10
import Derived.Test.YtidflagmdabfaaaGreatDoorSg16
import Derived.Deep.LoopGhost
import Derived.Deep.RegionHeld3
namespace Go.Proofs.YtidflagmdabfaaaGreatDoor.RgN
open Go.RowKit Go.Proofs.YtidflagmdabfaaaGreatDoor Go.Proofs.YtidflagmdabfaaaGreatDoor.SgA

theorem nmc_val (c : UInt8) : Ht.nmc c = (decide (65 ≤ c.toNat ∧ c.toNat ≤ 90) || decide (97 ≤ c.toNat ∧ c.toNat ≤ 122) || decide (48 ≤ c.toNat ∧ c.toNat ≤ 57) || decide (c.toNat = 45)) := by
  have h : ∀ n : Fin 256, Ht.nmc (UInt8.ofNat n.1) = (decide (65 ≤ (UInt8.ofNat n.1).toNat ∧ (UInt8.ofNat n.1).toNat ≤ 90) || decide (97 ≤ (UInt8.ofNat n.1).toNat ∧ (UInt8.ofNat n.1).toNat ≤ 122) || decide (48 ≤ (UInt8.ofNat n.1).toNat ∧ (UInt8.ofNat n.1).toNat ≤ 57) || decide ((UInt8.ofNat n.1).toNat = 45)) := by decide +kernel
  have := h ⟨c.toNat, UInt8.toNat_lt c⟩
  simpa only [UInt8.ofNat_toNat] using this

set_option maxHeartbeats 4000000 in
set_option maxRecDepth 100000 in
theorem goodNameR (s : ByteArray) (w : World) (hs : s.size ≤ 4611686018427387904) : Calls Tryz.prog 42 #[.string s] w fun e w' => e = .returned (.bool (Sg.goodName s.data.toList)) ∧ w = w' := by
  have HL := Lib.hid (show decide (0 < s.data.toList.length) = decide (0 < s.size) by rw [Com.toList_length])
  obtain ⟨b0, hb0⟩ : ∃ b0 : Bool, decide (0 < s.size) = b0 := ⟨_, rfl⟩
  have HB0 := Lib.hid (show decide (0 < s.data.toList.length) = b0 by rw [HL.out, ← hb0])
  have HBZ := Lib.hid hb0
  clear hb0
  go_enter Tryz.func42, Tryz.ntmps42
  go_wp2_with fail
  go_loopg [3, 4] s.size (fun g v3 v4 wr => ∃ (k : Nat) (b : Bool), k + g = s.size ∧ v4 = .int .i64 k ∧ v3 = .bool b ∧ Hid (b = (b0 && (s.data.toList.take k).all Ht.nmc)) ∧ w = wr)
  case atStart => exact ⟨0, b0, by omega, rfl, congrArg Value.bool HBZ.out, by unfold Hid; simp, rfl⟩
  case round =>
    obtain ⟨k, b, hkg, rfl, rfl, HB, rfl⟩ := hrel
    have HG := Lib.hid hkg
    by_cases hlt : k < s.size
    · have hts := Com.take_succ s k hlt
      have y0 : (0 : Int) ≤ (k : Int) := by omega
      have y1 : (k : Int) < (s.size : Int) := by omega
      have hy : (b0 && (s.data.toList.take (k + 1)).all Ht.nmc) = (b && Ht.nmc s[k]) := by
        rw [HB.out, hts, List.all_append]
        simp [Bool.and_assoc]
      have HY := Lib.hid hy
      have hnv := nmc_val s[k]
      have hcl := UInt8.toNat_lt s[k]
      clear hkg hts hy
      cases b with
      | false =>
        go_wp2_with fail
        go_roundg (s.size - (k + 1))
        case measure => have := HG.out; omega
        case rel => exact ⟨k + 1, false, by have := HG.out; omega, by go_num, rfl, by rw [HY.out, Bool.false_and]; rfl, rfl⟩
      | true =>
        have hr : (123 ≤ s[k].toNat ∧ s[k].toNat ≤ 255) ∨ (97 ≤ s[k].toNat ∧ s[k].toNat ≤ 122) ∨ (91 ≤ s[k].toNat ∧ s[k].toNat ≤ 96) ∨ (65 ≤ s[k].toNat ∧ s[k].toNat ≤ 90) ∨ (58 ≤ s[k].toNat ∧ s[k].toNat ≤ 64) ∨ (48 ≤ s[k].toNat ∧ s[k].toNat ≤ 57) ∨ (46 ≤ s[k].toNat ∧ s[k].toNat ≤ 47) ∨ (45 ≤ s[k].toNat ∧ s[k].toNat ≤ 45) ∨ (0 ≤ s[k].toNat ∧ s[k].toNat ≤ 44) := by omega
        rcases hr with ⟨p0, p1⟩ | ⟨p0, p1⟩ | ⟨p0, p1⟩ | ⟨p0, p1⟩ | ⟨p0, p1⟩ | ⟨p0, p1⟩ | ⟨p0, p1⟩ | ⟨p0, p1⟩ | ⟨p0, p1⟩
        · have HN := Lib.hid (show Ht.nmc s[k] = false by rw [hnv]; simp; omega)
          have q97 : decide ((97 : Int) ≤ (s[k].toNat : Int)) = true := decide_eq_true (by omega)
          have q122 : decide ((s[k].toNat : Int) ≤ 122) = false := decide_eq_false (by omega)
          have q65 : decide ((65 : Int) ≤ (s[k].toNat : Int)) = true := decide_eq_true (by omega)
          have q90 : decide ((s[k].toNat : Int) ≤ 90) = false := decide_eq_false (by omega)
          have q48 : decide ((48 : Int) ≤ (s[k].toNat : Int)) = true := decide_eq_true (by omega)
          have q57 : decide ((s[k].toNat : Int) ≤ 57) = false := decide_eq_false (by omega)
          have q45 : ((s[k].toNat : Int) == 45) = false := by rw [beq_eq_false_iff_ne]; omega
          clear hnv hcl p0 p1
          go_wp2_with fail
          go_roundg (s.size - (k + 1))
          case measure => have := HG.out; omega
          case rel => exact ⟨k + 1, false, by have := HG.out; omega, by go_num, by first | rfl | go_num, by rw [HY.out, HN.out]; rfl, rfl⟩
        · have HN := Lib.hid (show Ht.nmc s[k] = true by rw [hnv]; simp; omega)
          have q97 : decide ((97 : Int) ≤ (s[k].toNat : Int)) = true := decide_eq_true (by omega)
          have q122 : decide ((s[k].toNat : Int) ≤ 122) = true := decide_eq_true (by omega)
          have q65 : decide ((65 : Int) ≤ (s[k].toNat : Int)) = true := decide_eq_true (by omega)
          have q90 : decide ((s[k].toNat : Int) ≤ 90) = false := decide_eq_false (by omega)
          have q48 : decide ((48 : Int) ≤ (s[k].toNat : Int)) = true := decide_eq_true (by omega)
          have q57 : decide ((s[k].toNat : Int) ≤ 57) = false := decide_eq_false (by omega)
          have q45 : ((s[k].toNat : Int) == 45) = false := by rw [beq_eq_false_iff_ne]; omega
          clear hnv hcl p0 p1
          go_wp2_with fail
          go_roundg (s.size - (k + 1))
          case measure => have := HG.out; omega
          case rel => exact ⟨k + 1, true, by have := HG.out; omega, by go_num, by first | rfl | go_num, by rw [HY.out, HN.out]; rfl, rfl⟩
        · have HN := Lib.hid (show Ht.nmc s[k] = false by rw [hnv]; simp; omega)
          have q97 : decide ((97 : Int) ≤ (s[k].toNat : Int)) = false := decide_eq_false (by omega)
          have q122 : decide ((s[k].toNat : Int) ≤ 122) = true := decide_eq_true (by omega)
          have q65 : decide ((65 : Int) ≤ (s[k].toNat : Int)) = true := decide_eq_true (by omega)
          have q90 : decide ((s[k].toNat : Int) ≤ 90) = false := decide_eq_false (by omega)
          have q48 : decide ((48 : Int) ≤ (s[k].toNat : Int)) = true := decide_eq_true (by omega)
          have q57 : decide ((s[k].toNat : Int) ≤ 57) = false := decide_eq_false (by omega)
          have q45 : ((s[k].toNat : Int) == 45) = false := by rw [beq_eq_false_iff_ne]; omega
          clear hnv hcl p0 p1
          go_wp2_with fail
          go_roundg (s.size - (k + 1))
          case measure => have := HG.out; omega
          case rel => exact ⟨k + 1, false, by have := HG.out; omega, by go_num, by first | rfl | go_num, by rw [HY.out, HN.out]; rfl, rfl⟩
        · have HN := Lib.hid (show Ht.nmc s[k] = true by rw [hnv]; simp; omega)
          have q97 : decide ((97 : Int) ≤ (s[k].toNat : Int)) = false := decide_eq_false (by omega)
          have q122 : decide ((s[k].toNat : Int) ≤ 122) = true := decide_eq_true (by omega)
          have q65 : decide ((65 : Int) ≤ (s[k].toNat : Int)) = true := decide_eq_true (by omega)
          have q90 : decide ((s[k].toNat : Int) ≤ 90) = true := decide_eq_true (by omega)
          have q48 : decide ((48 : Int) ≤ (s[k].toNat : Int)) = true := decide_eq_true (by omega)
          have q57 : decide ((s[k].toNat : Int) ≤ 57) = false := decide_eq_false (by omega)
          have q45 : ((s[k].toNat : Int) == 45) = false := by rw [beq_eq_false_iff_ne]; omega
          clear hnv hcl p0 p1
          go_wp2_with fail
          go_roundg (s.size - (k + 1))
          case measure => have := HG.out; omega
          case rel => exact ⟨k + 1, true, by have := HG.out; omega, by go_num, by first | rfl | go_num, by rw [HY.out, HN.out]; rfl, rfl⟩
        · have HN := Lib.hid (show Ht.nmc s[k] = false by rw [hnv]; simp; omega)
          have q97 : decide ((97 : Int) ≤ (s[k].toNat : Int)) = false := decide_eq_false (by omega)
          have q122 : decide ((s[k].toNat : Int) ≤ 122) = true := decide_eq_true (by omega)
          have q65 : decide ((65 : Int) ≤ (s[k].toNat : Int)) = false := decide_eq_false (by omega)
          have q90 : decide ((s[k].toNat : Int) ≤ 90) = true := decide_eq_true (by omega)
          have q48 : decide ((48 : Int) ≤ (s[k].toNat : Int)) = true := decide_eq_true (by omega)
          have q57 : decide ((s[k].toNat : Int) ≤ 57) = false := decide_eq_false (by omega)
          have q45 : ((s[k].toNat : Int) == 45) = false := by rw [beq_eq_false_iff_ne]; omega
          clear hnv hcl p0 p1
          go_wp2_with fail
          go_roundg (s.size - (k + 1))
          case measure => have := HG.out; omega
          case rel => exact ⟨k + 1, false, by have := HG.out; omega, by go_num, by first | rfl | go_num, by rw [HY.out, HN.out]; rfl, rfl⟩
        · have HN := Lib.hid (show Ht.nmc s[k] = true by rw [hnv]; simp; omega)
          have q97 : decide ((97 : Int) ≤ (s[k].toNat : Int)) = false := decide_eq_false (by omega)
          have q122 : decide ((s[k].toNat : Int) ≤ 122) = true := decide_eq_true (by omega)
          have q65 : decide ((65 : Int) ≤ (s[k].toNat : Int)) = false := decide_eq_false (by omega)
          have q90 : decide ((s[k].toNat : Int) ≤ 90) = true := decide_eq_true (by omega)
          have q48 : decide ((48 : Int) ≤ (s[k].toNat : Int)) = true := decide_eq_true (by omega)
          have q57 : decide ((s[k].toNat : Int) ≤ 57) = true := decide_eq_true (by omega)
          have q45 : ((s[k].toNat : Int) == 45) = false := by rw [beq_eq_false_iff_ne]; omega
          clear hnv hcl p0 p1
          go_wp2_with fail
          go_roundg (s.size - (k + 1))
          case measure => have := HG.out; omega
          case rel => exact ⟨k + 1, true, by have := HG.out; omega, by go_num, by first | rfl | go_num, by rw [HY.out, HN.out]; rfl, rfl⟩
        · have HN := Lib.hid (show Ht.nmc s[k] = false by rw [hnv]; simp; omega)
          have q97 : decide ((97 : Int) ≤ (s[k].toNat : Int)) = false := decide_eq_false (by omega)
          have q122 : decide ((s[k].toNat : Int) ≤ 122) = true := decide_eq_true (by omega)
          have q65 : decide ((65 : Int) ≤ (s[k].toNat : Int)) = false := decide_eq_false (by omega)
          have q90 : decide ((s[k].toNat : Int) ≤ 90) = true := decide_eq_true (by omega)
          have q48 : decide ((48 : Int) ≤ (s[k].toNat : Int)) = false := decide_eq_false (by omega)
          have q57 : decide ((s[k].toNat : Int) ≤ 57) = true := decide_eq_true (by omega)
          have q45 : ((s[k].toNat : Int) == 45) = false := by rw [beq_eq_false_iff_ne]; omega
          clear hnv hcl p0 p1
          go_wp2_with fail
          go_roundg (s.size - (k + 1))
          case measure => have := HG.out; omega
          case rel => exact ⟨k + 1, false, by have := HG.out; omega, by go_num, by first | rfl | go_num, by rw [HY.out, HN.out]; rfl, rfl⟩
        · have HN := Lib.hid (show Ht.nmc s[k] = true by rw [hnv]; simp; omega)
          have q97 : decide ((97 : Int) ≤ (s[k].toNat : Int)) = false := decide_eq_false (by omega)
          have q122 : decide ((s[k].toNat : Int) ≤ 122) = true := decide_eq_true (by omega)
          have q65 : decide ((65 : Int) ≤ (s[k].toNat : Int)) = false := decide_eq_false (by omega)
          have q90 : decide ((s[k].toNat : Int) ≤ 90) = true := decide_eq_true (by omega)
          have q48 : decide ((48 : Int) ≤ (s[k].toNat : Int)) = false := decide_eq_false (by omega)
          have q57 : decide ((s[k].toNat : Int) ≤ 57) = true := decide_eq_true (by omega)
          have q45 : ((s[k].toNat : Int) == 45) = true := by rw [beq_iff_eq]; omega
          clear hnv hcl p0 p1
          go_wp2_with fail
          go_roundg (s.size - (k + 1))
          case measure => have := HG.out; omega
          case rel => exact ⟨k + 1, true, by have := HG.out; omega, by go_num, by first | rfl | go_num, by rw [HY.out, HN.out]; rfl, rfl⟩
        · have HN := Lib.hid (show Ht.nmc s[k] = false by rw [hnv]; simp; omega)
          have q97 : decide ((97 : Int) ≤ (s[k].toNat : Int)) = false := decide_eq_false (by omega)
          have q122 : decide ((s[k].toNat : Int) ≤ 122) = true := decide_eq_true (by omega)
          have q65 : decide ((65 : Int) ≤ (s[k].toNat : Int)) = false := decide_eq_false (by omega)
          have q90 : decide ((s[k].toNat : Int) ≤ 90) = true := decide_eq_true (by omega)
          have q48 : decide ((48 : Int) ≤ (s[k].toNat : Int)) = false := decide_eq_false (by omega)
          have q57 : decide ((s[k].toNat : Int) ≤ 57) = true := decide_eq_true (by omega)
          have q45 : ((s[k].toNat : Int) == 45) = false := by rw [beq_eq_false_iff_ne]; omega
          clear hnv hcl p0 p1
          go_wp2_with fail
          go_roundg (s.size - (k + 1))
          case measure => have := HG.out; omega
          case rel => exact ⟨k + 1, false, by have := HG.out; omega, by go_num, by first | rfl | go_num, by rw [HY.out, HN.out]; rfl, rfl⟩
    · have hk2 : k = s.size := by omega
      have HK := Lib.hid (show b = Sg.goodName s.data.toList by
        have h1 := HB.out
        rw [Com.take_all s k hk2] at h1
        unfold Sg.goodName
        rw [h1, HB0.out])
      clear hkg hk2
      go_wp2_with fail
      go_ret
      exact ⟨by rw [← HK.out]; rfl, rfl⟩
end Go.Proofs.YtidflagmdabfaaaGreatDoor.RgN
namespace Go.Proofs.YtidflagmdabfaaaGreatDoor.HtU
open Go.RowKit Go.Proofs.YtidflagmdabfaaaGreatDoor Go.Proofs.YtidflagmdabfaaaGreatDoor.Ht Go.Proofs.YtidflagmdabfaaaGreatDoor.HtW Go.Proofs.YtidflagmdabfaaaGreatDoor.HtC

/-- are two requests alike? -/
def eqR (m t bd : List UInt8) (fs : List Fld) (m' t' bd' : List UInt8) (fs' : List Fld) : Bool := decide (m = m' ∧ t = t' ∧ bd = bd' ∧ fs = fs')
theorem eqR_no {m t bd : List UInt8} {fs : List Fld} {m' t' bd' : List UInt8} {fs' : List Fld} (h : ¬ (m = m' ∧ t = t' ∧ bd = bd' ∧ fs = fs')) : eqR m t bd fs m' t' bd' fs' = false := decide_eq_false h
theorem eqR_yes (m t bd : List UInt8) (fs : List Fld) : eqR m t bd fs m t bd fs = true := decide_eq_true ⟨rfl, rfl, rfl, rfl⟩

set_option maxHeartbeats 4000000 in
set_option maxRecDepth 100000 in
theorem same (m t m' t' bd bd' : List UInt8) (fs fs' : List Fld) {a a' ab ab' : Option Addr} (c c' cb cb' : Nat) (w : World) (hf : Fs w a fs) (hf' : Fs w a' fs') (hb : Bs w ab bd cb) (hb' : Bs w ab' bd' cb') (hl : fs.length ≤ 9223372036854775807) :
    Calls Tryz.prog 22 #[.agg #[.string ⟨m.toArray⟩, .string ⟨t.toArray⟩, .slice a fs.length c, .slice ab bd.length cb], .agg #[.string ⟨m'.toArray⟩, .string ⟨t'.toArray⟩, .slice a' fs'.length c', .slice ab' bd'.length cb']] w fun e w' => e = .returned (.bool (eqR m t bd fs m' t' bd' fs')) ∧ Below w.heap.size w w' := by
  have hB := ((Below.refl w.heap.size w).alloc (Nat.le_refl _) (.cells #[.string ⟨m.toArray⟩, .string ⟨t.toArray⟩, .slice a fs.length c, .slice ab bd.length cb] 25)).alloc (by simp) (.cells #[.string ⟨m'.toArray⟩, .string ⟨t'.toArray⟩, .slice a' fs'.length c', .slice ab' bd'.length cb'] 25)
  have hR : Rq w.heap.size ((w.alloc (.cells #[.string ⟨m.toArray⟩, .string ⟨t.toArray⟩, .slice a fs.length c, .slice ab bd.length cb] 25)).alloc (.cells #[.string ⟨m'.toArray⟩, .string ⟨t'.toArray⟩, .slice a' fs'.length c', .slice ab' bd'.length cb'] 25)) (.string ⟨m.toArray⟩) (.string ⟨t.toArray⟩) (.slice a fs.length c) (.slice ab bd.length cb) := (Below.heap_alloc _ _ _ (by simp)).trans (heap_alloc_new _ _)
  have hR' : Rq (w.heap.size + 1) ((w.alloc (.cells #[.string ⟨m.toArray⟩, .string ⟨t.toArray⟩, .slice a fs.length c, .slice ab bd.length cb] 25)).alloc (.cells #[.string ⟨m'.toArray⟩, .string ⟨t'.toArray⟩, .slice a' fs'.length c', .slice ab' bd'.length cb'] 25)) (.string ⟨m'.toArray⟩) (.string ⟨t'.toArray⟩) (.slice a' fs'.length c') (.slice ab' bd'.length cb') := by
    have := heap_alloc_new (w.alloc (.cells #[.string ⟨m.toArray⟩, .string ⟨t.toArray⟩, .slice a fs.length c, .slice ab bd.length cb] 25)) (.cells #[.string ⟨m'.toArray⟩, .string ⟨t'.toArray⟩, .slice a' fs'.length c', .slice ab' bd'.length cb'] 25)
    rwa [World.size_alloc] at this
  have HF := Lib.hid hf; clear hf
  have HF' := Lib.hid hf'; clear hf'
  have hk := to_string (hb.below hB)
  have hk' := to_string (hb'.below hB)
  go_enter Tryz.func22, Tryz.ntmps22
  by_cases e1 : m = m'
  · by_cases e2 : t = t'
    · by_cases e3 : bd = bd'
      · subst e1 e2 e3
        by_cases e4 : fs.length = fs'.length
        · rw [← e4] at hR hR' hB hk hk' ⊢
          have HL := Lib.hid e4; clear e4
          go_wp2_with fail
          have HB := Lib.hid hB
          clear hB hk hk' hb hb'
          generalize (w.alloc (.cells #[.string ⟨m.toArray⟩, .string ⟨t.toArray⟩, .slice a fs.length c, .slice ab bd.length cb] 25)).alloc (.cells #[.string ⟨m.toArray⟩, .string ⟨t.toArray⟩, .slice a' fs.length c', .slice ab' bd.length cb'] 25) = W at *
          go_loopg [39] fs.length (fun g v39 wr => ∃ k : Nat, k + g = fs.length ∧ v39 = .int .i64 k ∧ Hid (fs.take k = fs'.take k) ∧ Rq w.heap.size wr (.string ⟨m.toArray⟩) (.string ⟨t.toArray⟩) (.slice a fs.length c) (.slice ab bd.length cb) ∧ Rq (w.heap.size + 1) wr (.string ⟨m.toArray⟩) (.string ⟨t.toArray⟩) (.slice a' fs.length c') (.slice ab' bd.length cb') ∧ Below w.heap.size w wr)
          case atStart => exact ⟨0, by simp, rfl, by unfold Hid; simp, hR, hR', HB.out⟩
          case round =>
            clear hR hR' HB
            obtain ⟨k, hkg, rfl, HK, hR, hR', hb⟩ := hrel
            have HG := Lib.hid hkg; clear hkg
            have HBB := Lib.hid hb
            by_cases hlt : k < fs.length
            · have hlt' : k < fs'.length := by rw [← HL.out]; exact hlt
              obtain ⟨q, hq⟩ : ∃ q, fs[k]? = some q := ⟨fs[k], List.getElem?_eq_getElem hlt⟩
              obtain ⟨q', hq'⟩ : ∃ q, fs'[k]? = some q := ⟨fs'[k], List.getElem?_eq_getElem hlt'⟩
              obtain ⟨bb, o, rfl, hbb, d0, d1⟩ := Fs.at HF.out hq
              obtain ⟨bb', o', rfl, hbb', d0', d1'⟩ := Fs.at HF'.out hq'
              have c0 := (hb.drew.cell (p := ⟨bb, o + k * 2, none⟩) hbb).trans d0
              have c1 := (hb.drew.cell (p := ⟨bb, o + k * 2 + 1, none⟩) hbb).trans d1
              have c0' := (hb.drew.cell (p := ⟨bb', o' + k * 2, none⟩) hbb').trans d0'
              have c1' := (hb.drew.cell (p := ⟨bb', o' + k * 2 + 1, none⟩) hbb').trans d1'
              have hRd := hR.below ((Below.refl wr.heap.size wr).drew)
              have hRd' := hR'.below ((Below.refl wr.heap.size wr).drew)
              obtain ⟨x0, x1, x2, x3, -, -, -, -⟩ := hRd.cells
              obtain ⟨y0, y1, y2, y3, -, -, -, -⟩ := hRd'.cells
              obtain ⟨nm, vl⟩ := q
              obtain ⟨nm', vl'⟩ := q'
              simp only at c0 c1 c0' c1'
              have z1 : (0 : Int) ≤ k := by omega
              have z2 : (k : Int) < fs.length := by omega
              clear d0 d1 d0' d1' hb hlt'
              by_cases e5 : nm = nm'
              · by_cases e6 : vl = vl'
                · subst e5 e6
                  have HK2 := Lib.hid (show fs.take (k + 1) = fs'.take (k + 1) by rw [List.take_add_one, List.take_add_one, hq, hq', HK.out])
                  clear hq hq'
                  go_wp2_with fail
                  go_region_held3 (fun W => (W.cell? ⟨w.heap.size, 2, none⟩ = some (.slice (some ⟨bb, o, none⟩) fs.length c) ∧ W.cell? ⟨w.heap.size + 1, 2, none⟩ = some (.slice (some ⟨bb', o', none⟩) fs.length c')) ∧ (W.cell? ⟨bb, o + k * 2, none⟩ = some (.string ⟨nm.toArray⟩) ∧ W.cell? ⟨bb, o + k * 2 + 1, none⟩ = some (.string ⟨vl.toArray⟩)) ∧ W.cell? ⟨bb', o' + k * 2, none⟩ = some (.string ⟨nm.toArray⟩) ∧ W.cell? ⟨bb', o' + k * 2 + 1, none⟩ = some (.string ⟨vl.toArray⟩))
                    (first | exact ⟨⟨x2, y2⟩, ⟨c0, c1⟩, c0', c1'⟩ | assumption)
                    (fail)
                  go_wp2_with fail
                  go_roundg (fs.length - (k + 1))
                  case rel => exact ⟨k + 1, by omega, by go_num, HK2, hRd, hRd', HBB.out.drew⟩
                  case measure => have := HG.out; omega
                · have hn := Lib.hid (eqR_no (m := m) (t := t) (bd := bd) (fs := fs) (m' := m) (t' := t) (bd' := bd) (fs' := fs') (fun h => e6 (by have h2 := h.2.2.2; rw [h2, hq'] at hq; cases hq; rfl)))
                  subst e5
                  have t5 : (vl == vl') = false := by simpa using e6
                  clear hq hq' e6
                  go_wp2_with fail
                  go_region_held3 (fun W => (W.cell? ⟨w.heap.size, 2, none⟩ = some (.slice (some ⟨bb, o, none⟩) fs.length c) ∧ W.cell? ⟨w.heap.size + 1, 2, none⟩ = some (.slice (some ⟨bb', o', none⟩) fs.length c')) ∧ (W.cell? ⟨bb, o + k * 2, none⟩ = some (.string ⟨nm.toArray⟩) ∧ W.cell? ⟨bb, o + k * 2 + 1, none⟩ = some (.string ⟨vl.toArray⟩)) ∧ W.cell? ⟨bb', o' + k * 2, none⟩ = some (.string ⟨nm.toArray⟩) ∧ W.cell? ⟨bb', o' + k * 2 + 1, none⟩ = some (.string ⟨vl'.toArray⟩))
                    (first | exact ⟨⟨x2, y2⟩, ⟨c0, c1⟩, c0', c1'⟩ | assumption)
                    (fail)
                  go_wp2_with fail
                  go_ret
                  exact ⟨by rw [hn.out]; rfl, HBB.out.drew⟩
              · have hn := Lib.hid (eqR_no (m := m) (t := t) (bd := bd) (fs := fs) (m' := m) (t' := t) (bd' := bd) (fs' := fs') (fun h => e5 (by have h2 := h.2.2.2; rw [h2, hq'] at hq; cases hq; rfl)))
                have t5 : (nm == nm') = false := by simpa using e5
                clear hq hq' e5
                go_wp2_with fail
                go_region_held3 (fun W => (W.cell? ⟨w.heap.size, 2, none⟩ = some (.slice (some ⟨bb, o, none⟩) fs.length c) ∧ W.cell? ⟨w.heap.size + 1, 2, none⟩ = some (.slice (some ⟨bb', o', none⟩) fs.length c')) ∧ (W.cell? ⟨bb, o + k * 2, none⟩ = some (.string ⟨nm.toArray⟩) ∧ W.cell? ⟨bb, o + k * 2 + 1, none⟩ = some (.string ⟨vl.toArray⟩)) ∧ W.cell? ⟨bb', o' + k * 2, none⟩ = some (.string ⟨nm'.toArray⟩) ∧ W.cell? ⟨bb', o' + k * 2 + 1, none⟩ = some (.string ⟨vl'.toArray⟩))
                  (first | exact ⟨⟨x2, y2⟩, ⟨c0, c1⟩, c0', c1'⟩ | assumption)
                  (fail)
                go_wp2_with fail
                go_ret
                exact ⟨by rw [hn.out]; rfl, HBB.out.drew⟩
            · have hy := Lib.hid (show eqR m t bd fs m t bd fs' = true by
                have h1 := HK.out
                have h2 := HL.out
                rw [List.take_of_length_le (by omega), List.take_of_length_le (by omega)] at h1
                rw [h1]
                exact eqR_yes m t bd fs')
              go_wp2_with fail
              go_ret
              exact ⟨by rw [hy.out]; rfl, hb⟩
        · have hn := Lib.hid (eqR_no (m := m) (t := t) (bd := bd) (fs := fs) (m' := m) (t' := t) (bd' := bd) (fs' := fs') (fun h => e4 (congrArg List.length h.2.2.2)))
          go_wp2_with fail
          go_ret
          exact ⟨by rw [hn.out]; rfl, hB⟩
      · have hn := Lib.hid (eqR_no (m := m) (t := t) (bd := bd) (fs := fs) (m' := m') (t' := t') (bd' := bd') (fs' := fs') (fun h => e3 h.2.2.1))
        subst e1 e2
        have t3 : (bd == bd') = false := by simpa using e3
        clear e3
        go_wp2_with fail
        go_ret
        exact ⟨by rw [hn.out]; rfl, hB⟩
    · have hn := Lib.hid (eqR_no (m := m) (t := t) (bd := bd) (fs := fs) (m' := m') (t' := t') (bd' := bd') (fs' := fs') (fun h => e2 h.2.1))
      subst e1
      have t3 : (t == t') = false := by simpa using e2
      clear e2
      go_wp2_with fail
      go_ret
      exact ⟨by rw [hn.out]; rfl, hB⟩
  · have hn := Lib.hid (eqR_no (m := m) (t := t) (bd := bd) (fs := fs) (m' := m') (t' := t') (bd' := bd') (fs' := fs') (fun h => e1 h.1))
    have t3 : (m == m') = false := by simpa using e1
    clear e1
    go_wp2_with fail
    go_ret
    exact ⟨by rw [hn.out]; rfl, hB⟩
end Go.Proofs.YtidflagmdabfaaaGreatDoor.HtU
