/-
  The walks of bollardref17's value, cut, Decode.
-/
import Derived.Test.YtmimkgfkicgfiaaDoorUriA
namespace Go.Proofs.YtmimkgfkicgfiaaDoor.UriE
open Go.RowKit Go.Proofs.YtmimkgfkicgfiaaDoor

def vl (n : Nat) : Int := if 48 ≤ n ∧ n ≤ 57 then (n : Int) - 48 else if 97 ≤ n ∧ n ≤ 102 then (n : Int) - 97 + 10 else if 65 ≤ n ∧ n ≤ 70 then (n : Int) - 65 + 10 else -1
theorem vl_all : ∀ n : Fin 256, UriA.dg (UInt8.ofNat n.1) = vl n.1 := by decide +kernel
theorem vl_eq (c : UInt8) : UriA.dg c = vl c.toNat := by
  have := vl_all ⟨c.toNat, UInt8.toNat_lt c⟩
  simpa using this

set_option maxHeartbeats 1000000 in
theorem value (c : UInt8) (w : World) : Calls Tryd.prog 66 #[.int .u8 (c.toNat : Int)] w fun e w' => e = .returned (.int .i64 (UriA.dg c)) ∧ w = w' := by
  have hc := UInt8.toNat_lt c
  by_cases h1 : 48 ≤ c.toNat ∧ c.toNat ≤ 57
  · have HE := Lib.hid (show UriA.dg c = (c.toNat : Int) - 48 by rw [vl_eq, vl, if_pos h1])
    obtain ⟨h1, h2⟩ := h1
    go_enter Tryd.func66, Tryd.ntmps66
    go_wp2
    go_ret
    exact ⟨UriA.ret_i64 (by rw [HE.out]), rfl⟩
  · by_cases h2 : 97 ≤ c.toNat ∧ c.toNat ≤ 102
    · have HE := Lib.hid (show UriA.dg c = (c.toNat : Int) - 97 + 10 by rw [vl_eq, vl, if_neg h1, if_pos h2])
      clear h1
      obtain ⟨h1, h2⟩ := h2
      go_enter Tryd.func66, Tryd.ntmps66
      go_wp2
      go_ret
      exact ⟨UriA.ret_i64 (by rw [HE.out]), rfl⟩
    · by_cases h3 : 65 ≤ c.toNat ∧ c.toNat ≤ 70
      · have HE := Lib.hid (show UriA.dg c = (c.toNat : Int) - 65 + 10 by rw [vl_eq, vl, if_neg h1, if_neg h2, if_pos h3])
        clear h1 h2
        obtain ⟨h1, h2⟩ := h3
        go_enter Tryd.func66, Tryd.ntmps66
        go_wp2
        go_ret
        exact ⟨UriA.ret_i64 (by rw [HE.out]), rfl⟩
      · have HE := Lib.hid (show UriA.dg c = -1 by rw [vl_eq, vl, if_neg h1, if_neg h2, if_neg h3])
        by_cases g1 : c.toNat < 48
        · clear h1 h2 h3
          go_enter Tryd.func66, Tryd.ntmps66
          go_wp2
          go_ret
          exact ⟨UriA.ret_i64 (by rw [HE.out]), rfl⟩
        · have g2 : 57 < c.toNat := by omega
          by_cases g3 : c.toNat < 65
          · clear h1 h2 h3
            go_enter Tryd.func66, Tryd.ntmps66
            go_wp2
            go_ret
            exact ⟨UriA.ret_i64 (by rw [HE.out]), rfl⟩
          · have g4 : 70 < c.toNat := by omega
            by_cases g5 : c.toNat < 97
            · clear h1 h2 h3
              go_enter Tryd.func66, Tryd.ntmps66
              go_wp2
              go_ret
              exact ⟨UriA.ret_i64 (by rw [HE.out]), rfl⟩
            · have g6 : 102 < c.toNat := by omega
              clear h1 h2 h3
              go_enter Tryd.func66, Tryd.ntmps66
              go_wp2
              go_ret
              exact ⟨UriA.ret_i64 (by rw [HE.out]), rfl⟩

theorem not_mem_snoc {c : UInt8} {s : ByteArray} {k : Nat} (hk : k < s.size) (h : c ∉ s.data.toList.take k) (hc : s[k] ≠ c) : c ∉ s.data.toList.take (k + 1) := by
  rw [Com.take_succ s k hk, List.mem_append]
  simp [h, Ne.symm hc]

set_option maxHeartbeats 2000000 in
set_option maxRecDepth 100000 in
theorem cut (s : ByteArray) (c : UInt8) (w : World) (hs : s.size ≤ 70368744177664) :
    Calls Tryd.prog 62 #[.string s, .int .u8 (c.toNat : Int)] w fun e w' => e = .returned (.tuple #[.string ⟨(Up.cutAt c s.data.toList).1.toArray⟩, .string ⟨(Up.cutAt c s.data.toList).2.toArray⟩]) ∧ Below w.heap.size w w' := by
  go_enter Tryd.func62, Tryd.ntmps62
  go_wp2_with fail
  go_loop [6] (fun i => ∃ k : Nat, k ≤ s.size ∧ i = .int .i64 k ∧ Hid (c ∉ s.data.toList.take k)) (fun i => s.size - (intOf i).toNat)
  case atStart => exact ⟨0, Nat.zero_le _, rfl, by unfold Hid; simp⟩
  case round =>
    obtain ⟨k, hk, rfl, HM⟩ := hrel
    by_cases hlt : k < s.size
    · by_cases hc : s[k] = c
      · have t1 : ((s[k].toNat : Int) == (c.toNat : Int)) = true := by rw [hc]; simp
        have HC := Lib.hid (show Up.cutAt c s.data.toList = (s.data.toList.take k, s.data.toList.drop (k + 1)) by
          have e : s.data.toList = s.data.toList.take k ++ c :: s.data.toList.drop (k + 1) := by
            conv => lhs; rw [← List.take_append_drop k s.data.toList, UriA.drop_at s k hlt, hc]
          conv => lhs; rw [e]
          exact Up.cutAt_at HM.out)
        have hE1 : s.extract 0 k = ⟨(s.data.toList.take k).toArray⟩ := by
          rw [← Com.mk_data (s.extract 0 k), Com.extract_data]; simp
        have hE2 : s.extract (k + 1) s.size = ⟨(s.data.toList.drop (k + 1)).toArray⟩ := by
          rw [← Com.mk_data (s.extract (k + 1) s.size), Com.extract_data, Com.take_all s s.size rfl]
        clear hc
        go_wp2_with fail
        go_quiet (fail)
        go_wp2_with fail
        go_ret2
        exact ⟨by rw [HC.out]; rfl, UriA.below_drewN (Below.refl _ _) _⟩
      · have t1 : ((s[k].toNat : Int) == (c.toNat : Int)) = false := by
          simp only [beq_eq_false_iff_ne, ne_eq]
          exact fun e => hc (UInt8.toNat_inj.1 (by omega))
        have HN := Lib.hid (not_mem_snoc hlt HM.out hc)
        clear hc
        go_wp2_with fail
        go_round
        case rel => exact ⟨k + 1, by omega, by go_num, HN⟩
        case measure => simp [intOf]; omega
    · have HC := Lib.hid (show Up.cutAt c s.data.toList = (s.data.toList, []) by
        have := HM.out
        rw [Com.take_all s k (by omega)] at this
        exact Up.cutAt_free this)
      go_wp2_with fail
      go_ret2
      exact ⟨by rw [HC.out, Com.mk_data]; rfl, Below.refl _ _⟩
end Go.Proofs.YtmimkgfkicgfiaaDoor.UriE
