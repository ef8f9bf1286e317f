/-
  The walks of package http's between, Field, Count, first.
-/
import Derived.Test.YtnhjbcjeeilicaaGreatDoorProg
import Derived.Test.YtnhjbcjeeilicaaGreatDoorHtPlain
import Derived.Test.YtnhjbcjeeilicaaGreatDoorCom
import Derived.Test.YtnhjbcjeeilicaaGreatDoorShelf
import Derived.WalkKit
import Derived.OwnWalk
import Derived.Deep.LoopGhost
namespace Go.Proofs.YtnhjbcjeeilicaaGreatDoor.HtA
open Go.RowKit Go.Proofs.YtnhjbcjeeilicaaGreatDoor Go.Proofs.YtnhjbcjeeilicaaGreatDoor.Ht

theorem ret_bool {a b : Bool} (h : a = b) : Ending.returned (.bool a) = .returned (.bool b) := by rw [h]

set_option maxHeartbeats 1000000 in
theorem between (s : ByteArray) (lo hi : Int) (w : World) (hs : s.size ≤ 4294967296) :
    Calls Tryz.prog 35 #[.string s, .int .u8 lo, .int .u8 hi] w fun e w' => e = .returned (.bool (allR lo hi s.data.toList)) ∧ w = w' := by
  go_enter Tryz.func35, Tryz.ntmps35
  go_wp2
  go_loop [7, 10] (fun _ i => ∃ k : Nat, k ≤ s.size ∧ i = .int .i64 k ∧ (s.data.toList.take k).all (rng lo hi) = true) (fun _ i => s.size - (intOf i).toNat)
  case atStart => exact ⟨0, Nat.zero_le _, rfl, rfl⟩
  case round =>
    obtain ⟨k, hk, rfl, hall⟩ := hrel
    have HA := Lib.hid hall; clear hall
    by_cases hlt : k < s.size
    · have hts := Com.take_succ s k hlt
      have hmem : s[k] ∈ s.data.toList := by
        have h3 : s[k] ∈ s.data.toList.take (k + 1) := by rw [hts]; simp
        exact List.mem_of_mem_take h3
      have HT := Lib.hid hts; clear hts
      have HM := Lib.hid hmem; clear hmem
      have no : rng lo hi s[k] = false → false = allR lo hi s.data.toList := fun h => (List.all_eq_false.2 ⟨_, HM.out, by simp [h]⟩ : s.data.toList.all (rng lo hi) = false).symm
      have NO := Lib.hid no; clear no
      by_cases a1 : (s[k].toNat : Int) < lo
      · go_wp2
        go_ret
        exact ⟨ret_bool (NO.out (by simp [rng]; omega)), rfl⟩
      · by_cases a2 : hi < (s[k].toNat : Int)
        · go_wp2
          go_ret
          exact ⟨ret_bool (NO.out (by simp [rng]; omega)), rfl⟩
        · go_wp2
          go_round
          case rel =>
            refine ⟨k + 1, by omega, by go_num, ?_⟩
            rw [HT.out, List.all_append, HA.out]
            have h1 : lo ≤ (s[k].toNat : Int) := by omega
            have h2 : (s[k].toNat : Int) ≤ hi := by omega
            simp [rng, h1, h2]
          case measure => simp [intOf]; omega
    · go_wp2
      go_ret
      exact ⟨ret_bool (by unfold allR; rw [← Com.take_all s k (by omega), HA.out]), rfl⟩
end Go.Proofs.YtnhjbcjeeilicaaGreatDoor.HtA
