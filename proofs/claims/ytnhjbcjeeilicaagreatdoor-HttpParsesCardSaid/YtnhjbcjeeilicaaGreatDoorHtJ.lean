/-
  The walk of package http's Reason; what Write writes, as bytes.
-/
import Derived.Test.YtnhjbcjeeilicaaGreatDoorHtW
import Derived.Test.YtnhjbcjeeilicaaGreatDoorDec
import Derived.Lib.Hide
import Derived.Lib.ItoaNum
namespace Go.Proofs.YtnhjbcjeeilicaaGreatDoor.HtJ
open Go.RowKit Go.Proofs.YtnhjbcjeeilicaaGreatDoor Go.Proofs.YtnhjbcjeeilicaaGreatDoor.Ht

/-- a status in words -/
def rsn (st : Int) : List UInt8 :=
  if st = 200 then [79, 75] else
  if st = 204 then [78, 111, 32, 67, 111, 110, 116, 101, 110, 116] else
  if st = 206 then [80, 97, 114, 116, 105, 97, 108, 32, 67, 111, 110, 116, 101, 110, 116] else
  if st = 400 then [66, 97, 100, 32, 82, 101, 113, 117, 101, 115, 116] else
  if st = 403 then [70, 111, 114, 98, 105, 100, 100, 101, 110] else
  if st = 404 then [78, 111, 116, 32, 70, 111, 117, 110, 100] else
  if st = 405 then [77, 101, 116, 104, 111, 100, 32, 78, 111, 116, 32, 65, 108, 108, 111, 119, 101, 100] else
  if st = 409 then [67, 111, 110, 102, 108, 105, 99, 116] else
  if st = 413 then [67, 111, 110, 116, 101, 110, 116, 32, 84, 111, 111, 32, 76, 97, 114, 103, 101] else
  if st = 416 then [82, 97, 110, 103, 101, 32, 78, 111, 116, 32, 83, 97, 116, 105, 115, 102, 105, 97, 98, 108, 101] else
  if st = 500 then [73, 110, 116, 101, 114, 110, 97, 108, 32, 83, 101, 114, 118, 101, 114, 32, 69, 114, 114, 111, 114] else
  if st = 503 then [83, 101, 114, 118, 105, 99, 101, 32, 85, 110, 97, 118, 97, 105, 108, 97, 98, 108, 101] else
  if st = 507 then [73, 110, 115, 117, 102, 102, 105, 99, 105, 101, 110, 116, 32, 83, 116, 111, 114, 97, 103, 101] else
  [85, 110, 107, 110, 111, 119, 110]
theorem rsn_len (st : Int) : (rsn st).length ≤ 21 := by
  unfold rsn
  by_cases h0 : st = 200
  · rw [if_pos h0]; simp
  rw [if_neg h0]
  by_cases h1 : st = 204
  · rw [if_pos h1]; simp
  rw [if_neg h1]
  by_cases h2 : st = 206
  · rw [if_pos h2]; simp
  rw [if_neg h2]
  by_cases h3 : st = 400
  · rw [if_pos h3]; simp
  rw [if_neg h3]
  by_cases h4 : st = 403
  · rw [if_pos h4]; simp
  rw [if_neg h4]
  by_cases h5 : st = 404
  · rw [if_pos h5]; simp
  rw [if_neg h5]
  by_cases h6 : st = 405
  · rw [if_pos h6]; simp
  rw [if_neg h6]
  by_cases h7 : st = 409
  · rw [if_pos h7]; simp
  rw [if_neg h7]
  by_cases h8 : st = 413
  · rw [if_pos h8]; simp
  rw [if_neg h8]
  by_cases h9 : st = 416
  · rw [if_pos h9]; simp
  rw [if_neg h9]
  by_cases h10 : st = 500
  · rw [if_pos h10]; simp
  rw [if_neg h10]
  by_cases h11 : st = 503
  · rw [if_pos h11]; simp
  rw [if_neg h11]
  by_cases h12 : st = 507
  · rw [if_pos h12]; simp
  rw [if_neg h12]
  simp
def lineOf (f : Fld) : List UInt8 := f.1 ++ [58, 32] ++ f.2 ++ [13, 10]
def top (st : Int) : List UInt8 := [72, 84, 84, 80, 47, 49, 46, 49, 32] ++ Lib.itoa st ++ [32] ++ rsn st ++ [13, 10]
def all (fs : List Fld) (n : Nat) : List Fld := fs ++ [(cl, Lib.itoa (n : Int))]
/-- a response's bytes -/
def wr (st : Int) (fs : List Fld) (body : List UInt8) : List UInt8 := top st ++ (all fs body.length).flatMap lineOf ++ [13, 10] ++ body

set_option maxHeartbeats 4000000 in
set_option maxRecDepth 100000 in
theorem reason (st : Int) (w : World) : Calls Tryz.prog 23 #[.int .i64 st] w fun e w' => e = .returned (.string ⟨(rsn st).toArray⟩) ∧ w = w' := by
  by_cases h0 : st = 200
  · have hr := Lib.hid (show rsn st = [79, 75] by unfold rsn; rw [if_pos h0])
    subst h0
    go_enter Tryz.func23, Tryz.ntmps23
    go_wp2_with fail
    go_ret
    exact ⟨by rw [hr.out]; rfl, rfl⟩
  · by_cases h1 : st = 204
    · have hr := Lib.hid (show rsn st = [78, 111, 32, 67, 111, 110, 116, 101, 110, 116] by unfold rsn; rw [if_neg h0, if_pos h1])
      clear h0
      subst h1
      go_enter Tryz.func23, Tryz.ntmps23
      go_wp2_with fail
      go_ret
      exact ⟨by rw [hr.out]; rfl, rfl⟩
    · by_cases h2 : st = 206
      · have hr := Lib.hid (show rsn st = [80, 97, 114, 116, 105, 97, 108, 32, 67, 111, 110, 116, 101, 110, 116] by unfold rsn; rw [if_neg h0, if_neg h1, if_pos h2])
        clear h0 h1
        subst h2
        go_enter Tryz.func23, Tryz.ntmps23
        go_wp2_with fail
        go_ret
        exact ⟨by rw [hr.out]; rfl, rfl⟩
      · by_cases h3 : st = 400
        · have hr := Lib.hid (show rsn st = [66, 97, 100, 32, 82, 101, 113, 117, 101, 115, 116] by unfold rsn; rw [if_neg h0, if_neg h1, if_neg h2, if_pos h3])
          clear h0 h1 h2
          subst h3
          go_enter Tryz.func23, Tryz.ntmps23
          go_wp2_with fail
          go_ret
          exact ⟨by rw [hr.out]; rfl, rfl⟩
        · by_cases h4 : st = 403
          · have hr := Lib.hid (show rsn st = [70, 111, 114, 98, 105, 100, 100, 101, 110] by unfold rsn; rw [if_neg h0, if_neg h1, if_neg h2, if_neg h3, if_pos h4])
            clear h0 h1 h2 h3
            subst h4
            go_enter Tryz.func23, Tryz.ntmps23
            go_wp2_with fail
            go_ret
            exact ⟨by rw [hr.out]; rfl, rfl⟩
          · by_cases h5 : st = 404
            · have hr := Lib.hid (show rsn st = [78, 111, 116, 32, 70, 111, 117, 110, 100] by unfold rsn; rw [if_neg h0, if_neg h1, if_neg h2, if_neg h3, if_neg h4, if_pos h5])
              clear h0 h1 h2 h3 h4
              subst h5
              go_enter Tryz.func23, Tryz.ntmps23
              go_wp2_with fail
              go_ret
              exact ⟨by rw [hr.out]; rfl, rfl⟩
            · by_cases h6 : st = 405
              · have hr := Lib.hid (show rsn st = [77, 101, 116, 104, 111, 100, 32, 78, 111, 116, 32, 65, 108, 108, 111, 119, 101, 100] by unfold rsn; rw [if_neg h0, if_neg h1, if_neg h2, if_neg h3, if_neg h4, if_neg h5, if_pos h6])
                clear h0 h1 h2 h3 h4 h5
                subst h6
                go_enter Tryz.func23, Tryz.ntmps23
                go_wp2_with fail
                go_ret
                exact ⟨by rw [hr.out]; rfl, rfl⟩
              · by_cases h7 : st = 409
                · have hr := Lib.hid (show rsn st = [67, 111, 110, 102, 108, 105, 99, 116] by unfold rsn; rw [if_neg h0, if_neg h1, if_neg h2, if_neg h3, if_neg h4, if_neg h5, if_neg h6, if_pos h7])
                  clear h0 h1 h2 h3 h4 h5 h6
                  subst h7
                  go_enter Tryz.func23, Tryz.ntmps23
                  go_wp2_with fail
                  go_ret
                  exact ⟨by rw [hr.out]; rfl, rfl⟩
                · by_cases h8 : st = 413
                  · have hr := Lib.hid (show rsn st = [67, 111, 110, 116, 101, 110, 116, 32, 84, 111, 111, 32, 76, 97, 114, 103, 101] by unfold rsn; rw [if_neg h0, if_neg h1, if_neg h2, if_neg h3, if_neg h4, if_neg h5, if_neg h6, if_neg h7, if_pos h8])
                    clear h0 h1 h2 h3 h4 h5 h6 h7
                    subst h8
                    go_enter Tryz.func23, Tryz.ntmps23
                    go_wp2_with fail
                    go_ret
                    exact ⟨by rw [hr.out]; rfl, rfl⟩
                  · by_cases h9 : st = 416
                    · have hr := Lib.hid (show rsn st = [82, 97, 110, 103, 101, 32, 78, 111, 116, 32, 83, 97, 116, 105, 115, 102, 105, 97, 98, 108, 101] by unfold rsn; rw [if_neg h0, if_neg h1, if_neg h2, if_neg h3, if_neg h4, if_neg h5, if_neg h6, if_neg h7, if_neg h8, if_pos h9])
                      clear h0 h1 h2 h3 h4 h5 h6 h7 h8
                      subst h9
                      go_enter Tryz.func23, Tryz.ntmps23
                      go_wp2_with fail
                      go_ret
                      exact ⟨by rw [hr.out]; rfl, rfl⟩
                    · by_cases h10 : st = 500
                      · have hr := Lib.hid (show rsn st = [73, 110, 116, 101, 114, 110, 97, 108, 32, 83, 101, 114, 118, 101, 114, 32, 69, 114, 114, 111, 114] by unfold rsn; rw [if_neg h0, if_neg h1, if_neg h2, if_neg h3, if_neg h4, if_neg h5, if_neg h6, if_neg h7, if_neg h8, if_neg h9, if_pos h10])
                        clear h0 h1 h2 h3 h4 h5 h6 h7 h8 h9
                        subst h10
                        go_enter Tryz.func23, Tryz.ntmps23
                        go_wp2_with fail
                        go_ret
                        exact ⟨by rw [hr.out]; rfl, rfl⟩
                      · by_cases h11 : st = 503
                        · have hr := Lib.hid (show rsn st = [83, 101, 114, 118, 105, 99, 101, 32, 85, 110, 97, 118, 97, 105, 108, 97, 98, 108, 101] by unfold rsn; rw [if_neg h0, if_neg h1, if_neg h2, if_neg h3, if_neg h4, if_neg h5, if_neg h6, if_neg h7, if_neg h8, if_neg h9, if_neg h10, if_pos h11])
                          clear h0 h1 h2 h3 h4 h5 h6 h7 h8 h9 h10
                          subst h11
                          go_enter Tryz.func23, Tryz.ntmps23
                          go_wp2_with fail
                          go_ret
                          exact ⟨by rw [hr.out]; rfl, rfl⟩
                        · by_cases h12 : st = 507
                          · have hr := Lib.hid (show rsn st = [73, 110, 115, 117, 102, 102, 105, 99, 105, 101, 110, 116, 32, 83, 116, 111, 114, 97, 103, 101] by unfold rsn; rw [if_neg h0, if_neg h1, if_neg h2, if_neg h3, if_neg h4, if_neg h5, if_neg h6, if_neg h7, if_neg h8, if_neg h9, if_neg h10, if_neg h11, if_pos h12])
                            clear h0 h1 h2 h3 h4 h5 h6 h7 h8 h9 h10 h11
                            subst h12
                            go_enter Tryz.func23, Tryz.ntmps23
                            go_wp2_with fail
                            go_ret
                            exact ⟨by rw [hr.out]; rfl, rfl⟩
                          · have hr := Lib.hid (show rsn st = [85, 110, 107, 110, 111, 119, 110] by unfold rsn; rw [if_neg h0, if_neg h1, if_neg h2, if_neg h3, if_neg h4, if_neg h5, if_neg h6, if_neg h7, if_neg h8, if_neg h9, if_neg h10, if_neg h11, if_neg h12])
                            go_enter Tryz.func23, Tryz.ntmps23
                            go_wp2_with fail
                            go_ret
                            exact ⟨by rw [hr.out]; rfl, rfl⟩
end Go.Proofs.YtnhjbcjeeilicaaGreatDoor.HtJ
