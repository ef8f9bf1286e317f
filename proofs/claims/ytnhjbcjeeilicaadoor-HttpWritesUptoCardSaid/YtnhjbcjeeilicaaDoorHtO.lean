/-
  The walk of the document's Reason.
-/
import Derived.Test.YtnhjbcjeeilicaaDoorHtJ
import Derived.Test.YtnhjbcjeeilicaaDoorCom
import Derived.Deep.LoopGhost
namespace Go.Proofs.YtnhjbcjeeilicaaDoor.HtO
open Go.RowKit Go.Proofs.YtnhjbcjeeilicaaDoor Go.Proofs.YtnhjbcjeeilicaaDoor.Ht Go.Proofs.YtnhjbcjeeilicaaDoor.HtW Go.Proofs.YtnhjbcjeeilicaaDoor.HtJ

def look : List (Int × List UInt8) → Int → List UInt8
  | [], _ => [85, 110, 107, 110, 111, 119, 110]
  | p :: r, st => if st = p.1 then p.2 else look r st
def tab : List (Int × List UInt8) := [(200, [79, 75]), (204, [78, 111, 32, 67, 111, 110, 116, 101, 110, 116]), (206, [80, 97, 114, 116, 105, 97, 108, 32, 67, 111, 110, 116, 101, 110, 116]), (400, [66, 97, 100, 32, 82, 101, 113, 117, 101, 115, 116]), (403, [70, 111, 114, 98, 105, 100, 100, 101, 110]), (404, [78, 111, 116, 32, 70, 111, 117, 110, 100]), (405, [77, 101, 116, 104, 111, 100, 32, 78, 111, 116, 32, 65, 108, 108, 111, 119, 101, 100]), (409, [67, 111, 110, 102, 108, 105, 99, 116]), (413, [67, 111, 110, 116, 101, 110, 116, 32, 84, 111, 111, 32, 76, 97, 114, 103, 101]), (416, [82, 97, 110, 103, 101, 32, 78, 111, 116, 32, 83, 97, 116, 105, 115, 102, 105, 97, 98, 108, 101]), (500, [73, 110, 116, 101, 114, 110, 97, 108, 32, 83, 101, 114, 118, 101, 114, 32, 69, 114, 114, 111, 114]), (503, [83, 101, 114, 118, 105, 99, 101, 32, 85, 110, 97, 118, 97, 105, 108, 97, 98, 108, 101]), (507, [73, 110, 115, 117, 102, 102, 105, 99, 105, 101, 110, 116, 32, 83, 116, 111, 114, 97, 103, 101])]
theorem rsn_look (st : Int) : rsn st = look tab st := rfl
abbrev nums : Array Value := #[.int .i64 200, .int .i64 204, .int .i64 206, .int .i64 400, .int .i64 403, .int .i64 404, .int .i64 405, .int .i64 409, .int .i64 413, .int .i64 416, .int .i64 500, .int .i64 503, .int .i64 507]
abbrev words : Array Value := #[.string ⟨#[79, 75]⟩, .string ⟨#[78, 111, 32, 67, 111, 110, 116, 101, 110, 116]⟩, .string ⟨#[80, 97, 114, 116, 105, 97, 108, 32, 67, 111, 110, 116, 101, 110, 116]⟩, .string ⟨#[66, 97, 100, 32, 82, 101, 113, 117, 101, 115, 116]⟩, .string ⟨#[70, 111, 114, 98, 105, 100, 100, 101, 110]⟩, .string ⟨#[78, 111, 116, 32, 70, 111, 117, 110, 100]⟩, .string ⟨#[77, 101, 116, 104, 111, 100, 32, 78, 111, 116, 32, 65, 108, 108, 111, 119, 101, 100]⟩, .string ⟨#[67, 111, 110, 102, 108, 105, 99, 116]⟩, .string ⟨#[67, 111, 110, 116, 101, 110, 116, 32, 84, 111, 111, 32, 76, 97, 114, 103, 101]⟩, .string ⟨#[82, 97, 110, 103, 101, 32, 78, 111, 116, 32, 83, 97, 116, 105, 115, 102, 105, 97, 98, 108, 101]⟩, .string ⟨#[73, 110, 116, 101, 114, 110, 97, 108, 32, 83, 101, 114, 118, 101, 114, 32, 69, 114, 114, 111, 114]⟩, .string ⟨#[83, 101, 114, 118, 105, 99, 101, 32, 85, 110, 97, 118, 97, 105, 108, 97, 98, 108, 101]⟩, .string ⟨#[73, 110, 115, 117, 102, 102, 105, 99, 105, 101, 110, 116, 32, 83, 116, 111, 114, 97, 103, 101]⟩]
theorem nums_eq : nums = (tab.map fun p => Value.int .i64 p.1).toArray := by kernel_rfl
theorem words_eq : words = (tab.map fun p => Value.string ⟨p.2.toArray⟩).toArray := by kernel_rfl
theorem tab_small : ∀ p ∈ tab, 0 ≤ p.1 ∧ p.1 ≤ 1000 := by decide +kernel
theorem look_drop (st : Int) {k : Nat} {p : Int × List UInt8} (h : tab[k]? = some p) : look (tab.drop k) st = if st = p.1 then p.2 else look (tab.drop (k + 1)) st := by
  obtain ⟨hk, rfl⟩ := List.getElem?_eq_some_iff.1 h
  rw [List.drop_eq_getElem_cons hk]
  rfl

set_option maxHeartbeats 4000000 in
set_option maxRecDepth 100000 in
theorem refReason (st : Int) (w : World) : Calls Tryd.prog 13 #[.int .i64 st] w fun e w' => e = .returned (.string ⟨(rsn st).toArray⟩) ∧ Below w.heap.size w w' := by
  have htl : tab.length = 13 := by decide
  go_enter Tryd.func13, Tryd.ntmps13
  go_wp2_with fail
  have HB := Lib.hid (((Below.refl w.heap.size w).alloc (Nat.le_refl _) (.cells nums 3)).alloc (by simp) (.cells words 9))
  have hn : ((w.alloc (.cells nums 3)).alloc (.cells words 9)).heap[w.heap.size]? = some (.cells nums 3 (0, 0)) := (Below.heap_alloc _ _ _ (by simp)).trans (heap_alloc_new _ _)
  have hw : ((w.alloc (.cells nums 3)).alloc (.cells words 9)).heap[w.heap.size + 1]? = some (.cells words 9 (0, 0)) := by
    have := heap_alloc_new (w.alloc (.cells nums 3)) (.cells words 9)
    rwa [World.size_alloc] at this
  generalize (w.alloc (.cells nums 3)).alloc (.cells words 9) = W at *
  have HNm := Lib.hid hn; clear hn
  have HWd := Lib.hid hw; clear hw
  go_loopg [11] 13 (fun g v11 wr => ∃ k : Nat, k + g = 13 ∧ v11 = .int .i64 k ∧ Hid (rsn st = look (tab.drop k) st) ∧ wr = W)
  case atStart => exact ⟨0, by simp, rfl, by unfold Hid; rfl, rfl⟩
  case round =>
    obtain ⟨k, hkg, rfl, HR, rfl⟩ := hrel
    have HG := Lib.hid hkg; clear hkg
    by_cases hlt : k < 13
    · obtain ⟨p, hp⟩ : ∃ p, tab[k]? = some p := ⟨tab[k], List.getElem?_eq_getElem (by omega)⟩
      have c0 : wr.cell? ⟨w.heap.size, k, none⟩ = some (.int .i64 p.1) := by rw [Lib.cell_of_heap HNm.out, nums_eq]; simp [hp]
      have c1 : wr.cell? ⟨w.heap.size + 1, k, none⟩ = some (.string ⟨p.2.toArray⟩) := by rw [Lib.cell_of_heap HWd.out, words_eq]; simp [hp]
      have HD := Lib.hid (look_drop st hp)
      have hsm := tab_small p (List.mem_of_getElem? hp)
      obtain ⟨n, x⟩ := p
      simp only at c0 c1 hsm
      obtain ⟨hs0, hs1⟩ := hsm
      clear hp
      by_cases e : st = n
      · have HV := Lib.hid (show rsn st = x by rw [HR.out, HD.out, if_pos e])
        subst e
        go_wp2_with fail
        go_ret
        exact ⟨by rw [HV.out]; rfl, HB.out⟩
      · have HV : Hid (rsn st = look (tab.drop (k + 1)) st) := by unfold Hid; rw [HR.out, HD.out, if_neg e]
        have t1 : (n == st) = false := by simpa using fun e2 : n = st => e e2.symm
        have t2 : ¬ n = st := fun e2 : n = st => e e2.symm
        clear e
        go_wp2_with fail
        go_roundg (13 - (k + 1))
        case rel => exact ⟨k + 1, by omega, by go_num, HV, rfl⟩
        case measure => have := HG.out; omega
    · have HV := Lib.hid (show rsn st = [85, 110, 107, 110, 111, 119, 110] by rw [HR.out, List.drop_eq_nil_of_le (by omega)]; rfl)
      go_wp2_with fail
      go_ret
      exact ⟨by rw [HV.out]; rfl, HB.out⟩
end Go.Proofs.YtnhjbcjeeilicaaDoor.HtO
