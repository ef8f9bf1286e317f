/-
  The walks of package disk's good and of slices.Clone at bytes.
-/
import Derived.Test.YtmimkgfkicgfiaaDoorDiskW
import Derived.WalkKit
import Derived.WalkSpells
import Derived.WalkLawsBesides
import Derived.WalkSmall
import Derived.Outline
import Derived.Deep.LoopGhost
import Derived.Lib.Hide
import Derived.Lib.AppendStr
import Derived.Lib.SliceRun
import Derived.Laws.AppendOwn
namespace Go.Proofs.YtmimkgfkicgfiaaDoor.DiskA
open Go.RowKit Go.Proofs.YtmimkgfkicgfiaaDoor

def okc (c : UInt8) : Bool := decide (33 ≤ c.toNat) && decide (c.toNat ≤ 126)
/-- may a file be called so? -/
def gd (l : List UInt8) : Bool := decide (1 ≤ l.length) && decide (l.length ≤ 63) && l.all okc

theorem ret_bool {a b : Bool} (h : a = b) : Ending.returned (.bool a) = .returned (.bool b) := by rw [h]

set_option maxHeartbeats 1000000 in
theorem good (s : ByteArray) (w : World) :
    Calls Tryd.prog 72 #[.string s] w fun e w' => e = .returned (.bool (gd s.data.toList)) ∧ w = w' := by
  by_cases h1 : s.size < 1
  · go_enter Tryd.func72, Tryd.ntmps72
    go_wp2
    go_ret
    exact ⟨ret_bool (by simp [gd]; intro h; omega), rfl⟩
  have h1' : ¬ ((s.size : Int) < 1) := by omega
  by_cases h2 : 63 < s.size
  · go_enter Tryd.func72, Tryd.ntmps72
    go_wp2
    go_ret
    exact ⟨ret_bool (by simp [gd]; intro _ h; omega), rfl⟩
  go_enter Tryd.func72, Tryd.ntmps72
  go_wp2
  go_loop [3, 14] (fun _ i => ∃ k : Nat, k ≤ s.size ∧ i = .int .i64 k ∧ (s.data.toList.take k).all okc = true) (fun _ i => s.size - (intOf i).toNat)
  case atStart => exact ⟨0, Nat.zero_le _, rfl, rfl⟩
  case round =>
    obtain ⟨k, hk, rfl, hall⟩ := hrel
    have HA := Lib.hid hall; clear hall
    by_cases hlt : k < s.size
    · have hts := Com.take_succ s k hlt
      have hmem : s[k] ∈ s.data.toList := by
        have h3 : s[k] ∈ s.data.toList.take (k + 1) := by rw [hts]; simp
        exact List.mem_of_mem_take h3
      have HT := Lib.hid hts; clear hts
      have HM := Lib.hid hmem; clear hmem
      by_cases a1 : (s[k].toNat : Int) < 33
      · go_wp2
        go_ret
        refine ⟨ret_bool ?_, rfl⟩
        have : (gd s.data.toList) = false := by
          have hk : okc s[k] = false := by simp [okc]; omega
          have : s.data.toList.all okc = false := List.all_eq_false.2 ⟨_, HM.out, by simp [hk]⟩
          simp [gd, this]
        exact this.symm
      · by_cases a2 : 126 < (s[k].toNat : Int)
        · go_wp2
          go_ret
          refine ⟨ret_bool ?_, rfl⟩
          have : (gd s.data.toList) = false := by
            have hk : okc s[k] = false := by simp [okc]; omega
            have : s.data.toList.all okc = false := List.all_eq_false.2 ⟨_, HM.out, by simp [hk]⟩
            simp [gd, this]
          exact this.symm
        · go_wp2
          go_round
          case rel =>
            refine ⟨k + 1, by omega, by go_num, ?_⟩
            rw [HT.out, List.all_append, HA.out]
            simp [okc]
            omega
          case measure => simp [intOf]; omega
    · go_wp2
      go_ret
      refine ⟨ret_bool ?_, rfl⟩
      have : (s.data.toList).all okc = true := by rw [← Com.take_all s k (by omega)]; exact HA.out
      simp only [gd, this, Bool.and_true, Com.toList_length]
      simp; omega

theorem infoByte : (Tryd.prog.info? 5).map (fun i => (i.zero, i.size, i.bytes)) = some (some (.int .u8 0), 1, 1) := by kernel_rfl

/-- a slice's value -/
def sl (a : Option Addr) (n c : Nat) : Value := .slice a n c

set_option maxHeartbeats 1000000 in
set_option maxRecDepth 100000 in
theorem clone_nil (w : World) : Calls Tryd.prog 73 #[.slice none 0 0] w fun e w' => e = .returned (.slice none 0 0) ∧ w = w' := by
  have kn := fun (w : World) (a : Option Addr) (n c : Nat) => Lib.run_eql_slice_nil (P := Tryd.prog) w 61 5 a n c 0 0 Tryd.underlying61
  go_enter Tryd.func73, Tryd.ntmps73
  go_wp2
  go_ret
  exact ⟨rfl, rfl⟩

set_option maxHeartbeats 1000000 in
set_option maxRecDepth 100000 in
theorem clone_some (p : Addr) (l : List UInt8) (c : Nat) (w : World) (hl : l.length ≤ 140737488351232) (hb : Dw.Bs 0 w (some p) l c) :
    Calls Tryd.prog 73 #[.slice (some p) l.length c] w fun e w' => (∃ a' c', e = .returned (.slice a' l.length c') ∧ Dw.Bs w.heap.size w' a' l c') ∧ Below w.heap.size w w' := by
  obtain ⟨i0, hi, hz0, hz1, hz2⟩ := info_parts infoByte
  have kn := fun (w : World) (a : Option Addr) (n c : Nat) => Lib.run_eql_slice_nil (P := Tryd.prog) w 61 5 a n c 0 0 Tryd.underlying61
  go_enter Tryd.func73, Tryd.ntmps73
  have hown : (w.alloc (.cells #[] 5)).ownsRow w.heap.size 5 1 (.slice (some ⟨w.heap.size, 0, none⟩) 0 0) 0 [] :=
    ⟨rfl, .inr ⟨w.heap.size, 0, _, rfl, Nat.le_refl _, heap_alloc_new _ _, Nat.le_refl _, by unfold maxLen; omega, rfl, rfl⟩⟩
  go_wp2_with (at_builtin; refine wpList_append_own _ rfl _ _ 61 rfl w.heap.size 5 i0 (.int .u8 0) 1 1 Tryd.underlying61 hi hz0 hz1 hz2 rfl (by decide) _ _ _ rfl hown p l.length c (Lib.byteCells l) rfl (by simp [Com.byteCells_length]) ?c1 ?c2 ?c3 ?c4 ?c5 ?_)
  case c1 => exact (hb.below ((Below.refl _ _).alloc (Nat.le_refl _) _)).cells
  case c2 => exact Dw.one_cells l
  case c3 => unfold maxLen; omega
  case c4 => omega
  case c5 => simp
  intro v' w1 hown' hgrow _
  have hown1 : w1.ownsRow w.heap.size 5 1 v' l.length (Lib.byteCells l) := by simpa using hown'
  clear hown'
  obtain ⟨a', c', hv, hbs⟩ := Dw.bs_of_own hown1
  subst hv
  have hbel : Below w.heap.size w w1 := ((Below.refl _ w).alloc (Nat.le_refl _) _).grown hgrow (by simp) (fun k hk => by simp [Value.ownBlock] at hk; omega)
  have HO := Lib.hid hown1; clear hown1
  have HB := Lib.hid hbs; clear hbs
  go_wp2
  go_ret
  exact ⟨⟨a', c', rfl, HB.out⟩, hbel⟩
/-- a copy of a slice of bytes -/
theorem clone (a : Option Addr) (l : List UInt8) (c : Nat) (w : World) (hl : l.length ≤ 140737488351232) (hb : Dw.Bs 0 w a l c) :
    Calls Tryd.prog 73 #[.slice a l.length c] w fun e w' => (∃ a' c', e = .returned (.slice a' l.length c') ∧ Dw.Bs w.heap.size w' a' l c') ∧ Below w.heap.size w w' := by
  cases a with
  | none =>
    obtain rfl := hb.2.1 rfl
    have h0 : l = [] := by
      have := hb.1
      exact List.eq_nil_of_length_eq_zero (by omega)
    subst h0
    exact (clone_nil w).mono fun e w' ⟨h, hw⟩ => by subst hw; exact ⟨⟨none, 0, h, Dw.Bs.nil _ _ _ _ fun _ => rfl⟩, Below.refl _ _⟩
  | some p => exact (clone_some p l c w hl hb).mono fun e w' ⟨⟨a', c', h1, h2⟩, hw⟩ => ⟨⟨a', c', h1, h2⟩, hw⟩
end Go.Proofs.YtmimkgfkicgfiaaDoor.DiskA
