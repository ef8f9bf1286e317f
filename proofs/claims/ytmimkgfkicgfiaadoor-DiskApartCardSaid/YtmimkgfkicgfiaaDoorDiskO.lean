/-
  The walk of slices.Values at strings, as an iterator; package disk's List.
-/
import Derived.Test.YtmimkgfkicgfiaaDoorRngM
import Derived.Test.YtmimkgfkicgfiaaDoorDiskE
import Derived.Shelf.Abstract
import Derived.OwnWalkIn
import Derived.TacticsInMore
import Derived.LoopNIn
import Derived.LoopIn
import Derived.Sort.LoopGhostIn
namespace Go.Proofs.YtmimkgfkicgfiaaDoor.DiskO
open Go.RowKit Go.Proofs.YtmimkgfkicgfiaaDoor Go.Proofs.YtmimkgfkicgfiaaDoor.Dw

attribute [local go_sem] Oper.semAt_some

set_option maxHeartbeats 1000000 in
theorem values_in (F : Fence) (n : Nat) (h0 : F.fn 76) (hro : F.round = none) (a : Option Addr) (len cap : Nat) (w : World) :
    CallsIn F n Tryd.prog 76 #[.slice a len cap] w fun e w' => e = .returned (.func (.func 112) #[] #[.pointer (some ⟨w.heap.size, 0, none⟩)]) ∧ w' = w.alloc (.cells #[.slice a len cap] 95) := by
  refine callsIn_of_wp Tryd.func76 rfl h0 ?_ hro
  simp only [Tryd.ntmps76, List.size_toArray, List.length_cons, List.length_nil, Nat.reduceAdd, Nat.reduceSub, Array.replicate_succ, Array.replicate_zero, List.push_toArray, List.append_toArray, List.nil_append, List.cons_append]
  gi_wp2
  go_ret
  exact ⟨rfl, rfl⟩

/-- strings' bytes, as strings -/
def strs (xs : List (List UInt8)) : List ByteArray := xs.map fun x => ⟨x.toArray⟩
theorem strs_length (xs : List (List UInt8)) : (strs xs).length = xs.length := by simp [strs]
theorem strs_take {xs : List (List UInt8)} {k : Nat} {x : List UInt8} (h : xs[k]? = some x) : strs (xs.take k) ++ [⟨x.toArray⟩] = strs (xs.take (k + 1)) := by
  simp [strs, List.take_add_one, h]
theorem strs_prefix {xs : List (List UInt8)} (k : Nat) : strs (xs.take k) <+: strs xs := List.IsPrefix.map _ (List.take_prefix k xs)

set_option maxRecDepth 100000 in
set_option maxHeartbeats 2000000 in
theorem gives (n : Nat) (hn : 1 ≤ n) (B lo : Nat) (a : Option Addr) (c : Nat) (xs : List (List UInt8)) (w0 : World)
    (hb : w0.heap[B]? = some (.cells #[.slice a xs.length c] 95 (0, 0))) (hB : lo ≤ B) (hns : Ns lo w0 a xs) (hl : xs.length ≤ 4294967296) :
    Rng.Gives Fence.wide n Tryd.prog 112 #[.pointer (some ⟨B, 0, none⟩)] lo w0.heap.size B (strs xs) w0 := by
  intro l J Jx W hsz hsp hJ hJx hY h0
  have hBl : B < w0.heap.size := (Array.getElem?_eq_some_iff.1 hb).1
  have g0 := (hsp B hB hBl).trans hb
  have q0 : W.cell? ⟨B, 0, none⟩ = some (.slice a xs.length c) := by rw [Lib.cell_of_heap g0]; rfl
  have HN := Lib.hid hns
  clear g0 hb hns
  refine callsIn_of_wp Tryd.func112 rfl trivial ?_ rfl
  simp only [Tryd.ntmps112, List.size_toArray, List.length_cons, List.length_nil, Nat.reduceAdd, Nat.reduceSub, Array.replicate_succ, Array.replicate_zero, List.push_toArray, List.append_toArray, List.nil_append, List.cons_append]
  gi_wp2_with fail
  gi_loopg [7] xs.length (fun g i wr => ∃ k : Nat, k + g = xs.length ∧ i = .int .i64 k ∧ J (strs (xs.take k)) wr ∧ Rng.Span lo w0.heap.size w0 wr)
  case atStart => exact ⟨0, by simp, rfl, h0, hsp⟩
  case round =>
    obtain ⟨k, hkg, rfl, hj, hsr⟩ := hrel
    have HG := Lib.hid hkg; clear hkg
    by_cases hlt : k < xs.length
    · obtain ⟨x, hx⟩ : ∃ x, xs[k]? = some x := ⟨xs[k], List.getElem?_eq_getElem hlt⟩
      rcases HN.out with h | ⟨b, o, rfl, h2, h3, h4⟩
      · rw [h] at hlt; simp at hlt
      have hc := (World.cell?_of_block (w := w0) (a := ⟨b, o + k, none⟩) (hsr b h2 h3)).trans (h4 k x hx)
      have hpx : strs (xs.take k) ++ [⟨x.toArray⟩] <+: strs xs := by rw [strs_take hx]; exact strs_prefix _
      obtain ⟨fn, tmps, assign, body, hy, hR⟩ := hY _ ⟨x.toArray⟩ wr hj hpx
      have HPX := Lib.hid hpx; have HX := Lib.hid hx; have HSR := Lib.hid hsr
      clear hpx h4 hx hsr
      gi_wp2_with fail
      refine hR.mono ?_
      rintro e W3 (⟨rfl, hJ3, hk3⟩ | ⟨rfl, hJx3⟩)
      · gi_wp2
        gi_roundg (xs.length - (k + 1))
        case measure => have := HG.out; omega
        case rel => exact ⟨k + 1, by omega, by go_num, by rw [← strs_take HX.out]; exact hJ3, HSR.out.trans hk3⟩
      · gi_wp2
        refine bodyPost_ret (results_none rfl _ _ _) rfl ?_
        exact ⟨⟨_, rfl⟩, .inr ⟨_, HPX.out, hJx3⟩⟩
    · have hk : k = xs.length := by have := HG.out; omega
      subst hk
      have HJ := Lib.hid hj; clear hj
      gi_wp2
      go_end0
      exact ⟨⟨_, rfl⟩, .inl (by have := HJ.out; rwa [List.take_length] at this)⟩

set_option maxHeartbeats 1000000 in
/-- List: the iterator over the names, in a box of its own -/
theorem list {lo d mb : Nat} {M : Dp.Files} {full : Bool} {lost : Int} (n : Nat) (hn : 1 ≤ n) (w : World) (hd : Drive lo d mb w M full lost) (hmx : M.length ≤ 4294967296) :
    CallsIn Fence.wide n Tryd.prog 43 #[.pointer (some ⟨d, 0, none⟩)] w fun e w' => ∃ (a : Option Addr) (c B : Nat), e = .returned (.func (.func 112) #[] #[.pointer (some ⟨B, 0, none⟩)]) ∧ w.heap.size ≤ B ∧ B < w'.heap.size ∧
      w'.heap[B]? = some (.cells #[.slice a (Dp.names M).length c] 95 (0, 0)) ∧ Ns w.heap.size w' a (Dp.names M) ∧ Below w.heap.size w w' := by
  have hfN : Fence.wide.fn 75 := trivial
  have hfV : Fence.wide.fn 76 := trivial
  refine callsIn_of_wp Tryd.func43 rfl trivial ?_ rfl
  simp only [Tryd.ntmps43, List.size_toArray, List.length_cons, List.length_nil, Nat.reduceAdd, Nat.reduceSub, Array.replicate_succ, Array.replicate_zero, List.push_toArray, List.append_toArray, List.nil_append, List.cons_append]
  have hL := Lib.hid (show (Dp.names M).length = M.length by simp [Dp.names])
  gi_wp2_with (first
    | (gi_at_call 75; refine (callsIn_wide.2 (DiskE.names _ hd hmx)).mono ?_; rintro e w1 ⟨⟨a, c, rfl, hns⟩, hb⟩)
    | (gi_at_call 76; refine (values_in Fence.wide _ trivial rfl _ _ _ _).mono ?_; rintro e w' ⟨rfl, rfl⟩))
  go_ret
  have ha : Below w1.heap.size w1 (w1.alloc (.cells #[.slice a M.length c] 95)) := (Below.refl _ _).alloc (Nat.le_refl _) _
  refine ⟨a, c, w1.heap.size, rfl, hb.size, by simp, ?_, hns.keep (Keep.of_below ha []) (fun k hk => by cases hk), hb.trans (ha.mono hb.size)⟩
  rw [hL.out]
  exact heap_alloc_new _ _
end Go.Proofs.YtmimkgfkicgfiaaDoor.DiskO
