/-
  The walk of bollardlaw07.alive.
-/
import Derived.Test.YtmimkgfkicgfiaaDoorDiskF
namespace Go.Proofs.YtmimkgfkicgfiaaDoor.DiskG
open Go.RowKit Go.Proofs.YtmimkgfkicgfiaaDoor Go.Proofs.YtmimkgfkicgfiaaDoor.Dw Go.Proofs.YtmimkgfkicgfiaaDoor.DiskB Go.Proofs.YtmimkgfkicgfiaaDoor.DiskC

def bA : ByteArray := ⟨#[97]⟩
def bB : ByteArray := ⟨#[98]⟩
def lA : List UInt8 := [97]
def lB : List UInt8 := [98]
def m1 : Dp.Files := [(lA, ⟨[1], [], false⟩)]
def m2 : Dp.Files := [(lA, ⟨[1], [1], true⟩)]
def m3 : Dp.Files := [(lA, ⟨[1], [1], true⟩), (lB, ⟨[2], [], false⟩)]
theorem e1 : wrE [] false lA = .ok := by decide
theorem f1 : wrM [] false lA [1] = m1 := by decide
theorem e2 : syE m1 false lA = .ok := by decide
theorem f2 : syM m1 false lA = m2 := by decide
theorem e3 : wrE m2 false lB = .ok := by decide
theorem f3 : wrM m2 false lB [2] = m3 := by decide
theorem f4 : Dp.crash m3 = m2 := by decide
theorem e5 : askE m2 lA = .ok := by decide
theorem f5 : rdL m2 lA = [1] := by decide
theorem e6 : askE m2 lB = .gone := by decide
theorem f6 : rdL m2 lB = [] := by decide

theorem bs_one (w : World) (c : UInt8) : Bs 0 (w.alloc (.cells #[.int .u8 (c.toNat : Int)] 5)) (some ⟨w.heap.size, 0, none⟩) [c] 1 := by
  refine ⟨Nat.le_refl _, (fun h => by cases h), .inr ⟨_, _, rfl, Nat.zero_le _, by simp, fun j x hx => ?_⟩⟩
  match j, hx with
  | 0, hx => simp at hx; subst hx; simp

section
variable {lo d mb : Nat} {lost : Int} {w : World} {aN aF aG : Addr}
theorem s1 (hd : Drive lo d mb w [] false lost) (he : Errs w aN aF aG) {a : Option Addr} (hb : Bs 0 w a [1] 1) :
    Calls Tryd.prog 35 #[.pointer (some ⟨d, 0, none⟩), .string ⟨#[97]⟩, .slice a 1 1] w fun e w' => e = .returned .nilIface ∧ Drive lo d mb w' m1 false lost ∧ Keep [mb] w w' := by
  refine (DiskB.write bA a [1] 1 w hd he (by decide) (by decide) hb (by decide)).mono ?_
  rintro e w' ⟨rfl, h2, h3⟩
  exact ⟨by rw [show bA.data.toList = lA from rfl, e1]; rfl, by rw [← f1]; exact h2, h3⟩
theorem s2 (hd : Drive lo d mb w m1 false lost) (he : Errs w aN aF aG) :
    Calls Tryd.prog 36 #[.pointer (some ⟨d, 0, none⟩), .string ⟨#[97]⟩] w fun e w' => e = .returned .nilIface ∧ Drive lo d mb w' m2 false lost ∧ Keep [mb] w w' := by
  refine (DiskC.sync bA w hd he (by decide) (by decide)).mono ?_
  rintro e w' ⟨rfl, h2, h3⟩
  exact ⟨by rw [show bA.data.toList = lA from rfl, e2]; rfl, by rw [← f2]; exact h2, h3⟩
theorem s3 (hd : Drive lo d mb w m2 false lost) (he : Errs w aN aF aG) {a : Option Addr} (hb : Bs 0 w a [2] 1) :
    Calls Tryd.prog 35 #[.pointer (some ⟨d, 0, none⟩), .string ⟨#[98]⟩, .slice a 1 1] w fun e w' => e = .returned .nilIface ∧ Drive lo d mb w' m3 false lost ∧ Keep [mb] w w' := by
  refine (DiskB.write bB a [2] 1 w hd he (by decide) (by decide) hb (by decide)).mono ?_
  rintro e w' ⟨rfl, h2, h3⟩
  exact ⟨by rw [show bB.data.toList = lB from rfl, e3]; rfl, by rw [← f3]; exact h2, h3⟩
theorem s4 (hd : Drive lo d mb w m3 false lost) :
    Calls Tryd.prog 38 #[.pointer (some ⟨d, 0, none⟩)] w fun e w' => e = .returned (.tuple #[]) ∧ Drive lo d mb w' m2 false lost ∧ Keep [mb] w w' := by
  have := DiskF.crash w hd (by decide) (by decide)
  rwa [f4] at this
theorem s5 (hd : Drive lo d mb w m2 false lost) (he : Errs w aN aF aG) :
    Calls Tryd.prog 39 #[.pointer (some ⟨d, 0, none⟩), .string ⟨#[97]⟩] w fun e w' => (∃ a c, e = .returned (.tuple #[.slice a 1 c, .nilIface]) ∧ Bs w.heap.size w' a [1] c) ∧ Below w.heap.size w w' := by
  refine (DiskC.read bA w hd he (by decide) (by decide)).mono ?_
  rintro e w' ⟨⟨a, c, rfl, h2⟩, h3⟩
  rw [show bA.data.toList = lA from rfl, f5] at h2
  exact ⟨⟨a, c, by rw [show bA.data.toList = lA from rfl, e5, f5]; rfl, h2⟩, h3⟩
theorem s6 (hd : Drive lo d mb w m2 false lost) (he : Errs w aN aF aG) :
    Calls Tryd.prog 39 #[.pointer (some ⟨d, 0, none⟩), .string ⟨#[98]⟩] w fun e w' => (∃ a c, e = .returned (.tuple #[.slice a 0 c, .iface 233 (.pointer (some aG))])) ∧ Below w.heap.size w w' := by
  refine (DiskC.read bB w hd he (by decide) (by decide)).mono ?_
  rintro e w' ⟨⟨a, c, rfl, h2⟩, h3⟩
  exact ⟨⟨a, c, by rw [show bB.data.toList = lB from rfl, e6, f6]; rfl⟩, h3⟩
end

/-- bytes as a string -/
theorem to_string {lo : Nat} {w : World} {a : Option Addr} {l : List UInt8} {c : Nat} (h : Bs lo w a l c) : (convert 61 9 (.slice a l.length c)).run Tryd.prog w = .ok (.string ⟨l.toArray⟩) w := by
  cases a with
  | none =>
    obtain rfl := h.2.1 rfl
    obtain rfl : l = [] := List.eq_nil_of_length_eq_zero (by have := h.1; omega)
    kernel_rfl
  | some p =>
    refine run_convert_bytes_back w 61 9 5 p c l Tryd.underlying61 Tryd.underlying5 Tryd.underlying9 fun j hj => ?_
    exact h.cells j _ (by simp [Lib.byteCells, List.getElem?_eq_getElem hj])

set_option maxHeartbeats 4000000 in
set_option maxRecDepth 100000 in
theorem alive (w : World) {aN aF aG : Addr} (he : Errs w aN aF aG) : Calls Tryd.prog 33 #[] w fun e w' => e = .returned (.bool true) ∧ Below w.heap.size w w' := by
  have hq := Lib.hid he.lt
  have tl : ∀ k ∈ [w.heap.size], top < k := by simp; exact hq.out
  have TL := Lib.hid tl; clear tl
  go_enter Tryd.func33, Tryd.ntmps33
  go_wp2_with fail
  refine (DiskB.new _ hq.out).mono ?_
  rintro e w1 ⟨rfl, hd1, hb1⟩
  have he1 := he.below hb1
  go_wp2_with fail
  have hb2 : Below w1.heap.size w1 (w1.alloc (.cells #[.int .u8 1] 5)) := (Below.refl _ _).alloc (Nat.le_refl _) _
  refine (s1 (hd1.below hb2) (he1.below hb2) (bs_one w1 1)).mono ?_
  rintro e w2 ⟨rfl, hd2, hk2⟩
  have he2 := (he1.below hb2).keep hk2 TL.out
  go_wp2_with fail
  refine (s2 hd2 he2).mono ?_
  rintro e w3 ⟨rfl, hd3, hk3⟩
  have he3 := he2.keep hk3 TL.out
  go_wp2_with fail
  have hb4 : Below w3.heap.size w3 (w3.alloc (.cells #[.int .u8 2] 5)) := (Below.refl _ _).alloc (Nat.le_refl _) _
  refine (s3 (hd3.below hb4) (he3.below hb4) (bs_one w3 2)).mono ?_
  rintro e w4 ⟨rfl, hd4, hk4⟩
  have he4 := (he3.below hb4).keep hk4 TL.out
  go_wp2_with fail
  refine (s4 hd4).mono ?_
  rintro e w5 ⟨rfl, hd5, hk5⟩
  have he5 := he4.keep hk5 TL.out
  go_wp2_with fail
  refine (s5 hd5 he5).mono ?_
  rintro e w6 ⟨⟨a6, c6, rfl, hbs6⟩, hb6⟩
  go_wp2_with fail
  refine (s6 (hd5.below hb6) (he5.below hb6)).mono ?_
  rintro e w7 ⟨⟨a7, c7, rfl⟩, hb7⟩
  have kc := to_string (hbs6.below hb7)
  simp only [List.length_cons, List.length_nil, Nat.zero_add] at kc
  have K : Keep [w.heap.size] w1 w7 := (((((Keep.of_below hb2 _).trans hk2).trans hk3).trans ((Keep.of_below hb4 _).trans hk4)).trans hk5).trans ((Keep.of_below hb6 _).trans (Keep.of_below hb7 _))
  have B7 := Keep.below hb1 K (by simp)
  clear K hbs6 hb6 hb7 hk5 hk4 hk3 hk2 hb4 hb2
  go_wp2
  go_ret
  exact ⟨rfl, B7⟩
end Go.Proofs.YtmimkgfkicgfiaaDoor.DiskG
