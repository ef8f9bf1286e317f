/-
  What the rows on drives share: the listed errors out of the listing; a slice of bytes that came in.
-/
import Derived.Test.YtmimkgfkicgfiaaDoorRowKit
import Derived.Test.YtmimkgfkicgfiaaDoorDiskW
import Derived.Test.YtmimkgfkicgfiaaDoorCards
import Derived.Test.YtmimkgfkicgfiaaDoorTie
import Derived.Deep.DeepHandedRow
import Derived.Stop.LaidErr
import Derived.Deep.DeepWitnessRowRef
import Derived.LaidMore
import Derived.Lib.LaidTab
import Derived.ChangeSlices
import Derived.SizedLaws
namespace Go.Proofs.YtmimkgfkicgfiaaDoor.DiskJ
open Go.ChangeShapes Go.WideShapes Go.ChangeAt Go.RowKit Go.Proofs.YtmimkgfkicgfiaaDoor Go.Proofs.YtmimkgfkicgfiaaDoor.Dw

theorem star : "*" ++ "errors.errorString" = "*errors.errorString" := by decide
theorem row (u : TypeId) (h : Tryd.prog.typeName? 3 u = some "*errors.errorString") : u = 233 :=
  typeName_ptr_named (nm := "errors.errorString") (by rw [star]; kernel_rfl) (by kernel_rfl) (by decide) u (by rw [star]; exact h)
theorem gN : Tryd.prog.globalNamed "bollard/api.ErrName" = some 1 := by kernel_rfl
theorem gG : Tryd.prog.globalNamed "bollard/api.ErrGone" = some 3 := by kernel_rfl
theorem gF : Tryd.prog.globalNamed "bollard/api.ErrFull" = some 2 := by kernel_rfl
theorem tN : (Tryd.prog.globals[1]?).map (·.type) = some 27 := by kernel_rfl
theorem tG : (Tryd.prog.globals[3]?).map (·.type) = some 27 := by kernel_rfl
theorem tF : (Tryd.prog.globals[2]?).map (·.type) = some 27 := by kernel_rfl
theorem cS : Tryd.prog.cellsOf 235 = 1 := by kernel_rfl
theorem cT : Tryd.prog.cellsOf 9 = 1 := by kernel_rfl

/-- the three errors that package disk answers -/
theorem errs {tN' tG' tF' : List UInt8} {r : List (String × DataW Unit)} {W : World}
    (h : laidMet Tryd.prog (("bollard/api.ErrName", .iface "*errors.errorString" (.ptr (.agg [.lit (.string tN')]))) :: ("bollard/api.ErrGone", .iface "*errors.errorString" (.ptr (.agg [.lit (.string tG')]))) :: ("bollard/api.ErrFull", .iface "*errors.errorString" (.ptr (.agg [.lit (.string tF')]))) :: r) W) :
    ∃ aN aF aG, Errs W aN aF aG := by
  obtain ⟨a0, s0, h0, _⟩ := laid_sentinel h gN tN Tryd.underlying27 row Tryd.underlying233 Tryd.underlying235 rfl rfl Tryd.underlying9 cS cT
  obtain ⟨a1, s1, h1, _⟩ := laid_sentinel h.tail gG tG Tryd.underlying27 row Tryd.underlying233 Tryd.underlying235 rfl rfl Tryd.underlying9 cS cT
  obtain ⟨a2, s2, h2, _⟩ := laid_sentinel h.tail.tail gF tF Tryd.underlying27 row Tryd.underlying233 Tryd.underlying235 rfl rfl Tryd.underlying9 cS cT
  exact ⟨a0, a2, a1, by simpa using World.var?_cell gN h0 0, by simpa using World.var?_cell gF h2 0, by simpa using World.var?_cell gG h1 0⟩

theorem cB : Tryd.prog.cellsOf 5 = 1 := by kernel_rfl
theorem byte_of {n : Int} (h : (Lit.int .u8 n).wf = true) : n = (((UInt8.ofNat n.toNat).toNat : Nat) : Int) := by
  have : 0 ≤ n ∧ n ≤ 255 := by simpa [Lit.wf, IntKind.min, IntKind.max, IntKind.signed, IntKind.bits] using h
  simp
  omega
/-- a slice of bytes that came in -/
theorem open_bytes {H : Type} {enc : TypeId × Value → H} {W : World} {v : Value} {y : DataW H × List MemPlace} {n : Nat}
    (h : DataW.trod enc Tryd.prog W 0 (fun _ => true) true n 61 [v] = some y) :
    ∃ a l c, v = .slice a l.length c ∧ Bs 0 W a l c ∧ ((y.1 = .nil ∧ l = []) ∨ ∃ els sp, y.1 = .slice els sp ∧ els.length = l.length) := by
  rcases open_ints Tryd.underlying61 Tryd.underlying5 cB h with ⟨hcs, hx⟩ | ⟨a, len, cap, zs, hcs, hb, hl, hm, hz, hx, hc, hwf⟩
  · obtain rfl : v = .slice none 0 0 := by simpa using hcs
    exact ⟨none, [], 0, rfl, Bs.nil _ _ _ _ fun _ => rfl, .inl ⟨by rw [hx], rfl⟩⟩
  · obtain rfl : v = .slice (some a) len cap := by simpa using hcs
    simp only [if_true] at hz
    have hlen : ((zs.take len).map fun n => UInt8.ofNat n.toNat).length = len := by simp; omega
    refine ⟨some a, (zs.take len).map fun n => UInt8.ofNat n.toNat, cap, by rw [hlen], ⟨by rw [hlen]; exact hl, (fun h => by cases h), ?_⟩, .inr ⟨_, _, by rw [hx], by simp [lits]⟩⟩
    rcases Nat.eq_zero_or_pos len with h0 | h0
    · left; subst h0; simp
    · right
      have hc0 := hc 0 (by omega)
      obtain ⟨b, off, spot⟩ := a
      obtain rfl : spot = none := by simpa [Addr.add] using World.cell?_spot hc0
      refine ⟨b, off, rfl, Nat.zero_le _, ?_, fun j x hj => ?_⟩
      · exact World.block_lt_of_cell? W _ (by simpa [addr_add] using hc0)
      · simp only [List.getElem?_map, Option.map_eq_some_iff] at hj
        obtain ⟨z, hz1, rfl⟩ := hj
        have hjl : j < (zs.take len).length := (List.getElem?_eq_some_iff.1 hz1).1
        rw [List.length_take] at hjl
        rw [List.getElem?_take, if_pos (by omega)] at hz1
        have := hc j (by omega)
        rw [addr_add, List.getD_eq_getElem?_getD, hz1] at this
        rw [this, ← byte_of (hwf z (List.mem_of_getElem? hz1))]
        rfl
end Go.Proofs.YtmimkgfkicgfiaaDoor.DiskJ
