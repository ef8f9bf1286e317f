/-
  The walk of package xml's number.
-/
import Derived.Test.YtmimkgfkicgfiaaDoorXmlC
import Derived.Test.YtmimkgfkicgfiaaDoorDec
import Derived.WalkKit
import Derived.WalkSpells
import Derived.WalkLawsBesides
import Derived.WalkSmall
import Derived.Outline
import Derived.Deep.LoopGhost
import Derived.Lib.Hide
import Derived.Lib.AppendIntMem
namespace Go.Proofs.YtmimkgfkicgfiaaDoor.XmlH
open Go.RowKit Go.Proofs.YtmimkgfkicgfiaaDoor

/-- the table of powers that Itoa reads -/
def Tab (w : World) : Prop := Lib.TabIs Tryd.prog w "internal/strconv.uint64pow10" .u64 Lib.pow10Tab

theorem tabNum : Tryd.prog.globalNamed "internal/strconv.uint64pow10" = some 23 := by kernel_rfl
theorem Tab.below {w w' : World} (h : Tab w) (hb : Below w.heap.size w w') : Tab w' := by
  refine var?_below hb tabNum ?_ h
  unfold Tab Lib.TabIs World.var? at h
  simp only [tabNum, Option.bind_some] at h
  rcases Nat.lt_or_ge 23 w.heap.size with h1 | h1
  · exact h1
  · rw [Array.getElem?_eq_none h1] at h
    cases h

set_option maxHeartbeats 1000000 in
theorem number (name : ByteArray) (n : Int) (h0 : -9223372036854775808 ≤ n) (h1 : n ≤ 9223372036854775807) (w : World) (hn : name.size ≤ 4194304) (ht : Tab w) :
    Calls Tryd.prog 69 #[.string name, .int .i64 n] w fun e w' => e = .returned (.string ⟨(Xp.tag name.data.toList (Lib.itoa n)).toArray⟩) ∧ Below w.heap.size w w' := by
  have hl : (Lib.itoa n).length ≤ 4194304 := by have := Dec.itoa_len h0 h1; omega
  have ht' := Lib.hid ht
  clear ht
  go_enter Tryd.func69, Tryd.ntmps69
  go_wp2_with fail
  refine (Tryd.strconv_Itoa n h0 h1 _ ht'.out).mono ?_
  rintro e w1 ⟨rfl, k, os, rfl⟩
  have hb1 := Lib.below_grow w.heap.size w (Nat.le_refl _) k os
  generalize Sort.grow (w.drewN k) os = w1 at *
  go_wp2_with fail
  refine (XmlC.text name ⟨(Lib.itoa n).toArray⟩ _ hn (by rw [Com.size_mk]; exact hl)).mono ?_
  rintro e w2 ⟨rfl, hb2⟩
  go_wp2
  go_ret
  exact ⟨Com.str_eq rfl (by rw [Dec.esc_itoa]), hb1.trans (hb2.mono hb1.size)⟩
end Go.Proofs.YtmimkgfkicgfiaaDoor.XmlH
