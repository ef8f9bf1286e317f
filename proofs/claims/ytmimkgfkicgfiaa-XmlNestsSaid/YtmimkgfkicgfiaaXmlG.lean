/-
  The walk of the law XmlNests.
-/
import Derived.Test.YtmimkgfkicgfiaaXmlE
import Derived.WalkKit
import Derived.WalkSpells
import Derived.WalkLawsBesides
import Derived.Outline
import Derived.Deep.LoopGhost
import Derived.Lib.Hide
namespace Go.Proofs.Ytmimkgfkicgfiaa.XmlG
open Go.RowKit Go.Proofs.Ytmimkgfkicgfiaa

theorem infoString : (Try.prog.info? 9).map (fun i => (i.zero, i.size, i.bytes)) = some (some (.string ⟨#[]⟩), 1, 16) := by kernel_rfl

/-- what stands between the tags -/
def cut (l : List UInt8) : List UInt8 := Xp.tag [116] l
theorem cut_eq (l : List UInt8) : cut l = [60, 116, 62] ++ (l ++ [60, 47, 116, 62]) := by simp [cut, Xp.tag]
theorem cut_len (l : List UInt8) : (cut l).length = l.length + 7 := by simp [cut_eq]

theorem strs_of_own {w : World} {base : Nat} {e : TypeId} {v : Value} {ts : List ByteArray} (h : w.ownsRow base e 1 v ts.length (ts.map Value.string)) :
    ∃ A c, v = .slice A ts.length c ∧ ts.length ≤ c ∧ Com.Strs w A ts := by
  rcases h.2 with ⟨rfl, h0⟩ | ⟨g, cap, cur, hv, hb, hg, hn, hm, hcs, htk⟩
  · rw [List.eq_nil_of_length_eq_zero h0]
    exact ⟨none, 0, rfl, Nat.le_refl _, .inl rfl⟩
  · refine ⟨some ⟨g, 0, none⟩, cap, hv, hn, .inr ⟨g, 0, rfl, (Array.getElem?_eq_some_iff.1 hg).1, fun j x hx => ?_⟩⟩
    have := h.cells (g := g) (by rw [hv]; rfl) j (.string x) (by rw [List.getElem?_map, hx]; rfl)
    rw [Nat.zero_add]
    by_cases h0 : j = 0
    · subst h0; simpa [Addr.add] using this
    · simpa [Addr.add, h0] using this

theorem cut_facts (E : List UInt8) : (((ByteArray.mk (cut E).toArray).extract 0 3).toList == [60, 116, 62]) = true ∧
    (((ByteArray.mk (cut E).toArray).extract ((cut E).length - 4) (cut E).length).toList == [60, 47, 116, 62]) = true ∧
    (ByteArray.mk (cut E).toArray).extract 3 ((cut E).length - 4) = ⟨E.toArray⟩ := by
  have hl := cut_len E
  refine ⟨?_, ?_, ?_⟩
  · rw [Com.toList_data, Com.extract_data, beq_iff_eq]
    simp [cut_eq]
  · rw [Com.toList_data, Com.extract_data, beq_iff_eq]
    show ((cut E).take (cut E).length).drop ((cut E).length - 4) = _
    rw [List.take_length, hl, cut_eq, show E.length + 7 - 4 = ([60, 116, 62] ++ E : List UInt8).length by simp, ← List.append_assoc, List.drop_left]
  · rw [← Com.mk_data ((ByteArray.mk (cut E).toArray).extract _ _), Com.extract_data]
    show (⟨(((cut E).take ((cut E).length - 4)).drop 3).toArray⟩ : ByteArray) = _
    rw [hl, cut_eq, show E.length + 7 - 4 = ([60, 116, 62] ++ E : List UInt8).length by simp, ← List.append_assoc, List.take_left]
    rfl

set_option maxHeartbeats 2000000 in
set_option maxRecDepth 100000 in
theorem nests (name : ByteArray) (a : Option Addr) (c : Nat) (xs : List ByteArray) (w : World) (hn : name.size ≤ 140737488355328) (hs : Com.Strs w a xs) :
    Calls Try.prog 4 #[.string name, .slice a xs.length c] w fun e w' => e = .returned (.bool true) ∧ Below w.heap.size w w' := by
  obtain ⟨i0, hi, hz0, hz1, hz2⟩ := info_parts infoString
  go_enter Try.func4, Try.ntmps4
  go_wp2_with (go_at_call 5; refine (XmlC.alive _).mono ?_; rintro e w1 ⟨rfl, b1⟩)
  have hsz1 := b1.size
  go_loopg [5, 6, 17] xs.length (fun g v o i wr => ∃ (k : Nat) (ts : List ByteArray), k + g = xs.length ∧ i = .int .i64 k ∧ k ≤ 51 ∧ ts.length = k ∧ wr.ownsRow w.heap.size 9 1 v ts.length (ts.map Value.string) ∧ o = .string ⟨(Com.flat ts).toArray⟩ ∧ (Com.flat ts).length ≤ 3010 * k ∧ Below w.heap.size w wr)
  case atStart =>
    exact ⟨0, [], by omega, rfl, by omega, rfl, ⟨rfl, .inr ⟨w1.heap.size, 0, #[], rfl, hsz1, heap_alloc_new _ _, Nat.le_refl _, by unfold maxLen; omega, rfl, rfl⟩⟩, rfl, by simp [Com.flat], b1.alloc hsz1 _⟩
  case round =>
    obtain ⟨k, ts, hkg, rfl, hk51, hts, hown, rfl, hfl, hb⟩ := hrel
    have hsz := hb.size
    have HG := Lib.hid hkg
    have hkx : k ≤ xs.length := by omega
    have HTS := Lib.hid hts
    have htsle : ts.length ≤ k := by omega
    clear hkg hts
    by_cases hlt : k < xs.length
    · obtain ⟨x, hxk⟩ : ∃ x, xs[k]? = some x := ⟨xs[k], List.getElem?_eq_getElem hlt⟩
      obtain ⟨b, o, rfl, hbb, hc0⟩ : ∃ b o, a = some ⟨b, o, none⟩ ∧ b < w.heap.size ∧ w.cell? ⟨b, o + k, none⟩ = some (.string x) := by
        rcases hs with h | ⟨b, o, h1, h2, h3⟩
        · rw [h] at hlt; simp at hlt
        · exact ⟨b, o, h1, h2, h3 k x hxk⟩
      have hcell : wr.cell? ⟨b, o + k, none⟩ = some (.string x) := (hb.cell (p := ⟨b, o + k, none⟩) hbb).trans hc0
      clear hc0 hxk hs
      by_cases hstop : k ≤ 50 ∧ x.size ≤ 500
      · obtain ⟨hk50, hx500⟩ := hstop
        obtain ⟨E, hE⟩ : ∃ E, E = Xp.esc x.data.toList := ⟨_, rfl⟩
        have hEl : E.length ≤ 3000 := by rw [hE]; have := Xp.esc_len x.data.toList; rw [Com.toList_length] at this; omega
        have HE := Lib.hid hE; clear hE
        obtain ⟨f1, f2, f3⟩ := cut_facts E
        have hl := cut_len E
        generalize hC : cut E = C at *
        have HC := Lib.hid hC; clear hC
        have hC7 : 7 ≤ C.length := by omega
        have hCb : C.length ≤ 3007 := by omega
        clear hl
        have HB : Hid (Xp.unesc E = some x.data.toList) := by unfold Hid; rw [HE.out]; exact Xp.unesc_esc _
        go_wp2_with (go_at_call 12; refine (XmlC.text _ _ _ (by simp [Com.size_mk]) (by omega)).mono ?_; rintro e w2 ⟨rfl, b2⟩; rw [show Xp.tag (ByteArray.mk #[116]).data.toList (Xp.esc x.data.toList) = C from by rw [← HE.out, ← HC.out]; rfl])
        have B2 : Below w.heap.size w w2 := hb.trans (b2.mono hsz)
        refine (XmlD.unescape E _ (by omega)).mono ?_
        rintro e w3 ⟨rfl, b3⟩
        rw [HB.out, XmlD.ans, Com.mk_data]
        have B3 : Below w.heap.size w w3 := B2.trans (b3.mono B2.size)
        have hsz3 := B3.size
        have hown3 := Com.own_below (Com.own_below hown b2) b3
        clear hown
        go_wp2_with (at_builtin; refine wpList_append_own _ rfl (.tmp 63) (.tmp 65) 22 rfl w.heap.size 9 i0 (.string ⟨#[]⟩) 1 16 Try.underlying22 hi hz0 hz1 hz2 rfl (by decide) u5 ts.length (ts.map Value.string) rfl (hown3.alloc _) ⟨w3.heap.size, 0, none⟩ 1 1 [.string ⟨C.toArray⟩] rfl rfl (Com.cells_new _ _ _) (by intro u hu; simp at hu; subst hu; rfl) (by unfold maxLen; omega) (by omega) (by simp; omega) ?_; intro v' w4 hown4 hg4 _)
        go_roundg (gk - 1)
        case measure => have := HG.out; omega
        case rel =>
          have h1 : (Com.flat (ts ++ [⟨C.toArray⟩])) = Com.flat ts ++ C := Com.flat_snoc _ _
          refine ⟨k + 1, ts ++ [⟨C.toArray⟩], by have := HG.out; omega, by go_num, by omega, by have := HTS.out; simp; omega, ?_, Com.cat h1, by rw [h1, List.length_append]; omega, ?_⟩
          · simpa using hown4
          · exact (B3.alloc hsz3 _).grown hg4 (by simp; omega) (fun j hj => (hown3.lt j hj).1)
      · obtain ⟨A, cA, rfl, hcA, hsA⟩ := strs_of_own hown
        clear hown
        by_cases hk50 : k ≤ 50
        · have hx5 : 500 < x.size := by omega
          clear hstop
          go_wp2_with fail
          all_goals
            refine (XmlC.tag name A cA ts _ hn (by omega) (by omega) hcA hsA).mono ?_
            rintro e w2 ⟨rfl, b2⟩
            go_wp2_with fail
            rw [XmlB.tagv name ⟨(Com.flat ts).toArray⟩]
            go_wp2
            go_ret
            exact ⟨rfl, hb.trans (b2.mono hsz)⟩
        · clear hstop
          go_wp2_with fail
          all_goals
            refine (XmlC.tag name A cA ts _ hn (by omega) (by omega) hcA hsA).mono ?_
            rintro e w2 ⟨rfl, b2⟩
            go_wp2_with fail
            rw [XmlB.tagv name ⟨(Com.flat ts).toArray⟩]
            go_wp2
            go_ret
            exact ⟨rfl, hb.trans (b2.mono hsz)⟩
    · obtain ⟨A, cA, rfl, hcA, hsA⟩ := strs_of_own hown
      clear hown
      go_wp2_with fail
      all_goals
        refine (XmlC.tag name A cA ts _ hn (by omega) (by omega) hcA hsA).mono ?_
        rintro e w2 ⟨rfl, b2⟩
        go_wp2_with fail
        rw [XmlB.tagv name ⟨(Com.flat ts).toArray⟩]
        go_wp2
        go_ret
        exact ⟨rfl, hb.trans (b2.mono hsz)⟩
end Go.Proofs.Ytmimkgfkicgfiaa.XmlG
