/-
  package uri's Parse, in one word; the walk of bollardlaw17.alive.
-/
import Derived.Test.YtmimkgfkicgfiaaDoorUriC
import Derived.Test.YtmimkgfkicgfiaaDoorUriD
namespace Go.Proofs.YtmimkgfkicgfiaaDoor.UriG
open Go.RowKit Go.Proofs.YtmimkgfkicgfiaaDoor Go.Proofs.YtmimkgfkicgfiaaDoor.UriC

theorem prefix_head (l : List UInt8) : Lib.hasPrefix l [47] = decide (l.head? = some 47) := by
  cases l with
  | nil => rfl
  | cons c t =>
    simp only [Lib.hasPrefix, List.isPrefixOf, List.head?_cons, Option.some.injEq, Bool.and_true]
    by_cases h : c = 47
    · subst h; rfl
    · simp [h, Ne.symm h]
/-- Parse refuses -/
theorem parseN (t : ByteArray) (w : World) {aU : Addr} (he : EU w aU) (hm : UriB.Mx w) (ht : t.size ≤ 16777216) (hn : Up.parse t.data.toList = none) :
    Calls Tryd.prog 16 #[.string t] w fun e w' => e = .returned (.tuple #[noUri, .iface 233 (.pointer (some aU))]) ∧ Below w.heap.size w w' := by
  refine (callsIn_wide (n := 8)).1 ?_
  cases hd : Up.dec (Up.cutAt 63 t.data.toList).1 with
  | none => exact parse_path t w he hm ht hd
  | some p =>
    by_cases hh : t.data.toList.head? = some 47
    · have hp : Up.pairs (Up.splits 38 (Up.cutAt 63 t.data.toList).2) = none := by
        simp only [Up.parse, hd] at hn
        rw [if_pos hh] at hn
        simpa using hn
      refine (parse_main t w he hm ht hd (by rw [prefix_head, hh]; rfl)).mono ?_
      rintro e w' ⟨h1, h2⟩
      rw [hp] at h1
      exact ⟨h1, h2⟩
    · exact parse_slash t w he hm ht hd (by rw [prefix_head]; simpa using hh)
/-- Parse takes a target apart -/
theorem parseS (t : ByteArray) (w : World) {aU : Addr} (he : EU w aU) (hm : UriB.Mx w) (ht : t.size ≤ 16777216) {u : Up.Uri} (hn : Up.parse t.data.toList = some u) :
    Calls Tryd.prog 16 #[.string t] w fun e w' => (∃ a c, e = .returned (.tuple #[.agg #[.string ⟨u.path.toArray⟩, .slice a u.query.length c], .nilIface]) ∧ (u.query.length ≤ c ∧ FlatA a) ∧ Pairs w' a u.query) ∧ Below w.heap.size w w' := by
  refine (callsIn_wide (n := 8)).1 ?_
  cases hd : Up.dec (Up.cutAt 63 t.data.toList).1 with
  | none => simp [Up.parse, hd] at hn
  | some p =>
    by_cases hh : t.data.toList.head? = some 47
    · simp only [Up.parse, hd] at hn
      rw [if_pos hh] at hn
      cases hp : Up.pairs (Up.splits 38 (Up.cutAt 63 t.data.toList).2) with
      | none => rw [hp] at hn; cases hn
      | some ps =>
        rw [hp] at hn
        obtain rfl : (⟨p, ps⟩ : Up.Uri) = u := by simpa using hn
        refine (parse_main t w he hm ht hd (by rw [prefix_head, hh]; rfl)).mono ?_
        rintro e w' ⟨h1, h2⟩
        rw [hp] at h1
        exact ⟨h1, h2⟩
    · simp only [Up.parse, hd] at hn
      rw [if_neg hh] at hn
      cases hn

def target : List UInt8 := [47, 97, 37, 50, 48, 98, 63, 120, 61, 49, 38, 121]
def parsed : Up.Uri := ⟨[47, 97, 32, 98], [([120], [49]), ([121], [])]⟩
theorem dec_one {c : UInt8} (h : Up.step [c] = some (c, [])) : Up.dec [c] = some [c] := by rw [Up.dec_some h, Up.dec_nil]; rfl
theorem dec_path : Up.dec [47, 97, 37, 50, 48, 98] = some [47, 97, 32, 98] := by
  rw [Up.dec_some (show Up.step [47, 97, 37, 50, 48, 98] = some (47, [97, 37, 50, 48, 98]) by decide), Up.dec_some (show Up.step [97, 37, 50, 48, 98] = some (97, [37, 50, 48, 98]) by decide),
    Up.dec_some (show Up.step [37, 50, 48, 98] = some (32, [98]) by decide), dec_one (show Up.step [98] = some (98, []) by decide)]
  rfl
theorem parse_target : Up.parse target = some parsed := by
  have h1 : Up.cutAt 63 target = ([47, 97, 37, 50, 48, 98], [120, 61, 49, 38, 121]) := by decide
  have h2 : Up.splits 38 [120, 61, 49, 38, 121] = [[120, 61, 49], [121]] := by decide
  have h3 : Up.cutAt 61 [120, 61, 49] = ([120], [49]) := by decide
  have h4 : Up.cutAt 61 [121] = ([121], []) := by decide
  have d1 : Up.dec [120] = some [120] := dec_one (by decide)
  have d2 : Up.dec [49] = some [49] := dec_one (by decide)
  have d3 : Up.dec [121] = some [121] := dec_one (by decide)
  have p1 : Up.pair [120, 61, 49] = some ([120], [49]) := by simp [Up.pair, h3, d1, d2]
  have p2 : Up.pair [121] = some ([121], []) := by simp [Up.pair, h4, d3, Up.dec_nil]
  have hp : Up.pairs [[120, 61, 49], [121]] = some [([120], [49]), ([121], [])] := by simp [Up.pairs, p1, p2]
  simp only [Up.parse, h1, dec_path, h2, hp]
  rfl
theorem enc_example : UriD.enc false [97, 47, 98, 32, 99] = [97, 37, 50, 70, 98, 37, 50, 48, 99] := by decide

set_option maxHeartbeats 4000000 in
set_option maxRecDepth 100000 in
theorem alive (w : World) {aU : Addr} (he : EU w aU) (hm : UriB.Mx w) : Calls Tryd.prog 15 #[] w fun e w' => e = .returned (.bool true) ∧ Below w.heap.size w w' := by
  have hee : (UriD.enc false (ByteArray.mk #[97, 47, 98, 32, 99]).data.toList) = [97, 37, 50, 70, 98, 37, 50, 48, 99] := enc_example
  have HEE := Lib.hid hee; clear hee
  go_enter Tryd.func15, Tryd.ntmps15
  go_wp2_with fail
  refine (parseS ⟨#[47, 97, 37, 50, 48, 98, 63, 120, 61, 49, 38, 121]⟩ _ he hm (by decide) (u := parsed) parse_target).mono ?_
  rintro e w1 ⟨⟨a, c, rfl, hc, hp⟩, hb1⟩
  rw [show (ByteArray.mk parsed.path.toArray) = ⟨#[47, 97, 32, 98]⟩ from rfl, show parsed.query.length = 2 from rfl]
  clear hp hc
  go_wp2_with (go_at_call 19; refine (UriD.encode _ _ _ (by decide)).mono ?_; rintro e w2 ⟨rfl, hb2⟩; rw [HEE.out])
  go_ret
  exact ⟨rfl, (hb1.alloc hb1.size _).trans (hb2.mono (by have := hb1.size; simp; omega))⟩
end Go.Proofs.YtmimkgfkicgfiaaDoor.UriG
