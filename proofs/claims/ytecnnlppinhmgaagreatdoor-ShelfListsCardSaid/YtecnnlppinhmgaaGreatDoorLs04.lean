/-
  Slices of ids and of bools, as they came in.
-/
import Derived.Test.YtecnnlppinhmgaaGreatDoorSh04
import Derived.Test.YtecnnlppinhmgaaGreatDoorLs02
import Derived.Deep.Slices
namespace Go.Proofs.YtecnnlppinhmgaaGreatDoor.LsR
open Go.ChangeShapes Go.WideShapes Go.ChangeAt Go.RowKit Go.Proofs.YtecnnlppinhmgaaGreatDoor Go.Proofs.YtecnnlppinhmgaaGreatDoor.SfR Go.Proofs.YtecnnlppinhmgaaGreatDoor.LsA

/-- a slice of ids that came in -/
theorem open_ids {H : Type} {enc : TypeId × Value → H} {W : World} {v : Value} {y : DataW H × List MemPlace} {n : Nat}
    (h : DataW.trod enc Tryz.prog W 0 (fun _ => true) true n 50 [v] = some y) : ∃ a xs c, v = .slice a xs.length c ∧ In3 W a xs ∧ xs.length ≤ c ∧ xs.length ≤ 9223372036854775807 := by
  rcases Go.Deep.open_slice Tryz.underlying50 h with ⟨hcs, _⟩ | ⟨a, len, cap, m, n, D, Pl, hcs, _, hl, hm, hmm, _, hi⟩
  · obtain rfl : v = .slice none 0 0 := by simpa using hcs
    exact ⟨none, [], 0, rfl, .inl rfl, by simp, by simp⟩
  · obtain rfl : v = .slice (some a) len cap := by simpa using hcs
    simp only [if_true] at hmm
    subst hmm
    rw [cId] at hi
    obtain ⟨xs, hxl, hxs⟩ := RowKit2.list_of (α := Int × Int × Int) (p := fun i t => W.cell? (a.add (i * 3)) = some (.int .i64 t.1) ∧ W.cell? (a.add (i * 3 + 1)) = some (.int .i64 t.2.1) ∧ W.cell? (a.add (i * 3 + 2)) = some (.int .i64 t.2.2)) len (fun i hil => by
      obtain ⟨cs', hc, ht⟩ := hi i (by omega)
      obtain ⟨_, hcl, hat⟩ := World.cells?_some hc
      match cs', hcl with
      | [c0, c1, c2], _ =>
        obtain ⟨x, y, z, rfl, rfl, rfl, _⟩ := open_id ht
        have h0 := hat 0 (by decide)
        have h1 := hat 1 (by decide)
        have h2 := hat 2 (by decide)
        rw [Go.Deep.add_add] at h0 h1 h2
        exact ⟨(x, y, z), h0, h1, h2⟩)
    subst hxl
    refine ⟨some a, xs, m, rfl, ?_, hl, by simp only [maxLen] at hm; omega⟩
    rcases Nat.eq_zero_or_pos xs.length with h0 | h0
    · exact .inl (List.eq_nil_of_length_eq_zero h0)
    · have hc0 := (hxs 0 _ (List.getElem?_eq_getElem h0)).1
      obtain ⟨b, off, spot⟩ := a
      obtain rfl : spot = none := by simpa [Addr.add] using World.cell?_spot hc0
      refine .inr ⟨b, off, rfl, World.block_lt_of_cell? W _ (by simpa [RowKit2.addr_add] using hc0), fun j t ht => ?_⟩
      obtain ⟨k0, k1, k2⟩ := hxs j t ht
      rw [RowKit2.addr_add] at k0 k1 k2
      exact ⟨k0, k1, k2⟩
/-- a slice of bools that came in -/
theorem open_bs {H : Type} {enc : TypeId × Value → H} {W : World} {v : Value} {y : DataW H × List MemPlace} {n : Nat}
    (h : DataW.trod enc Tryz.prog W 0 (fun _ => true) true n 53 [v] = some y) : ∃ a gs c, v = .slice a gs.length c ∧ InB W a gs ∧ gs.length ≤ c ∧ gs.length ≤ 9223372036854775807 := by
  rcases Go.Deep.open_slice1 Tryz.underlying53 SfQ.cBool h with ⟨hcs, _⟩ | ⟨a, len, cap, m, n, V, D, Pl, hcs, _, hl, hm, hmm, _, hi⟩
  · obtain rfl : v = .slice none 0 0 := by simpa using hcs
    exact ⟨none, [], 0, rfl, .inl rfl, by simp, by simp⟩
  · obtain rfl : v = .slice (some a) len cap := by simpa using hcs
    simp only [if_true] at hmm
    subst hmm
    obtain ⟨gs, hgl, hgs⟩ := RowKit2.list_of (α := Bool) (p := fun i t => W.cell? (a.add i) = some (.bool t)) len (fun i hil => by
      obtain ⟨hc, ht⟩ := hi i (by omega)
      obtain ⟨fl, e, _⟩ := DataW.trod_bool Tryz.underlying4 ht
      have e : V i = .bool fl := by simpa using e
      exact ⟨fl, by rw [hc, e]⟩)
    subst hgl
    refine ⟨some a, gs, m, rfl, ?_, hl, by simp only [maxLen] at hm; omega⟩
    rcases Nat.eq_zero_or_pos gs.length with h0 | h0
    · exact .inl (List.eq_nil_of_length_eq_zero h0)
    · have hc0 := hgs 0 _ (List.getElem?_eq_getElem h0)
      obtain ⟨b, off, spot⟩ := a
      obtain rfl : spot = none := by simpa [Addr.add] using World.cell?_spot hc0
      refine .inr ⟨b, off, rfl, World.block_lt_of_cell? W _ (by simpa [RowKit2.addr_add] using hc0), fun j t ht => ?_⟩
      have k := hgs j t ht
      rwa [RowKit2.addr_add] at k
end Go.Proofs.YtecnnlppinhmgaaGreatDoor.LsR
