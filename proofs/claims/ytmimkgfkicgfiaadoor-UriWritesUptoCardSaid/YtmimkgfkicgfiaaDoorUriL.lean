/-
  bollardref17's Same on equal uris.
-/
import Derived.Test.YtmimkgfkicgfiaaDoorUriK
import Derived.Laws.StructEq
import Derived.BigQuiet
namespace Go.Proofs.YtmimkgfkicgfiaaDoor.UriL
open Go.RowKit Go.Proofs.YtmimkgfkicgfiaaDoor Go.Proofs.YtmimkgfkicgfiaaDoor.UriC

theorem Pairs.below {w w' : World} {a : Option Addr} {ps : List (List UInt8 × List UInt8)} (h : Pairs w a ps) (hb : Below w.heap.size w w') : Pairs w' a ps := by
  rcases h with h | ⟨b, o, h1, h2, h3⟩
  · exact .inl h
  · refine .inr ⟨b, o, h1, Nat.lt_of_lt_of_le h2 hb.size, fun j p hj => ?_⟩
    obtain ⟨k1, k2⟩ := h3 j p hj
    exact ⟨(hb.cell (by simpa using h2)).trans k1, (hb.cell (by simpa using h2)).trans k2⟩

@[go_sem] theorem undPair : Tryd.prog.underlying 93 = some (.struct (Tryd.prog.fieldsOf 93)) := by kernel_rfl
@[go_sem] theorem heldPair : Tryd.prog.stoodInHeld 93 = false := by kernel_rfl
theorem fieldsPair : (Tryd.prog.fieldsOf 93).toList.map (fun f => (f.name, f.type, f.offset)) = [("Name", 9, 0), ("Value", 9, 1)] := by kernel_rfl
theorem infoString : (Tryd.prog.info? 9).map (·.size) = some 1 := by kernel_rfl
theorem run_partString (xs : Array Value) (o : Nat) (w : World) {x : Value} (h : xs[o]? = some x) : (part 9 xs o).run Tryd.prog w = .ok x w := by
  have := infoString
  cases hi : Tryd.prog.info? 9 with
  | none => rw [hi] at this; cases this
  | some i =>
    rw [hi] at this
    have hs : i.size = 1 := by simpa using this
    simp [part, typeInfo, hi, sizeOf, hs, h]
theorem neqPair (n v : ByteArray) (w : World) : (binOp .neq 93 (Value.agg #[.string n, .string v]) (Value.agg #[.string n, .string v])).run Tryd.prog w = .ok (Value.bool false) w := by
  rw [run_neq_struct, run_equalIn_agg _ _ _ _ _ undPair heldPair]
  have hf := fieldsPair
  generalize (Tryd.prog.fieldsOf 93).toList = fs at hf ⊢
  match fs, hf with
  | [⟨n1, t1, o1, _, _, _, _⟩, ⟨n2, t2, o2, _, _, _, _⟩], hf =>
    simp only [List.map_cons, List.map_nil, List.cons.injEq, Prod.mk.injEq] at hf
    obtain ⟨⟨rfl, rfl, rfl⟩, ⟨rfl, rfl, rfl⟩, _⟩ := hf
    have e1 : ∀ w, (part 9 #[Value.string n, Value.string v] 0).run Tryd.prog w = .ok (.string n) w := fun w => run_partString _ _ _ rfl
    have e2 : ∀ w, (part 9 #[Value.string n, Value.string v] 1).run Tryd.prog w = .ok (.string v) w := fun w => run_partString _ _ _ rfl
    have e3 : ∀ (b : ByteArray) w, (Op.equalIn 9999 9 (.string b) (.string b)).run Tryd.prog w = .ok true w := fun b w => by
      rw [run_equalIn_string w 9998 _ _ _ Tryd.underlying9]; simp
    simp [Op.eqFields, e1, e2, e3, Result.andThen]

set_option maxHeartbeats 4000000 in
set_option maxRecDepth 100000 in
theorem same (p : ByteArray) (ps : List (List UInt8 × List UInt8)) (a1 a2 : Option Addr) (c1 c2 : Nat) (w : World) (hl : ps.length ≤ 4294967296) (h1 : Pairs w a1 ps) (h2 : Pairs w a2 ps) :
    Calls Tryd.prog 18 #[.agg #[.string p, .slice a1 ps.length c1], .agg #[.string p, .slice a2 ps.length c2]] w fun e w' => e = .returned (.bool true) ∧ Below w.heap.size w w' := by
  go_enter Tryd.func18, Tryd.ntmps18
  go_wp2_with fail
  have key : ∀ k : Nat, k < ps.length → ∃ b1 o1 b2 o2 n v, a1 = some ⟨b1, o1, none⟩ ∧ a2 = some ⟨b2, o2, none⟩ ∧ w.cell? ⟨b1, o1 + k * 2, none⟩ = some (.string n) ∧ w.cell? ⟨b1, o1 + k * 2 + 1, none⟩ = some (.string v) ∧
      w.cell? ⟨b2, o2 + k * 2, none⟩ = some (.string n) ∧ w.cell? ⟨b2, o2 + k * 2 + 1, none⟩ = some (.string v) ∧ b1 < w.heap.size ∧ b2 < w.heap.size := by
    intro k hk
    rcases h1 with h1 | ⟨b1, o1, e1, l1, g1⟩
    · rw [h1] at hk; exact absurd hk (by simp)
    · rcases h2 with h2 | ⟨b2, o2, e2, l2, g2⟩
      · rw [h2] at hk; exact absurd hk (by simp)
      · have hg := List.getElem?_eq_getElem hk
        exact ⟨b1, o1, b2, o2, _, _, e1, e2, (g1 _ _ hg).1, (g1 _ _ hg).2, (g2 _ _ hg).1, (g2 _ _ hg).2, l1, l2⟩
  have KEY := Lib.hid key; clear key h1 h2
  go_loopg [5, 23] ps.length (fun g v5 v23 wr => ∃ k : Nat, k + g = ps.length ∧ v23 = .int .i64 k ∧ UriK.Ub w.heap.size wr (.string p) (.slice a1 ps.length c1) ∧ UriK.Ub (w.heap.size + 1) wr (.string p) (.slice a2 ps.length c2) ∧ Below w.heap.size w wr)
  case atStart =>
    refine ⟨0, by simp, rfl, ?_, ?_, ((Below.refl _ w).alloc (Nat.le_refl _) _).alloc (by simp) _⟩
    · exact (heap_alloc_old _ _ (by simp)).trans (heap_alloc_new _ _)
    · show ((w.alloc _).alloc _).heap[w.heap.size + 1]? = _
      rw [show w.heap.size + 1 = (w.alloc (Obj.cells #[Value.string p, Value.slice a1 ps.length c1] 25)).heap.size by simp]
      exact heap_alloc_new _ _
  case round =>
    obtain ⟨k, hkg, rfl, ha, hb, hbel⟩ := hrel
    obtain ⟨x0, x1, _, _⟩ := ha.cells
    obtain ⟨y0, y1, _, _⟩ := hb.cells
    have HG := Lib.hid hkg; have HA := Lib.hid ha; have HB := Lib.hid hb; have HBEL := Lib.hid hbel
    clear hkg ha hb hbel
    by_cases hlt : k < ps.length
    · obtain ⟨b1, o1, b2, o2, n, v, rfl, rfl, g1, g2, g3, g4, l1, l2⟩ := KEY.out k hlt
      have f1 := (HBEL.out.cell (p := ⟨b1, o1 + k * 2, none⟩) l1).trans g1
      have f2 := (HBEL.out.cell (p := ⟨b1, o1 + k * 2 + 1, none⟩) l1).trans g2
      have f3 := (HBEL.out.cell (p := ⟨b2, o2 + k * 2, none⟩) l2).trans g3
      have f4 := (HBEL.out.cell (p := ⟨b2, o2 + k * 2 + 1, none⟩) l2).trans g4
      have hne := neqPair n v
      clear g1 g2 g3 g4
      go_wp2_with fail
      go_quiet (fail)
      go_wp2_with fail
      go_roundg (ps.length - (k + 1))
      case rel => exact ⟨k + 1, by omega, by go_num, HA.out, HB.out, UriA.below_drewN HBEL.out _⟩
      case measure => have := HG.out; omega
    · go_wp2_with fail
      go_ret
      exact ⟨rfl, HBEL.out⟩
end Go.Proofs.YtmimkgfkicgfiaaDoor.UriL
