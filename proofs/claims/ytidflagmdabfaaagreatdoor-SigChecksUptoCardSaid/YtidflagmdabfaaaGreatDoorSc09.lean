/-
  What package sig and the document answer, beside each other: texts, errors, requests. The walk of bollardnum's Apart (what XNum holds of it, without the http texts).
-/
import Derived.Test.YtidflagmdabfaaaGreatDoorSg04
import Derived.Test.YtidflagmdabfaaaGreatDoorSg22
import Derived.Test.YtidflagmdabfaaaGreatDoorSc08
import Derived.Laws.OwnMore
import Derived.Laws.BitsAllLaws
import Derived.Deep.LoopGhost
import Derived.IntWalk
namespace Go.Proofs.YtidflagmdabfaaaGreatDoor.SgY
open Go.RowKit Go.Proofs.YtidflagmdabfaaaGreatDoor Go.Proofs.YtidflagmdabfaaaGreatDoor.HtW Go.Proofs.YtidflagmdabfaaaGreatDoor.SgB Go.Proofs.YtidflagmdabfaaaGreatDoor.SgC

/-- the number of an error's value -/
def NumAs (es : List Addr) (V : Value) (k : Int) : Prop :=
  ∀ W, Err.All W es → Calls Tryz.prog 19 #[V] W fun e w' => e = .returned (.int .i64 k) ∧ Below W.heap.size W w'
theorem numAs_nil (es : List Addr) : NumAs es .nilIface 0 := fun W _ => (Err.num_nil W).mono fun _ _ h => ⟨h.1, h.2 ▸ Below.refl _ _⟩
theorem numAs_er {es : List Addr} {aU aR aD aK : Addr} (hR : es[12]? = some aR) (hU : es[13]? = some aU) (hD : es[14]? = some aD) (hK : es[15]? = some aK) (er : Sg.Er) : NumAs es (erv aU aR aD aK er) (er.num : Int) := by
  intro W h
  cases er with
  | uri => exact Err.num W h 13 (by decide) hU
  | req => exact Err.num W h 12 (by decide) hR
  | denied => exact Err.num W h 14 (by decide) hD
  | skew => exact Err.num W h 15 (by decide) hK
/-- the values that an answer is -/
theorem text_view {es : List Addr} {aU aR aD aK : Addr} (hR : es[12]? = some aR) (hU : es[13]? = some aU) (hD : es[14]? = some aD) (hK : es[15]? = some aK) (a : Sg.Ans (List UInt8)) :
    ∃ (x : List UInt8) (V : Value) (k : Int), tv aU aR aD aK a = .tuple #[.string ⟨x.toArray⟩, V] ∧ RsT.rv a = .tuple #[.string ⟨x.toArray⟩, .int .i64 k] ∧ NumAs es V k := by
  cases a with
  | no er => exact ⟨[], erv aU aR aD aK er, er.num, rfl, rfl, numAs_er hR hU hD hK er⟩
  | ok l => exact ⟨l, .nilIface, 0, rfl, rfl, numAs_nil es⟩
theorem sign_view {es : List Addr} {aU aR aD aK : Addr} (hR : es[12]? = some aR) (hU : es[13]? = some aU) (hD : es[14]? = some aD) (hK : es[15]? = some aK) {m t bd : List UInt8} {a : Sg.Ans (List Sg.Fld)} {base : Nat} {w : World} {e : Ending} (hl : ∀ fs, a = .ok fs → fs.length ≤ 1048578) (hbl : bd.length ≤ 1048576) (h : SignPost aU aR aD aK m t bd base w e a) :
    ∃ (m' t' bd' : List UInt8) (fs' : List Sg.Fld) (af : Option Addr) (cf : Nat) (abd : Option Addr) (cbd : Nat) (V : Value) (k : Int), e = .returned (.tuple #[.agg #[.string ⟨m'.toArray⟩, .string ⟨t'.toArray⟩, .slice af fs'.length cf, .slice abd bd'.length cbd], V]) ∧ Fs w af fs' ∧ w.ownsRow base 5 1 (.slice abd bd'.length cbd) bd'.length (Lib.byteCells bd') ∧ NumAs es V k ∧ fs'.length ≤ 1048578 ∧ bd'.length ≤ 1048576 ∧
      ∀ (ab : Option Addr) (cb : Nat) (W : World) (e2 : Ending), Bs W ab bd cb → RsY.RPost m t bd ab cb W e2 a → ∃ af2 cf2 ab2 cb2, e2 = .returned (.tuple #[.agg #[.string ⟨m'.toArray⟩, .string ⟨t'.toArray⟩, .slice af2 fs'.length cf2, .slice ab2 bd'.length cb2], .int .i64 k]) ∧ Fs W af2 fs' ∧ Bs W ab2 bd' cb2 := by
  cases a with
  | no er =>
    refine ⟨[], [], [], [], none, 0, none, 0, erv aU aR aD aK er, er.num, h, .inl rfl, World.ownsRow_nil _ _ _ _, numAs_er hR hU hD hK er, by simp, by simp, fun ab cb W e2 _ h2 => ⟨none, 0, none, 0, h2, .inl rfl, Nat.le_refl _, fun _ => rfl, .inl rfl⟩⟩
  | ok fs =>
    obtain ⟨af, cf, abd, cbd, h1, h2, _, h3⟩ := h
    exact ⟨m, t, bd, fs, af, cf, abd, cbd, .nilIface, 0, h1, h2, h3, numAs_nil es, hl fs rfl, hbl, fun ab cb W e2 hb hp => by obtain ⟨a2, c2, h4, h5⟩ := hp; exact ⟨a2, c2, ab, cb, h4, h5, hb⟩⟩
theorem sign_small {m t bd n s : List UInt8} {fs fa : List Sg.Fld} {d : Int} (hfl : fs.length ≤ 1048576) (h : Sg.sign m t bd fs n s d = .ok fa) : fa.length ≤ 1048578 := by
  obtain ⟨u, _, _, _, rfl⟩ := SgL.sign_ok h
  rw [List.length_append]
  have : (Sg.others fs).length ≤ fs.length := List.length_filter_le _ _
  have h2 : (Sg.two d n (Sg.sigOf (Sg.lines m u bd d) s d)).length = 2 := rfl
  omega
/-- a row of the callee's own lies apart from what was there -/
theorem own_apart {w6 w8 : World} {b6 base : Nat} {e e' : TypeId} {s s' n n' : Nat} {a a' : Option Addr} {c c' : Nat} {xs xs' : List Value} (h : w6.ownsRow b6 e s (.slice a n c) n xs) (h' : w8.ownsRow base e' s' (.slice a' n' c') n' xs') (hb : w6.heap.size ≤ base) : ∀ p q, a = some p → a' = some q → p.block ≠ q.block := by
  rintro p q rfl rfl
  have h1 := h.lt p.block rfl
  have h2 := h'.lt q.block rfl
  omega
end Go.Proofs.YtidflagmdabfaaaGreatDoor.SgY
namespace Go.Proofs.YtidflagmdabfaaaGreatDoor.NumA
open Go.RowKit Go.Proofs.YtidflagmdabfaaaGreatDoor Go.Proofs.YtidflagmdabfaaaGreatDoor.Ht Go.Proofs.YtidflagmdabfaaaGreatDoor.HtW Go.Proofs.YtidflagmdabfaaaGreatDoor.HtX

theorem made (n : Nat) (h : n ≤ 140737488351232) : ∃ C : Array Value, C.size = n + 6 ∧ ∀ W : World, (Instr.makeSlice 23 (.int .i64 0) (.int .i64 ((n : Int) + 6))).run Tryz.prog W = .ok (.slice (some ⟨W.heap.size, 0, none⟩) 0 (n + 6)) (W.alloc (.cells C 5)) := by
  obtain ⟨i0, hi, hz0, hz1, hz2⟩ := info_parts infoByte
  refine ⟨madeCells (Value.int .u8 0).cells ((n + 6) * i0.size), by rw [size_madeCells, hz1, Nat.mul_one], fun W => ?_⟩
  have h := run_make (P := Tryz.prog) W 23 5 i0 (.int .u8 0) Tryz.underlying23 hi hz0 .i64 .i64 0 ((n : Int) + 6) (by omega) (by omega) (by rw [hz2]; omega) (by omega)
  have e : ((n : Int) + 6).toNat = n + 6 := by omega
  rw [e] at h
  exact h
abbrev markCells : Array Value := #[.int .u8 201, .int .u8 202, .int .u8 203, .int .u8 204, .int .u8 205, .int .u8 206]
def marks : List UInt8 := [201, 202, 203, 204, 205, 206]
theorem own_some {w : World} {base n : Nat} {a : Option Addr} {c : Nat} {l : List UInt8} (h : w.ownsRow base 5 1 (.slice a n c) l.length (Lib.byteCells l)) (hl : 0 < l.length) : ∃ g, a = some ⟨g, 0, none⟩ ∧ n = l.length ∧ l.length ≤ c := by
  rcases h.2 with ⟨_, h0⟩ | ⟨g, cap, cur, hv, _, _, hn, _⟩
  · omega
  · cases hv
    exact ⟨g, rfl, rfl, hn⟩
theorem marks_len : marks.length = 6 := rfl
theorem pos_marks {l : List UInt8} : 0 < (l ++ marks).length := by
  have := marks_len
  rw [List.length_append]
  omega
theorem marks_bs (w : World) : Bs (w.alloc (.cells markCells 5)) (some ⟨w.heap.size, 0, none⟩) marks 6 := by
  refine ⟨by decide, (fun h => by cases h), .inr ⟨w.heap.size, 0, rfl, by simp, fun j x hj => ?_⟩⟩
  have e : markCells = (marks.map (fun x => Value.int .u8 (x.toNat : Int))).toArray := by kernel_rfl
  rw [Lib.cell_of_heap (heap_alloc_new w _), Nat.zero_add, e]
  rw [List.getElem?_toArray, List.getElem?_map, hj]
  rfl
theorem own_prefix {w : World} {base n g c : Nat} {l r : List UInt8} (h : w.ownsRow base 5 1 (.slice (some ⟨g, 0, none⟩) n c) (l ++ r).length (Lib.byteCells (l ++ r))) : w.ownsRow base 5 1 (.slice (some ⟨g, 0, none⟩) l.length c) l.length (Lib.byteCells l) := by
  have hcl : (Lib.byteCells l).length = l.length := by simp [Lib.byteCells]
  rcases h.2 with ⟨h', _⟩ | ⟨g', cap, cur, h', hb, hg, hn, hm, hcs, htk⟩
  · simp at h'
  · cases h'
    rw [List.length_append] at hn htk
    refine ⟨by rw [hcl, Nat.mul_one], .inr ⟨g, c, cur, rfl, hb, hg, by omega, hm, hcs, ?_⟩⟩
    have h2 := congrArg (List.take l.length) htk
    rw [List.take_take, byteCells_append, List.take_left' hcl, Nat.mul_one, Nat.min_eq_left (by omega)] at h2
    rw [Nat.mul_one]
    exact h2
theorem xor_byte (x : UInt8) : bits .xor .u8 (x.toNat : Int) 85 = (((x ^^^ 85 : UInt8)).toNat : Int) := by
  have h := u8_xor_nat x.toNat 85 (UInt8.toNat_lt x) (by decide)
  rw [UInt8.toNat_xor]
  exact h
theorem bs_grown {w w' : World} {a : Option Addr} {l : List UInt8} {c : Nat} (h : Bs w a l c) {row : Option Nat} (hg : w.grownBy w' row) (hne : ∀ p, a = some p → some p.block ≠ row) : Bs w' a l c := by
  refine ⟨h.1, h.2.1, h.2.2.imp id fun ⟨b, o, h1, h3, h4⟩ => ⟨b, o, h1, Nat.lt_of_lt_of_le h3 hg.size, fun j x hx => ?_⟩⟩
  have := hg.block b h3 (hne ⟨b, o, none⟩ h1)
  exact (World.cell?_of_block (a := ⟨b, o + j, none⟩) this).trans (h4 j x hx)
/-- what the law's marking leaves -/
structure Mk (base : Nat) (row : Option Nat) (w w' : World) (aA : Option Addr) (l : List UInt8) (cA : Nat) (ab : Option Addr) (n c : Nat) : Prop where
  own : ∃ l2 : List UInt8, l2.length = n ∧ w'.ownsRow base 5 1 (.slice ab n c) l2.length (Lib.byteCells l2)
  bs : Bs w' aA l cA
  below : Below base w w'
  gr : w.grownBy w' row
theorem Mk.cell {base : Nat} {row : Option Nat} {w w' : World} {aA : Option Addr} {l : List UInt8} {cA : Nat} {ab : Option Addr} {n c : Nat} (h : Mk base row w w' aA l cA ab n c) {i : Nat} (hi : i < n) :
    ∃ (g : Nat) (x : UInt8), ab = some ⟨g, 0, none⟩ ∧ base ≤ g ∧ g < w'.heap.size ∧ w'.cell? ⟨g, i, none⟩ = some (.int .u8 (x.toNat : Int)) ∧ w'.frozen? ⟨g, i, none⟩ = false := by
  obtain ⟨l2, hl, ho⟩ := h.own
  obtain ⟨g, rfl, -, -⟩ := own_some ho (by omega)
  have hlt := ho.lt g rfl
  subst hl
  have hc := ho.cellAt i (by rw [Nat.mul_one]; exact hi)
  have hx : (Lib.byteCells l2)[i]? = some (.int .u8 (l2[i].toNat : Int)) := by simp [Lib.byteCells, List.getElem?_eq_getElem hi]
  exact ⟨g, l2[i], rfl, hlt.1, hlt.2, hc.trans hx, ho.frozenAt i⟩
theorem Mk.put {base : Nat} {row : Option Nat} {w w' : World} {aA : Option Addr} {l : List UInt8} {cA g n c : Nat} (h : Mk base row w w' aA l cA (some ⟨g, 0, none⟩) n c) (hrow : row = some g ∨ w.heap.size ≤ g) (hd : l ≠ [] → ∀ p, aA = some p → p.block ≠ g) (i : Nat) (y : UInt8) :
    Mk base row w (w'.setCell ⟨g, i, none⟩ (.int .u8 (y.toNat : Int))) aA l cA (some ⟨g, 0, none⟩) n c := by
  obtain ⟨l2, hl, ho⟩ := h.own
  subst hl
  obtain ⟨h1, h2⟩ := ho.stored i (.int .u8 (y.toNat : Int))
  have e : (Lib.byteCells l2).set i (.int .u8 (y.toNat : Int)) = Lib.byteCells (l2.set i y) := by simp [Lib.byteCells, List.map_set]
  rw [e] at h1
  refine ⟨⟨l2.set i y, by simp, by rw [List.length_set]; exact h1⟩, ?_, ?_, ?_⟩
  · by_cases h0 : l = []
    · exact ⟨h.bs.1, h.bs.2.1, .inl h0⟩
    · exact bs_grown h.bs h2 (fun p hp e => hd h0 p hp (by simpa using e))
  · exact h.below.setCell (p := ⟨g, i, none⟩) (ho.lt g rfl).1 _
  · refine ⟨h2.os.trans h.gr.os, h2.tape.trans h.gr.tape, h2.output.trans h.gr.output, Nat.le_trans h.gr.size h2.size, fun k hk hr => ?_⟩
    refine (h2.block k (Nat.lt_of_lt_of_le hk h.gr.size) ?_).trans (h.gr.block k hk hr)
    intro e
    simp only [Option.some.injEq] at e
    rcases hrow with hrow | hrow
    · exact hr (by rw [e, hrow])
    · omega
theorem grown_trans {w w1 w2 : World} {row : Option Nat} (h : w.grownBy w1 row) (h2 : w1.grownBy w2 row) : w.grownBy w2 row :=
  ⟨h2.os.trans h.os, h2.tape.trans h.tape, h2.output.trans h.output, Nat.le_trans h.size h2.size, fun k hk hr => (h2.block k (Nat.lt_of_lt_of_le hk h.size) hr).trans (h.block k hk hr)⟩
def sevens : List UInt8 := [7, 7, 7, 7, 7, 7, 7, 7]
abbrev sevenCells : Array Value := #[.int .u8 7, .int .u8 7, .int .u8 7, .int .u8 7, .int .u8 7, .int .u8 7, .int .u8 7, .int .u8 7]
theorem sevens_bs (w : World) : Bs (w.alloc (.cells sevenCells 5)) (some ⟨w.heap.size, 0, none⟩) sevens 8 := by
  refine ⟨by decide, (fun h => by cases h), .inr ⟨w.heap.size, 0, rfl, by simp, fun j x hj => ?_⟩⟩
  have e : sevenCells = (sevens.map (fun x => Value.int .u8 (x.toNat : Int))).toArray := by kernel_rfl
  rw [Lib.cell_of_heap (heap_alloc_new w _), Nat.zero_add, e]
  rw [List.getElem?_toArray, List.getElem?_map, hj]
  rfl

theorem grown_none {w w' : World} (h : w.grownBy w' none) (row : Option Nat) : w.grownBy w' row := ⟨h.os, h.tape, h.output, h.size, fun k hk _ => h.block k hk (by simp)⟩
theorem bs_of_row {w : World} {base n c : Nat} {a : Option Addr} {l : List UInt8} (h : w.ownsRow base 5 1 (.slice a n c) l.length (Lib.byteCells l)) : Bs w a l c := (bs_own h).1
/-- append: in the same block, or in a new one -/
theorem run_append_split (w : World) (base : Nat) (ab : Option Addr) (c : Nat) (l r : List UInt8) (hown : w.ownsRow base 5 1 (.slice ab l.length c) l.length (Lib.byteCells l)) (p : Addr) (cR : Nat) (hB : Bs w (some p) r cR) (hbase : base ≤ w.heap.size) (hlen : l.length + r.length ≤ 140737488355328) (ty : TypeId) :
    ∃ ar cr w', (Builtin.append_ #[23, 23] ty #[.slice ab l.length c, .slice (some p) r.length cR]).run Tryz.prog w = .ok (.slice ar (l.length + r.length) cr) w' ∧ w'.ownsRow base 5 1 (.slice ar (l.length + r.length) cr) (l ++ r).length (Lib.byteCells (l ++ r)) ∧ w.grownBy w' (Value.slice ab l.length c).ownBlock ∧ Below base w w' ∧
      ((∃ g, ab = some ⟨g, 0, none⟩ ∧ ar = some ⟨g, 0, none⟩) ∨ ∀ q, ar = some q → w.heap.size ≤ q.block) := by
  obtain ⟨i0, hi, hz0, hz1, hz2⟩ := info_parts infoByte
  have hown2 := hown
  rcases hown.2 with ⟨hv, h0⟩ | ⟨g, cap, cur, hv, hbg, hg, hnc, hm, hcs, htk⟩
  · have hl0 : l = [] := List.eq_nil_of_length_eq_zero h0
    subst hl0
    cases hv
    obtain ⟨v', w', h1, h2, h3, _⟩ := run_append_own (P := Tryz.prog) w w.heap.size 23 ty 5 i0 _ 1 1 Tryz.underlying23 hi hz0 hz1 hz2 rfl (by decide) (.slice none 0 0) 0 [] (World.ownsRow_nil _ _ _ _) p r.length cR (Lib.byteCells r) (by rw [HtX.byteCells_length, Nat.mul_one]) hB.cells (byteCells_one r) (by unfold maxLen; simp at hlen; omega) (by simp at hlen; omega) (Nat.le_refl _)
    rw [Nat.zero_add, List.nil_append] at h2
    obtain ⟨a, c, rfl, hb⟩ := bs_of_own h2
    refine ⟨a, c, w', by rw [List.length_nil, Nat.zero_add]; exact h1, ?_, h3, (Below.refl base w).grown h3 hbase (fun k hk => by cases hk), Or.inr (fun q hq => by subst hq; exact (h2.lt q.block rfl).1)⟩
    rw [List.length_nil, Nat.zero_add, List.nil_append]
    refine ⟨h2.1, h2.2.imp id ?_⟩
    rintro ⟨g, cap, cur, q1, q2, q3⟩
    exact ⟨g, cap, cur, q1, Nat.le_trans hbase q2, q3⟩
  · cases hv
    by_cases hroom : l.length + r.length ≤ c
    · obtain ⟨w', h1, h2, h3⟩ := run_append_fits (P := Tryz.prog) w base 23 ty 5 i0 1 Tryz.underlying23 hi hz1 g l.length c (Lib.byteCells l) hown2 p r.length cR (Lib.byteCells r) (by rw [HtX.byteCells_length, Nat.mul_one]) hB.cells (byteCells_one r) hroom
      refine ⟨some ⟨g, 0, none⟩, c, w', h1, by rw [List.length_append, byteCells_append]; exact h2, h3, (Below.refl base w).grown h3 hbase (fun k hk => by cases hk; exact hbg), Or.inl ⟨g, rfl, rfl⟩⟩
    · have hlB := bs_of_row hown2
      obtain ⟨v', w', hrun, r1, r2⟩ := run_append_arg_grows (P := Tryz.prog) w 23 ty 5 i0 _ 1 1 Tryz.underlying23 hi hz0 hz1 hz2 rfl (by decide) ⟨g, 0, none⟩ l.length c (Lib.byteCells l) (by simp [Lib.byteCells]) hlB.cells p r.length cR (Lib.byteCells r) (by rw [HtX.byteCells_length, Nat.mul_one]) hB.cells (by omega) (by unfold maxLen; omega) (by omega)
      have r1' : w'.ownsRow w.heap.size 5 1 v' (l ++ r).length (Lib.byteCells (l ++ r)) := by
        rw [List.length_append, byteCells_append]
        exact r1
      obtain ⟨a, c', rfl, hb⟩ := bs_of_own r1'
      rw [List.length_append] at hrun
      refine ⟨a, c', w', hrun, ?_, grown_none r2 _, (Below.refl base w).grown r2 hbase (fun k hk => by cases hk), Or.inr (fun q hq => by subst hq; exact (r1'.lt q.block rfl).1)⟩
      rw [← List.length_append]
      refine ⟨r1'.1, r1'.2.imp id ?_⟩
      rintro ⟨g, cap, cur, q1, q2, q3⟩
      exact ⟨g, cap, cur, q1, Nat.le_trans hbase q2, q3⟩
theorem wpList_append_split {ops : Array Oper} {rest : List Oper} {o : Oper} {a : Act} {Q : Exit → Act → World → Prop} (w : World) (hg : o.guard = none) (s x : Operand) (hop : o.op = Op.call { callee := Callee.builtin Builtin.append, args := #[s, x], argTypes := #[23, 23] })
    (base : Nat) (ab : Option Addr) (n c : Nat) (l r : List UInt8) (hn : n = l.length) (hown : w.ownsRow base 5 1 (.slice ab n c) l.length (Lib.byteCells l)) (p : Addr) (cR : Nat) (hB : Bs w (some p) r cR) (hbase : base ≤ w.heap.size) (hlen : n + r.length ≤ 140737488355328)
    (hs : a.eval s = .slice ab n c) (hx : a.eval x = .slice (some p) r.length cR)
    (hK : ∀ ar cr w', w'.ownsRow base 5 1 (.slice ar (n + r.length) cr) (l ++ r).length (Lib.byteCells (l ++ r)) → w.grownBy w' (Value.slice ab n c).ownBlock → Below base w w' → ((∃ g, ab = some ⟨g, 0, none⟩ ∧ ar = some ⟨g, 0, none⟩) ∨ ∀ q, ar = some q → w.heap.size ≤ q.block) → wpList Tryz.prog ops Q rest (a.put o.dst (.slice ar (n + r.length) cr)) w') :
    wpList Tryz.prog ops Q (o :: rest) a w := by
  subst hn
  refine wpList_plain hg fun K hK' => ?_
  obtain ⟨ar, cr, w', hrun, h1, h2, h3, h4⟩ := run_append_split w base ab c l r hown p cR hB hbase hlen o.type
  unfold Oper.wp
  simp [execOp, hop, resolve, invoke, builtin, hs, hx, hrun, Result.andThen]
  exact hK' _ _ (hK ar cr w' h1 h2 h3 h4)

set_option maxHeartbeats 1000000 in
set_option maxRecDepth 100000 in
theorem apart (l l' : List UInt8) {aA ab : Option Addr} {cA c : Nat} (base : Nat) (w : World) (hA : Bs w aA l cA) (hb : w.ownsRow base 5 1 (.slice ab l'.length c) l'.length (Lib.byteCells l')) (hd : ∀ p q, aA = some p → ab = some q → p.block ≠ q.block) (hl : l'.length ≤ 140737488351232) (hbase : base ≤ w.heap.size) :
    Calls Tryz.prog 27 #[.slice aA l.length cA, .slice ab l'.length c] w fun e w' => e = .returned (.bool true) ∧ Below base w w' ∧ w.grownBy w' (Value.slice ab l'.length c).ownBlock ∧ Bs w' aA l cA := by
  have hk := to_string hA
  have HM0 := Lib.hid (show Mk base (Value.slice ab l'.length c).ownBlock w w aA l cA ab l'.length c from ⟨⟨l', rfl, hb⟩, hA, Below.refl _ _, ⟨rfl, rfl, rfl, Nat.le_refl _, fun _ _ _ => rfl⟩⟩)
  have HD := Lib.hid hd
  clear hd hb
  go_enter Tryz.func27, Tryz.ntmps27
  go_wp2_with fail
  clear hk
  go_loopg [13] l'.length (fun g iv wr => ∃ k : Nat, k + g = l'.length ∧ iv = .int .i64 k ∧ Hid (Mk base (Value.slice ab l'.length c).ownBlock w wr aA l cA ab l'.length c))
  case atStart => exact ⟨0, by omega, rfl, HM0⟩
  case round =>
    obtain ⟨k, hkg, rfl, HM⟩ := hrel
    have HG := Lib.hid hkg
    have hk : k ≤ l'.length := by omega
    clear hkg
    by_cases hlt : k < l'.length
    · obtain ⟨g, x, rfl, hg1, hg2, c0, f0⟩ := HM.out.cell hlt
      have hx := xor_byte x
      have HN := Lib.hid (HM.out.put (.inl rfl) (fun _ p hp => HD.out p _ hp rfl) k (x ^^^ 85))
      go_wp2_with fail
      go_roundg (l'.length - (k + 1))
      case measure => have := HG.out; omega
      case rel => exact ⟨k + 1, by omega, by go_num, HN⟩
    · have hk2 := to_string HM.out.bs
      obtain ⟨l2, hl2, ho2⟩ := HM.out.own
      have HO2 := Lib.hid (show (wr.alloc (.cells sevenCells 5)).ownsRow base 5 1 (.slice ab l'.length c) l2.length (Lib.byteCells l2) from ho2.alloc (.cells sevenCells 5))
      have HS := Lib.hid (sevens_bs wr)
      have hal := (Below.refl wr.heap.size wr).alloc (Nat.le_refl _) (.cells sevenCells 5)
      have HBA := Lib.hid (HM.out.bs.below hal)
      have HB2 := Lib.hid (HM.out.below.alloc (Nat.le_trans hbase HM.out.below.size) (.cells sevenCells 5))
      have C1 : base ≤ (wr.alloc (.cells sevenCells 5)).heap.size := Nat.le_trans hbase HB2.out.size
      have C3 : l'.length + sevens.length ≤ 140737488355328 := by have : sevens.length = 8 := rfl; omega
      have hpl : ∀ p, aA = some p → l ≠ [] → p.block < wr.heap.size := fun p hp hn => by
        rcases HM.out.bs.2.2 with h | ⟨b, o, h1, h2, _⟩
        · exact absurd h hn
        · rw [hp] at h1; cases h1; exact h2
      have HPL := Lib.hid hpl
      have HL2 := Lib.hid hl2
      clear ho2 hal hpl hl2
      go_wp2_with (at_builtin; refine wpList_append_split _ rfl (.tmp 29) (.tmp 30) rfl base ab l'.length c l2 sevens HL2.out.symm HO2.out ⟨wr.heap.size, 0, none⟩ 8 HS.out C1 C3 rfl rfl ?_)
      intro ar cr w5 o5 g5 b5 hs5
      have hm5 : Mk base (Value.slice ab l'.length c).ownBlock w w5 aA l cA ar (l'.length + sevens.length) cr := by
        refine ⟨⟨l2 ++ sevens, by rw [List.length_append, HL2.out], by rw [List.length_append]; exact o5⟩, bs_grown HBA.out g5 (fun p hp e => ?_), HB2.out.trans b5, grown_trans (grown_trans HM.out.gr (World.grownBy_alloc _ _ _)) g5⟩
        cases ab with
        | none => simp [Value.ownBlock] at e
        | some q =>
          simp only [Value.ownBlock, Option.some.injEq] at e
          exact HD.out p q hp rfl e
      have HM5 := Lib.hid hm5
      have HK5 := Lib.hid (to_string hm5.bs)
      have HD5 := Lib.hid (show l ≠ [] → ∀ p q, aA = some p → ar = some q → p.block ≠ q.block from fun hn p q hp hq => by
        rcases hs5 with ⟨g, h1, h2⟩ | h
        · rw [h2] at hq
          cases hq
          exact HD.out p ⟨g, 0, none⟩ hp h1
        · have h1 := h q hq
          have h2 := HPL.out p hp hn
          omega)
      have HW5 := Lib.hid (show ∀ g, ar = some ⟨g, 0, none⟩ → (Value.slice ab l'.length c).ownBlock = some g ∨ w.heap.size ≤ g from fun g hg => by
        rcases hs5 with ⟨g', h1, h2⟩ | h
        · rw [h2] at hg
          cases hg
          exact .inl (by rw [h1]; rfl)
        · have h1 : _ ≤ g := h _ hg
          have h2 := HM.out.below.size
          right
          omega)
      clear o5 g5 b5 hs5 hm5 HBA HO2 HS hk2 HM HB2
      obtain ⟨N, hN⟩ : ∃ N, l'.length + sevens.length = N := ⟨_, rfl⟩
      have hN2 : l'.length ≤ N ∧ N ≤ 140737488355328 := by have : sevens.length = 8 := rfl; omega
      obtain ⟨hN3, hN4⟩ := hN2
      rw [hN] at HM5 ⊢
      clear hN C3 C1
      go_wp2_with fail
      go_loopg [8] (N - l'.length) (fun g iv wr => ∃ k : Nat, k + g = N ∧ iv = .int .i64 k ∧ Hid (Mk base (Value.slice ab l'.length c).ownBlock w wr aA l cA ar N cr))
      case atStart => exact ⟨l'.length, by omega, rfl, HM5⟩
      case round =>
        obtain ⟨k, hkg, rfl, HM⟩ := hrel
        have HG := Lib.hid hkg
        have hk : k ≤ N := by omega
        clear hkg
        by_cases hlt : k < N
        · obtain ⟨g, x, rfl, hg1, hg2, c0, f0⟩ := HM.out.cell hlt
          have hx := xor_byte x
          have HN := Lib.hid (HM.out.put (HW5.out g rfl) (fun h p hp => HD5.out h p _ hp rfl) k (x ^^^ 85))
          go_wp2_with fail
          go_roundg (N - (k + 1))
          case measure => have := HG.out; omega
          case rel => exact ⟨k + 1, by omega, by go_num, HN⟩
        · have hk2 := to_string HM.out.bs
          go_wp2_with fail
          go_ret
          exact ⟨rfl, HM.out.below, HM.out.gr, HM.out.bs⟩

end Go.Proofs.YtidflagmdabfaaaGreatDoor.NumA
