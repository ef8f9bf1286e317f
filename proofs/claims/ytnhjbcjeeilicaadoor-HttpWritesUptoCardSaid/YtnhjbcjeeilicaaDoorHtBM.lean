/-
  Fields appended to fields of the call's own; the walk of the law HttpWrites.
-/
import Derived.Test.YtnhjbcjeeilicaaDoorHtBL
import Derived.Test.YtnhjbcjeeilicaaDoorHtN
import Derived.Test.YtnhjbcjeeilicaaDoorHtBJ
import Derived.Deep.RegionHeld3
import Derived.Deep.DrawnRows
namespace Go.Proofs.YtnhjbcjeeilicaaDoor.HtBM
open Go.RowKit Go.Proofs.YtnhjbcjeeilicaaDoor Go.Proofs.YtnhjbcjeeilicaaDoor.Ht Go.Proofs.YtnhjbcjeeilicaaDoor.HtW Go.Proofs.YtnhjbcjeeilicaaDoor.HtJ Go.Proofs.YtnhjbcjeeilicaaDoor.HtK Go.Proofs.YtnhjbcjeeilicaaDoor.HtL Go.Proofs.YtnhjbcjeeilicaaDoor.HtN Go.Proofs.YtnhjbcjeeilicaaDoor.HtC Go.Proofs.YtnhjbcjeeilicaaDoor.HtBL Go.Proofs.YtnhjbcjeeilicaaDoor.HtBJ

attribute [local go_sem ↓] Go.wp_at_zero Go.wp_at_succ
/-- append: fields onto fields -/
theorem run_append_flds (w : World) (base : Nat) (v : Value) (l r : List Fld) (hown : w.ownsRow base 30 2 v l.length (fcells l)) (aR : Option Addr) (cR : Nat) (hF : Fs w aR r) (hn : aR = none → r.length = 0 ∧ cR = 0) (hbase : base ≤ w.heap.size) (hlen : l.length + r.length ≤ 4294967300) (ty : TypeId) :
    ∃ ar cr w', (Builtin.append_ #[22, 22] ty #[v, .slice aR r.length cR]).run Tryd.prog w = .ok (.slice ar (l.length + r.length) cr) w' ∧ w'.ownsRow base 30 2 (.slice ar (l.length + r.length) cr) (l ++ r).length (fcells (l ++ r)) ∧ w.grownBy w' v.ownBlock ∧ Below base w w' := by
  obtain ⟨i0, hi, hz0, hz1, hz2⟩ := info_parts infoField
  have happ : fcells (l ++ r) = fcells l ++ fcells r := by simp [fcells]
  cases aR with
  | none =>
    obtain ⟨h0, rfl⟩ := hn rfl
    have hr : r = [] := List.eq_nil_of_length_eq_zero h0
    subst hr
    have hrun := run_append_owned_none (P := Tryd.prog) w base 22 ty 30 i0 2 Tryd.underlying22 hi v l.length (fcells l) hown
    obtain ⟨a, c, rfl, _, _⟩ := fs_of_own hown
    exact ⟨a, c, w, hrun, by simpa using hown, ⟨rfl, rfl, rfl, Nat.le_refl _, fun _ _ _ => rfl⟩, Below.refl _ _⟩
  | some p =>
    obtain ⟨v', w', h1, h2, h3, _⟩ := run_append_own (P := Tryd.prog) w base 22 ty 30 i0 _ 2 32 Tryd.underlying22 hi hz0 hz1 hz2 rfl (by decide) v l.length (fcells l) hown p r.length cR (fcells r) (fcells_length r) (Fs.holds hF) (fcells_one r) (by unfold maxLen; omega) (by omega) hbase
    rw [← happ, ← List.length_append] at h2
    obtain ⟨a, c, rfl, _, _⟩ := fs_of_own h2
    rw [List.length_append] at h1
    refine ⟨a, c, w', h1, by rw [← List.length_append]; exact h2, h3, (Below.refl base w).grown h3 hbase fun k hk => ?_⟩
    exact (hown.lt k hk).1
theorem wpList_append_flds {ops : Array Oper} {rest : List Oper} {o : Oper} {a : Act} {Q : Exit → Act → World → Prop} (w : World) (hg : o.guard = none) (s x : Operand) (hop : o.op = Op.call { callee := Callee.builtin Builtin.append, args := #[s, x], argTypes := #[22, 22] })
    (base n : Nat) (v : Value) (l r : List Fld) (hown : w.ownsRow base 30 2 v l.length (fcells l)) (aR : Option Addr) (cR : Nat) (hF : Fs w aR r) (hn : aR = none → r.length = 0 ∧ cR = 0) (hbase : base ≤ w.heap.size) (hlen : l.length + r.length ≤ 4294967300)
    (hN : n = l.length + r.length) (hs : a.eval s = v) (hx : a.eval x = .slice aR r.length cR)
    (hK : ∀ ar cr w', w'.ownsRow base 30 2 (.slice ar n cr) (l ++ r).length (fcells (l ++ r)) → w.grownBy w' v.ownBlock → Below base w w' → wpList Tryd.prog ops Q rest (a.put o.dst (.slice ar n cr)) w') :
    wpList Tryd.prog ops Q (o :: rest) a w := by
  subst hN
  refine wpList_plain hg fun K hK' => ?_
  obtain ⟨ar, cr, w', hrun, h1, h2, h3⟩ := run_append_flds w base v l r hown aR cR hF hn hbase hlen o.type
  unfold Oper.wp
  simp [execOp, hop, resolve, invoke, builtin, hs, hx, hrun, Result.andThen]
  exact hK' _ _ (hK ar cr w' h1 h2 h3)
abbrev kept : List UInt8 := [107, 101, 112, 116]
theorem one_fs (w : World) (n v : List UInt8) (B : Nat) (hB : B = w.heap.size) : Fs (w.alloc (.cells #[.string ⟨n.toArray⟩, .string ⟨v.toArray⟩] 30)) (some ⟨B, 0, none⟩) [(n, v)] := by
  subst hB
  refine .inr ⟨w.heap.size, 0, rfl, by simp, fun j p hj => ?_⟩
  match j, hj with
  | 0, hj =>
    simp only [List.getElem?_cons_zero, Option.some.injEq] at hj
    subst hj
    exact ⟨by rw [Lib.cell_of_heap (heap_alloc_new _ _)]; rfl, by rw [Lib.cell_of_heap (heap_alloc_new _ _)]; rfl⟩

theorem Sq.put {B : Nat} {w : World} {v0 v1 v2 : Value} (h : Sq B w v0 v1 v2) (a b c : Value) : Sq B (((w.setCell ⟨B, 0, none⟩ a).setCell ⟨B, 1, none⟩ b).setCell ⟨B, 2, none⟩ c) a b c := by
  unfold Sq at h ⊢
  simp only [World.setCell, Array.getElem?_modify, if_true, h]; rfl
theorem fs_prefix {w : World} {a : Option Addr} {l r : List Fld} (h : Fs w a (l ++ r)) : Fs w a l := by
  rcases h with h | ⟨b, o, h1, h2, h3⟩
  · exact .inl (List.append_eq_nil_iff.1 h).1
  · exact .inr ⟨b, o, h1, h2, fun j p hj => h3 j p (by rw [List.getElem?_append_left (List.getElem?_eq_some_iff.1 hj).1]; exact hj)⟩
theorem own_base {w : World} {b b' : Nat} {e : TypeId} {s n : Nat} {v : Value} {xs : List Value} (h : w.ownsRow b e s v n xs) (hb : b' ≤ b) : w.ownsRow b' e s v n xs := by
  refine ⟨h.1, h.2.imp id ?_⟩
  rintro ⟨g', cap, cur, q1, q2, q3⟩
  exact ⟨g', cap, cur, q1, Nat.le_trans hb q2, q3⟩
theorem bcell {W w1 : World} (hb : Below W.heap.size W w1) : (∀ b o, b < W.heap.size → w1.cell? ⟨b, o, none⟩ = W.cell? ⟨b, o, none⟩) ∧ (∀ b o, b < W.heap.size → w1.frozen? ⟨b, o, none⟩ = W.frozen? ⟨b, o, none⟩) :=
  ⟨fun b o h => hb.cell (p := ⟨b, o, none⟩) h, fun b o h => hb.frozen (p := ⟨b, o, none⟩) h⟩
/-- a copy of bytes, while a response's box is read -/
theorem bytesC (W0 : World) (B : Nat) (v0 v1 v2 : Value) (l : List UInt8) {a : Option Addr} (c : Nat) (w : World) (hb : Bs W0 a l c) (hl : l.length ≤ 140737488351232) (hc : Below W0.heap.size W0 w) (h0 : w.cell? ⟨B, 0, none⟩ = some v0) (h1 : w.cell? ⟨B, 1, none⟩ = some v1) (h2 : w.cell? ⟨B, 2, none⟩ = some v2) :
    Calls Tryd.prog 14 #[.slice a l.length c] w fun e w' => (∃ g c', e = .returned (.slice (some ⟨g, 0, none⟩) l.length c') ∧ w'.ownsRow w.heap.size 5 1 (.slice (some ⟨g, 0, none⟩) l.length c') l.length (Lib.byteCells l)) ∧ (w'.cell? ⟨B, 0, none⟩ = some v0 ∧ w'.cell? ⟨B, 1, none⟩ = some v1 ∧ w'.cell? ⟨B, 2, none⟩ = some v2) ∧ Below w.heap.size w w' := by
  refine (Num.bytes l w (hb.below hc) hl).mono ?_
  rintro e w1 ⟨⟨g, c', rfl, ho⟩, hb1⟩
  exact ⟨⟨g, c', rfl, Num.own_prefix ho⟩, ⟨(hb1.cell (World.block_lt_of_cell? w _ h0)).trans h0, (hb1.cell (World.block_lt_of_cell? w _ h1)).trans h1, (hb1.cell (World.block_lt_of_cell? w _ h2)).trans h2⟩, hb1⟩

/-- bytes, as a string -/
abbrev Conv (w : World) (v : Value) (l : List UInt8) : Prop := (convert 23 9 v).run Tryd.prog w = .ok (.string ⟨l.toArray⟩) w
theorem rwriteC (W0 : World) (st : Int) (fs : List Fld) (bd : List UInt8) {a ab : Option Addr} (c cb : Nat) (w : World) (h0 : -9223372036854775808 ≤ st) (h1 : st ≤ 9223372036854775807) (hf : Fs W0 a fs) (hb : Bs W0 ab bd cb) (hl : (wr st fs bd).length ≤ 4294967296) (hfl : fs.length ≤ 4294967296) (hc : Below W0.heap.size W0 w) :
    Calls Tryd.prog 16 #[.agg #[.int .i64 st, .slice a fs.length c, .slice ab bd.length cb]] w fun e w' => (∃ ar cr, e = .returned (.slice ar (wr st fs bd).length cr) ∧ Conv w' (.slice ar (wr st fs bd).length cr) (wr st fs bd)) ∧ Below W0.heap.size W0 w' := by
  refine (rwrite st fs bd c cb w h0 h1 (hf.below hc) (hb.below hc) hl hfl).mono ?_
  rintro e w1 ⟨⟨ar, cr, rfl, hb1⟩, hb2⟩
  exact ⟨⟨ar, cr, rfl, to_string hb1⟩, hc.trans (hb2.mono hc.size)⟩
theorem sameC (W0 : World) (st : Int) (fs : List Fld) (bd : List UInt8) {a ab a' ab' : Option Addr} (c cb c' cb' : Nat) (w : World) (hf : Fs W0 a fs) (hb : Bs W0 ab bd cb) (hf' : Fs W0 a' fs) (hb' : Bs W0 ab' bd cb') (hfl : fs.length ≤ 9223372036854775807) (hc : Below W0.heap.size W0 w) :
    Calls Tryd.prog 17 #[.agg #[.int .i64 st, .slice a fs.length c, .slice ab bd.length cb], .agg #[.int .i64 st, .slice a' fs.length c', .slice ab' bd.length cb']] w fun e w' => e = .returned (.bool true) ∧ Below W0.heap.size W0 w' := by
  refine (sameRes st fs bd c cb c' cb' w (hf.below hc) (hb.below hc) (hf'.below hc) (hb'.below hc) hfl).mono ?_
  rintro e w1 ⟨rfl, hb2⟩
  exact ⟨rfl, hc.trans (hb2.mono hc.size)⟩
theorem apartC (W0 : World) (base g : Nat) (l l' : List UInt8) {aA : Option Addr} (cA c : Nat) (w : World) (hA : Bs W0 aA l cA) (hb : W0.ownsRow base 5 1 (.slice (some ⟨g, 0, none⟩) l'.length c) l'.length (Lib.byteCells l')) (hd : ∀ p, aA = some p → p.block ≠ g) (hl : l'.length ≤ 140737488351232) (hbase : base ≤ W0.heap.size) (hc : Below W0.heap.size W0 w) :
    Calls Tryd.prog 18 #[.slice aA l.length cA, .slice (some ⟨g, 0, none⟩) l'.length c] w fun e w' => e = .returned (.bool true) ∧ Below base W0 w' ∧ (∀ b, b < W0.heap.size → b ≠ g → w'.heap[b]? = W0.heap[b]?) ∧ Bs w' aA l cA := by
  refine (Num.apart l l' base w (hA.below hc) (Com.own_below hb hc) (fun p q hp hq => by cases hq; exact hd p hp) hl (Nat.le_trans hbase hc.size)).mono ?_
  rintro e w1 ⟨rfl, hb2, hg, hbs⟩
  exact ⟨rfl, (hc.mono hbase).trans hb2, fun b hb hn => (hg.block b (Nat.lt_of_lt_of_le hb hc.size) (by simp [Value.ownBlock]; exact hn)).trans (hc.block b hb), hbs⟩

set_option maxHeartbeats 4000000 in
set_option maxRecDepth 100000 in
theorem writes (st : Int) (fs : List Fld) (bd : List UInt8) {a ab : Option Addr} (c cb : Nat) (w : World) {aR aL : Addr} (h0 : -9223372036854775808 ≤ st) (h1 : st ≤ 9223372036854775807) (hf : Fs w a fs) (hn : a = none → fs.length = 0 ∧ c = 0) (hb : Bs w ab bd cb) (hl : (wr st fs bd).length ≤ 4294967296) (hfl : fs.length ≤ 4294967200) (hbl : bd.length ≤ 4294967296) (hm : Mx w) (he : Errs w aR aL) (ht : Tab w) :
    Calls Tryd.prog 4 #[.agg #[.int .i64 st, .slice a fs.length c, .slice ab bd.length cb]] w fun e w' => e = .returned (.bool true) ∧ Below w.heap.size w w' := by
  have HF := Lib.hid hf; clear hf
  have HN := Lib.hid hn; clear hn
  have HB := Lib.hid hb; clear hb
  have HL := Lib.hid hl; clear hl
  have HM := Lib.hid hm; clear hm
  have HE := Lib.hid he; clear he
  have HT := Lib.hid ht; clear ht
  have hbX : Below w.heap.size w (w.alloc (.cells #[.int .i64 st, .slice a fs.length c, .slice ab bd.length cb] 35)) := (Below.refl _ _).alloc (Nat.le_refl _) _
  have hSX : Sq w.heap.size (w.alloc (.cells #[.int .i64 st, .slice a fs.length c, .slice ab bd.length cb] 35)) (.int .i64 st) (.slice a fs.length c) (.slice ab bd.length cb) := heap_alloc_new _ _
  go_enter Tryd.func4, Tryd.ntmps4
  go_wp2_with fail
  generalize w.alloc (.cells #[.int .i64 st, .slice a fs.length c, .slice ab bd.length cb] 35) = X at *
  refine (alive X (HM.out.below hbX) (HE.out.below hbX) (HT.out.below hbX)).mono ?_
  rintro e w1 ⟨rfl, hb1⟩
  have HB1 := Lib.hid (hbX.trans (hb1.mono hbX.size))
  have HS1 := Lib.hid (hSX.below hb1)
  have hz1 := HS1.out.lt
  clear hb1 hbX hSX
  have hal := (Below.refl w1.heap.size w1).alloc (Nat.le_refl _) (.cells #[] 30)
  have HO1 := Lib.hid (own_empty w1 w1.heap.size 30 2 (Nat.le_refl _))
  have HB2 := Lib.hid (HB1.out.trans (hal.mono HB1.out.size))
  have HS2 := Lib.hid (HS1.out.below hal)
  have HA2 := Lib.hid hal
  clear hal
  obtain ⟨x0, x1, x2⟩ := HS2.out.cells
  have C1 : w1.heap.size ≤ (w1.alloc (.cells #[] 30)).heap.size := by simp
  have C2 : ([] : List Fld).length + fs.length ≤ 4294967300 := by simp; omega
  have C3 := Lib.hid (show fs.length = ([] : List Fld).length + fs.length by simp)
  go_wp2_with (first
    | (at_builtin; refine wpList_append_flds _ rfl (.tmp 8) (.tmp 10) rfl w1.heap.size fs.length (.slice (some ⟨w1.heap.size, 0, none⟩) 0 0) [] fs HO1.out a c (HF.out.below HB2.out) HN.out C1 C2 C3.out rfl rfl ?_; rintro a3 c3 w3 o3 g3 b3; rw [List.nil_append] at o3; have HO3 := Lib.hid (o3.alloc (.cells #[.string ⟨kept.toArray⟩, .string ⟨kept.toArray⟩] 30)); have HB3 := Lib.hid (HA2.out.trans b3); have HF3 := Lib.hid (one_fs w3 kept kept _ rfl); clear o3 g3 b3; have C4 : w1.heap.size ≤ (w3.alloc (.cells #[.string ⟨kept.toArray⟩, .string ⟨kept.toArray⟩] 30)).heap.size := (by have := HB3.out.size; simp; omega))
    | (at_builtin; refine wpList_append_flds _ rfl (.tmp 11) (.tmp 13) rfl w1.heap.size (fs.length + 1) _ fs [(kept, kept)] HO3.out (some ⟨w3.heap.size, 0, none⟩) 1 HF3.out (fun h => by cases h) C4 (by simp; omega) rfl rfl rfl ?_; rintro a5 c5 w5 o5 g5 b5; have HO5 := Lib.hid o5; have HB5 := Lib.hid ((HB3.out.alloc HB3.out.size _).trans b5); clear o5 g5 b5))
  have hz5 := HB5.out.size
  obtain ⟨g, rfl, hcap⟩ : ∃ g, a5 = some ⟨g, 0, none⟩ ∧ fs.length + 1 ≤ c5 := by
    rcases HO5.out.2 with ⟨hv, h⟩ | ⟨g, cap, cur, hv, _, _, hn, _⟩
    · simp at h
    · simp only [Value.slice.injEq] at hv
      obtain ⟨rfl, -, rfl⟩ := hv
      exact ⟨g, rfl, by simpa using hn⟩
  have hcf : ¬ c5 = 0 := by omega
  have z1 : (fs.length : Int) ≤ c5 := by omega
  have HS5 := Lib.hid (HS1.out.below HB5.out)
  have HW5 := Lib.hid (HB1.out.trans (HB5.out.mono HB1.out.size))
  clear HS1 HS2 HB2 HA2 HO1 HO3 HB3 HF3 C1 C2 C3 C4 x0 x1 x2 HB5 HB1
  obtain ⟨x0, x1, x2⟩ := HS5.out.cells
  have hW5 : Below w5.heap.size w5 w5 := Below.refl _ _
  have hlt5 := HS5.out.lt
  have n1 : ¬ w.heap.size = w5.heap.size := by omega
  have n2 : ¬ w5.heap.size = w.heap.size := by omega
  have hW5a : Below w5.heap.size w5 (w5.alloc (.cells #[.int .i64 0, .slice none 0 0, .slice none 0 0] 35)).drew := (hW5.alloc (Nat.le_refl _) _).drew
  have hB5 := HB.out.below HW5.out
  have hbl2 : bd.length ≤ 140737488351232 := by omega
  go_region_held3 (fun W => W.cell? ⟨w.heap.size, 0, none⟩ = some (.int .i64 st) ∧ W.cell? ⟨w.heap.size, 1, none⟩ = some (.slice a fs.length c) ∧ W.cell? ⟨w.heap.size, 2, none⟩ = some (.slice ab bd.length cb))
    (first | exact ⟨x0, x1, x2⟩ | go_keep)
    ((go_at_call 14; refine (bytesC w5 w.heap.size (.int .i64 st) (.slice a fs.length c) (.slice ab bd.length cb) bd cb _ hB5 hbl2 ?_ ?_ ?_ ?_).mono ?_; (first | assumption | exact hW5 | exact hW5.drew | exact hW5a); (simp [*]); (simp [*]); (simp [*]); rintro e w6 ⟨⟨gb, c6, rfl, o6⟩, k6, t6⟩; obtain ⟨hc6, hf6⟩ := bcell t6))
  · have hS7 : Sq w6.heap.size (w6.alloc (.cells #[.int .i64 st, .slice (some ⟨g, 0, none⟩) fs.length c5, .slice (some ⟨gb, 0, none⟩) bd.length c6] 35)) (.int .i64 st) (.slice (some ⟨g, 0, none⟩) fs.length c5) (.slice (some ⟨gb, 0, none⟩) bd.length c6) := heap_alloc_new _ _
    have hb6 : Below w5.heap.size w5 w6 := hW5.drew.trans t6
    have hB7 := hb6.alloc hb6.size (.cells #[.int .i64 st, .slice (some ⟨g, 0, none⟩) fs.length c5, .slice (some ⟨gb, 0, none⟩) bd.length c6] 35)
    have hO7 : World.ownsRow _ w5.heap.size 5 1 _ _ _ := o6.alloc (.cells #[.int .i64 st, .slice (some ⟨g, 0, none⟩) fs.length c5, .slice (some ⟨gb, 0, none⟩) bd.length c6] 35)
    have hne : w6.heap.size ≠ gb := by have := (o6.lt gb rfl).2; omega
    clear hc6 hf6 k6 t6 o6 hb6
    revert hS7 hB7 hO7 hne
    generalize w6.alloc (.cells #[.int .i64 st, .slice (some ⟨g, 0, none⟩) fs.length c5, .slice (some ⟨gb, 0, none⟩) bd.length c6] 35) = W7
    generalize w6.heap.size = B7
    intro hS7 hB7 hO7 hne
    have hgo := (hO7.lt gb rfl)
    obtain ⟨aK, cK, hvK, -, hfK⟩ := fs_of_own HO5.out
    simp only [Value.slice.injEq] at hvK
    obtain ⟨rfl, -, rfl⟩ := hvK
    obtain ⟨bk, ok, hbk, hlk, n0, -⟩ := Fs.at hfK (k := fs.length) (q := (kept, kept)) (by simp)
    cases hbk
    rw [Nat.zero_add] at n0
    have HNM := Lib.hid ((hB7.cell (p := ⟨g, _, none⟩) hlk).trans n0)
    have HF7 := Lib.hid ((fs_prefix hfK).below hB7)
    have HBd := Lib.hid (HtX.bs_own hO7).1
    have HO7 := Lib.hid hO7
    have HW7 := Lib.hid (HW5.out.trans (hB7.mono HW5.out.size))
    have HR7 := Lib.hid (HS5.out.below hB7)
    have HS7 := Lib.hid hS7
    have hz7 := hB7.size
    have hgg : g ≠ gb := by have := hgo.1; omega
    have hgs : g < W7.heap.size := Nat.lt_of_lt_of_le hlk hz7
    have hrg : w.heap.size ≠ gb := by have := hgo.1; omega
    clear hS7 hB7 hO7 x0 x1 x2 hfK n0 hB5 hW5 hW5a
    obtain ⟨x0, x1, x2⟩ := HS7.out.cells
    go_wp2_with fail
    refine (write st fs bd W7 h0 h1 (HT.out.below HW7.out) HF7.out (fun h => by cases h) (by omega) HBd.out (by omega) (by omega) (by have := HL.out; omega)).mono ?_
    rintro e w8 ⟨⟨ar, cr, rfl, hbs8, hfr⟩, hb8⟩
    have HW8 := Lib.hid (HW7.out.trans (hb8.mono HW7.out.size))
    have HR8 := Lib.hid (HR7.out.below hb8)
    have HS8 := Lib.hid (HS7.out.below hb8)
    have HNM8 := Lib.hid ((hb8.cell (p := ⟨g, _, none⟩) hgs).trans HNM.out)
    have HO8 := Lib.hid (Com.own_below HO7.out hb8)
    have HF8 := Lib.hid (HF7.out.below hb8)
    have HBd8 := Lib.hid (HBd.out.below hb8)
    have HDis := Lib.hid (show ∀ p, ar = some p → p.block ≠ gb from fun p hp => by have := hfr p hp; have := hgo.2; omega)
    have hz8 := hb8.size
    clear hb8 HW7 HR7 HS7 HNM HO7 HF7 HBd hfr x0 x1 x2
    have hrw := fun W => rwriteC w8 st fs bd c cb W h0 h1 (HF.out.below HW8.out) (HB.out.below HW8.out) HL.out (by omega)
    obtain ⟨T, hT⟩ : ∃ T, wr st fs bd = T := ⟨_, rfl⟩
    rw [hT] at hrw hbs8 ⊢
    have HRW := Lib.hid hrw
    clear hrw hT
    have hg8 : g < w8.heap.size := by omega
    have HSall2 : ∀ W : World, (∀ b, b < w8.heap.size → b ≠ gb → W.heap[b]? = w8.heap[b]?) → Bs W ar T cr → (W.cell? ⟨w.heap.size, 0, none⟩ = some (.int .i64 st) ∧ W.cell? ⟨w.heap.size, 1, none⟩ = some (.slice a fs.length c) ∧ W.cell? ⟨w.heap.size, 2, none⟩ = some (.slice ab bd.length cb)) ∧ (W.cell? ⟨B7, 0, none⟩ = some (.int .i64 st) ∧ W.cell? ⟨B7, 1, none⟩ = some (.slice (some ⟨g, 0, none⟩) fs.length c5) ∧ W.cell? ⟨B7, 2, none⟩ = some (.slice (some ⟨gb, 0, none⟩) bd.length c6)) ∧ W.cell? ⟨g, fs.length * 2, none⟩ = some (.string ⟨kept.toArray⟩) ∧ Conv W (.slice ar T.length cr) T := by
      intro W hW hbs
      have e1 : ∀ o, W.cell? ⟨w.heap.size, o, none⟩ = w8.cell? ⟨w.heap.size, o, none⟩ := fun o => World.cell?_of_block (a := ⟨w.heap.size, o, none⟩) (hW _ HR8.out.lt hrg)
      have e2 : ∀ o, W.cell? ⟨B7, o, none⟩ = w8.cell? ⟨B7, o, none⟩ := fun o => World.cell?_of_block (a := ⟨B7, o, none⟩) (hW _ HS8.out.lt hne)
      have e3 : ∀ o, W.cell? ⟨g, o, none⟩ = w8.cell? ⟨g, o, none⟩ := fun o => World.cell?_of_block (a := ⟨g, o, none⟩) (hW _ hg8 hgg)
      obtain ⟨r0, r1, r2⟩ := HR8.out.cells
      obtain ⟨s0, s1, s2⟩ := HS8.out.cells
      exact ⟨⟨(e1 0).trans r0, (e1 1).trans r1, (e1 2).trans r2⟩, ⟨(e2 0).trans s0, (e2 1).trans s1, (e2 2).trans s2⟩, (e3 _).trans HNM8.out, to_string hbs⟩
    have HSall := Lib.hid (fun (W : World) (hW : Below w8.heap.size w8 W) => HSall2 W (fun b hb _ => hW.block b hb) (hbs8.below hW))
    have HS2 := Lib.hid HSall2
    clear HSall2
    have HBS8 := Lib.hid hbs8
    clear hbs8
    have hW8 : Below w8.heap.size w8 w8 := Below.refl _ _
    have hW8d : Below w8.heap.size w8 w8.drew := hW8.drew
    have i1 : (0 : Int) ≤ (fs.length : Int) := by omega
    have i2 : (fs.length : Int) < (fs.length : Int) + 1 := by omega
    have i3 : fs.length < fs.length + 1 := by omega
    have l5 : w5.heap.size ≤ w8.heap.size := by omega
    have l6 : bd.length ≤ 140737488351232 := by omega
    have l7 : fs.length ≤ 9223372036854775807 := by omega
    clear hz7 hz8 hlk hgs hz5 hlt5
    go_wp2_with fail
    obtain ⟨⟨r0, r1, r2⟩, ⟨s0, s1, s2⟩, n8, k8⟩ := HSall.out _ hW8d
    go_region_law
      (first
        | (go_simp; go_at_call 16; refine (HRW.out _ ?_).mono ?_; (assumption); rintro e w9 ⟨⟨a9, c9, rfl, k9⟩, t9⟩; obtain ⟨⟨r0, r1, r2⟩, ⟨s0, s1, s2⟩, n9, k8⟩ := HSall.out _ t9; go_wp2_with fail)
        | (go_simp; go_at_call 17; refine (sameC w8 st fs bd c5 c6 c cb _ HF8.out HBd8.out (HF.out.below HW8.out) (HB.out.below HW8.out) l7 ?_).mono ?_; (assumption); rintro e w10 ⟨rfl, t10⟩; obtain ⟨⟨r0, r1, r2⟩, ⟨s0, s1, s2⟩, n9, k8⟩ := HSall.out _ t10; go_wp2_with fail)
        | (go_simp; go_at_call 18; refine (apartC w8 w5.heap.size gb T bd cr c6 _ HBS8.out HO8.out HDis.out l6 l5 ?_).mono ?_; (assumption); rintro e w11 ⟨rfl, t11, u11, v11⟩; go_wp2_with fail))
    all_goals
      go_wp2_with fail
      go_ret
      exact ⟨rfl, HW8.out.trans (t11.mono HW5.out.size)⟩
  · have hS7 := Sq.put (show Sq w5.heap.size w6 (.int .i64 0) (.slice none 0 0) (.slice none 0 0) from (t6.block w5.heap.size (by simp)).trans (heap_alloc_new _ _)) (.int .i64 st) (.slice (some ⟨g, 0, none⟩) fs.length c5) (.slice (some ⟨gb, 0, none⟩) bd.length c6)
    have hb6 : Below w5.heap.size w5 w6 := hW5a.trans (t6.mono hW5a.size)
    have hB7 := ((hb6.setCell (p := ⟨w5.heap.size, 0, none⟩) (Nat.le_refl _) (.int .i64 st)).setCell (p := ⟨w5.heap.size, 1, none⟩) (Nat.le_refl _) (.slice (some ⟨g, 0, none⟩) fs.length c5)).setCell (p := ⟨w5.heap.size, 2, none⟩) (Nat.le_refl _) (.slice (some ⟨gb, 0, none⟩) bd.length c6)
    have hlo := (o6.lt gb rfl).1
    have hsz : (w5.alloc (.cells #[.int .i64 0, .slice none 0 0, .slice none 0 0] 35)).drew.heap.size = w5.heap.size + 1 := World.size_alloc _ _
    rw [hsz] at hlo o6
    have hO7 := own_base (ownsRow_setCell_below (ownsRow_setCell_below (ownsRow_setCell_below o6 (a := ⟨w5.heap.size, 0, none⟩) (Nat.lt_succ_self _) (.int .i64 st)) (a := ⟨w5.heap.size, 1, none⟩) (Nat.lt_succ_self _) (.slice (some ⟨g, 0, none⟩) fs.length c5)) (a := ⟨w5.heap.size, 2, none⟩) (Nat.lt_succ_self _) (.slice (some ⟨gb, 0, none⟩) bd.length c6)) (Nat.le_succ _)
    have hne : w5.heap.size ≠ gb := by omega
    clear hc6 hf6 k6 t6 o6 hb6 hlo hsz
    revert hS7 hB7 hO7 hne
    generalize (((w6.setCell ⟨w5.heap.size, 0, none⟩ (.int .i64 st)).setCell ⟨w5.heap.size, 1, none⟩ (.slice (some ⟨g, 0, none⟩) fs.length c5)).setCell ⟨w5.heap.size, 2, none⟩ (.slice (some ⟨gb, 0, none⟩) bd.length c6)) = W7
    obtain ⟨B7, hB7e⟩ : ∃ B7, B7 = w5.heap.size := ⟨_, rfl⟩
    intro hS7 hB7 hO7 hne
    have hgo := (hO7.lt gb rfl)
    obtain ⟨aK, cK, hvK, -, hfK⟩ := fs_of_own HO5.out
    simp only [Value.slice.injEq] at hvK
    obtain ⟨rfl, -, rfl⟩ := hvK
    obtain ⟨bk, ok, hbk, hlk, n0, -⟩ := Fs.at hfK (k := fs.length) (q := (kept, kept)) (by simp)
    cases hbk
    rw [Nat.zero_add] at n0
    have HNM := Lib.hid ((hB7.cell (p := ⟨g, _, none⟩) hlk).trans n0)
    have HF7 := Lib.hid ((fs_prefix hfK).below hB7)
    have HBd := Lib.hid (HtX.bs_own hO7).1
    have HO7 := Lib.hid hO7
    have HW7 := Lib.hid (HW5.out.trans (hB7.mono HW5.out.size))
    have HR7 := Lib.hid (HS5.out.below hB7)
    have HS7 := Lib.hid hS7
    have hz7 := hB7.size
    have hgg : g ≠ gb := by have := hgo.1; omega
    have hgs : g < W7.heap.size := Nat.lt_of_lt_of_le hlk hz7
    have hrg : w.heap.size ≠ gb := by have := hgo.1; omega
    clear hS7 hB7 hO7 x0 x1 x2 hfK n0 hB5 hW5 hW5a
    obtain ⟨x0, x1, x2⟩ := HS7.out.cells
    go_wp2_with fail
    refine (write st fs bd W7 h0 h1 (HT.out.below HW7.out) HF7.out (fun h => by cases h) (by omega) HBd.out (by omega) (by omega) (by have := HL.out; omega)).mono ?_
    rintro e w8 ⟨⟨ar, cr, rfl, hbs8, hfr⟩, hb8⟩
    have HW8 := Lib.hid (HW7.out.trans (hb8.mono HW7.out.size))
    have HR8 := Lib.hid (HR7.out.below hb8)
    have HS8 := Lib.hid (HS7.out.below hb8)
    have HNM8 := Lib.hid ((hb8.cell (p := ⟨g, _, none⟩) hgs).trans HNM.out)
    have HO8 := Lib.hid (Com.own_below HO7.out hb8)
    have HF8 := Lib.hid (HF7.out.below hb8)
    have HBd8 := Lib.hid (HBd.out.below hb8)
    have HDis := Lib.hid (show ∀ p, ar = some p → p.block ≠ gb from fun p hp => by have := hfr p hp; have := hgo.2; omega)
    have hz8 := hb8.size
    clear hb8 HW7 HR7 HS7 HNM HO7 HF7 HBd hfr x0 x1 x2
    have hrw := fun W => rwriteC w8 st fs bd c cb W h0 h1 (HF.out.below HW8.out) (HB.out.below HW8.out) HL.out (by omega)
    obtain ⟨T, hT⟩ : ∃ T, wr st fs bd = T := ⟨_, rfl⟩
    rw [hT] at hrw hbs8 ⊢
    have HRW := Lib.hid hrw
    clear hrw hT
    have hg8 : g < w8.heap.size := by omega
    have HSall2 : ∀ W : World, (∀ b, b < w8.heap.size → b ≠ gb → W.heap[b]? = w8.heap[b]?) → Bs W ar T cr → (W.cell? ⟨w.heap.size, 0, none⟩ = some (.int .i64 st) ∧ W.cell? ⟨w.heap.size, 1, none⟩ = some (.slice a fs.length c) ∧ W.cell? ⟨w.heap.size, 2, none⟩ = some (.slice ab bd.length cb)) ∧ (W.cell? ⟨w5.heap.size, 0, none⟩ = some (.int .i64 st) ∧ W.cell? ⟨w5.heap.size, 1, none⟩ = some (.slice (some ⟨g, 0, none⟩) fs.length c5) ∧ W.cell? ⟨w5.heap.size, 2, none⟩ = some (.slice (some ⟨gb, 0, none⟩) bd.length c6)) ∧ W.cell? ⟨g, fs.length * 2, none⟩ = some (.string ⟨kept.toArray⟩) ∧ Conv W (.slice ar T.length cr) T := by
      intro W hW hbs
      have e1 : ∀ o, W.cell? ⟨w.heap.size, o, none⟩ = w8.cell? ⟨w.heap.size, o, none⟩ := fun o => World.cell?_of_block (a := ⟨w.heap.size, o, none⟩) (hW _ HR8.out.lt hrg)
      have e2 : ∀ o, W.cell? ⟨w5.heap.size, o, none⟩ = w8.cell? ⟨w5.heap.size, o, none⟩ := fun o => World.cell?_of_block (a := ⟨w5.heap.size, o, none⟩) (hW _ HS8.out.lt hne)
      have e3 : ∀ o, W.cell? ⟨g, o, none⟩ = w8.cell? ⟨g, o, none⟩ := fun o => World.cell?_of_block (a := ⟨g, o, none⟩) (hW _ hg8 hgg)
      obtain ⟨r0, r1, r2⟩ := HR8.out.cells
      obtain ⟨s0, s1, s2⟩ := HS8.out.cells
      exact ⟨⟨(e1 0).trans r0, (e1 1).trans r1, (e1 2).trans r2⟩, ⟨(e2 0).trans s0, (e2 1).trans s1, (e2 2).trans s2⟩, (e3 _).trans HNM8.out, to_string hbs⟩
    have HSall := Lib.hid (fun (W : World) (hW : Below w8.heap.size w8 W) => HSall2 W (fun b hb _ => hW.block b hb) (hbs8.below hW))
    have HS2 := Lib.hid HSall2
    clear HSall2
    have HBS8 := Lib.hid hbs8
    clear hbs8
    have hW8 : Below w8.heap.size w8 w8 := Below.refl _ _
    have hW8d : Below w8.heap.size w8 w8.drew := hW8.drew
    have i1 : (0 : Int) ≤ (fs.length : Int) := by omega
    have i2 : (fs.length : Int) < (fs.length : Int) + 1 := by omega
    have i3 : fs.length < fs.length + 1 := by omega
    have l5 : w5.heap.size ≤ w8.heap.size := by omega
    have l6 : bd.length ≤ 140737488351232 := by omega
    have l7 : fs.length ≤ 9223372036854775807 := by omega
    clear hz7 hz8 hlk hgs hz5 hlt5
    go_wp2_with fail
    obtain ⟨⟨r0, r1, r2⟩, ⟨s0, s1, s2⟩, n8, k8⟩ := HSall.out _ hW8d
    go_region_law
      (first
        | (go_simp; go_at_call 16; refine (HRW.out _ ?_).mono ?_; (assumption); rintro e w9 ⟨⟨a9, c9, rfl, k9⟩, t9⟩; obtain ⟨⟨r0, r1, r2⟩, ⟨s0, s1, s2⟩, n9, k8⟩ := HSall.out _ t9; go_wp2_with fail)
        | (go_simp; go_at_call 17; refine (sameC w8 st fs bd c5 c6 c cb _ HF8.out HBd8.out (HF.out.below HW8.out) (HB.out.below HW8.out) l7 ?_).mono ?_; (assumption); rintro e w10 ⟨rfl, t10⟩; obtain ⟨⟨r0, r1, r2⟩, ⟨s0, s1, s2⟩, n9, k8⟩ := HSall.out _ t10; go_wp2_with fail)
        | (go_simp; go_at_call 18; refine (apartC w8 w5.heap.size gb T bd cr c6 _ HBS8.out HO8.out HDis.out l6 l5 ?_).mono ?_; (assumption); rintro e w11 ⟨rfl, t11, u11, v11⟩; go_wp2_with fail))
    all_goals
      go_wp2_with fail
      go_ret
      exact ⟨rfl, HW8.out.trans (t11.mono HW5.out.size)⟩
end Go.Proofs.YtnhjbcjeeilicaaDoor.HtBM
