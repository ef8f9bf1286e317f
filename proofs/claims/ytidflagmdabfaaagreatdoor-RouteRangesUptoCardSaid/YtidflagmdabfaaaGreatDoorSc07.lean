/-
  The walk of the document's Text. Append of fields onto fields; the walk of the laws' copied. The listed variables of rows that list all eighteen errors. (Printed by mksgz.py.) Keys that came in.
-/
import Derived.Test.YtidflagmdabfaaaGreatDoorSg04
import Derived.Test.YtidflagmdabfaaaGreatDoorSg16
import Derived.Test.YtidflagmdabfaaaGreatDoorSg22
import Derived.Test.YtidflagmdabfaaaGreatDoorSg23
import Derived.Test.YtidflagmdabfaaaGreatDoorSc03
import Derived.Test.YtidflagmdabfaaaGreatDoorSc06
namespace Go.Proofs.YtidflagmdabfaaaGreatDoor.RsT
open Go.RowKit Go.Proofs.YtidflagmdabfaaaGreatDoor Go.Proofs.YtidflagmdabfaaaGreatDoor.HtW Go.Proofs.YtidflagmdabfaaaGreatDoor.HtC Go.Proofs.YtidflagmdabfaaaGreatDoor.Lf Go.Proofs.YtidflagmdabfaaaGreatDoor.App Go.Proofs.YtidflagmdabfaaaGreatDoor.ShaG Go.Proofs.YtidflagmdabfaaaGreatDoor.SgB

/-- a text, or an error's number -/
def rv : Sg.Ans (List UInt8) → Value
  | .no e => .tuple #[.string ⟨#[]⟩, .int .i64 e.num]
  | .ok l => .tuple #[.string ⟨l.toArray⟩, .int .i64 0]

set_option maxHeartbeats 4000000 in
set_option maxRecDepth 100000 in
theorem rtext (m t bd : List UInt8) (fsV : Value) {ab : Option Addr} (cb : Nat) (date : Int) (w : World) (hb : Bs w ab bd cb) (ht : t.length ≤ 16777215) (hm : m.length ≤ 16777216) (hbl : bd.length ≤ 140737488350000) (h0 : -9223372036854775808 ≤ date) (h1 : date ≤ 9223372036854775807) :
    Calls Tryz.prog 37 #[.agg #[.string ⟨m.toArray⟩, .string ⟨t.toArray⟩, fsV, .slice ab bd.length cb], .int .i64 date] w fun e w' => e = .returned (rv (Sg.text m t bd date)) ∧ Below w.heap.size w w' := by
  have HB := Lib.hid hb; clear hb
  have hA := (Below.refl w.heap.size w).alloc (Nat.le_refl _) (.cells #[.string ⟨m.toArray⟩, .string ⟨t.toArray⟩, fsV, .slice ab bd.length cb] 25)
  have hR0 : Rq w.heap.size (w.alloc (.cells #[.string ⟨m.toArray⟩, .string ⟨t.toArray⟩, fsV, .slice ab bd.length cb] 25)) _ _ _ _ := heap_alloc_new w _
  have hts : (ByteArray.mk t.toArray).size ≤ 16777216 := by rw [Com.size_mk]; omega
  have KP := Lib.hid (UriK.parse ⟨t.toArray⟩ (w.alloc (.cells #[.string ⟨m.toArray⟩, .string ⟨t.toArray⟩, fsV, .slice ab bd.length cb] 25)) hts)
  cases hP : Up.parse t with
  | none =>
    have HR := Lib.hid (show Sg.text m t bd date = .no .uri by unfold Sg.text; rw [hP])
    have HP := Lib.hid hP
    clear hP
    go_enter Tryz.func37, Tryz.ntmps37
    go_wp2_with fail
    refine KP.out.mono ?_
    rw [HP.out]
    rintro e w1 ⟨rfl, hb1⟩
    go_wp2_with fail
    go_ret2
    exact ⟨by rw [HR.out]; rfl, (hA.trans (hb1.mono hA.size)).alloc (Nat.le_trans hA.size hb1.size) _⟩
  | some u =>
    have HP := Lib.hid hP
    have HRd := Lib.hid (UriR.parse_read hP)
    by_cases hlo : date < 0
    · have HR := Lib.hid (show Sg.text m t bd date = .no .req by
        unfold Sg.text; rw [hP]; simp only; rw [if_neg]; simp only [Sg.goodDate, Bool.and_eq_true, decide_eq_true_eq]; omega)
      clear hP
      go_enter Tryz.func37, Tryz.ntmps37
      go_wp2_with fail
      refine KP.out.mono ?_
      rw [HP.out]
      rintro e w1 ⟨⟨aq, cq, rfl, -, -⟩, hb1⟩
      go_wp2_with fail
      go_ret2
      exact ⟨by rw [HR.out]; rfl, (hA.trans (hb1.mono hA.size)).alloc (Nat.le_trans hA.size hb1.size) _⟩
    · have hlo' : decide (date < 0) = false := decide_eq_false hlo
      by_cases hhi : 1099511627776 < date
      · have HR := Lib.hid (show Sg.text m t bd date = .no .req by
          unfold Sg.text; rw [hP]; simp only; rw [if_neg]; simp only [Sg.goodDate, Bool.and_eq_true, decide_eq_true_eq]; omega)
        clear hP
        go_enter Tryz.func37, Tryz.ntmps37
        go_wp2_with fail
        refine KP.out.mono ?_
        rw [HP.out]
        rintro e w1 ⟨⟨aq, cq, rfl, -, -⟩, hb1⟩
        go_wp2_with fail
        go_ret2
        exact ⟨by rw [HR.out]; rfl, (hA.trans (hb1.mono hA.size)).alloc (Nat.le_trans hA.size hb1.size) _⟩
      · have hhi' : decide (1099511627776 < date) = false := decide_eq_false hhi
        have HR := Lib.hid (show Sg.text m t bd date = .ok (Sg.lines m u bd date) by
          unfold Sg.text; rw [hP]; simp only; rw [if_pos]; simp only [Sg.goodDate, Bool.and_eq_true, decide_eq_true_eq]; omega)
        have HL := Lib.hid (lines_len (bd := bd) (date := date) hP (by omega) hm h0 h1)
        have hp1 := HRd.out.sizes
        have hp2 := HRd.out.count
        have hqt := UriR.qt_len u.query
        have hen := UriD.enc_len true u.path
        have hqs : ∀ q ∈ u.query, q.1.length ≤ 16777216 ∧ q.2.length ≤ 16777216 := fun q hq => by have := UriR.sz_mem hq; omega
        have hsl := Sha.sha_length bd
        have hil := Dec.itoa_len h0 h1
        obtain ⟨k, rfl⟩ := Int.eq_ofNat_of_zero_le (show 0 ≤ date by omega)
        clear hP
        go_enter Tryz.func37, Tryz.ntmps37
        go_wp2_with fail
        refine KP.out.mono ?_
        rw [HP.out]
        rintro e w1 ⟨⟨aq, cq, rfl, hq0, hq1⟩, hb1⟩
        have hR1 := hR0.below hb1
        have hbA := hA.trans (hb1.mono hA.size)
        have hb2 := (Below.refl w1.heap.size w1).alloc (Nat.le_refl _) (.cells #[.string ⟨u.path.toArray⟩, .slice aq u.query.length cq] 97)
        have HR2 := Lib.hid (hR1.below hb2)
        have HB2 := Lib.hid (hbA.trans (hb2.mono hbA.size))
        have hq2 := pairs_below hq1 hb2
        have KC := Lib.hid (UriX.canonical ⟨u.path.toArray⟩ cq _ hq2 (by omega) (by rw [Com.size_mk]; omega) hqs (by omega))
        clear hA hR0 KP hR1 hbA hb2 hq1 hq2 hb1 hq0 hqs
        go_wp2_with fail
        refine KC.out.mono ?_
        rintro e w3 ⟨rfl, hb3⟩
        have hR3 := HR2.out.below hb3
        have hB3 := HB2.out.trans (hb3.mono HB2.out.size)
        have HBd3 := Lib.hid (HB.out.below hB3)
        clear KC HR2 HB2 hb3
        obtain ⟨x0, x1, x2, x3, -, -, -, -⟩ := hR3.cells
        have KS := Lib.hid (RsB.sum bd cb _ HBd3.out hbl)
        go_wp2_with (first
          | (go_at_call 76; refine KS.out.mono ?_; rintro e w4 ⟨rfl, hb4⟩)
          | (guard_target =~ wpList _ _ _ ({ dst := _, op := Op.store 128 _ _, type := _, pos := _, after := _, guard := none } :: _) _ _; refine store32 rfl _ _ rfl (Sha.sha bd) hsl rfl rfl rfl ?_; intro w8 z8 h8 hb8))
        have hbE := hB3.trans ((hb4.trans (hb8.mono hb4.size)).mono hB3.size)
        have y0 := ((hb4.trans (hb8.mono hb4.size)).cell (p := ⟨w.heap.size, 0, none⟩) (World.block_lt_of_cell? _ _ x0)).trans x0
        have H8 := Lib.hid (bs_box h8 32 (Nat.le_of_eq hsl))
        obtain ⟨V, hV⟩ : ∃ V, V = Sha.sha bd := ⟨_, rfl⟩
        have HV := Lib.hid hV
        rw [← hV] at hsl H8 ⊢
        clear hV hR3 hB3 KS x0 x1 x2 x3 hb4 hb8 h8 hp1 hp2
        have KI := Lib.hid (show ∀ W : World, (W.cell? ⟨w.heap.size, 0, none⟩ = some (.string ⟨m.toArray⟩) ∧ Below w8.heap.size w8 W) → Calls Tryz.prog 58 #[.int .i64 (k : Int)] W fun e w' => e = .returned (.string ⟨(Lib.itoa (k : Int)).toArray⟩) ∧ (w'.cell? ⟨w.heap.size, 0, none⟩ = some (.string ⟨m.toArray⟩) ∧ Below w8.heap.size w8 w') from fun W hW => by
          refine (DecW.decimal k (by omega) W).mono ?_
          rintro e w9 ⟨rfl, hb9⟩
          exact ⟨by unfold Lib.itoa; rw [if_neg (by omega)]; rfl, S_next hW hb9⟩)
        have KH := Lib.hid (show ∀ W : World, (W.cell? ⟨w.heap.size, 0, none⟩ = some (.string ⟨m.toArray⟩) ∧ Below w8.heap.size w8 W) → Calls Tryz.prog 77 #[.slice (some ⟨w4.heap.size, 0, none⟩) 32 32] W fun e w' => e = .returned (.string ⟨(Nm.hex V).toArray⟩) ∧ (w'.cell? ⟨w.heap.size, 0, none⟩ = some (.string ⟨m.toArray⟩) ∧ Below w8.heap.size w8 w') from fun W hW => by
          have hh := RsS.rhex V 32 W (H8.out.below hW.2) (by omega)
          rw [hsl] at hh
          refine hh.mono ?_
          rintro e w9 ⟨rfl, hb9⟩
          exact ⟨rfl, S_next hW hb9⟩)
        obtain ⟨T, hTE⟩ : ∃ T, T = Sg.lines m u bd (k : Int) := ⟨_, rfl⟩
        have hhl : (Nm.hex V).length = 64 := by rw [Nm.hex_length, hsl]
        rw [← hTE] at HR
        have hTL : T = Sg.scheme ++ [10] ++ Lib.itoa (k : Int) ++ [10] ++ m ++ [10] ++ UriD.enc true u.path ++ [10] ++ UriR.qt u.query ++ [10] ++ Nm.hex V := by rw [hTE, HV.out]; rfl
        have HLT := HL.out
        rw [← hTE, hTL] at HLT
        simp only [List.length_append, List.length_cons, List.length_nil] at HLT
        have hsc : Sg.scheme.length = 8 := rfl
        generalize UriD.enc true u.path = P1 at *
        generalize UriR.qt u.query = P2 at *
        generalize Nm.hex V = P3 at *
        generalize Lib.itoa (k : Int) = P4 at *
        have HCT := Lib.hid (show ((((((((((⟨#[66, 79, 76, 76, 65, 82, 68, 49, 10]⟩ : ByteArray) ++ ⟨P4.toArray⟩) ++ ⟨#[10]⟩) ++ ⟨m.toArray⟩) ++ ⟨#[10]⟩) ++ ⟨P1.toArray⟩) ++ ⟨#[10]⟩) ++ ⟨P2.toArray⟩) ++ ⟨#[10]⟩) ++ ⟨P3.toArray⟩) = ⟨T.toArray⟩ by
          rw [hTL]
          simp only [Com.mk_append]
          rfl)
        have s1 : ¬ 9223372036854775807 < 9 + P4.length := by omega
        have s2 : ¬ 9223372036854775807 < 9 + P4.length + 1 := by omega
        have s3 : ¬ 9223372036854775807 < 9 + P4.length + 1 + m.length := by omega
        have s4 : ¬ 9223372036854775807 < 9 + P4.length + 1 + m.length + 1 := by omega
        have s5 : ¬ 9223372036854775807 < 9 + P4.length + 1 + m.length + 1 + P1.length := by omega
        have s6 : ¬ 9223372036854775807 < 9 + P4.length + 1 + m.length + 1 + P1.length + 1 := by omega
        have s7 : ¬ 9223372036854775807 < 9 + P4.length + 1 + m.length + 1 + P1.length + 1 + P2.length := by omega
        have s8 : ¬ 9223372036854775807 < 9 + P4.length + 1 + m.length + 1 + P1.length + 1 + P2.length + 1 := by omega
        have s9 : ¬ 9223372036854775807 < 9 + P4.length + 1 + m.length + 1 + P1.length + 1 + P2.length + 1 + P3.length := by omega
        clear hTE hTL HLT hhl hsc hil hqt hen
        go_region_held3 (fun W => W.cell? ⟨w.heap.size, 0, none⟩ = some (.string ⟨m.toArray⟩) ∧ Below w8.heap.size w8 W)
          (first | exact ⟨y0, (Below.refl _ _).drew⟩ | assumption)
          (first
            | (go_at_call 58; refine (KI.out _ (by assumption)).mono ?_; rintro e w9 ⟨rfl, hS9⟩)
            | (go_at_call 77; refine (KH.out _ hS9).mono ?_; rintro e w10 ⟨rfl, hS10⟩))
        go_wp2_with fail
        go_ret2
        exact ⟨by rw [HR.out, HCT.out]; rfl, hbE.trans (hS10.2.mono hbE.size)⟩
end Go.Proofs.YtidflagmdabfaaaGreatDoor.RsT
namespace Go.Proofs.YtidflagmdabfaaaGreatDoor.SgQ
open Go.RowKit Go.Proofs.YtidflagmdabfaaaGreatDoor Go.Proofs.YtidflagmdabfaaaGreatDoor.Ht Go.Proofs.YtidflagmdabfaaaGreatDoor.HtW Go.Proofs.YtidflagmdabfaaaGreatDoor.HtC

theorem fcells_one (fs : List Fld) : ∀ u ∈ fcells fs, u.oneCell' = true := by
  intro u hu
  simp only [fcells, List.mem_flatMap] at hu
  obtain ⟨p, _, hu⟩ := hu
  simp at hu
  rcases hu with rfl | rfl <;> rfl
theorem Fs.holds {w : World} {p : Addr} {fs : List Fld} (h : Fs w (some p) fs) : ∀ (j : Nat) u, (fcells fs)[j]? = some u → w.cell? (p.add j) = some u := by
  intro j u hj
  rcases h with rfl | ⟨b, o, hp, hb, hc⟩
  · cases hj
  · cases hp
    rw [addr_add]
    have hjl : j < fs.length * 2 := by rw [← fcells_length]; exact (List.getElem?_eq_some_iff.1 hj).1
    have hq : j / 2 < fs.length := by omega
    have hq' := List.getElem?_eq_getElem hq
    obtain ⟨c1, c2⟩ := hc (j / 2) _ hq'
    obtain ⟨d1, d2⟩ := fcells_get hq'
    rcases Nat.mod_two_eq_zero_or_one j with e | e
    · have e2 : j = j / 2 * 2 := by omega
      rw [← e2] at c1 d1
      rw [c1, ← hj, d1]
    · have e2 : j = j / 2 * 2 + 1 := by omega
      rw [Nat.add_assoc, ← e2] at c2
      rw [← e2] at d2
      rw [c2, ← hj, d2]
/-- append: fields onto fields -/
theorem run_append_flds (w : World) (base : Nat) (v : Value) (l r : List Fld) (hown : w.ownsRow base 91 2 v l.length (fcells l)) (aR : Option Addr) (cR : Nat) (hF : Fs w aR r) (hn : aR = none → r.length = 0 ∧ cR = 0) (hbase : base ≤ w.heap.size) (hlen : l.length + r.length ≤ 4294967300) (ty : TypeId) :
    ∃ ar cr w', (Builtin.append_ #[22, 22] ty #[v, .slice aR r.length cR]).run Tryz.prog w = .ok (.slice ar (l.length + r.length) cr) w' ∧ w'.ownsRow base 91 2 (.slice ar (l.length + r.length) cr) (l ++ r).length (fcells (l ++ r)) ∧ w.grownBy w' v.ownBlock ∧ Below base w w' := by
  obtain ⟨i0, hi, hz0, hz1, hz2⟩ := info_parts infoField
  have happ : fcells (l ++ r) = fcells l ++ fcells r := by simp [fcells]
  cases aR with
  | none =>
    obtain ⟨h0, rfl⟩ := hn rfl
    have hr : r = [] := List.eq_nil_of_length_eq_zero h0
    subst hr
    have hrun := run_append_owned_none (P := Tryz.prog) w base 22 ty 91 i0 2 Tryz.underlying22 hi v l.length (fcells l) hown
    obtain ⟨a, c, rfl, _, _⟩ := fs_of_own hown
    exact ⟨a, c, w, hrun, by simpa using hown, ⟨rfl, rfl, rfl, Nat.le_refl _, fun _ _ _ => rfl⟩, Below.refl _ _⟩
  | some p =>
    obtain ⟨v', w', h1, h2, h3, _⟩ := run_append_own (P := Tryz.prog) w base 22 ty 91 i0 _ 2 32 Tryz.underlying22 hi hz0 hz1 hz2 rfl (by decide) v l.length (fcells l) hown p r.length cR (fcells r) (fcells_length r) (Fs.holds hF) (fcells_one r) (by unfold maxLen; omega) (by omega) hbase
    rw [← happ, ← List.length_append] at h2
    obtain ⟨a, c, rfl, _, _⟩ := fs_of_own h2
    rw [List.length_append] at h1
    refine ⟨a, c, w', h1, by rw [← List.length_append]; exact h2, h3, (Below.refl base w).grown h3 hbase fun k hk => ?_⟩
    exact (hown.lt k hk).1
theorem wpList_append_flds {ops : Array Oper} {rest : List Oper} {o : Oper} {a : Act} {Q : Exit → Act → World → Prop} (w : World) (hg : o.guard = none) (s x : Operand) (hop : o.op = Op.call { callee := Callee.builtin Builtin.append, args := #[s, x], argTypes := #[22, 22] })
    (base n : Nat) (v : Value) (l r : List Fld) (hown : w.ownsRow base 91 2 v l.length (fcells l)) (aR : Option Addr) (cR : Nat) (hF : Fs w aR r) (hn : aR = none → r.length = 0 ∧ cR = 0) (hbase : base ≤ w.heap.size) (hlen : l.length + r.length ≤ 4294967300)
    (hN : n = l.length + r.length) (hs : a.eval s = v) (hx : a.eval x = .slice aR r.length cR)
    (hK : ∀ ar cr w', w'.ownsRow base 91 2 (.slice ar n cr) (l ++ r).length (fcells (l ++ r)) → w.grownBy w' v.ownBlock → Below base w w' → wpList Tryz.prog ops Q rest (a.put o.dst (.slice ar n cr)) w') :
    wpList Tryz.prog ops Q (o :: rest) a w := by
  subst hN
  refine wpList_plain hg fun K hK' => ?_
  obtain ⟨ar, cr, w', hrun, h1, h2, h3⟩ := run_append_flds w base v l r hown aR cR hF hn hbase hlen o.type
  unfold Oper.wp
  simp [execOp, hop, resolve, invoke, builtin, hs, hx, hrun, Result.andThen]
  exact hK' _ _ (hK ar cr w' h1 h2 h3)
theorem own_fresh (w : World) : (w.alloc (.cells #[] 91)).ownsRow w.heap.size 91 2 (.slice (some ⟨w.heap.size, 0, none⟩) 0 0) 0 [] :=
  ⟨rfl, .inr ⟨w.heap.size, 0, #[], rfl, Nat.le_refl _, heap_alloc_new _ _, Nat.le_refl _, by unfold maxLen; omega, rfl, rfl⟩⟩
theorem own_keep {w w' : World} {base : Nat} {e : TypeId} {size : Nat} {v : Value} {n : Nat} {xs : List Value} (h : w.ownsRow base e size v n xs) (hk : ∀ g, v.ownBlock = some g → w'.heap[g]? = w.heap[g]?) : w'.ownsRow base e size v n xs :=
  ⟨h.1, h.2.imp id fun ⟨g, cap, cur, h1, h2, h3, h4⟩ => ⟨g, cap, cur, h1, h2, (hk g (by rw [h1]; rfl)).trans h3, h4⟩⟩
/-- a store below the base of a row -/
theorem own_set {w : World} {base : Nat} {e : TypeId} {size : Nat} {v : Value} {n : Nat} {xs : List Value} (h : w.ownsRow base e size v n xs) {p : Addr} (hp : p.block < base) (u : Value) : (w.setCell p u).ownsRow base e size v n xs :=
  ownsRow_setCell_below h hp u
theorem rq_low {B b : Nat} {w w' : World} {x y z v : Value} (h : Rq B w x y z v) (hb : Below b w w') (hlt : B < b) : Rq B w' x y z v := (hb.block _ hlt).trans h
theorem rq_run {B : Nat} {w : World} {a b c d : Value} (h : Rq B w a b c d) {fn : Func} (e : fn.results = #[.cell 2 25]) {tmps : Array Value} (h2 : tmps.getD 2 undef = .pointer (some ⟨B, 0, none⟩)) :
    (results fn tmps).run Tryz.prog w = .ok (.agg #[a, b, c, d]) w :=
  results_cell_row e tmps w B 25 _ _ _ h2 h Tryz.underlying25 rfl (by kernel_rfl)

set_option maxHeartbeats 4000000 in
set_option maxRecDepth 100000 in
theorem copied (m t bd : List UInt8) (fs : List Fld) {af ab : Option Addr} (cf cb : Nat) (w : World) (hf : Fs w af fs) (hn : af = none → fs.length = 0 ∧ cf = 0) (hb : Bs w ab bd cb) (hfl : fs.length ≤ 4294967296) (hbl : bd.length ≤ 140737488350000) :
    Calls Tryz.prog 34 #[.agg #[.string ⟨m.toArray⟩, .string ⟨t.toArray⟩, .slice af fs.length cf, .slice ab bd.length cb]] w fun e w' => ∃ a2 c2 a3 c3, e = .returned (.agg #[.string ⟨m.toArray⟩, .string ⟨t.toArray⟩, .slice a2 fs.length c2, .slice a3 bd.length c3]) ∧ w'.ownsRow w.heap.size 91 2 (.slice a2 fs.length c2) fs.length (fcells fs) ∧ w'.ownsRow w.heap.size 5 1 (.slice a3 bd.length c3) bd.length (Lib.byteCells bd) ∧ Below w.heap.size w w' := by
  have HF := Lib.hid hf; clear hf
  have HB := Lib.hid hb; clear hb
  have hb0 := ((Below.refl w.heap.size w).alloc (Nat.le_refl _) (.cells #[.string ⟨m.toArray⟩, .string ⟨t.toArray⟩, .slice af fs.length cf, .slice ab bd.length cb] 25)).alloc (by simp) (.cells #[.string ⟨#[]⟩, .string ⟨#[]⟩, .slice none 0 0, .slice none 0 0] 25)
  have hR0 : Rq w.heap.size ((w.alloc (.cells #[.string ⟨m.toArray⟩, .string ⟨t.toArray⟩, .slice af fs.length cf, .slice ab bd.length cb] 25)).alloc (.cells #[.string ⟨#[]⟩, .string ⟨#[]⟩, .slice none 0 0, .slice none 0 0] 25)) _ _ _ _ := heap_alloc2_old _ _ _
  have hQ0 : Rq (w.heap.size + 1) ((w.alloc (.cells #[.string ⟨m.toArray⟩, .string ⟨t.toArray⟩, .slice af fs.length cf, .slice ab bd.length cb] 25)).alloc (.cells #[.string ⟨#[]⟩, .string ⟨#[]⟩, .slice none 0 0, .slice none 0 0] 25)) _ _ _ _ := heap_alloc2_new _ _ _
  have hz0 : ((w.alloc (.cells #[.string ⟨m.toArray⟩, .string ⟨t.toArray⟩, .slice af fs.length cf, .slice ab bd.length cb] 25)).alloc (.cells #[.string ⟨#[]⟩, .string ⟨#[]⟩, .slice none 0 0, .slice none 0 0] 25)).heap.size = w.heap.size + 2 := by simp
  go_enter Tryz.func34, Tryz.ntmps34
  go_upto_region 1 with fail
  generalize (w.alloc (.cells #[.string ⟨m.toArray⟩, .string ⟨t.toArray⟩, .slice af fs.length cf, .slice ab bd.length cb] 25)).alloc (.cells #[.string ⟨#[]⟩, .string ⟨#[]⟩, .slice none 0 0, .slice none 0 0] 25) = w1 at *
  obtain ⟨N, hN⟩ : ∃ N, N = w.heap.size := ⟨_, rfl⟩
  have HF1 := Lib.hid (HF.out.below hb0)
  rw [← hN] at hR0 hQ0 hz0 hb0 ⊢
  have HN := Lib.hid hN
  have HZ := Lib.hid hz0
  have hb2 := (Below.refl w1.heap.size w1).alloc (Nat.le_refl _) (.cells #[] 91)
  have hR1 := hR0.below hb2
  have hQ1 := hQ0.below hb2
  have hB1 := hb0.trans (hb2.mono (by omega))
  have HB1 := Lib.hid hB1
  have HQ1 := Lib.hid hQ1
  have HF2 := Lib.hid (HF1.out.below hb2)
  have o0 := own_fresh w1
  clear hb0 hN hz0 hQ0 hR0 HF HF1 hb2 hB1 hQ1
  have hz1 : (w1.alloc (.cells #[] 91)).heap.size = w1.heap.size + 1 := by simp
  obtain ⟨x0, x1, x2, x3, g0, g1, g2, g3⟩ := hR1.cells
  go_upto_region 2 with (at_builtin; refine wpList_append_flds _ rfl (.tmp 3) (.tmp 5) rfl w1.heap.size fs.length (.slice (some ⟨w1.heap.size, 0, none⟩) 0 0) [] fs o0 af cf HF2.out hn (by simp) (by simp; omega) (by simp) rfl rfl ?_; intro ar cr w2 ho2 hg2 hb3; rw [List.nil_append] at ho2; have hR2 := rq_low hR1 hb3 (by have := HZ.out; omega); have hQ2 := rq_low HQ1.out hb3 (by have := HZ.out; omega); have HQ2 := Lib.hid hQ2; clear hQ2; clear x0 x1 x2 x3 g0 g1 g2 g3; obtain ⟨x0, x1, x2, x3, g0, g1, g2, g3⟩ := hR2.cells)
  have hR3 := hR2.put3 (.slice ar fs.length cr)
  have HQ3 := Lib.hid (HQ2.out.far (p := ⟨N, 2, none⟩) (by show N + 1 ≠ N; omega) (.slice ar fs.length cr))
  have HO3 := Lib.hid (own_set ho2 (p := ⟨N, 2, none⟩) (by have := HZ.out; show N < _; omega) (.slice ar fs.length cr))
  have hB3 := (HB1.out.trans (hb3.mono (by have := HZ.out; omega))).setCell (p := ⟨N, 2, none⟩) (Nat.le_refl _) (.slice ar fs.length cr)
  have HS3 := Lib.hid (show w1.heap.size + 1 ≤ (w2.setCell ⟨N, 2, none⟩ (.slice ar fs.length cr)).heap.size by rw [World.size_setCell]; have := hb3.size; omega)
  generalize w2.setCell ⟨N, 2, none⟩ (.slice ar fs.length cr) = w3 at *
  have HB3 := Lib.hid hB3
  have hBd3 := HB.out.below (HN.out ▸ hB3)
  clear hR2 hR1 hg2 hb3 ho2 HQ2 HQ1 HB1 HF2 o0 hz1 HB x0 x1 x2 x3 g0 g1 g2 g3 hB3
  have hb4 := (Below.refl w3.heap.size w3).alloc (Nat.le_refl _) (.cells #[] 5)
  have hR4 := hR3.below hb4
  have HQ4 := Lib.hid (HQ3.out.below hb4)
  have HBd4 := Lib.hid (hBd3.below hb4)
  have H4 := Lib.hid hb4
  have o4 := HtX.own_fresh w3 _ (Nat.le_refl _)
  have hz4 : (w3.alloc (.cells #[] 5)).heap.size = w3.heap.size + 1 := by simp
  clear hb4 hR3 HQ3 hBd3
  obtain ⟨x0, x1, x2, x3, g0, g1, g2, g3⟩ := hR4.cells
  go_upto_region 3 with (at_builtin; refine App.append_more _ rfl (.tmp 8) (.tmp 10) rfl w3.heap.size [] bd o4 ab cb HBd4.out (by simp) (by simp; omega) rfl rfl ?_; intro ar2 cr2 w5 n5 hn5 ho5 hb5; rw [List.nil_append] at hn5 ho5; subst hn5; have hR5 := rq_low hR4 hb5 (by have := HS3.out; have := HZ.out; omega); have HQ5 := Lib.hid (rq_low HQ4.out hb5 (by have := HS3.out; have := HZ.out; omega)); clear x0 x1 x2 x3 g0 g1 g2 g3; obtain ⟨x0, x1, x2, x3, g0, g1, g2, g3⟩ := hR5.cells)
  have hR6 := hR5.put4 (.slice ar2 bd.length cr2)
  have hQ6 := HQ5.out.far (p := ⟨N, 3, none⟩) (by show N + 1 ≠ N; omega) (.slice ar2 bd.length cr2)
  have HO6 := Lib.hid (own_set (Com.own_below HO3.out (H4.out.trans hb5)) (p := ⟨N, 3, none⟩) (by have := HZ.out; show N < _; omega) (.slice ar2 bd.length cr2))
  have HP6 := Lib.hid (own_set ho5 (p := ⟨N, 3, none⟩) (by have := HZ.out; have := HS3.out; show N < _; omega) (.slice ar2 bd.length cr2))
  have HB6 := Lib.hid ((HB3.out.trans ((H4.out.trans hb5).mono (by have := HZ.out; have := HS3.out; omega))).setCell (p := ⟨N, 3, none⟩) (Nat.le_refl _) (.slice ar2 bd.length cr2))
  generalize w5.setCell ⟨N, 3, none⟩ (.slice ar2 bd.length cr2) = w6 at *
  clear x0 x1 x2 x3 g0 g1 g2 g3 hR5 hR4 HQ4 HQ5 H4 o4 hz4 HBd4 hb5 ho5 HO3 HB3
  have HQ6 := Lib.hid hQ6
  obtain ⟨x0, x1, x2, x3, _⟩ := hR6.cells
  obtain ⟨y0, y1, y2, y3, g0, g1, g2, g3⟩ := hQ6.cells
  go_wp2_with fail
  have hQ7 := HQ6.out.put (.string ⟨m.toArray⟩) (.string ⟨t.toArray⟩) (.slice ar fs.length cr) (.slice ar2 bd.length cr2)
  refine bodyPost_ret (rq_run hQ7 rfl rfl) rfl ⟨ar, cr, ar2, cr2, rfl, ?_, ?_, ?_⟩
  · rw [← HN.out]; exact SgD.own_low (SgD.own_st4 HO6.out (by have := HZ.out; omega) _ _ _ _) (by have := HZ.out; omega)
  · rw [← HN.out]; exact SgD.own_low (SgD.own_st4 HP6.out (by have := HZ.out; have := HS3.out; omega) _ _ _ _) (by have := HZ.out; have := HS3.out; omega)
  · rw [← HN.out]; exact SgC.below_four' HB6.out (Nat.le_succ _) _ _ _ _
end Go.Proofs.YtidflagmdabfaaaGreatDoor.SgQ
namespace Go.Proofs.YtidflagmdabfaaaGreatDoor.SgZ
open Go.ChangeShapes Go.WideShapes Go.ChangeAt Go.RowKit Go.Proofs.YtidflagmdabfaaaGreatDoor Go.Proofs.YtidflagmdabfaaaGreatDoor.Ht Go.Proofs.YtidflagmdabfaaaGreatDoor.HtW

theorem tab {W : World} (h : laidMetH Tryz.prog Rows.sigSignsRow.laid W) : Itoa.Tab W := by
  rw [MakeChecks.laidMetH_plain _ _ _ (by kernel_rfl)] at h
  refine Lib.tabIs_of_head (rest := Rows.sigSignsRow.laid.drop 3) Itoa.tabNum SgR.tabType Tryz.underlying262 Tryz.underlying221 SgR.cellsU64 SgR.cellsTab ?_
  exact laidMet.tail (laidMet.tail h)
theorem er0 {W : World} (h : laidMet Tryz.prog Rows.sigSignsRow.laid W) : ∃ a, Err.Er W 0 (Err.texts[0]'(by decide)) a := by
  obtain ⟨r, hr⟩ := SgR.laid_at 4 _ _ h rfl
  exact SgR.laid_sentinel2 hr (by kernel_rfl) (by kernel_rfl)
theorem er1 {W : World} (h : laidMet Tryz.prog Rows.sigSignsRow.laid W) : ∃ a, Err.Er W 1 (Err.texts[1]'(by decide)) a := by
  obtain ⟨r, hr⟩ := SgR.laid_at 5 _ _ h rfl
  exact SgR.laid_sentinel2 hr (by kernel_rfl) (by kernel_rfl)
theorem er2 {W : World} (h : laidMet Tryz.prog Rows.sigSignsRow.laid W) : ∃ a, Err.Er W 2 (Err.texts[2]'(by decide)) a := by
  obtain ⟨r, hr⟩ := SgR.laid_at 6 _ _ h rfl
  exact SgR.laid_sentinel2 hr (by kernel_rfl) (by kernel_rfl)
theorem er3 {W : World} (h : laidMet Tryz.prog Rows.sigSignsRow.laid W) : ∃ a, Err.Er W 3 (Err.texts[3]'(by decide)) a := by
  obtain ⟨r, hr⟩ := SgR.laid_at 7 _ _ h rfl
  exact SgR.laid_sentinel2 hr (by kernel_rfl) (by kernel_rfl)
theorem er4 {W : World} (h : laidMet Tryz.prog Rows.sigSignsRow.laid W) : ∃ a, Err.Er W 4 (Err.texts[4]'(by decide)) a := by
  obtain ⟨r, hr⟩ := SgR.laid_at 8 _ _ h rfl
  exact SgR.laid_sentinel2 hr (by kernel_rfl) (by kernel_rfl)
theorem er5 {W : World} (h : laidMet Tryz.prog Rows.sigSignsRow.laid W) : ∃ a, Err.Er W 5 (Err.texts[5]'(by decide)) a := by
  obtain ⟨r, hr⟩ := SgR.laid_at 9 _ _ h rfl
  exact SgR.laid_sentinel2 hr (by kernel_rfl) (by kernel_rfl)
theorem er6 {W : World} (h : laidMet Tryz.prog Rows.sigSignsRow.laid W) : ∃ a, Err.Er W 6 (Err.texts[6]'(by decide)) a := by
  obtain ⟨r, hr⟩ := SgR.laid_at 10 _ _ h rfl
  exact SgR.laid_sentinel2 hr (by kernel_rfl) (by kernel_rfl)
theorem er7 {W : World} (h : laidMet Tryz.prog Rows.sigSignsRow.laid W) : ∃ a, Err.Er W 7 (Err.texts[7]'(by decide)) a := by
  obtain ⟨r, hr⟩ := SgR.laid_at 11 _ _ h rfl
  exact SgR.laid_sentinel2 hr (by kernel_rfl) (by kernel_rfl)
theorem er8 {W : World} (h : laidMet Tryz.prog Rows.sigSignsRow.laid W) : ∃ a, Err.Er W 8 (Err.texts[8]'(by decide)) a := by
  obtain ⟨r, hr⟩ := SgR.laid_at 12 _ _ h rfl
  exact SgR.laid_sentinel2 hr (by kernel_rfl) (by kernel_rfl)
theorem er9 {W : World} (h : laidMet Tryz.prog Rows.sigSignsRow.laid W) : ∃ a, Err.Er W 9 (Err.texts[9]'(by decide)) a := by
  obtain ⟨r, hr⟩ := SgR.laid_at 13 _ _ h rfl
  exact SgR.laid_sentinel2 hr (by kernel_rfl) (by kernel_rfl)
theorem er10 {W : World} (h : laidMet Tryz.prog Rows.sigSignsRow.laid W) : ∃ a, Err.Er W 10 (Err.texts[10]'(by decide)) a := by
  obtain ⟨r, hr⟩ := SgR.laid_at 14 _ _ h rfl
  exact SgR.laid_sentinel2 hr (by kernel_rfl) (by kernel_rfl)
theorem er11 {W : World} (h : laidMet Tryz.prog Rows.sigSignsRow.laid W) : ∃ a, Err.Er W 11 (Err.texts[11]'(by decide)) a := by
  obtain ⟨r, hr⟩ := SgR.laid_at 15 _ _ h rfl
  exact SgR.laid_sentinel2 hr (by kernel_rfl) (by kernel_rfl)
theorem er12 {W : World} (h : laidMet Tryz.prog Rows.sigSignsRow.laid W) : ∃ a, Err.Er W 12 (Err.texts[12]'(by decide)) a := by
  obtain ⟨r, hr⟩ := SgR.laid_at 16 _ _ h rfl
  exact SgR.laid_sentinel2 hr (by kernel_rfl) (by kernel_rfl)
theorem er13 {W : World} (h : laidMet Tryz.prog Rows.sigSignsRow.laid W) : ∃ a, Err.Er W 13 (Err.texts[13]'(by decide)) a := by
  obtain ⟨r, hr⟩ := SgR.laid_at 17 _ _ h rfl
  exact SgR.laid_sentinel2 hr (by kernel_rfl) (by kernel_rfl)
theorem er14 {W : World} (h : laidMet Tryz.prog Rows.sigSignsRow.laid W) : ∃ a, Err.Er W 14 (Err.texts[14]'(by decide)) a := by
  obtain ⟨r, hr⟩ := SgR.laid_at 18 _ _ h rfl
  exact SgR.laid_sentinel2 hr (by kernel_rfl) (by kernel_rfl)
theorem er15 {W : World} (h : laidMet Tryz.prog Rows.sigSignsRow.laid W) : ∃ a, Err.Er W 15 (Err.texts[15]'(by decide)) a := by
  obtain ⟨r, hr⟩ := SgR.laid_at 19 _ _ h rfl
  exact SgR.laid_sentinel2 hr (by kernel_rfl) (by kernel_rfl)
theorem er16 {W : World} (h : laidMet Tryz.prog Rows.sigSignsRow.laid W) : ∃ a, Err.Er W 16 (Err.texts[16]'(by decide)) a := by
  obtain ⟨r, hr⟩ := SgR.laid_at 20 _ _ h rfl
  exact SgR.laid_sentinel2 hr (by kernel_rfl) (by kernel_rfl)
theorem er17 {W : World} (h : laidMet Tryz.prog Rows.sigSignsRow.laid W) : ∃ a, Err.Er W 17 (Err.texts[17]'(by decide)) a := by
  obtain ⟨r, hr⟩ := SgR.laid_at 21 _ _ h rfl
  exact SgR.laid_sentinel2 hr (by kernel_rfl) (by kernel_rfl)
theorem all {W : World} (h : laidMetH Tryz.prog Rows.sigSignsRow.laid W) : ∃ es, Err.All W es := by
  rw [MakeChecks.laidMetH_plain _ _ _ (by kernel_rfl)] at h
  obtain ⟨a0, k0⟩ := er0 h
  obtain ⟨a1, k1⟩ := er1 h
  obtain ⟨a2, k2⟩ := er2 h
  obtain ⟨a3, k3⟩ := er3 h
  obtain ⟨a4, k4⟩ := er4 h
  obtain ⟨a5, k5⟩ := er5 h
  obtain ⟨a6, k6⟩ := er6 h
  obtain ⟨a7, k7⟩ := er7 h
  obtain ⟨a8, k8⟩ := er8 h
  obtain ⟨a9, k9⟩ := er9 h
  obtain ⟨a10, k10⟩ := er10 h
  obtain ⟨a11, k11⟩ := er11 h
  obtain ⟨a12, k12⟩ := er12 h
  obtain ⟨a13, k13⟩ := er13 h
  obtain ⟨a14, k14⟩ := er14 h
  obtain ⟨a15, k15⟩ := er15 h
  obtain ⟨a16, k16⟩ := er16 h
  obtain ⟨a17, k17⟩ := er17 h
  refine ⟨[a0, a1, a2, a3, a4, a5, a6, a7, a8, a9, a10, a11, a12, a13, a14, a15, a16, a17], rfl, fun i t g a h1 h2 h3 => ?_⟩
  match i, h1, h2, h3 with
  | 0, h1, h2, h3 => cases h1; cases h2; cases h3; exact k0
  | 1, h1, h2, h3 => cases h1; cases h2; cases h3; exact k1
  | 2, h1, h2, h3 => cases h1; cases h2; cases h3; exact k2
  | 3, h1, h2, h3 => cases h1; cases h2; cases h3; exact k3
  | 4, h1, h2, h3 => cases h1; cases h2; cases h3; exact k4
  | 5, h1, h2, h3 => cases h1; cases h2; cases h3; exact k5
  | 6, h1, h2, h3 => cases h1; cases h2; cases h3; exact k6
  | 7, h1, h2, h3 => cases h1; cases h2; cases h3; exact k7
  | 8, h1, h2, h3 => cases h1; cases h2; cases h3; exact k8
  | 9, h1, h2, h3 => cases h1; cases h2; cases h3; exact k9
  | 10, h1, h2, h3 => cases h1; cases h2; cases h3; exact k10
  | 11, h1, h2, h3 => cases h1; cases h2; cases h3; exact k11
  | 12, h1, h2, h3 => cases h1; cases h2; cases h3; exact k12
  | 13, h1, h2, h3 => cases h1; cases h2; cases h3; exact k13
  | 14, h1, h2, h3 => cases h1; cases h2; cases h3; exact k14
  | 15, h1, h2, h3 => cases h1; cases h2; cases h3; exact k15
  | 16, h1, h2, h3 => cases h1; cases h2; cases h3; exact k16
  | 17, h1, h2, h3 => cases h1; cases h2; cases h3; exact k17
  | i + 18, h1, _, _ => simp [Err.texts] at h1


theorem env {W : World} (hl : laidMetH Tryz.prog Rows.sigSignsRow.laid W) (hs : W.ShapedOpen Tryz.prog) : ∃ es aU aR aD aK, Err.All W es ∧ es[12]? = some aR ∧ es[13]? = some aU ∧ es[14]? = some aD ∧ es[15]? = some aK ∧ SgB.Env W aU aR aD aK := by
  obtain ⟨es, h⟩ := all hl
  obtain ⟨t1, g1, aR, x1, y1, z1, k1⟩ := h.at (i := 12) (by decide)
  obtain ⟨t2, g2, aU, x2, y2, z2, k2⟩ := h.at (i := 13) (by decide)
  obtain ⟨t3, g3, aD, x3, y3, z3, k3⟩ := h.at (i := 14) (by decide)
  obtain ⟨t4, g4, aK, x4, y4, z4, k4⟩ := h.at (i := 15) (by decide)
  cases y1; cases y2; cases y3; cases y4
  exact ⟨es, aU, aR, aD, aK, h, z1, z2, z3, z4, k2.cell, k1.cell, k3.cell, k4.cell, SgR.mx hs, tab hl⟩
theorem ne {W : World} (hl : laidMetH Tryz.prog Rows.sigSignsRow.laid W) : Ato.Ne W := by
  rw [MakeChecks.laidMetH_plain _ _ _ (by kernel_rfl)] at hl
  obtain ⟨r8, h8⟩ := SgR.laid_at 22 _ _ hl rfl
  obtain ⟨r9, h9⟩ := SgR.laid_at 23 _ _ hl rfl
  obtain ⟨aG, k8⟩ := SgR.laid_sentinel2 (g := 21) h8 (by kernel_rfl) (by kernel_rfl)
  obtain ⟨aS, k9⟩ := SgR.laid_sentinel2 (g := 20) h9 (by kernel_rfl) (by kernel_rfl)
  exact ⟨⟨_, _, k9.cell⟩, ⟨_, _, k8.cell⟩⟩
/-- a world in which all that is listed lies -/
noncomputable def w0 (os : Os) : World := World.laidAll Tryz.prog os Rows.sigSignsRow.laid
theorem w0_os (os : Os) : (w0 os).os = os := World.laidAll_os _ _ _
theorem w0_met (os : Os) (args : Array Value) : laidMetH Tryz.prog Rows.sigSignsRow.laid ((w0 os).forCall (fun _ _ => 0) ⟨#[], args, []⟩).memory := by
  rw [MakeChecks.laidMetH_plain _ _ _ (by kernel_rfl)]
  exact laidMet_laidAll _ (by kernel_rfl) (by kernel_rfl)
end Go.Proofs.YtidflagmdabfaaaGreatDoor.SgZ
namespace Go.Proofs.YtidflagmdabfaaaGreatDoor.KyR
open Go.ChangeShapes Go.WideShapes Go.ChangeAt Go.RowKit Go.Proofs.YtidflagmdabfaaaGreatDoor Go.Proofs.YtidflagmdabfaaaGreatDoor.Ht Go.Proofs.YtidflagmdabfaaaGreatDoor.HtW
open Go.ChangeMaps (open_string shut_string)

/-- a slice of keys that came in -/
theorem open_keys {H : Type} {enc : TypeId × Value → H} {W : World} {v : Value} {y : DataW H × List MemPlace} {n : Nat}
    (h : DataW.trod enc Tryz.prog W 0 (fun _ => true) true n 82 [v] = some y) :
    ∃ (a : Option Addr) (fs : List Fld) (c : Nat), v = .slice a fs.length c ∧ Fs W a fs ∧ fs.length ≤ c ∧ (a = none → fs.length = 0 ∧ c = 0) ∧ fs.length ≤ 9223372036854775807 ∧
      fs.length ≤ Rows.uptoBulk y.1 ∧ ∀ q ∈ fs, q.1.length ≤ Rows.uptoBulk y.1 ∧ q.2.length ≤ Rows.uptoBulk y.1 := by
  rcases RowKit2.open_structs Tryz.underlying82 Tryz.underlying71 (by kernel_rfl) (by kernel_rfl) h with ⟨hcs, hx⟩ | ⟨ad, len, cap, m, D, Pl, hcs, hl, hm, hmm, hx, hi⟩
  · obtain rfl : v = .slice none 0 0 := by simpa using hcs
    exact ⟨none, [], 0, rfl, .inl rfl, Nat.le_refl _, fun _ => ⟨rfl, rfl⟩, by simp, by simp, fun e he => by simp at he⟩
  · obtain rfl : v = .slice (some ad) len cap := by simpa using hcs
    simp at hmm
    subst hmm hx
    simp only [Rows.uptoBulk]
    have hlen := RowKit2.bulk_length (H := H) ((List.range len).map D)
    rw [List.length_map, List.length_range] at hlen
    obtain ⟨es, hes, hp⟩ := RowKit2.list_of (p := fun i (e : Fld) =>
      (W.cell? (ad.add (i * 2 + 0)) = some (.string ⟨e.1.toArray⟩) ∧ W.cell? (ad.add (i * 2 + 1)) = some (.string ⟨e.2.toArray⟩)) ∧ e.1.length ≤ Rows.uptoBulkAll ((List.range len).map D) ∧ e.2.length ≤ Rows.uptoBulkAll ((List.range len).map D)) len fun i hil => by
      obtain ⟨ys, k, hD, hyl, hf⟩ := hi i (by omega)
      obtain ⟨v0, y0, c0, e0, r0⟩ := hf 0 _ rfl
      obtain ⟨v1, y1, c1, e1, r1⟩ := hf 1 _ rfl
      obtain ⟨s0, q0, rfl, _⟩ := DataW.trod_string Tryz.underlying9 r0
      obtain ⟨s1, q1, rfl, _⟩ := DataW.trod_string Tryz.underlying9 r1
      obtain rfl : v0 = .string s0 := by simpa using q0
      obtain rfl : v1 = .string s1 := by simpa using q1
      have hb1 := RowKit2.bulk_part (H := H) (d := D i) (l := (List.range len).map D) (List.mem_map.2 ⟨i, List.mem_range.2 hil, rfl⟩)
      rw [hD] at hb1
      simp only [Rows.uptoBulk] at hb1
      have hs0 := RowKit2.bulk_part (H := H) (d := .lit (.string s0.data.toList)) (l := ys.map (·.1)) (List.mem_map.2 ⟨_, List.mem_of_getElem? e0, rfl⟩)
      have hs1 := RowKit2.bulk_part (H := H) (d := .lit (.string s1.data.toList)) (l := ys.map (·.1)) (List.mem_map.2 ⟨_, List.mem_of_getElem? e1, rfl⟩)
      rw [RowKit2.bulk_string] at hs0 hs1
      refine ⟨(s0.data.toList, s1.data.toList), ⟨by rw [Com.mk_data]; exact c0, by rw [Com.mk_data]; exact c1⟩, ?_, ?_⟩
      · show s0.data.toList.length ≤ _; omega
      · show s1.data.toList.length ≤ _; omega
    refine ⟨some ad, es, m, by rw [hes], ?_, by omega, (fun h => by cases h), by simp only [maxLen] at hm; omega, by omega, fun e he => ?_⟩
    · rcases Nat.eq_zero_or_pos es.length with h0 | h0
      · exact .inl (List.eq_nil_of_length_eq_zero h0)
      · obtain ⟨⟨hc0, _⟩, _⟩ := hp 0 es[0] (List.getElem?_eq_getElem h0)
        obtain ⟨b, off, spot⟩ := ad
        obtain rfl : spot = none := by simpa [Addr.add] using World.cell?_spot hc0
        have hbl : b < W.heap.size := World.block_lt_of_cell? W _ (by simpa [Addr.add] using hc0)
        refine .inr ⟨b, off, rfl, hbl, fun j e he => ?_⟩
        obtain ⟨⟨c0, c1⟩, _⟩ := hp j e he
        simp only [RowKit2.addr_add] at c0 c1
        exact ⟨c0, by rw [Nat.add_assoc]; exact c1⟩
    · obtain ⟨j, hj, rfl⟩ := List.getElem_of_mem he
      have := (hp j _ (List.getElem?_eq_getElem hj)).2
      omega


theorem two {l : Array Value} (h : l.size = 2) : ∃ a b, l = #[a, b] := by
  obtain ⟨l⟩ := l
  match l, h with
  | [a, b], _ => exact ⟨a, b, rfl⟩
end Go.Proofs.YtidflagmdabfaaaGreatDoor.KyR
