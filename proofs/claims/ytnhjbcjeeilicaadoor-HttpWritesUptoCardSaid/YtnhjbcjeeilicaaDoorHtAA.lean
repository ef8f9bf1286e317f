/-
  The walk of the law HttpStreams.
-/
import Derived.Test.YtnhjbcjeeilicaaDoorHtN
import Derived.Test.YtnhjbcjeeilicaaDoorHtU
import Derived.Test.YtnhjbcjeeilicaaDoorHtV
import Derived.Test.YtnhjbcjeeilicaaDoorHtX
namespace Go.Proofs.YtnhjbcjeeilicaaDoor.HtAA
open Go.RowKit Go.Proofs.YtnhjbcjeeilicaaDoor Go.Proofs.YtnhjbcjeeilicaaDoor.Ht Go.Proofs.YtnhjbcjeeilicaaDoor.HtW Go.Proofs.YtnhjbcjeeilicaaDoor.HtC Go.Proofs.YtnhjbcjeeilicaaDoor.HtG Go.Proofs.YtnhjbcjeeilicaaDoor.HtI Go.Proofs.YtnhjbcjeeilicaaDoor.HtK Go.Proofs.YtnhjbcjeeilicaaDoor.HtN Go.Proofs.YtnhjbcjeeilicaaDoor.HtU Go.Proofs.YtnhjbcjeeilicaaDoor.HtX

theorem no_same (w : World) : Calls Tryd.prog 20 #[noReq, noReq] w fun e w' => e = .returned (.bool true) ∧ Below w.heap.size w w' := by
  refine (same [] [] [] [] [] [] [] [] (a := none) (a' := none) (ab := none) (ab' := none) 0 0 0 0 w (.inl rfl) (.inl rfl) ⟨Nat.le_refl _, fun _ => rfl, .inl rfl⟩ ⟨Nat.le_refl _, fun _ => rfl, .inl rfl⟩ (by simp)).mono ?_
  rintro e w' ⟨rfl, hb⟩
  exact ⟨by rw [eqR_yes], hb⟩
theorem box_no (w : World) : Rq w.heap.size (w.alloc (.cells #[.string ⟨#[]⟩, .string ⟨#[]⟩, .slice none 0 0, .slice none 0 0] 25)) (.string ⟨#[]⟩) (.string ⟨#[]⟩) (.slice none 0 0) (.slice none 0 0) := heap_alloc_new _ _

theorem own_fresh' (w : World) (base n : Nat) (hn : n = w.heap.size) (h : base ≤ n) : (w.alloc (.cells #[] 5)).ownsRow base 5 1 (.slice (some ⟨n, 0, none⟩) 0 0) 0 [] := by
  subst hn
  exact own_fresh w base h
theorem parse' (a : Option Addr) (b : List UInt8) (c n : Nat) (w : World) {aR aL : Addr} (hn : n = b.length) (hb : Bs w a b c) (hs : b.length ≤ 140737488355328) (hm : Mx w) (he : Errs w aR aL) :
    Calls Tryd.prog 19 #[.slice a n c] w fun e w' => ParsePost w b aR aL e w' ∧ Below w.heap.size w w' := by
  subst hn
  exact parse a b c w hb hs hm he
theorem n_le {b m t : List UInt8} {fs : List Fld} {body : List UInt8} {n : Nat} (h : Ht.parse b = .ok m t fs body n) : n ≤ 3072 := by
  obtain ⟨i, k, h1, _, h3, _, _, h6⟩ := HtV.parse_ok h
  have := HtV.at_some h1
  have := size_le h3
  omega
/-- append onto an empty row of its own -/
theorem append_first {ops : Array Oper} {rest : List Oper} {o : Oper} {a : Act} {Q : Exit → Act → World → Prop} (w : World) (hg : o.guard = none) (s x : Operand) (hop : o.op = Op.call { callee := Callee.builtin Builtin.append, args := #[s, x], argTypes := #[23, 23] })
    (base n : Nat) (r : List UInt8) (hown : w.ownsRow base 5 1 (.slice (some ⟨n, 0, none⟩) 0 0) 0 []) (aR : Option Addr) (cR : Nat) (hB : Bs w aR r cR) (hbase : base ≤ w.heap.size) (hlen : r.length ≤ 140737488355328)
    (hs : a.eval s = .slice (some ⟨n, 0, none⟩) 0 0) (hx : a.eval x = .slice aR r.length cR)
    (hK : ∀ ar cr w', w'.ownsRow base 5 1 (.slice ar r.length cr) r.length (Lib.byteCells r) → Below base w w' → wpList Tryd.prog ops Q rest (a.put o.dst (.slice ar r.length cr)) w') :
    wpList Tryd.prog ops Q (o :: rest) a w := by
  refine wpList_append_bytes w hg s x hop base _ [] r hown aR cR hB hbase (by simpa using hlen) hs hx ?_
  intro ar cr w' h1 _ h3
  rw [List.length_nil, Nat.zero_add, List.nil_append] at *
  exact hK ar cr w' h1 h3
/-- append onto a row of its own -/
theorem append_more {ops : Array Oper} {rest : List Oper} {o : Oper} {a : Act} {Q : Exit → Act → World → Prop} (w : World) (hg : o.guard = none) (s x : Operand) (hop : o.op = Op.call { callee := Callee.builtin Builtin.append, args := #[s, x], argTypes := #[23, 23] })
    (base : Nat) (l r : List UInt8) {v : Value} (hown : w.ownsRow base 5 1 v l.length (Lib.byteCells l)) (aR : Option Addr) (cR : Nat) (hB : Bs w aR r cR) (hbase : base ≤ w.heap.size) (hlen : l.length + r.length ≤ 140737488355328)
    (hs : a.eval s = v) (hx : a.eval x = .slice aR r.length cR)
    (hK : ∀ ar cr w' n, n = (l ++ r).length → w'.ownsRow base 5 1 (.slice ar n cr) (l ++ r).length (Lib.byteCells (l ++ r)) → Below base w w' → wpList Tryd.prog ops Q rest (a.put o.dst (.slice ar n cr)) w') :
    wpList Tryd.prog ops Q (o :: rest) a w := by
  refine wpList_append_bytes w hg s x hop base _ l r hown aR cR hB hbase hlen hs hx ?_
  intro ar cr w' h1 _ h3
  exact hK ar cr w' _ List.length_append.symm h1 h3

set_option maxHeartbeats 4000000 in
set_option maxRecDepth 100000 in
theorem streams (b r : List UInt8) (cut : Int) {ab aR' : Option Addr} {cb cR : Nat} (w : World) {aR aL : Addr} (hb : Bs w ab b cb) (hr : Bs w aR' r cR) (hbl : b.length ≤ 140737488351232) (hrl : r.length ≤ 140737488351232) (hm : Mx w) (he : Errs w aR aL) (ht : Tab w) :
    Calls Tryd.prog 5 #[.slice ab b.length cb, .slice aR' r.length cR, .int .i64 cut] w fun e w' => e = .returned (.bool true) ∧ Below w.heap.size w w' := by
  have HM := Lib.hid hm; clear hm
  have HE := Lib.hid he; clear he
  have HT := Lib.hid ht; clear ht
  have HB := Lib.hid hb; clear hb
  have HR := Lib.hid hr; clear hr
  cases hP : Ht.parse b with
  | none =>
    go_enter Tryd.func5, Tryd.ntmps5
    go_wp2_with (first | (go_at_call 9; refine (alive w HM.out HE.out HT.out).mono ?_; rintro e w1 ⟨rfl, hb1⟩) | (go_at_call 19; refine (parse ab b cb _ (HB.out.below hb1) (by omega) (HM.out.below hb1) (HE.out.below hb1)).mono ?_; rintro e w2 ⟨hp, hb2⟩; unfold ParsePost at hp; rw [hP] at hp; simp only at hp; subst hp))
    have hb3 := ((hb1.trans (hb2.mono hb1.size)).alloc (hb1.trans (hb2.mono hb1.size)).size (.cells #[.string ⟨#[]⟩, .string ⟨#[]⟩, .slice none 0 0, .slice none 0 0] 25))
    go_wp2_with (first | (go_at_call 20; refine (no_same _).mono ?_; rintro e w4 ⟨rfl, hb4⟩))
    go_ret
    exact ⟨rfl, hb3.trans (hb4.mono hb3.size)⟩
  | no er =>
    cases er
    all_goals
      go_enter Tryd.func5, Tryd.ntmps5
      go_wp2_with (first | (go_at_call 9; refine (alive w HM.out HE.out HT.out).mono ?_; rintro e w1 ⟨rfl, hb1⟩) | (go_at_call 19; refine (parse ab b cb _ (HB.out.below hb1) (by omega) (HM.out.below hb1) (HE.out.below hb1)).mono ?_; rintro e w2 ⟨hp, hb2⟩; unfold ParsePost at hp; rw [hP] at hp; simp only [erv] at hp; subst hp))
      have hb3 := ((hb1.trans (hb2.mono hb1.size)).alloc (hb1.trans (hb2.mono hb1.size)).size (.cells #[.string ⟨#[]⟩, .string ⟨#[]⟩, .slice none 0 0, .slice none 0 0] 25))
      go_wp2_with (first | (go_at_call 20; refine (no_same _).mono ?_; rintro e w4 ⟨rfl, hb4⟩))
      go_ret
      exact ⟨rfl, hb3.trans (hb4.mono hb3.size)⟩
  | ok m t fs bd n =>
    obtain ⟨n4, nb⟩ := HtV.parse_len hP
    have n3 := n_le hP
    obtain ⟨g, o, rfl, -, -⟩ := HB.out.2.2.resolve_left (fun e => by rw [e] at nb; simp at nb; omega)
    have hcap := HB.out.1
    obtain ⟨X1, hX1, rfl⟩ : ∃ X1, X1 = b.take n ∧ X1.length = n := ⟨_, rfl, by rw [List.length_take]; omega⟩
    have hbehind := HtV.parse_behind hP r
    rw [← hX1] at hbehind
    have hcut := Lib.hid (show ∀ k, k < X1.length → Ht.parse (b.take k) = .none from fun k hk => HtV.parse_cut hP hk)
    have HBX := Lib.hid (show Bs w (some ⟨g, o, none⟩) X1 cb by rw [hX1]; exact Bs.take HB.out _ nb)
    have HX1 := Lib.hid hX1; clear hX1
    have HBE := Lib.hid hbehind; clear hbehind
    have z1 : ((X1.length : Int) == 0) = false := by rw [beq_eq_false_iff_ne]; omega
    have z1' : ¬ (X1.length : Int) = 0 := by omega
    have z2 : decide ((X1.length : Int) < 0) = false := decide_eq_false (by omega)
    have z3 : ¬ b.length < X1.length := by omega
    have z4 : (X1.length : Int) ≤ cb := by omega
    have z5 : (0 : Int) ≤ X1.length := by omega
    go_enter Tryd.func5, Tryd.ntmps5
    go_wp2_with (first
      | (go_at_call 9; refine (alive w HM.out HE.out HT.out).mono ?_; rintro e w1 ⟨rfl, hb1⟩)
      | (go_at_call 19; refine (parse _ b cb _ (HB.out.below hb1) (by omega) (HM.out.below hb1) (HE.out.below hb1)).mono ?_; rintro e w2 ⟨hp, hb2⟩; unfold ParsePost at hp; rw [hP] at hp; obtain ⟨af, cf, abd, cbd, rfl, hfs, hown, hf32, -⟩ := hp
         have hB2 := hb1.trans (hb2.mono hb1.size)
         have hA := hB2.alloc hB2.size (.cells #[.string ⟨m.toArray⟩, .string ⟨t.toArray⟩, .slice af fs.length cf, .slice abd bd.length cbd] 25)
         have hB3 := hA.alloc hA.size (.cells #[] 5))
      | (at_builtin; refine append_first _ rfl (.tmp 45) (.tmp 48) rfl (w2.heap.size + 1) (w2.heap.size + 1) X1 (own_fresh' _ _ (w2.heap.size + 1) (World.size_alloc _ _).symm (Nat.le_refl _)) (some ⟨g, o, none⟩) cb (HBX.out.below hB3) ?c1 ?c2 rfl rfl ?_))
    case c1 => simp
    case c2 => omega
    intro a1 c1 w5 o5 b5
    have hz2 := hB2.size
    have hB5 := hB3.trans (b5.mono (Nat.le_succ_of_le hB2.size))
    go_wp2_with (at_builtin; refine append_more _ rfl (.tmp 49) (.tmp 50) rfl (w2.heap.size + 1) X1 r o5 aR' cR (HR.out.below hB5) ?c3 ?c4 rfl rfl ?_)
    case c3 => have := b5.size; simp at this ⊢; omega
    case c4 => omega
    intro a2 c2 w6 o6 b6
    rw [← List.length_append] at o6
    obtain ⟨hb6, -⟩ := bs_own o6
    have hB6 := hB5.trans (b6.mono (by omega))
    have hR2 : Rq w2.heap.size ((w2.alloc (.cells #[.string ⟨m.toArray⟩, .string ⟨t.toArray⟩, .slice af fs.length cf, .slice abd bd.length cbd] 25)).alloc (.cells #[] 5)) (.string ⟨m.toArray⟩) (.string ⟨t.toArray⟩) (.slice af fs.length cf) (.slice abd bd.length cbd) := (Below.heap_alloc _ _ _ (by simp)).trans (heap_alloc_new _ _)
    have hR5 : Rq w2.heap.size w5 (.string ⟨m.toArray⟩) (.string ⟨t.toArray⟩) (.slice af fs.length cf) (.slice abd bd.length cbd) := (b5.block _ (Nat.lt_succ_self _)).trans hR2
    have hR6 : Rq w2.heap.size w6 (.string ⟨m.toArray⟩) (.string ⟨t.toArray⟩) (.slice af fs.length cf) (.slice abd bd.length cbd) := (b6.block _ (Nat.lt_succ_self _)).trans hR5
    have hb26 : Below w2.heap.size w2 w6 := ((((Below.refl w2.heap.size w2).alloc (Nat.le_refl _) (.cells #[.string ⟨m.toArray⟩, .string ⟨t.toArray⟩, .slice af fs.length cf, .slice abd bd.length cbd] 25)).alloc (by simp) (.cells #[] 5)).trans (b5.mono (Nat.le_succ _))).trans (b6.mono (Nat.le_succ _))
    have HFs6 := Lib.hid (hfs.below hb26)
    obtain ⟨hbs2, -⟩ := bs_own hown
    have HBs6 := Lib.hid (hbs2.below hb26)
    clear hR2 hR5 b5 b6 o6 hb26 hfs hown hbs2
    have hz6 := hB6.size
    go_wp2_with (go_at_call 19; refine (parse' a2 (X1 ++ r) c2 _ _ List.length_append.symm hb6 (by rw [List.length_append]; omega) (HM.out.below hB6) (HE.out.below hB6)).mono ?_; rintro e w7 ⟨hp, hb7⟩; unfold ParsePost at hp; rw [HBE.out] at hp; obtain ⟨af', cf', abd', cbd', rfl, hfs', hown', -, -⟩ := hp
                 have hR8 : Rq w2.heap.size (w7.alloc (.cells #[.string ⟨m.toArray⟩, .string ⟨t.toArray⟩, .slice af' fs.length cf', .slice abd' bd.length cbd'] 25)) (.string ⟨m.toArray⟩) (.string ⟨t.toArray⟩) (.slice af fs.length cf) (.slice abd bd.length cbd) := (hR6.below hb7).below ((Below.refl _ _).alloc (Nat.le_refl _) _)
                 have hb8 := (Below.refl w7.heap.size w7).alloc (Nat.le_refl _) (.cells #[.string ⟨m.toArray⟩, .string ⟨t.toArray⟩, .slice af' fs.length cf', .slice abd' bd.length cbd'] 25)
                 obtain ⟨r0, r1, r2, r3, -, -, -, -⟩ := hR8.cells
                 obtain ⟨hbs7, -⟩ := bs_own hown')
    have hB8 := (hB6.trans (hb7.mono hB6.size)).trans (hb8.mono (by have := hb7.size; omega))
    refine (same m t m t bd bd fs fs cf cf' cbd cbd' _ ((HFs6.out.below hb7).below hb8) (hfs'.below hb8) ((HBs6.out.below hb7).below hb8) (hbs7.below hb8) (by omega)).mono ?_
    rintro e w9 ⟨rfl, hb9⟩
    rw [eqR_yes]
    have hB9 := hB8.trans (hb9.mono hB8.size)
    clear hR8 r0 r1 r2 r3 hR6 HFs6 HBs6 hbs7 hfs' hown' hB8 hB6 hb6
    have hn0 : (X1.length : Int) ≠ 0 := by omega
    obtain ⟨d, hd⟩ : ∃ d, Int.tmod cut X1.length = d := ⟨_, rfl⟩
    have d1 := Int.tmod_lt_of_pos cut (show (0 : Int) < X1.length by omega)
    have d2 := Int.lt_tmod_of_pos cut (show (0 : Int) < X1.length by omega)
    rw [hd] at d1 d2
    have d3 : 0 ≤ d + X1.length := by omega
    have d4 : d + X1.length ≤ 9223372036854775807 := by omega
    obtain ⟨k, hk, hkl⟩ : ∃ k : Nat, Int.tmod (d + X1.length) X1.length = k ∧ k < X1.length := by
      have h4 := Int.tmod_nonneg (X1.length : Int) d3
      have h5 := Int.tmod_lt_of_pos (d + X1.length) (show (0 : Int) < X1.length by omega)
      exact ⟨(Int.tmod (d + X1.length) X1.length).toNat, by omega, by omega⟩
    have k0 : (0 : Int) ≤ k := by omega
    have k1 : (k : Int) ≤ cb := by omega
    have hbk := (HB.out.below hB9).part 0 k (by omega) k (Nat.le_refl _)
    rw [List.drop_zero, Nat.add_zero] at hbk
    have hkk : k = (b.take k).length := by rw [List.length_take]; omega
    have HPK := Lib.hid (hcut.out k hkl)
    have HKK := Lib.hid hkk; clear hkk
    go_wp2_with (go_at_call 19; refine (parse' _ (b.take k) k _ _ HKK.out hbk (by rw [← HKK.out]; omega) (HM.out.below hB9) (HE.out.below hB9)).mono ?_; rintro e w10 ⟨hp, hb10⟩; unfold ParsePost at hp; rw [HPK.out] at hp; simp only at hp; subst hp)
    have hb11 := ((hB9.trans (hb10.mono hB9.size)).alloc (hB9.trans (hb10.mono hB9.size)).size (.cells #[.string ⟨#[]⟩, .string ⟨#[]⟩, .slice none 0 0, .slice none 0 0] 25))
    go_wp2_with (first | (go_at_call 20; refine (no_same _).mono ?_; rintro e w12 ⟨rfl, hb12⟩))
    go_ret
    exact ⟨rfl, hb11.trans (hb12.mono hb11.size)⟩
end Go.Proofs.YtnhjbcjeeilicaaDoor.HtAA
