/-
  The walk of package sig's Sign, where it signs. strconv.Atoi at every text, and what sig makes of it.
-/
import Derived.Test.YtidflagmdabfaaaGreatDoorSg01
import Derived.Test.YtidflagmdabfaaaGreatDoorSg08
import Derived.Test.YtidflagmdabfaaaGreatDoorSg09
import Derived.Test.YtidflagmdabfaaaGreatDoorSg10
import Derived.Test.YtidflagmdabfaaaGreatDoorSg16
import Derived.Test.YtidflagmdabfaaaGreatDoorSg17
namespace Go.Proofs.YtidflagmdabfaaaGreatDoor.SgD
open Go.RowKit Go.Proofs.YtidflagmdabfaaaGreatDoor Go.Proofs.YtidflagmdabfaaaGreatDoor.HtW Go.Proofs.YtidflagmdabfaaaGreatDoor.HtC Go.Proofs.YtidflagmdabfaaaGreatDoor.Lf Go.Proofs.YtidflagmdabfaaaGreatDoor.App Go.Proofs.YtidflagmdabfaaaGreatDoor.ShaG Go.Proofs.YtidflagmdabfaaaGreatDoor.Itoa Go.Proofs.YtidflagmdabfaaaGreatDoor.SgA Go.Proofs.YtidflagmdabfaaaGreatDoor.SgB Go.Proofs.YtidflagmdabfaaaGreatDoor.SgC Go.Proofs.YtidflagmdabfaaaGreatDoor.HeldT

def keep (q : Sg.Fld) : Bool := !(q.1 == Sg.xdate) && !(q.1 == Sg.auth)
theorem others_more {fs : List Sg.Fld} {k : Nat} {q : Sg.Fld} (h : fs[k]? = some q) : Sg.others (fs.take (k + 1)) = Sg.others (fs.take k) ++ (if keep q = true then [q] else []) := by
  unfold Sg.others
  rw [List.take_add_one, h, List.filter_append]
  congr 1
  show List.filter _ [q] = _
  rw [List.filter_cons]
  rfl
theorem others_le (fs : List Sg.Fld) (k : Nat) : (Sg.others (fs.take k)).length ≤ fs.length := by
  unfold Sg.others
  exact Nat.le_trans (List.length_filter_le _ _) (by rw [List.length_take]; omega)
theorem own_low {w : World} {base base' : Nat} {e : TypeId} {size : Nat} {v : Value} {n : Nat} {xs : List Value} (h : w.ownsRow base e size v n xs) (hb : base' ≤ base) : w.ownsRow base' e size v n xs :=
  ⟨h.1, h.2.imp id fun ⟨g, cap, cur, h1, h2, h3⟩ => ⟨g, cap, cur, h1, Nat.le_trans hb h2, h3⟩⟩
theorem own_st4 {w : World} {base p : Nat} {e : TypeId} {size : Nat} {v : Value} {n : Nat} {xs : List Value} (h : w.ownsRow base e size v n xs) (hp : p < base) (a b c d : Value) : (st4 w p a b c d).ownsRow base e size v n xs :=
  ownsRow_setCell_below (ownsRow_setCell_below (ownsRow_setCell_below (ownsRow_setCell_below h (a := ⟨p, 0, none⟩) hp a) (a := ⟨p, 1, none⟩) hp b) (a := ⟨p, 2, none⟩) hp c) (a := ⟨p, 3, none⟩) hp d
theorem own_ne {w : World} {base : Nat} {e : TypeId} {size : Nat} {v : Value} {n : Nat} {xs : List Value} (h : w.ownsRow base e size v n xs) {p : Nat} {cs : Array Value} {T : TypeId} {fr : Nat × Nat} (hp : w.heap[p]? = some (.cells cs T fr)) (hne : T ≠ e) : v.ownBlock ≠ some p := by
  intro hv
  rcases h.2 with ⟨rfl, _⟩ | ⟨g, cap, cur, rfl, _, hg, _⟩
  · cases hv
  · obtain rfl : g = p := by simpa [Value.ownBlock] using hv
    rw [hp] at hg
    simp only [Option.some.injEq, Obj.cells.injEq] at hg
    exact hne hg.2.1
theorem own_two {w : World} {b1 b2 : Nat} {e1 e2 : TypeId} {s1 s2 : Nat} {v1 v2 : Value} {n1 n2 : Nat} {x1 x2 : List Value} (h1 : w.ownsRow b1 e1 s1 v1 n1 x1) (h2 : w.ownsRow b2 e2 s2 v2 n2 x2) (hne : e1 ≠ e2) {g : Nat} (hg : v1.ownBlock = some g) : v2.ownBlock ≠ some g := by
  rcases h1.2 with ⟨rfl, _⟩ | ⟨g', cap, cur, rfl, _, hr, _⟩
  · cases hg
  · obtain rfl : g' = g := by simpa [Value.ownBlock] using hg
    exact own_ne h2 hr hne
theorem own_keep {w w' : World} {base : Nat} {e : TypeId} {size : Nat} {v : Value} {n : Nat} {xs : List Value} (h : w.ownsRow base e size v n xs) (hk : ∀ g, v.ownBlock = some g → w'.heap[g]? = w.heap[g]?) : w'.ownsRow base e size v n xs :=
  ⟨h.1, h.2.imp id fun ⟨g, cap, cur, h1, h2, h3, h4⟩ => ⟨g, cap, cur, h1, h2, (hk g (by rw [h1]; rfl)).trans h3, h4⟩⟩
theorem two_cells (w : World) (n : Nat) (v0 v1 : Value) (t : TypeId) (hn : w.heap.size = n) : ∀ (j : Nat) u, [v0, v1][j]? = some u → (w.alloc (.cells #[v0, v1] t)).cell? ((⟨n, 0, none⟩ : Addr).add j) = some u := by
  subst hn
  exact cells_two w v0 v1 t
theorem own_form {w : World} {base : Nat} {e : TypeId} {size : Nat} {v : Value} {n : Nat} {xs : List Value} (h : w.ownsRow base e size v (n + 1) xs) : ∃ g cap, v = .slice (some ⟨g, 0, none⟩) (n + 1) cap := by
  rcases h.2 with ⟨_, h0⟩ | ⟨g, cap, cur, hv, _⟩
  · omega
  · exact ⟨g, cap, hv⟩
theorem World.size_le_alloc (w : World) (o : Obj) : w.heap.size ≤ (w.alloc o).heap.size := by rw [World.size_alloc]; omega
theorem more {w w' : World} {base : Nat} {e : TypeId} {size : Nat} {v v' : Value} {n n' : Nat} {xs ys : List Value} {p : Nat} {a b c d : Value} (h : w.ownsRow base e size v n xs) (h' : w'.ownsRow base e size v' (n' + 1) ys) (hg : w.grownBy w' v.ownBlock) (hq : Rq p w a b c d) (hne : 25 ≠ e) :
    ∃ g cap, v' = .slice (some ⟨g, 0, none⟩) (n' + 1) cap ∧ Rq p w' a b c d ∧ w'.cell? ⟨p, 2, none⟩ = some c ∧ w'.frozen? ⟨p, 2, none⟩ = false := by
  obtain ⟨g, cap, rfl⟩ := own_form h'
  have hq' : Rq p w' a b c d := (hg.block p hq.lt (fun e => own_ne h hq hne e.symm)).trans hq
  obtain ⟨-, -, q1, -, -, -, q2, -⟩ := hq'.cells
  exact ⟨g, cap, rfl, hq', q1, q2⟩
theorem keep_other {w w' : World} {b1 b2 : Nat} {e1 e2 : TypeId} {s1 s2 : Nat} {v1 v2 : Value} {n1 n2 : Nat} {x1 x2 : List Value} (hu : w.ownsRow b1 e1 s1 v1 n1 x1) (h : w.ownsRow b2 e2 s2 v2 n2 x2) (hg : w.grownBy w' v2.ownBlock) (hne : e1 ≠ e2) : w'.ownsRow b1 e1 s1 v1 n1 x1 :=
  own_keep hu fun g hg' => hg.block g (hu.lt g hg').2 (fun e => own_two hu h hne hg' e.symm)
theorem below_more {w0 w w' : World} {b : Nat} {e : TypeId} {s : Nat} {v : Value} {n : Nat} {xs : List Value} (hb : Below b w0 w) (h : w.ownsRow b e s v n xs) (hg : w.grownBy w' v.ownBlock) (hs : b ≤ w.heap.size) : Below b w0 w' :=
  hb.grown hg hs (fun j hj => (h.lt j hj).1)
theorem four_cells (w : World) (a b c d : ByteArray) (t : TypeId) : ∀ (j : Nat) u, [Value.string a, .string b, .string c, .string d][j]? = some u → (w.alloc (.cells #[.string a, .string b, .string c, .string d] t)).cell? ((⟨w.heap.size, 0, none⟩ : Addr).add j) = some u := by
  intro j x hj
  rw [addr_add, Lib.cell_of_heap (heap_alloc_new _ _), Nat.zero_add]
  match j, hj with
  | 0, hj => simp at hj; subst hj; rfl
  | 1, hj => simp at hj; subst hj; rfl
  | 2, hj => simp at hj; subst hj; rfl
  | 3, hj => simp at hj; subst hj; rfl
  | n + 4, hj => simp at hj
theorem step_append_own {ops : Array Oper} {o : Oper} {A : Act} {w : World} {K : Act → World → Prop} {Q : Exit → Act → World → Prop} {E : Prop} (hg : o.guard = none) (s x : Operand) (hop : o.op = Op.call { callee := Callee.builtin Builtin.append, args := #[s, x], argTypes := #[22, 22] })
    (base : Nat) (v : Value) (L : List Sg.Fld) (a b c d : ByteArray) (hs : A.eval s = v) (hown : w.ownsRow base 91 2 v L.length (fcells L)) (hx : A.eval x = .slice (some ⟨w.heap.size, 0, none⟩) 2 2) (hl : L.length ≤ 4294967296) (hbase : base ≤ w.heap.size)
    (hK : ∀ v' w', w'.ownsRow base 91 2 v' (L.length + 1 + 1) (fcells L ++ [.string a, .string b, .string c, .string d]) → (w.alloc (.cells #[.string a, .string b, .string c, .string d] 91)).grownBy w' v.ownBlock → K (A.put o.dst v') w') :
    if Region.wanted o (yielded ops A.tmps) = true then Oper.wp Tryz.prog o A (w.alloc (.cells #[.string a, .string b, .string c, .string d] 91)) K Q else E := by
  have hw : Region.wanted o (yielded ops A.tmps) = true := by simp [Region.wanted, hg]
  rw [if_pos hw]
  obtain ⟨i0, hi, hz0, hz1, hz2⟩ := info_parts infoField
  refine wp_append_own (w.alloc (.cells #[.string a, .string b, .string c, .string d] 91)) s x 22 hop base 91 i0 (.agg #[.string ⟨#[]⟩, .string ⟨#[]⟩]) 2 32 Tryz.underlying22 hi hz0 hz1 hz2 rfl (by decide) v L.length _ hs (hown.alloc _) ⟨w.heap.size, 0, none⟩ 2 2 [.string a, .string b, .string c, .string d] hx rfl (four_cells w a b c d _) ?_ (by unfold maxLen; omega) (by omega) (by rw [World.size_alloc]; omega) ?_
  · intro u hu
    simp only [List.mem_cons, List.not_mem_nil, or_false] at hu
    rcases hu with rfl | rfl | rfl | rfl <;> rfl
  · intro v' w' h1 h2 _
    exact hK v' w' h1 h2
def St (w4 : World) (p : Nat) (m t bd : List UInt8) (fv : Value) (L : List Sg.Fld) (ar : Option Addr) (cr : Nat) (W : World) : Prop :=
  W.ownsRow w4.heap.size 91 2 fv L.length (fcells L) ∧ W.ownsRow w4.heap.size 5 1 (.slice ar bd.length cr) bd.length (Lib.byteCells bd) ∧ Rq p W (.string ⟨m.toArray⟩) (.string ⟨t.toArray⟩) fv (.slice ar bd.length cr) ∧ Below w4.heap.size w4 W
theorem T_next {w4 W W' : World} {p kb : Nat} {m t bd : List UInt8} {fv nv sv : Value} {L : List Sg.Fld} {ar : Option Addr} {cr : Nat} (h : ((W.cell? ⟨kb, 0, none⟩ = some nv ∧ W.cell? ⟨kb, 1, none⟩ = some sv) ∧ W.cell? ⟨p, 2, none⟩ = some fv) ∧ St w4 p m t bd fv L ar cr W) (hb : Below W.heap.size W W') :
    ((W'.cell? ⟨kb, 0, none⟩ = some nv ∧ W'.cell? ⟨kb, 1, none⟩ = some sv) ∧ W'.cell? ⟨p, 2, none⟩ = some fv) ∧ St w4 p m t bd fv L ar cr W' :=
  ⟨⟨⟨(hb.cell (World.block_lt_of_cell? W _ h.1.1.1)).trans h.1.1.1, (hb.cell (World.block_lt_of_cell? W _ h.1.1.2)).trans h.1.1.2⟩, (hb.cell (World.block_lt_of_cell? W _ h.1.2)).trans h.1.2⟩,
    Com.own_below h.2.1 hb, Com.own_below h.2.2.1 hb, h.2.2.2.1.below hb, h.2.2.2.2.trans (hb.mono h.2.2.2.2.size)⟩
/-- at a normal end -/
def onN (M : Act → World → Prop) : Exit → Act → World → Prop
  | .normal, A, W => M A W
  | _, _, _ => False
/-- what stands behind the answer's making -/
def Met (m t bd : List UInt8) (w4 : World) (fB fK fO fD fX : Value) (A : Act) (W : World) : Prop :=
  FrS fD fB fK fO .nilIface fX (fun v dl => dl = [] ∧ ∃ p ar cr, v = .pointer (some ⟨p, 0, none⟩) ∧ w4.heap.size ≤ p ∧ Rq p W (.string ⟨m.toArray⟩) (.string ⟨t.toArray⟩) (.slice none 0 0) (.slice ar bd.length cr) ∧ W.ownsRow w4.heap.size 5 1 (.slice ar bd.length cr) bd.length (Lib.byteCells bd) ∧ Below w4.heap.size w4 W) A

set_option maxHeartbeats 4000000 in
set_option maxRecDepth 100000 in
theorem sign_yes (m t bd : List UInt8) (fs : List Sg.Fld) (n s : List UInt8) {ab af : Option Addr} (cb cf : Nat) (date : Int) (w : World) {aU aR aD aK : Addr} {x : List UInt8} (hE : Env w aU aR aD aK) (hb : Bs w ab bd cb) (hf : Fs w af fs) (ht : t.length ≤ 16777215) (hm : m.length ≤ 16777216) (hbl : bd.length ≤ 140737488350000) (h0 : -9223372036854775808 ≤ date) (h1 : date ≤ 9223372036854775807)
    (hno : Sg.text m t bd date = .ok x) (hnl : n.length ≤ 16777216) (hsl : s.length ≤ 140737488340000) (hfl : fs.length ≤ 4294967296) (hxl : x.length ≤ 140737488340000) (hg : Sg.goodName n = true) :
    Calls Tryz.prog 36 #[.agg #[.string ⟨m.toArray⟩, .string ⟨t.toArray⟩, .slice af fs.length cf, .slice ab bd.length cb], .agg #[.string ⟨n.toArray⟩, .string ⟨s.toArray⟩], .int .i64 date] w fun e w' => SignPost aU aR aD aK m t bd w.heap.size w' e (.ok (Sg.others fs ++ Sg.two date n (Sg.sigOf x s date))) ∧ Below w.heap.size w w' := by
  have E := Lib.hid hE; clear hE
  have HB := Lib.hid hb; clear hb
  have HF := Lib.hid hf; clear hf
  obtain ⟨w3, hw3, hb3, hz3, hq3, hk3, hr3⟩ : ∃ w3 : World, w3 = (((w.alloc (.cells #[.string ⟨m.toArray⟩, .string ⟨t.toArray⟩, .slice af fs.length cf, .slice ab bd.length cb] 25)).alloc (.cells #[.string ⟨n.toArray⟩, .string ⟨s.toArray⟩] 71)).alloc (.cells #[.string ⟨#[]⟩, .string ⟨#[]⟩, .slice none 0 0, .slice none 0 0] 25)) ∧ Below w.heap.size w w3 ∧ w3.heap.size = w.heap.size + 3 ∧ Rq (w.heap.size + 2) w3 (.string ⟨#[]⟩) (.string ⟨#[]⟩) (.slice none 0 0) (.slice none 0 0) ∧ w3.heap[w.heap.size + 1]? = some (.cells #[.string ⟨n.toArray⟩, .string ⟨s.toArray⟩] 71 (0, 0)) ∧ Rq w.heap.size w3 (.string ⟨m.toArray⟩) (.string ⟨t.toArray⟩) (.slice af fs.length cf) (.slice ab bd.length cb) := by
    refine ⟨_, rfl, (((Below.refl _ _).alloc (Nat.le_refl _) _).alloc (by simp) _).alloc (by simp; omega) _, by simp, ?_, (Below.heap_alloc _ _ _ (by simp)).trans (heap_alloc_at1 _ _), (Below.heap_alloc _ _ _ (by simp; omega)).trans ((Below.heap_alloc _ _ _ (by simp)).trans (heap_alloc_new _ _))⟩
    have := heap_alloc_new ((w.alloc (.cells #[.string ⟨m.toArray⟩, .string ⟨t.toArray⟩, .slice af fs.length cf, .slice ab bd.length cb] 25)).alloc (.cells #[.string ⟨n.toArray⟩, .string ⟨s.toArray⟩] 71)) (.cells #[.string ⟨#[]⟩, .string ⟨#[]⟩, .slice none 0 0, .slice none 0 0] 25)
    rwa [World.size_alloc, World.size_alloc] at this
  have hT := text m t bd (.slice af fs.length cf) cb date w3 (E.out.below hb3) (HB.out.below hb3) ht hm hbl h0 h1
  rw [hno, hw3, show tv aU aR aD aK (.ok x) = .tuple #[.string ⟨x.toArray⟩, .nilIface] from rfl] at hT
  have KT := Lib.hid hT; clear hT
  go_enter Tryz.func36, Tryz.ntmps36
  go_wp2_with (first
    | (go_at_call 35; refine KT.out.mono ?_; rintro e w4 ⟨rfl, hb4⟩; rw [← hw3] at hb4; have hk4 := (hb4.block _ (by omega)).trans hk3; have k0 := Lib.cell_of_heap (j := 0) hk4; have hr4 := hr3.below hb4; obtain ⟨b0, b1, b2, b3, -, -, -, -⟩ := hr4.cells)
    | (go_at_call 73; refine (goodName ⟨n.toArray⟩ _ (by rw [Com.size_mk]; omega)).mono ?_; rintro e w5 ⟨rfl, hw5⟩; subst hw5; rw [show Sg.goodName (ByteArray.mk n.toArray).data.toList = true from hg]))
  have hB4 : Below w.heap.size w w4 := hb3.trans (hb4.mono (by omega))
  have hz4 : w.heap.size + 3 ≤ w4.heap.size := by have := hb4.size; omega
  have hl1 : w.heap.size < w4.heap.size := by omega
  have hl2 : ¬ (w.heap.size = w4.heap.size) := by omega
  have hl3 : ¬ (w4.heap.size = w.heap.size) := by omega
  have HB4 := Lib.hid (show Bs w4.drew ab bd cb from HB.out.below hB4.drew)
  refine Code.wp_mono (Q := onN (Met m t bd w4 (.pointer (some ⟨w.heap.size, 0, none⟩)) (.pointer (some ⟨w.heap.size + 1, 0, none⟩)) (.pointer (some ⟨w.heap.size + 2, 0, none⟩)) (.int .i64 date) (.string ⟨x.toArray⟩))) ?hq ?hw
  case hw =>
    have HR4 := Lib.hid hr4
    have HL1 := Lib.hid hl1
    clear KT hw3 hk3 hr3 hq3 k0 hk4 hr4 b2 hb3 hb4 hz3
    go_region_held3 (fun W => (W.cell? ⟨w.heap.size, 0, none⟩ = some (.string ⟨m.toArray⟩) ∧ W.cell? ⟨w.heap.size, 1, none⟩ = some (.string ⟨t.toArray⟩)) ∧ W.cell? ⟨w.heap.size, 3, none⟩ = some (.slice ab bd.length cb))
      (first | exact ⟨⟨b0, b1⟩, b3⟩ | exact ⟨⟨g0, g1⟩, g3⟩ | go_keep)
      (first | (refine step_append_nil (by rfl) (.const (.slice none 0 0)) (.tmp 34) (by rfl) _ bd ab cb ?_ (Nat.le_refl _) (by omega) (by rfl) (by rfl) ?_; (first | exact HB4.out | exact HB4.out.below ((Below.refl _ _).alloc (Nat.le_refl _) _)); intro ar cr w6 ho6 hb6; have hr6 : Rq w.heap.size w6 (.string ⟨m.toArray⟩) (.string ⟨t.toArray⟩) (.slice af fs.length cf) (.slice ab bd.length cb) := (hb6.block w.heap.size (by first | exact HL1.out | (simp; omega))).trans (by first | exact HR4.out | exact (Below.heap_alloc _ _ _ HL1.out).trans HR4.out); obtain ⟨g0, g1, g2, g3, -, -, -, -⟩ := hr6.cells; have hl6 := hr6.lt; have hl7 : ¬ w.heap.size = w6.heap.size := (by omega); have hl8 : ¬ w6.heap.size = w.heap.size := (by omega); (try have hq6 := (hb6.block w4.heap.size (by simp)).trans (heap_alloc_new _ _)); (try have c0 := Lib.cell_of_heap (j := 0) hq6); (try have c1 := Lib.cell_of_heap (j := 1) hq6); (try have c2 := Lib.cell_of_heap (j := 2) hq6); (try have c3 := Lib.cell_of_heap (j := 3) hq6); (try have f0 := Lib.frozen_of_heap hq6 0); (try have f1 := Lib.frozen_of_heap hq6 1); (try have f2 := Lib.frozen_of_heap hq6 2); (try have f3 := Lib.frozen_of_heap hq6 3)))
    · exact ⟨_, _, rfl, rfl, rfl, rfl, rfl, rfl, rfl, rfl, _, rfl, rfl, w6.heap.size, ar, cr, rfl, hb6.size, heap_alloc_new _ _, own_alloc ho6 _, ((Below.refl w4.heap.size w4).drew.trans hb6).alloc hb6.size _⟩
    · have hz6 : w4.heap.size + 1 ≤ w6.heap.size := by have := hb6.size; simp at this; omega
      have ho7 : w6.ownsRow (w4.heap.size + 1) 5 1 (.slice ar bd.length cr) bd.length (Lib.byteCells bd) := by
        have e : ∀ o : Obj, (w4.alloc o).drew.heap.size = w4.heap.size + 1 := fun o => World.size_alloc w4 o
        rw [← e]
        exact ho6
      exact ⟨_, _, rfl, rfl, rfl, rfl, rfl, rfl, rfl, rfl, _, rfl, rfl, w4.heap.size, ar, cr, rfl, Nat.le_refl _, Rq.put hq6 _ _ _ _, own_low (own_st4 ho7 (Nat.lt_succ_self _) _ _ _ _) (Nat.le_succ _), below_four' (((Below.refl w4.heap.size w4).alloc (Nat.le_refl _) _).drew.trans (hb6.mono (by simp))) (Nat.le_refl _) _ _ _ _⟩
  case hq =>
    intro e A W hM
    cases e with
    | normal =>
      refine unpackS (P := fun A => Exit.then _ _ Exit.normal A W) hM ?_
      intros
      rename_i hrel
      obtain ⟨rfl, p, ar, cr, rfl, hp4, hQ, hO, hU⟩ := hrel
      have hrW := hr4.below hU
      obtain ⟨x0, x1, x2, x3, -, -, -, -⟩ := hrW.cells
      have HFW := Lib.hid (show Fs w4 af fs from HF.out.below hB4)
      have HQ := Lib.hid hQ; clear hQ
      have HO := Lib.hid hO; clear hO
      have HU := Lib.hid hU; clear hU
      have hE4 := Lib.hid (E.out.below hB4)
      have HQ4 := Lib.hid (hq3.below hb4)
      have HB4' := Lib.hid hB4
      have HZ := Lib.hid (show w.heap.size ≤ w4.heap.size by omega)
      have HZ2 := Lib.hid (show w.heap.size + 2 < w4.heap.size by omega)
      clear KT hw3 hk3 hr3 hq3 k0 b0 b1 b2 b3 hb3 hb4 hz3 hM
      go_wp2_with fail
      clear x0 x1 x2 x3 hrW hl2 hl3
      go_loopg [40] fs.length (fun g v40 wr => ∃ (k : Nat) (a2 : Option Addr) (c2 : Nat), k + g = fs.length ∧ v40 = .int .i64 k ∧ Hid (Rq p wr (.string ⟨m.toArray⟩) (.string ⟨t.toArray⟩) (.slice a2 (Sg.others (fs.take k)).length c2) (.slice ar bd.length cr)) ∧ Hid (wr.ownsRow w4.heap.size 91 2 (.slice a2 (Sg.others (fs.take k)).length c2) (Sg.others (fs.take k)).length (fcells (Sg.others (fs.take k)))) ∧ Hid (wr.ownsRow w4.heap.size 5 1 (.slice ar bd.length cr) bd.length (Lib.byteCells bd)) ∧ Hid (Below w4.heap.size w4 wr))
      case atStart => exact ⟨0, none, 0, by omega, rfl, HQ, ⟨rfl, .inl ⟨rfl, rfl⟩⟩, HO, HU⟩
      case round =>
        clear HQ HO HU
        obtain ⟨k, a2, c2, hkg, rfl, HQ, HO2, HO, HU⟩ := hrel
        have HG := Lib.hid hkg
        by_cases hlt : k < fs.length
        · obtain ⟨q, hq⟩ : ∃ q, fs[k]? = some q := ⟨_, List.getElem?_eq_getElem hlt⟩
          obtain ⟨nm, vl⟩ := q
          obtain ⟨b, o, rfl, hbl', c0, c1⟩ := Fs.at (HFW.out.below HU.out) hq
          simp only at c0 c1
          have HMo := Lib.hid (others_more hq)
          have hpl := HQ.out.lt
          obtain ⟨y0, y1, y2, y3, -, -, f2, -⟩ := HQ.out.cells
          have hole := others_le fs k
          have z0 : (0 : Int) ≤ (k : Int) := by omega
          have z1 : (k : Int) < (fs.length : Int) := by omega
          clear hkg hq
          by_cases e1 : nm = [120, 45, 100, 97, 116, 101]
          · have hkf : keep (nm, vl) = false := by rw [e1]; rfl
            rw [if_neg (by rw [hkf]; decide), List.append_nil] at HMo
            go_wp2_with fail
            rw [← HMo.out] at HQ HO2
            go_roundg (fs.length - (k + 1))
            case measure => have := HG.out; omega
            case rel => exact ⟨k + 1, a2, c2, by have := HG.out; omega, by go_num, HQ.out.below ((Below.refl _ _).alloc (Nat.le_refl _) _), HO2.out.alloc _, HO.out.alloc _, HU.out.alloc HU.out.size _⟩
          · have t1 : (nm == [120, 45, 100, 97, 116, 101]) = false := by rw [beq_eq_false_iff_ne]; exact e1
            by_cases e2 : nm = [97, 117, 116, 104, 111, 114, 105, 122, 97, 116, 105, 111, 110]
            · have hkf : keep (nm, vl) = false := by rw [e2]; rfl
              rw [if_neg (by rw [hkf]; decide), List.append_nil] at HMo
              go_wp2_with fail
              rw [← HMo.out] at HQ HO2
              go_roundg (fs.length - (k + 1))
              case measure => have := HG.out; omega
              case rel => exact ⟨k + 1, a2, c2, by have := HG.out; omega, by go_num, HQ.out.below ((Below.refl _ _).alloc (Nat.le_refl _) _), HO2.out.alloc _, HO.out.alloc _, HU.out.alloc HU.out.size _⟩
            · have t2 : (nm == [97, 117, 116, 104, 111, 114, 105, 122, 97, 116, 105, 111, 110]) = false := by rw [beq_eq_false_iff_ne]; exact e2
              have hkt : keep (nm, vl) = true := by
                show (!(nm == Sg.xdate) && !(nm == Sg.auth)) = true
                rw [show (nm == Sg.xdate) = false from t1, show (nm == Sg.auth) = false from t2]
                rfl
              rw [if_pos hkt] at HMo
              obtain ⟨i0, hi, hz0, hz1, hz2⟩ := info_parts infoField
              have hzr := HU.out.size
              go_wp2_with (at_builtin; go_loud (refine wpList_append_own _ rfl (.tmp 53) (.tmp 55) 22 rfl w4.heap.size 91 i0 (.agg #[.string ⟨#[]⟩, .string ⟨#[]⟩]) 2 32 Tryz.underlying22 hi hz0 hz1 hz2 rfl (by decide) _ _ _ rfl ((HO2.out.alloc _).alloc _) ⟨wr.heap.size + 1, 0, none⟩ 1 1 [.string ⟨nm.toArray⟩, .string ⟨vl.toArray⟩] rfl rfl (two_cells _ _ _ _ _ (World.size_alloc _ _)) (by simp [Value.oneCell']) (by unfold maxLen; omega) (by omega) (by simp; omega) ?_; intro v' W5 hown' hgrow _; obtain ⟨g4, cap4, rfl, hQ5, q1, q2⟩ := more ((HO2.out.alloc _).alloc _) hown' hgrow (HQ.out.below (((Below.refl wr.heap.size wr).alloc (Nat.le_refl _) _).alloc (World.size_le_alloc _ _) _)) (show 25 ≠ 91 by decide)))
              have hOF : W5.ownsRow w4.heap.size 91 2 (.slice (some ⟨g4, 0, none⟩) (Sg.others (fs.take (k + 1))).length cap4) (Sg.others (fs.take (k + 1))).length (fcells (Sg.others (fs.take (k + 1)))) := by
                rw [HMo.out, fcells_snoc, List.length_append]
                exact hown'
              have hgp : g4 ≠ p := fun e => own_ne hown' (show Rq p W5 _ _ _ _ from hQ5) (show 25 ≠ 91 by decide) (by rw [← e]; rfl)
              have hOB : W5.ownsRow w4.heap.size 5 1 (.slice ar bd.length cr) bd.length (Lib.byteCells bd) := keep_other ((HO.out.alloc _).alloc _) ((HO2.out.alloc _).alloc _) hgrow (show 5 ≠ 91 by decide)
              have hUB : Below w4.heap.size w4 W5 := below_more ((HU.out.alloc HU.out.size _).alloc (Nat.le_trans HU.out.size (World.size_le_alloc _ _)) _) ((HO2.out.alloc _).alloc _) hgrow (Nat.le_trans HU.out.size (Nat.le_trans (World.size_le_alloc _ _) (World.size_le_alloc _ _)))
              go_roundg (fs.length - (k + 1))
              case measure => have := HG.out; omega
              case rel => exact ⟨k + 1, some ⟨g4, 0, none⟩, cap4, by have := HG.out; omega, by go_num, (by rw [HMo.out, List.length_append]; exact Rq.put3 hQ5 _), own_keep hOF (fun g hg => Below.heap_setCell _ _ _ _ (fun e => own_ne hOF (show Rq p W5 _ _ _ _ from hQ5) (show 25 ≠ 91 by decide) (hg.trans (congrArg some e)))), own_keep hOB (fun g hg => Below.heap_setCell _ _ _ _ (by rintro rfl; exact own_ne hOB (show Rq _ W5 _ _ _ _ from hQ5) (show 25 ≠ 5 by decide) hg)), hUB.setCell hp4 _⟩
        · obtain rfl : k = fs.length := by omega
          rw [List.take_length] at HQ HO2
          obtain ⟨y0, y1, y2, y3, -, -, f2, -⟩ := HQ.out.cells
          have z1 : ¬ ((fs.length : Int) < (fs.length : Int)) := by omega
          have hkW := (HU.out.block _ (by omega)).trans hk4
          have k0 := Lib.cell_of_heap (j := 0) hkW
          have k1 := Lib.cell_of_heap (j := 1) hkW
          have KI := Lib.hid (show ∀ W : World, ((W.cell? ⟨w.heap.size + 1, 0, none⟩ = some (.string ⟨n.toArray⟩) ∧ W.cell? ⟨w.heap.size + 1, 1, none⟩ = some (.string ⟨s.toArray⟩)) ∧ W.cell? ⟨p, 2, none⟩ = some (.slice a2 (Sg.others fs).length c2)) ∧ St w4 p m t bd (.slice a2 (Sg.others fs).length c2) (Sg.others fs) ar cr W → Calls Tryz.prog 56 #[.int .i64 date] W fun e w' => e = .returned (.string ⟨(Lib.itoa date).toArray⟩) ∧ (((w'.cell? ⟨w.heap.size + 1, 0, none⟩ = some (.string ⟨n.toArray⟩) ∧ w'.cell? ⟨w.heap.size + 1, 1, none⟩ = some (.string ⟨s.toArray⟩)) ∧ w'.cell? ⟨p, 2, none⟩ = some (.slice a2 (Sg.others fs).length c2)) ∧ St w4 p m t bd (.slice a2 (Sg.others fs).length c2) (Sg.others fs) ar cr w') from fun W hW => by
            refine (itoa date h0 h1 W (hE4.out.tab.below hW.2.2.2.2)).mono ?_
            rintro e w9 ⟨rfl, hb9⟩
            exact ⟨rfl, T_next hW hb9⟩)
          have KS := Lib.hid (show ∀ W : World, ((W.cell? ⟨w.heap.size + 1, 0, none⟩ = some (.string ⟨n.toArray⟩) ∧ W.cell? ⟨w.heap.size + 1, 1, none⟩ = some (.string ⟨s.toArray⟩)) ∧ W.cell? ⟨p, 2, none⟩ = some (.slice a2 (Sg.others fs).length c2)) ∧ St w4 p m t bd (.slice a2 (Sg.others fs).length c2) (Sg.others fs) ar cr W → Calls Tryz.prog 74 #[.string ⟨x.toArray⟩, .string ⟨s.toArray⟩, .int .i64 date] W fun e w' => e = .returned (.string ⟨(Sg.sigOf x s date).toArray⟩) ∧ (((w'.cell? ⟨w.heap.size + 1, 0, none⟩ = some (.string ⟨n.toArray⟩) ∧ w'.cell? ⟨w.heap.size + 1, 1, none⟩ = some (.string ⟨s.toArray⟩)) ∧ w'.cell? ⟨p, 2, none⟩ = some (.slice a2 (Sg.others fs).length c2)) ∧ St w4 p m t bd (.slice a2 (Sg.others fs).length c2) (Sg.others fs) ar cr w') from fun W hW => by
            refine (signature x s date W hxl hsl h0 h1 (hE4.out.tab.below hW.2.2.2.2)).mono ?_
            rintro e w9 ⟨rfl, hb9⟩
            exact ⟨rfl, T_next hW hb9⟩)
          have HSt := Lib.hid (show St w4 p m t bd (.slice a2 (Sg.others fs).length c2) (Sg.others fs) ar cr wr from ⟨HO2.out, HO.out, HQ.out, HU.out⟩)
          have hsg : (Sg.sigOf x s date).length ≤ 1000 := by
            rw [show Sg.sigOf x s date = Nm.hex (Sha.mac (Sg.derive s [Lib.itoa date, Sg.s3]) x) from rfl, Nm.hex_length, Sha.mac_length]
            omega
          obtain ⟨R, hR⟩ : ∃ R, R = Sg.others fs ++ Sg.two date n (Sg.sigOf x s date) := ⟨_, rfl⟩
          have HRr := Lib.hid hR
          have hLl : (Sg.others fs).length ≤ fs.length := List.length_filter_le _ _
          rw [show Sg.two date n (Sg.sigOf x s date) = [(Sg.xdate, Lib.itoa date), (Sg.auth, Sg.mark n (Sg.sigOf x s date))] from rfl] at HRr
          have HR0 := Lib.hid hR
          clear hR
          obtain ⟨V0, hV0⟩ : ∃ V, V = Sg.sigOf x s date := ⟨_, rfl⟩
          obtain ⟨I0, hI0⟩ : ∃ V, V = Lib.itoa date := ⟨_, rfl⟩
          obtain ⟨L, hL0⟩ : ∃ V, V = Sg.others fs := ⟨_, rfl⟩
          rw [← hV0] at hsg KS HRr
          rw [← hI0] at KI HRr
          rw [← hL0] at KI KS HRr HSt hLl HQ HO2 y2
          clear hV0 hI0 hL0
          have HT0 := Lib.hid (T_next (W' := wr.drew) ⟨⟨⟨k0, k1⟩, y2⟩, HSt.out⟩ (Below.refl _ _).drew)
          have KB := Lib.hid (show ∀ W : World, Below w4.heap.size w4 W → W.cell? ⟨w.heap.size + 1, 0, none⟩ = some (.string ⟨n.toArray⟩) ∧ W.cell? ⟨w.heap.size + 1, 1, none⟩ = some (.string ⟨s.toArray⟩) from fun W hW => ⟨Lib.cell_of_heap (j := 0) ((hW.block _ (by omega)).trans hk4), Lib.cell_of_heap (j := 1) ((hW.block _ (by omega)).trans hk4)⟩)
          have s1 : ¬ 9223372036854775807 < 9 + n.length := by omega
          have s2 : ¬ 9223372036854775807 < 9 + n.length + 1 := by omega
          have s3 : ¬ 9223372036854775807 < 9 + n.length + 1 + V0.length := by omega
          have hpl := HQ.out.lt
          have HHL := Lib.hid hLl
          have HFL := Lib.hid hfl
          have HXX := Lib.hid hxl
          have HH2 := Lib.hid hsl
          clear hkW hk4 hr4 hkg hLl hfl hxl hsl
          go_wp2_with fail
          refine wp_region_T (fun W => ((W.cell? ⟨w.heap.size + 1, 0, none⟩ = some (.string ⟨n.toArray⟩) ∧ W.cell? ⟨w.heap.size + 1, 1, none⟩ = some (.string ⟨s.toArray⟩)) ∧ W.cell? ⟨p, 2, none⟩ = some (.slice a2 L.length c2)) ∧ Below w4.heap.size w4 W) 19 (by kernel_rfl) ?_
          refine wpAnyT_take (i := 0) (v := ?v0) rfl (by kernel_rfl) (by kernel_rfl) (by kernel_rfl) (by kernel_rfl) (fun _ _ _ h => h) ⟨HT0.out.1, HT0.out.2.2.2.2⟩ (by rfl) ?hy0 ?hr0
          case hy0 => intro w hSw; go_simp; try with_reducible rfl
          try simp only [Act.put, List.setIfInBounds_toArray]
          refine wpAnyT_take (i := 1) (v := ?v1) rfl (by kernel_rfl) (by kernel_rfl) (by kernel_rfl) (by kernel_rfl) (fun _ _ _ h => h) ⟨HT0.out.1, HT0.out.2.2.2.2⟩ (by rfl) ?hy1 ?hr1
          case hy1 => intro w hSw; go_simp; try with_reducible rfl
          try simp only [Act.put]
          refine wpAnyT_take (i := 2) (v := ?v2) rfl (by kernel_rfl) (by kernel_rfl) (by kernel_rfl) (by kernel_rfl) (fun _ _ _ h => h) ⟨HT0.out.1, HT0.out.2.2.2.2⟩ (by rfl) ?hy2 ?hr2
          case hy2 => intro w hSw; go_simp; try with_reducible rfl
          try simp only [Act.put]
          refine wpAnyT_take (i := 5) (v := ?v5) rfl (by kernel_rfl) (by kernel_rfl) (by kernel_rfl) (by kernel_rfl) (fun _ _ _ h => h) ⟨HT0.out.1, HT0.out.2.2.2.2⟩ (by rfl) ?hy5 ?hr5
          case hy5 => intro w hSw; go_simp; try with_reducible rfl
          try simp only [Act.put]
          refine wpAnyT_take (i := 6) (v := ?v6) rfl (by kernel_rfl) (by kernel_rfl) (by kernel_rfl) (by kernel_rfl) (fun _ _ _ h => h) ⟨HT0.out.1, HT0.out.2.2.2.2⟩ (by rfl) ?hy6 ?hr6
          case hy6 => intro w hSw; go_simp; try with_reducible rfl
          try simp only [Act.put]
          refine wpAnyT_take (i := 7) (v := ?v7) rfl (by kernel_rfl) (by kernel_rfl) (by kernel_rfl) (by kernel_rfl) (fun _ _ _ h => h) ⟨HT0.out.1, HT0.out.2.2.2.2⟩ (by rfl) ?hy7 ?hr7
          case hy7 => intro w hSw; go_simp; try with_reducible rfl
          try simp only [Act.put]
          refine wpAnyT_take (i := 8) (v := ?v8) rfl (by kernel_rfl) (by kernel_rfl) (by kernel_rfl) (by kernel_rfl) (fun _ _ _ h => h) ⟨HT0.out.1, HT0.out.2.2.2.2⟩ (by rfl) ?hy8 ?hr8
          case hy8 => intro w hSw; go_simp; try with_reducible rfl
          try simp only [Act.put]
          refine wpAnyT_take (i := 9) (v := ?v9) rfl (by kernel_rfl) (by kernel_rfl) (by kernel_rfl) (by kernel_rfl) (fun _ _ _ h => h) ⟨HT0.out.1, HT0.out.2.2.2.2⟩ (by rfl) ?hy9 ?hr9
          case hy9 => intro w hSw; go_simp; try with_reducible rfl
          try simp only [Act.put]
          refine wpAnyT_take (i := 10) (v := ?v10) rfl (by kernel_rfl) (by kernel_rfl) (by kernel_rfl) (by kernel_rfl) (fun _ _ _ h => h) ⟨HT0.out.1, HT0.out.2.2.2.2⟩ (by rfl) ?hy10 ?hr10
          case hy10 => intro w hSw; go_simp; try with_reducible rfl
          try simp only [Act.put]
          refine wpAnyT_take (i := 11) (v := ?v11) rfl (by kernel_rfl) (by kernel_rfl) (by kernel_rfl) (by kernel_rfl) (fun _ _ _ h => h) ⟨HT0.out.1, HT0.out.2.2.2.2⟩ (by rfl) ?hy11 ?hr11
          case hy11 => intro w hSw; go_simp; try with_reducible rfl
          try simp only [Act.put]
          refine wpAnyT_take (i := 12) (v := ?v12) rfl (by kernel_rfl) (by kernel_rfl) (by kernel_rfl) (by kernel_rfl) (fun _ _ _ h => h) ⟨HT0.out.1, HT0.out.2.2.2.2⟩ (by rfl) ?hy12 ?hr12
          case hy12 => intro w hSw; go_simp; try with_reducible rfl
          try simp only [Act.put]
          refine wpAnyT_one (i := 3) (by kernel_rfl) rfl (fun K hK => ?_)
          go_simp
          go_at_call 56
          refine (KI.out _ HT0.out).mono ?_
          rintro e w9 ⟨rfl, hS9⟩
          try go_wp2_with fail
          refine hK.out _ _ (fun _ => ⟨hS9.1, hS9.2.2.2.2⟩) ?_
          clear hK K
          try simp only [Act.put, List.setIfInBounds_toArray, List.set_cons_zero, List.set_cons_succ]
          refine wpAnyT_take (i := 4) (v := ?v4) rfl (by kernel_rfl) (by kernel_rfl) (by kernel_rfl) (by kernel_rfl) (fun _ _ _ h => h) ⟨hS9.1, hS9.2.2.2.2⟩ (by rfl) ?hy4 ?hr4
          case hy4 => intro w hSw; go_simp; try with_reducible rfl
          try simp only [Act.put, List.setIfInBounds_toArray]
          refine wpAnyT_one (i := 13) (by kernel_rfl) rfl (fun K hK => ?_)
          go_simp
          go_at_call 74
          refine (KS.out _ hS9).mono ?_
          rintro e w10 ⟨rfl, hS10⟩
          try go_wp2_with fail
          refine hK.out _ _ (fun _ => ⟨hS10.1, hS10.2.2.2.2⟩) ?_
          clear hK K
          try simp only [Act.put, List.setIfInBounds_toArray, List.set_cons_zero, List.set_cons_succ]
          refine wpAnyT_take (i := 14) (v := ?v14) rfl (by kernel_rfl) (by kernel_rfl) (by kernel_rfl) (by kernel_rfl) (fun _ _ _ h => h) ⟨hS10.1, hS10.2.2.2.2⟩ (by rfl) ?hy14 ?hr14
          case hy14 => intro w hSw; go_simp; try with_reducible rfl
          try simp only [Act.put, List.setIfInBounds_toArray]
          refine wpAnyT_take (i := 15) (v := ?v15) rfl (by kernel_rfl) (by kernel_rfl) (by kernel_rfl) (by kernel_rfl) (fun _ _ _ h => h) ⟨hS10.1, hS10.2.2.2.2⟩ (by rfl) ?hy15 ?hr15
          case hy15 => intro w hSw; go_simp; try with_reducible rfl
          try simp only [Act.put]
          refine wpAnyT_one (i := 16) (by kernel_rfl) rfl (fun K hK => ?_)
          go_simp
          refine hK.out _ _ (fun _ => ⟨(T_next hS10 ((Below.refl _ _).alloc (Nat.le_refl _) _)).1, (T_next hS10 ((Below.refl _ _).alloc (Nat.le_refl _) _)).2.2.2.2⟩) ?_
          clear hK K
          try simp only [Act.put, List.setIfInBounds_toArray, List.set_cons_zero, List.set_cons_succ]
          refine wpAnyT_one (i := 17) (by kernel_rfl) rfl (fun K hK => ?_)
          refine step_append_own (by rfl) (.tmp 60) (.tmp 75) (by rfl) w4.heap.size (.slice a2 L.length c2) L _ _ _ _ (by rfl) hS10.2.1 (by rfl) (by have := HHL.out; have := HFL.out; omega) (by exact hS10.2.2.2.2.size) ?_
          intro v' w6 ho6 hg6
          obtain ⟨g6, c6, rfl, hq6, q1, q2⟩ := more (hS10.2.1.alloc _) ho6 hg6 (hS10.2.2.2.1.below ((Below.refl _ _).alloc (Nat.le_refl _) _)) (show 25 ≠ 91 by decide)
          have hO6 := keep_other (hS10.2.2.1.alloc _) (hS10.2.1.alloc _) hg6 (show 5 ≠ 91 by decide)
          have hU6 := below_more (hS10.2.2.2.2.alloc hS10.2.2.2.2.size _) (hS10.2.1.alloc _) hg6 (Nat.le_trans hS10.2.2.2.2.size (World.size_le_alloc _ _))
          refine hK.out _ _ (fun _ => ⟨⟨KB.out _ hU6, q1⟩, hU6⟩) ?_
          clear hK K
          try simp only [Act.put, List.setIfInBounds_toArray]
          refine wpAnyT_take (i := 18) (v := ?v18) rfl (by kernel_rfl) (by kernel_rfl) (by kernel_rfl) (by kernel_rfl) (fun _ _ _ h => h) ⟨⟨KB.out _ hU6, q1⟩, hU6⟩ (by rfl) ?hy18 ?hr18
          case hy18 => intro w hSw; go_simp; try with_reducible rfl
          try simp only [Act.put]
          refine wpAnyT_one (i := 19) (by kernel_rfl) rfl (fun K hK => ?_)
          go_simp
          refine hK.out _ _ (fun h => absurd rfl h) ?_
          clear hK K
          refine wpAnyT_done (by kernel_rfl) ?_ _
          have hRl : R.length = L.length + 1 + 1 := by rw [HRr.out, List.length_append]; rfl
          have ho7 : w6.ownsRow w4.heap.size 91 2 (.slice (some ⟨g6, 0, none⟩) R.length c6) R.length (fcells R) := by
            rw [hRl, HRr.out, show fcells (L ++ [(Sg.xdate, I0), (Sg.auth, Sg.mark n V0)]) = fcells L ++ fcells [(Sg.xdate, I0), (Sg.auth, Sg.mark n V0)] from List.flatMap_append]
            exact ho6
          have hQ7 := Rq.put3 hq6 (.slice (some ⟨g6, 0, none⟩) (L.length + 1 + 1) c6)
          have hF7 := own_keep ho7 (w' := w6.setCell ⟨p, 2, none⟩ (.slice (some ⟨g6, 0, none⟩) (L.length + 1 + 1) c6)) (fun g hg => Below.heap_setCell _ _ _ _ (fun e => own_ne ho7 hq6 (show 25 ≠ 91 by decide) (hg.trans (congrArg some e))))
          have hO7 := own_keep hO6 (w' := w6.setCell ⟨p, 2, none⟩ (.slice (some ⟨g6, 0, none⟩) (L.length + 1 + 1) c6)) (fun g hg => Below.heap_setCell _ _ _ _ (fun e => own_ne hO6 hq6 (show 25 ≠ 5 by decide) (hg.trans (congrArg some e))))
          have hU7 := hU6.setCell (p := ⟨p, 2, none⟩) hp4 (.slice (some ⟨g6, 0, none⟩) (L.length + 1 + 1) c6)
          generalize w6.setCell _ _ = w7 at *
          obtain ⟨v0, v1, v2, v3, -, -, -, -⟩ := hQ7.cells
          have hQr := HQ4.out.below hU7
          obtain ⟨e0, e1, e2, e3, fr0, fr1, fr2, fr3⟩ := hQr.cells
          have hql := hQr.lt
          go_wp2_with fail
          refine bodyPost_ret (Rq.run6 (hQr.put (.string ⟨m.toArray⟩) (.string ⟨t.toArray⟩) (.slice (some ⟨g6, 0, none⟩) (L.length + 1 + 1) c6) (.slice ar bd.length cr)) rfl rfl rfl) rfl ⟨?_, ?_⟩
          · rw [← HR0.out]
            obtain ⟨aF, cF, hv, hc, hFs⟩ := fs_of_own (own_st4 hF7 HZ2.out (.string ⟨m.toArray⟩) (.string ⟨t.toArray⟩) (.slice (some ⟨g6, 0, none⟩) (L.length + 1 + 1) c6) (.slice ar bd.length cr))
            simp only [Value.slice.injEq] at hv
            obtain ⟨rfl, -, rfl⟩ := hv
            exact ⟨_, c6, ar, cr, (by rw [hRl]; rfl), hFs, hc, own_low (own_st4 hO7 HZ2.out _ _ _ _) HZ.out⟩
          · exact below_four' (HB4'.out.trans (hU7.mono HZ.out)) (by omega) _ _ _ _
    | _ => exact hM.elim
end Go.Proofs.YtidflagmdabfaaaGreatDoor.SgD
namespace Go.Proofs.YtidflagmdabfaaaGreatDoor.Ato
open Go.Shelf Go.RowKit Go.Proofs.YtidflagmdabfaaaGreatDoor Go.Proofs.YtidflagmdabfaaaGreatDoor.Ip

theorem itoa_nat (a : Nat) : Lib.itoa (a : Int) = Lib.decDigits a := by
  unfold Lib.itoa
  rw [if_neg (by omega)]
  rfl
/-! Atoi at every text -/
/-- the number that Atoi gives -/
def vA (l : List UInt8) : Int := match Lib.atoiAll l with
  | .ok n => n
  | .range => Lib.atoiSat l
  | _ => 0
theorem vA_in (l : List UInt8) : -9223372036854775808 ≤ vA l ∧ vA l ≤ 9223372036854775807 := by
  unfold vA
  cases h : Lib.atoiAll l with
  | ok v =>
    simp only
    unfold Lib.atoiAll at h
    cases l with
    | nil => cases h
    | cons c r =>
      simp only at h
      split at h
      · cases h
      · cases h
      · split at h
        · cases h
        · split at h
          · cases h
          · rename_i h1 h2
            cases h
            split
            · rename_i h3
              have : ¬ 9223372036854775808 < _ := fun h4 => h2 ⟨h3, h4⟩
              omega
            · rename_i h3
              have : ¬ 9223372036854775808 ≤ _ := fun h4 => h1 ⟨h3, h4⟩
              omega
  | range => simp only [Lib.atoiSat]; split <;> omega
  | _ => simp only; omega
theorem vA_dec {u : Nat} (h : u < 10 ^ 14) : vA (Lib.decDigits u) = u := by
  unfold vA
  rw [atoi_dec h]
/-- is there no error? -/
def okA (l : List UInt8) : Bool := match Lib.atoiAll l with
  | .ok _ => true
  | _ => false
theorem okA_dec {u : Nat} (h : u < 10 ^ 14) : okA (Lib.decDigits u) = true := by
  unfold okA
  rw [atoi_dec h]
theorem numOf_claim (l : List UInt8) : Nm.numOf l = if okA l = true ∧ Lib.itoa (vA l) = l ∧ Sg.goodDate (vA l) = true then some (vA l).toNat else none := by
  split
  · rename_i h
    obtain ⟨-, h2, h3⟩ := h
    simp only [Sg.goodDate, Bool.and_eq_true, decide_eq_true_eq] at h3
    obtain ⟨k, hk⟩ := Int.eq_ofNat_of_zero_le h3.1
    rw [hk] at h2 h3 ⊢
    rw [← h2, itoa_nat]
    exact Nm.numOf_dec (by omega)
  · rename_i h
    refine Nm.numOf_none fun n hn e => h ?_
    subst e
    refine ⟨okA_dec (by omega), ?_, ?_⟩
    · rw [vA_dec (by omega), itoa_nat]
    · rw [vA_dec (by omega)]
      simp only [Sg.goodDate, Bool.and_eq_true, decide_eq_true_eq]
      omega
/-- the errors that Atoi names -/
structure Ne (w : World) : Prop where
  syn : ∃ te pe, w.cell? ⟨20, 0, none⟩ = some (.iface te pe)
  rng : ∃ te pe, w.cell? ⟨21, 0, none⟩ = some (.iface te pe)
theorem Ne.below {w w' : World} (h : Ne w) (hb : Below w.heap.size w w') : Ne w' := by
  obtain ⟨te, pe, h1⟩ := h.syn
  obtain ⟨tf, pf, h2⟩ := h.rng
  exact ⟨⟨te, pe, (hb.cell (World.block_lt_of_cell? w _ h1)).trans h1⟩, ⟨tf, pf, (hb.cell (World.block_lt_of_cell? w _ h2)).trans h2⟩⟩
theorem below_bytes (w : World) (e : TypeId) (t : ByteArray) : Below w.heap.size w (Lib.bytesWorld w e t) :=
  ⟨rfl, rfl, rfl, by rw [Lib.bytesWorld_size]; omega, fun k hk => Lib.bytesWorld_at_old w e t k hk⟩
theorem atoi (s : ByteArray) (w : World) (hs : s.size ≤ 281474976710656) (hn : Ne w) :
    Calls Tryz.prog 137 #[.string s] w fun e w' => (∃ ev, e = .returned (.tuple #[.int .i64 (vA s.data.toList), ev]) ∧ ((ev = .nilIface ∧ okA s.data.toList = true) ∨ ((∃ te pe, ev = .iface te pe) ∧ okA s.data.toList = false))) ∧ Below w.heap.size w w' := by
  unfold vA okA
  cases h : Lib.atoiAll s.data.toList with
  | ok v =>
    refine (Tryz.strconv_Atoi_ok s (by omega) v h w).mono ?_
    rintro e w' ⟨rfl, rfl | ⟨t, rfl⟩⟩
    · exact ⟨⟨_, rfl, .inl ⟨rfl, rfl⟩⟩, Below.refl _ _⟩
    · exact ⟨⟨_, rfl, .inl ⟨rfl, rfl⟩⟩, below_bytes _ _ _⟩
  | range =>
    obtain ⟨te, pe, h2⟩ := hn.rng
    refine (Tryz.strconv_Atoi_range s hs h _ w h2 (.inr ⟨te, pe, rfl⟩)).mono ?_
    rintro e w' ⟨N, rfl, _, _, hb⟩
    exact ⟨⟨_, rfl, .inr ⟨⟨_, _, rfl⟩, rfl⟩⟩, hb⟩
  | _ =>
    obtain ⟨te, pe, h1⟩ := hn.syn
    refine (Any.strconv_Atoi_syntax Tryz.laysC172 s hs h _ w h1 (.inr ⟨te, pe, rfl⟩)).mono ?_
    rintro e w' ⟨N, rfl, _, _, hb⟩
    exact ⟨⟨_, rfl, .inr ⟨⟨_, _, rfl⟩, rfl⟩⟩, hb⟩
end Go.Proofs.YtidflagmdabfaaaGreatDoor.Ato
