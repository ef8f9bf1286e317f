/-
  The walk of package sig's claimed. (Printed by mkclaimed.py.)
-/
import Derived.Test.YtidflagmdabfaaaGreatDoorSg19
namespace Go.Proofs.YtidflagmdabfaaaGreatDoor.SgF
open Go.RowKit Go.Proofs.YtidflagmdabfaaaGreatDoor Go.Proofs.YtidflagmdabfaaaGreatDoor.HtW Go.Proofs.YtidflagmdabfaaaGreatDoor.HtC Go.Proofs.YtidflagmdabfaaaGreatDoor.Ato Go.Proofs.YtidflagmdabfaaaGreatDoor.Itoa Go.Proofs.YtidflagmdabfaaaGreatDoor.SgA Go.Proofs.YtidflagmdabfaaaGreatDoor.SgB Go.Proofs.YtidflagmdabfaaaGreatDoor.SgE

def clv : Option (Nat × List UInt8 × List UInt8) → Value
  | none => .tuple #[.agg #[.int .i64 0, .string ⟨#[]⟩, .string ⟨#[]⟩], .bool false]
  | some (n, a, h) => .tuple #[.agg #[.int .i64 (n : Int), .string ⟨a.toArray⟩, .string ⟨h.toArray⟩], .bool true]
theorem clv_some {z : Int} (h : 0 ≤ z) (a b : List UInt8) : clv (some (z.toNat, a, b)) = .tuple #[.agg #[.int .i64 z, .string ⟨a.toArray⟩, .string ⟨b.toArray⟩], .bool true] := by
  show Value.tuple #[.agg #[.int .i64 (z.toNat : Int), .string ⟨a.toArray⟩, .string ⟨b.toArray⟩], .bool true] = _
  rw [Int.toNat_of_nonneg h]
def Cq (B : Nat) (w : World) (a b c : Value) : Prop := w.heap[B]? = some (.cells #[a, b, c] 134 (0, 0))
theorem Cq.below {B : Nat} {w w' : World} {a b c : Value} (h : Cq B w a b c) (hb : Below w.heap.size w w') : Cq B w' a b c := (hb.block _ (Array.getElem?_eq_some_iff.1 h).1).trans h
theorem Cq.cells {B : Nat} {w : World} {a b c : Value} (h : Cq B w a b c) : w.cell? ⟨B, 0, none⟩ = some a ∧ w.cell? ⟨B, 1, none⟩ = some b ∧ w.cell? ⟨B, 2, none⟩ = some c ∧ w.frozen? ⟨B, 0, none⟩ = false ∧ w.frozen? ⟨B, 1, none⟩ = false ∧ w.frozen? ⟨B, 2, none⟩ = false := by
  unfold Cq at h
  refine ⟨?_, ?_, ?_, Lib.frozen_of_heap h 0, Lib.frozen_of_heap h 1, Lib.frozen_of_heap h 2⟩
  all_goals (rw [Lib.cell_of_heap h]; rfl)
abbrev st3 (w : World) (B : Nat) (a b c : Value) : World := ((w.setCell ⟨B, 0, none⟩ a).setCell ⟨B, 1, none⟩ b).setCell ⟨B, 2, none⟩ c
theorem Cq.put {B : Nat} {w : World} {u0 u1 u2 : Value} (h : Cq B w u0 u1 u2) (a b c : Value) : Cq B (st3 w B a b c) a b c := by
  unfold Cq at h ⊢
  simp only [st3, World.setCell, Array.getElem?_modify, if_true, h]; rfl
theorem Cq.run {B : Nat} {w : World} {a b c er : Value} (h : Cq B w a b c) {fn : Func} (e : fn.results = #[.cell 2 134, .tmp 3]) {tmps : Array Value} (h2 : tmps.getD 2 undef = .pointer (some ⟨B, 0, none⟩)) (h3 : tmps.getD 3 undef = er) :
    (results fn tmps).run Tryz.prog w = .ok (.tuple #[.agg #[a, b, c], er]) w := by
  obtain ⟨r0, r1, r2, _⟩ := h.cells
  rw [results_cell_tmp e, h2, h3]
  simp [go_sem, r0, r1, r2, Result.andThen]
theorem below_three {b B : Nat} {w w' : World} (h : Below b w w') (hB : b ≤ B) (x y z : Value) : Below b w (st3 w' B x y z) :=
  ((h.setCell (p := ⟨B, 0, none⟩) hB _).setCell (p := ⟨B, 1, none⟩) hB _).setCell (p := ⟨B, 2, none⟩) hB _
def Gd (w : World) (a b c d : Value) (W : World) : Prop := Below w.heap.size w W ∧ Rq w.heap.size W a b c d ∧ Cq (w.heap.size + 1) W (.int .i64 0) (.string ⟨#[]⟩) (.string ⟨#[]⟩)
theorem Gd.next {w W W' : World} {a b c d : Value} (h : Gd w a b c d W) (hb : Below W.heap.size W W') : Gd w a b c d W' :=
  ⟨h.1.trans (hb.mono h.1.size), h.2.1.below hb, h.2.2.below hb⟩
theorem Gd.cells {w W : World} {a b c d : Value} (h : Gd w a b c d W) : (W.cell? ⟨w.heap.size, 0, none⟩ = some a ∧ W.cell? ⟨w.heap.size, 1, none⟩ = some b ∧ W.cell? ⟨w.heap.size, 2, none⟩ = some c ∧ W.cell? ⟨w.heap.size, 3, none⟩ = some d) ∧ (W.cell? ⟨w.heap.size + 1, 0, none⟩ = some (.int .i64 0) ∧ W.cell? ⟨w.heap.size + 1, 1, none⟩ = some (.string ⟨#[]⟩) ∧ W.cell? ⟨w.heap.size + 1, 2, none⟩ = some (.string ⟨#[]⟩)) ∧ W.frozen? ⟨w.heap.size + 1, 0, none⟩ = false ∧ W.frozen? ⟨w.heap.size + 1, 1, none⟩ = false ∧ W.frozen? ⟨w.heap.size + 1, 2, none⟩ = false := by
  obtain ⟨r0, r1, r2, r3, -, -, -, -⟩ := h.2.1.cells
  obtain ⟨c0, c1, c2, f0, f1, f2⟩ := h.2.2.cells
  exact ⟨⟨r0, r1, r2, r3⟩, ⟨c0, c1, c2⟩, f0, f1, f2⟩
theorem atoi_yes (s : List UInt8) (w : World) (hs : s.length ≤ 16777216) (hn : Ne w) (hok : okA s = true) :
    Calls Tryz.prog 137 #[.string ⟨s.toArray⟩] w fun e w' => e = .returned (.tuple #[.int .i64 (vA s), .nilIface]) ∧ Below w.heap.size w w' := by
  refine (atoi ⟨s.toArray⟩ w (by rw [Com.size_mk]; omega) hn).mono ?_
  rintro e w' ⟨⟨ev, rfl, ⟨rfl, _⟩ | ⟨_, h⟩⟩, hb⟩
  · exact ⟨rfl, hb⟩
  · rw [show okA (ByteArray.mk s.toArray).data.toList = okA s from rfl, hok] at h; cases h
theorem atoi_no (s : List UInt8) (w : World) (hs : s.length ≤ 16777216) (hn : Ne w) (hok : okA s = false) :
    Calls Tryz.prog 137 #[.string ⟨s.toArray⟩] w fun e w' => (∃ te pe, e = .returned (.tuple #[.int .i64 (vA s), .iface te pe])) ∧ Below w.heap.size w w' := by
  refine (atoi ⟨s.toArray⟩ w (by rw [Com.size_mk]; omega) hn).mono ?_
  rintro e w' ⟨⟨ev, rfl, ⟨_, h⟩ | ⟨⟨te, pe, rfl⟩, _⟩⟩, hb⟩
  · rw [show okA (ByteArray.mk s.toArray).data.toList = okA s from rfl, hok] at h; cases h
  · exact ⟨⟨te, pe, rfl⟩, hb⟩

set_option maxHeartbeats 4000000 in
set_option maxRecDepth 100000 in
theorem claimed_0 (m t : List UInt8) (fs : List Sg.Fld) {ab af : Option Addr} (lb cb cf : Nat) (w : World) {aU aR aD aK : Addr} (hE : Env w aU aR aD aK) (hf : Fs w af fs) (hfl : fs.length ≤ 4294967296) (hN : Ne w) {X Y : Nat} {d a tr y1 y2 : List UInt8} {y3 : Bool}
    (hX : Ht.cnt fs Sg.xdate = X) (hY : Ht.cnt fs Sg.auth = Y) (hD : (Ht.get fs Sg.xdate).getD [] = d) (hA : (Ht.get fs Sg.auth).getD [] = a) (hT : Lib.trimPrefix a lead = tr) (hC1 : (Lib.cut tr [58]).1 = y1) (hC2 : (Lib.cut tr [58]).2.1 = y2) (hC3 : (Lib.cut tr [58]).2.2 = y3)
    (_hdl : d.length ≤ 16777216) (_htl : tr.length ≤ 16777216) (_h1l : y1.length ≤ 16777216) (_h2l : y2.length ≤ 16777216) (k1 : ¬ X = 1) :
    Calls Tryz.prog 78 #[.agg #[.string ⟨m.toArray⟩, .string ⟨t.toArray⟩, .slice af fs.length cf, .slice ab lb cb]] w fun e w' => e = .returned (clv none) ∧ Below w.heap.size w w' := by
  have E := Lib.hid hE; clear hE
  have HF := Lib.hid hf; clear hf
  have HN := Lib.hid hN; clear hN
  have HX := Lib.hid (show Ht.cnt fs [120, 45, 100, 97, 116, 101] = X from hX); clear hX
  have HY := Lib.hid (show Ht.cnt fs [97, 117, 116, 104, 111, 114, 105, 122, 97, 116, 105, 111, 110] = Y from hY); clear hY
  have HD := Lib.hid (show (Ht.get fs [120, 45, 100, 97, 116, 101]).getD [] = d from hD); clear hD
  have HA := Lib.hid (show (Ht.get fs [97, 117, 116, 104, 111, 114, 105, 122, 97, 116, 105, 111, 110]).getD [] = a from hA); clear hA
  have HT := Lib.hid hT; clear hT
  have HC1 := Lib.hid hC1; clear hC1
  have HC2 := Lib.hid hC2; clear hC2
  have HC3 := Lib.hid hC3; clear hC3
  have hl64 : fs.length ≤ 9223372036854775807 := by omega
  obtain ⟨hv0, hv1⟩ := vA_in d
  obtain ⟨mx, hmx⟩ := E.out.mx
  have g0 : Gd w (.string ⟨m.toArray⟩) (.string ⟨t.toArray⟩) (.slice af fs.length cf) (.slice ab lb cb) ((w.alloc (.cells #[.string ⟨m.toArray⟩, .string ⟨t.toArray⟩, .slice af fs.length cf, .slice ab lb cb] 25)).alloc (.cells #[.int .i64 0, .string ⟨#[]⟩, .string ⟨#[]⟩] 134)) := by
    refine ⟨((Below.refl _ _).alloc (Nat.le_refl _) _).alloc (by simp) _, (Below.heap_alloc _ _ _ (by simp)).trans (heap_alloc_new _ _), ?_⟩
    have := heap_alloc_new (w.alloc (.cells #[.string ⟨m.toArray⟩, .string ⟨t.toArray⟩, .slice af fs.length cf, .slice ab lb cb] 25)) (.cells #[.int .i64 0, .string ⟨#[]⟩, .string ⟨#[]⟩] 134)
    rwa [World.size_alloc] at this
  have hw1 : w.heap.size ≤ w.heap.size + 1 := Nat.le_succ _
  have q1 : ¬ ((X : Int) = 1) := by omega
  go_enter Tryz.func78, Tryz.ntmps78
  go_wp2_with (first
    | (go_at_call 135; refine (HtF.count _ _ _ [120, 45, 100, 97, 116, 101] cf _ (HF.out.below g0.1) hl64).mono ?_; rintro e w1 ⟨rfl, h1⟩; rw [HX.out]; have g1 := g0.next h1; obtain ⟨⟨r0, r1, r2, r3⟩, ⟨c0, c1, c2⟩, f0, f1, f2⟩ := g1.cells))
  refine bodyPost_ret (Cq.run (g1.2.2.put (.int .i64 0) (.string ⟨#[]⟩) (.string ⟨#[]⟩)) rfl rfl rfl) rfl ⟨rfl, below_three g1.1 hw1 _ _ _⟩
set_option maxHeartbeats 4000000 in
set_option maxRecDepth 100000 in
theorem claimed_1 (m t : List UInt8) (fs : List Sg.Fld) {ab af : Option Addr} (lb cb cf : Nat) (w : World) {aU aR aD aK : Addr} (hE : Env w aU aR aD aK) (hf : Fs w af fs) (hfl : fs.length ≤ 4294967296) (hN : Ne w) {X Y : Nat} {d a tr y1 y2 : List UInt8} {y3 : Bool}
    (hX : Ht.cnt fs Sg.xdate = X) (hY : Ht.cnt fs Sg.auth = Y) (hD : (Ht.get fs Sg.xdate).getD [] = d) (hA : (Ht.get fs Sg.auth).getD [] = a) (hT : Lib.trimPrefix a lead = tr) (hC1 : (Lib.cut tr [58]).1 = y1) (hC2 : (Lib.cut tr [58]).2.1 = y2) (hC3 : (Lib.cut tr [58]).2.2 = y3)
    (_hdl : d.length ≤ 16777216) (_htl : tr.length ≤ 16777216) (_h1l : y1.length ≤ 16777216) (_h2l : y2.length ≤ 16777216) (k1 : X = 1) (k2 : ¬ Y = 1) :
    Calls Tryz.prog 78 #[.agg #[.string ⟨m.toArray⟩, .string ⟨t.toArray⟩, .slice af fs.length cf, .slice ab lb cb]] w fun e w' => e = .returned (clv none) ∧ Below w.heap.size w w' := by
  have E := Lib.hid hE; clear hE
  have HF := Lib.hid hf; clear hf
  have HN := Lib.hid hN; clear hN
  have HX := Lib.hid (show Ht.cnt fs [120, 45, 100, 97, 116, 101] = X from hX); clear hX
  have HY := Lib.hid (show Ht.cnt fs [97, 117, 116, 104, 111, 114, 105, 122, 97, 116, 105, 111, 110] = Y from hY); clear hY
  have HD := Lib.hid (show (Ht.get fs [120, 45, 100, 97, 116, 101]).getD [] = d from hD); clear hD
  have HA := Lib.hid (show (Ht.get fs [97, 117, 116, 104, 111, 114, 105, 122, 97, 116, 105, 111, 110]).getD [] = a from hA); clear hA
  have HT := Lib.hid hT; clear hT
  have HC1 := Lib.hid hC1; clear hC1
  have HC2 := Lib.hid hC2; clear hC2
  have HC3 := Lib.hid hC3; clear hC3
  have hl64 : fs.length ≤ 9223372036854775807 := by omega
  obtain ⟨hv0, hv1⟩ := vA_in d
  obtain ⟨mx, hmx⟩ := E.out.mx
  have g0 : Gd w (.string ⟨m.toArray⟩) (.string ⟨t.toArray⟩) (.slice af fs.length cf) (.slice ab lb cb) ((w.alloc (.cells #[.string ⟨m.toArray⟩, .string ⟨t.toArray⟩, .slice af fs.length cf, .slice ab lb cb] 25)).alloc (.cells #[.int .i64 0, .string ⟨#[]⟩, .string ⟨#[]⟩] 134)) := by
    refine ⟨((Below.refl _ _).alloc (Nat.le_refl _) _).alloc (by simp) _, (Below.heap_alloc _ _ _ (by simp)).trans (heap_alloc_new _ _), ?_⟩
    have := heap_alloc_new (w.alloc (.cells #[.string ⟨m.toArray⟩, .string ⟨t.toArray⟩, .slice af fs.length cf, .slice ab lb cb] 25)) (.cells #[.int .i64 0, .string ⟨#[]⟩, .string ⟨#[]⟩] 134)
    rwa [World.size_alloc] at this
  have hw1 : w.heap.size ≤ w.heap.size + 1 := Nat.le_succ _
  subst k1
  have q2 : ¬ ((Y : Int) = 1) := by omega
  go_enter Tryz.func78, Tryz.ntmps78
  go_wp2_with (first
    | (go_at_call 135; refine (HtF.count _ _ _ [97, 117, 116, 104, 111, 114, 105, 122, 97, 116, 105, 111, 110] cf _ (HF.out.below g1.1) hl64).mono ?_; rintro e w2 ⟨rfl, h2⟩; rw [HY.out]; have g2 := g1.next h2; obtain ⟨⟨r0, r1, r2, r3⟩, ⟨c0, c1, c2⟩, f0, f1, f2⟩ := g2.cells)
    | (go_at_call 135; refine (HtF.count _ _ _ [120, 45, 100, 97, 116, 101] cf _ (HF.out.below g0.1) hl64).mono ?_; rintro e w1 ⟨rfl, h1⟩; rw [HX.out]; have g1 := g0.next h1; obtain ⟨⟨r0, r1, r2, r3⟩, ⟨c0, c1, c2⟩, f0, f1, f2⟩ := g1.cells))
  refine bodyPost_ret (Cq.run (g2.2.2.put (.int .i64 0) (.string ⟨#[]⟩) (.string ⟨#[]⟩)) rfl rfl rfl) rfl ⟨rfl, below_three g2.1 hw1 _ _ _⟩
set_option maxHeartbeats 4000000 in
set_option maxRecDepth 100000 in
theorem claimed_2 (m t : List UInt8) (fs : List Sg.Fld) {ab af : Option Addr} (lb cb cf : Nat) (w : World) {aU aR aD aK : Addr} (hE : Env w aU aR aD aK) (hf : Fs w af fs) (hfl : fs.length ≤ 4294967296) (hN : Ne w) {X Y : Nat} {d a tr y1 y2 : List UInt8} {y3 : Bool}
    (hX : Ht.cnt fs Sg.xdate = X) (hY : Ht.cnt fs Sg.auth = Y) (hD : (Ht.get fs Sg.xdate).getD [] = d) (hA : (Ht.get fs Sg.auth).getD [] = a) (hT : Lib.trimPrefix a lead = tr) (hC1 : (Lib.cut tr [58]).1 = y1) (hC2 : (Lib.cut tr [58]).2.1 = y2) (hC3 : (Lib.cut tr [58]).2.2 = y3)
    (hdl : d.length ≤ 16777216) (_htl : tr.length ≤ 16777216) (_h1l : y1.length ≤ 16777216) (_h2l : y2.length ≤ 16777216) (k1 : X = 1) (k2 : Y = 1) (k3 : okA d = false) :
    Calls Tryz.prog 78 #[.agg #[.string ⟨m.toArray⟩, .string ⟨t.toArray⟩, .slice af fs.length cf, .slice ab lb cb]] w fun e w' => e = .returned (clv none) ∧ Below w.heap.size w w' := by
  have E := Lib.hid hE; clear hE
  have HF := Lib.hid hf; clear hf
  have HN := Lib.hid hN; clear hN
  have HX := Lib.hid (show Ht.cnt fs [120, 45, 100, 97, 116, 101] = X from hX); clear hX
  have HY := Lib.hid (show Ht.cnt fs [97, 117, 116, 104, 111, 114, 105, 122, 97, 116, 105, 111, 110] = Y from hY); clear hY
  have HD := Lib.hid (show (Ht.get fs [120, 45, 100, 97, 116, 101]).getD [] = d from hD); clear hD
  have HA := Lib.hid (show (Ht.get fs [97, 117, 116, 104, 111, 114, 105, 122, 97, 116, 105, 111, 110]).getD [] = a from hA); clear hA
  have HT := Lib.hid hT; clear hT
  have HC1 := Lib.hid hC1; clear hC1
  have HC2 := Lib.hid hC2; clear hC2
  have HC3 := Lib.hid hC3; clear hC3
  have hl64 : fs.length ≤ 9223372036854775807 := by omega
  obtain ⟨hv0, hv1⟩ := vA_in d
  obtain ⟨mx, hmx⟩ := E.out.mx
  have g0 : Gd w (.string ⟨m.toArray⟩) (.string ⟨t.toArray⟩) (.slice af fs.length cf) (.slice ab lb cb) ((w.alloc (.cells #[.string ⟨m.toArray⟩, .string ⟨t.toArray⟩, .slice af fs.length cf, .slice ab lb cb] 25)).alloc (.cells #[.int .i64 0, .string ⟨#[]⟩, .string ⟨#[]⟩] 134)) := by
    refine ⟨((Below.refl _ _).alloc (Nat.le_refl _) _).alloc (by simp) _, (Below.heap_alloc _ _ _ (by simp)).trans (heap_alloc_new _ _), ?_⟩
    have := heap_alloc_new (w.alloc (.cells #[.string ⟨m.toArray⟩, .string ⟨t.toArray⟩, .slice af fs.length cf, .slice ab lb cb] 25)) (.cells #[.int .i64 0, .string ⟨#[]⟩, .string ⟨#[]⟩] 134)
    rwa [World.size_alloc] at this
  have hw1 : w.heap.size ≤ w.heap.size + 1 := Nat.le_succ _
  subst k1
  subst k2
  go_enter Tryz.func78, Tryz.ntmps78
  go_wp2_with (first
    | (go_at_call 137; refine (atoi_no d _ hdl (HN.out.below g3.1) k3).mono ?_; rintro e w4 ⟨⟨te, pe, rfl⟩, h4⟩; have g4 := g3.next h4; obtain ⟨⟨r0, r1, r2, r3⟩, ⟨c0, c1, c2⟩, f0, f1, f2⟩ := g4.cells)
    | (go_at_call 136; refine (HtF.fieldOf _ _ _ [120, 45, 100, 97, 116, 101] cf _ (HF.out.below g2.1) hl64).mono ?_; rintro e w3 ⟨rfl, h3⟩; have g3 := g2.next h3; obtain ⟨⟨r0, r1, r2, r3⟩, ⟨c0, c1, c2⟩, f0, f1, f2⟩ := g3.cells; rw [HD.out])
    | (go_at_call 135; refine (HtF.count _ _ _ [97, 117, 116, 104, 111, 114, 105, 122, 97, 116, 105, 111, 110] cf _ (HF.out.below g1.1) hl64).mono ?_; rintro e w2 ⟨rfl, h2⟩; rw [HY.out]; have g2 := g1.next h2; obtain ⟨⟨r0, r1, r2, r3⟩, ⟨c0, c1, c2⟩, f0, f1, f2⟩ := g2.cells)
    | (go_at_call 135; refine (HtF.count _ _ _ [120, 45, 100, 97, 116, 101] cf _ (HF.out.below g0.1) hl64).mono ?_; rintro e w1 ⟨rfl, h1⟩; rw [HX.out]; have g1 := g0.next h1; obtain ⟨⟨r0, r1, r2, r3⟩, ⟨c0, c1, c2⟩, f0, f1, f2⟩ := g1.cells))
  refine bodyPost_ret (Cq.run (g4.2.2.put (.int .i64 0) (.string ⟨#[]⟩) (.string ⟨#[]⟩)) rfl rfl rfl) rfl ⟨rfl, below_three g4.1 hw1 _ _ _⟩
set_option maxHeartbeats 4000000 in
set_option maxRecDepth 100000 in
theorem claimed_3 (m t : List UInt8) (fs : List Sg.Fld) {ab af : Option Addr} (lb cb cf : Nat) (w : World) {aU aR aD aK : Addr} (hE : Env w aU aR aD aK) (hf : Fs w af fs) (hfl : fs.length ≤ 4294967296) (hN : Ne w) {X Y : Nat} {d a tr y1 y2 : List UInt8} {y3 : Bool}
    (hX : Ht.cnt fs Sg.xdate = X) (hY : Ht.cnt fs Sg.auth = Y) (hD : (Ht.get fs Sg.xdate).getD [] = d) (hA : (Ht.get fs Sg.auth).getD [] = a) (hT : Lib.trimPrefix a lead = tr) (hC1 : (Lib.cut tr [58]).1 = y1) (hC2 : (Lib.cut tr [58]).2.1 = y2) (hC3 : (Lib.cut tr [58]).2.2 = y3)
    (hdl : d.length ≤ 16777216) (_htl : tr.length ≤ 16777216) (_h1l : y1.length ≤ 16777216) (_h2l : y2.length ≤ 16777216) (k1 : X = 1) (k2 : Y = 1) (k3 : okA d = true) (k4 : ¬ Lib.itoa (vA d) = d) :
    Calls Tryz.prog 78 #[.agg #[.string ⟨m.toArray⟩, .string ⟨t.toArray⟩, .slice af fs.length cf, .slice ab lb cb]] w fun e w' => e = .returned (clv none) ∧ Below w.heap.size w w' := by
  have E := Lib.hid hE; clear hE
  have HF := Lib.hid hf; clear hf
  have HN := Lib.hid hN; clear hN
  have HX := Lib.hid (show Ht.cnt fs [120, 45, 100, 97, 116, 101] = X from hX); clear hX
  have HY := Lib.hid (show Ht.cnt fs [97, 117, 116, 104, 111, 114, 105, 122, 97, 116, 105, 111, 110] = Y from hY); clear hY
  have HD := Lib.hid (show (Ht.get fs [120, 45, 100, 97, 116, 101]).getD [] = d from hD); clear hD
  have HA := Lib.hid (show (Ht.get fs [97, 117, 116, 104, 111, 114, 105, 122, 97, 116, 105, 111, 110]).getD [] = a from hA); clear hA
  have HT := Lib.hid hT; clear hT
  have HC1 := Lib.hid hC1; clear hC1
  have HC2 := Lib.hid hC2; clear hC2
  have HC3 := Lib.hid hC3; clear hC3
  have hl64 : fs.length ≤ 9223372036854775807 := by omega
  obtain ⟨hv0, hv1⟩ := vA_in d
  obtain ⟨mx, hmx⟩ := E.out.mx
  have g0 : Gd w (.string ⟨m.toArray⟩) (.string ⟨t.toArray⟩) (.slice af fs.length cf) (.slice ab lb cb) ((w.alloc (.cells #[.string ⟨m.toArray⟩, .string ⟨t.toArray⟩, .slice af fs.length cf, .slice ab lb cb] 25)).alloc (.cells #[.int .i64 0, .string ⟨#[]⟩, .string ⟨#[]⟩] 134)) := by
    refine ⟨((Below.refl _ _).alloc (Nat.le_refl _) _).alloc (by simp) _, (Below.heap_alloc _ _ _ (by simp)).trans (heap_alloc_new _ _), ?_⟩
    have := heap_alloc_new (w.alloc (.cells #[.string ⟨m.toArray⟩, .string ⟨t.toArray⟩, .slice af fs.length cf, .slice ab lb cb] 25)) (.cells #[.int .i64 0, .string ⟨#[]⟩, .string ⟨#[]⟩] 134)
    rwa [World.size_alloc] at this
  have hw1 : w.heap.size ≤ w.heap.size + 1 := Nat.le_succ _
  subst k1
  subst k2
  have q4 : (Lib.itoa (vA d) == d) = false := by rw [beq_eq_false_iff_ne]; exact k4
  go_enter Tryz.func78, Tryz.ntmps78
  go_wp2_with (first
    | (go_at_call 56; refine (itoa (vA d) hv0 hv1 _ (E.out.tab.below g4.1)).mono ?_; rintro e w5 ⟨rfl, h5⟩; have g5 := g4.next h5; obtain ⟨⟨r0, r1, r2, r3⟩, ⟨c0, c1, c2⟩, f0, f1, f2⟩ := g5.cells)
    | (go_at_call 137; refine (atoi_yes d _ hdl (HN.out.below g3.1) k3).mono ?_; rintro e w4 ⟨rfl, h4⟩; have g4 := g3.next h4; obtain ⟨⟨r0, r1, r2, r3⟩, ⟨c0, c1, c2⟩, f0, f1, f2⟩ := g4.cells)
    | (go_at_call 136; refine (HtF.fieldOf _ _ _ [120, 45, 100, 97, 116, 101] cf _ (HF.out.below g2.1) hl64).mono ?_; rintro e w3 ⟨rfl, h3⟩; have g3 := g2.next h3; obtain ⟨⟨r0, r1, r2, r3⟩, ⟨c0, c1, c2⟩, f0, f1, f2⟩ := g3.cells; rw [HD.out])
    | (go_at_call 135; refine (HtF.count _ _ _ [97, 117, 116, 104, 111, 114, 105, 122, 97, 116, 105, 111, 110] cf _ (HF.out.below g1.1) hl64).mono ?_; rintro e w2 ⟨rfl, h2⟩; rw [HY.out]; have g2 := g1.next h2; obtain ⟨⟨r0, r1, r2, r3⟩, ⟨c0, c1, c2⟩, f0, f1, f2⟩ := g2.cells)
    | (go_at_call 135; refine (HtF.count _ _ _ [120, 45, 100, 97, 116, 101] cf _ (HF.out.below g0.1) hl64).mono ?_; rintro e w1 ⟨rfl, h1⟩; rw [HX.out]; have g1 := g0.next h1; obtain ⟨⟨r0, r1, r2, r3⟩, ⟨c0, c1, c2⟩, f0, f1, f2⟩ := g1.cells))
  refine bodyPost_ret (Cq.run (g5.2.2.put (.int .i64 0) (.string ⟨#[]⟩) (.string ⟨#[]⟩)) rfl rfl rfl) rfl ⟨rfl, below_three g5.1 hw1 _ _ _⟩
set_option maxHeartbeats 4000000 in
set_option maxRecDepth 100000 in
theorem claimed_4 (m t : List UInt8) (fs : List Sg.Fld) {ab af : Option Addr} (lb cb cf : Nat) (w : World) {aU aR aD aK : Addr} (hE : Env w aU aR aD aK) (hf : Fs w af fs) (hfl : fs.length ≤ 4294967296) (hN : Ne w) {X Y : Nat} {d a tr y1 y2 : List UInt8} {y3 : Bool}
    (hX : Ht.cnt fs Sg.xdate = X) (hY : Ht.cnt fs Sg.auth = Y) (hD : (Ht.get fs Sg.xdate).getD [] = d) (hA : (Ht.get fs Sg.auth).getD [] = a) (hT : Lib.trimPrefix a lead = tr) (hC1 : (Lib.cut tr [58]).1 = y1) (hC2 : (Lib.cut tr [58]).2.1 = y2) (hC3 : (Lib.cut tr [58]).2.2 = y3)
    (hdl : d.length ≤ 16777216) (_htl : tr.length ≤ 16777216) (_h1l : y1.length ≤ 16777216) (_h2l : y2.length ≤ 16777216) (k1 : X = 1) (k2 : Y = 1) (k3 : okA d = true) (k4 : Lib.itoa (vA d) = d) (k5 : Sg.goodDate (vA d) = false) :
    Calls Tryz.prog 78 #[.agg #[.string ⟨m.toArray⟩, .string ⟨t.toArray⟩, .slice af fs.length cf, .slice ab lb cb]] w fun e w' => e = .returned (clv none) ∧ Below w.heap.size w w' := by
  have E := Lib.hid hE; clear hE
  have HF := Lib.hid hf; clear hf
  have HN := Lib.hid hN; clear hN
  have HX := Lib.hid (show Ht.cnt fs [120, 45, 100, 97, 116, 101] = X from hX); clear hX
  have HY := Lib.hid (show Ht.cnt fs [97, 117, 116, 104, 111, 114, 105, 122, 97, 116, 105, 111, 110] = Y from hY); clear hY
  have HD := Lib.hid (show (Ht.get fs [120, 45, 100, 97, 116, 101]).getD [] = d from hD); clear hD
  have HA := Lib.hid (show (Ht.get fs [97, 117, 116, 104, 111, 114, 105, 122, 97, 116, 105, 111, 110]).getD [] = a from hA); clear hA
  have HT := Lib.hid hT; clear hT
  have HC1 := Lib.hid hC1; clear hC1
  have HC2 := Lib.hid hC2; clear hC2
  have HC3 := Lib.hid hC3; clear hC3
  have hl64 : fs.length ≤ 9223372036854775807 := by omega
  obtain ⟨hv0, hv1⟩ := vA_in d
  obtain ⟨mx, hmx⟩ := E.out.mx
  have g0 : Gd w (.string ⟨m.toArray⟩) (.string ⟨t.toArray⟩) (.slice af fs.length cf) (.slice ab lb cb) ((w.alloc (.cells #[.string ⟨m.toArray⟩, .string ⟨t.toArray⟩, .slice af fs.length cf, .slice ab lb cb] 25)).alloc (.cells #[.int .i64 0, .string ⟨#[]⟩, .string ⟨#[]⟩] 134)) := by
    refine ⟨((Below.refl _ _).alloc (Nat.le_refl _) _).alloc (by simp) _, (Below.heap_alloc _ _ _ (by simp)).trans (heap_alloc_new _ _), ?_⟩
    have := heap_alloc_new (w.alloc (.cells #[.string ⟨m.toArray⟩, .string ⟨t.toArray⟩, .slice af fs.length cf, .slice ab lb cb] 25)) (.cells #[.int .i64 0, .string ⟨#[]⟩, .string ⟨#[]⟩] 134)
    rwa [World.size_alloc] at this
  have hw1 : w.heap.size ≤ w.heap.size + 1 := Nat.le_succ _
  subst k1
  subst k2
  go_enter Tryz.func78, Tryz.ntmps78
  go_wp2_with (first
    | (go_at_call 68; refine (goodDate (vA d) _).mono ?_; rintro e w6 ⟨rfl, hw6⟩; subst hw6; rw [k5])
    | (go_at_call 56; refine (itoa (vA d) hv0 hv1 _ (E.out.tab.below g4.1)).mono ?_; rintro e w5 ⟨rfl, h5⟩; have g5 := g4.next h5; obtain ⟨⟨r0, r1, r2, r3⟩, ⟨c0, c1, c2⟩, f0, f1, f2⟩ := g5.cells; rw [k4])
    | (go_at_call 137; refine (atoi_yes d _ hdl (HN.out.below g3.1) k3).mono ?_; rintro e w4 ⟨rfl, h4⟩; have g4 := g3.next h4; obtain ⟨⟨r0, r1, r2, r3⟩, ⟨c0, c1, c2⟩, f0, f1, f2⟩ := g4.cells)
    | (go_at_call 136; refine (HtF.fieldOf _ _ _ [120, 45, 100, 97, 116, 101] cf _ (HF.out.below g2.1) hl64).mono ?_; rintro e w3 ⟨rfl, h3⟩; have g3 := g2.next h3; obtain ⟨⟨r0, r1, r2, r3⟩, ⟨c0, c1, c2⟩, f0, f1, f2⟩ := g3.cells; rw [HD.out])
    | (go_at_call 135; refine (HtF.count _ _ _ [97, 117, 116, 104, 111, 114, 105, 122, 97, 116, 105, 111, 110] cf _ (HF.out.below g1.1) hl64).mono ?_; rintro e w2 ⟨rfl, h2⟩; rw [HY.out]; have g2 := g1.next h2; obtain ⟨⟨r0, r1, r2, r3⟩, ⟨c0, c1, c2⟩, f0, f1, f2⟩ := g2.cells)
    | (go_at_call 135; refine (HtF.count _ _ _ [120, 45, 100, 97, 116, 101] cf _ (HF.out.below g0.1) hl64).mono ?_; rintro e w1 ⟨rfl, h1⟩; rw [HX.out]; have g1 := g0.next h1; obtain ⟨⟨r0, r1, r2, r3⟩, ⟨c0, c1, c2⟩, f0, f1, f2⟩ := g1.cells))
  refine bodyPost_ret (Cq.run (g5.2.2.put (.int .i64 0) (.string ⟨#[]⟩) (.string ⟨#[]⟩)) rfl rfl rfl) rfl ⟨rfl, below_three g5.1 hw1 _ _ _⟩
set_option maxHeartbeats 4000000 in
set_option maxRecDepth 100000 in
theorem claimed_5 (m t : List UInt8) (fs : List Sg.Fld) {ab af : Option Addr} (lb cb cf : Nat) (w : World) {aU aR aD aK : Addr} (hE : Env w aU aR aD aK) (hf : Fs w af fs) (hfl : fs.length ≤ 4294967296) (hN : Ne w) {X Y : Nat} {d a tr y1 y2 : List UInt8} {y3 : Bool}
    (hX : Ht.cnt fs Sg.xdate = X) (hY : Ht.cnt fs Sg.auth = Y) (hD : (Ht.get fs Sg.xdate).getD [] = d) (hA : (Ht.get fs Sg.auth).getD [] = a) (hT : Lib.trimPrefix a lead = tr) (hC1 : (Lib.cut tr [58]).1 = y1) (hC2 : (Lib.cut tr [58]).2.1 = y2) (hC3 : (Lib.cut tr [58]).2.2 = y3)
    (hdl : d.length ≤ 16777216) (htl : tr.length ≤ 16777216) (_h1l : y1.length ≤ 16777216) (h2l : y2.length ≤ 16777216) (k1 : X = 1) (k2 : Y = 1) (k3 : okA d = true) (k4 : Lib.itoa (vA d) = d) (k5 : Sg.goodDate (vA d) = true) (k6 : Lib.hasPrefix a lead = false) :
    Calls Tryz.prog 78 #[.agg #[.string ⟨m.toArray⟩, .string ⟨t.toArray⟩, .slice af fs.length cf, .slice ab lb cb]] w fun e w' => e = .returned (clv none) ∧ Below w.heap.size w w' := by
  have E := Lib.hid hE; clear hE
  have HF := Lib.hid hf; clear hf
  have HN := Lib.hid hN; clear hN
  have HX := Lib.hid (show Ht.cnt fs [120, 45, 100, 97, 116, 101] = X from hX); clear hX
  have HY := Lib.hid (show Ht.cnt fs [97, 117, 116, 104, 111, 114, 105, 122, 97, 116, 105, 111, 110] = Y from hY); clear hY
  have HD := Lib.hid (show (Ht.get fs [120, 45, 100, 97, 116, 101]).getD [] = d from hD); clear hD
  have HA := Lib.hid (show (Ht.get fs [97, 117, 116, 104, 111, 114, 105, 122, 97, 116, 105, 111, 110]).getD [] = a from hA); clear hA
  have HT := Lib.hid hT; clear hT
  have HC1 := Lib.hid hC1; clear hC1
  have HC2 := Lib.hid hC2; clear hC2
  have HC3 := Lib.hid hC3; clear hC3
  have hl64 : fs.length ≤ 9223372036854775807 := by omega
  obtain ⟨hv0, hv1⟩ := vA_in d
  obtain ⟨mx, hmx⟩ := E.out.mx
  have g0 : Gd w (.string ⟨m.toArray⟩) (.string ⟨t.toArray⟩) (.slice af fs.length cf) (.slice ab lb cb) ((w.alloc (.cells #[.string ⟨m.toArray⟩, .string ⟨t.toArray⟩, .slice af fs.length cf, .slice ab lb cb] 25)).alloc (.cells #[.int .i64 0, .string ⟨#[]⟩, .string ⟨#[]⟩] 134)) := by
    refine ⟨((Below.refl _ _).alloc (Nat.le_refl _) _).alloc (by simp) _, (Below.heap_alloc _ _ _ (by simp)).trans (heap_alloc_new _ _), ?_⟩
    have := heap_alloc_new (w.alloc (.cells #[.string ⟨m.toArray⟩, .string ⟨t.toArray⟩, .slice af fs.length cf, .slice ab lb cb] 25)) (.cells #[.int .i64 0, .string ⟨#[]⟩, .string ⟨#[]⟩] 134)
    rwa [World.size_alloc] at this
  have hw1 : w.heap.size ≤ w.heap.size + 1 := Nat.le_succ _
  subst k1
  subst k2
  go_enter Tryz.func78, Tryz.ntmps78
  go_wp2_with (first
    | (go_at_call 73; refine (goodName ⟨y1.toArray⟩ _ (by rw [Com.size_mk]; omega)).mono ?_; rintro e w11 ⟨rfl, hw11⟩; subst hw11; rw [show (ByteArray.mk y1.toArray).data.toList = y1 from rfl])
    | (go_at_call 139; refine (Unhex.unhexW ⟨y2.toArray⟩ _ (by rw [Com.size_mk]; omega)).mono ?_; rintro e w10 ⟨⟨v10, rfl⟩, h10⟩; have g10 := g9.next h10; obtain ⟨⟨r0, r1, r2, r3⟩, ⟨c0, c1, c2⟩, f0, f1, f2⟩ := g10.cells; rw [show (ByteArray.mk y2.toArray).data.toList = y2 from rfl])
    | (go_at_call 85; refine (Tryz.strings_Cut ⟨tr.toArray⟩ ⟨#[58]⟩ mx _ (by rw [Com.size_mk]; omega) (((g7.1.cell (World.block_lt_of_cell? w _ hmx)).trans hmx))).mono ?_; rintro e w9 ⟨rfl, n9, rfl⟩; have g9 := g7.next (HtC.below_drewN (Below.refl _ _) n9); obtain ⟨⟨r0, r1, r2, r3⟩, ⟨c0, c1, c2⟩, f0, f1, f2⟩ := g9.cells; rw [show (ByteArray.mk tr.toArray).data.toList = tr from rfl, show (ByteArray.mk #[58]).data.toList = [58] from rfl, HC1.out, HC2.out, HC3.out])
    | (go_at_call 138; refine (Tryz.strings_CutPrefix ⟨a.toArray⟩ ⟨#[66, 79, 76, 76, 65, 82, 68, 49, 32]⟩ _).mono ?_; rintro e w8 ⟨rfl, hw8⟩; subst hw8; rw [show (ByteArray.mk a.toArray).data.toList = a from rfl, show (ByteArray.mk #[66, 79, 76, 76, 65, 82, 68, 49, 32]).data.toList = lead from rfl, k6, HT.out])
    | (go_at_call 136; refine (HtF.fieldOf _ _ _ [97, 117, 116, 104, 111, 114, 105, 122, 97, 116, 105, 111, 110] cf _ (HF.out.below g5.1) hl64).mono ?_; rintro e w7 ⟨rfl, h7⟩; have g7 := g5.next h7; obtain ⟨⟨r0, r1, r2, r3⟩, ⟨c0, c1, c2⟩, f0, f1, f2⟩ := g7.cells; rw [HA.out])
    | (go_at_call 68; refine (goodDate (vA d) _).mono ?_; rintro e w6 ⟨rfl, hw6⟩; subst hw6; rw [k5])
    | (go_at_call 56; refine (itoa (vA d) hv0 hv1 _ (E.out.tab.below g4.1)).mono ?_; rintro e w5 ⟨rfl, h5⟩; have g5 := g4.next h5; obtain ⟨⟨r0, r1, r2, r3⟩, ⟨c0, c1, c2⟩, f0, f1, f2⟩ := g5.cells; rw [k4])
    | (go_at_call 137; refine (atoi_yes d _ hdl (HN.out.below g3.1) k3).mono ?_; rintro e w4 ⟨rfl, h4⟩; have g4 := g3.next h4; obtain ⟨⟨r0, r1, r2, r3⟩, ⟨c0, c1, c2⟩, f0, f1, f2⟩ := g4.cells)
    | (go_at_call 136; refine (HtF.fieldOf _ _ _ [120, 45, 100, 97, 116, 101] cf _ (HF.out.below g2.1) hl64).mono ?_; rintro e w3 ⟨rfl, h3⟩; have g3 := g2.next h3; obtain ⟨⟨r0, r1, r2, r3⟩, ⟨c0, c1, c2⟩, f0, f1, f2⟩ := g3.cells; rw [HD.out])
    | (go_at_call 135; refine (HtF.count _ _ _ [97, 117, 116, 104, 111, 114, 105, 122, 97, 116, 105, 111, 110] cf _ (HF.out.below g1.1) hl64).mono ?_; rintro e w2 ⟨rfl, h2⟩; rw [HY.out]; have g2 := g1.next h2; obtain ⟨⟨r0, r1, r2, r3⟩, ⟨c0, c1, c2⟩, f0, f1, f2⟩ := g2.cells)
    | (go_at_call 135; refine (HtF.count _ _ _ [120, 45, 100, 97, 116, 101] cf _ (HF.out.below g0.1) hl64).mono ?_; rintro e w1 ⟨rfl, h1⟩; rw [HX.out]; have g1 := g0.next h1; obtain ⟨⟨r0, r1, r2, r3⟩, ⟨c0, c1, c2⟩, f0, f1, f2⟩ := g1.cells))
  refine bodyPost_ret (Cq.run (g10.2.2.put (.int .i64 0) (.string ⟨#[]⟩) (.string ⟨#[]⟩)) rfl rfl rfl) rfl ⟨rfl, below_three g10.1 hw1 _ _ _⟩
set_option maxHeartbeats 4000000 in
set_option maxRecDepth 100000 in
theorem claimed_6 (m t : List UInt8) (fs : List Sg.Fld) {ab af : Option Addr} (lb cb cf : Nat) (w : World) {aU aR aD aK : Addr} (hE : Env w aU aR aD aK) (hf : Fs w af fs) (hfl : fs.length ≤ 4294967296) (hN : Ne w) {X Y : Nat} {d a tr y1 y2 : List UInt8} {y3 : Bool}
    (hX : Ht.cnt fs Sg.xdate = X) (hY : Ht.cnt fs Sg.auth = Y) (hD : (Ht.get fs Sg.xdate).getD [] = d) (hA : (Ht.get fs Sg.auth).getD [] = a) (hT : Lib.trimPrefix a lead = tr) (hC1 : (Lib.cut tr [58]).1 = y1) (hC2 : (Lib.cut tr [58]).2.1 = y2) (hC3 : (Lib.cut tr [58]).2.2 = y3)
    (hdl : d.length ≤ 16777216) (htl : tr.length ≤ 16777216) (_h1l : y1.length ≤ 16777216) (h2l : y2.length ≤ 16777216) (k1 : X = 1) (k2 : Y = 1) (k3 : okA d = true) (k4 : Lib.itoa (vA d) = d) (k5 : Sg.goodDate (vA d) = true) (k6 : Lib.hasPrefix a lead = true) (k7 : y3 = false) :
    Calls Tryz.prog 78 #[.agg #[.string ⟨m.toArray⟩, .string ⟨t.toArray⟩, .slice af fs.length cf, .slice ab lb cb]] w fun e w' => e = .returned (clv none) ∧ Below w.heap.size w w' := by
  have E := Lib.hid hE; clear hE
  have HF := Lib.hid hf; clear hf
  have HN := Lib.hid hN; clear hN
  have HX := Lib.hid (show Ht.cnt fs [120, 45, 100, 97, 116, 101] = X from hX); clear hX
  have HY := Lib.hid (show Ht.cnt fs [97, 117, 116, 104, 111, 114, 105, 122, 97, 116, 105, 111, 110] = Y from hY); clear hY
  have HD := Lib.hid (show (Ht.get fs [120, 45, 100, 97, 116, 101]).getD [] = d from hD); clear hD
  have HA := Lib.hid (show (Ht.get fs [97, 117, 116, 104, 111, 114, 105, 122, 97, 116, 105, 111, 110]).getD [] = a from hA); clear hA
  have HT := Lib.hid hT; clear hT
  have HC1 := Lib.hid hC1; clear hC1
  have HC2 := Lib.hid hC2; clear hC2
  have HC3 := Lib.hid hC3; clear hC3
  have hl64 : fs.length ≤ 9223372036854775807 := by omega
  obtain ⟨hv0, hv1⟩ := vA_in d
  obtain ⟨mx, hmx⟩ := E.out.mx
  have g0 : Gd w (.string ⟨m.toArray⟩) (.string ⟨t.toArray⟩) (.slice af fs.length cf) (.slice ab lb cb) ((w.alloc (.cells #[.string ⟨m.toArray⟩, .string ⟨t.toArray⟩, .slice af fs.length cf, .slice ab lb cb] 25)).alloc (.cells #[.int .i64 0, .string ⟨#[]⟩, .string ⟨#[]⟩] 134)) := by
    refine ⟨((Below.refl _ _).alloc (Nat.le_refl _) _).alloc (by simp) _, (Below.heap_alloc _ _ _ (by simp)).trans (heap_alloc_new _ _), ?_⟩
    have := heap_alloc_new (w.alloc (.cells #[.string ⟨m.toArray⟩, .string ⟨t.toArray⟩, .slice af fs.length cf, .slice ab lb cb] 25)) (.cells #[.int .i64 0, .string ⟨#[]⟩, .string ⟨#[]⟩] 134)
    rwa [World.size_alloc] at this
  have hw1 : w.heap.size ≤ w.heap.size + 1 := Nat.le_succ _
  subst k1
  subst k2
  go_enter Tryz.func78, Tryz.ntmps78
  go_wp2_with (first
    | (go_at_call 73; refine (goodName ⟨y1.toArray⟩ _ (by rw [Com.size_mk]; omega)).mono ?_; rintro e w11 ⟨rfl, hw11⟩; subst hw11; rw [show (ByteArray.mk y1.toArray).data.toList = y1 from rfl])
    | (go_at_call 139; refine (Unhex.unhexW ⟨y2.toArray⟩ _ (by rw [Com.size_mk]; omega)).mono ?_; rintro e w10 ⟨⟨v10, rfl⟩, h10⟩; have g10 := g9.next h10; obtain ⟨⟨r0, r1, r2, r3⟩, ⟨c0, c1, c2⟩, f0, f1, f2⟩ := g10.cells; rw [show (ByteArray.mk y2.toArray).data.toList = y2 from rfl])
    | (go_at_call 85; refine (Tryz.strings_Cut ⟨tr.toArray⟩ ⟨#[58]⟩ mx _ (by rw [Com.size_mk]; omega) (((g7.1.cell (World.block_lt_of_cell? w _ hmx)).trans hmx))).mono ?_; rintro e w9 ⟨rfl, n9, rfl⟩; have g9 := g7.next (HtC.below_drewN (Below.refl _ _) n9); obtain ⟨⟨r0, r1, r2, r3⟩, ⟨c0, c1, c2⟩, f0, f1, f2⟩ := g9.cells; rw [show (ByteArray.mk tr.toArray).data.toList = tr from rfl, show (ByteArray.mk #[58]).data.toList = [58] from rfl, HC1.out, HC2.out, HC3.out, k7])
    | (go_at_call 138; refine (Tryz.strings_CutPrefix ⟨a.toArray⟩ ⟨#[66, 79, 76, 76, 65, 82, 68, 49, 32]⟩ _).mono ?_; rintro e w8 ⟨rfl, hw8⟩; subst hw8; rw [show (ByteArray.mk a.toArray).data.toList = a from rfl, show (ByteArray.mk #[66, 79, 76, 76, 65, 82, 68, 49, 32]).data.toList = lead from rfl, k6, HT.out])
    | (go_at_call 136; refine (HtF.fieldOf _ _ _ [97, 117, 116, 104, 111, 114, 105, 122, 97, 116, 105, 111, 110] cf _ (HF.out.below g5.1) hl64).mono ?_; rintro e w7 ⟨rfl, h7⟩; have g7 := g5.next h7; obtain ⟨⟨r0, r1, r2, r3⟩, ⟨c0, c1, c2⟩, f0, f1, f2⟩ := g7.cells; rw [HA.out])
    | (go_at_call 68; refine (goodDate (vA d) _).mono ?_; rintro e w6 ⟨rfl, hw6⟩; subst hw6; rw [k5])
    | (go_at_call 56; refine (itoa (vA d) hv0 hv1 _ (E.out.tab.below g4.1)).mono ?_; rintro e w5 ⟨rfl, h5⟩; have g5 := g4.next h5; obtain ⟨⟨r0, r1, r2, r3⟩, ⟨c0, c1, c2⟩, f0, f1, f2⟩ := g5.cells; rw [k4])
    | (go_at_call 137; refine (atoi_yes d _ hdl (HN.out.below g3.1) k3).mono ?_; rintro e w4 ⟨rfl, h4⟩; have g4 := g3.next h4; obtain ⟨⟨r0, r1, r2, r3⟩, ⟨c0, c1, c2⟩, f0, f1, f2⟩ := g4.cells)
    | (go_at_call 136; refine (HtF.fieldOf _ _ _ [120, 45, 100, 97, 116, 101] cf _ (HF.out.below g2.1) hl64).mono ?_; rintro e w3 ⟨rfl, h3⟩; have g3 := g2.next h3; obtain ⟨⟨r0, r1, r2, r3⟩, ⟨c0, c1, c2⟩, f0, f1, f2⟩ := g3.cells; rw [HD.out])
    | (go_at_call 135; refine (HtF.count _ _ _ [97, 117, 116, 104, 111, 114, 105, 122, 97, 116, 105, 111, 110] cf _ (HF.out.below g1.1) hl64).mono ?_; rintro e w2 ⟨rfl, h2⟩; rw [HY.out]; have g2 := g1.next h2; obtain ⟨⟨r0, r1, r2, r3⟩, ⟨c0, c1, c2⟩, f0, f1, f2⟩ := g2.cells)
    | (go_at_call 135; refine (HtF.count _ _ _ [120, 45, 100, 97, 116, 101] cf _ (HF.out.below g0.1) hl64).mono ?_; rintro e w1 ⟨rfl, h1⟩; rw [HX.out]; have g1 := g0.next h1; obtain ⟨⟨r0, r1, r2, r3⟩, ⟨c0, c1, c2⟩, f0, f1, f2⟩ := g1.cells))
  refine bodyPost_ret (Cq.run (g10.2.2.put (.int .i64 0) (.string ⟨#[]⟩) (.string ⟨#[]⟩)) rfl rfl rfl) rfl ⟨rfl, below_three g10.1 hw1 _ _ _⟩
set_option maxHeartbeats 4000000 in
set_option maxRecDepth 100000 in
theorem claimed_7 (m t : List UInt8) (fs : List Sg.Fld) {ab af : Option Addr} (lb cb cf : Nat) (w : World) {aU aR aD aK : Addr} (hE : Env w aU aR aD aK) (hf : Fs w af fs) (hfl : fs.length ≤ 4294967296) (hN : Ne w) {X Y : Nat} {d a tr y1 y2 : List UInt8} {y3 : Bool}
    (hX : Ht.cnt fs Sg.xdate = X) (hY : Ht.cnt fs Sg.auth = Y) (hD : (Ht.get fs Sg.xdate).getD [] = d) (hA : (Ht.get fs Sg.auth).getD [] = a) (hT : Lib.trimPrefix a lead = tr) (hC1 : (Lib.cut tr [58]).1 = y1) (hC2 : (Lib.cut tr [58]).2.1 = y2) (hC3 : (Lib.cut tr [58]).2.2 = y3)
    (hdl : d.length ≤ 16777216) (htl : tr.length ≤ 16777216) (h1l : y1.length ≤ 16777216) (h2l : y2.length ≤ 16777216) (k1 : X = 1) (k2 : Y = 1) (k3 : okA d = true) (k4 : Lib.itoa (vA d) = d) (k5 : Sg.goodDate (vA d) = true) (k6 : Lib.hasPrefix a lead = true) (k7 : y3 = true) (k8 : Sg.goodName y1 = false) :
    Calls Tryz.prog 78 #[.agg #[.string ⟨m.toArray⟩, .string ⟨t.toArray⟩, .slice af fs.length cf, .slice ab lb cb]] w fun e w' => e = .returned (clv none) ∧ Below w.heap.size w w' := by
  have E := Lib.hid hE; clear hE
  have HF := Lib.hid hf; clear hf
  have HN := Lib.hid hN; clear hN
  have HX := Lib.hid (show Ht.cnt fs [120, 45, 100, 97, 116, 101] = X from hX); clear hX
  have HY := Lib.hid (show Ht.cnt fs [97, 117, 116, 104, 111, 114, 105, 122, 97, 116, 105, 111, 110] = Y from hY); clear hY
  have HD := Lib.hid (show (Ht.get fs [120, 45, 100, 97, 116, 101]).getD [] = d from hD); clear hD
  have HA := Lib.hid (show (Ht.get fs [97, 117, 116, 104, 111, 114, 105, 122, 97, 116, 105, 111, 110]).getD [] = a from hA); clear hA
  have HT := Lib.hid hT; clear hT
  have HC1 := Lib.hid hC1; clear hC1
  have HC2 := Lib.hid hC2; clear hC2
  have HC3 := Lib.hid hC3; clear hC3
  have hl64 : fs.length ≤ 9223372036854775807 := by omega
  obtain ⟨hv0, hv1⟩ := vA_in d
  obtain ⟨mx, hmx⟩ := E.out.mx
  have g0 : Gd w (.string ⟨m.toArray⟩) (.string ⟨t.toArray⟩) (.slice af fs.length cf) (.slice ab lb cb) ((w.alloc (.cells #[.string ⟨m.toArray⟩, .string ⟨t.toArray⟩, .slice af fs.length cf, .slice ab lb cb] 25)).alloc (.cells #[.int .i64 0, .string ⟨#[]⟩, .string ⟨#[]⟩] 134)) := by
    refine ⟨((Below.refl _ _).alloc (Nat.le_refl _) _).alloc (by simp) _, (Below.heap_alloc _ _ _ (by simp)).trans (heap_alloc_new _ _), ?_⟩
    have := heap_alloc_new (w.alloc (.cells #[.string ⟨m.toArray⟩, .string ⟨t.toArray⟩, .slice af fs.length cf, .slice ab lb cb] 25)) (.cells #[.int .i64 0, .string ⟨#[]⟩, .string ⟨#[]⟩] 134)
    rwa [World.size_alloc] at this
  have hw1 : w.heap.size ≤ w.heap.size + 1 := Nat.le_succ _
  subst k1
  subst k2
  go_enter Tryz.func78, Tryz.ntmps78
  go_wp2_with (first
    | (go_at_call 73; refine (goodName ⟨y1.toArray⟩ _ (by rw [Com.size_mk]; omega)).mono ?_; rintro e w11 ⟨rfl, hw11⟩; subst hw11; rw [show (ByteArray.mk y1.toArray).data.toList = y1 from rfl, k8])
    | (go_at_call 139; refine (Unhex.unhexW ⟨y2.toArray⟩ _ (by rw [Com.size_mk]; omega)).mono ?_; rintro e w10 ⟨⟨v10, rfl⟩, h10⟩; have g10 := g9.next h10; obtain ⟨⟨r0, r1, r2, r3⟩, ⟨c0, c1, c2⟩, f0, f1, f2⟩ := g10.cells; rw [show (ByteArray.mk y2.toArray).data.toList = y2 from rfl])
    | (go_at_call 85; refine (Tryz.strings_Cut ⟨tr.toArray⟩ ⟨#[58]⟩ mx _ (by rw [Com.size_mk]; omega) (((g7.1.cell (World.block_lt_of_cell? w _ hmx)).trans hmx))).mono ?_; rintro e w9 ⟨rfl, n9, rfl⟩; have g9 := g7.next (HtC.below_drewN (Below.refl _ _) n9); obtain ⟨⟨r0, r1, r2, r3⟩, ⟨c0, c1, c2⟩, f0, f1, f2⟩ := g9.cells; rw [show (ByteArray.mk tr.toArray).data.toList = tr from rfl, show (ByteArray.mk #[58]).data.toList = [58] from rfl, HC1.out, HC2.out, HC3.out, k7])
    | (go_at_call 138; refine (Tryz.strings_CutPrefix ⟨a.toArray⟩ ⟨#[66, 79, 76, 76, 65, 82, 68, 49, 32]⟩ _).mono ?_; rintro e w8 ⟨rfl, hw8⟩; subst hw8; rw [show (ByteArray.mk a.toArray).data.toList = a from rfl, show (ByteArray.mk #[66, 79, 76, 76, 65, 82, 68, 49, 32]).data.toList = lead from rfl, k6, HT.out])
    | (go_at_call 136; refine (HtF.fieldOf _ _ _ [97, 117, 116, 104, 111, 114, 105, 122, 97, 116, 105, 111, 110] cf _ (HF.out.below g5.1) hl64).mono ?_; rintro e w7 ⟨rfl, h7⟩; have g7 := g5.next h7; obtain ⟨⟨r0, r1, r2, r3⟩, ⟨c0, c1, c2⟩, f0, f1, f2⟩ := g7.cells; rw [HA.out])
    | (go_at_call 68; refine (goodDate (vA d) _).mono ?_; rintro e w6 ⟨rfl, hw6⟩; subst hw6; rw [k5])
    | (go_at_call 56; refine (itoa (vA d) hv0 hv1 _ (E.out.tab.below g4.1)).mono ?_; rintro e w5 ⟨rfl, h5⟩; have g5 := g4.next h5; obtain ⟨⟨r0, r1, r2, r3⟩, ⟨c0, c1, c2⟩, f0, f1, f2⟩ := g5.cells; rw [k4])
    | (go_at_call 137; refine (atoi_yes d _ hdl (HN.out.below g3.1) k3).mono ?_; rintro e w4 ⟨rfl, h4⟩; have g4 := g3.next h4; obtain ⟨⟨r0, r1, r2, r3⟩, ⟨c0, c1, c2⟩, f0, f1, f2⟩ := g4.cells)
    | (go_at_call 136; refine (HtF.fieldOf _ _ _ [120, 45, 100, 97, 116, 101] cf _ (HF.out.below g2.1) hl64).mono ?_; rintro e w3 ⟨rfl, h3⟩; have g3 := g2.next h3; obtain ⟨⟨r0, r1, r2, r3⟩, ⟨c0, c1, c2⟩, f0, f1, f2⟩ := g3.cells; rw [HD.out])
    | (go_at_call 135; refine (HtF.count _ _ _ [97, 117, 116, 104, 111, 114, 105, 122, 97, 116, 105, 111, 110] cf _ (HF.out.below g1.1) hl64).mono ?_; rintro e w2 ⟨rfl, h2⟩; rw [HY.out]; have g2 := g1.next h2; obtain ⟨⟨r0, r1, r2, r3⟩, ⟨c0, c1, c2⟩, f0, f1, f2⟩ := g2.cells)
    | (go_at_call 135; refine (HtF.count _ _ _ [120, 45, 100, 97, 116, 101] cf _ (HF.out.below g0.1) hl64).mono ?_; rintro e w1 ⟨rfl, h1⟩; rw [HX.out]; have g1 := g0.next h1; obtain ⟨⟨r0, r1, r2, r3⟩, ⟨c0, c1, c2⟩, f0, f1, f2⟩ := g1.cells))
  refine bodyPost_ret (Cq.run (g10.2.2.put (.int .i64 0) (.string ⟨#[]⟩) (.string ⟨#[]⟩)) rfl rfl rfl) rfl ⟨rfl, below_three g10.1 hw1 _ _ _⟩
set_option maxHeartbeats 4000000 in
set_option maxRecDepth 100000 in
theorem claimed_8 (m t : List UInt8) (fs : List Sg.Fld) {ab af : Option Addr} (lb cb cf : Nat) (w : World) {aU aR aD aK : Addr} (hE : Env w aU aR aD aK) (hf : Fs w af fs) (hfl : fs.length ≤ 4294967296) (hN : Ne w) {X Y : Nat} {d a tr y1 y2 : List UInt8} {y3 : Bool}
    (hX : Ht.cnt fs Sg.xdate = X) (hY : Ht.cnt fs Sg.auth = Y) (hD : (Ht.get fs Sg.xdate).getD [] = d) (hA : (Ht.get fs Sg.auth).getD [] = a) (hT : Lib.trimPrefix a lead = tr) (hC1 : (Lib.cut tr [58]).1 = y1) (hC2 : (Lib.cut tr [58]).2.1 = y2) (hC3 : (Lib.cut tr [58]).2.2 = y3)
    (hdl : d.length ≤ 16777216) (htl : tr.length ≤ 16777216) (h1l : y1.length ≤ 16777216) (h2l : y2.length ≤ 16777216) (k1 : X = 1) (k2 : Y = 1) (k3 : okA d = true) (k4 : Lib.itoa (vA d) = d) (k5 : Sg.goodDate (vA d) = true) (k6 : Lib.hasPrefix a lead = true) (k7 : y3 = true) (k8 : Sg.goodName y1 = true) (k9 : ¬ y2.length = 64) :
    Calls Tryz.prog 78 #[.agg #[.string ⟨m.toArray⟩, .string ⟨t.toArray⟩, .slice af fs.length cf, .slice ab lb cb]] w fun e w' => e = .returned (clv none) ∧ Below w.heap.size w w' := by
  have E := Lib.hid hE; clear hE
  have HF := Lib.hid hf; clear hf
  have HN := Lib.hid hN; clear hN
  have HX := Lib.hid (show Ht.cnt fs [120, 45, 100, 97, 116, 101] = X from hX); clear hX
  have HY := Lib.hid (show Ht.cnt fs [97, 117, 116, 104, 111, 114, 105, 122, 97, 116, 105, 111, 110] = Y from hY); clear hY
  have HD := Lib.hid (show (Ht.get fs [120, 45, 100, 97, 116, 101]).getD [] = d from hD); clear hD
  have HA := Lib.hid (show (Ht.get fs [97, 117, 116, 104, 111, 114, 105, 122, 97, 116, 105, 111, 110]).getD [] = a from hA); clear hA
  have HT := Lib.hid hT; clear hT
  have HC1 := Lib.hid hC1; clear hC1
  have HC2 := Lib.hid hC2; clear hC2
  have HC3 := Lib.hid hC3; clear hC3
  have hl64 : fs.length ≤ 9223372036854775807 := by omega
  obtain ⟨hv0, hv1⟩ := vA_in d
  obtain ⟨mx, hmx⟩ := E.out.mx
  have g0 : Gd w (.string ⟨m.toArray⟩) (.string ⟨t.toArray⟩) (.slice af fs.length cf) (.slice ab lb cb) ((w.alloc (.cells #[.string ⟨m.toArray⟩, .string ⟨t.toArray⟩, .slice af fs.length cf, .slice ab lb cb] 25)).alloc (.cells #[.int .i64 0, .string ⟨#[]⟩, .string ⟨#[]⟩] 134)) := by
    refine ⟨((Below.refl _ _).alloc (Nat.le_refl _) _).alloc (by simp) _, (Below.heap_alloc _ _ _ (by simp)).trans (heap_alloc_new _ _), ?_⟩
    have := heap_alloc_new (w.alloc (.cells #[.string ⟨m.toArray⟩, .string ⟨t.toArray⟩, .slice af fs.length cf, .slice ab lb cb] 25)) (.cells #[.int .i64 0, .string ⟨#[]⟩, .string ⟨#[]⟩] 134)
    rwa [World.size_alloc] at this
  have hw1 : w.heap.size ≤ w.heap.size + 1 := Nat.le_succ _
  subst k1
  subst k2
  have q9 : ¬ ((y2.length : Int) = 64) := by omega
  go_enter Tryz.func78, Tryz.ntmps78
  go_wp2_with (first
    | (go_at_call 73; refine (goodName ⟨y1.toArray⟩ _ (by rw [Com.size_mk]; omega)).mono ?_; rintro e w11 ⟨rfl, hw11⟩; subst hw11; rw [show (ByteArray.mk y1.toArray).data.toList = y1 from rfl, k8])
    | (go_at_call 139; refine (Unhex.unhexW ⟨y2.toArray⟩ _ (by rw [Com.size_mk]; omega)).mono ?_; rintro e w10 ⟨⟨v10, rfl⟩, h10⟩; have g10 := g9.next h10; obtain ⟨⟨r0, r1, r2, r3⟩, ⟨c0, c1, c2⟩, f0, f1, f2⟩ := g10.cells; rw [show (ByteArray.mk y2.toArray).data.toList = y2 from rfl])
    | (go_at_call 85; refine (Tryz.strings_Cut ⟨tr.toArray⟩ ⟨#[58]⟩ mx _ (by rw [Com.size_mk]; omega) (((g7.1.cell (World.block_lt_of_cell? w _ hmx)).trans hmx))).mono ?_; rintro e w9 ⟨rfl, n9, rfl⟩; have g9 := g7.next (HtC.below_drewN (Below.refl _ _) n9); obtain ⟨⟨r0, r1, r2, r3⟩, ⟨c0, c1, c2⟩, f0, f1, f2⟩ := g9.cells; rw [show (ByteArray.mk tr.toArray).data.toList = tr from rfl, show (ByteArray.mk #[58]).data.toList = [58] from rfl, HC1.out, HC2.out, HC3.out, k7])
    | (go_at_call 138; refine (Tryz.strings_CutPrefix ⟨a.toArray⟩ ⟨#[66, 79, 76, 76, 65, 82, 68, 49, 32]⟩ _).mono ?_; rintro e w8 ⟨rfl, hw8⟩; subst hw8; rw [show (ByteArray.mk a.toArray).data.toList = a from rfl, show (ByteArray.mk #[66, 79, 76, 76, 65, 82, 68, 49, 32]).data.toList = lead from rfl, k6, HT.out])
    | (go_at_call 136; refine (HtF.fieldOf _ _ _ [97, 117, 116, 104, 111, 114, 105, 122, 97, 116, 105, 111, 110] cf _ (HF.out.below g5.1) hl64).mono ?_; rintro e w7 ⟨rfl, h7⟩; have g7 := g5.next h7; obtain ⟨⟨r0, r1, r2, r3⟩, ⟨c0, c1, c2⟩, f0, f1, f2⟩ := g7.cells; rw [HA.out])
    | (go_at_call 68; refine (goodDate (vA d) _).mono ?_; rintro e w6 ⟨rfl, hw6⟩; subst hw6; rw [k5])
    | (go_at_call 56; refine (itoa (vA d) hv0 hv1 _ (E.out.tab.below g4.1)).mono ?_; rintro e w5 ⟨rfl, h5⟩; have g5 := g4.next h5; obtain ⟨⟨r0, r1, r2, r3⟩, ⟨c0, c1, c2⟩, f0, f1, f2⟩ := g5.cells; rw [k4])
    | (go_at_call 137; refine (atoi_yes d _ hdl (HN.out.below g3.1) k3).mono ?_; rintro e w4 ⟨rfl, h4⟩; have g4 := g3.next h4; obtain ⟨⟨r0, r1, r2, r3⟩, ⟨c0, c1, c2⟩, f0, f1, f2⟩ := g4.cells)
    | (go_at_call 136; refine (HtF.fieldOf _ _ _ [120, 45, 100, 97, 116, 101] cf _ (HF.out.below g2.1) hl64).mono ?_; rintro e w3 ⟨rfl, h3⟩; have g3 := g2.next h3; obtain ⟨⟨r0, r1, r2, r3⟩, ⟨c0, c1, c2⟩, f0, f1, f2⟩ := g3.cells; rw [HD.out])
    | (go_at_call 135; refine (HtF.count _ _ _ [97, 117, 116, 104, 111, 114, 105, 122, 97, 116, 105, 111, 110] cf _ (HF.out.below g1.1) hl64).mono ?_; rintro e w2 ⟨rfl, h2⟩; rw [HY.out]; have g2 := g1.next h2; obtain ⟨⟨r0, r1, r2, r3⟩, ⟨c0, c1, c2⟩, f0, f1, f2⟩ := g2.cells)
    | (go_at_call 135; refine (HtF.count _ _ _ [120, 45, 100, 97, 116, 101] cf _ (HF.out.below g0.1) hl64).mono ?_; rintro e w1 ⟨rfl, h1⟩; rw [HX.out]; have g1 := g0.next h1; obtain ⟨⟨r0, r1, r2, r3⟩, ⟨c0, c1, c2⟩, f0, f1, f2⟩ := g1.cells))
  refine bodyPost_ret (Cq.run (g10.2.2.put (.int .i64 0) (.string ⟨#[]⟩) (.string ⟨#[]⟩)) rfl rfl rfl) rfl ⟨rfl, below_three g10.1 hw1 _ _ _⟩
set_option maxHeartbeats 4000000 in
set_option maxRecDepth 100000 in
theorem claimed_9 (m t : List UInt8) (fs : List Sg.Fld) {ab af : Option Addr} (lb cb cf : Nat) (w : World) {aU aR aD aK : Addr} (hE : Env w aU aR aD aK) (hf : Fs w af fs) (hfl : fs.length ≤ 4294967296) (hN : Ne w) {X Y : Nat} {d a tr y1 y2 : List UInt8} {y3 : Bool}
    (hX : Ht.cnt fs Sg.xdate = X) (hY : Ht.cnt fs Sg.auth = Y) (hD : (Ht.get fs Sg.xdate).getD [] = d) (hA : (Ht.get fs Sg.auth).getD [] = a) (hT : Lib.trimPrefix a lead = tr) (hC1 : (Lib.cut tr [58]).1 = y1) (hC2 : (Lib.cut tr [58]).2.1 = y2) (hC3 : (Lib.cut tr [58]).2.2 = y3)
    (hdl : d.length ≤ 16777216) (htl : tr.length ≤ 16777216) (h1l : y1.length ≤ 16777216) (_h2l : y2.length ≤ 16777216) (k1 : X = 1) (k2 : Y = 1) (k3 : okA d = true) (k4 : Lib.itoa (vA d) = d) (k5 : Sg.goodDate (vA d) = true) (k6 : Lib.hasPrefix a lead = true) (k7 : y3 = true) (k8 : Sg.goodName y1 = true) (k9 : y2.length = 64) (k10 : Nm.isHex y2 = false) :
    Calls Tryz.prog 78 #[.agg #[.string ⟨m.toArray⟩, .string ⟨t.toArray⟩, .slice af fs.length cf, .slice ab lb cb]] w fun e w' => e = .returned (clv none) ∧ Below w.heap.size w w' := by
  have E := Lib.hid hE; clear hE
  have HF := Lib.hid hf; clear hf
  have HN := Lib.hid hN; clear hN
  have HX := Lib.hid (show Ht.cnt fs [120, 45, 100, 97, 116, 101] = X from hX); clear hX
  have HY := Lib.hid (show Ht.cnt fs [97, 117, 116, 104, 111, 114, 105, 122, 97, 116, 105, 111, 110] = Y from hY); clear hY
  have HD := Lib.hid (show (Ht.get fs [120, 45, 100, 97, 116, 101]).getD [] = d from hD); clear hD
  have HA := Lib.hid (show (Ht.get fs [97, 117, 116, 104, 111, 114, 105, 122, 97, 116, 105, 111, 110]).getD [] = a from hA); clear hA
  have HT := Lib.hid hT; clear hT
  have HC1 := Lib.hid hC1; clear hC1
  have HC2 := Lib.hid hC2; clear hC2
  have HC3 := Lib.hid hC3; clear hC3
  have hl64 : fs.length ≤ 9223372036854775807 := by omega
  obtain ⟨hv0, hv1⟩ := vA_in d
  obtain ⟨mx, hmx⟩ := E.out.mx
  have g0 : Gd w (.string ⟨m.toArray⟩) (.string ⟨t.toArray⟩) (.slice af fs.length cf) (.slice ab lb cb) ((w.alloc (.cells #[.string ⟨m.toArray⟩, .string ⟨t.toArray⟩, .slice af fs.length cf, .slice ab lb cb] 25)).alloc (.cells #[.int .i64 0, .string ⟨#[]⟩, .string ⟨#[]⟩] 134)) := by
    refine ⟨((Below.refl _ _).alloc (Nat.le_refl _) _).alloc (by simp) _, (Below.heap_alloc _ _ _ (by simp)).trans (heap_alloc_new _ _), ?_⟩
    have := heap_alloc_new (w.alloc (.cells #[.string ⟨m.toArray⟩, .string ⟨t.toArray⟩, .slice af fs.length cf, .slice ab lb cb] 25)) (.cells #[.int .i64 0, .string ⟨#[]⟩, .string ⟨#[]⟩] 134)
    rwa [World.size_alloc] at this
  have hw1 : w.heap.size ≤ w.heap.size + 1 := Nat.le_succ _
  subst k1
  subst k2
  go_enter Tryz.func78, Tryz.ntmps78
  go_wp2_with (first
    | (go_at_call 73; refine (goodName ⟨y1.toArray⟩ _ (by rw [Com.size_mk]; omega)).mono ?_; rintro e w11 ⟨rfl, hw11⟩; subst hw11; rw [show (ByteArray.mk y1.toArray).data.toList = y1 from rfl, k8])
    | (go_at_call 139; refine (Unhex.unhexW ⟨y2.toArray⟩ _ (by rw [Com.size_mk]; omega)).mono ?_; rintro e w10 ⟨⟨v10, rfl⟩, h10⟩; have g10 := g9.next h10; obtain ⟨⟨r0, r1, r2, r3⟩, ⟨c0, c1, c2⟩, f0, f1, f2⟩ := g10.cells; rw [show (ByteArray.mk y2.toArray).data.toList = y2 from rfl, k10])
    | (go_at_call 85; refine (Tryz.strings_Cut ⟨tr.toArray⟩ ⟨#[58]⟩ mx _ (by rw [Com.size_mk]; omega) (((g7.1.cell (World.block_lt_of_cell? w _ hmx)).trans hmx))).mono ?_; rintro e w9 ⟨rfl, n9, rfl⟩; have g9 := g7.next (HtC.below_drewN (Below.refl _ _) n9); obtain ⟨⟨r0, r1, r2, r3⟩, ⟨c0, c1, c2⟩, f0, f1, f2⟩ := g9.cells; rw [show (ByteArray.mk tr.toArray).data.toList = tr from rfl, show (ByteArray.mk #[58]).data.toList = [58] from rfl, HC1.out, HC2.out, HC3.out, k7])
    | (go_at_call 138; refine (Tryz.strings_CutPrefix ⟨a.toArray⟩ ⟨#[66, 79, 76, 76, 65, 82, 68, 49, 32]⟩ _).mono ?_; rintro e w8 ⟨rfl, hw8⟩; subst hw8; rw [show (ByteArray.mk a.toArray).data.toList = a from rfl, show (ByteArray.mk #[66, 79, 76, 76, 65, 82, 68, 49, 32]).data.toList = lead from rfl, k6, HT.out])
    | (go_at_call 136; refine (HtF.fieldOf _ _ _ [97, 117, 116, 104, 111, 114, 105, 122, 97, 116, 105, 111, 110] cf _ (HF.out.below g5.1) hl64).mono ?_; rintro e w7 ⟨rfl, h7⟩; have g7 := g5.next h7; obtain ⟨⟨r0, r1, r2, r3⟩, ⟨c0, c1, c2⟩, f0, f1, f2⟩ := g7.cells; rw [HA.out])
    | (go_at_call 68; refine (goodDate (vA d) _).mono ?_; rintro e w6 ⟨rfl, hw6⟩; subst hw6; rw [k5])
    | (go_at_call 56; refine (itoa (vA d) hv0 hv1 _ (E.out.tab.below g4.1)).mono ?_; rintro e w5 ⟨rfl, h5⟩; have g5 := g4.next h5; obtain ⟨⟨r0, r1, r2, r3⟩, ⟨c0, c1, c2⟩, f0, f1, f2⟩ := g5.cells; rw [k4])
    | (go_at_call 137; refine (atoi_yes d _ hdl (HN.out.below g3.1) k3).mono ?_; rintro e w4 ⟨rfl, h4⟩; have g4 := g3.next h4; obtain ⟨⟨r0, r1, r2, r3⟩, ⟨c0, c1, c2⟩, f0, f1, f2⟩ := g4.cells)
    | (go_at_call 136; refine (HtF.fieldOf _ _ _ [120, 45, 100, 97, 116, 101] cf _ (HF.out.below g2.1) hl64).mono ?_; rintro e w3 ⟨rfl, h3⟩; have g3 := g2.next h3; obtain ⟨⟨r0, r1, r2, r3⟩, ⟨c0, c1, c2⟩, f0, f1, f2⟩ := g3.cells; rw [HD.out])
    | (go_at_call 135; refine (HtF.count _ _ _ [97, 117, 116, 104, 111, 114, 105, 122, 97, 116, 105, 111, 110] cf _ (HF.out.below g1.1) hl64).mono ?_; rintro e w2 ⟨rfl, h2⟩; rw [HY.out]; have g2 := g1.next h2; obtain ⟨⟨r0, r1, r2, r3⟩, ⟨c0, c1, c2⟩, f0, f1, f2⟩ := g2.cells)
    | (go_at_call 135; refine (HtF.count _ _ _ [120, 45, 100, 97, 116, 101] cf _ (HF.out.below g0.1) hl64).mono ?_; rintro e w1 ⟨rfl, h1⟩; rw [HX.out]; have g1 := g0.next h1; obtain ⟨⟨r0, r1, r2, r3⟩, ⟨c0, c1, c2⟩, f0, f1, f2⟩ := g1.cells))
  refine bodyPost_ret (Cq.run (g10.2.2.put (.int .i64 0) (.string ⟨#[]⟩) (.string ⟨#[]⟩)) rfl rfl rfl) rfl ⟨rfl, below_three g10.1 hw1 _ _ _⟩
set_option maxHeartbeats 4000000 in
set_option maxRecDepth 100000 in
theorem claimed_yes (m t : List UInt8) (fs : List Sg.Fld) {ab af : Option Addr} (lb cb cf : Nat) (w : World) {aU aR aD aK : Addr} (hE : Env w aU aR aD aK) (hf : Fs w af fs) (hfl : fs.length ≤ 4294967296) (hN : Ne w) {X Y : Nat} {d a tr y1 y2 : List UInt8} {y3 : Bool}
    (hX : Ht.cnt fs Sg.xdate = X) (hY : Ht.cnt fs Sg.auth = Y) (hD : (Ht.get fs Sg.xdate).getD [] = d) (hA : (Ht.get fs Sg.auth).getD [] = a) (hT : Lib.trimPrefix a lead = tr) (hC1 : (Lib.cut tr [58]).1 = y1) (hC2 : (Lib.cut tr [58]).2.1 = y2) (hC3 : (Lib.cut tr [58]).2.2 = y3)
    (hdl : d.length ≤ 16777216) (htl : tr.length ≤ 16777216) (h1l : y1.length ≤ 16777216) (_h2l : y2.length ≤ 16777216) (k1 : X = 1) (k2 : Y = 1) (k3 : okA d = true) (k4 : Lib.itoa (vA d) = d) (k5 : Sg.goodDate (vA d) = true) (k6 : Lib.hasPrefix a lead = true) (k7 : y3 = true) (k8 : Sg.goodName y1 = true) (k9 : y2.length = 64) (k10 : Nm.isHex y2 = true) :
    Calls Tryz.prog 78 #[.agg #[.string ⟨m.toArray⟩, .string ⟨t.toArray⟩, .slice af fs.length cf, .slice ab lb cb]] w fun e w' => e = .returned (clv (some ((vA d).toNat, y1, y2))) ∧ Below w.heap.size w w' := by
  have E := Lib.hid hE; clear hE
  have HF := Lib.hid hf; clear hf
  have HN := Lib.hid hN; clear hN
  have HX := Lib.hid (show Ht.cnt fs [120, 45, 100, 97, 116, 101] = X from hX); clear hX
  have HY := Lib.hid (show Ht.cnt fs [97, 117, 116, 104, 111, 114, 105, 122, 97, 116, 105, 111, 110] = Y from hY); clear hY
  have HD := Lib.hid (show (Ht.get fs [120, 45, 100, 97, 116, 101]).getD [] = d from hD); clear hD
  have HA := Lib.hid (show (Ht.get fs [97, 117, 116, 104, 111, 114, 105, 122, 97, 116, 105, 111, 110]).getD [] = a from hA); clear hA
  have HT := Lib.hid hT; clear hT
  have HC1 := Lib.hid hC1; clear hC1
  have HC2 := Lib.hid hC2; clear hC2
  have HC3 := Lib.hid hC3; clear hC3
  have hl64 : fs.length ≤ 9223372036854775807 := by omega
  obtain ⟨hv0, hv1⟩ := vA_in d
  obtain ⟨mx, hmx⟩ := E.out.mx
  have g0 : Gd w (.string ⟨m.toArray⟩) (.string ⟨t.toArray⟩) (.slice af fs.length cf) (.slice ab lb cb) ((w.alloc (.cells #[.string ⟨m.toArray⟩, .string ⟨t.toArray⟩, .slice af fs.length cf, .slice ab lb cb] 25)).alloc (.cells #[.int .i64 0, .string ⟨#[]⟩, .string ⟨#[]⟩] 134)) := by
    refine ⟨((Below.refl _ _).alloc (Nat.le_refl _) _).alloc (by simp) _, (Below.heap_alloc _ _ _ (by simp)).trans (heap_alloc_new _ _), ?_⟩
    have := heap_alloc_new (w.alloc (.cells #[.string ⟨m.toArray⟩, .string ⟨t.toArray⟩, .slice af fs.length cf, .slice ab lb cb] 25)) (.cells #[.int .i64 0, .string ⟨#[]⟩, .string ⟨#[]⟩] 134)
    rwa [World.size_alloc] at this
  have hw1 : w.heap.size ≤ w.heap.size + 1 := Nat.le_succ _
  subst k1
  subst k2
  go_enter Tryz.func78, Tryz.ntmps78
  go_wp2_with (first
    | (go_at_call 73; refine (goodName ⟨y1.toArray⟩ _ (by rw [Com.size_mk]; omega)).mono ?_; rintro e w11 ⟨rfl, hw11⟩; subst hw11; rw [show (ByteArray.mk y1.toArray).data.toList = y1 from rfl, k8])
    | (go_at_call 139; refine (Unhex.unhexW ⟨y2.toArray⟩ _ (by rw [Com.size_mk]; omega)).mono ?_; rintro e w10 ⟨⟨v10, rfl⟩, h10⟩; have g10 := g9.next h10; obtain ⟨⟨r0, r1, r2, r3⟩, ⟨c0, c1, c2⟩, f0, f1, f2⟩ := g10.cells; rw [show (ByteArray.mk y2.toArray).data.toList = y2 from rfl, k10])
    | (go_at_call 85; refine (Tryz.strings_Cut ⟨tr.toArray⟩ ⟨#[58]⟩ mx _ (by rw [Com.size_mk]; omega) (((g7.1.cell (World.block_lt_of_cell? w _ hmx)).trans hmx))).mono ?_; rintro e w9 ⟨rfl, n9, rfl⟩; have g9 := g7.next (HtC.below_drewN (Below.refl _ _) n9); obtain ⟨⟨r0, r1, r2, r3⟩, ⟨c0, c1, c2⟩, f0, f1, f2⟩ := g9.cells; rw [show (ByteArray.mk tr.toArray).data.toList = tr from rfl, show (ByteArray.mk #[58]).data.toList = [58] from rfl, HC1.out, HC2.out, HC3.out, k7])
    | (go_at_call 138; refine (Tryz.strings_CutPrefix ⟨a.toArray⟩ ⟨#[66, 79, 76, 76, 65, 82, 68, 49, 32]⟩ _).mono ?_; rintro e w8 ⟨rfl, hw8⟩; subst hw8; rw [show (ByteArray.mk a.toArray).data.toList = a from rfl, show (ByteArray.mk #[66, 79, 76, 76, 65, 82, 68, 49, 32]).data.toList = lead from rfl, k6, HT.out])
    | (go_at_call 136; refine (HtF.fieldOf _ _ _ [97, 117, 116, 104, 111, 114, 105, 122, 97, 116, 105, 111, 110] cf _ (HF.out.below g5.1) hl64).mono ?_; rintro e w7 ⟨rfl, h7⟩; have g7 := g5.next h7; obtain ⟨⟨r0, r1, r2, r3⟩, ⟨c0, c1, c2⟩, f0, f1, f2⟩ := g7.cells; rw [HA.out])
    | (go_at_call 68; refine (goodDate (vA d) _).mono ?_; rintro e w6 ⟨rfl, hw6⟩; subst hw6; rw [k5])
    | (go_at_call 56; refine (itoa (vA d) hv0 hv1 _ (E.out.tab.below g4.1)).mono ?_; rintro e w5 ⟨rfl, h5⟩; have g5 := g4.next h5; obtain ⟨⟨r0, r1, r2, r3⟩, ⟨c0, c1, c2⟩, f0, f1, f2⟩ := g5.cells; rw [k4])
    | (go_at_call 137; refine (atoi_yes d _ hdl (HN.out.below g3.1) k3).mono ?_; rintro e w4 ⟨rfl, h4⟩; have g4 := g3.next h4; obtain ⟨⟨r0, r1, r2, r3⟩, ⟨c0, c1, c2⟩, f0, f1, f2⟩ := g4.cells)
    | (go_at_call 136; refine (HtF.fieldOf _ _ _ [120, 45, 100, 97, 116, 101] cf _ (HF.out.below g2.1) hl64).mono ?_; rintro e w3 ⟨rfl, h3⟩; have g3 := g2.next h3; obtain ⟨⟨r0, r1, r2, r3⟩, ⟨c0, c1, c2⟩, f0, f1, f2⟩ := g3.cells; rw [HD.out])
    | (go_at_call 135; refine (HtF.count _ _ _ [97, 117, 116, 104, 111, 114, 105, 122, 97, 116, 105, 111, 110] cf _ (HF.out.below g1.1) hl64).mono ?_; rintro e w2 ⟨rfl, h2⟩; rw [HY.out]; have g2 := g1.next h2; obtain ⟨⟨r0, r1, r2, r3⟩, ⟨c0, c1, c2⟩, f0, f1, f2⟩ := g2.cells)
    | (go_at_call 135; refine (HtF.count _ _ _ [120, 45, 100, 97, 116, 101] cf _ (HF.out.below g0.1) hl64).mono ?_; rintro e w1 ⟨rfl, h1⟩; rw [HX.out]; have g1 := g0.next h1; obtain ⟨⟨r0, r1, r2, r3⟩, ⟨c0, c1, c2⟩, f0, f1, f2⟩ := g1.cells))
  refine bodyPost_ret (Cq.run (g10.2.2.put (.int .i64 (vA d)) (.string ⟨y1.toArray⟩) (.string ⟨y2.toArray⟩)) rfl rfl rfl) rfl ⟨?_, below_three g10.1 hw1 _ _ _⟩
  have h0 : 0 ≤ vA d := by simp only [Sg.goodDate, Bool.and_eq_true, decide_eq_true_eq] at k5; exact k5.1
  rw [clv_some h0]
  rfl
theorem claimed (m t : List UInt8) (fs : List Sg.Fld) {ab af : Option Addr} (lb cb cf : Nat) (w : World) {aU aR aD aK : Addr} (hE : Env w aU aR aD aK) (hf : Fs w af fs) (hfl : fs.length ≤ 4294967296) (hN : Ne w) (hv : ∀ q ∈ fs, q.2.length ≤ 16777216) :
    Calls Tryz.prog 78 #[.agg #[.string ⟨m.toArray⟩, .string ⟨t.toArray⟩, .slice af fs.length cf, .slice ab lb cb]] w fun e w' => e = .returned (clv (Sg.claimed fs)) ∧ Below w.heap.size w w' := by
  have hd : (D fs).length ≤ 16777216 := get_len hv Sg.xdate
  have ha : (A fs).length ≤ 16777216 := get_len hv Sg.auth
  have ht := trim_len (A fs)
  have hc := cut_len (Lib.trimPrefix (A fs) lead) [58]
  have htl : (Lib.trimPrefix (A fs) lead).length ≤ 16777216 := by omega
  have h1l : (C fs).1.length ≤ 16777216 := Nat.le_trans hc.1 htl
  have h2l : (C fs).2.1.length ≤ 16777216 := Nat.le_trans hc.2 htl
  rw [claimed_if]
  by_cases k1 : Ht.cnt fs Sg.xdate = 1
  case neg =>
    rw [if_neg (fun e => k1 e.1.1.1)]
    exact claimed_0 m t fs lb cb cf w hE hf hfl hN rfl rfl rfl rfl rfl rfl rfl rfl hd htl h1l h2l k1
  by_cases k2 : Ht.cnt fs Sg.auth = 1
  case neg =>
    rw [if_neg (fun e => k2 e.1.1.2)]
    exact claimed_1 m t fs lb cb cf w hE hf hfl hN rfl rfl rfl rfl rfl rfl rfl rfl hd htl h1l h2l k1 k2
  by_cases k3 : okA (D fs) = true
  case neg =>
    rw [if_neg (fun e => k3 e.1.2.1)]
    rw [Bool.not_eq_true] at k3
    exact claimed_2 m t fs lb cb cf w hE hf hfl hN rfl rfl rfl rfl rfl rfl rfl rfl hd htl h1l h2l k1 k2 k3
  by_cases k4 : Lib.itoa (vA (D fs)) = D fs
  case neg =>
    rw [if_neg (fun e => k4 e.1.2.2.1)]
    exact claimed_3 m t fs lb cb cf w hE hf hfl hN rfl rfl rfl rfl rfl rfl rfl rfl hd htl h1l h2l k1 k2 k3 k4
  by_cases k5 : Sg.goodDate (vA (D fs)) = true
  case neg =>
    rw [if_neg (fun e => k5 e.1.2.2.2)]
    rw [Bool.not_eq_true] at k5
    exact claimed_4 m t fs lb cb cf w hE hf hfl hN rfl rfl rfl rfl rfl rfl rfl rfl hd htl h1l h2l k1 k2 k3 k4 k5
  by_cases k6 : Lib.hasPrefix (A fs) lead = true
  case neg =>
    rw [if_neg (fun e => k6 e.2.1)]
    rw [Bool.not_eq_true] at k6
    exact claimed_5 m t fs lb cb cf w hE hf hfl hN rfl rfl rfl rfl rfl rfl rfl rfl hd htl h1l h2l k1 k2 k3 k4 k5 k6
  by_cases k7 : (C fs).2.2 = true
  case neg =>
    rw [if_neg (fun e => k7 e.2.2.1)]
    rw [Bool.not_eq_true] at k7
    exact claimed_6 m t fs lb cb cf w hE hf hfl hN rfl rfl rfl rfl rfl rfl rfl rfl hd htl h1l h2l k1 k2 k3 k4 k5 k6 k7
  by_cases k8 : Sg.goodName (C fs).1 = true
  case neg =>
    rw [if_neg (fun e => k8 e.2.2.2.1)]
    rw [Bool.not_eq_true] at k8
    exact claimed_7 m t fs lb cb cf w hE hf hfl hN rfl rfl rfl rfl rfl rfl rfl rfl hd htl h1l h2l k1 k2 k3 k4 k5 k6 k7 k8
  by_cases k9 : (C fs).2.1.length = 64
  case neg =>
    rw [if_neg (fun e => k9 e.2.2.2.2.1)]
    exact claimed_8 m t fs lb cb cf w hE hf hfl hN rfl rfl rfl rfl rfl rfl rfl rfl hd htl h1l h2l k1 k2 k3 k4 k5 k6 k7 k8 k9
  by_cases k10 : Nm.isHex (C fs).2.1 = true
  case neg =>
    rw [if_neg (fun e => k10 e.2.2.2.2.2)]
    rw [Bool.not_eq_true] at k10
    exact claimed_9 m t fs lb cb cf w hE hf hfl hN rfl rfl rfl rfl rfl rfl rfl rfl hd htl h1l h2l k1 k2 k3 k4 k5 k6 k7 k8 k9 k10
  rw [if_pos ⟨⟨⟨k1, k2⟩, k3, k4, k5⟩, k6, k7, k8, k9, k10⟩]
  exact claimed_yes m t fs lb cb cf w hE hf hfl hN rfl rfl rfl rfl rfl rfl rfl rfl hd htl h1l h2l k1 k2 k3 k4 k5 k6 k7 k8 k9 k10
end Go.Proofs.YtidflagmdabfaaaGreatDoor.SgF
