/-
  A request that is being taken apart, in memory; the walks of asking's command and get. (Printed by mkask.py.) The walks of asking's get and makeBucket; a bucket's routes. (Printed by mkaskb.py.) The walk of asking's place at a bucket's path. (Printed by mkaskc.py.) The walk of package route's Parse where a bucket is made. (Printed by mkaskd.py.)
-/
import Derived.Test.YtidflagmdabfaaaGreatDoorSg02
import Derived.Test.YtidflagmdabfaaaGreatDoorSg11
import Derived.Test.YtidflagmdabfaaaGreatDoorSg14
import Derived.Test.YtidflagmdabfaaaGreatDoorSg16
import Derived.Test.YtidflagmdabfaaaGreatDoorSc01
import Derived.Test.YtidflagmdabfaaaGreatDoorRo02
import Derived.Deep.RegionHeld3
import Derived.Maps.OwnSet
import Derived.Maps.Views
import Derived.StringKeys
import Derived.Deep.MidRow
namespace Go.Proofs.YtidflagmdabfaaaGreatDoor.RtD
open Go.RowKit Go.Proofs.YtidflagmdabfaaaGreatDoor

/-- the box -/
def Ak (B : Nat) (w : World) (C : List Value) : Prop := w.heap[B]? = some (.cells C.toArray 102 (0, 0))
theorem Ak.lt {B : Nat} {w : World} {C : List Value} (h : Ak B w C) : B < w.heap.size := (Array.getElem?_eq_some_iff.1 h).1
theorem Ak.below {B : Nat} {w w' : World} {C : List Value} (h : Ak B w C) (hb : Below w.heap.size w w') : Ak B w' C := (hb.block _ h.lt).trans h
theorem Ak.at {B : Nat} {w : World} {C : List Value} (h : Ak B w C) (i : Nat) {v : Value} (hi : C[i]? = some v) : w.cell? ⟨B, i, none⟩ = some v := by
  rw [Lib.cell_of_heap h, List.getElem?_toArray]; exact hi
theorem Ak.fr {B : Nat} {w : World} {C : List Value} (h : Ak B w C) (i : Nat) : w.frozen? ⟨B, i, none⟩ = false := Lib.frozen_of_heap h i
theorem Ak.put {B : Nat} {w : World} {C : List Value} (h : Ak B w C) (i : Nat) (v : Value) : Ak B (w.setCell ⟨B, i, none⟩ v) (C.set i v) := by
  unfold Ak at h ⊢
  simp only [World.setCell, Array.getElem?_modify, if_true, h]
  simp
theorem Ak.drew {B : Nat} {w : World} {C : List Value} (h : Ak B w C) : Ak B w.drew C := h

set_option maxHeartbeats 4000000 in
set_option maxRecDepth 100000 in
theorem command (kind : Int) {i0 i1 i2 : Int} {B : Nat} {w : World} {c0 c1 c2 c3 c4 c5 c9 c10 c11 c12 c13 c14 c15 c16 c17 c18 c19 c20 c21 c22 c23 c24 c25 c26 c27 c28 c31 c32 c33 c34 c35 c36 c37 c38 c39 c40 : Value} {bk ky : ByteArray} (h : Ak B w [c0, c1, c2, c3, c4, c5, .int .i64 i0, .int .i64 i1, .int .i64 i2, c9, c10, c11, c12, c13, c14, c15, c16, c17, c18, c19, c20, c21, c22, c23, c24, c25, c26, c27, c28, .string bk, .string ky, c31, c32, c33, c34, c35, c36, c37, c38, c39, c40]) :
    Calls Tryz.prog 177 #[.pointer (some ⟨B, 0, none⟩), .int .i64 kind] w fun e w' => e = .returned (.tuple #[]) ∧ Ak B w' [c0, c1, c2, c3, c4, c5, .int .i64 i0, .int .i64 i1, .int .i64 i2, c9, .int .i64 1, .int .i64 kind, .int .i64 i0, .int .i64 i1, .int .i64 i2, .string bk, .string ky, .int .i64 0, .int .i64 0, .int .i64 0, .int .i64 0, .int .i64 0, .int .i64 0, .int .i64 0, .string ⟨#[]⟩, .int .i64 0, .slice none 0 0, .int .i64 0, .int .i64 0, .string ⟨#[]⟩, .string ⟨#[]⟩, c31, c32, c33, c34, c35, c36, c37, c38, c39, c40] ∧ Below B w w' := by
  have x6 := h.at 6 rfl
  have x7 := h.at 7 rfl
  have x8 := h.at 8 rfl
  have x29 := h.at 29 rfl
  have x30 := h.at 30 rfl
  have f10 := h.fr 10
  have x10 := h.at 10 rfl
  have x11 := h.at 11 rfl
  have f11 := h.fr 11
  have x12 := h.at 12 rfl
  have f12 := h.fr 12
  have x13 := h.at 13 rfl
  have f13 := h.fr 13
  have x14 := h.at 14 rfl
  have f14 := h.fr 14
  have x15 := h.at 15 rfl
  have f15 := h.fr 15
  have x16 := h.at 16 rfl
  have f16 := h.fr 16
  have x17 := h.at 17 rfl
  have f17 := h.fr 17
  have x18 := h.at 18 rfl
  have f18 := h.fr 18
  have x19 := h.at 19 rfl
  have f19 := h.fr 19
  have x20 := h.at 20 rfl
  have f20 := h.fr 20
  have x21 := h.at 21 rfl
  have f21 := h.fr 21
  have x22 := h.at 22 rfl
  have f22 := h.fr 22
  have x23 := h.at 23 rfl
  have f23 := h.fr 23
  have x24 := h.at 24 rfl
  have f24 := h.fr 24
  have x25 := h.at 25 rfl
  have f25 := h.fr 25
  have x26 := h.at 26 rfl
  have f26 := h.fr 26
  have x27 := h.at 27 rfl
  have f27 := h.fr 27
  have x28 := h.at 28 rfl
  have f28 := h.fr 28
  have f29 := h.fr 29
  have f30 := h.fr 30
  go_enter Tryz.func177, Tryz.ntmps177
  go_wp2_with fail
  go_region
  have H1 := ((((((((((((((((((((h).put 10 (.int .i64 1)).put 11 (.int .i64 kind)).put 12 (.int .i64 i0)).put 13 (.int .i64 i1)).put 14 (.int .i64 i2)).put 15 (.string bk)).put 16 (.string ky)).put 17 (.int .i64 0)).put 18 (.int .i64 0)).put 19 (.int .i64 0)).put 20 (.int .i64 0)).put 21 (.int .i64 0)).put 22 (.int .i64 0)).put 23 (.int .i64 0)).put 24 (.string ⟨#[]⟩)).put 25 (.int .i64 0)).put 26 (.slice none 0 0)).put 27 (.int .i64 0)).put 28 (.int .i64 0)).drew
  have hB1 := ((((((((((((((((((((Below.refl B w).setCell (p := ⟨B, 10, none⟩) (Nat.le_refl _) (.int .i64 1)).setCell (p := ⟨B, 11, none⟩) (Nat.le_refl _) (.int .i64 kind)).setCell (p := ⟨B, 12, none⟩) (Nat.le_refl _) (.int .i64 i0)).setCell (p := ⟨B, 13, none⟩) (Nat.le_refl _) (.int .i64 i1)).setCell (p := ⟨B, 14, none⟩) (Nat.le_refl _) (.int .i64 i2)).setCell (p := ⟨B, 15, none⟩) (Nat.le_refl _) (.string bk)).setCell (p := ⟨B, 16, none⟩) (Nat.le_refl _) (.string ky)).setCell (p := ⟨B, 17, none⟩) (Nat.le_refl _) (.int .i64 0)).setCell (p := ⟨B, 18, none⟩) (Nat.le_refl _) (.int .i64 0)).setCell (p := ⟨B, 19, none⟩) (Nat.le_refl _) (.int .i64 0)).setCell (p := ⟨B, 20, none⟩) (Nat.le_refl _) (.int .i64 0)).setCell (p := ⟨B, 21, none⟩) (Nat.le_refl _) (.int .i64 0)).setCell (p := ⟨B, 22, none⟩) (Nat.le_refl _) (.int .i64 0)).setCell (p := ⟨B, 23, none⟩) (Nat.le_refl _) (.int .i64 0)).setCell (p := ⟨B, 24, none⟩) (Nat.le_refl _) (.string ⟨#[]⟩)).setCell (p := ⟨B, 25, none⟩) (Nat.le_refl _) (.int .i64 0)).setCell (p := ⟨B, 26, none⟩) (Nat.le_refl _) (.slice none 0 0)).setCell (p := ⟨B, 27, none⟩) (Nat.le_refl _) (.int .i64 0)).setCell (p := ⟨B, 28, none⟩) (Nat.le_refl _) (.int .i64 0)).drew
  clear x6 x7 x8 x29 x30 f29 f30 x10 f10 x11 f11 x12 f12 x13 f13 x14 f14 x15 f15 x16 f16 x17 f17 x18 f18 x19 f19 x20 f20 x21 f21 x22 f22 x23 f23 x24 f24 x25 f25 x26 f26 x27 f27 x28 f28
  generalize World.drew _ = w2 at H1 hB1 ⊢
  simp only [List.set_cons_zero, List.set_cons_succ] at H1
  have H2 : Ak B w2 [c0, c1, c2, c3, c4, c5, .int .i64 i0, .int .i64 i1, .int .i64 i2, c9, .int .i64 1, .int .i64 kind, .int .i64 i0, .int .i64 i1, .int .i64 i2, .string bk, .string ky, .int .i64 0, .int .i64 0, .int .i64 0, .int .i64 0, .int .i64 0, .int .i64 0, .int .i64 0, .string ⟨#[]⟩, .int .i64 0, .slice none 0 0, .int .i64 0, .int .i64 0, .string bk, .string ky, c31, c32, c33, c34, c35, c36, c37, c38, c39, c40] := H1
  clear H1
  have x29 := H2.at 29 rfl
  have x30 := H2.at 30 rfl
  have f29 := H2.fr 29
  have f30 := H2.fr 30
  have H3 := (H2.put 29 (.string ⟨#[]⟩)).put 30 (.string ⟨#[]⟩)
  simp only [List.set_cons_zero, List.set_cons_succ] at H3
  clear H2
  go_wp2_with fail
  go_end0
  exact ⟨rfl, H3, (hB1.setCell (p := ⟨B, 29, none⟩) (Nat.le_refl _) (.string ⟨#[]⟩)).setCell (p := ⟨B, 30, none⟩) (Nat.le_refl _) (.string ⟨#[]⟩)⟩
end Go.Proofs.YtidflagmdabfaaaGreatDoor.RtD
namespace Go.Proofs.YtidflagmdabfaaaGreatDoor.RtE
open Go.RowKit Go.Maps Go.Sort Go.Proofs.YtidflagmdabfaaaGreatDoor Go.WideShapes Go.WideMaps Go.Proofs.YtidflagmdabfaaaGreatDoor.RtD Go.Proofs.YtidflagmdabfaaaGreatDoor.UriC

set_option maxHeartbeats 4000000 in
set_option maxRecDepth 100000 in
theorem get {B : Nat} {w : World} {C : List Value} {p : Value} {aq : Option Addr} {cq : Nat} {ps : List (List UInt8 × List UInt8)} (n : List UInt8) (h : Ak B w C) (h0 : C[0]? = some p) (h1 : C[1]? = some (.slice aq ps.length cq)) (hp : Pairs w aq ps) (hl : ps.length ≤ 4294967296) (hs : ∃ s, p = .string s) :
    Calls Tryz.prog 178 #[.pointer (some ⟨B, 0, none⟩), .string ⟨n.toArray⟩] w fun e w' => e = .returned (.tuple #[.string ⟨((UriQ.gt ps n).getD []).toArray⟩, .bool (UriQ.gt ps n).isSome]) ∧ Below w.heap.size w w' := by
  obtain ⟨s, rfl⟩ := hs
  have x0 := h.at 0 h0
  have x1 := h.at 1 h1
  have KG := Lib.hid (UriQ.get (.string s) n cq w hp hl)
  clear h h0 h1
  go_enter Tryz.func178, Tryz.ntmps178
  go_wp2_with fail
  refine KG.out.mono ?_
  rintro e w1 ⟨rfl, hb1⟩
  go_wp2_with fail
  go_ret2
  exact ⟨rfl, hb1⟩

set_option maxHeartbeats 4000000 in
set_option maxRecDepth 100000 in
theorem makeBucket {i0 i1 i2 now : Int} {B : Nat} {w : World} {c2 c3 c4 c5 c10 c11 c12 c13 c14 c15 c16 c17 c18 c19 c20 c21 c22 c23 c24 c25 c26 c27 c28 c31 c32 c33 c34 c35 c36 c37 c38 c39 c40 : Value} {aq : Option Addr} {cq : Nat} {ps : List (List UInt8 × List UInt8)} {pa bk ky : ByteArray} (h : Ak B w [.string pa, .slice aq ps.length cq, c2, c3, c4, c5, .int .i64 i0, .int .i64 i1, .int .i64 i2, .int .i64 now, c10, c11, c12, c13, c14, c15, c16, c17, c18, c19, c20, c21, c22, c23, c24, c25, c26, c27, c28, .string bk, .string ky, c31, c32, c33, c34, c35, c36, c37, c38, c39, c40]) (hp : Pairs w aq ps) (hl : ps.length ≤ 4294967296) (hd : UriQ.gt ps [100, 97, 121, 115] = none) :
    Calls Tryz.prog 148 #[.pointer (some ⟨B, 0, none⟩)] w fun e w' => e = .returned .nilIface ∧ Ak B w' [.string pa, .slice aq ps.length cq, c2, c3, c4, c5, .int .i64 i0, .int .i64 i1, .int .i64 i2, .int .i64 now, .int .i64 1, .int .i64 1, .int .i64 i0, .int .i64 i1, .int .i64 i2, .string bk, .string ky, .int .i64 0, .int .i64 0, .int .i64 0, .int .i64 0, .int .i64 0, .int .i64 0, .int .i64 0, .string ⟨#[]⟩, .int .i64 0, .slice none 0 0, .int .i64 now, .int .i64 0, .string ⟨#[]⟩, .string ⟨#[]⟩, c31, c32, c33, c34, c35, c36, c37, c38, c39, c40] ∧ Below B w w' := by
  have KG := Lib.hid (get [100, 97, 121, 115] h rfl rfl hp hl ⟨pa, rfl⟩)
  have HA := Lib.hid h
  clear h
  go_enter Tryz.func148, Tryz.ntmps148
  go_wp2_with fail
  refine KG.out.mono ?_
  rw [hd]
  rintro e w1 ⟨rfl, hb1⟩
  have KC := Lib.hid (command 1 (HA.out.below hb1))
  have HL := Lib.hid HA.out.lt
  clear KG
  go_wp2_with fail
  refine KC.out.mono ?_
  rintro e w2 ⟨rfl, h2, hb2⟩
  have x9 := h2.at 9 rfl
  have x27 := h2.at 27 rfl
  have f27 := h2.fr 27
  have h3 := h2.put 27 (.int .i64 now)
  simp only [List.set_cons_zero, List.set_cons_succ] at h3
  clear h2 KC HA
  go_wp2_with fail
  go_ret
  exact ⟨rfl, h3, ((hb1.mono (Nat.le_of_lt HL.out)).trans hb2).setCell (p := ⟨B, 27, none⟩) (Nat.le_refl _) (.int .i64 now)⟩

/-- the routes in a map, each by its method -/
def rd (v : Value) : Option (DataW Value × List MemPlace) := some (.held v, [])
theorem rd_eq {v : Value} {d : DataW Value} {ps : List MemPlace} (h : rd v = some (d, ps)) : d = .held v := by
  simp [rd] at h; exact h.1.symm
theorem keyed : Keyed Tryz.prog 9 := string_keyed Tryz.underlying9
/-- a store into a map that is being made -/
theorem wpList_insert {w : World} {ops : Array Oper} {rest : List Oper} {o : Oper} {a : Act} {Q : Exit → Act → World → Prop} (hg : o.guard = none) (m x v : Operand) (hop : o.op = Op.insert 104 m x v)
    {b n : Nat} {D : DataW Value} (hm : a.eval m = .map (some b)) (hown : w.ownsMap Tryz.prog 9 rd b n D) (hn : n < 4294967296) (s : ByteArray) (hx : a.eval x = .string s) (hs : s.size ≤ maxLen) (val : Value) (hv : a.eval v = val)
    (hK : ∀ w', w'.ownsMap Tryz.prog 9 rd b (n + 1) (D.put (.string s.data.toList) (.held val)) → w.grownBy w' (some b) → wpList Tryz.prog ops Q rest (a.put o.dst undef) w') : wpList Tryz.prog ops Q (o :: rest) a w := by
  refine wpList_plain hg fun K' hK' => ?_
  obtain ⟨w', hrun, r1, r2⟩ := hown.update keyed Tryz.underlying104 (by unfold maxLen; omega) (keyOf_string_mk Tryz.underlying9 hs) (show rd val = some (.held val, []) from rfl)
  unfold Oper.wp
  simp [execOp, hop, hm, hx, hv, hrun, Result.andThen]
  exact hK' _ _ (hK w' r1 r2)
/-- a look-up in a route -/
theorem wpList_way {w : World} {ops : Array Oper} {rest : List Oper} {o : Oper} {a : Act} {Q : Exit → Act → World → Prop} (hg : o.guard = none) (m x : Operand) (hop : o.op = Op.lookup 104 m x true)
    {b n : Nat} {D : DataW Value} (hm : a.eval m = .map (some b)) (hown : w.ownsMap Tryz.prog 9 rd b n D) (s : ByteArray) (hx : a.eval x = .string s) (hs : s.size ≤ maxLen) {v : Value} {there : Bool} (hl : Maps.has D (.string s.data.toList) = there ∧ D.atKey (.string s.data.toList) (.held .nilFunc) = .held v)
    (hK : wpList Tryz.prog ops Q rest (a.put o.dst (.tuple #[v, .bool there])) w) : wpList Tryz.prog ops Q (o :: rest) a w :=
  wpList_lookup_own_ok w hg m x 104 hop 9 107 keyed Tryz.underlying104 rd (show (zeroValue 107).run Tryz.prog w = .ok .nilFunc w by kernel_rfl) _ [] rfl b n D hm hown (.string s) (.string s.data.toList) hx (keyOf_string_mk Tryz.underlying9 hs) (fun v' ps hv => by
    have h1 := rd_eq hv
    rw [hl.2] at h1
    obtain rfl : v = v' := by simpa using h1
    rw [hl.1]
    exact hK)

/-- the routes of a bucket -/
abbrev fnv (f : FuncId) : Value := .func (.func f) #[] #[]
def dBucket : DataW Value := (((.map [] : DataW Value).put (.string [80, 85, 84]) (.held (fnv 148))).put (.string [68, 69, 76, 69, 84, 69]) (.held (fnv 149))).put (.string [71, 69, 84]) (.held (fnv 150))
theorem below_map {base b : Nat} {w w' : World} (h : w.grownBy w' (some b)) (hb : base ≤ b) (hs : base ≤ w.heap.size) : RowKit.Below base w w' :=
  (RowKit.Below.refl base w).grown h hs fun k hk => by cases hk; exact hb

set_option maxHeartbeats 4000000 in
set_option maxRecDepth 100000 in
theorem bucket (w : World) : Calls Tryz.prog 91 #[] w fun e w' => e = .returned (.map (some w.heap.size)) ∧ w'.ownsMap Tryz.prog 9 rd w.heap.size 3 dBucket ∧ RowKit.Below w.heap.size w w' := by
  have hmm := @run_makeMap Tryz.prog
  have o0 := World.ownsMap_made w Tryz.prog 9 rd
  have hb0 := (RowKit.Below.refl w.heap.size w).alloc (Nat.le_refl _) (.map #[] 0)
  go_enter Tryz.func91, Tryz.ntmps91
  go_wp2_with (first
    | (guard_target =~ wpList _ _ _ ({ dst := _, op := Op.insert _ _ _ _, type := _, pos := _, after := _, guard := none } :: _) _ _; refine wpList_insert rfl (.tmp 1) (.const (.string ⟨#[71, 69, 84]⟩)) (.func 150) rfl rfl o2 (by decide) ⟨#[71, 69, 84]⟩ rfl (by decide) _ rfl ?_; intro w3 o3 g3)
    | (guard_target =~ wpList _ _ _ ({ dst := _, op := Op.insert _ _ _ _, type := _, pos := _, after := _, guard := none } :: _) _ _; refine wpList_insert rfl (.tmp 1) (.const (.string ⟨#[68, 69, 76, 69, 84, 69]⟩)) (.func 149) rfl rfl o1 (by decide) ⟨#[68, 69, 76, 69, 84, 69]⟩ rfl (by decide) _ rfl ?_; intro w2 o2 g2)
    | (guard_target =~ wpList _ _ _ ({ dst := _, op := Op.insert _ _ _ _, type := _, pos := _, after := _, guard := none } :: _) _ _; refine wpList_insert rfl (.tmp 1) (.const (.string ⟨#[80, 85, 84]⟩)) (.func 148) rfl rfl o0 (by decide) ⟨#[80, 85, 84]⟩ rfl (by decide) _ rfl ?_; intro w1 o1 g1))
  go_ret
  have h1 := hb0.trans (below_map g1 (Nat.le_refl _) (by simp))
  have h2 := h1.trans (below_map g2 (Nat.le_refl _) h1.size)
  exact ⟨rfl, o3, h2.trans (below_map g3 (Nat.le_refl _) h2.size)⟩
end Go.Proofs.YtidflagmdabfaaaGreatDoor.RtE
namespace Go.Proofs.YtidflagmdabfaaaGreatDoor.RtF
open Go.RowKit Go.Proofs.YtidflagmdabfaaaGreatDoor Go.Proofs.YtidflagmdabfaaaGreatDoor.RtD Go.Proofs.YtidflagmdabfaaaGreatDoor.RtE

theorem cut_free {c : UInt8} {l : List UInt8} (h : c ∉ l) : Lib.cut l [c] = (l, [], false) := by
  unfold Lib.cut
  rw [Up.index_free h, if_neg (by omega)]
theorem drewN_size (w : World) : ∀ n, (w.drewN n).heap = w.heap
  | 0 => rfl
  | n + 1 => drewN_size w n
theorem ak_drewN {B : Nat} {w : World} {C : List Value} (h : Ak B w C) (n : Nat) : Ak B (w.drewN n) C := by
  unfold Ak at h ⊢
  rw [drewN_size]; exact h
theorem drewN_add (w : World) (n m : Nat) : (w.drewN n).drewN m = w.drewN (n + m) := by
  induction m with
  | zero => rfl
  | succ m ih => exact congrArg World.drew ih

set_option maxHeartbeats 4000000 in
set_option maxRecDepth 100000 in
theorem place {B : Nat} {w : World} {c1 c2 c3 c4 c5 c6 c7 c8 c9 c10 c11 c12 c13 c14 c15 c16 c17 c18 c19 c20 c21 c22 c23 c24 c25 c26 c27 c28 c29 c30 c31 c32 c33 c34 c35 c36 c37 c38 c39 c40 : Value} {nm : List UInt8} (h : Ak B w [.string ⟨(47 :: nm).toArray⟩, c1, c2, c3, c4, c5, c6, c7, c8, c9, c10, c11, c12, c13, c14, c15, c16, c17, c18, c19, c20, c21, c22, c23, c24, c25, c26, c27, c28, c29, c30, c31, c32, c33, c34, c35, c36, c37, c38, c39, c40]) (hm : UriB.Mx w) (hg : RtC.goodB nm = true) (h47 : (47 : UInt8) ∉ nm) :
    Calls Tryz.prog 44 #[.pointer (some ⟨B, 0, none⟩)] w fun e w' => ∃ N, e = .returned (.tuple #[.map (some N), .nilIface]) ∧ w.heap.size ≤ N ∧ w'.ownsMap Tryz.prog 9 rd N 3 dBucket ∧ Ak B w' [.string ⟨(47 :: nm).toArray⟩, c1, c2, c3, c4, c5, c6, c7, c8, c9, c10, c11, c12, c13, c14, c15, c16, c17, c18, c19, c20, c21, c22, c23, c24, c25, c26, c27, c28, .string ⟨nm.toArray⟩, .string ⟨#[]⟩, c31, c32, c33, c34, c35, c36, c37, c38, c39, c40] ∧ Below B w w' := by
  obtain ⟨mx, hmx⟩ := hm
  have hlen : 3 ≤ nm.length ∧ nm.length ≤ 63 := by
    have hg2 := hg
    unfold RtC.goodB at hg2
    simp only [Bool.and_eq_true, decide_eq_true_eq] at hg2
    exact hg2.1.1
  obtain ⟨hl3, hl63⟩ := hlen
  have x0 := h.at 0 rfl
  have hx1 : (ByteArray.mk (47 :: nm).toArray).extract 1 (nm.length + 1) = ⟨nm.toArray⟩ := Com.mk_drop1 47 nm rfl
  have hx0 : (ByteArray.mk (47 :: nm).toArray).size = nm.length + 1 := by rw [Com.size_mk]; rfl
  have hne : (nm == []) = false := by
    rw [beq_eq_false_iff_ne]; rintro rfl; simp at hl3
  have KC := Lib.hid (Tryz.strings_Cut ⟨nm.toArray⟩ ⟨#[47]⟩ mx w (by rw [Com.size_mk]; omega) hmx)
  have HC := Lib.hid (show Lib.cut (ByteArray.mk nm.toArray).data.toList (ByteArray.mk #[47]).data.toList = (nm, [], false) from cut_free h47)
  have HA := Lib.hid h
  have HL := Lib.hid h.lt
  have y1 : (1 : Int) ≤ (nm.length : Int) + 1 := by omega
  clear h h47 hmx
  go_enter Tryz.func44, Tryz.ntmps44
  go_wp2_with fail
  refine KC.out.mono ?_
  rw [HC.out]
  rintro e w1 ⟨rfl, n1, rfl⟩
  have KG := Lib.hid (RtC.goodBucketY ⟨nm.toArray⟩ (w.drewN n1) hg)
  go_wp2_with fail
  refine KG.out.mono ?_
  rintro e w2 ⟨rfl, m1, rfl⟩
  rw [drewN_add]
  obtain ⟨w3, hw3⟩ : ∃ w3, w3 = w.drewN (n1 + m1) := ⟨_, rfl⟩
  have h3 : Ak B w3 [.string ⟨(47 :: nm).toArray⟩, c1, c2, c3, c4, c5, c6, c7, c8, c9, c10, c11, c12, c13, c14, c15, c16, c17, c18, c19, c20, c21, c22, c23, c24, c25, c26, c27, c28, c29, c30, c31, c32, c33, c34, c35, c36, c37, c38, c39, c40] := by rw [hw3]; exact ak_drewN HA.out _
  have hb3 : Below B w w3 := by rw [hw3]; exact HtC.below_drewN (Below.refl _ _) _
  rw [← hw3]
  clear hw3 KC KG HC HA x0 hx1 hx0
  have x29 := h3.at 29 rfl
  have x30 := h3.at 30 rfl
  have f29 := h3.fr 29
  have f30 := h3.fr 30
  have h4 := (h3.put 29 (.string ⟨nm.toArray⟩)).put 30 (.string ⟨#[]⟩)
  have hb4 := (hb3.setCell (p := ⟨B, 29, none⟩) (Nat.le_refl _) (.string ⟨nm.toArray⟩)).setCell (p := ⟨B, 30, none⟩) (Nat.le_refl _) (.string ⟨#[]⟩)
  simp only [List.set_cons_zero, List.set_cons_succ] at h4
  clear h3 hb3
  go_upto_region 9 with fail
  generalize World.setCell (World.setCell w3 _ _) _ _ = w4 at *
  clear x29 x30 f29 f30
  go_wp2_with fail
  refine (bucket w4).mono ?_
  rintro e w5 ⟨rfl, ho, hb5⟩
  go_wp2_with fail
  go_ret2
  exact ⟨_, rfl, hb4.size, ho, h4.below hb5, hb4.trans (hb5.mono (Nat.le_trans (Nat.le_of_lt HL.out) hb4.size))⟩
end Go.Proofs.YtidflagmdabfaaaGreatDoor.RtF
namespace Go.Proofs.YtidflagmdabfaaaGreatDoor.RtH
open Go.RowKit Go.Proofs.YtidflagmdabfaaaGreatDoor Go.Proofs.YtidflagmdabfaaaGreatDoor.RtD Go.Proofs.YtidflagmdabfaaaGreatDoor.RtE Go.Proofs.YtidflagmdabfaaaGreatDoor.RtF Go.Proofs.YtidflagmdabfaaaGreatDoor.HtC

/-- what is asked: that a bucket be made -/
abbrev askMake (i0 i1 i2 now : Int) (nm : List UInt8) : Value := .agg #[.int .i64 1, .int .i64 1, .int .i64 i0, .int .i64 i1, .int .i64 i2, .string ⟨nm.toArray⟩, .string ⟨#[]⟩, .int .i64 0, .int .i64 0, .int .i64 0, .int .i64 0, .int .i64 0, .int .i64 0, .int .i64 0, .string ⟨#[]⟩, .int .i64 0, .slice none 0 0, .int .i64 now, .int .i64 0, .string ⟨#[]⟩, .string ⟨#[]⟩, .string ⟨#[]⟩, .string ⟨#[]⟩, .string ⟨#[]⟩, .int .i64 0, .int .i64 0, .int .i64 0, .bool false, .int .i64 0, .int .i64 0, .int .i64 0]
theorem heap_at1 (w : World) (o : Obj) {o' : Obj} : ((w.alloc o').alloc o).heap[w.heap.size + 1]? = some o := by
  have := heap_alloc_new (w.alloc o') o
  rwa [World.size_alloc] at this
theorem ak_range {B : Nat} {w : World} {C : List Value} (h : Ak B w C) (i : Nat) : w.rangeAt B i (C.drop i) := fun j v hv => h.at (i + j) (by rwa [List.getElem?_drop] at hv)
theorem res_ask {w : World} {g : Nat} {C : Array Value} {fr : Nat × Nat} {er : Value} {fn : Func} {tmps : Array Value} (hg : w.heap[g]? = some (.cells C 37 fr)) (hs : C.size = 31) (e : fn.results = #[.cell 6 37, .tmp 7]) (h2 : tmps.getD 6 undef = .pointer (some ⟨g, 0, none⟩)) (h3 : tmps.getD 7 undef = er) :
    (results fn tmps).run Tryz.prog w = .ok (.tuple #[.agg C, er]) w := by
  rw [results_cell_tmp e, h2, h3]
  simp [asAddr, Result.andThen, run_loadVar_row w g 37 37 C fr _ hg Tryz.underlying37 rfl ((show (Tryz.prog.info? 37).map (·.size) = some 31 by kernel_rfl).trans (congrArg some hs.symm))]
theorem clip (w : World) : Calls Tryz.prog 45 #[.slice none 0 0] w fun e w' => e = .returned (.slice none 0 0) ∧ w = w' := by
  go_enter Tryz.func45, Tryz.ntmps45
  go_wp2_with fail
  go_ret
  exact ⟨rfl, rfl⟩
theorem way_put : Maps.has dBucket (.string [80, 85, 84]) = true ∧ dBucket.atKey (.string [80, 85, 84]) (.held .nilFunc) = .held (fnv 148) := by
  constructor <;> rfl

set_option maxHeartbeats 8000000 in
set_option maxRecDepth 100000 in
theorem parseMake (t nm : List UInt8) (ps : List (List UInt8 × List UInt8)) (i0 i1 i2 now : Int) (af ab : Option Addr) (fl cf bl cb : Nat) (w : World) {aU : Addr} (he : UriC.EU w aU) (hm : UriB.Mx w) (ht : t.length ≤ 16777216) (hP : Up.parse t = some ⟨47 :: nm, ps⟩) (hg : RtC.goodB nm = true) (h47 : (47 : UInt8) ∉ nm) (hd : UriQ.gt ps [100, 97, 121, 115] = none) (hl : ps.length ≤ 4294967296) :
    Calls Tryz.prog 17 #[.agg #[.string ⟨#[80, 85, 84]⟩, .string ⟨t.toArray⟩, .slice af fl cf, .slice ab bl cb], .agg #[.int .i64 i0, .int .i64 i1, .int .i64 i2], .int .i64 now] w fun e w' => e = .returned (.tuple #[askMake i0 i1 i2 now nm, .nilIface]) ∧ Below w.heap.size w w' := by
  obtain ⟨w3, hw3, hb3, hz3, hR3, hI3, hQ3⟩ : ∃ w3 : World, w3 = (((w.alloc (.cells #[.string ⟨#[80, 85, 84]⟩, .string ⟨t.toArray⟩, .slice af fl cf, .slice ab bl cb] 25)).alloc (.cells #[.int .i64 i0, .int .i64 i1, .int .i64 i2] 27)).alloc (.cells #[.int .i64 0, .int .i64 0, .int .i64 0, .int .i64 0, .int .i64 0, .string ⟨#[]⟩, .string ⟨#[]⟩, .int .i64 0, .int .i64 0, .int .i64 0, .int .i64 0, .int .i64 0, .int .i64 0, .int .i64 0, .string ⟨#[]⟩, .int .i64 0, .slice none 0 0, .int .i64 0, .int .i64 0, .string ⟨#[]⟩, .string ⟨#[]⟩, .string ⟨#[]⟩, .string ⟨#[]⟩, .string ⟨#[]⟩, .int .i64 0, .int .i64 0, .int .i64 0, .bool false, .int .i64 0, .int .i64 0, .int .i64 0] 37)) ∧ Below w.heap.size w w3 ∧ w3.heap.size = w.heap.size + 3 ∧ Rq w.heap.size w3 (.string ⟨#[80, 85, 84]⟩) (.string ⟨t.toArray⟩) (.slice af fl cf) (.slice ab bl cb) ∧ w3.heap[w.heap.size + 1]? = some (.cells #[.int .i64 i0, .int .i64 i1, .int .i64 i2] 27 (0, 0)) ∧ w3.heap[w.heap.size + 1 + 1]? = some (.cells #[.int .i64 0, .int .i64 0, .int .i64 0, .int .i64 0, .int .i64 0, .string ⟨#[]⟩, .string ⟨#[]⟩, .int .i64 0, .int .i64 0, .int .i64 0, .int .i64 0, .int .i64 0, .int .i64 0, .int .i64 0, .string ⟨#[]⟩, .int .i64 0, .slice none 0 0, .int .i64 0, .int .i64 0, .string ⟨#[]⟩, .string ⟨#[]⟩, .string ⟨#[]⟩, .string ⟨#[]⟩, .string ⟨#[]⟩, .int .i64 0, .int .i64 0, .int .i64 0, .bool false, .int .i64 0, .int .i64 0, .int .i64 0] 37 (0, 0)) := by
    refine ⟨_, rfl, (((Below.refl _ _).alloc (Nat.le_refl _) _).alloc (by simp) _).alloc (by simp; omega) _, by simp, (Below.heap_alloc _ _ _ (by simp; omega)).trans ((Below.heap_alloc _ _ _ (by simp)).trans (heap_alloc_new _ _)), (Below.heap_alloc _ _ _ (by simp)).trans (heap_at1 _ _), ?_⟩
    have := heap_alloc_new ((w.alloc (.cells #[.string ⟨#[80, 85, 84]⟩, .string ⟨t.toArray⟩, .slice af fl cf, .slice ab bl cb] 25)).alloc (.cells #[.int .i64 i0, .int .i64 i1, .int .i64 i2] 27)) (.cells #[.int .i64 0, .int .i64 0, .int .i64 0, .int .i64 0, .int .i64 0, .string ⟨#[]⟩, .string ⟨#[]⟩, .int .i64 0, .int .i64 0, .int .i64 0, .int .i64 0, .int .i64 0, .int .i64 0, .int .i64 0, .string ⟨#[]⟩, .int .i64 0, .slice none 0 0, .int .i64 0, .int .i64 0, .string ⟨#[]⟩, .string ⟨#[]⟩, .string ⟨#[]⟩, .string ⟨#[]⟩, .string ⟨#[]⟩, .int .i64 0, .int .i64 0, .int .i64 0, .bool false, .int .i64 0, .int .i64 0, .int .i64 0] 37)
    rwa [World.size_alloc, World.size_alloc] at this
  have HM := Lib.hid hm
  have KP := Lib.hid (UriG.parseS ⟨t.toArray⟩ w3 (he.below hb3) (hm.below hb3) (by rw [Com.size_mk]; exact ht) hP)
  obtain ⟨x0, x1, x2, x3, -, -, -, -⟩ := hR3.cells
  clear he hm hP
  go_enter Tryz.func17, Tryz.ntmps17
  go_upto_region 1 with fail
  rw [← hw3]
  clear hw3
  go_wp2_with fail
  refine KP.out.mono ?_
  rintro e w4 ⟨⟨aq, cq, rfl, -, hpr⟩, hb4⟩
  have hb5 := (Below.refl w4.heap.size w4).alloc (Nat.le_refl _) (.cells #[.string ⟨(47 :: nm).toArray⟩, .slice aq ps.length cq] 97)
  have hU5 : (w4.alloc (.cells #[.string ⟨(47 :: nm).toArray⟩, .slice aq ps.length cq] 97)).heap[w4.heap.size]? = some (.cells #[.string ⟨(47 :: nm).toArray⟩, .slice aq ps.length cq] 97 (0, 0)) := heap_alloc_new w4 _
  clear x0 x1 x2 x3 KP
  go_upto_region 2 with fail
  have hR5 := (hR3.below hb4).below hb5
  have hI5 : (w4.alloc (.cells #[.string ⟨(47 :: nm).toArray⟩, .slice aq ps.length cq] 97)).heap[w.heap.size + 1]? = some (.cells #[.int .i64 i0, .int .i64 i1, .int .i64 i2] 27 (0, 0)) := (hb5.block _ (by have := hb4.size; omega)).trans ((hb4.block _ (by omega)).trans hI3)
  have hQ5 : (w4.alloc (.cells #[.string ⟨(47 :: nm).toArray⟩, .slice aq ps.length cq] 97)).heap[w.heap.size + 1 + 1]? = _ := (hb5.block _ (by have := hb4.size; omega)).trans ((hb4.block _ (by omega)).trans hQ3)
  have hpr5 := SgB.pairs_below hpr hb5
  have hB4 := hb3.trans (hb4.mono hb3.size)
  have hB5 := hB4.trans (hb5.mono hB4.size)
  have hs5 : w.heap.size + 3 ≤ w4.heap.size := by have := hb4.size; omega
  have hz5 := hb5.size
  obtain ⟨N4, hN4⟩ : ∃ N4, N4 = w4.heap.size := ⟨_, rfl⟩
  rw [← hN4] at hU5 hs5 hz5 ⊢
  generalize w4.alloc _ = w5 at *
  clear hR3 hI3 hQ3 hpr hb4 hb5 hN4 hz3 hb3 hB4
  obtain ⟨x0, x1, x2, x3, -, -, -, -⟩ := hR5.cells
  have u0 : w5.cell? ⟨N4, 0, none⟩ = some (.string ⟨(47 :: nm).toArray⟩) := by rw [Lib.cell_of_heap hU5]; rfl
  have u1 : w5.cell? ⟨N4, 1, none⟩ = some (.slice aq ps.length cq) := by rw [Lib.cell_of_heap hU5]; rfl
  have v0 : w5.cell? ⟨w.heap.size + 1, 0, none⟩ = some (.int .i64 i0) := by rw [Lib.cell_of_heap hI5]; rfl
  have v1 : w5.cell? ⟨w.heap.size + 1, 1, none⟩ = some (.int .i64 i1) := by rw [Lib.cell_of_heap hI5]; rfl
  have v2 : w5.cell? ⟨w.heap.size + 1, 2, none⟩ = some (.int .i64 i2) := by rw [Lib.cell_of_heap hI5]; rfl
  have hA6 : Ak w5.heap.size (w5.alloc (.cells #[.string ⟨(47 :: nm).toArray⟩, .slice aq ps.length cq, .string ⟨#[80, 85, 84]⟩, .string ⟨t.toArray⟩, .slice af fl cf, .slice ab bl cb, .int .i64 i0, .int .i64 i1, .int .i64 i2, .int .i64 now, .int .i64 0, .int .i64 0, .int .i64 0, .int .i64 0, .int .i64 0, .string ⟨#[]⟩, .string ⟨#[]⟩, .int .i64 0, .int .i64 0, .int .i64 0, .int .i64 0, .int .i64 0, .int .i64 0, .int .i64 0, .string ⟨#[]⟩, .int .i64 0, .slice none 0 0, .int .i64 0, .int .i64 0, .string ⟨#[]⟩, .string ⟨#[]⟩, .string ⟨#[]⟩, .string ⟨#[]⟩, .string ⟨#[]⟩, .int .i64 0, .int .i64 0, .int .i64 0, .bool false, .int .i64 0, .int .i64 0, .int .i64 0] 102)) [.string ⟨(47 :: nm).toArray⟩, .slice aq ps.length cq, .string ⟨#[80, 85, 84]⟩, .string ⟨t.toArray⟩, .slice af fl cf, .slice ab bl cb, .int .i64 i0, .int .i64 i1, .int .i64 i2, .int .i64 now, .int .i64 0, .int .i64 0, .int .i64 0, .int .i64 0, .int .i64 0, .string ⟨#[]⟩, .string ⟨#[]⟩, .int .i64 0, .int .i64 0, .int .i64 0, .int .i64 0, .int .i64 0, .int .i64 0, .int .i64 0, .string ⟨#[]⟩, .int .i64 0, .slice none 0 0, .int .i64 0, .int .i64 0, .string ⟨#[]⟩, .string ⟨#[]⟩, .string ⟨#[]⟩, .string ⟨#[]⟩, .string ⟨#[]⟩, .int .i64 0, .int .i64 0, .int .i64 0, .bool false, .int .i64 0, .int .i64 0, .int .i64 0] := heap_alloc_new w5 _
  have hb6 := (Below.refl w5.heap.size w5).alloc (Nat.le_refl _) (.cells #[.string ⟨(47 :: nm).toArray⟩, .slice aq ps.length cq, .string ⟨#[80, 85, 84]⟩, .string ⟨t.toArray⟩, .slice af fl cf, .slice ab bl cb, .int .i64 i0, .int .i64 i1, .int .i64 i2, .int .i64 now, .int .i64 0, .int .i64 0, .int .i64 0, .int .i64 0, .int .i64 0, .string ⟨#[]⟩, .string ⟨#[]⟩, .int .i64 0, .int .i64 0, .int .i64 0, .int .i64 0, .int .i64 0, .int .i64 0, .int .i64 0, .string ⟨#[]⟩, .int .i64 0, .slice none 0 0, .int .i64 0, .int .i64 0, .string ⟨#[]⟩, .string ⟨#[]⟩, .string ⟨#[]⟩, .string ⟨#[]⟩, .string ⟨#[]⟩, .int .i64 0, .int .i64 0, .int .i64 0, .bool false, .int .i64 0, .int .i64 0, .int .i64 0] 102)
  go_upto_region 5 with fail
  obtain ⟨B, hB⟩ : ∃ B, B = w5.heap.size := ⟨_, rfl⟩
  have hR6 := hR5.below hb6
  have hQ6 := (hb6.block _ (Array.getElem?_eq_some_iff.1 hQ5).1).trans hQ5
  have hpr6 := SgB.pairs_below hpr5 hb6
  have HB6 := Lib.hid (hB5.trans (hb6.mono hB5.size))
  have HS6 := Lib.hid (show w.heap.size + 3 ≤ w5.heap.size from by have := hU5; have := (Array.getElem?_eq_some_iff.1 hU5).1; omega)
  have HPR := Lib.hid (show UriC.Pairs w5 aq ps ∧ Below w5.heap.size w5 (w5.alloc (.cells #[.string ⟨(47 :: nm).toArray⟩, .slice aq ps.length cq, .string ⟨#[80, 85, 84]⟩, .string ⟨t.toArray⟩, .slice af fl cf, .slice ab bl cb, .int .i64 i0, .int .i64 i1, .int .i64 i2, .int .i64 now, .int .i64 0, .int .i64 0, .int .i64 0, .int .i64 0, .int .i64 0, .string ⟨#[]⟩, .string ⟨#[]⟩, .int .i64 0, .int .i64 0, .int .i64 0, .int .i64 0, .int .i64 0, .int .i64 0, .int .i64 0, .string ⟨#[]⟩, .int .i64 0, .slice none 0 0, .int .i64 0, .int .i64 0, .string ⟨#[]⟩, .string ⟨#[]⟩, .string ⟨#[]⟩, .string ⟨#[]⟩, .string ⟨#[]⟩, .int .i64 0, .int .i64 0, .int .i64 0, .bool false, .int .i64 0, .int .i64 0, .int .i64 0] 102)) ∧ B = w5.heap.size from ⟨hpr5, hb6, hB⟩)
  rw [← hB] at hA6 HS6 ⊢
  generalize w5.alloc _ = w6 at *
  clear x0 x1 x2 x3 u0 u1 v0 v1 v2 hR5 hI5 hQ5 hU5 hpr5 hB5 hb6 hB hz5 hs5
  go_wp2_with fail
  refine (RtF.place hA6 (HM.out.below HB6.out) hg h47).mono ?_
  rintro e w7 ⟨N, rfl, hN, ho, hA7, hb7⟩
  have hR7 : Rq w.heap.size w7 _ _ _ _ := (hb7.block _ (by have := HS6.out; omega)).trans hR6
  have hQ7 : w7.heap[w.heap.size + 1 + 1]? = _ := (hb7.block _ (by have := HS6.out; omega)).trans hQ6
  have hpr7 : UriC.Pairs w7 aq ps := SgB.pairs_below HPR.out.1 (HPR.out.2.1.trans (by have := HPR.out.2.2; rw [← this]; exact hb7))
  obtain ⟨x0, x1, x2, x3, -, -, -, -⟩ := hR7.cells
  clear hA6 hR6 hQ6 hpr6 hN
  go_wp2_with (at_lookup; refine wpList_way rfl (.tmp 41) (.tmp 43) rfl rfl ho ⟨#[80, 85, 84]⟩ rfl (by decide) way_put ?_)
  refine (RtE.makeBucket hA7 hpr7 hl hd).mono ?_
  rintro e w8 ⟨rfl, hA8, hb8⟩
  have hQ8 : w8.heap[w.heap.size + 1 + 1]? = _ := (hb8.block _ (by have := HS6.out; omega)).trans hQ7
  have hB8 := (HB6.out.trans (hb7.mono (by have := HS6.out; omega))).trans (hb8.mono (by have := HS6.out; omega))
  have x26 := hA8.at 26 rfl
  have f26 := hA8.fr 26
  have hA9 := hA8.put 26 (.slice none 0 0)
  simp only [List.set_cons_zero, List.set_cons_succ] at hA9
  have hB9 := hB8.setCell (p := ⟨B, 26, none⟩) (by have := HS6.out; show w.heap.size ≤ B; omega) (.slice none 0 0)
  have hQ9 : (w8.setCell ⟨B, 26, none⟩ (.slice none 0 0)).heap[w.heap.size + 1 + 1]? = _ := (Below.heap_setCell _ _ _ _ (by have := HS6.out; show w.heap.size + 1 + 1 ≠ B; omega)).trans hQ8
  clear x0 x1 x2 x3 hA7 hR7 hQ7 hpr7 ho hA8 hQ8 hB8 hb7 hb8
  go_upto_region 15 with (go_at_call 45; refine (clip _).mono ?_; rintro e w9 ⟨rfl, hw9⟩; subst hw9)
  generalize World.setCell w8 _ _ = w9 at *
  clear x26 f26
  have hrg : w9.rangeAt B 10 [.int .i64 1, .int .i64 1, .int .i64 i0, .int .i64 i1, .int .i64 i2, .string ⟨nm.toArray⟩, .string ⟨#[]⟩, .int .i64 0, .int .i64 0, .int .i64 0, .int .i64 0, .int .i64 0, .int .i64 0, .int .i64 0, .string ⟨#[]⟩, .int .i64 0, .slice none 0 0, .int .i64 now, .int .i64 0, .string ⟨#[]⟩, .string ⟨#[]⟩, .string ⟨#[]⟩, .string ⟨#[]⟩, .string ⟨#[]⟩, .int .i64 0, .int .i64 0, .int .i64 0, .bool false, .int .i64 0, .int .i64 0, .int .i64 0] := ak_range hA9 10
  have h1c : (#[.int .i64 1, .int .i64 1, .int .i64 i0, .int .i64 i1, .int .i64 i2, .string ⟨nm.toArray⟩, .string ⟨#[]⟩, .int .i64 0, .int .i64 0, .int .i64 0, .int .i64 0, .int .i64 0, .int .i64 0, .int .i64 0, .string ⟨#[]⟩, .int .i64 0, .slice none 0 0, .int .i64 now, .int .i64 0, .string ⟨#[]⟩, .string ⟨#[]⟩, .string ⟨#[]⟩, .string ⟨#[]⟩, .string ⟨#[]⟩, .int .i64 0, .int .i64 0, .int .i64 0, .bool false, .int .i64 0, .int .i64 0, .int .i64 0] : Array Value).all (·.oneCell') = true := by simp [Value.oneCell']
  have his : (Tryz.prog.info? 37).map (·.size) = some (#[.int .i64 1, .int .i64 1, .int .i64 i0, .int .i64 i1, .int .i64 i2, .string ⟨nm.toArray⟩, .string ⟨#[]⟩, .int .i64 0, .int .i64 0, .int .i64 0, .int .i64 0, .int .i64 0, .int .i64 0, .int .i64 0, .string ⟨#[]⟩, .int .i64 0, .slice none 0 0, .int .i64 now, .int .i64 0, .string ⟨#[]⟩, .string ⟨#[]⟩, .string ⟨#[]⟩, .string ⟨#[]⟩, .string ⟨#[]⟩, .int .i64 0, .int .i64 0, .int .i64 0, .bool false, .int .i64 0, .int .i64 0, .int .i64 0] : Array Value).size := by kernel_rfl
  go_wp2_with (first
    | (guard_target =~ wpList _ _ _ ({ dst := _, op := Op.load 37 _, type := _, pos := _, after := _, guard := none } :: _) _ _; refine wpList_load_mid rfl 37 (.tmp 72) rfl B 10 rfl [.int .i64 1, .int .i64 1, .int .i64 i0, .int .i64 i1, .int .i64 i2, .string ⟨nm.toArray⟩, .string ⟨#[]⟩, .int .i64 0, .int .i64 0, .int .i64 0, .int .i64 0, .int .i64 0, .int .i64 0, .int .i64 0, .string ⟨#[]⟩, .int .i64 0, .slice none 0 0, .int .i64 now, .int .i64 0, .string ⟨#[]⟩, .string ⟨#[]⟩, .string ⟨#[]⟩, .string ⟨#[]⟩, .string ⟨#[]⟩, .int .i64 0, .int .i64 0, .int .i64 0, .bool false, .int .i64 0, .int .i64 0, .int .i64 0] _ hrg Tryz.underlying37 rfl (by kernel_rfl) ?_)
    | (guard_target =~ wpList _ _ _ ({ dst := _, op := Op.store 37 _ _, type := _, pos := _, after := _, guard := none } :: _) _ _; refine wpList_store_row rfl 37 (.tmp 6) (.tmp 73) rfl (w.heap.size + 1 + 1) #[.int .i64 1, .int .i64 1, .int .i64 i0, .int .i64 i1, .int .i64 i2, .string ⟨nm.toArray⟩, .string ⟨#[]⟩, .int .i64 0, .int .i64 0, .int .i64 0, .int .i64 0, .int .i64 0, .int .i64 0, .int .i64 0, .string ⟨#[]⟩, .int .i64 0, .slice none 0 0, .int .i64 now, .int .i64 0, .string ⟨#[]⟩, .string ⟨#[]⟩, .string ⟨#[]⟩, .string ⟨#[]⟩, .string ⟨#[]⟩, .int .i64 0, .int .i64 0, .int .i64 0, .bool false, .int .i64 0, .int .i64 0, .int .i64 0] rfl rfl _ _ hQ9 his rfl h1c ?_))
  refine bodyPost_ret (res_ask (ShaB.heap_setRow _ hQ9) rfl rfl rfl rfl) rfl ⟨rfl, ?_⟩
  exact ShaB.below_row hB9 (by omega) _
end Go.Proofs.YtidflagmdabfaaaGreatDoor.RtH
