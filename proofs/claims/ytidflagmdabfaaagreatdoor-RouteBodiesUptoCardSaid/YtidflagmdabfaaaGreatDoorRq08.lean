/-
  A command and an outcome that came in. (Printed by mkcmr.py.) Refuse of the listed errors, on both sides beside each other. (Printed by mkrra.py.) The walk of the law RouteRefuses.
-/
import Derived.Test.YtidflagmdabfaaaGreatDoorSg23
import Derived.Test.YtidflagmdabfaaaGreatDoorRo05
import Derived.Test.YtidflagmdabfaaaGreatDoorRo06
import Derived.Test.YtidflagmdabfaaaGreatDoorRp01
import Derived.Test.YtidflagmdabfaaaGreatDoorRq02
import Derived.Test.YtidflagmdabfaaaGreatDoorRq05
import Derived.Test.YtidflagmdabfaaaGreatDoorRq06
import Derived.Test.YtidflagmdabfaaaGreatDoorRq07
namespace Go.Proofs.YtidflagmdabfaaaGreatDoor.CmR
open Go.ChangeShapes Go.WideShapes Go.ChangeAt Go.RowKit Go.Proofs.YtidflagmdabfaaaGreatDoor Go.Proofs.YtidflagmdabfaaaGreatDoor.Ht Go.Proofs.YtidflagmdabfaaaGreatDoor.HtW

theorem cI : Tryz.prog.cellsOf 3 = 1 := by kernel_rfl
theorem cS : Tryz.prog.cellsOf 9 = 1 := by kernel_rfl
theorem cId : Tryz.prog.cellsOf 27 = 3 := by kernel_rfl
theorem cPc : Tryz.prog.cellsOf 32 = 5 := by kernel_rfl
theorem cIs : Tryz.prog.cellsOf 33 = 1 := by kernel_rfl
theorem cCmd : Tryz.prog.cellsOf 35 = 18 := by kernel_rfl
theorem cOut : Tryz.prog.cellsOf 63 = 2 := by kernel_rfl
theorem eighteen {l : Array Value} (h : l.size = 18) : ∃ y0 y1 y2 y3 y4 y5 y6 y7 y8 y9 y10 y11 y12 y13 y14 y15 y16 y17, l = #[y0, y1, y2, y3, y4, y5, y6, y7, y8, y9, y10, y11, y12, y13, y14, y15, y16, y17] := by
  obtain ⟨l⟩ := l
  match l, h with
  | [y0, y1, y2, y3, y4, y5, y6, y7, y8, y9, y10, y11, y12, y13, y14, y15, y16, y17], _ => exact ⟨y0, y1, y2, y3, y4, y5, y6, y7, y8, y9, y10, y11, y12, y13, y14, y15, y16, y17, rfl⟩
theorem two {l : Array Value} (h : l.size = 2) : ∃ a b, l = #[a, b] := by
  obtain ⟨l⟩ := l
  match l, h with
  | [a, b], _ => exact ⟨a, b, rfl⟩
/-- numbers that came in -/
theorem open_nums {H : Type} {enc : TypeId × Value → H} {W : World} {v : Value} {y : DataW H × List MemPlace} {n : Nat}
    (h : DataW.trod enc Tryz.prog W 0 (fun _ => true) true n 33 [v] = some y) :
    ∃ a l c, v = .slice a l.length c ∧ RtX.Is W a l ∧ l.length ≤ Rows.uptoBulk y.1 := by
  rcases open_ints Tryz.underlying33 Tryz.underlying3 cI h with ⟨hcs, hx⟩ | ⟨a, len, cap, zs, hcs, hb, hl, hm, hz, hx, hc, hwf⟩
  · obtain rfl : v = .slice none 0 0 := by simpa using hcs
    exact ⟨none, [], 0, rfl, .inl rfl, by simp⟩
  · obtain rfl : v = .slice (some a) len cap := by simpa using hcs
    simp only [if_true] at hz
    have hlen : (zs.take len).length = len := by simp; omega
    refine ⟨some a, zs.take len, cap, by rw [hlen], ?_, ?_⟩
    · rcases Nat.eq_zero_or_pos len with h0 | h0
      · left; subst h0; simp
      · right
        have hc0 := hc 0 (by omega)
        obtain ⟨b, off, spot⟩ := a
        obtain rfl : spot = none := by simpa [Addr.add] using World.cell?_spot hc0
        refine ⟨b, off, rfl, World.block_lt_of_cell? W _ (by simpa [RowKit2.addr_add] using hc0), fun j z hj => ?_⟩
        have hjl : j < (zs.take len).length := (List.getElem?_eq_some_iff.1 hj).1
        rw [List.length_take] at hjl
        rw [List.getElem?_take, if_pos (by omega)] at hj
        have := hc j (by omega)
        rw [RowKit2.addr_add, List.getD_eq_getElem?_getD, hj] at this
        exact this
    · rw [hx, hlen]
      simp only [Rows.uptoBulk]
      have := RowKit2.bulk_length (lits (H := H) .i64 (zs.take len))
      simp [lits] at this
      simp [lits]
      omega
abbrev I (n : Int) : Prop := -9223372036854775808 ≤ n ∧ n ≤ 9223372036854775807
theorem open_int {H : Type} {enc : TypeId × Value → H} {w : World} {n : Nat} {a : Value} {x : DataW H × List MemPlace}
    (h : DataW.trod enc Tryz.prog w 0 (fun _ => true) true n 3 [a] = some x) : ∃ i : Int, a = .int .i64 i ∧ I i := by
  obtain ⟨i, q, _, wf⟩ := DataW.trod_int Tryz.underlying3 h
  exact ⟨i, by simpa using q, RowKit2.wf_i64 wf⟩
theorem open_str {H : Type} {enc : TypeId × Value → H} {w : World} {n : Nat} {a : Value} {x : DataW H × List MemPlace}
    (h : DataW.trod enc Tryz.prog w 0 (fun _ => true) true n 9 [a] = some x) : ∃ s : ByteArray, a = .string s ∧ s.size ≤ Rows.uptoBulk x.1 := by
  obtain ⟨s, q, e, _⟩ := DataW.trod_string Tryz.underlying9 h
  exact ⟨s, by simpa using q, by rw [e, RowKit2.bulk_string, Com.toList_length]; omega⟩
theorem open_id {H : Type} {enc : TypeId × Value → H} {w : World} {n : Nat} {a b c : Value} {x : DataW H × List MemPlace}
    (h : DataW.trod enc Tryz.prog w 0 (fun _ => true) true n 27 [a, b, c] = some x) : ∃ i j k : Int, a = .int .i64 i ∧ b = .int .i64 j ∧ c = .int .i64 k ∧ I i ∧ I j ∧ I k := by
  obtain ⟨ys, k, hx, _, _, hf⟩ := SgR.struct_at Tryz.underlying27 h
  obtain ⟨z0, _, r0⟩ := hf 0 _ rfl
  obtain ⟨z1, _, r1⟩ := hf 1 _ rfl
  obtain ⟨z2, _, r2⟩ := hf 2 _ rfl
  have r0 : DataW.trod enc Tryz.prog w 0 (fun _ => true) true k 3 (([a, b, c].drop 0).take (Tryz.prog.cellsOf 3)) = some z0 := r0
  rw [cI] at r0
  have r1 : DataW.trod enc Tryz.prog w 0 (fun _ => true) true k 3 (([a, b, c].drop 1).take (Tryz.prog.cellsOf 3)) = some z1 := r1
  rw [cI] at r1
  have r2 : DataW.trod enc Tryz.prog w 0 (fun _ => true) true k 3 (([a, b, c].drop 2).take (Tryz.prog.cellsOf 3)) = some z2 := r2
  rw [cI] at r2
  obtain ⟨i0, e0, w0⟩ := open_int r0
  obtain ⟨i1, e1, w1⟩ := open_int r1
  obtain ⟨i2, e2, w2⟩ := open_int r2
  exact ⟨i0, i1, i2, e0, e1, e2, w0, w1, w2⟩
theorem open_piece {H : Type} {enc : TypeId × Value → H} {w : World} {n : Nat} {a b c d e : Value} {x : DataW H × List MemPlace}
    (h : DataW.trod enc Tryz.prog w 0 (fun _ => true) true n 32 [a, b, c, d, e] = some x) : ∃ (i j k sz : Int) (et : ByteArray), a = .int .i64 i ∧ b = .int .i64 j ∧ c = .int .i64 k ∧ d = .int .i64 sz ∧ e = .string et ∧ et.size ≤ Rows.uptoBulk x.1 := by
  obtain ⟨ys, k, hx, _, _, hf⟩ := SgR.struct_at Tryz.underlying32 h
  obtain ⟨z0, _, r0⟩ := hf 0 _ rfl
  obtain ⟨z1, _, r1⟩ := hf 1 _ rfl
  obtain ⟨z2, y2, r2⟩ := hf 2 _ rfl
  have r0 : DataW.trod enc Tryz.prog w 0 (fun _ => true) true k 27 (([a, b, c, d, e].drop 0).take (Tryz.prog.cellsOf 27)) = some z0 := r0
  rw [cId] at r0
  have r1 : DataW.trod enc Tryz.prog w 0 (fun _ => true) true k 3 (([a, b, c, d, e].drop 3).take (Tryz.prog.cellsOf 3)) = some z1 := r1
  rw [cI] at r1
  have r2 : DataW.trod enc Tryz.prog w 0 (fun _ => true) true k 9 (([a, b, c, d, e].drop 4).take (Tryz.prog.cellsOf 9)) = some z2 := r2
  rw [cS] at r2
  obtain ⟨i0, i1, i2, e0, e1, e2, _⟩ := open_id r0
  obtain ⟨i3, e3, _⟩ := open_int r1
  obtain ⟨s, e4, b4⟩ := open_str r2
  have hb := SgR.bulk_of y2
  rw [hx]
  simp only [Rows.uptoBulk]
  exact ⟨i0, i1, i2, i3, s, e0, e1, e2, e3, e4, by omega⟩
/-- a command, eighteen cells -/
theorem open_cmd {H : Type} {enc : TypeId × Value → H} {w : World} {n : Nat} {y0 y1 y2 y3 y4 y5 y6 y7 y8 y9 y10 y11 y12 y13 y14 y15 y16 y17 : Value} {x : DataW H × List MemPlace}
    (h : DataW.trod enc Tryz.prog w 0 (fun _ => true) true n 35 [y0, y1, y2, y3, y4, y5, y6, y7, y8, y9, y10, y11, y12, y13, y14, y15, y16, y17] = some x) :
    ∃ (kd i0 i1 i2 : Int) (bk ky : ByteArray) (u0 u1 u2 b0 b1 b2 sz : Int) (et : ByteArray) (pt : Int) (pa : Option Addr) (ps : List Int) (pc : Nat) (tm dy : Int),
      [y0, y1, y2, y3, y4, y5, y6, y7, y8, y9, y10, y11, y12, y13, y14, y15, y16, y17] = [.int .i64 kd, .int .i64 i0, .int .i64 i1, .int .i64 i2, .string bk, .string ky, .int .i64 u0, .int .i64 u1, .int .i64 u2, .int .i64 b0, .int .i64 b1, .int .i64 b2, .int .i64 sz, .string et, .int .i64 pt, .slice pa ps.length pc, .int .i64 tm, .int .i64 dy] ∧
      I i0 ∧ I i1 ∧ I i2 ∧ RtX.Is w pa ps ∧ bk.size ≤ Rows.uptoBulk x.1 ∧ ky.size ≤ Rows.uptoBulk x.1 ∧ et.size ≤ Rows.uptoBulk x.1 ∧ ps.length ≤ Rows.uptoBulk x.1 := by
  obtain ⟨ys, k, hx, _, _, hf⟩ := SgR.struct_at Tryz.underlying35 h
  obtain ⟨z0, y0', r0⟩ := hf 0 _ rfl
  obtain ⟨z1, y1', r1⟩ := hf 1 _ rfl
  obtain ⟨z2, y2', r2⟩ := hf 2 _ rfl
  obtain ⟨z3, y3', r3⟩ := hf 3 _ rfl
  obtain ⟨z4, y4', r4⟩ := hf 4 _ rfl
  obtain ⟨z5, y5', r5⟩ := hf 5 _ rfl
  obtain ⟨z6, y6', r6⟩ := hf 6 _ rfl
  obtain ⟨z7, y7', r7⟩ := hf 7 _ rfl
  obtain ⟨z8, y8', r8⟩ := hf 8 _ rfl
  obtain ⟨z9, y9', r9⟩ := hf 9 _ rfl
  have r0 : DataW.trod enc Tryz.prog w 0 (fun _ => true) true k 3 (([y0, y1, y2, y3, y4, y5, y6, y7, y8, y9, y10, y11, y12, y13, y14, y15, y16, y17].drop 0).take (Tryz.prog.cellsOf 3)) = some z0 := r0
  rw [cI] at r0
  have r0 : DataW.trod enc Tryz.prog w 0 (fun _ => true) true k 3 [y0] = some z0 := r0
  have r1 : DataW.trod enc Tryz.prog w 0 (fun _ => true) true k 27 (([y0, y1, y2, y3, y4, y5, y6, y7, y8, y9, y10, y11, y12, y13, y14, y15, y16, y17].drop 1).take (Tryz.prog.cellsOf 27)) = some z1 := r1
  rw [cId] at r1
  have r1 : DataW.trod enc Tryz.prog w 0 (fun _ => true) true k 27 [y1, y2, y3] = some z1 := r1
  have r2 : DataW.trod enc Tryz.prog w 0 (fun _ => true) true k 9 (([y0, y1, y2, y3, y4, y5, y6, y7, y8, y9, y10, y11, y12, y13, y14, y15, y16, y17].drop 4).take (Tryz.prog.cellsOf 9)) = some z2 := r2
  rw [cS] at r2
  have r2 : DataW.trod enc Tryz.prog w 0 (fun _ => true) true k 9 [y4] = some z2 := r2
  have r3 : DataW.trod enc Tryz.prog w 0 (fun _ => true) true k 9 (([y0, y1, y2, y3, y4, y5, y6, y7, y8, y9, y10, y11, y12, y13, y14, y15, y16, y17].drop 5).take (Tryz.prog.cellsOf 9)) = some z3 := r3
  rw [cS] at r3
  have r3 : DataW.trod enc Tryz.prog w 0 (fun _ => true) true k 9 [y5] = some z3 := r3
  have r4 : DataW.trod enc Tryz.prog w 0 (fun _ => true) true k 27 (([y0, y1, y2, y3, y4, y5, y6, y7, y8, y9, y10, y11, y12, y13, y14, y15, y16, y17].drop 6).take (Tryz.prog.cellsOf 27)) = some z4 := r4
  rw [cId] at r4
  have r4 : DataW.trod enc Tryz.prog w 0 (fun _ => true) true k 27 [y6, y7, y8] = some z4 := r4
  have r5 : DataW.trod enc Tryz.prog w 0 (fun _ => true) true k 32 (([y0, y1, y2, y3, y4, y5, y6, y7, y8, y9, y10, y11, y12, y13, y14, y15, y16, y17].drop 9).take (Tryz.prog.cellsOf 32)) = some z5 := r5
  rw [cPc] at r5
  have r5 : DataW.trod enc Tryz.prog w 0 (fun _ => true) true k 32 [y9, y10, y11, y12, y13] = some z5 := r5
  have r6 : DataW.trod enc Tryz.prog w 0 (fun _ => true) true k 3 (([y0, y1, y2, y3, y4, y5, y6, y7, y8, y9, y10, y11, y12, y13, y14, y15, y16, y17].drop 14).take (Tryz.prog.cellsOf 3)) = some z6 := r6
  rw [cI] at r6
  have r6 : DataW.trod enc Tryz.prog w 0 (fun _ => true) true k 3 [y14] = some z6 := r6
  have r7 : DataW.trod enc Tryz.prog w 0 (fun _ => true) true k 33 (([y0, y1, y2, y3, y4, y5, y6, y7, y8, y9, y10, y11, y12, y13, y14, y15, y16, y17].drop 15).take (Tryz.prog.cellsOf 33)) = some z7 := r7
  rw [cIs] at r7
  have r7 : DataW.trod enc Tryz.prog w 0 (fun _ => true) true k 33 [y15] = some z7 := r7
  have r8 : DataW.trod enc Tryz.prog w 0 (fun _ => true) true k 3 (([y0, y1, y2, y3, y4, y5, y6, y7, y8, y9, y10, y11, y12, y13, y14, y15, y16, y17].drop 16).take (Tryz.prog.cellsOf 3)) = some z8 := r8
  rw [cI] at r8
  have r8 : DataW.trod enc Tryz.prog w 0 (fun _ => true) true k 3 [y16] = some z8 := r8
  have r9 : DataW.trod enc Tryz.prog w 0 (fun _ => true) true k 3 (([y0, y1, y2, y3, y4, y5, y6, y7, y8, y9, y10, y11, y12, y13, y14, y15, y16, y17].drop 17).take (Tryz.prog.cellsOf 3)) = some z9 := r9
  rw [cI] at r9
  have r9 : DataW.trod enc Tryz.prog w 0 (fun _ => true) true k 3 [y17] = some z9 := r9
  obtain ⟨kd, rfl, _⟩ := open_int r0
  obtain ⟨i0, i1, i2, rfl, rfl, rfl, g0, g1, g2⟩ := open_id r1
  obtain ⟨bk, rfl, hbk⟩ := open_str r2
  obtain ⟨ky, rfl, hky⟩ := open_str r3
  obtain ⟨u0, u1, u2, rfl, rfl, rfl, _⟩ := open_id r4
  obtain ⟨b0, b1, b2, sz, et, rfl, rfl, rfl, rfl, rfl, het⟩ := open_piece r5
  obtain ⟨pt, rfl, _⟩ := open_int r6
  obtain ⟨pa, ps, pc, rfl, hps, hpl⟩ := open_nums r7
  obtain ⟨tm, rfl, _⟩ := open_int r8
  obtain ⟨dy, rfl, _⟩ := open_int r9
  have h2 := SgR.bulk_of y2'
  have h3 := SgR.bulk_of y3'
  have h5 := SgR.bulk_of y5'
  have h7 := SgR.bulk_of y7'
  rw [hx]
  simp only [Rows.uptoBulk]
  exact ⟨kd, i0, i1, i2, bk, ky, u0, u1, u2, b0, b1, b2, sz, et, pt, pa, ps, pc, tm, dy, rfl, g0, g1, g2, hps, by omega, by omega, by omega, by omega⟩
/-- an outcome -/
theorem open_out {H : Type} {enc : TypeId × Value → H} {w : World} {n : Nat} {a b : Value} {x : DataW H × List MemPlace}
    (h : DataW.trod enc Tryz.prog w 0 (fun _ => true) true n 63 [a, b] = some x) : ∃ (c : Int) (et : ByteArray), a = .int .i64 c ∧ b = .string et ∧ et.size ≤ Rows.uptoBulk x.1 := by
  obtain ⟨ys, k, hx, _, _, hf⟩ := SgR.struct_at Tryz.underlying63 h
  obtain ⟨z0, _, r0⟩ := hf 0 _ rfl
  obtain ⟨z1, y1, r1⟩ := hf 1 _ rfl
  have r0 : DataW.trod enc Tryz.prog w 0 (fun _ => true) true k 3 (([a, b].drop 0).take (Tryz.prog.cellsOf 3)) = some z0 := r0
  rw [cI] at r0
  have r1 : DataW.trod enc Tryz.prog w 0 (fun _ => true) true k 9 (([a, b].drop 1).take (Tryz.prog.cellsOf 9)) = some z1 := r1
  rw [cS] at r1
  obtain ⟨c, e0, _⟩ := open_int r0
  obtain ⟨s, e1, b1⟩ := open_str r1
  have hb := SgR.bulk_of y1
  rw [hx]
  simp only [Rows.uptoBulk]
  exact ⟨c, s, e0, e1, by omega⟩
end Go.Proofs.YtidflagmdabfaaaGreatDoor.CmR
namespace Go.Proofs.YtidflagmdabfaaaGreatDoor.RrA
open Go.RowKit Go.Proofs.YtidflagmdabfaaaGreatDoor Go.Proofs.YtidflagmdabfaaaGreatDoor.HtW Go.Proofs.YtidflagmdabfaaaGreatDoor.RtA

/-- the list of the law: no error, and the eighteen -/
abbrev vals (es : List Addr) : List Value := .nilIface :: es.map Err.ev
theorem eighteen {es : List Addr} (h : es.length = 18) : ∃ a0 a1 a2 a3 a4 a5 a6 a7 a8 a9 a10 a11 a12 a13 a14 a15 a16 a17, es = [a0, a1, a2, a3, a4, a5, a6, a7, a8, a9, a10, a11, a12, a13, a14, a15, a16, a17] := by
  match es, h with
  | [a0, a1, a2, a3, a4, a5, a6, a7, a8, a9, a10, a11, a12, a13, a14, a15, a16, a17], _ => exact ⟨a0, a1, a2, a3, a4, a5, a6, a7, a8, a9, a10, a11, a12, a13, a14, a15, a16, a17, rfl⟩
theorem val_at {es : List Addr} {k : Nat} {v : Value} (h : (vals es)[k + 1]? = some v) : ∃ a, es[k]? = some a ∧ v = Err.ev a := by
  rw [List.getElem?_cons_succ, List.getElem?_map] at h
  obtain ⟨a, h1, h2⟩ := Option.map_eq_some_iff.1 h
  exact ⟨a, h1, h2.symm⟩
theorem pair (es : List Addr) (m : Nat) (hm : m < 19) : ∃ (st : Int) (d : List UInt8), d.length ≤ 1048576 ∧
    (∀ W v, Err.All W es → (vals es)[m]? = some v → Calls Tryz.prog 29 #[v] W fun e w' => FPost st d W.heap.size w' e ∧ Below W.heap.size W w') ∧
    (∀ W, Calls Tryz.prog 30 #[.int .i64 (m : Int)] W fun e w' => FPost st d W.heap.size w' e ∧ Below W.heap.size W w') := by
  match m, hm with
  | 0, _ => exact ⟨500, (Xp.docError [73, 110, 116, 101, 114, 110, 97, 108]), by decide, fun W v h hv => by cases hv; exact RtB.refuse_nil h.sm, RtY.ref0⟩
  | 1, _ => exact ⟨500, (Xp.docError [73, 110, 116, 101, 114, 110, 97, 108]), by decide, fun W v h hv => by obtain ⟨a, ha, rfl⟩ := val_at hv; exact RtB.refuse_x h.sm (h.er 0 _ _ _ rfl rfl ha) (k := 0) rfl (by decide), RtY.ref1⟩
  | 2, _ => exact ⟨400, (Xp.docError [66, 97, 100, 82, 101, 113, 117, 101, 115, 116]), by decide, fun W v h hv => by obtain ⟨a, ha, rfl⟩ := val_at hv; exact RtB.refuse1 h.sm ha, RtY.ref2⟩
  | 3, _ => exact ⟨400, (Xp.docError [66, 97, 100, 82, 101, 113, 117, 101, 115, 116]), by decide, fun W v h hv => by obtain ⟨a, ha, rfl⟩ := val_at hv; exact RtB.refuse2 h.sm ha, RtY.ref3⟩
  | 4, _ => exact ⟨503, (Xp.docError [85, 110, 97, 118, 97, 105, 108, 97, 98, 108, 101]), by decide, fun W v h hv => by obtain ⟨a, ha, rfl⟩ := val_at hv; exact RtB.refuse3 h.sm ha, RtY.ref4⟩
  | 5, _ => exact ⟨500, (Xp.docError [73, 110, 116, 101, 114, 110, 97, 108]), by decide, fun W v h hv => by obtain ⟨a, ha, rfl⟩ := val_at hv; exact RtB.refuse_x h.sm (h.er 4 _ _ _ rfl rfl ha) (k := 4) rfl (by decide), RtY.ref5⟩
  | 6, _ => exact ⟨500, (Xp.docError [73, 110, 116, 101, 114, 110, 97, 108]), by decide, fun W v h hv => by obtain ⟨a, ha, rfl⟩ := val_at hv; exact RtB.refuse_x h.sm (h.er 5 _ _ _ rfl rfl ha) (k := 5) rfl (by decide), RtY.ref6⟩
  | 7, _ => exact ⟨400, (Xp.docError [66, 97, 100, 82, 101, 113, 117, 101, 115, 116]), by decide, fun W v h hv => by obtain ⟨a, ha, rfl⟩ := val_at hv; exact RtB.refuse6 h.sm ha, RtY.ref7⟩
  | 8, _ => exact ⟨500, (Xp.docError [73, 110, 116, 101, 114, 110, 97, 108]), by decide, fun W v h hv => by obtain ⟨a, ha, rfl⟩ := val_at hv; exact RtB.refuse_x h.sm (h.er 7 _ _ _ rfl rfl ha) (k := 7) rfl (by decide), RtY.ref8⟩
  | 9, _ => exact ⟨500, (Xp.docError [73, 110, 116, 101, 114, 110, 97, 108]), by decide, fun W v h hv => by obtain ⟨a, ha, rfl⟩ := val_at hv; exact RtB.refuse_x h.sm (h.er 8 _ _ _ rfl rfl ha) (k := 8) rfl (by decide), RtY.ref9⟩
  | 10, _ => exact ⟨507, (Xp.docError [70, 117, 108, 108]), by decide, fun W v h hv => by obtain ⟨a, ha, rfl⟩ := val_at hv; exact RtB.refuse9 h.sm ha, RtY.ref10⟩
  | 11, _ => exact ⟨413, (Xp.docError [84, 111, 111, 76, 97, 114, 103, 101]), by decide, fun W v h hv => by obtain ⟨a, ha, rfl⟩ := val_at hv; exact RtB.refuse10 h.sm ha, RtY.ref11⟩
  | 12, _ => exact ⟨500, (Xp.docError [73, 110, 116, 101, 114, 110, 97, 108]), by decide, fun W v h hv => by obtain ⟨a, ha, rfl⟩ := val_at hv; exact RtB.refuse_x h.sm (h.er 11 _ _ _ rfl rfl ha) (k := 11) rfl (by decide), RtY.ref12⟩
  | 13, _ => exact ⟨400, (Xp.docError [66, 97, 100, 82, 101, 113, 117, 101, 115, 116]), by decide, fun W v h hv => by obtain ⟨a, ha, rfl⟩ := val_at hv; exact RtB.refuse12 h.sm ha, RtY.ref13⟩
  | 14, _ => exact ⟨400, (Xp.docError [66, 97, 100, 82, 101, 113, 117, 101, 115, 116]), by decide, fun W v h hv => by obtain ⟨a, ha, rfl⟩ := val_at hv; exact RtB.refuse13 h.sm ha, RtY.ref14⟩
  | 15, _ => exact ⟨403, (Xp.docError [65, 99, 99, 101, 115, 115, 68, 101, 110, 105, 101, 100]), by decide, fun W v h hv => by obtain ⟨a, ha, rfl⟩ := val_at hv; exact RtB.refuse14 h.sm ha, RtY.ref15⟩
  | 16, _ => exact ⟨403, (Xp.docError [65, 99, 99, 101, 115, 115, 68, 101, 110, 105, 101, 100]), by decide, fun W v h hv => by obtain ⟨a, ha, rfl⟩ := val_at hv; exact RtB.refuse15 h.sm ha, RtY.ref16⟩
  | 17, _ => exact ⟨405, (Xp.docError [77, 101, 116, 104, 111, 100, 78, 111, 116, 65, 108, 108, 111, 119, 101, 100]), by decide, fun W v h hv => by obtain ⟨a, ha, rfl⟩ := val_at hv; exact RtB.refuse16 h.sm ha, RtY.ref17⟩
  | 18, _ => exact ⟨500, (Xp.docError [73, 110, 116, 101, 114, 110, 97, 108]), by decide, fun W v h hv => by obtain ⟨a, ha, rfl⟩ := val_at hv; exact RtB.refuse_x h.sm (h.er 17 _ _ _ rfl rfl ha) (k := 17) rfl (by decide), RtY.ref18⟩
  | m + 19, h => omega
end Go.Proofs.YtidflagmdabfaaaGreatDoor.RrA
namespace Go.Proofs.YtidflagmdabfaaaGreatDoor.RrB
open Go.RowKit Go.Proofs.YtidflagmdabfaaaGreatDoor Go.Proofs.YtidflagmdabfaaaGreatDoor.HtW Go.Proofs.YtidflagmdabfaaaGreatDoor.RtA Go.Proofs.YtidflagmdabfaaaGreatDoor.RtQ Go.Proofs.YtidflagmdabfaaaGreatDoor.RtI Go.Proofs.YtidflagmdabfaaaGreatDoor.RrA

theorem step19 (c : Int) : ∃ t : Nat, (c.tmod 19 + 19).tmod 19 = (t : Int) ∧ t < 19 ∧ -18 ≤ c.tmod 19 ∧ c.tmod 19 ≤ 18 := by
  have h1 : -18 ≤ c.tmod 19 := by have := Int.lt_tmod_of_pos c (b := 19) (by decide); omega
  have h2 : c.tmod 19 ≤ 18 := by have := Int.tmod_lt_of_pos c (b := 19) (by decide); omega
  have h3 : 0 ≤ (c.tmod 19 + 19).tmod 19 := Int.tmod_nonneg _ (by omega)
  have h4 : (c.tmod 19 + 19).tmod 19 < 19 := Int.tmod_lt_of_pos _ (by decide)
  exact ⟨((c.tmod 19 + 19).tmod 19).toNat, by omega, by omega, h1, h2⟩

theorem cmd_size : (Tryz.prog.info? 35).map (·.size) = some 18 := by kernel_rfl
/-- the load of a command, as one word -/
def loadCmd (v : Value) : Sem Value := Instr.loadAt 35 v
theorem loadCmd_eq (v : Value) : Instr.loadAt 35 v = loadCmd v := rfl
attribute [local go_sem ↓] loadCmd_eq
theorem cmd_load (kd i0 i1 i2 : Int) (bk ky : ByteArray) (p0 p1 p2 b0 b1 b2 sz : Int) (et : ByteArray) (pt : Int) (pa : Option Addr) (pn pc : Nat) (tm dy : Int) (B : Nat) (w : World) (h : w.heap[B]? = some (.cells (RtT.X kd i0 i1 i2 bk ky p0 p1 p2 b0 b1 b2 sz et pt pa pn pc tm dy) 35 (0, 0))) :
    (loadCmd (.pointer (some ⟨B, 0, none⟩))).run Tryz.prog w = .ok (.agg (RtT.X kd i0 i1 i2 bk ky p0 p1 p2 b0 b1 b2 sz et pt pa pn pc tm dy)) w :=
  run_loadAt_mid (P := Tryz.prog) w B 0 35 (RtT.X kd i0 i1 i2 bk ky p0 p1 p2 b0 b1 b2 sz et pt pa pn pc tm dy).toList _ (fun j v hj => by rw [Lib.cell_of_heap h, Nat.zero_add]; simpa using hj) Tryz.underlying35 rfl (by rw [cmd_size]; rfl)

/-- what the last statement reads -/
abbrev S9 (w : World) (X : Array Value) (c : Int) (oe : List UInt8) (W : World) : Prop :=
  ((W.cell? ⟨w.heap.size + 1, 0, none⟩ = some (.int .i64 c) ∧ W.cell? ⟨w.heap.size + 1, 1, none⟩ = some (.string ⟨oe.toArray⟩)) ∧ (loadCmd (.pointer (some ⟨w.heap.size, 0, none⟩))).run Tryz.prog W = .ok (.agg X) W) ∧ (W.heap[w.heap.size]? = some (.cells X 35 (0, 0)) ∧ W.heap[w.heap.size + 1]? = some (.cells #[.int .i64 c, .string ⟨oe.toArray⟩] 63 (0, 0))) ∧ Below w.heap.size w W
theorem S9.mk' {kd i0 i1 i2 : Int} {bk ky : ByteArray} {p0 p1 p2 b0 b1 b2 sz : Int} {et : ByteArray} {pt : Int} {pa : Option Addr} {pn pc : Nat} {tm dy : Int} {w : World} {c : Int} {oe : List UInt8} {W : World} (h0 : W.heap[w.heap.size]? = some (.cells (RtT.X kd i0 i1 i2 bk ky p0 p1 p2 b0 b1 b2 sz et pt pa pn pc tm dy) 35 (0, 0))) (h1 : W.heap[w.heap.size + 1]? = some (.cells #[.int .i64 c, .string ⟨oe.toArray⟩] 63 (0, 0))) (hb : Below w.heap.size w W) :
    S9 w (RtT.X kd i0 i1 i2 bk ky p0 p1 p2 b0 b1 b2 sz et pt pa pn pc tm dy) c oe W :=
  ⟨⟨⟨by rw [Lib.cell_of_heap h1]; rfl, by rw [Lib.cell_of_heap h1]; rfl⟩, cmd_load _ _ _ _ _ _ _ _ _ _ _ _ _ _ _ _ _ _ _ _ _ _ h0⟩, ⟨h0, h1⟩, hb⟩
theorem S9.below {kd i0 i1 i2 : Int} {bk ky : ByteArray} {p0 p1 p2 b0 b1 b2 sz : Int} {et : ByteArray} {pt : Int} {pa : Option Addr} {pn pc : Nat} {tm dy : Int} {w : World} {c : Int} {oe : List UInt8} {W W' : World} (h : S9 w (RtT.X kd i0 i1 i2 bk ky p0 p1 p2 b0 b1 b2 sz et pt pa pn pc tm dy) c oe W) (hb : Below W.heap.size W W') :
    S9 w (RtT.X kd i0 i1 i2 bk ky p0 p1 p2 b0 b1 b2 sz et pt pa pn pc tm dy) c oe W' :=
  .mk' ((hb.block _ (Array.getElem?_eq_some_iff.1 h.2.1.1).1).trans h.2.1.1) ((hb.block _ (Array.getElem?_eq_some_iff.1 h.2.1.2).1).trans h.2.1.2) (h.2.2.trans (hb.mono h.2.2.size))

set_option maxHeartbeats 8000000 in
set_option maxRecDepth 100000 in
theorem refuses (n kd i0 i1 i2 : Int) (bk ky : ByteArray) (p0 p1 p2 b0 b1 b2 sz : Int) (et : ByteArray) (pt : Int) (pa : Option Addr) (ps : List Int) (pc : Nat) (tm dy c : Int) (oe : List UInt8) (w : World) {aU : Addr} {es : List Addr}
    (hE : Env w aU es) (hA : Err.All w es) (hT : XmlH.Tab w) (hP : RtX.Is w pa ps) (hbl : bk.size ≤ 1048576) (hkl : ky.size ≤ 1048576) (hel : et.size ≤ 1048576) (hpl : ps.length ≤ 1048576) (hol : oe.length ≤ 1048576) (g0 : Xd.I64 i0) (g1 : Xd.I64 i1) (g2 : Xd.I64 i2) :
    Calls Tryz.prog 6 #[.int .i64 n, .agg (RtT.X kd i0 i1 i2 bk ky p0 p1 p2 b0 b1 b2 sz et pt pa ps.length pc tm dy), .agg #[.int .i64 c, .string ⟨oe.toArray⟩]] w fun e w' => e = .returned (.bool true) ∧ Below w.heap.size w w' := by
  obtain ⟨w1, hw1, hb1, hQ1, hO1⟩ : ∃ w1, w1 = (w.alloc (.cells (RtT.X kd i0 i1 i2 bk ky p0 p1 p2 b0 b1 b2 sz et pt pa ps.length pc tm dy) 35)).alloc (.cells #[.int .i64 c, .string ⟨oe.toArray⟩] 63) ∧ Below w.heap.size w w1 ∧ w1.heap[w.heap.size]? = some (.cells (RtT.X kd i0 i1 i2 bk ky p0 p1 p2 b0 b1 b2 sz et pt pa ps.length pc tm dy) 35 (0, 0)) ∧ w1.heap[w.heap.size + 1]? = some (.cells #[.int .i64 c, .string ⟨oe.toArray⟩] 63 (0, 0)) :=
    ⟨_, rfl, ((Below.refl _ _).alloc (Nat.le_refl _) _).alloc (by simp) _, (Below.heap_alloc _ _ _ (by simp)).trans (heap_alloc_new _ _), RtQ.hp1 _ _⟩
  have HP := Lib.hid hP; clear hP
  have HT := Lib.hid hT; clear hT
  have HE1 := Lib.hid (hE.below hb1); clear hE
  have HA1 := Lib.hid (hA.below hb1); clear hA
  have KA := Lib.hid (alive w1 HE1.out)
  have hz1 : w.heap.size + 2 ≤ w1.heap.size := (Array.getElem?_eq_some_iff.1 hO1).1
  have HB1 := Lib.hid hb1; clear hb1
  go_enter Tryz.func6, Tryz.ntmps6
  go_upto_region 1 with fail
  rw [← hw1]
  clear hw1
  go_upto_region 3 with fail
  refine KA.out.mono ?_
  rintro e w2 ⟨rfl, hb2⟩
  have HA2 := Lib.hid (HA1.out.below hb2)
  have HB2 := Lib.hid (HB1.out.trans (hb2.mono (by omega)))
  have HQ2 := Lib.hid ((hb2.block _ (by omega)).trans hQ1)
  have HO2 := Lib.hid ((hb2.block _ (by omega)).trans hO1)
  have hz2 : w.heap.size + 2 ≤ w2.heap.size := Nat.le_trans hz1 hb2.size
  clear hb2 hQ1 hO1 HA1 HB1 KA HE1 hz1
  obtain ⟨a0, a1, a2, a3, a4, a5, a6, a7, a8, a9, a10, a11, a12, a13, a14, a15, a16, a17, hes⟩ := eighteen HA2.out.len
  have c0 := (HA2.out.er 0 _ _ _ rfl rfl (by rw [hes]; rfl)).cell
  have c1 := (HA2.out.er 1 _ _ _ rfl rfl (by rw [hes]; rfl)).cell
  have c2 := (HA2.out.er 2 _ _ _ rfl rfl (by rw [hes]; rfl)).cell
  have c3 := (HA2.out.er 3 _ _ _ rfl rfl (by rw [hes]; rfl)).cell
  have c4 := (HA2.out.er 4 _ _ _ rfl rfl (by rw [hes]; rfl)).cell
  have c5 := (HA2.out.er 5 _ _ _ rfl rfl (by rw [hes]; rfl)).cell
  have c6 := (HA2.out.er 6 _ _ _ rfl rfl (by rw [hes]; rfl)).cell
  have c7 := (HA2.out.er 7 _ _ _ rfl rfl (by rw [hes]; rfl)).cell
  have c8 := (HA2.out.er 8 _ _ _ rfl rfl (by rw [hes]; rfl)).cell
  have c9 := (HA2.out.er 9 _ _ _ rfl rfl (by rw [hes]; rfl)).cell
  have c10 := (HA2.out.er 10 _ _ _ rfl rfl (by rw [hes]; rfl)).cell
  have c11 := (HA2.out.er 11 _ _ _ rfl rfl (by rw [hes]; rfl)).cell
  have c12 := (HA2.out.er 12 _ _ _ rfl rfl (by rw [hes]; rfl)).cell
  have c13 := (HA2.out.er 13 _ _ _ rfl rfl (by rw [hes]; rfl)).cell
  have c14 := (HA2.out.er 14 _ _ _ rfl rfl (by rw [hes]; rfl)).cell
  have c15 := (HA2.out.er 15 _ _ _ rfl rfl (by rw [hes]; rfl)).cell
  have c16 := (HA2.out.er 16 _ _ _ rfl rfl (by rw [hes]; rfl)).cell
  have c17 := (HA2.out.er 17 _ _ _ rfl rfl (by rw [hes]; rfl)).cell
  have HES := Lib.hid hes
  clear hes
  go_upto_region 4 with fail
  obtain ⟨w3, hw3, hb3, hv3⟩ : ∃ w3, w3 = w2.alloc (.cells #[.nilIface, Err.ev a0, Err.ev a1, Err.ev a2, Err.ev a3, Err.ev a4, Err.ev a5, Err.ev a6, Err.ev a7, Err.ev a8, Err.ev a9, Err.ev a10, Err.ev a11, Err.ev a12, Err.ev a13, Err.ev a14, Err.ev a15, Err.ev a16, Err.ev a17] 39) ∧ Below w2.heap.size w2 w3 ∧ w3.heap[w2.heap.size]? = some (.cells (vals es).toArray 39 (0, 0)) :=
    ⟨_, rfl, (Below.refl _ _).alloc (Nat.le_refl _) _, by rw [HES.out]; exact heap_alloc_new _ _⟩
  rw [← hw3]
  clear hw3 c0 c1 c2 c3 c4 c5 c6 c7 c8 c9 c10 c11 c12 c13 c14 c15 c16 c17
  obtain ⟨m, em, hm, m1, m2⟩ := step19 n
  obtain ⟨v, hv⟩ : ∃ v, (vals es)[m]? = some v := ⟨_, List.getElem?_eq_getElem (by rw [HES.out]; exact hm)⟩
  have cv : w3.cell? ⟨w2.heap.size, m, none⟩ = some v := by rw [Lib.cell_of_heap hv3]; simpa using hv
  obtain ⟨st, d, hd, KR, KF⟩ := pair es m hm
  have HA3 := Lib.hid (HA2.out.below hb3)
  have HR := Lib.hid (KR w3 v HA3.out hv)
  have HF := Lib.hid KF
  have HB3 := Lib.hid (HB2.out.trans (hb3.mono (by omega)))
  have HQ3 := Lib.hid ((hb3.block _ (by omega)).trans HQ2.out)
  have HO3 := Lib.hid ((hb3.block _ (by omega)).trans HO2.out)
  have hz3 : w.heap.size + 2 ≤ w3.heap.size := Nat.le_trans hz2 hb3.size
  obtain ⟨N3, hN3⟩ : ∃ N, N = w2.heap.size := ⟨_, rfl⟩
  rw [← hN3] at cv ⊢
  clear hN3 hb3 hv3 hv KR KF HA2 HB2 HQ2 HO2 hz2
  have h19 : (m : Int) < 19 := by omega
  have h0 : (0 : Int) ≤ (m : Int) := by omega
  go_upto_region 7 with (first
    | (go_at_call 29; refine HR.out.mono ?_; rintro e w4 ⟨⟨a4, c4, rfl, hF4, -⟩, hb4⟩)
    | (go_at_call 30; refine (HF.out _).mono ?_; rintro e w5 ⟨⟨a5, c5, rfl, hF5, -⟩, hb5⟩)
    | (go_at_call 25; refine (RtP.sameRes st [] d 0 c4 0 c5 _ (.inl rfl) (hF4.below hb5) (.inl rfl) hF5 (by simp)).mono ?_; rintro e w6 ⟨rfl, hb6⟩))
  have hb36 := hb4.trans ((hb5.trans (hb6.mono hb5.size)).mono hb4.size)
  have HB6 := Lib.hid (HB3.out.trans (hb36.mono (by omega)))
  have hQ6 := (hb36.block _ (by omega)).trans HQ3.out
  have hO6 := (hb36.block _ (by omega)).trans HO3.out
  have hz6 : w.heap.size + 2 ≤ w6.heap.size := Nat.le_trans hz3 hb36.size
  have o0 : w6.cell? ⟨w.heap.size + 1, 0, none⟩ = some (.int .i64 c) := by rw [Lib.cell_of_heap hO6]; rfl
  have HQ6 := Lib.hid hQ6
  have HO6 := Lib.hid hO6
  clear hb4 hb5 hb6 hb36 hF4 hF5 hQ6 hO6 HR HF HB3 HQ3 HO3 HA3 hz3 cv em hm m1 m2 h19 h0 hd
  by_cases hc0 : c < 0
  · have e0 : decide (c < 0) = true := decide_eq_true hc0
    go_wp2_with fail
    go_ret
    exact ⟨rfl, HB6.out⟩
  have e0 : decide (c < 0) = false := decide_eq_false hc0
  by_cases hc8 : 8 < c
  · have e8 : decide (8 < c) = true := decide_eq_true hc8
    go_wp2_with fail
    go_ret
    exact ⟨rfl, HB6.out⟩
  have e8 : decide (8 < c) = false := decide_eq_false hc8
  have KI := Lib.hid (RtT.inForm kd i0 i1 i2 bk ky p0 p1 p2 b0 b1 b2 sz et pt pa ps pc tm dy w6 (HP.out.below HB6.out) hbl hkl hel hpl)
  have ld6 := cmd_load kd i0 i1 i2 bk ky p0 p1 p2 b0 b1 b2 sz et pt pa ps.length pc tm dy w.heap.size w6 HQ6.out
  go_upto_region 9 with (first
    | (go_at_call 23; refine KI.out.mono ?_; rintro e w7 ⟨⟨b7, rfl⟩, hb7⟩; cases b7))
  · go_ret
    exact ⟨rfl, HB6.out.trans (hb7.mono (by omega))⟩
  obtain ⟨s2, fs2, d2, hV, KC, KD⟩ := RtS.view kd i0 i1 i2 c (.string bk) (.int .i64 p0) (.int .i64 p1) (.int .i64 p2) (.int .i64 b0) (.int .i64 b1) (.int .i64 b2) (.int .i64 sz) (.string et) (.int .i64 pt) (.slice pa ps.length pc) (.int .i64 tm) (.int .i64 dy) ky oe hc0 hc8 hkl hol g0 g1 g2
  have HC := Lib.hid KC
  have HD := Lib.hid KD
  have HFE := Lib.hid hV.few
  have s9 : S9 w (RtT.X kd i0 i1 i2 bk ky p0 p1 p2 b0 b1 b2 sz et pt pa ps.length pc tm dy) c oe w7.drew := .mk' ((hb7.block _ (by omega)).trans HQ6.out) ((hb7.block _ (by omega)).trans HO6.out) (HB6.out.trans (hb7.mono (by omega))).drew
  have HS9 := Lib.hid s9
  clear s9 ld6 KI hb7 HB6 HQ6 HO6 o0 KC KD hV
  go_region_held3 (fun W => ((W.cell? ⟨w.heap.size + 1, 0, none⟩ = some (.int .i64 c) ∧ W.cell? ⟨w.heap.size + 1, 1, none⟩ = some (.string ⟨oe.toArray⟩)) ∧ (loadCmd (.pointer (some ⟨w.heap.size, 0, none⟩))).run Tryz.prog W = .ok (.agg (RtT.X kd i0 i1 i2 bk ky p0 p1 p2 b0 b1 b2 sz et pt pa ps.length pc tm dy)) W) ∧ (W.heap[w.heap.size]? = some (.cells (RtT.X kd i0 i1 i2 bk ky p0 p1 p2 b0 b1 b2 sz et pt pa ps.length pc tm dy) 35 (0, 0)) ∧ W.heap[w.heap.size + 1]? = some (.cells #[.int .i64 c, .string ⟨oe.toArray⟩] 63 (0, 0))) ∧ Below w.heap.size w W)
    (first | exact HS9.out | assumption)
    (first
      | (go_at_call 31; refine (HC.out _ (HT.out.below HS9.out.2.2)).mono ?_; rintro e w9 ⟨⟨a9, c9, b9, d9, rfl, hF9, hB9⟩, hb9⟩; have hS9 := S9.below HS9.out hb9)
      | (go_at_call 32; refine (HD.out _ (HT.out.below hS9.2.2)).mono ?_; rintro e w10 ⟨⟨a10, c10, b10, d10, rfl, hF10, hB10⟩, hb10⟩; have hS10 := S9.below hS9 hb10)
      | (go_at_call 25; refine (RtP.sameRes s2 fs2 d2 c9 d9 c10 d10 w10 (hF9.below hb10) (hB9.below hb10) hF10 hB10 (by have := HFE.out; omega)).mono ?_; rintro e w11 ⟨rfl, hb11⟩; have hS11 := S9.below hS10 hb11))
  all_goals
    go_wp2_with fail
    go_ret
    exact ⟨rfl, hS11.2.2⟩
end Go.Proofs.YtidflagmdabfaaaGreatDoor.RrB
