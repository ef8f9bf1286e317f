/-
  The walk of the law RouteGives. (Printed by mkgives.py.)
-/
import Derived.Test.YtidflagmdabfaaaGreatDoorRo06
import Derived.Test.YtidflagmdabfaaaGreatDoorRp01
import Derived.Test.YtidflagmdabfaaaGreatDoorRp02
namespace Go.Proofs.YtidflagmdabfaaaGreatDoor.RtN
open Go.RowKit Go.Proofs.YtidflagmdabfaaaGreatDoor Go.Proofs.YtidflagmdabfaaaGreatDoor.HtW Go.Proofs.YtidflagmdabfaaaGreatDoor.RtA Go.Proofs.YtidflagmdabfaaaGreatDoor.RtG Go.Proofs.YtidflagmdabfaaaGreatDoor.RtI Go.Proofs.YtidflagmdabfaaaGreatDoor.RtJ Go.Proofs.YtidflagmdabfaaaGreatDoor.App

/-- the asked, as the law lays it -/
abbrev askd (fi la : Int) (b : Bool) : Array Value := #[.int .i64 2, .int .i64 0, .int .i64 0, .int .i64 0, .int .i64 0, .string ⟨#[]⟩, .string ⟨#[]⟩, .int .i64 0, .int .i64 0, .int .i64 0, .int .i64 0, .int .i64 0, .int .i64 0, .int .i64 0, .string ⟨#[]⟩, .int .i64 0, .slice none 0 0, .int .i64 0, .int .i64 0, .string ⟨#[97, 97, 97]⟩, .string ⟨#[107]⟩, .string ⟨#[]⟩, .string ⟨#[]⟩, .string ⟨#[]⟩, .int .i64 0, .int .i64 fi, .int .i64 la, .bool b, .int .i64 0, .int .i64 0, .int .i64 0]
theorem ask_one (fi la : Int) (b : Bool) : (askd fi la b).all (·.oneCell') = true := by simp [askd, Value.oneCell']
theorem ask_size : (Tryz.prog.info? 37).map (·.size) = some 31 := by kernel_rfl
/-- the load of what is asked, as one word -/
def loadAsk (v : Value) : Sem Value := Instr.loadAt 37 v
theorem loadAsk_eq (v : Value) : Instr.loadAt 37 v = loadAsk v := rfl
attribute [local go_sem ↓] loadAsk_eq
theorem ask_load (fi la : Int) (b : Bool) (N4 : Nat) (w : World) (h : w.heap[N4]? = some (.cells (askd fi la b) 37 (0, 0))) : (loadAsk (.pointer (some ⟨N4, 0, none⟩))).run Tryz.prog w = .ok (.agg (askd fi la b)) w :=
  run_loadAt_mid (P := Tryz.prog) w N4 0 37 (askd fi la b).toList _ (fun j v hj => by rw [Lib.cell_of_heap h, Nat.zero_add]; simpa using hj) Tryz.underlying37 rfl (by rw [ask_size]; rfl)
/-- what the last statement reads -/
abbrev S8 (w : World) (N3 N4 N8 : Nat) (r0 r1 r2 o0 o1 o2 o3 o4 cv : Value) (fi la : Int) (b : Bool) (W : World) : Prop :=
  ((W.cell? ⟨N8, 0, none⟩ = some r0 ∧ W.cell? ⟨N8, 1, none⟩ = some r1 ∧ W.cell? ⟨N8, 2, none⟩ = some r2) ∧ (W.cell? ⟨N3, 0, none⟩ = some o0 ∧ W.cell? ⟨N3, 1, none⟩ = some o1 ∧ W.cell? ⟨N3, 2, none⟩ = some o2 ∧ W.cell? ⟨N3, 3, none⟩ = some o3 ∧ W.cell? ⟨N3, 4, none⟩ = some o4) ∧ W.cell? ⟨w.heap.size, 0, none⟩ = some cv) ∧ (W.heap[N4]? = some (.cells (askd fi la b) 37 (0, 0)) ∧ (loadAsk (.pointer (some ⟨N4, 0, none⟩))).run Tryz.prog W = .ok (.agg (askd fi la b)) W) ∧ Below w.heap.size w W
theorem S8.blocks {w : World} {N3 N4 N8 : Nat} {r0 r1 r2 o0 o1 o2 o3 o4 cv : Value} {fi la : Int} {b : Bool} {W W' : World} (h : S8 w N3 N4 N8 r0 r1 r2 o0 o1 o2 o3 o4 cv fi la b W) (hk : ∀ k, k = w.heap.size ∨ k = N3 ∨ k = N4 ∨ k = N8 → W'.heap[k]? = W.heap[k]?) (hb : Below w.heap.size w W') : S8 w N3 N4 N8 r0 r1 r2 o0 o1 o2 o3 o4 cv fi la b W' := by
  obtain ⟨⟨⟨h0, h1, h2⟩, ⟨g0, g1, g2, g3, g4⟩, hc⟩, ⟨hq, _⟩, _⟩ := h
  have c8 := fun j => World.cell?_of_block (w := W) (w' := W') (a := ⟨N8, j, none⟩) (hk N8 (by simp))
  have c3 := fun j => World.cell?_of_block (w := W) (w' := W') (a := ⟨N3, j, none⟩) (hk N3 (by simp))
  have hq' := (hk N4 (by simp)).trans hq
  exact ⟨⟨⟨(c8 0).trans h0, (c8 1).trans h1, (c8 2).trans h2⟩, ⟨(c3 0).trans g0, (c3 1).trans g1, (c3 2).trans g2, (c3 3).trans g3, (c3 4).trans g4⟩, (World.cell?_of_block (w := W) (w' := W') (a := ⟨w.heap.size, 0, none⟩) (hk w.heap.size (by simp))).trans hc⟩, ⟨hq', ask_load _ _ _ _ _ hq'⟩, hb⟩
theorem fs_own {w : World} {base : Nat} {a : Option Addr} {fs : List Fld} {n c : Nat} (h : w.ownsRow base 91 2 (.slice a n c) fs.length (fcells fs)) : Fs w a fs := by
  obtain ⟨a', c', hv, _, hf⟩ := fs_of_own h
  cases hv
  exact hf

set_option maxHeartbeats 4000000 in
set_option maxRecDepth 100000 in
theorem gives_whole (dt : List UInt8) (tmc fi la : Int) (ad : Option Addr) (cd : Nat) (w : World) {aU : Addr} {es : List Addr} (hE : Env w aU es) (hd : Bs w ad dt cd) (hl : dt.length ≤ 1048576) (_t0 : -9223372036854775808 ≤ tmc) (_t1 : tmc ≤ 9223372036854775807) (_f0 : -9223372036854775808 ≤ fi) (_f1 : fi ≤ 9223372036854775807) (_l0 : -9223372036854775808 ≤ la) (_l1 : la ≤ 9223372036854775807) :
    Calls Tryz.prog 4 #[.agg #[.slice ad dt.length cd, .int .i64 tmc, .bool true, .int .i64 fi, .int .i64 la]] w fun e w' => e = .returned (.bool true) ∧ Below w.heap.size w w' := by
  obtain ⟨w1, hw1, hb1, hc1, hz1⟩ : ∃ w1, w1 = w.alloc (.cells #[.slice ad dt.length cd, .int .i64 tmc, .bool true, .int .i64 fi, .int .i64 la] 51) ∧ Below w.heap.size w w1 ∧ w1.heap[w.heap.size]? = some (.cells #[.slice ad dt.length cd, .int .i64 tmc, .bool true, .int .i64 fi, .int .i64 la] 51 (0, 0)) ∧ w1.heap.size = w.heap.size + 1 := ⟨_, rfl, (Below.refl _ _).alloc (Nat.le_refl _) _, heap_alloc_new _ _, World.size_alloc _ _⟩
  have HE1 := Lib.hid (hE.below hb1)
  have HD := Lib.hid hd
  clear hE hd
  have c0 : w1.cell? ⟨w.heap.size, 0, none⟩ = some (.slice ad dt.length cd) := by rw [Lib.cell_of_heap hc1]; rfl
  have c1 : w1.cell? ⟨w.heap.size, 1, none⟩ = some (.int .i64 tmc) := by rw [Lib.cell_of_heap hc1]; rfl
  have c2 : w1.cell? ⟨w.heap.size, 2, none⟩ = some (.bool true) := by rw [Lib.cell_of_heap hc1]; rfl
  have c3 : w1.cell? ⟨w.heap.size, 3, none⟩ = some (.int .i64 fi) := by rw [Lib.cell_of_heap hc1]; rfl
  have c4 : w1.cell? ⟨w.heap.size, 4, none⟩ = some (.int .i64 la) := by rw [Lib.cell_of_heap hc1]; rfl
  have KA := Lib.hid (alive w1 HE1.out)
  obtain ⟨T, hT, T0, T1⟩ : ∃ T, max tmc 0 = T ∧ 0 ≤ T ∧ T ≤ 9223372036854775807 := ⟨_, rfl, by omega, by omega⟩
  have hl9 : dt.length ≤ 9223372036854775807 := by omega
  have HB1 := Lib.hid hb1
  clear hc1 hb1
  go_enter Tryz.func4, Tryz.ntmps4
  go_upto_region 1 with fail
  rw [← hw1]
  clear hw1
  go_upto_region 3 with fail
  refine KA.out.mono ?_
  rintro e w2 ⟨rfl, hb2⟩
  have hz2 := hb2.size
  have C0 := (hb2.cell (p := ⟨w.heap.size, 0, none⟩) (World.block_lt_of_cell? _ _ c0)).trans c0
  have C1 := (hb2.cell (p := ⟨w.heap.size, 1, none⟩) (World.block_lt_of_cell? _ _ c1)).trans c1
  have C2 := (hb2.cell (p := ⟨w.heap.size, 2, none⟩) (World.block_lt_of_cell? _ _ c2)).trans c2
  have C3 := (hb2.cell (p := ⟨w.heap.size, 3, none⟩) (World.block_lt_of_cell? _ _ c3)).trans c3
  have C4 := (hb2.cell (p := ⟨w.heap.size, 4, none⟩) (World.block_lt_of_cell? _ _ c4)).trans c4
  have HB2 := Lib.hid (HB1.out.trans (hb2.mono (by omega)))
  have HE2 := Lib.hid (HE1.out.below hb2)
  clear c0 c1 c2 c3 c4 KA HE1 HB1 hb2
  go_upto_region 4 with fail
  obtain ⟨w3, hw3, hb3, hO3⟩ : ∃ w3, w3 = w2.alloc (.cells #[.string ⟨#[107]⟩, .int .i64 (dt.length : Int), .string ⟨#[101]⟩, .int .i64 T, .slice none 0 0] 54) ∧ Below w2.heap.size w2 w3 ∧ Ob w2.heap.size w3 (.string ⟨#[107]⟩) (.int .i64 (dt.length : Int)) (.string ⟨#[101]⟩) (.int .i64 T) (.slice none 0 0) := ⟨_, rfl, (Below.refl _ _).alloc (Nat.le_refl _) _, heap_alloc_new _ _⟩
  rw [← hw3]
  have hz3 := hb3.size
  have D0 := (hb3.cell (p := ⟨w.heap.size, 0, none⟩) (by show w.heap.size < _; omega)).trans C0
  have D2 := (hb3.cell (p := ⟨w.heap.size, 2, none⟩) (by show w.heap.size < _; omega)).trans C2
  have D3 := (hb3.cell (p := ⟨w.heap.size, 3, none⟩) (by show w.heap.size < _; omega)).trans C3
  have D4 := (hb3.cell (p := ⟨w.heap.size, 4, none⟩) (by show w.heap.size < _; omega)).trans C4
  have HB3 := Lib.hid (HB2.out.trans (hb3.mono (by omega)))
  have HE3 := Lib.hid (HE2.out.below hb3)
  have HO3 := Lib.hid hO3
  obtain ⟨N3, hN3⟩ : ∃ N, N = w2.heap.size := ⟨_, rfl⟩
  rw [← hN3] at HO3 ⊢
  have hn3 : w.heap.size < N3 ∧ N3 < w3.heap.size := ⟨by omega, by rw [hN3]; exact (Array.getElem?_eq_some_iff.1 hO3).1⟩
  clear hw3 hb3 hO3 hN3 C0 C1 C2 C3 C4 HB2 HE2 hT hz2 hz3 hz1
  go_upto_region 5 with (guard_target =~ wpList _ _ _ ({ dst := _, op := Op.store 37 _ _, type := _, pos := _, after := _, guard := none } :: _) _ _; refine wpList_store_row rfl 37 (.tmp 4) (.tmp 23) rfl w3.heap.size #[.int .i64 2, .int .i64 0, .int .i64 0, .int .i64 0, .int .i64 0, .string ⟨#[]⟩, .string ⟨#[]⟩, .int .i64 0, .int .i64 0, .int .i64 0, .int .i64 0, .int .i64 0, .int .i64 0, .int .i64 0, .string ⟨#[]⟩, .int .i64 0, .slice none 0 0, .int .i64 0, .int .i64 0, .string ⟨#[97, 97, 97]⟩, .string ⟨#[107]⟩, .string ⟨#[]⟩, .string ⟨#[]⟩, .string ⟨#[]⟩, .int .i64 0, .int .i64 fi, .int .i64 la, .bool false, .int .i64 0, .int .i64 0, .int .i64 0] rfl rfl _ _ (heap_alloc_new _ _) (show _ = some (askd fi la false).size from ask_size) rfl (ask_one fi la false) ?_)
  obtain ⟨w4, hw4, hq4, hb4⟩ : ∃ w4, w4 = (w3.alloc (.cells #[.int .i64 0, .int .i64 0, .int .i64 0, .int .i64 0, .int .i64 0, .string ⟨#[]⟩, .string ⟨#[]⟩, .int .i64 0, .int .i64 0, .int .i64 0, .int .i64 0, .int .i64 0, .int .i64 0, .int .i64 0, .string ⟨#[]⟩, .int .i64 0, .slice none 0 0, .int .i64 0, .int .i64 0, .string ⟨#[]⟩, .string ⟨#[]⟩, .string ⟨#[]⟩, .string ⟨#[]⟩, .string ⟨#[]⟩, .int .i64 0, .int .i64 0, .int .i64 0, .bool false, .int .i64 0, .int .i64 0, .int .i64 0] 37)).setRow w3.heap.size #[.int .i64 2, .int .i64 0, .int .i64 0, .int .i64 0, .int .i64 0, .string ⟨#[]⟩, .string ⟨#[]⟩, .int .i64 0, .int .i64 0, .int .i64 0, .int .i64 0, .int .i64 0, .int .i64 0, .int .i64 0, .string ⟨#[]⟩, .int .i64 0, .slice none 0 0, .int .i64 0, .int .i64 0, .string ⟨#[97, 97, 97]⟩, .string ⟨#[107]⟩, .string ⟨#[]⟩, .string ⟨#[]⟩, .string ⟨#[]⟩, .int .i64 0, .int .i64 fi, .int .i64 la, .bool false, .int .i64 0, .int .i64 0, .int .i64 0] ∧ w4.heap[w3.heap.size]? = some (.cells (askd fi la false) 37 (0, 0)) ∧ Below w3.heap.size w3 w4 := ⟨_, rfl, ShaB.heap_setRow _ (heap_alloc_new _ _), ShaB.below_row ((Below.refl _ _).alloc (Nat.le_refl _) _) (Nat.le_refl _) _⟩
  rw [← hw4]
  have hz4 := hb4.size
  have F0 := (hb4.cell (p := ⟨w.heap.size, 0, none⟩) (by show w.heap.size < _; omega)).trans D0
  have F2 := (hb4.cell (p := ⟨w.heap.size, 2, none⟩) (by show w.heap.size < _; omega)).trans D2
  have F3 := (hb4.cell (p := ⟨w.heap.size, 3, none⟩) (by show w.heap.size < _; omega)).trans D3
  have F4 := (hb4.cell (p := ⟨w.heap.size, 4, none⟩) (by show w.heap.size < _; omega)).trans D4
  have HB4 := Lib.hid (HB3.out.trans (hb4.mono (by omega)))
  have HE4 := Lib.hid (HE3.out.below hb4)
  have HO4 := Lib.hid (HO3.out.below hb4)
  have HQ4 := Lib.hid hq4
  obtain ⟨N4, hN4⟩ : ∃ N, N = w3.heap.size := ⟨_, rfl⟩
  rw [← hN4] at HQ4 ⊢
  have hn4 : N3 < N4 ∧ N4 < w4.heap.size := ⟨by omega, by rw [hN4]; exact (Array.getElem?_eq_some_iff.1 hq4).1⟩
  have q27 : w4.cell? ⟨N4, 27, none⟩ = some (.bool false) := by rw [Lib.cell_of_heap HQ4.out]; rfl
  clear hw4 hb4 hq4 hN4 D0 D2 D3 D4 HB3 HE3 HO3 hz4
  have KB := Lib.hid (RtP.bytes dt w4 (HD.out.below HB4.out) (by omega))
  go_upto_region 8 with (go_at_call 16; refine KB.out.mono ?_; rintro e w5 ⟨⟨g, c5, rfl, ho5⟩, hb5⟩)
  have HB5 := Lib.hid (HB4.out.trans (hb5.mono (by omega)))
  have HO5 := Lib.hid (HO4.out.below hb5)
  have HE5 := Lib.hid (HE4.out.below hb5)
  have HQ5 := Lib.hid ((hb5.block N4 (by omega)).trans HQ4.out)
  have HM5 := Lib.hid (HtX.bs_own ho5).1
  have HK5 := Lib.hid (RtP.bs_left HM5.out)
  have HG5 := Lib.hid (show g < w5.heap.size from (ho5.lt g rfl).2)
  have hz5 := hb5.size
  have G0 := (hb5.cell (p := ⟨w.heap.size, 0, none⟩) (by show w.heap.size < _; omega)).trans F0
  clear ho5 hb5 F0 F2 F3 F4 q27 KB HB4 HE4 HO4 HQ4
  obtain ⟨fs, hfs⟩ : ∃ fs, fs = ofs [101] T := ⟨_, rfl⟩
  obtain ⟨PT, hPT⟩ : ∃ PT, PT = dt := ⟨_, rfl⟩
  obtain ⟨st, hst⟩ : ∃ st : Int, st = 200 := ⟨_, rfl⟩
  have HFL := Lib.hid (show fs.length ≤ 9223372036854775807 by rw [hfs]; exact (show (2 : Nat) ≤ 9223372036854775807 by decide))
  have HPL := Lib.hid (show PT.length ≤ 140737488351232 by rw [hPT]; omega)
  have KG := Lib.hid (show Calls Tryz.prog 24 #[.agg (askd fi la false), .agg #[.string ⟨#[107]⟩, .int .i64 (dt.length : Int), .string ⟨#[101]⟩, .int .i64 T, .slice none 0 0], .slice (some ⟨g, 0, none⟩) dt.length c5] w5 fun e w' => ∃ af cf ab cb, e = .returned (.agg #[.int .i64 st, .slice af fs.length cf, .slice ab PT.length cb]) ∧ w'.ownsRow w5.heap.size 91 2 (.slice af fs.length cf) fs.length (fcells fs) ∧ w'.ownsRow w5.heap.size 5 1 (.slice ab PT.length cb) PT.length (Lib.byteCells PT) ∧ Below w5.heap.size w5 w' by
    rw [hfs, hPT, hst]
    exact (give_whole (.int .i64 2) (.int .i64 0) (.int .i64 0) (.int .i64 0) (.int .i64 0) (.string ⟨#[]⟩) (.string ⟨#[]⟩) (.int .i64 0) (.int .i64 0) (.int .i64 0) (.int .i64 0) (.int .i64 0) (.int .i64 0) (.int .i64 0) (.string ⟨#[]⟩) (.int .i64 0) (.slice none 0 0) (.int .i64 0) (.int .i64 0) (.string ⟨#[97, 97, 97]⟩) (.string ⟨#[107]⟩) (.string ⟨#[]⟩) (.string ⟨#[]⟩) (.string ⟨#[]⟩) (.int .i64 0) (.int .i64 0) (.int .i64 0) (.int .i64 0) ⟨#[107]⟩ [101] dt dt.length T fi la none (some ⟨g, 0, none⟩) 0 0 c5 w5 HE5.out.tab HK5.out (by omega) (by omega) T1).mono fun _ _ ⟨⟨af, cf, ab, cb, he, h1, h2⟩, h3⟩ => ⟨af, cf, ab, cb, he, h1, h2, h3⟩)
  have KR := Lib.hid (show ∀ W, Bs W ad dt cd → Calls Tryz.prog 26 #[.agg (askd fi la false), .agg #[.string ⟨#[107]⟩, .int .i64 (dt.length : Int), .string ⟨#[101]⟩, .int .i64 T, .slice none 0 0], .slice ad dt.length cd] W fun e w' => ∃ af cf ab cb, e = .returned (.agg #[.int .i64 st, .slice af fs.length cf, .slice ab PT.length cb]) ∧ w'.ownsRow W.heap.size 91 2 (.slice af fs.length cf) fs.length (fcells fs) ∧ Bs w' ab PT cb ∧ Below W.heap.size W w' by
    rw [hfs, hPT, hst]
    exact fun W hW => (RtM.give_whole (.int .i64 2) (.int .i64 0) (.int .i64 0) (.int .i64 0) (.int .i64 0) (.string ⟨#[]⟩) (.string ⟨#[]⟩) (.int .i64 0) (.int .i64 0) (.int .i64 0) (.int .i64 0) (.int .i64 0) (.int .i64 0) (.int .i64 0) (.string ⟨#[]⟩) (.int .i64 0) (.slice none 0 0) (.int .i64 0) (.int .i64 0) (.string ⟨#[97, 97, 97]⟩) (.string ⟨#[107]⟩) (.string ⟨#[]⟩) (.string ⟨#[]⟩) (.string ⟨#[]⟩) (.int .i64 0) (.int .i64 0) (.int .i64 0) (.int .i64 0) ⟨#[107]⟩ [101] dt dt.length T fi la none ad 0 0 cd W hW (by omega) T0 T1).mono fun _ _ ⟨⟨af, cf, ab, cb, he, h1, h2⟩, h3⟩ => ⟨af, cf, ab, cb, he, h1, h2, h3⟩)
  clear hfs hPT hst
  obtain ⟨o0, o1, o2, o3, o4⟩ := HO5.out.cells
  have hrg : w5.rangeAt N4 0 (askd fi la false).toList := fun j v hj => by rw [Lib.cell_of_heap HQ5.out, Nat.zero_add]; simpa using hj
  have HRG := Lib.hid hrg
  clear hrg
  go_upto_region 9 with (first
    | (guard_target =~ wpList _ _ _ ({ dst := _, op := Op.load 37 _, type := _, pos := _, after := _, guard := none } :: _) _ _; refine wpList_load_mid rfl 37 (.tmp 4) rfl N4 0 rfl (askd fi la false).toList _ HRG.out Tryz.underlying37 rfl (by rw [ask_size]; rfl) ?_)
    | (go_at_call 24; refine KG.out.mono ?_; rintro e w7 ⟨af, cf, ab, cb, rfl, hof, hob, hb7⟩))
  have hb8 := (Below.refl w7.heap.size w7).alloc (Nat.le_refl _) (.cells #[.int .i64 st, .slice af fs.length cf, .slice ab PT.length cb] 56)
  have hR8 : Rb w7.heap.size (w7.alloc (.cells #[.int .i64 st, .slice af fs.length cf, .slice ab PT.length cb] 56)) (.int .i64 st) (.slice af fs.length cf) (.slice ab PT.length cb) := heap_alloc_new _ _
  have hb58 := hb7.trans (hb8.mono hb7.size)
  have HF8 := Lib.hid (Com.own_below hof hb8)
  have HY8 := Lib.hid (Com.own_below hob hb8)
  have HB8 := Lib.hid (HB5.out.trans (hb58.mono (by omega)))
  have HQ8 := Lib.hid ((hb58.block N4 (by omega)).trans HQ5.out)
  have HO8 := Lib.hid (HO5.out.below hb58)
  have HM8 := Lib.hid (HM5.out.below hb58)
  have HR8 := Lib.hid hR8
  have G8 := (hb58.cell (p := ⟨w.heap.size, 0, none⟩) (by show w.heap.size < _; omega)).trans G0
  obtain ⟨N8, hN8⟩ : ∃ N, N = w7.heap.size := ⟨_, rfl⟩
  have hn8 : w5.heap.size ≤ N8 := by rw [hN8]; exact hb7.size
  have hm8 : N8 < (w7.alloc (.cells #[.int .i64 st, .slice af fs.length cf, .slice ab PT.length cb] 56)).heap.size := by rw [World.size_alloc]; omega
  have HYN := Lib.hid (show ∀ k, (Value.slice ab PT.length cb).ownBlock = some k → w5.heap.size ≤ k ∧ k < N8 from fun k hk => by rw [hN8]; exact hob.lt k hk)
  rw [← hN8] at HR8 ⊢
  generalize w7.alloc _ = w8 at *
  clear hb8 hR8 hb58 hof hob hb7 hN8 G0 o0 o1 o2 o3 o4 HB5 HQ5 HO5 HM5 HK5 KG HRG HE5
  obtain ⟨r0, r1, r2, -, -, -⟩ := HR8.out.cells
  obtain ⟨o0, o1, o2, o3, o4⟩ := HO8.out.cells
  have s8 : S8 w N3 N4 N8 (.int .i64 st) (.slice af fs.length cf) (.slice ab PT.length cb) (.string ⟨#[107]⟩) (.int .i64 (dt.length : Int)) (.string ⟨#[101]⟩) (.int .i64 T) (.slice none 0 0) (.slice ad dt.length cd) fi la false w8.drew := ⟨⟨⟨r0, r1, r2⟩, ⟨o0, o1, o2, o3, o4⟩, G8⟩, ⟨HQ8.out, ask_load _ _ _ _ _ HQ8.out⟩, HB8.out.drew⟩
  have HS8 := Lib.hid s8
  clear s8 r0 r1 r2 o0 o1 o2 o3 o4 G8 HR8 HO8 HQ8
  go_region_held3 (fun W => ((W.cell? ⟨N8, 0, none⟩ = some (.int .i64 st) ∧ W.cell? ⟨N8, 1, none⟩ = some (.slice af fs.length cf) ∧ W.cell? ⟨N8, 2, none⟩ = some (.slice ab PT.length cb)) ∧ (W.cell? ⟨N3, 0, none⟩ = some (.string ⟨#[107]⟩) ∧ W.cell? ⟨N3, 1, none⟩ = some (.int .i64 (dt.length : Int)) ∧ W.cell? ⟨N3, 2, none⟩ = some (.string ⟨#[101]⟩) ∧ W.cell? ⟨N3, 3, none⟩ = some (.int .i64 T) ∧ W.cell? ⟨N3, 4, none⟩ = some (.slice none 0 0)) ∧ W.cell? ⟨w.heap.size, 0, none⟩ = some (.slice ad dt.length cd)) ∧ (W.heap[N4]? = some (.cells (askd fi la false) 37 (0, 0)) ∧ (loadAsk (.pointer (some ⟨N4, 0, none⟩))).run Tryz.prog W = .ok (.agg #[.int .i64 2, .int .i64 0, .int .i64 0, .int .i64 0, .int .i64 0, .string ⟨#[]⟩, .string ⟨#[]⟩, .int .i64 0, .int .i64 0, .int .i64 0, .int .i64 0, .int .i64 0, .int .i64 0, .int .i64 0, .string ⟨#[]⟩, .int .i64 0, .slice none 0 0, .int .i64 0, .int .i64 0, .string ⟨#[97, 97, 97]⟩, .string ⟨#[107]⟩, .string ⟨#[]⟩, .string ⟨#[]⟩, .string ⟨#[]⟩, .int .i64 0, .int .i64 fi, .int .i64 la, .bool false, .int .i64 0, .int .i64 0, .int .i64 0]) W) ∧ Below w.heap.size w W)
    (first | exact HS8.out | assumption)
    (first
      | (go_at_call 26; refine (KR.out _ (HD.out.below HS8.out.2.2)).mono ?_; rintro e w9 ⟨a9, c9, b9, d9, rfl, ho9, hB9, hb9⟩; have hb9' : Below w8.heap.size w8 w9 := ((Below.refl w8.heap.size w8).drew).trans hb9; have hS9 := S8.blocks HS8.out (fun k hk => hb9.block k (by show k < w8.heap.size; omega)) (HS8.out.2.2.trans (hb9.mono (HS8.out.2.2.size))))
      | (go_at_call 25; refine (RtP.sameRes st fs PT cf cb c9 d9 w9 ((fs_own HF8.out).below hb9') ((HtX.bs_own HY8.out).1.below hb9') (fs_own ho9) hB9 HFL.out).mono ?_; rintro e w10 ⟨rfl, hb10⟩; have hb10' : Below w8.heap.size w8 w10 := hb9'.trans (hb10.mono hb9'.size); have hS10 := S8.blocks hS9 (fun k hk => hb10.block k (by have := hb9'.size; omega)) (hS9.2.2.trans (hb10.mono (hS9.2.2.size))))
      | (go_at_call 27; refine (NumA.apart dt PT w5.heap.size w10 ((RtP.bs_left HM8.out).below hb10') (Com.own_below HY8.out hb10') (fun p q hp hq => by cases hp; have := (HYN.out q.block (by rw [hq]; rfl)).1; have := HG5.out; show g ≠ q.block; omega) HPL.out (by have := hb10'.size; omega)).mono ?_; rintro e w11 ⟨rfl, hb11, hg11, hk11⟩; have hS11 := S8.blocks hS10 (fun k hk => hg11.block k (by have := hb10'.size; omega) (fun h => by have := HYN.out k h.symm; omega)) (hS10.2.2.trans (hb11.mono (by omega))); have hM11 := NumA.bs_grown (HM8.out.below hb10') hg11 (fun p hp h => by cases hp; have := (HYN.out g h.symm).1; have := HG5.out; omega))
      | (go_at_call 28; refine (RtP.kept dt g c5 w11 hM11 (HD.out.below hS11.2.2) (by omega)).mono ?_; rintro e w12 ⟨rfl, hb12⟩; have hS12 := S8.blocks hS11 (fun k hk => hb12.block k (by have := hb10'.size; have := hg11.size; omega)) (hS11.2.2.trans (hb12.mono (hS11.2.2.size)))))
  all_goals
    go_wp2_with fail
    go_ret
    exact ⟨rfl, hS12.2.2⟩

set_option maxHeartbeats 4000000 in
set_option maxRecDepth 100000 in
theorem gives_rangeA (dt : List UInt8) (tmc la : Int) (f : Nat) (ad : Option Addr) (cd : Nat) (w : World) {aU : Addr} {es : List Addr} (hE : Env w aU es) (hd : Bs w ad dt cd) (hl : dt.length ≤ 1048576) (_t0 : -9223372036854775808 ≤ tmc) (_t1 : tmc ≤ 9223372036854775807) (_f0 : -9223372036854775808 ≤ (f : Int)) (_f1 : (f : Int) ≤ 9223372036854775807) (_l0 : -9223372036854775808 ≤ la) (_l1 : la ≤ 9223372036854775807) (_p1 : ¬ (f : Int) < 0) (_p2 : ¬ (dt.length : Int) ≤ (f : Int)) (_p3 : ¬ la < -1) (_p4 : ¬ 0 ≤ la) :
    Calls Tryz.prog 4 #[.agg #[.slice ad dt.length cd, .int .i64 tmc, .bool false, .int .i64 (f : Int), .int .i64 la]] w fun e w' => e = .returned (.bool true) ∧ Below w.heap.size w w' := by
  obtain ⟨w1, hw1, hb1, hc1, hz1⟩ : ∃ w1, w1 = w.alloc (.cells #[.slice ad dt.length cd, .int .i64 tmc, .bool false, .int .i64 (f : Int), .int .i64 la] 51) ∧ Below w.heap.size w w1 ∧ w1.heap[w.heap.size]? = some (.cells #[.slice ad dt.length cd, .int .i64 tmc, .bool false, .int .i64 (f : Int), .int .i64 la] 51 (0, 0)) ∧ w1.heap.size = w.heap.size + 1 := ⟨_, rfl, (Below.refl _ _).alloc (Nat.le_refl _) _, heap_alloc_new _ _, World.size_alloc _ _⟩
  have HE1 := Lib.hid (hE.below hb1)
  have HD := Lib.hid hd
  clear hE hd
  have c0 : w1.cell? ⟨w.heap.size, 0, none⟩ = some (.slice ad dt.length cd) := by rw [Lib.cell_of_heap hc1]; rfl
  have c1 : w1.cell? ⟨w.heap.size, 1, none⟩ = some (.int .i64 tmc) := by rw [Lib.cell_of_heap hc1]; rfl
  have c2 : w1.cell? ⟨w.heap.size, 2, none⟩ = some (.bool false) := by rw [Lib.cell_of_heap hc1]; rfl
  have c3 : w1.cell? ⟨w.heap.size, 3, none⟩ = some (.int .i64 (f : Int)) := by rw [Lib.cell_of_heap hc1]; rfl
  have c4 : w1.cell? ⟨w.heap.size, 4, none⟩ = some (.int .i64 la) := by rw [Lib.cell_of_heap hc1]; rfl
  have KA := Lib.hid (alive w1 HE1.out)
  obtain ⟨T, hT, T0, T1⟩ : ∃ T, max tmc 0 = T ∧ 0 ≤ T ∧ T ≤ 9223372036854775807 := ⟨_, rfl, by omega, by omega⟩
  have hl9 : dt.length ≤ 9223372036854775807 := by omega
  have HB1 := Lib.hid hb1
  clear hc1 hb1
  go_enter Tryz.func4, Tryz.ntmps4
  go_upto_region 1 with fail
  rw [← hw1]
  clear hw1
  go_upto_region 3 with fail
  refine KA.out.mono ?_
  rintro e w2 ⟨rfl, hb2⟩
  have hz2 := hb2.size
  have C0 := (hb2.cell (p := ⟨w.heap.size, 0, none⟩) (World.block_lt_of_cell? _ _ c0)).trans c0
  have C1 := (hb2.cell (p := ⟨w.heap.size, 1, none⟩) (World.block_lt_of_cell? _ _ c1)).trans c1
  have C2 := (hb2.cell (p := ⟨w.heap.size, 2, none⟩) (World.block_lt_of_cell? _ _ c2)).trans c2
  have C3 := (hb2.cell (p := ⟨w.heap.size, 3, none⟩) (World.block_lt_of_cell? _ _ c3)).trans c3
  have C4 := (hb2.cell (p := ⟨w.heap.size, 4, none⟩) (World.block_lt_of_cell? _ _ c4)).trans c4
  have HB2 := Lib.hid (HB1.out.trans (hb2.mono (by omega)))
  have HE2 := Lib.hid (HE1.out.below hb2)
  clear c0 c1 c2 c3 c4 KA HE1 HB1 hb2
  go_upto_region 4 with fail
  obtain ⟨w3, hw3, hb3, hO3⟩ : ∃ w3, w3 = w2.alloc (.cells #[.string ⟨#[107]⟩, .int .i64 (dt.length : Int), .string ⟨#[101]⟩, .int .i64 T, .slice none 0 0] 54) ∧ Below w2.heap.size w2 w3 ∧ Ob w2.heap.size w3 (.string ⟨#[107]⟩) (.int .i64 (dt.length : Int)) (.string ⟨#[101]⟩) (.int .i64 T) (.slice none 0 0) := ⟨_, rfl, (Below.refl _ _).alloc (Nat.le_refl _) _, heap_alloc_new _ _⟩
  rw [← hw3]
  have hz3 := hb3.size
  have D0 := (hb3.cell (p := ⟨w.heap.size, 0, none⟩) (by show w.heap.size < _; omega)).trans C0
  have D2 := (hb3.cell (p := ⟨w.heap.size, 2, none⟩) (by show w.heap.size < _; omega)).trans C2
  have D3 := (hb3.cell (p := ⟨w.heap.size, 3, none⟩) (by show w.heap.size < _; omega)).trans C3
  have D4 := (hb3.cell (p := ⟨w.heap.size, 4, none⟩) (by show w.heap.size < _; omega)).trans C4
  have HB3 := Lib.hid (HB2.out.trans (hb3.mono (by omega)))
  have HE3 := Lib.hid (HE2.out.below hb3)
  have HO3 := Lib.hid hO3
  obtain ⟨N3, hN3⟩ : ∃ N, N = w2.heap.size := ⟨_, rfl⟩
  rw [← hN3] at HO3 ⊢
  have hn3 : w.heap.size < N3 ∧ N3 < w3.heap.size := ⟨by omega, by rw [hN3]; exact (Array.getElem?_eq_some_iff.1 hO3).1⟩
  clear hw3 hb3 hO3 hN3 C0 C1 C2 C3 C4 HB2 HE2 hT hz2 hz3 hz1
  go_upto_region 5 with (guard_target =~ wpList _ _ _ ({ dst := _, op := Op.store 37 _ _, type := _, pos := _, after := _, guard := none } :: _) _ _; refine wpList_store_row rfl 37 (.tmp 4) (.tmp 23) rfl w3.heap.size #[.int .i64 2, .int .i64 0, .int .i64 0, .int .i64 0, .int .i64 0, .string ⟨#[]⟩, .string ⟨#[]⟩, .int .i64 0, .int .i64 0, .int .i64 0, .int .i64 0, .int .i64 0, .int .i64 0, .int .i64 0, .string ⟨#[]⟩, .int .i64 0, .slice none 0 0, .int .i64 0, .int .i64 0, .string ⟨#[97, 97, 97]⟩, .string ⟨#[107]⟩, .string ⟨#[]⟩, .string ⟨#[]⟩, .string ⟨#[]⟩, .int .i64 0, .int .i64 (f : Int), .int .i64 la, .bool true, .int .i64 0, .int .i64 0, .int .i64 0] rfl rfl _ _ (heap_alloc_new _ _) (show _ = some (askd (f : Int) la true).size from ask_size) rfl (ask_one (f : Int) la true) ?_)
  obtain ⟨w4, hw4, hq4, hb4⟩ : ∃ w4, w4 = (w3.alloc (.cells #[.int .i64 0, .int .i64 0, .int .i64 0, .int .i64 0, .int .i64 0, .string ⟨#[]⟩, .string ⟨#[]⟩, .int .i64 0, .int .i64 0, .int .i64 0, .int .i64 0, .int .i64 0, .int .i64 0, .int .i64 0, .string ⟨#[]⟩, .int .i64 0, .slice none 0 0, .int .i64 0, .int .i64 0, .string ⟨#[]⟩, .string ⟨#[]⟩, .string ⟨#[]⟩, .string ⟨#[]⟩, .string ⟨#[]⟩, .int .i64 0, .int .i64 0, .int .i64 0, .bool false, .int .i64 0, .int .i64 0, .int .i64 0] 37)).setRow w3.heap.size #[.int .i64 2, .int .i64 0, .int .i64 0, .int .i64 0, .int .i64 0, .string ⟨#[]⟩, .string ⟨#[]⟩, .int .i64 0, .int .i64 0, .int .i64 0, .int .i64 0, .int .i64 0, .int .i64 0, .int .i64 0, .string ⟨#[]⟩, .int .i64 0, .slice none 0 0, .int .i64 0, .int .i64 0, .string ⟨#[97, 97, 97]⟩, .string ⟨#[107]⟩, .string ⟨#[]⟩, .string ⟨#[]⟩, .string ⟨#[]⟩, .int .i64 0, .int .i64 (f : Int), .int .i64 la, .bool true, .int .i64 0, .int .i64 0, .int .i64 0] ∧ w4.heap[w3.heap.size]? = some (.cells (askd (f : Int) la true) 37 (0, 0)) ∧ Below w3.heap.size w3 w4 := ⟨_, rfl, ShaB.heap_setRow _ (heap_alloc_new _ _), ShaB.below_row ((Below.refl _ _).alloc (Nat.le_refl _) _) (Nat.le_refl _) _⟩
  rw [← hw4]
  have hz4 := hb4.size
  have F0 := (hb4.cell (p := ⟨w.heap.size, 0, none⟩) (by show w.heap.size < _; omega)).trans D0
  have F2 := (hb4.cell (p := ⟨w.heap.size, 2, none⟩) (by show w.heap.size < _; omega)).trans D2
  have F3 := (hb4.cell (p := ⟨w.heap.size, 3, none⟩) (by show w.heap.size < _; omega)).trans D3
  have F4 := (hb4.cell (p := ⟨w.heap.size, 4, none⟩) (by show w.heap.size < _; omega)).trans D4
  have HB4 := Lib.hid (HB3.out.trans (hb4.mono (by omega)))
  have HE4 := Lib.hid (HE3.out.below hb4)
  have HO4 := Lib.hid (HO3.out.below hb4)
  have HQ4 := Lib.hid hq4
  obtain ⟨N4, hN4⟩ : ∃ N, N = w3.heap.size := ⟨_, rfl⟩
  rw [← hN4] at HQ4 ⊢
  have hn4 : N3 < N4 ∧ N4 < w4.heap.size := ⟨by omega, by rw [hN4]; exact (Array.getElem?_eq_some_iff.1 hq4).1⟩
  have q27 : w4.cell? ⟨N4, 27, none⟩ = some (.bool true) := by rw [Lib.cell_of_heap HQ4.out]; rfl
  clear hw4 hb4 hq4 hN4 D0 D2 D3 D4 HB3 HE3 HO3 hz4
  have KB := Lib.hid (RtP.bytes dt w4 (HD.out.below HB4.out) (by omega))
  go_upto_region 8 with (go_at_call 16; refine KB.out.mono ?_; rintro e w5 ⟨⟨g, c5, rfl, ho5⟩, hb5⟩)
  have HB5 := Lib.hid (HB4.out.trans (hb5.mono (by omega)))
  have HO5 := Lib.hid (HO4.out.below hb5)
  have HE5 := Lib.hid (HE4.out.below hb5)
  have HQ5 := Lib.hid ((hb5.block N4 (by omega)).trans HQ4.out)
  have HM5 := Lib.hid (HtX.bs_own ho5).1
  have HK5 := Lib.hid (RtP.bs_left HM5.out)
  have HG5 := Lib.hid (show g < w5.heap.size from (ho5.lt g rfl).2)
  have hz5 := hb5.size
  have G0 := (hb5.cell (p := ⟨w.heap.size, 0, none⟩) (by show w.heap.size < _; omega)).trans F0
  clear ho5 hb5 F0 F2 F3 F4 q27 KB HB4 HE4 HO4 HQ4
  obtain ⟨L, hfL, hLg, hLr, hLn⟩ : ∃ L : Nat, f ≤ L ∧ ((la < 0 ∧ L = dt.length - 1) ∨ (0 ≤ la ∧ la < (dt.length : Int) - 1 ∧ L = la.toNat) ∨ ((dt.length : Int) - 1 ≤ la ∧ L = dt.length - 1)) ∧ ((la < 0 ∧ L = dt.length - 1) ∨ (la = (L : Int) ∧ L < dt.length) ∨ ((dt.length : Int) ≤ la ∧ L = dt.length - 1)) ∧ L < dt.length := ⟨if la < 0 then dt.length - 1 else min la.toNat (dt.length - 1), by split <;> omega, by split <;> omega, by split <;> omega, by split <;> omega⟩
  obtain ⟨fs, hfs⟩ : ∃ fs, fs = ofs [101] T ++ [(nRange, span f L dt.length)] := ⟨_, rfl⟩
  obtain ⟨PT, hPT⟩ : ∃ PT, PT = (dt.drop f).take (L + 1 - f) := ⟨_, rfl⟩
  obtain ⟨st, hst⟩ : ∃ st : Int, st = 206 := ⟨_, rfl⟩
  have HFL := Lib.hid (show fs.length ≤ 9223372036854775807 by rw [hfs]; exact (show (3 : Nat) ≤ 9223372036854775807 by decide))
  have HPL := Lib.hid (show PT.length ≤ 140737488351232 by rw [hPT, List.length_take, List.length_drop]; omega)
  have KG := Lib.hid (show Calls Tryz.prog 24 #[.agg (askd (f : Int) la true), .agg #[.string ⟨#[107]⟩, .int .i64 (dt.length : Int), .string ⟨#[101]⟩, .int .i64 T, .slice none 0 0], .slice (some ⟨g, 0, none⟩) dt.length c5] w5 fun e w' => ∃ af cf ab cb, e = .returned (.agg #[.int .i64 st, .slice af fs.length cf, .slice ab PT.length cb]) ∧ w'.ownsRow w5.heap.size 91 2 (.slice af fs.length cf) fs.length (fcells fs) ∧ w'.ownsRow w5.heap.size 5 1 (.slice ab PT.length cb) PT.length (Lib.byteCells PT) ∧ Below w5.heap.size w5 w' by
    rw [hfs, hPT, hst]
    exact (give_range (.int .i64 2) (.int .i64 0) (.int .i64 0) (.int .i64 0) (.int .i64 0) (.string ⟨#[]⟩) (.string ⟨#[]⟩) (.int .i64 0) (.int .i64 0) (.int .i64 0) (.int .i64 0) (.int .i64 0) (.int .i64 0) (.int .i64 0) (.string ⟨#[]⟩) (.int .i64 0) (.slice none 0 0) (.int .i64 0) (.int .i64 0) (.string ⟨#[97, 97, 97]⟩) (.string ⟨#[107]⟩) (.string ⟨#[]⟩) (.string ⟨#[]⟩) (.string ⟨#[]⟩) (.int .i64 0) (.int .i64 0) (.int .i64 0) (.int .i64 0) ⟨#[107]⟩ [101] dt dt.length T la none (some ⟨g, 0, none⟩) 0 0 c5 w5 HE5.out.tab HK5.out (by omega) (by omega) T1 (by omega) (by omega) f L (by omega) hfL hLg).mono fun _ _ ⟨⟨af, cf, ab, cb, he, h1, h2⟩, h3⟩ => ⟨af, cf, ab, cb, he, h1, h2, h3⟩)
  have KR := Lib.hid (show ∀ W, Bs W ad dt cd → Calls Tryz.prog 26 #[.agg (askd (f : Int) la true), .agg #[.string ⟨#[107]⟩, .int .i64 (dt.length : Int), .string ⟨#[101]⟩, .int .i64 T, .slice none 0 0], .slice ad dt.length cd] W fun e w' => ∃ af cf ab cb, e = .returned (.agg #[.int .i64 st, .slice af fs.length cf, .slice ab PT.length cb]) ∧ w'.ownsRow W.heap.size 91 2 (.slice af fs.length cf) fs.length (fcells fs) ∧ Bs w' ab PT cb ∧ Below W.heap.size W w' by
    rw [hfs, hPT, hst]
    exact fun W hW => (RtM.give_range (.int .i64 2) (.int .i64 0) (.int .i64 0) (.int .i64 0) (.int .i64 0) (.string ⟨#[]⟩) (.string ⟨#[]⟩) (.int .i64 0) (.int .i64 0) (.int .i64 0) (.int .i64 0) (.int .i64 0) (.int .i64 0) (.int .i64 0) (.string ⟨#[]⟩) (.int .i64 0) (.slice none 0 0) (.int .i64 0) (.int .i64 0) (.string ⟨#[97, 97, 97]⟩) (.string ⟨#[107]⟩) (.string ⟨#[]⟩) (.string ⟨#[]⟩) (.string ⟨#[]⟩) (.int .i64 0) (.int .i64 0) (.int .i64 0) (.int .i64 0) ⟨#[107]⟩ [101] dt dt.length T la none ad 0 0 cd W hW (by omega) T0 T1 (by omega) (by omega) f L (by omega) hfL hLr).mono fun _ _ ⟨⟨af, cf, ab, cb, he, h1, h2⟩, h3⟩ => ⟨af, cf, ab, cb, he, h1, h2, h3⟩)
  clear hfs hPT hst
  clear hfL hLg hLr hLn
  obtain ⟨o0, o1, o2, o3, o4⟩ := HO5.out.cells
  have hrg : w5.rangeAt N4 0 (askd (f : Int) la true).toList := fun j v hj => by rw [Lib.cell_of_heap HQ5.out, Nat.zero_add]; simpa using hj
  have HRG := Lib.hid hrg
  clear hrg
  go_upto_region 9 with (first
    | (guard_target =~ wpList _ _ _ ({ dst := _, op := Op.load 37 _, type := _, pos := _, after := _, guard := none } :: _) _ _; refine wpList_load_mid rfl 37 (.tmp 4) rfl N4 0 rfl (askd (f : Int) la true).toList _ HRG.out Tryz.underlying37 rfl (by rw [ask_size]; rfl) ?_)
    | (go_at_call 24; refine KG.out.mono ?_; rintro e w7 ⟨af, cf, ab, cb, rfl, hof, hob, hb7⟩))
  have hb8 := (Below.refl w7.heap.size w7).alloc (Nat.le_refl _) (.cells #[.int .i64 st, .slice af fs.length cf, .slice ab PT.length cb] 56)
  have hR8 : Rb w7.heap.size (w7.alloc (.cells #[.int .i64 st, .slice af fs.length cf, .slice ab PT.length cb] 56)) (.int .i64 st) (.slice af fs.length cf) (.slice ab PT.length cb) := heap_alloc_new _ _
  have hb58 := hb7.trans (hb8.mono hb7.size)
  have HF8 := Lib.hid (Com.own_below hof hb8)
  have HY8 := Lib.hid (Com.own_below hob hb8)
  have HB8 := Lib.hid (HB5.out.trans (hb58.mono (by omega)))
  have HQ8 := Lib.hid ((hb58.block N4 (by omega)).trans HQ5.out)
  have HO8 := Lib.hid (HO5.out.below hb58)
  have HM8 := Lib.hid (HM5.out.below hb58)
  have HR8 := Lib.hid hR8
  have G8 := (hb58.cell (p := ⟨w.heap.size, 0, none⟩) (by show w.heap.size < _; omega)).trans G0
  obtain ⟨N8, hN8⟩ : ∃ N, N = w7.heap.size := ⟨_, rfl⟩
  have hn8 : w5.heap.size ≤ N8 := by rw [hN8]; exact hb7.size
  have hm8 : N8 < (w7.alloc (.cells #[.int .i64 st, .slice af fs.length cf, .slice ab PT.length cb] 56)).heap.size := by rw [World.size_alloc]; omega
  have HYN := Lib.hid (show ∀ k, (Value.slice ab PT.length cb).ownBlock = some k → w5.heap.size ≤ k ∧ k < N8 from fun k hk => by rw [hN8]; exact hob.lt k hk)
  rw [← hN8] at HR8 ⊢
  generalize w7.alloc _ = w8 at *
  clear hb8 hR8 hb58 hof hob hb7 hN8 G0 o0 o1 o2 o3 o4 HB5 HQ5 HO5 HM5 HK5 KG HRG HE5
  obtain ⟨r0, r1, r2, -, -, -⟩ := HR8.out.cells
  obtain ⟨o0, o1, o2, o3, o4⟩ := HO8.out.cells
  have s8 : S8 w N3 N4 N8 (.int .i64 st) (.slice af fs.length cf) (.slice ab PT.length cb) (.string ⟨#[107]⟩) (.int .i64 (dt.length : Int)) (.string ⟨#[101]⟩) (.int .i64 T) (.slice none 0 0) (.slice ad dt.length cd) (f : Int) la true w8.drew := ⟨⟨⟨r0, r1, r2⟩, ⟨o0, o1, o2, o3, o4⟩, G8⟩, ⟨HQ8.out, ask_load _ _ _ _ _ HQ8.out⟩, HB8.out.drew⟩
  have HS8 := Lib.hid s8
  clear s8 r0 r1 r2 o0 o1 o2 o3 o4 G8 HR8 HO8 HQ8
  go_region_held3 (fun W => ((W.cell? ⟨N8, 0, none⟩ = some (.int .i64 st) ∧ W.cell? ⟨N8, 1, none⟩ = some (.slice af fs.length cf) ∧ W.cell? ⟨N8, 2, none⟩ = some (.slice ab PT.length cb)) ∧ (W.cell? ⟨N3, 0, none⟩ = some (.string ⟨#[107]⟩) ∧ W.cell? ⟨N3, 1, none⟩ = some (.int .i64 (dt.length : Int)) ∧ W.cell? ⟨N3, 2, none⟩ = some (.string ⟨#[101]⟩) ∧ W.cell? ⟨N3, 3, none⟩ = some (.int .i64 T) ∧ W.cell? ⟨N3, 4, none⟩ = some (.slice none 0 0)) ∧ W.cell? ⟨w.heap.size, 0, none⟩ = some (.slice ad dt.length cd)) ∧ (W.heap[N4]? = some (.cells (askd (f : Int) la true) 37 (0, 0)) ∧ (loadAsk (.pointer (some ⟨N4, 0, none⟩))).run Tryz.prog W = .ok (.agg #[.int .i64 2, .int .i64 0, .int .i64 0, .int .i64 0, .int .i64 0, .string ⟨#[]⟩, .string ⟨#[]⟩, .int .i64 0, .int .i64 0, .int .i64 0, .int .i64 0, .int .i64 0, .int .i64 0, .int .i64 0, .string ⟨#[]⟩, .int .i64 0, .slice none 0 0, .int .i64 0, .int .i64 0, .string ⟨#[97, 97, 97]⟩, .string ⟨#[107]⟩, .string ⟨#[]⟩, .string ⟨#[]⟩, .string ⟨#[]⟩, .int .i64 0, .int .i64 (f : Int), .int .i64 la, .bool true, .int .i64 0, .int .i64 0, .int .i64 0]) W) ∧ Below w.heap.size w W)
    (first | exact HS8.out | assumption)
    (first
      | (go_at_call 26; refine (KR.out _ (HD.out.below HS8.out.2.2)).mono ?_; rintro e w9 ⟨a9, c9, b9, d9, rfl, ho9, hB9, hb9⟩; have hb9' : Below w8.heap.size w8 w9 := ((Below.refl w8.heap.size w8).drew).trans hb9; have hS9 := S8.blocks HS8.out (fun k hk => hb9.block k (by show k < w8.heap.size; omega)) (HS8.out.2.2.trans (hb9.mono (HS8.out.2.2.size))))
      | (go_at_call 25; refine (RtP.sameRes st fs PT cf cb c9 d9 w9 ((fs_own HF8.out).below hb9') ((HtX.bs_own HY8.out).1.below hb9') (fs_own ho9) hB9 HFL.out).mono ?_; rintro e w10 ⟨rfl, hb10⟩; have hb10' : Below w8.heap.size w8 w10 := hb9'.trans (hb10.mono hb9'.size); have hS10 := S8.blocks hS9 (fun k hk => hb10.block k (by have := hb9'.size; omega)) (hS9.2.2.trans (hb10.mono (hS9.2.2.size))))
      | (go_at_call 27; refine (NumA.apart dt PT w5.heap.size w10 ((RtP.bs_left HM8.out).below hb10') (Com.own_below HY8.out hb10') (fun p q hp hq => by cases hp; have := (HYN.out q.block (by rw [hq]; rfl)).1; have := HG5.out; show g ≠ q.block; omega) HPL.out (by have := hb10'.size; omega)).mono ?_; rintro e w11 ⟨rfl, hb11, hg11, hk11⟩; have hS11 := S8.blocks hS10 (fun k hk => hg11.block k (by have := hb10'.size; omega) (fun h => by have := HYN.out k h.symm; omega)) (hS10.2.2.trans (hb11.mono (by omega))); have hM11 := NumA.bs_grown (HM8.out.below hb10') hg11 (fun p hp h => by cases hp; have := (HYN.out g h.symm).1; have := HG5.out; omega))
      | (go_at_call 28; refine (RtP.kept dt g c5 w11 hM11 (HD.out.below hS11.2.2) (by omega)).mono ?_; rintro e w12 ⟨rfl, hb12⟩; have hS12 := S8.blocks hS11 (fun k hk => hb12.block k (by have := hb10'.size; have := hg11.size; omega)) (hS11.2.2.trans (hb12.mono (hS11.2.2.size)))))
  all_goals
    go_wp2_with fail
    go_ret
    exact ⟨rfl, hS12.2.2⟩

set_option maxHeartbeats 4000000 in
set_option maxRecDepth 100000 in
theorem gives_rangeB (dt : List UInt8) (tmc la : Int) (f : Nat) (ad : Option Addr) (cd : Nat) (w : World) {aU : Addr} {es : List Addr} (hE : Env w aU es) (hd : Bs w ad dt cd) (hl : dt.length ≤ 1048576) (_t0 : -9223372036854775808 ≤ tmc) (_t1 : tmc ≤ 9223372036854775807) (_f0 : -9223372036854775808 ≤ (f : Int)) (_f1 : (f : Int) ≤ 9223372036854775807) (_l0 : -9223372036854775808 ≤ la) (_l1 : la ≤ 9223372036854775807) (_p1 : ¬ (f : Int) < 0) (_p2 : ¬ (dt.length : Int) ≤ (f : Int)) (_p3 : ¬ la < -1) (_p4 : 0 ≤ la) (_p5 : ¬ la < (f : Int)) :
    Calls Tryz.prog 4 #[.agg #[.slice ad dt.length cd, .int .i64 tmc, .bool false, .int .i64 (f : Int), .int .i64 la]] w fun e w' => e = .returned (.bool true) ∧ Below w.heap.size w w' := by
  obtain ⟨w1, hw1, hb1, hc1, hz1⟩ : ∃ w1, w1 = w.alloc (.cells #[.slice ad dt.length cd, .int .i64 tmc, .bool false, .int .i64 (f : Int), .int .i64 la] 51) ∧ Below w.heap.size w w1 ∧ w1.heap[w.heap.size]? = some (.cells #[.slice ad dt.length cd, .int .i64 tmc, .bool false, .int .i64 (f : Int), .int .i64 la] 51 (0, 0)) ∧ w1.heap.size = w.heap.size + 1 := ⟨_, rfl, (Below.refl _ _).alloc (Nat.le_refl _) _, heap_alloc_new _ _, World.size_alloc _ _⟩
  have HE1 := Lib.hid (hE.below hb1)
  have HD := Lib.hid hd
  clear hE hd
  have c0 : w1.cell? ⟨w.heap.size, 0, none⟩ = some (.slice ad dt.length cd) := by rw [Lib.cell_of_heap hc1]; rfl
  have c1 : w1.cell? ⟨w.heap.size, 1, none⟩ = some (.int .i64 tmc) := by rw [Lib.cell_of_heap hc1]; rfl
  have c2 : w1.cell? ⟨w.heap.size, 2, none⟩ = some (.bool false) := by rw [Lib.cell_of_heap hc1]; rfl
  have c3 : w1.cell? ⟨w.heap.size, 3, none⟩ = some (.int .i64 (f : Int)) := by rw [Lib.cell_of_heap hc1]; rfl
  have c4 : w1.cell? ⟨w.heap.size, 4, none⟩ = some (.int .i64 la) := by rw [Lib.cell_of_heap hc1]; rfl
  have KA := Lib.hid (alive w1 HE1.out)
  obtain ⟨T, hT, T0, T1⟩ : ∃ T, max tmc 0 = T ∧ 0 ≤ T ∧ T ≤ 9223372036854775807 := ⟨_, rfl, by omega, by omega⟩
  have hl9 : dt.length ≤ 9223372036854775807 := by omega
  have HB1 := Lib.hid hb1
  clear hc1 hb1
  go_enter Tryz.func4, Tryz.ntmps4
  go_upto_region 1 with fail
  rw [← hw1]
  clear hw1
  go_upto_region 3 with fail
  refine KA.out.mono ?_
  rintro e w2 ⟨rfl, hb2⟩
  have hz2 := hb2.size
  have C0 := (hb2.cell (p := ⟨w.heap.size, 0, none⟩) (World.block_lt_of_cell? _ _ c0)).trans c0
  have C1 := (hb2.cell (p := ⟨w.heap.size, 1, none⟩) (World.block_lt_of_cell? _ _ c1)).trans c1
  have C2 := (hb2.cell (p := ⟨w.heap.size, 2, none⟩) (World.block_lt_of_cell? _ _ c2)).trans c2
  have C3 := (hb2.cell (p := ⟨w.heap.size, 3, none⟩) (World.block_lt_of_cell? _ _ c3)).trans c3
  have C4 := (hb2.cell (p := ⟨w.heap.size, 4, none⟩) (World.block_lt_of_cell? _ _ c4)).trans c4
  have HB2 := Lib.hid (HB1.out.trans (hb2.mono (by omega)))
  have HE2 := Lib.hid (HE1.out.below hb2)
  clear c0 c1 c2 c3 c4 KA HE1 HB1 hb2
  go_upto_region 4 with fail
  obtain ⟨w3, hw3, hb3, hO3⟩ : ∃ w3, w3 = w2.alloc (.cells #[.string ⟨#[107]⟩, .int .i64 (dt.length : Int), .string ⟨#[101]⟩, .int .i64 T, .slice none 0 0] 54) ∧ Below w2.heap.size w2 w3 ∧ Ob w2.heap.size w3 (.string ⟨#[107]⟩) (.int .i64 (dt.length : Int)) (.string ⟨#[101]⟩) (.int .i64 T) (.slice none 0 0) := ⟨_, rfl, (Below.refl _ _).alloc (Nat.le_refl _) _, heap_alloc_new _ _⟩
  rw [← hw3]
  have hz3 := hb3.size
  have D0 := (hb3.cell (p := ⟨w.heap.size, 0, none⟩) (by show w.heap.size < _; omega)).trans C0
  have D2 := (hb3.cell (p := ⟨w.heap.size, 2, none⟩) (by show w.heap.size < _; omega)).trans C2
  have D3 := (hb3.cell (p := ⟨w.heap.size, 3, none⟩) (by show w.heap.size < _; omega)).trans C3
  have D4 := (hb3.cell (p := ⟨w.heap.size, 4, none⟩) (by show w.heap.size < _; omega)).trans C4
  have HB3 := Lib.hid (HB2.out.trans (hb3.mono (by omega)))
  have HE3 := Lib.hid (HE2.out.below hb3)
  have HO3 := Lib.hid hO3
  obtain ⟨N3, hN3⟩ : ∃ N, N = w2.heap.size := ⟨_, rfl⟩
  rw [← hN3] at HO3 ⊢
  have hn3 : w.heap.size < N3 ∧ N3 < w3.heap.size := ⟨by omega, by rw [hN3]; exact (Array.getElem?_eq_some_iff.1 hO3).1⟩
  clear hw3 hb3 hO3 hN3 C0 C1 C2 C3 C4 HB2 HE2 hT hz2 hz3 hz1
  go_upto_region 5 with (guard_target =~ wpList _ _ _ ({ dst := _, op := Op.store 37 _ _, type := _, pos := _, after := _, guard := none } :: _) _ _; refine wpList_store_row rfl 37 (.tmp 4) (.tmp 23) rfl w3.heap.size #[.int .i64 2, .int .i64 0, .int .i64 0, .int .i64 0, .int .i64 0, .string ⟨#[]⟩, .string ⟨#[]⟩, .int .i64 0, .int .i64 0, .int .i64 0, .int .i64 0, .int .i64 0, .int .i64 0, .int .i64 0, .string ⟨#[]⟩, .int .i64 0, .slice none 0 0, .int .i64 0, .int .i64 0, .string ⟨#[97, 97, 97]⟩, .string ⟨#[107]⟩, .string ⟨#[]⟩, .string ⟨#[]⟩, .string ⟨#[]⟩, .int .i64 0, .int .i64 (f : Int), .int .i64 la, .bool true, .int .i64 0, .int .i64 0, .int .i64 0] rfl rfl _ _ (heap_alloc_new _ _) (show _ = some (askd (f : Int) la true).size from ask_size) rfl (ask_one (f : Int) la true) ?_)
  obtain ⟨w4, hw4, hq4, hb4⟩ : ∃ w4, w4 = (w3.alloc (.cells #[.int .i64 0, .int .i64 0, .int .i64 0, .int .i64 0, .int .i64 0, .string ⟨#[]⟩, .string ⟨#[]⟩, .int .i64 0, .int .i64 0, .int .i64 0, .int .i64 0, .int .i64 0, .int .i64 0, .int .i64 0, .string ⟨#[]⟩, .int .i64 0, .slice none 0 0, .int .i64 0, .int .i64 0, .string ⟨#[]⟩, .string ⟨#[]⟩, .string ⟨#[]⟩, .string ⟨#[]⟩, .string ⟨#[]⟩, .int .i64 0, .int .i64 0, .int .i64 0, .bool false, .int .i64 0, .int .i64 0, .int .i64 0] 37)).setRow w3.heap.size #[.int .i64 2, .int .i64 0, .int .i64 0, .int .i64 0, .int .i64 0, .string ⟨#[]⟩, .string ⟨#[]⟩, .int .i64 0, .int .i64 0, .int .i64 0, .int .i64 0, .int .i64 0, .int .i64 0, .int .i64 0, .string ⟨#[]⟩, .int .i64 0, .slice none 0 0, .int .i64 0, .int .i64 0, .string ⟨#[97, 97, 97]⟩, .string ⟨#[107]⟩, .string ⟨#[]⟩, .string ⟨#[]⟩, .string ⟨#[]⟩, .int .i64 0, .int .i64 (f : Int), .int .i64 la, .bool true, .int .i64 0, .int .i64 0, .int .i64 0] ∧ w4.heap[w3.heap.size]? = some (.cells (askd (f : Int) la true) 37 (0, 0)) ∧ Below w3.heap.size w3 w4 := ⟨_, rfl, ShaB.heap_setRow _ (heap_alloc_new _ _), ShaB.below_row ((Below.refl _ _).alloc (Nat.le_refl _) _) (Nat.le_refl _) _⟩
  rw [← hw4]
  have hz4 := hb4.size
  have F0 := (hb4.cell (p := ⟨w.heap.size, 0, none⟩) (by show w.heap.size < _; omega)).trans D0
  have F2 := (hb4.cell (p := ⟨w.heap.size, 2, none⟩) (by show w.heap.size < _; omega)).trans D2
  have F3 := (hb4.cell (p := ⟨w.heap.size, 3, none⟩) (by show w.heap.size < _; omega)).trans D3
  have F4 := (hb4.cell (p := ⟨w.heap.size, 4, none⟩) (by show w.heap.size < _; omega)).trans D4
  have HB4 := Lib.hid (HB3.out.trans (hb4.mono (by omega)))
  have HE4 := Lib.hid (HE3.out.below hb4)
  have HO4 := Lib.hid (HO3.out.below hb4)
  have HQ4 := Lib.hid hq4
  obtain ⟨N4, hN4⟩ : ∃ N, N = w3.heap.size := ⟨_, rfl⟩
  rw [← hN4] at HQ4 ⊢
  have hn4 : N3 < N4 ∧ N4 < w4.heap.size := ⟨by omega, by rw [hN4]; exact (Array.getElem?_eq_some_iff.1 hq4).1⟩
  have q27 : w4.cell? ⟨N4, 27, none⟩ = some (.bool true) := by rw [Lib.cell_of_heap HQ4.out]; rfl
  clear hw4 hb4 hq4 hN4 D0 D2 D3 D4 HB3 HE3 HO3 hz4
  have KB := Lib.hid (RtP.bytes dt w4 (HD.out.below HB4.out) (by omega))
  go_upto_region 8 with (go_at_call 16; refine KB.out.mono ?_; rintro e w5 ⟨⟨g, c5, rfl, ho5⟩, hb5⟩)
  have HB5 := Lib.hid (HB4.out.trans (hb5.mono (by omega)))
  have HO5 := Lib.hid (HO4.out.below hb5)
  have HE5 := Lib.hid (HE4.out.below hb5)
  have HQ5 := Lib.hid ((hb5.block N4 (by omega)).trans HQ4.out)
  have HM5 := Lib.hid (HtX.bs_own ho5).1
  have HK5 := Lib.hid (RtP.bs_left HM5.out)
  have HG5 := Lib.hid (show g < w5.heap.size from (ho5.lt g rfl).2)
  have hz5 := hb5.size
  have G0 := (hb5.cell (p := ⟨w.heap.size, 0, none⟩) (by show w.heap.size < _; omega)).trans F0
  clear ho5 hb5 F0 F2 F3 F4 q27 KB HB4 HE4 HO4 HQ4
  obtain ⟨L, hfL, hLg, hLr, hLn⟩ : ∃ L : Nat, f ≤ L ∧ ((la < 0 ∧ L = dt.length - 1) ∨ (0 ≤ la ∧ la < (dt.length : Int) - 1 ∧ L = la.toNat) ∨ ((dt.length : Int) - 1 ≤ la ∧ L = dt.length - 1)) ∧ ((la < 0 ∧ L = dt.length - 1) ∨ (la = (L : Int) ∧ L < dt.length) ∨ ((dt.length : Int) ≤ la ∧ L = dt.length - 1)) ∧ L < dt.length := ⟨if la < 0 then dt.length - 1 else min la.toNat (dt.length - 1), by split <;> omega, by split <;> omega, by split <;> omega, by split <;> omega⟩
  obtain ⟨fs, hfs⟩ : ∃ fs, fs = ofs [101] T ++ [(nRange, span f L dt.length)] := ⟨_, rfl⟩
  obtain ⟨PT, hPT⟩ : ∃ PT, PT = (dt.drop f).take (L + 1 - f) := ⟨_, rfl⟩
  obtain ⟨st, hst⟩ : ∃ st : Int, st = 206 := ⟨_, rfl⟩
  have HFL := Lib.hid (show fs.length ≤ 9223372036854775807 by rw [hfs]; exact (show (3 : Nat) ≤ 9223372036854775807 by decide))
  have HPL := Lib.hid (show PT.length ≤ 140737488351232 by rw [hPT, List.length_take, List.length_drop]; omega)
  have KG := Lib.hid (show Calls Tryz.prog 24 #[.agg (askd (f : Int) la true), .agg #[.string ⟨#[107]⟩, .int .i64 (dt.length : Int), .string ⟨#[101]⟩, .int .i64 T, .slice none 0 0], .slice (some ⟨g, 0, none⟩) dt.length c5] w5 fun e w' => ∃ af cf ab cb, e = .returned (.agg #[.int .i64 st, .slice af fs.length cf, .slice ab PT.length cb]) ∧ w'.ownsRow w5.heap.size 91 2 (.slice af fs.length cf) fs.length (fcells fs) ∧ w'.ownsRow w5.heap.size 5 1 (.slice ab PT.length cb) PT.length (Lib.byteCells PT) ∧ Below w5.heap.size w5 w' by
    rw [hfs, hPT, hst]
    exact (give_range (.int .i64 2) (.int .i64 0) (.int .i64 0) (.int .i64 0) (.int .i64 0) (.string ⟨#[]⟩) (.string ⟨#[]⟩) (.int .i64 0) (.int .i64 0) (.int .i64 0) (.int .i64 0) (.int .i64 0) (.int .i64 0) (.int .i64 0) (.string ⟨#[]⟩) (.int .i64 0) (.slice none 0 0) (.int .i64 0) (.int .i64 0) (.string ⟨#[97, 97, 97]⟩) (.string ⟨#[107]⟩) (.string ⟨#[]⟩) (.string ⟨#[]⟩) (.string ⟨#[]⟩) (.int .i64 0) (.int .i64 0) (.int .i64 0) (.int .i64 0) ⟨#[107]⟩ [101] dt dt.length T la none (some ⟨g, 0, none⟩) 0 0 c5 w5 HE5.out.tab HK5.out (by omega) (by omega) T1 (by omega) (by omega) f L (by omega) hfL hLg).mono fun _ _ ⟨⟨af, cf, ab, cb, he, h1, h2⟩, h3⟩ => ⟨af, cf, ab, cb, he, h1, h2, h3⟩)
  have KR := Lib.hid (show ∀ W, Bs W ad dt cd → Calls Tryz.prog 26 #[.agg (askd (f : Int) la true), .agg #[.string ⟨#[107]⟩, .int .i64 (dt.length : Int), .string ⟨#[101]⟩, .int .i64 T, .slice none 0 0], .slice ad dt.length cd] W fun e w' => ∃ af cf ab cb, e = .returned (.agg #[.int .i64 st, .slice af fs.length cf, .slice ab PT.length cb]) ∧ w'.ownsRow W.heap.size 91 2 (.slice af fs.length cf) fs.length (fcells fs) ∧ Bs w' ab PT cb ∧ Below W.heap.size W w' by
    rw [hfs, hPT, hst]
    exact fun W hW => (RtM.give_range (.int .i64 2) (.int .i64 0) (.int .i64 0) (.int .i64 0) (.int .i64 0) (.string ⟨#[]⟩) (.string ⟨#[]⟩) (.int .i64 0) (.int .i64 0) (.int .i64 0) (.int .i64 0) (.int .i64 0) (.int .i64 0) (.int .i64 0) (.string ⟨#[]⟩) (.int .i64 0) (.slice none 0 0) (.int .i64 0) (.int .i64 0) (.string ⟨#[97, 97, 97]⟩) (.string ⟨#[107]⟩) (.string ⟨#[]⟩) (.string ⟨#[]⟩) (.string ⟨#[]⟩) (.int .i64 0) (.int .i64 0) (.int .i64 0) (.int .i64 0) ⟨#[107]⟩ [101] dt dt.length T la none ad 0 0 cd W hW (by omega) T0 T1 (by omega) (by omega) f L (by omega) hfL hLr).mono fun _ _ ⟨⟨af, cf, ab, cb, he, h1, h2⟩, h3⟩ => ⟨af, cf, ab, cb, he, h1, h2, h3⟩)
  clear hfs hPT hst
  clear hfL hLg hLr hLn
  obtain ⟨o0, o1, o2, o3, o4⟩ := HO5.out.cells
  have hrg : w5.rangeAt N4 0 (askd (f : Int) la true).toList := fun j v hj => by rw [Lib.cell_of_heap HQ5.out, Nat.zero_add]; simpa using hj
  have HRG := Lib.hid hrg
  clear hrg
  go_upto_region 9 with (first
    | (guard_target =~ wpList _ _ _ ({ dst := _, op := Op.load 37 _, type := _, pos := _, after := _, guard := none } :: _) _ _; refine wpList_load_mid rfl 37 (.tmp 4) rfl N4 0 rfl (askd (f : Int) la true).toList _ HRG.out Tryz.underlying37 rfl (by rw [ask_size]; rfl) ?_)
    | (go_at_call 24; refine KG.out.mono ?_; rintro e w7 ⟨af, cf, ab, cb, rfl, hof, hob, hb7⟩))
  have hb8 := (Below.refl w7.heap.size w7).alloc (Nat.le_refl _) (.cells #[.int .i64 st, .slice af fs.length cf, .slice ab PT.length cb] 56)
  have hR8 : Rb w7.heap.size (w7.alloc (.cells #[.int .i64 st, .slice af fs.length cf, .slice ab PT.length cb] 56)) (.int .i64 st) (.slice af fs.length cf) (.slice ab PT.length cb) := heap_alloc_new _ _
  have hb58 := hb7.trans (hb8.mono hb7.size)
  have HF8 := Lib.hid (Com.own_below hof hb8)
  have HY8 := Lib.hid (Com.own_below hob hb8)
  have HB8 := Lib.hid (HB5.out.trans (hb58.mono (by omega)))
  have HQ8 := Lib.hid ((hb58.block N4 (by omega)).trans HQ5.out)
  have HO8 := Lib.hid (HO5.out.below hb58)
  have HM8 := Lib.hid (HM5.out.below hb58)
  have HR8 := Lib.hid hR8
  have G8 := (hb58.cell (p := ⟨w.heap.size, 0, none⟩) (by show w.heap.size < _; omega)).trans G0
  obtain ⟨N8, hN8⟩ : ∃ N, N = w7.heap.size := ⟨_, rfl⟩
  have hn8 : w5.heap.size ≤ N8 := by rw [hN8]; exact hb7.size
  have hm8 : N8 < (w7.alloc (.cells #[.int .i64 st, .slice af fs.length cf, .slice ab PT.length cb] 56)).heap.size := by rw [World.size_alloc]; omega
  have HYN := Lib.hid (show ∀ k, (Value.slice ab PT.length cb).ownBlock = some k → w5.heap.size ≤ k ∧ k < N8 from fun k hk => by rw [hN8]; exact hob.lt k hk)
  rw [← hN8] at HR8 ⊢
  generalize w7.alloc _ = w8 at *
  clear hb8 hR8 hb58 hof hob hb7 hN8 G0 o0 o1 o2 o3 o4 HB5 HQ5 HO5 HM5 HK5 KG HRG HE5
  obtain ⟨r0, r1, r2, -, -, -⟩ := HR8.out.cells
  obtain ⟨o0, o1, o2, o3, o4⟩ := HO8.out.cells
  have s8 : S8 w N3 N4 N8 (.int .i64 st) (.slice af fs.length cf) (.slice ab PT.length cb) (.string ⟨#[107]⟩) (.int .i64 (dt.length : Int)) (.string ⟨#[101]⟩) (.int .i64 T) (.slice none 0 0) (.slice ad dt.length cd) (f : Int) la true w8.drew := ⟨⟨⟨r0, r1, r2⟩, ⟨o0, o1, o2, o3, o4⟩, G8⟩, ⟨HQ8.out, ask_load _ _ _ _ _ HQ8.out⟩, HB8.out.drew⟩
  have HS8 := Lib.hid s8
  clear s8 r0 r1 r2 o0 o1 o2 o3 o4 G8 HR8 HO8 HQ8
  go_region_held3 (fun W => ((W.cell? ⟨N8, 0, none⟩ = some (.int .i64 st) ∧ W.cell? ⟨N8, 1, none⟩ = some (.slice af fs.length cf) ∧ W.cell? ⟨N8, 2, none⟩ = some (.slice ab PT.length cb)) ∧ (W.cell? ⟨N3, 0, none⟩ = some (.string ⟨#[107]⟩) ∧ W.cell? ⟨N3, 1, none⟩ = some (.int .i64 (dt.length : Int)) ∧ W.cell? ⟨N3, 2, none⟩ = some (.string ⟨#[101]⟩) ∧ W.cell? ⟨N3, 3, none⟩ = some (.int .i64 T) ∧ W.cell? ⟨N3, 4, none⟩ = some (.slice none 0 0)) ∧ W.cell? ⟨w.heap.size, 0, none⟩ = some (.slice ad dt.length cd)) ∧ (W.heap[N4]? = some (.cells (askd (f : Int) la true) 37 (0, 0)) ∧ (loadAsk (.pointer (some ⟨N4, 0, none⟩))).run Tryz.prog W = .ok (.agg #[.int .i64 2, .int .i64 0, .int .i64 0, .int .i64 0, .int .i64 0, .string ⟨#[]⟩, .string ⟨#[]⟩, .int .i64 0, .int .i64 0, .int .i64 0, .int .i64 0, .int .i64 0, .int .i64 0, .int .i64 0, .string ⟨#[]⟩, .int .i64 0, .slice none 0 0, .int .i64 0, .int .i64 0, .string ⟨#[97, 97, 97]⟩, .string ⟨#[107]⟩, .string ⟨#[]⟩, .string ⟨#[]⟩, .string ⟨#[]⟩, .int .i64 0, .int .i64 (f : Int), .int .i64 la, .bool true, .int .i64 0, .int .i64 0, .int .i64 0]) W) ∧ Below w.heap.size w W)
    (first | exact HS8.out | assumption)
    (first
      | (go_at_call 26; refine (KR.out _ (HD.out.below HS8.out.2.2)).mono ?_; rintro e w9 ⟨a9, c9, b9, d9, rfl, ho9, hB9, hb9⟩; have hb9' : Below w8.heap.size w8 w9 := ((Below.refl w8.heap.size w8).drew).trans hb9; have hS9 := S8.blocks HS8.out (fun k hk => hb9.block k (by show k < w8.heap.size; omega)) (HS8.out.2.2.trans (hb9.mono (HS8.out.2.2.size))))
      | (go_at_call 25; refine (RtP.sameRes st fs PT cf cb c9 d9 w9 ((fs_own HF8.out).below hb9') ((HtX.bs_own HY8.out).1.below hb9') (fs_own ho9) hB9 HFL.out).mono ?_; rintro e w10 ⟨rfl, hb10⟩; have hb10' : Below w8.heap.size w8 w10 := hb9'.trans (hb10.mono hb9'.size); have hS10 := S8.blocks hS9 (fun k hk => hb10.block k (by have := hb9'.size; omega)) (hS9.2.2.trans (hb10.mono (hS9.2.2.size))))
      | (go_at_call 27; refine (NumA.apart dt PT w5.heap.size w10 ((RtP.bs_left HM8.out).below hb10') (Com.own_below HY8.out hb10') (fun p q hp hq => by cases hp; have := (HYN.out q.block (by rw [hq]; rfl)).1; have := HG5.out; show g ≠ q.block; omega) HPL.out (by have := hb10'.size; omega)).mono ?_; rintro e w11 ⟨rfl, hb11, hg11, hk11⟩; have hS11 := S8.blocks hS10 (fun k hk => hg11.block k (by have := hb10'.size; omega) (fun h => by have := HYN.out k h.symm; omega)) (hS10.2.2.trans (hb11.mono (by omega))); have hM11 := NumA.bs_grown (HM8.out.below hb10') hg11 (fun p hp h => by cases hp; have := (HYN.out g h.symm).1; have := HG5.out; omega))
      | (go_at_call 28; refine (RtP.kept dt g c5 w11 hM11 (HD.out.below hS11.2.2) (by omega)).mono ?_; rintro e w12 ⟨rfl, hb12⟩; have hS12 := S8.blocks hS11 (fun k hk => hb12.block k (by have := hb10'.size; have := hg11.size; omega)) (hS11.2.2.trans (hb12.mono (hS11.2.2.size)))))
  all_goals
    go_wp2_with fail
    go_ret
    exact ⟨rfl, hS12.2.2⟩

set_option maxHeartbeats 4000000 in
set_option maxRecDepth 100000 in
theorem gives_bad1 (dt : List UInt8) (tmc fi la : Int) (ad : Option Addr) (cd : Nat) (w : World) {aU : Addr} {es : List Addr} (hE : Env w aU es) (hd : Bs w ad dt cd) (hl : dt.length ≤ 1048576) (_t0 : -9223372036854775808 ≤ tmc) (_t1 : tmc ≤ 9223372036854775807) (_f0 : -9223372036854775808 ≤ fi) (_f1 : fi ≤ 9223372036854775807) (_l0 : -9223372036854775808 ≤ la) (_l1 : la ≤ 9223372036854775807) (_p1 : fi < 0) :
    Calls Tryz.prog 4 #[.agg #[.slice ad dt.length cd, .int .i64 tmc, .bool false, .int .i64 fi, .int .i64 la]] w fun e w' => e = .returned (.bool true) ∧ Below w.heap.size w w' := by
  obtain ⟨w1, hw1, hb1, hc1, hz1⟩ : ∃ w1, w1 = w.alloc (.cells #[.slice ad dt.length cd, .int .i64 tmc, .bool false, .int .i64 fi, .int .i64 la] 51) ∧ Below w.heap.size w w1 ∧ w1.heap[w.heap.size]? = some (.cells #[.slice ad dt.length cd, .int .i64 tmc, .bool false, .int .i64 fi, .int .i64 la] 51 (0, 0)) ∧ w1.heap.size = w.heap.size + 1 := ⟨_, rfl, (Below.refl _ _).alloc (Nat.le_refl _) _, heap_alloc_new _ _, World.size_alloc _ _⟩
  have HE1 := Lib.hid (hE.below hb1)
  have HD := Lib.hid hd
  clear hE hd
  have c0 : w1.cell? ⟨w.heap.size, 0, none⟩ = some (.slice ad dt.length cd) := by rw [Lib.cell_of_heap hc1]; rfl
  have c1 : w1.cell? ⟨w.heap.size, 1, none⟩ = some (.int .i64 tmc) := by rw [Lib.cell_of_heap hc1]; rfl
  have c2 : w1.cell? ⟨w.heap.size, 2, none⟩ = some (.bool false) := by rw [Lib.cell_of_heap hc1]; rfl
  have c3 : w1.cell? ⟨w.heap.size, 3, none⟩ = some (.int .i64 fi) := by rw [Lib.cell_of_heap hc1]; rfl
  have c4 : w1.cell? ⟨w.heap.size, 4, none⟩ = some (.int .i64 la) := by rw [Lib.cell_of_heap hc1]; rfl
  have KA := Lib.hid (alive w1 HE1.out)
  obtain ⟨T, hT, T0, T1⟩ : ∃ T, max tmc 0 = T ∧ 0 ≤ T ∧ T ≤ 9223372036854775807 := ⟨_, rfl, by omega, by omega⟩
  have hl9 : dt.length ≤ 9223372036854775807 := by omega
  have HB1 := Lib.hid hb1
  clear hc1 hb1
  go_enter Tryz.func4, Tryz.ntmps4
  go_upto_region 1 with fail
  rw [← hw1]
  clear hw1
  go_upto_region 3 with fail
  refine KA.out.mono ?_
  rintro e w2 ⟨rfl, hb2⟩
  have hz2 := hb2.size
  have C0 := (hb2.cell (p := ⟨w.heap.size, 0, none⟩) (World.block_lt_of_cell? _ _ c0)).trans c0
  have C1 := (hb2.cell (p := ⟨w.heap.size, 1, none⟩) (World.block_lt_of_cell? _ _ c1)).trans c1
  have C2 := (hb2.cell (p := ⟨w.heap.size, 2, none⟩) (World.block_lt_of_cell? _ _ c2)).trans c2
  have C3 := (hb2.cell (p := ⟨w.heap.size, 3, none⟩) (World.block_lt_of_cell? _ _ c3)).trans c3
  have C4 := (hb2.cell (p := ⟨w.heap.size, 4, none⟩) (World.block_lt_of_cell? _ _ c4)).trans c4
  have HB2 := Lib.hid (HB1.out.trans (hb2.mono (by omega)))
  have HE2 := Lib.hid (HE1.out.below hb2)
  clear c0 c1 c2 c3 c4 KA HE1 HB1 hb2
  go_upto_region 4 with fail
  obtain ⟨w3, hw3, hb3, hO3⟩ : ∃ w3, w3 = w2.alloc (.cells #[.string ⟨#[107]⟩, .int .i64 (dt.length : Int), .string ⟨#[101]⟩, .int .i64 T, .slice none 0 0] 54) ∧ Below w2.heap.size w2 w3 ∧ Ob w2.heap.size w3 (.string ⟨#[107]⟩) (.int .i64 (dt.length : Int)) (.string ⟨#[101]⟩) (.int .i64 T) (.slice none 0 0) := ⟨_, rfl, (Below.refl _ _).alloc (Nat.le_refl _) _, heap_alloc_new _ _⟩
  rw [← hw3]
  have hz3 := hb3.size
  have D0 := (hb3.cell (p := ⟨w.heap.size, 0, none⟩) (by show w.heap.size < _; omega)).trans C0
  have D2 := (hb3.cell (p := ⟨w.heap.size, 2, none⟩) (by show w.heap.size < _; omega)).trans C2
  have D3 := (hb3.cell (p := ⟨w.heap.size, 3, none⟩) (by show w.heap.size < _; omega)).trans C3
  have D4 := (hb3.cell (p := ⟨w.heap.size, 4, none⟩) (by show w.heap.size < _; omega)).trans C4
  have HB3 := Lib.hid (HB2.out.trans (hb3.mono (by omega)))
  have HE3 := Lib.hid (HE2.out.below hb3)
  have HO3 := Lib.hid hO3
  obtain ⟨N3, hN3⟩ : ∃ N, N = w2.heap.size := ⟨_, rfl⟩
  rw [← hN3] at HO3 ⊢
  have hn3 : w.heap.size < N3 ∧ N3 < w3.heap.size := ⟨by omega, by rw [hN3]; exact (Array.getElem?_eq_some_iff.1 hO3).1⟩
  clear hw3 hb3 hO3 hN3 C0 C1 C2 C3 C4 HB2 HE2 hT hz2 hz3 hz1
  go_upto_region 5 with (guard_target =~ wpList _ _ _ ({ dst := _, op := Op.store 37 _ _, type := _, pos := _, after := _, guard := none } :: _) _ _; refine wpList_store_row rfl 37 (.tmp 4) (.tmp 23) rfl w3.heap.size #[.int .i64 2, .int .i64 0, .int .i64 0, .int .i64 0, .int .i64 0, .string ⟨#[]⟩, .string ⟨#[]⟩, .int .i64 0, .int .i64 0, .int .i64 0, .int .i64 0, .int .i64 0, .int .i64 0, .int .i64 0, .string ⟨#[]⟩, .int .i64 0, .slice none 0 0, .int .i64 0, .int .i64 0, .string ⟨#[97, 97, 97]⟩, .string ⟨#[107]⟩, .string ⟨#[]⟩, .string ⟨#[]⟩, .string ⟨#[]⟩, .int .i64 0, .int .i64 fi, .int .i64 la, .bool true, .int .i64 0, .int .i64 0, .int .i64 0] rfl rfl _ _ (heap_alloc_new _ _) (show _ = some (askd fi la true).size from ask_size) rfl (ask_one fi la true) ?_)
  obtain ⟨w4, hw4, hq4, hb4⟩ : ∃ w4, w4 = (w3.alloc (.cells #[.int .i64 0, .int .i64 0, .int .i64 0, .int .i64 0, .int .i64 0, .string ⟨#[]⟩, .string ⟨#[]⟩, .int .i64 0, .int .i64 0, .int .i64 0, .int .i64 0, .int .i64 0, .int .i64 0, .int .i64 0, .string ⟨#[]⟩, .int .i64 0, .slice none 0 0, .int .i64 0, .int .i64 0, .string ⟨#[]⟩, .string ⟨#[]⟩, .string ⟨#[]⟩, .string ⟨#[]⟩, .string ⟨#[]⟩, .int .i64 0, .int .i64 0, .int .i64 0, .bool false, .int .i64 0, .int .i64 0, .int .i64 0] 37)).setRow w3.heap.size #[.int .i64 2, .int .i64 0, .int .i64 0, .int .i64 0, .int .i64 0, .string ⟨#[]⟩, .string ⟨#[]⟩, .int .i64 0, .int .i64 0, .int .i64 0, .int .i64 0, .int .i64 0, .int .i64 0, .int .i64 0, .string ⟨#[]⟩, .int .i64 0, .slice none 0 0, .int .i64 0, .int .i64 0, .string ⟨#[97, 97, 97]⟩, .string ⟨#[107]⟩, .string ⟨#[]⟩, .string ⟨#[]⟩, .string ⟨#[]⟩, .int .i64 0, .int .i64 fi, .int .i64 la, .bool true, .int .i64 0, .int .i64 0, .int .i64 0] ∧ w4.heap[w3.heap.size]? = some (.cells (askd fi la true) 37 (0, 0)) ∧ Below w3.heap.size w3 w4 := ⟨_, rfl, ShaB.heap_setRow _ (heap_alloc_new _ _), ShaB.below_row ((Below.refl _ _).alloc (Nat.le_refl _) _) (Nat.le_refl _) _⟩
  rw [← hw4]
  have hz4 := hb4.size
  have F0 := (hb4.cell (p := ⟨w.heap.size, 0, none⟩) (by show w.heap.size < _; omega)).trans D0
  have F2 := (hb4.cell (p := ⟨w.heap.size, 2, none⟩) (by show w.heap.size < _; omega)).trans D2
  have F3 := (hb4.cell (p := ⟨w.heap.size, 3, none⟩) (by show w.heap.size < _; omega)).trans D3
  have F4 := (hb4.cell (p := ⟨w.heap.size, 4, none⟩) (by show w.heap.size < _; omega)).trans D4
  have HB4 := Lib.hid (HB3.out.trans (hb4.mono (by omega)))
  have HE4 := Lib.hid (HE3.out.below hb4)
  have HO4 := Lib.hid (HO3.out.below hb4)
  have HQ4 := Lib.hid hq4
  obtain ⟨N4, hN4⟩ : ∃ N, N = w3.heap.size := ⟨_, rfl⟩
  rw [← hN4] at HQ4 ⊢
  have hn4 : N3 < N4 ∧ N4 < w4.heap.size := ⟨by omega, by rw [hN4]; exact (Array.getElem?_eq_some_iff.1 hq4).1⟩
  have q27 : w4.cell? ⟨N4, 27, none⟩ = some (.bool true) := by rw [Lib.cell_of_heap HQ4.out]; rfl
  clear hw4 hb4 hq4 hN4 D0 D2 D3 D4 HB3 HE3 HO3 hz4
  go_wp2_with fail
  go_ret
  exact ⟨rfl, HB4.out⟩
set_option maxHeartbeats 4000000 in
set_option maxRecDepth 100000 in
theorem gives_bad2 (dt : List UInt8) (tmc fi la : Int) (ad : Option Addr) (cd : Nat) (w : World) {aU : Addr} {es : List Addr} (hE : Env w aU es) (hd : Bs w ad dt cd) (hl : dt.length ≤ 1048576) (_t0 : -9223372036854775808 ≤ tmc) (_t1 : tmc ≤ 9223372036854775807) (_f0 : -9223372036854775808 ≤ fi) (_f1 : fi ≤ 9223372036854775807) (_l0 : -9223372036854775808 ≤ la) (_l1 : la ≤ 9223372036854775807) (_p1 : ¬ fi < 0) (_p2 : (dt.length : Int) ≤ fi) :
    Calls Tryz.prog 4 #[.agg #[.slice ad dt.length cd, .int .i64 tmc, .bool false, .int .i64 fi, .int .i64 la]] w fun e w' => e = .returned (.bool true) ∧ Below w.heap.size w w' := by
  obtain ⟨w1, hw1, hb1, hc1, hz1⟩ : ∃ w1, w1 = w.alloc (.cells #[.slice ad dt.length cd, .int .i64 tmc, .bool false, .int .i64 fi, .int .i64 la] 51) ∧ Below w.heap.size w w1 ∧ w1.heap[w.heap.size]? = some (.cells #[.slice ad dt.length cd, .int .i64 tmc, .bool false, .int .i64 fi, .int .i64 la] 51 (0, 0)) ∧ w1.heap.size = w.heap.size + 1 := ⟨_, rfl, (Below.refl _ _).alloc (Nat.le_refl _) _, heap_alloc_new _ _, World.size_alloc _ _⟩
  have HE1 := Lib.hid (hE.below hb1)
  have HD := Lib.hid hd
  clear hE hd
  have c0 : w1.cell? ⟨w.heap.size, 0, none⟩ = some (.slice ad dt.length cd) := by rw [Lib.cell_of_heap hc1]; rfl
  have c1 : w1.cell? ⟨w.heap.size, 1, none⟩ = some (.int .i64 tmc) := by rw [Lib.cell_of_heap hc1]; rfl
  have c2 : w1.cell? ⟨w.heap.size, 2, none⟩ = some (.bool false) := by rw [Lib.cell_of_heap hc1]; rfl
  have c3 : w1.cell? ⟨w.heap.size, 3, none⟩ = some (.int .i64 fi) := by rw [Lib.cell_of_heap hc1]; rfl
  have c4 : w1.cell? ⟨w.heap.size, 4, none⟩ = some (.int .i64 la) := by rw [Lib.cell_of_heap hc1]; rfl
  have KA := Lib.hid (alive w1 HE1.out)
  obtain ⟨T, hT, T0, T1⟩ : ∃ T, max tmc 0 = T ∧ 0 ≤ T ∧ T ≤ 9223372036854775807 := ⟨_, rfl, by omega, by omega⟩
  have hl9 : dt.length ≤ 9223372036854775807 := by omega
  have HB1 := Lib.hid hb1
  clear hc1 hb1
  go_enter Tryz.func4, Tryz.ntmps4
  go_upto_region 1 with fail
  rw [← hw1]
  clear hw1
  go_upto_region 3 with fail
  refine KA.out.mono ?_
  rintro e w2 ⟨rfl, hb2⟩
  have hz2 := hb2.size
  have C0 := (hb2.cell (p := ⟨w.heap.size, 0, none⟩) (World.block_lt_of_cell? _ _ c0)).trans c0
  have C1 := (hb2.cell (p := ⟨w.heap.size, 1, none⟩) (World.block_lt_of_cell? _ _ c1)).trans c1
  have C2 := (hb2.cell (p := ⟨w.heap.size, 2, none⟩) (World.block_lt_of_cell? _ _ c2)).trans c2
  have C3 := (hb2.cell (p := ⟨w.heap.size, 3, none⟩) (World.block_lt_of_cell? _ _ c3)).trans c3
  have C4 := (hb2.cell (p := ⟨w.heap.size, 4, none⟩) (World.block_lt_of_cell? _ _ c4)).trans c4
  have HB2 := Lib.hid (HB1.out.trans (hb2.mono (by omega)))
  have HE2 := Lib.hid (HE1.out.below hb2)
  clear c0 c1 c2 c3 c4 KA HE1 HB1 hb2
  go_upto_region 4 with fail
  obtain ⟨w3, hw3, hb3, hO3⟩ : ∃ w3, w3 = w2.alloc (.cells #[.string ⟨#[107]⟩, .int .i64 (dt.length : Int), .string ⟨#[101]⟩, .int .i64 T, .slice none 0 0] 54) ∧ Below w2.heap.size w2 w3 ∧ Ob w2.heap.size w3 (.string ⟨#[107]⟩) (.int .i64 (dt.length : Int)) (.string ⟨#[101]⟩) (.int .i64 T) (.slice none 0 0) := ⟨_, rfl, (Below.refl _ _).alloc (Nat.le_refl _) _, heap_alloc_new _ _⟩
  rw [← hw3]
  have hz3 := hb3.size
  have D0 := (hb3.cell (p := ⟨w.heap.size, 0, none⟩) (by show w.heap.size < _; omega)).trans C0
  have D2 := (hb3.cell (p := ⟨w.heap.size, 2, none⟩) (by show w.heap.size < _; omega)).trans C2
  have D3 := (hb3.cell (p := ⟨w.heap.size, 3, none⟩) (by show w.heap.size < _; omega)).trans C3
  have D4 := (hb3.cell (p := ⟨w.heap.size, 4, none⟩) (by show w.heap.size < _; omega)).trans C4
  have HB3 := Lib.hid (HB2.out.trans (hb3.mono (by omega)))
  have HE3 := Lib.hid (HE2.out.below hb3)
  have HO3 := Lib.hid hO3
  obtain ⟨N3, hN3⟩ : ∃ N, N = w2.heap.size := ⟨_, rfl⟩
  rw [← hN3] at HO3 ⊢
  have hn3 : w.heap.size < N3 ∧ N3 < w3.heap.size := ⟨by omega, by rw [hN3]; exact (Array.getElem?_eq_some_iff.1 hO3).1⟩
  clear hw3 hb3 hO3 hN3 C0 C1 C2 C3 C4 HB2 HE2 hT hz2 hz3 hz1
  go_upto_region 5 with (guard_target =~ wpList _ _ _ ({ dst := _, op := Op.store 37 _ _, type := _, pos := _, after := _, guard := none } :: _) _ _; refine wpList_store_row rfl 37 (.tmp 4) (.tmp 23) rfl w3.heap.size #[.int .i64 2, .int .i64 0, .int .i64 0, .int .i64 0, .int .i64 0, .string ⟨#[]⟩, .string ⟨#[]⟩, .int .i64 0, .int .i64 0, .int .i64 0, .int .i64 0, .int .i64 0, .int .i64 0, .int .i64 0, .string ⟨#[]⟩, .int .i64 0, .slice none 0 0, .int .i64 0, .int .i64 0, .string ⟨#[97, 97, 97]⟩, .string ⟨#[107]⟩, .string ⟨#[]⟩, .string ⟨#[]⟩, .string ⟨#[]⟩, .int .i64 0, .int .i64 fi, .int .i64 la, .bool true, .int .i64 0, .int .i64 0, .int .i64 0] rfl rfl _ _ (heap_alloc_new _ _) (show _ = some (askd fi la true).size from ask_size) rfl (ask_one fi la true) ?_)
  obtain ⟨w4, hw4, hq4, hb4⟩ : ∃ w4, w4 = (w3.alloc (.cells #[.int .i64 0, .int .i64 0, .int .i64 0, .int .i64 0, .int .i64 0, .string ⟨#[]⟩, .string ⟨#[]⟩, .int .i64 0, .int .i64 0, .int .i64 0, .int .i64 0, .int .i64 0, .int .i64 0, .int .i64 0, .string ⟨#[]⟩, .int .i64 0, .slice none 0 0, .int .i64 0, .int .i64 0, .string ⟨#[]⟩, .string ⟨#[]⟩, .string ⟨#[]⟩, .string ⟨#[]⟩, .string ⟨#[]⟩, .int .i64 0, .int .i64 0, .int .i64 0, .bool false, .int .i64 0, .int .i64 0, .int .i64 0] 37)).setRow w3.heap.size #[.int .i64 2, .int .i64 0, .int .i64 0, .int .i64 0, .int .i64 0, .string ⟨#[]⟩, .string ⟨#[]⟩, .int .i64 0, .int .i64 0, .int .i64 0, .int .i64 0, .int .i64 0, .int .i64 0, .int .i64 0, .string ⟨#[]⟩, .int .i64 0, .slice none 0 0, .int .i64 0, .int .i64 0, .string ⟨#[97, 97, 97]⟩, .string ⟨#[107]⟩, .string ⟨#[]⟩, .string ⟨#[]⟩, .string ⟨#[]⟩, .int .i64 0, .int .i64 fi, .int .i64 la, .bool true, .int .i64 0, .int .i64 0, .int .i64 0] ∧ w4.heap[w3.heap.size]? = some (.cells (askd fi la true) 37 (0, 0)) ∧ Below w3.heap.size w3 w4 := ⟨_, rfl, ShaB.heap_setRow _ (heap_alloc_new _ _), ShaB.below_row ((Below.refl _ _).alloc (Nat.le_refl _) _) (Nat.le_refl _) _⟩
  rw [← hw4]
  have hz4 := hb4.size
  have F0 := (hb4.cell (p := ⟨w.heap.size, 0, none⟩) (by show w.heap.size < _; omega)).trans D0
  have F2 := (hb4.cell (p := ⟨w.heap.size, 2, none⟩) (by show w.heap.size < _; omega)).trans D2
  have F3 := (hb4.cell (p := ⟨w.heap.size, 3, none⟩) (by show w.heap.size < _; omega)).trans D3
  have F4 := (hb4.cell (p := ⟨w.heap.size, 4, none⟩) (by show w.heap.size < _; omega)).trans D4
  have HB4 := Lib.hid (HB3.out.trans (hb4.mono (by omega)))
  have HE4 := Lib.hid (HE3.out.below hb4)
  have HO4 := Lib.hid (HO3.out.below hb4)
  have HQ4 := Lib.hid hq4
  obtain ⟨N4, hN4⟩ : ∃ N, N = w3.heap.size := ⟨_, rfl⟩
  rw [← hN4] at HQ4 ⊢
  have hn4 : N3 < N4 ∧ N4 < w4.heap.size := ⟨by omega, by rw [hN4]; exact (Array.getElem?_eq_some_iff.1 hq4).1⟩
  have q27 : w4.cell? ⟨N4, 27, none⟩ = some (.bool true) := by rw [Lib.cell_of_heap HQ4.out]; rfl
  clear hw4 hb4 hq4 hN4 D0 D2 D3 D4 HB3 HE3 HO3 hz4
  go_wp2_with fail
  go_ret
  exact ⟨rfl, HB4.out⟩
set_option maxHeartbeats 4000000 in
set_option maxRecDepth 100000 in
theorem gives_bad3 (dt : List UInt8) (tmc fi la : Int) (ad : Option Addr) (cd : Nat) (w : World) {aU : Addr} {es : List Addr} (hE : Env w aU es) (hd : Bs w ad dt cd) (hl : dt.length ≤ 1048576) (_t0 : -9223372036854775808 ≤ tmc) (_t1 : tmc ≤ 9223372036854775807) (_f0 : -9223372036854775808 ≤ fi) (_f1 : fi ≤ 9223372036854775807) (_l0 : -9223372036854775808 ≤ la) (_l1 : la ≤ 9223372036854775807) (_p1 : ¬ fi < 0) (_p2 : ¬ (dt.length : Int) ≤ fi) (_p3 : la < -1) :
    Calls Tryz.prog 4 #[.agg #[.slice ad dt.length cd, .int .i64 tmc, .bool false, .int .i64 fi, .int .i64 la]] w fun e w' => e = .returned (.bool true) ∧ Below w.heap.size w w' := by
  obtain ⟨w1, hw1, hb1, hc1, hz1⟩ : ∃ w1, w1 = w.alloc (.cells #[.slice ad dt.length cd, .int .i64 tmc, .bool false, .int .i64 fi, .int .i64 la] 51) ∧ Below w.heap.size w w1 ∧ w1.heap[w.heap.size]? = some (.cells #[.slice ad dt.length cd, .int .i64 tmc, .bool false, .int .i64 fi, .int .i64 la] 51 (0, 0)) ∧ w1.heap.size = w.heap.size + 1 := ⟨_, rfl, (Below.refl _ _).alloc (Nat.le_refl _) _, heap_alloc_new _ _, World.size_alloc _ _⟩
  have HE1 := Lib.hid (hE.below hb1)
  have HD := Lib.hid hd
  clear hE hd
  have c0 : w1.cell? ⟨w.heap.size, 0, none⟩ = some (.slice ad dt.length cd) := by rw [Lib.cell_of_heap hc1]; rfl
  have c1 : w1.cell? ⟨w.heap.size, 1, none⟩ = some (.int .i64 tmc) := by rw [Lib.cell_of_heap hc1]; rfl
  have c2 : w1.cell? ⟨w.heap.size, 2, none⟩ = some (.bool false) := by rw [Lib.cell_of_heap hc1]; rfl
  have c3 : w1.cell? ⟨w.heap.size, 3, none⟩ = some (.int .i64 fi) := by rw [Lib.cell_of_heap hc1]; rfl
  have c4 : w1.cell? ⟨w.heap.size, 4, none⟩ = some (.int .i64 la) := by rw [Lib.cell_of_heap hc1]; rfl
  have KA := Lib.hid (alive w1 HE1.out)
  obtain ⟨T, hT, T0, T1⟩ : ∃ T, max tmc 0 = T ∧ 0 ≤ T ∧ T ≤ 9223372036854775807 := ⟨_, rfl, by omega, by omega⟩
  have hl9 : dt.length ≤ 9223372036854775807 := by omega
  have HB1 := Lib.hid hb1
  clear hc1 hb1
  go_enter Tryz.func4, Tryz.ntmps4
  go_upto_region 1 with fail
  rw [← hw1]
  clear hw1
  go_upto_region 3 with fail
  refine KA.out.mono ?_
  rintro e w2 ⟨rfl, hb2⟩
  have hz2 := hb2.size
  have C0 := (hb2.cell (p := ⟨w.heap.size, 0, none⟩) (World.block_lt_of_cell? _ _ c0)).trans c0
  have C1 := (hb2.cell (p := ⟨w.heap.size, 1, none⟩) (World.block_lt_of_cell? _ _ c1)).trans c1
  have C2 := (hb2.cell (p := ⟨w.heap.size, 2, none⟩) (World.block_lt_of_cell? _ _ c2)).trans c2
  have C3 := (hb2.cell (p := ⟨w.heap.size, 3, none⟩) (World.block_lt_of_cell? _ _ c3)).trans c3
  have C4 := (hb2.cell (p := ⟨w.heap.size, 4, none⟩) (World.block_lt_of_cell? _ _ c4)).trans c4
  have HB2 := Lib.hid (HB1.out.trans (hb2.mono (by omega)))
  have HE2 := Lib.hid (HE1.out.below hb2)
  clear c0 c1 c2 c3 c4 KA HE1 HB1 hb2
  go_upto_region 4 with fail
  obtain ⟨w3, hw3, hb3, hO3⟩ : ∃ w3, w3 = w2.alloc (.cells #[.string ⟨#[107]⟩, .int .i64 (dt.length : Int), .string ⟨#[101]⟩, .int .i64 T, .slice none 0 0] 54) ∧ Below w2.heap.size w2 w3 ∧ Ob w2.heap.size w3 (.string ⟨#[107]⟩) (.int .i64 (dt.length : Int)) (.string ⟨#[101]⟩) (.int .i64 T) (.slice none 0 0) := ⟨_, rfl, (Below.refl _ _).alloc (Nat.le_refl _) _, heap_alloc_new _ _⟩
  rw [← hw3]
  have hz3 := hb3.size
  have D0 := (hb3.cell (p := ⟨w.heap.size, 0, none⟩) (by show w.heap.size < _; omega)).trans C0
  have D2 := (hb3.cell (p := ⟨w.heap.size, 2, none⟩) (by show w.heap.size < _; omega)).trans C2
  have D3 := (hb3.cell (p := ⟨w.heap.size, 3, none⟩) (by show w.heap.size < _; omega)).trans C3
  have D4 := (hb3.cell (p := ⟨w.heap.size, 4, none⟩) (by show w.heap.size < _; omega)).trans C4
  have HB3 := Lib.hid (HB2.out.trans (hb3.mono (by omega)))
  have HE3 := Lib.hid (HE2.out.below hb3)
  have HO3 := Lib.hid hO3
  obtain ⟨N3, hN3⟩ : ∃ N, N = w2.heap.size := ⟨_, rfl⟩
  rw [← hN3] at HO3 ⊢
  have hn3 : w.heap.size < N3 ∧ N3 < w3.heap.size := ⟨by omega, by rw [hN3]; exact (Array.getElem?_eq_some_iff.1 hO3).1⟩
  clear hw3 hb3 hO3 hN3 C0 C1 C2 C3 C4 HB2 HE2 hT hz2 hz3 hz1
  go_upto_region 5 with (guard_target =~ wpList _ _ _ ({ dst := _, op := Op.store 37 _ _, type := _, pos := _, after := _, guard := none } :: _) _ _; refine wpList_store_row rfl 37 (.tmp 4) (.tmp 23) rfl w3.heap.size #[.int .i64 2, .int .i64 0, .int .i64 0, .int .i64 0, .int .i64 0, .string ⟨#[]⟩, .string ⟨#[]⟩, .int .i64 0, .int .i64 0, .int .i64 0, .int .i64 0, .int .i64 0, .int .i64 0, .int .i64 0, .string ⟨#[]⟩, .int .i64 0, .slice none 0 0, .int .i64 0, .int .i64 0, .string ⟨#[97, 97, 97]⟩, .string ⟨#[107]⟩, .string ⟨#[]⟩, .string ⟨#[]⟩, .string ⟨#[]⟩, .int .i64 0, .int .i64 fi, .int .i64 la, .bool true, .int .i64 0, .int .i64 0, .int .i64 0] rfl rfl _ _ (heap_alloc_new _ _) (show _ = some (askd fi la true).size from ask_size) rfl (ask_one fi la true) ?_)
  obtain ⟨w4, hw4, hq4, hb4⟩ : ∃ w4, w4 = (w3.alloc (.cells #[.int .i64 0, .int .i64 0, .int .i64 0, .int .i64 0, .int .i64 0, .string ⟨#[]⟩, .string ⟨#[]⟩, .int .i64 0, .int .i64 0, .int .i64 0, .int .i64 0, .int .i64 0, .int .i64 0, .int .i64 0, .string ⟨#[]⟩, .int .i64 0, .slice none 0 0, .int .i64 0, .int .i64 0, .string ⟨#[]⟩, .string ⟨#[]⟩, .string ⟨#[]⟩, .string ⟨#[]⟩, .string ⟨#[]⟩, .int .i64 0, .int .i64 0, .int .i64 0, .bool false, .int .i64 0, .int .i64 0, .int .i64 0] 37)).setRow w3.heap.size #[.int .i64 2, .int .i64 0, .int .i64 0, .int .i64 0, .int .i64 0, .string ⟨#[]⟩, .string ⟨#[]⟩, .int .i64 0, .int .i64 0, .int .i64 0, .int .i64 0, .int .i64 0, .int .i64 0, .int .i64 0, .string ⟨#[]⟩, .int .i64 0, .slice none 0 0, .int .i64 0, .int .i64 0, .string ⟨#[97, 97, 97]⟩, .string ⟨#[107]⟩, .string ⟨#[]⟩, .string ⟨#[]⟩, .string ⟨#[]⟩, .int .i64 0, .int .i64 fi, .int .i64 la, .bool true, .int .i64 0, .int .i64 0, .int .i64 0] ∧ w4.heap[w3.heap.size]? = some (.cells (askd fi la true) 37 (0, 0)) ∧ Below w3.heap.size w3 w4 := ⟨_, rfl, ShaB.heap_setRow _ (heap_alloc_new _ _), ShaB.below_row ((Below.refl _ _).alloc (Nat.le_refl _) _) (Nat.le_refl _) _⟩
  rw [← hw4]
  have hz4 := hb4.size
  have F0 := (hb4.cell (p := ⟨w.heap.size, 0, none⟩) (by show w.heap.size < _; omega)).trans D0
  have F2 := (hb4.cell (p := ⟨w.heap.size, 2, none⟩) (by show w.heap.size < _; omega)).trans D2
  have F3 := (hb4.cell (p := ⟨w.heap.size, 3, none⟩) (by show w.heap.size < _; omega)).trans D3
  have F4 := (hb4.cell (p := ⟨w.heap.size, 4, none⟩) (by show w.heap.size < _; omega)).trans D4
  have HB4 := Lib.hid (HB3.out.trans (hb4.mono (by omega)))
  have HE4 := Lib.hid (HE3.out.below hb4)
  have HO4 := Lib.hid (HO3.out.below hb4)
  have HQ4 := Lib.hid hq4
  obtain ⟨N4, hN4⟩ : ∃ N, N = w3.heap.size := ⟨_, rfl⟩
  rw [← hN4] at HQ4 ⊢
  have hn4 : N3 < N4 ∧ N4 < w4.heap.size := ⟨by omega, by rw [hN4]; exact (Array.getElem?_eq_some_iff.1 hq4).1⟩
  have q27 : w4.cell? ⟨N4, 27, none⟩ = some (.bool true) := by rw [Lib.cell_of_heap HQ4.out]; rfl
  clear hw4 hb4 hq4 hN4 D0 D2 D3 D4 HB3 HE3 HO3 hz4
  go_wp2_with fail
  go_ret
  exact ⟨rfl, HB4.out⟩
set_option maxHeartbeats 4000000 in
set_option maxRecDepth 100000 in
theorem gives_bad4 (dt : List UInt8) (tmc fi la : Int) (ad : Option Addr) (cd : Nat) (w : World) {aU : Addr} {es : List Addr} (hE : Env w aU es) (hd : Bs w ad dt cd) (hl : dt.length ≤ 1048576) (_t0 : -9223372036854775808 ≤ tmc) (_t1 : tmc ≤ 9223372036854775807) (_f0 : -9223372036854775808 ≤ fi) (_f1 : fi ≤ 9223372036854775807) (_l0 : -9223372036854775808 ≤ la) (_l1 : la ≤ 9223372036854775807) (_p1 : ¬ fi < 0) (_p2 : ¬ (dt.length : Int) ≤ fi) (_p3 : ¬ la < -1) (_p4 : 0 ≤ la) (_p5 : la < fi) :
    Calls Tryz.prog 4 #[.agg #[.slice ad dt.length cd, .int .i64 tmc, .bool false, .int .i64 fi, .int .i64 la]] w fun e w' => e = .returned (.bool true) ∧ Below w.heap.size w w' := by
  obtain ⟨w1, hw1, hb1, hc1, hz1⟩ : ∃ w1, w1 = w.alloc (.cells #[.slice ad dt.length cd, .int .i64 tmc, .bool false, .int .i64 fi, .int .i64 la] 51) ∧ Below w.heap.size w w1 ∧ w1.heap[w.heap.size]? = some (.cells #[.slice ad dt.length cd, .int .i64 tmc, .bool false, .int .i64 fi, .int .i64 la] 51 (0, 0)) ∧ w1.heap.size = w.heap.size + 1 := ⟨_, rfl, (Below.refl _ _).alloc (Nat.le_refl _) _, heap_alloc_new _ _, World.size_alloc _ _⟩
  have HE1 := Lib.hid (hE.below hb1)
  have HD := Lib.hid hd
  clear hE hd
  have c0 : w1.cell? ⟨w.heap.size, 0, none⟩ = some (.slice ad dt.length cd) := by rw [Lib.cell_of_heap hc1]; rfl
  have c1 : w1.cell? ⟨w.heap.size, 1, none⟩ = some (.int .i64 tmc) := by rw [Lib.cell_of_heap hc1]; rfl
  have c2 : w1.cell? ⟨w.heap.size, 2, none⟩ = some (.bool false) := by rw [Lib.cell_of_heap hc1]; rfl
  have c3 : w1.cell? ⟨w.heap.size, 3, none⟩ = some (.int .i64 fi) := by rw [Lib.cell_of_heap hc1]; rfl
  have c4 : w1.cell? ⟨w.heap.size, 4, none⟩ = some (.int .i64 la) := by rw [Lib.cell_of_heap hc1]; rfl
  have KA := Lib.hid (alive w1 HE1.out)
  obtain ⟨T, hT, T0, T1⟩ : ∃ T, max tmc 0 = T ∧ 0 ≤ T ∧ T ≤ 9223372036854775807 := ⟨_, rfl, by omega, by omega⟩
  have hl9 : dt.length ≤ 9223372036854775807 := by omega
  have HB1 := Lib.hid hb1
  clear hc1 hb1
  go_enter Tryz.func4, Tryz.ntmps4
  go_upto_region 1 with fail
  rw [← hw1]
  clear hw1
  go_upto_region 3 with fail
  refine KA.out.mono ?_
  rintro e w2 ⟨rfl, hb2⟩
  have hz2 := hb2.size
  have C0 := (hb2.cell (p := ⟨w.heap.size, 0, none⟩) (World.block_lt_of_cell? _ _ c0)).trans c0
  have C1 := (hb2.cell (p := ⟨w.heap.size, 1, none⟩) (World.block_lt_of_cell? _ _ c1)).trans c1
  have C2 := (hb2.cell (p := ⟨w.heap.size, 2, none⟩) (World.block_lt_of_cell? _ _ c2)).trans c2
  have C3 := (hb2.cell (p := ⟨w.heap.size, 3, none⟩) (World.block_lt_of_cell? _ _ c3)).trans c3
  have C4 := (hb2.cell (p := ⟨w.heap.size, 4, none⟩) (World.block_lt_of_cell? _ _ c4)).trans c4
  have HB2 := Lib.hid (HB1.out.trans (hb2.mono (by omega)))
  have HE2 := Lib.hid (HE1.out.below hb2)
  clear c0 c1 c2 c3 c4 KA HE1 HB1 hb2
  go_upto_region 4 with fail
  obtain ⟨w3, hw3, hb3, hO3⟩ : ∃ w3, w3 = w2.alloc (.cells #[.string ⟨#[107]⟩, .int .i64 (dt.length : Int), .string ⟨#[101]⟩, .int .i64 T, .slice none 0 0] 54) ∧ Below w2.heap.size w2 w3 ∧ Ob w2.heap.size w3 (.string ⟨#[107]⟩) (.int .i64 (dt.length : Int)) (.string ⟨#[101]⟩) (.int .i64 T) (.slice none 0 0) := ⟨_, rfl, (Below.refl _ _).alloc (Nat.le_refl _) _, heap_alloc_new _ _⟩
  rw [← hw3]
  have hz3 := hb3.size
  have D0 := (hb3.cell (p := ⟨w.heap.size, 0, none⟩) (by show w.heap.size < _; omega)).trans C0
  have D2 := (hb3.cell (p := ⟨w.heap.size, 2, none⟩) (by show w.heap.size < _; omega)).trans C2
  have D3 := (hb3.cell (p := ⟨w.heap.size, 3, none⟩) (by show w.heap.size < _; omega)).trans C3
  have D4 := (hb3.cell (p := ⟨w.heap.size, 4, none⟩) (by show w.heap.size < _; omega)).trans C4
  have HB3 := Lib.hid (HB2.out.trans (hb3.mono (by omega)))
  have HE3 := Lib.hid (HE2.out.below hb3)
  have HO3 := Lib.hid hO3
  obtain ⟨N3, hN3⟩ : ∃ N, N = w2.heap.size := ⟨_, rfl⟩
  rw [← hN3] at HO3 ⊢
  have hn3 : w.heap.size < N3 ∧ N3 < w3.heap.size := ⟨by omega, by rw [hN3]; exact (Array.getElem?_eq_some_iff.1 hO3).1⟩
  clear hw3 hb3 hO3 hN3 C0 C1 C2 C3 C4 HB2 HE2 hT hz2 hz3 hz1
  go_upto_region 5 with (guard_target =~ wpList _ _ _ ({ dst := _, op := Op.store 37 _ _, type := _, pos := _, after := _, guard := none } :: _) _ _; refine wpList_store_row rfl 37 (.tmp 4) (.tmp 23) rfl w3.heap.size #[.int .i64 2, .int .i64 0, .int .i64 0, .int .i64 0, .int .i64 0, .string ⟨#[]⟩, .string ⟨#[]⟩, .int .i64 0, .int .i64 0, .int .i64 0, .int .i64 0, .int .i64 0, .int .i64 0, .int .i64 0, .string ⟨#[]⟩, .int .i64 0, .slice none 0 0, .int .i64 0, .int .i64 0, .string ⟨#[97, 97, 97]⟩, .string ⟨#[107]⟩, .string ⟨#[]⟩, .string ⟨#[]⟩, .string ⟨#[]⟩, .int .i64 0, .int .i64 fi, .int .i64 la, .bool true, .int .i64 0, .int .i64 0, .int .i64 0] rfl rfl _ _ (heap_alloc_new _ _) (show _ = some (askd fi la true).size from ask_size) rfl (ask_one fi la true) ?_)
  obtain ⟨w4, hw4, hq4, hb4⟩ : ∃ w4, w4 = (w3.alloc (.cells #[.int .i64 0, .int .i64 0, .int .i64 0, .int .i64 0, .int .i64 0, .string ⟨#[]⟩, .string ⟨#[]⟩, .int .i64 0, .int .i64 0, .int .i64 0, .int .i64 0, .int .i64 0, .int .i64 0, .int .i64 0, .string ⟨#[]⟩, .int .i64 0, .slice none 0 0, .int .i64 0, .int .i64 0, .string ⟨#[]⟩, .string ⟨#[]⟩, .string ⟨#[]⟩, .string ⟨#[]⟩, .string ⟨#[]⟩, .int .i64 0, .int .i64 0, .int .i64 0, .bool false, .int .i64 0, .int .i64 0, .int .i64 0] 37)).setRow w3.heap.size #[.int .i64 2, .int .i64 0, .int .i64 0, .int .i64 0, .int .i64 0, .string ⟨#[]⟩, .string ⟨#[]⟩, .int .i64 0, .int .i64 0, .int .i64 0, .int .i64 0, .int .i64 0, .int .i64 0, .int .i64 0, .string ⟨#[]⟩, .int .i64 0, .slice none 0 0, .int .i64 0, .int .i64 0, .string ⟨#[97, 97, 97]⟩, .string ⟨#[107]⟩, .string ⟨#[]⟩, .string ⟨#[]⟩, .string ⟨#[]⟩, .int .i64 0, .int .i64 fi, .int .i64 la, .bool true, .int .i64 0, .int .i64 0, .int .i64 0] ∧ w4.heap[w3.heap.size]? = some (.cells (askd fi la true) 37 (0, 0)) ∧ Below w3.heap.size w3 w4 := ⟨_, rfl, ShaB.heap_setRow _ (heap_alloc_new _ _), ShaB.below_row ((Below.refl _ _).alloc (Nat.le_refl _) _) (Nat.le_refl _) _⟩
  rw [← hw4]
  have hz4 := hb4.size
  have F0 := (hb4.cell (p := ⟨w.heap.size, 0, none⟩) (by show w.heap.size < _; omega)).trans D0
  have F2 := (hb4.cell (p := ⟨w.heap.size, 2, none⟩) (by show w.heap.size < _; omega)).trans D2
  have F3 := (hb4.cell (p := ⟨w.heap.size, 3, none⟩) (by show w.heap.size < _; omega)).trans D3
  have F4 := (hb4.cell (p := ⟨w.heap.size, 4, none⟩) (by show w.heap.size < _; omega)).trans D4
  have HB4 := Lib.hid (HB3.out.trans (hb4.mono (by omega)))
  have HE4 := Lib.hid (HE3.out.below hb4)
  have HO4 := Lib.hid (HO3.out.below hb4)
  have HQ4 := Lib.hid hq4
  obtain ⟨N4, hN4⟩ : ∃ N, N = w3.heap.size := ⟨_, rfl⟩
  rw [← hN4] at HQ4 ⊢
  have hn4 : N3 < N4 ∧ N4 < w4.heap.size := ⟨by omega, by rw [hN4]; exact (Array.getElem?_eq_some_iff.1 hq4).1⟩
  have q27 : w4.cell? ⟨N4, 27, none⟩ = some (.bool true) := by rw [Lib.cell_of_heap HQ4.out]; rfl
  clear hw4 hb4 hq4 hN4 D0 D2 D3 D4 HB3 HE3 HO3 hz4
  go_wp2_with fail
  go_ret
  exact ⟨rfl, HB4.out⟩
theorem gives (dt : List UInt8) (tmc : Int) (wh : Bool) (fi la : Int) (ad : Option Addr) (cd : Nat) (w : World) {aU : Addr} {es : List Addr} (hE : Env w aU es) (hd : Bs w ad dt cd) (hl : dt.length ≤ 1048576) (t0 : -9223372036854775808 ≤ tmc) (t1 : tmc ≤ 9223372036854775807) (f0 : -9223372036854775808 ≤ fi) (f1 : fi ≤ 9223372036854775807) (l0 : -9223372036854775808 ≤ la) (l1 : la ≤ 9223372036854775807) :
    Calls Tryz.prog 4 #[.agg #[.slice ad dt.length cd, .int .i64 tmc, .bool wh, .int .i64 fi, .int .i64 la]] w fun e w' => e = .returned (.bool true) ∧ Below w.heap.size w w' := by
  cases wh
  · by_cases p1 : fi < 0
    · exact gives_bad1 dt tmc fi la ad cd w hE hd hl t0 t1 f0 f1 l0 l1 p1
    by_cases p2 : (dt.length : Int) ≤ fi
    · exact gives_bad2 dt tmc fi la ad cd w hE hd hl t0 t1 f0 f1 l0 l1 p1 p2
    by_cases p3 : la < -1
    · exact gives_bad3 dt tmc fi la ad cd w hE hd hl t0 t1 f0 f1 l0 l1 p1 p2 p3
    obtain ⟨f, rfl⟩ : ∃ f : Nat, fi = f := ⟨fi.toNat, by omega⟩
    by_cases p4 : 0 ≤ la
    · by_cases p5 : la < (f : Int)
      · exact gives_bad4 dt tmc _ la ad cd w hE hd hl t0 t1 f0 f1 l0 l1 p1 p2 p3 p4 p5
      · exact gives_rangeB dt tmc la f ad cd w hE hd hl t0 t1 f0 f1 l0 l1 p1 p2 p3 p4 p5
    · exact gives_rangeA dt tmc la f ad cd w hE hd hl t0 t1 f0 f1 l0 l1 p1 p2 p3 p4
  · exact gives_whole dt tmc fi la ad cd w hE hd hl t0 t1 f0 f1 l0 l1
end Go.Proofs.YtidflagmdabfaaaGreatDoor.RtN
