/-
  The walk of package sha's state.digest. Plain: a digest of bytes that come piece by piece. Requests of HTTP as lists of bytes. Plain: of no program.
-/
import Derived.Test.YtidflagmdabfaaaGreatDoorSg01
import Derived.Test.YtidflagmdabfaaaGreatDoorSg02
import Derived.StillTailTactics
import Derived.BigQuiet
import Derived.WalkSmall
import Derived.Lib.SplitLaws
import Derived.Lib.CutLaws
import Derived.Lib.AtoiAll
import Derived.Lib.SlTrimSet
import Derived.Lib.Bytealg
namespace Go.Proofs.YtidflagmdabfaaaGreatDoor.ShaD
open Go.RowKit Go.Proofs.YtidflagmdabfaaaGreatDoor Go.Proofs.YtidflagmdabfaaaGreatDoor.Sha Go.Proofs.YtidflagmdabfaaaGreatDoor.ShaA Go.Proofs.YtidflagmdabfaaaGreatDoor.ShaB Go.Proofs.YtidflagmdabfaaaGreatDoor.ShaC

theorem heap_setRow_other {w : World} {g k : Nat} (cs : Array Value) (h : k ≠ g) : (w.setRow g cs).heap[k]? = w.heap[k]? := by
  simp [World.setRow, Array.getElem?_modify, Ne.symm h]

theorem lay2 {P : Program} {ops : Array Oper} {rest : List Oper} {a : Act} {Q : Exit → Act → World → Prop} {w3 : World} {o1 o2 L K : Array Value} {T : TypeId}
    (h : ∀ w4 : World, w4.heap.size = w3.heap.size + 2 → w4.heap[w3.heap.size]? = some (.cells L T (0, 0)) → w4.heap[w3.heap.size + 1]? = some (.cells K T (0, 0)) → Below w3.heap.size w3 w4 → wpList P ops Q rest a w4) :
    wpList P ops Q rest a ((((w3.alloc (.cells o1 T)).alloc (.cells o2 T)).setRow w3.heap.size L).setRow (w3.heap.size + 1) K) :=
  h _ (by simp) ((heap_setRow_other _ (by omega)).trans (heap_setRow _ (heap_alloc2_old _ _ _))) (heap_setRow _ ((heap_setRow_other _ (by omega)).trans (heap_alloc2_new _ _ _)))
    (below_row (below_row (((Below.refl _ _).alloc (Nat.le_refl _) _).alloc (by simp) _) (Nat.le_refl _) _) (Nat.le_succ _) _)

theorem alloc_at {w : World} {n : Nat} (hz : w.heap.size = n) (o : Obj) : (w.alloc o).heap[n]? = some o := hz ▸ heap_alloc_new w o
theorem lay1 {P : Program} {ops : Array Oper} {rest : List Oper} {a : Act} {Q : Exit → Act → World → Prop} {w4 : World} {n : Nat} {o1 L : Array Value} {T : TypeId} (hz : w4.heap.size = n)
    (h : ∀ w5 : World, w5.heap.size = n + 1 → w5.heap[n]? = some (.cells L T (0, 0)) → Below n w4 w5 → wpList P ops Q rest a w5) :
    wpList P ops Q rest a ((w4.alloc (.cells o1 T)).setRow n L) :=
  h _ (by simp [hz]) (heap_setRow _ (alloc_at hz _)) (below_row ((Below.refl _ _).alloc (Nat.le_of_eq hz.symm) _) (Nat.le_refl _) _)

theorem and_lt' {x y : Nat} (hx : x < M) : x &&& y < M := Nat.lt_of_le_of_lt Nat.and_le_left hx
theorem ch_eq (e f g : Nat) (he : e < M) (hf : f < M) (hg : g < M) : bits .xor .u32 (bits .and .u32 (e : Int) (f : Int)) (bits .and .u32 (bits .xor .u32 IntKind.u32.max (e : Int)) (g : Int)) = (ch e f g : Nat) := by
  have h1 : bits .xor .u32 IntKind.u32.max (e : Int) = ((e ^^^ 4294967295 : Nat) : Int) := by
    rw [Nat.xor_comm]
    exact u32_xor_nat 4294967295 e (by decide) he
  have hn : e ^^^ 4294967295 < M := xor_lt he (by decide)
  rw [h1, u32_and_nat e f he hf, u32_and_nat _ g hn hg]
  exact u32_xor_nat _ _ (and_lt hf) (and_lt hg)
theorem maj_eq (a b c : Nat) (ha : a < M) (hb : b < M) (hc : c < M) : bits .xor .u32 (bits .xor .u32 (bits .and .u32 (a : Int) (b : Int)) (bits .and .u32 (a : Int) (c : Int))) (bits .and .u32 (b : Int) (c : Int)) = (maj a b c : Nat) := by
  rw [u32_and_nat a b ha hb, u32_and_nat a c ha hc, u32_and_nat b c hb hc]
  exact xor3 _ _ _ (and_lt hb) (and_lt hc) (and_lt hc)
theorem t1_eq {X : St} (h : X.ok) (k w : Nat) : IntKind.u32.wrap (IntKind.u32.wrap (IntKind.u32.wrap (IntKind.u32.wrap ((X.h : Int) + bits .xor .u32 (bits .xor .u32 (rotr X.e 6 : Nat) (rotr X.e 11 : Nat)) (rotr X.e 25 : Nat)) + bits .xor .u32 (bits .and .u32 (X.e : Int) (X.f : Int)) (bits .and .u32 (bits .xor .u32 IntKind.u32.max (X.e : Int)) (X.g : Int))) + (k : Int)) + (w : Int)) = (t1 X k w : Nat) := by
  obtain ⟨_, _, _, _, he, hf, hg, _⟩ := h
  rw [xor3 _ _ _ (rotr_lt 6 he) (rotr_lt 11 he) (rotr_lt 25 he), ch_eq _ _ _ he hf hg, wrap_add, wrap_add, wrap_add, wrap_add]
  rfl
theorem t2_eq {X : St} (h : X.ok) : IntKind.u32.wrap (bits .xor .u32 (bits .xor .u32 (rotr X.a 2 : Nat) (rotr X.a 13 : Nat)) (rotr X.a 22 : Nat) + bits .xor .u32 (bits .xor .u32 (bits .and .u32 (X.a : Int) (X.b : Int)) (bits .and .u32 (X.a : Int) (X.c : Int))) (bits .and .u32 (X.b : Int) (X.c : Int))) = (t2 X : Nat) := by
  obtain ⟨ha, hb, hc, _, _, _, _, _⟩ := h
  rw [xor3 _ _ _ (rotr_lt 2 ha) (rotr_lt 13 ha) (rotr_lt 22 ha), maj_eq _ _ _ ha hb hc, wrap_add]
  rfl
theorem t1_eq' {X : St} (h : X.ok) (k w : Nat) : (((X.h : Int) + bits .xor .u32 (bits .xor .u32 (rotr X.e 6 : Nat) (rotr X.e 11 : Nat)) (rotr X.e 25 : Nat) + bits .xor .u32 (bits .and .u32 (X.e : Int) (X.f : Int)) (bits .and .u32 (bits .xor .u32 (if IntKind.u32.signed = true then -1 else IntKind.u32.max) (X.e : Int)) (X.g : Int)) + (k : Int)) % 4294967296 + (w : Int)) % 4294967296 = (t1 X k w : Nat) := by
  obtain ⟨_, _, _, _, he, hf, hg, _⟩ := h
  rw [if_neg (by decide), xor3 _ _ _ (rotr_lt 6 he) (rotr_lt 11 he) (rotr_lt 25 he), ch_eq _ _ _ he hf hg]
  unfold t1 e1
  generalize rotr X.e 6 ^^^ rotr X.e 11 ^^^ rotr X.e 25 = A
  generalize ch X.e X.f X.g = B
  unfold M
  omega
theorem t2_eq' {X : St} (h : X.ok) : (bits .xor .u32 (bits .xor .u32 (rotr X.a 2 : Nat) (rotr X.a 13 : Nat)) (rotr X.a 22 : Nat) + bits .xor .u32 (bits .xor .u32 (bits .and .u32 (X.a : Int) (X.b : Int)) (bits .and .u32 (X.a : Int) (X.c : Int))) (bits .and .u32 (X.b : Int) (X.c : Int))) % 4294967296 = (t2 X : Nat) := by
  obtain ⟨ha, hb, hc, _, _, _, _, _⟩ := h
  rw [xor3 _ _ _ (rotr_lt 2 ha) (rotr_lt 13 ha) (rotr_lt 22 ha), maj_eq _ _ _ ha hb hc]
  unfold t2 e0
  generalize rotr X.a 2 ^^^ rotr X.a 13 ^^^ rotr X.a 22 = A
  generalize maj X.a X.b X.c = B
  unfold M
  omega
theorem round_cells (X : St) (k w : Nat) : (#[.int .u32 (IntKind.u32.wrap ((t1 X k w : Nat) + (t2 X : Nat))), w32 X.a, w32 X.b, w32 X.c, .int .u32 (IntKind.u32.wrap ((X.d : Int) + (t1 X k w : Nat))), w32 X.e, w32 X.f, w32 X.g] : Array Value) = wcells (stw (round X k w)) := by
  rw [wrap_add, wrap_add]
  rfl

theorem rounds_succ (s : St) (w : List Nat) (t : Nat) : rounds s w (t + 1) = round (rounds s w t) (K.getD t 0) (w.getD t 0) := rfl
theorem Ws.setRow {B g : Nat} {t : TypeId} {w : World} {l : List Nat} (h : Ws B t w l) (hg : B ≠ g) (cs : Array Value) : Ws B t (w.setRow g cs) l := (heap_setRow_other cs hg).trans h
/-- the state while the eight sums are laid -/
def mix (s r : St) (j : Nat) : List Nat := (stw (add s r)).take j ++ (stw r).drop j
theorem region_tail {id : Nat} {Q : Exit → Act → World → Prop} {a : Act} {w : World} {l : List Oper} (n : Nat) (hB : Region.lexTailB .any l.toArray n = true)
    (h : wpStill Tryz.prog l.toArray w.drew (fun a' => wpList Tryz.prog l.toArray Q (l.drop n) a' w.drew) (l.take n) a) : (Code.region id l.toArray true).wp Tryz.prog Q a w :=
  wp_region_still_tail n (by kernel_rfl) hB h
theorem rotQ (x : Nat) (z : Int) (w : World) (n : Nat) (hx : x < M) (h0 : 0 < z.toNat) (h1 : z.toNat < 32) (hz : (z.toNat : Int) = z := by decide) : Calls Tryz.prog 203 #[w32 x, .int .i64 z] (w.drewN n) fun e w'' => e = .returned (w32 (rotr x z.toNat)) ∧ ∃ m, w'' = w.drewN m :=
  (rotI x z (w.drewN n) hx h0 h1 hz).mono fun _ _ h => ⟨h.1, n, h.2.symm⟩
theorem mix_zero (s r : St) : mix s r 0 = stw r := rfl
theorem mix_all (s r : St) : mix s r 8 = stw (add s r) := rfl
theorem lt8 {j : Nat} (h : j < 8) : j = 0 ∨ j = 1 ∨ j = 2 ∨ j = 3 ∨ j = 4 ∨ j = 5 ∨ j = 6 ∨ j = 7 := by omega
theorem mix_get (s r : St) {j : Nat} (h : j < 8) : (mix s r j)[j]? = some ((stw r).getD j 0) := by
  rcases lt8 h with rfl | rfl | rfl | rfl | rfl | rfl | rfl | rfl <;> rfl
theorem stw_get (s : St) {j : Nat} (h : j < 8) : (stw s)[j]? = some ((stw s).getD j 0) := by
  rcases lt8 h with rfl | rfl | rfl | rfl | rfl | rfl | rfl | rfl <;> rfl
theorem add_get (s r : St) {j : Nat} (h : j < 8) : (stw (add s r)).getD j 0 = ((stw r).getD j 0 + (stw s).getD j 0) % M := by
  rcases lt8 h with rfl | rfl | rfl | rfl | rfl | rfl | rfl | rfl <;> rfl
theorem mix_set (s r : St) {j : Nat} (h : j < 8) : (mix s r j).set j ((stw (add s r)).getD j 0) = mix s r (j + 1) := by
  rcases lt8 h with rfl | rfl | rfl | rfl | rfl | rfl | rfl | rfl <;> rfl

set_option maxHeartbeats 4000000 in
set_option maxRecDepth 100000 in
theorem digest (s : St) (hs : s.ok) (l : List UInt8) (g o c : Nat) (w : World) (hl : l.length = 64) (hb : ∀ (j : Nat) (x : UInt8), l[j]? = some x → w.cell? ⟨g, o + j, none⟩ = some (.int .u8 (x.toNat : Int))) (hg : g < w.heap.size) :
    Calls Tryz.prog 166 #[.agg (wcells (stw s)), .slice (some ⟨g, o, none⟩) 64 c] w fun e w' => e = .returned (.agg (wcells (stw (Sha.digest s l)))) ∧ Below w.heap.size w w' := by
  have hsz : (wcells (stw s)).size = 8 := rfl
  have hone := wcells_one (stw s)
  generalize hS : wcells (stw s) = S at *
  have HS := Lib.hid hS; clear hS
  have HB := Lib.hid hb; clear hb
  go_enter Tryz.func166, Tryz.ntmps166
  go_wp2_with fail
  have hB1 : Below w.heap.size w ((w.alloc (.cells S 216)).alloc (.cells #[.int .u32 0, .int .u32 0, .int .u32 0, .int .u32 0, .int .u32 0, .int .u32 0, .int .u32 0, .int .u32 0] 216)) := ((Below.refl _ _).alloc (Nat.le_refl _) _).alloc (by simp) _
  have h0 := heap_alloc2_old w (.cells S 216) (.cells #[.int .u32 0, .int .u32 0, .int .u32 0, .int .u32 0, .int .u32 0, .int .u32 0, .int .u32 0, .int .u32 0] 216)
  have h1 := heap_alloc2_new w (.cells S 216) (.cells #[.int .u32 0, .int .u32 0, .int .u32 0, .int .u32 0, .int .u32 0, .int .u32 0, .int .u32 0, .int .u32 0] 216)
  have z1 : w.heap.size + 2 ≤ ((w.alloc (.cells S 216)).alloc (.cells #[.int .u32 0, .int .u32 0, .int .u32 0, .int .u32 0, .int .u32 0, .int .u32 0, .int .u32 0, .int .u32 0] 216)).heap.size := by simp
  generalize (w.alloc (.cells S 216)).alloc (.cells #[.int .u32 0, .int .u32 0, .int .u32 0, .int .u32 0, .int .u32 0, .int .u32 0, .int .u32 0, .int .u32 0] 216) = w1 at *
  refine (schedule l g o c w1 hl (fun j x h => (hB1.cell hg).trans (HB.out j x h)) (by omega)).mono ?_
  rintro e w2 ⟨rfl, hb2⟩
  go_wp2_with fail
  refine (constants w2).mono ?_
  rintro e w3 ⟨rfl, hb3⟩
  have hsL : (wcells (sched l 64)).size = 64 := by rw [wcells_size, sched_length]
  have hoL := wcells_one (sched l 64)
  have hsK : (wcells K).size = 64 := rfl
  have hoK := wcells_one K
  generalize hL : wcells (sched l 64) = L at *
  have HL := Lib.hid hL; clear hL
  generalize hKK : wcells K = KK at *
  have HK := Lib.hid hKK; clear hKK
  have s2 := hb2.size
  have s3 := hb3.size
  have h0' : w3.heap[w.heap.size]? = some (.cells S 216 (0, 0)) := (hb3.block _ (by omega)).trans ((hb2.block _ (by omega)).trans h0)
  have h1' : w3.heap[w.heap.size + 1]? = some (.cells #[.int .u32 0, .int .u32 0, .int .u32 0, .int .u32 0, .int .u32 0, .int .u32 0, .int .u32 0, .int .u32 0] 216 (0, 0)) := (hb3.block _ (by omega)).trans ((hb2.block _ (by omega)).trans h1)
  have hB3 : Below w.heap.size w w3 := (hB1.trans (hb2.mono (by omega))).trans (hb3.mono (by omega))
  clear h0 h1 hB1 hb2 hb3
  have hu : Tryz.prog.underlying 216 = some (.array 8 193) := by kernel_rfl
  have hi8 : (Tryz.prog.info? 216).map (·.size) = some 8 := by kernel_rfl
  have hi64 : (Tryz.prog.info? 246).map (·.size) = some 64 := by kernel_rfl
  have hiS : (Tryz.prog.info? 216).map (·.size) = some S.size := hi8.trans (congrArg some hsz.symm)
  have hiL : (Tryz.prog.info? 246).map (·.size) = some L.size := hi64.trans (congrArg some hsL.symm)
  have hiK : (Tryz.prog.info? 246).map (·.size) = some KK.size := hi64.trans (congrArg some hsK.symm)
  go_wp2_with (first
    | (guard_target =~ wpList _ _ _ ({ dst := _, op := Op.store 246 (.tmp 5) _, type := _, pos := _, after := _, guard := none } :: _) _ _; refine wpList_store_row rfl 246 _ _ rfl _ _ rfl rfl _ _ (heap_alloc2_old _ _ _) hiL hsL.symm hoL ?_)
    | (guard_target =~ wpList _ _ _ ({ dst := _, op := Op.store 246 (.tmp 6) _, type := _, pos := _, after := _, guard := none } :: _) _ _; refine wpList_store_row rfl 246 _ _ rfl _ _ rfl rfl _ _ ((heap_setRow_other _ (by simp)).trans (heap_alloc2_new _ _ _)) hiK hsK.symm hoK ?_; refine lay2 ?_; intro w4 z4 hL4 hK4 hB4)
    | (guard_target =~ wpList _ _ _ ({ dst := _, op := Op.load 216 (.tmp 2), type := _, pos := _, after := _, guard := none } :: _) _ _; refine wpList_load_row rfl 216 _ rfl _ rfl _ _ _ _ ((hB4.block _ (by omega)).trans h0') hu rfl hiS ?_)
    | (guard_target =~ wpList _ _ _ ({ dst := _, op := Op.store 216 (.tmp 7) _, type := _, pos := _, after := _, guard := none } :: _) _ _; refine wpList_store_row rfl 216 _ _ rfl _ _ rfl rfl _ _ (alloc_at z4 _) hiS hsz.symm hone ?_; refine lay1 z4 ?_; intro w5 z5 hS5 hB5))
  have hS0 := ((hB5.block _ (by omega)).trans (hB4.block _ (by omega))).trans h0'
  have hR0 := ((hB5.block _ (by omega)).trans (hB4.block _ (by omega))).trans h1'
  have hL0 := (hB5.block _ (by omega)).trans hL4
  have hK0 := (hB5.block _ (by omega)).trans hK4
  have hB0 : Below w.heap.size w w5 := (hB3.trans (hB4.mono (by omega))).trans (hB5.mono (by omega))
  generalize w3.heap.size = n at *
  clear hB3 hB4 hB5 hL4 hK4 h0' h1' z4
  rw [← HS.out] at hS5 hS0
  rw [← HL.out] at hL0
  rw [← HK.out] at hK0
  go_loopg [17] 64 (fun m v wr => ∃ t : Nat, t + m = 64 ∧ v = .int .i64 t ∧ Hid (Ws (n + 2) 216 wr (stw (rounds s (sched l 64) t))) ∧ Hid (Ws n 246 wr (sched l 64)) ∧ Hid (Ws (n + 1) 246 wr K) ∧ Hid (Ws w.heap.size 216 wr (stw s)) ∧ Hid (wr.heap[w.heap.size + 1]? = w5.heap[w.heap.size + 1]?) ∧ Hid (Below w.heap.size w wr))
  case atStart => exact ⟨0, by omega, rfl, hS5, hL0, hK0, hS0, rfl, hB0⟩
  case round =>
    clear hS5 hL0 hK0 hS0 hB0
    obtain ⟨t, htm, rfl, HW, HL1, HK1, HS1, HR1, HBL⟩ := hrel
    have HG := Lib.hid htm
    have ht : t ≤ 64 := by omega
    clear htm
    by_cases hlt : t < 64
    · have gw : ∀ x : List Nat, t < x.length → x[t]? = some (x.getD t 0) := fun x hx => by
        rw [List.getD_eq_getElem?_getD, List.getElem?_eq_getElem hx]
        rfl
      have cl := HL1.out.cell (gw (sched l 64) (by rw [sched_length]; exact hlt))
      have ck := HK1.out.cell (gw K hlt)
      clear gw
      generalize hX : rounds s (sched l 64) t = X at *
      have HX := Lib.hid hX; clear hX
      have a0 := HW.out.cell (j := 0) (x := X.a) rfl
      have a1 := HW.out.cell (j := 1) (x := X.b) rfl
      have a2 := HW.out.cell (j := 2) (x := X.c) rfl
      have a3 := HW.out.cell (j := 3) (x := X.d) rfl
      have a4 := HW.out.cell (j := 4) (x := X.e) rfl
      have a5 := HW.out.cell (j := 5) (x := X.f) rfl
      have a6 := HW.out.cell (j := 6) (x := X.g) rfl
      have a7 := HW.out.cell (j := 7) (x := X.h) rfl
      generalize hlw : (sched l 64).getD t 0 = lw at *
      generalize hkk : K.getD t 0 = kk at *
      have HLW := Lib.hid hlw; clear hlw
      have HKK2 := Lib.hid hkk; clear hkk
      have y0 : (0 : Int) ≤ (t : Int) := by omega
      have y1 : (t : Int) < 64 := by omega
      have hok : X.ok := HX.out ▸ rounds_ok hs t
      have he : X.e < 4294967296 := hok.2.2.2.2.1
      have ha : X.a < 4294967296 := hok.1
      go_wp2_with fail
      go_quiet (first | (go_at_call 203; exact rotQ _ _ _ _ (by assumption) (by decide) (by decide)))
      clear cl ck
      obtain ⟨w7, hw7⟩ : ∃ w7, w7 = wr.drewN nq := ⟨_, rfl⟩
      rw [← hw7]
      have HW := Lib.hid (show Ws (n + 2) 216 w7 (stw X) by rw [hw7]; exact HW.out)
      have HL1 := Lib.hid (show Ws n 246 w7 (sched l 64) by rw [hw7]; exact HL1.out)
      have HK1 := Lib.hid (show Ws (n + 1) 246 w7 K by rw [hw7]; exact HK1.out)
      have HS1 := Lib.hid (show Ws w.heap.size 216 w7 (stw s) by rw [hw7]; exact HS1.out)
      have HR1 := Lib.hid (show w7.heap[w.heap.size + 1]? = w5.heap[w.heap.size + 1]? by rw [hw7]; exact HR1.out)
      have HBL := Lib.hid (show Below w.heap.size w w7 by rw [hw7]; exact below_drewN HBL.out nq)
      clear a0 a1 a2 a3 a4 a5 a6 a7 hw7
      have a0 := HW.out.cell (j := 0) (x := X.a) rfl
      have a1 := HW.out.cell (j := 1) (x := X.b) rfl
      have a2 := HW.out.cell (j := 2) (x := X.c) rfl
      have a3 := HW.out.cell (j := 3) (x := X.d) rfl
      have a4 := HW.out.cell (j := 4) (x := X.e) rfl
      have a5 := HW.out.cell (j := 5) (x := X.f) rfl
      have a6 := HW.out.cell (j := 6) (x := X.g) rfl
      have a7 := HW.out.cell (j := 7) (x := X.h) rfl
      rw [t1_eq' hok]
      obtain ⟨T1, hT1⟩ : ∃ T1, T1 = t1 X kk lw := ⟨_, rfl⟩
      rw [← hT1]
      have HT1 := Lib.hid hT1; clear hT1
      rw [show (if IntKind.u32.signed = true then (-1 : Int) else IntKind.u32.max) = IntKind.u32.max from rfl]
      go_wp2_with fail
      go_quiet (first | (go_at_call 203; exact rotQ _ _ _ _ (by assumption) (by decide) (by decide)))
      obtain ⟨w8, hw8⟩ : ∃ w8, w8 = w7.drewN nq := ⟨_, rfl⟩
      rw [← hw8]
      have HW := Lib.hid (show Ws (n + 2) 216 w8 (stw X) by rw [hw8]; exact HW.out)
      have HL1 := Lib.hid (show Ws n 246 w8 (sched l 64) by rw [hw8]; exact HL1.out)
      have HK1 := Lib.hid (show Ws (n + 1) 246 w8 K by rw [hw8]; exact HK1.out)
      have HS1 := Lib.hid (show Ws w.heap.size 216 w8 (stw s) by rw [hw8]; exact HS1.out)
      have HR1 := Lib.hid (show w8.heap[w.heap.size + 1]? = w5.heap[w.heap.size + 1]? by rw [hw8]; exact HR1.out)
      have HBL := Lib.hid (show Below w.heap.size w w8 by rw [hw8]; exact below_drewN HBL.out nq)
      clear a0 a1 a2 a3 a4 a5 a6 a7 hw8
      have a0 := HW.out.cell (j := 0) (x := X.a) rfl
      have a1 := HW.out.cell (j := 1) (x := X.b) rfl
      have a2 := HW.out.cell (j := 2) (x := X.c) rfl
      have a3 := HW.out.cell (j := 3) (x := X.d) rfl
      have a4 := HW.out.cell (j := 4) (x := X.e) rfl
      have a5 := HW.out.cell (j := 5) (x := X.f) rfl
      have a6 := HW.out.cell (j := 6) (x := X.g) rfl
      have a7 := HW.out.cell (j := 7) (x := X.h) rfl
      rw [t2_eq' hok]
      obtain ⟨T2, hT2⟩ : ∃ T2, T2 = t2 X := ⟨_, rfl⟩
      rw [← hT2]
      have HT2 := Lib.hid hT2; clear hT2
      have hsX : (wcells (stw X)).size = 8 := rfl
      have HRC := Lib.hid (show (#[.int .u32 (IntKind.u32.wrap ((T1 : Nat) + (T2 : Nat))), w32 X.a, w32 X.b, w32 X.c, .int .u32 (IntKind.u32.wrap ((X.d : Int) + (T1 : Nat))), w32 X.e, w32 X.f, w32 X.g] : Array Value) = wcells (stw (round X kk lw)) by
        rw [HT1.out, HT2.out]
        exact round_cells X kk lw)
      have HXX := Lib.hid (show rounds s (sched l 64) (t + 1) = round X kk lw by
        rw [rounds_succ, HX.out, HLW.out, HKK2.out])
      have hsr : (wcells (stw (round X kk lw))).size = 8 := rfl
      have hor := wcells_one (stw (round X kk lw))
      generalize round X kk lw = X2 at *
      go_wp2_with (first
        | (guard_target =~ wpList _ _ _ ({ dst := _, op := Op.build 216 _, type := _, pos := _, after := _, guard := none } :: _) _ _; refine wpList_build_as rfl 216 _ rfl #[.int .u32 (IntKind.u32.wrap ((T1 : Nat) + (T2 : Nat))), w32 X.a, w32 X.b, w32 X.c, .int .u32 (IntKind.u32.wrap ((X.d : Int) + (T1 : Nat))), w32 X.e, w32 X.f, w32 X.g] (by kernel_rfl) ?_; rw [HRC.out])
        | (guard_target =~ wpList _ _ _ ({ dst := _, op := Op.store 216 (.tmp 7) _, type := _, pos := _, after := _, guard := none } :: _) _ _; refine wpList_store_row rfl 216 _ _ rfl _ (wcells (stw X2)) rfl rfl _ _ HW.out hi8 hsX hor ?_))
      go_roundg (64 - (t + 1))
      case measure => have := HG.out; omega
      case rel =>
        refine ⟨t + 1, by omega, by go_num, ?_, Ws.setRow HL1.out (by omega) _, Ws.setRow HK1.out (by omega) _, Ws.setRow HS1.out (by omega) _, (heap_setRow_other _ (by omega)).trans HR1.out, below_row HBL.out (by omega) _⟩
        rw [HXX.out]
        exact heap_setRow _ HW.out
    · obtain rfl : t = 64 := by omega
      clear HG hlt ht
      have hR1 := HR1.out.trans hR0
      clear HR1 hR0 HL1 HK1
      have HD := Lib.hid (show Sha.digest s l = add s (rounds s (sched l 64) 64) from rfl)
      generalize rounds s (sched l 64) 64 = R at *
      rw [← mix_zero s R] at HW
      obtain ⟨W2, rfl⟩ : ∃ W2, W2 = wr := ⟨_, rfl⟩
      go_wp2_with fail
      go_loopg [102] 8 (fun m v wr => ∃ j : Nat, j + m = 8 ∧ v = .int .i64 j ∧ Hid (Ws (n + 2) 216 wr (mix s R j)) ∧ Hid (Ws w.heap.size 216 wr (stw s)) ∧ Hid (wr.heap[w.heap.size + 1]? = some (.cells #[.int .u32 0, .int .u32 0, .int .u32 0, .int .u32 0, .int .u32 0, .int .u32 0, .int .u32 0, .int .u32 0] 216 (0, 0))) ∧ Hid (Below w.heap.size w wr))
      case atStart => exact ⟨0, by omega, rfl, HW, HS1, hR1, HBL⟩
      case round =>
        clear HW HS1 hR1 HBL
        obtain ⟨j, hjm, rfl, HW, HS1, HR1, HBL⟩ := hrel
        have HG := Lib.hid hjm
        have hj8 : j ≤ 8 := by omega
        clear hjm
        by_cases hlt : j < 8
        · have ca := HW.out.drew.cell (mix_get s R hlt)
          have cs := HS1.out.drew.cell (stw_get s hlt)
          have fa := HW.out.drew.free j
          have HV := Lib.hid ((wrap_add ((stw R).getD j 0) ((stw s).getD j 0)).trans (congrArg (fun x : Nat => (x : Int)) (add_get s R hlt).symm))
          have HP := Lib.hid (show Ws (n + 2) 216 (wr.setCell ⟨n + 2, j, none⟩ (w32 ((stw (add s R)).getD j 0))).drew (mix s R (j + 1)) by
            have := HW.out.put j ((stw (add s R)).getD j 0)
            rw [mix_set s R hlt] at this
            exact this.drew)
          have HS2 := Lib.hid (show Ws w.heap.size 216 (wr.setCell ⟨n + 2, j, none⟩ (w32 ((stw (add s R)).getD j 0))).drew (stw s) from (Below.heap_setCell _ _ _ _ (by simp only; omega)).trans HS1.out)
          have HR2 := Lib.hid (show (wr.setCell ⟨n + 2, j, none⟩ (w32 ((stw (add s R)).getD j 0))).drew.heap[w.heap.size + 1]? = some (.cells #[.int .u32 0, .int .u32 0, .int .u32 0, .int .u32 0, .int .u32 0, .int .u32 0, .int .u32 0, .int .u32 0] 216 (0, 0)) from (Below.heap_setCell _ _ _ _ (by simp only; omega)).trans HR1.out)
          have HB2 := Lib.hid ((HBL.out.setCell (p := ⟨n + 2, j, none⟩) (by simp only; omega) (w32 ((stw (add s R)).getD j 0))).drew)
          have y0 : (0 : Int) ≤ (j : Int) := by omega
          have y1 : (j : Int) < 8 := by omega
          generalize (stw R).getD j 0 = ra at *
          generalize (stw s).getD j 0 = rs at *
          generalize (stw (add s R)).getD j 0 = rv at *
          go_wp2_with fail
          refine region_tail 8 (by kernel_rfl) ?_
          simp only [List.take_succ_cons, List.take_zero, List.drop_succ_cons, List.drop_zero]
          repeat still_step
          refine wpStill_nil ?_
          go_wp2_with fail
          rw [← IntKind.wrap_u32', HV.out]
          go_roundg (8 - (j + 1))
          case measure => have := HG.out; omega
          case rel => exact ⟨j + 1, by omega, by go_num, HP, HS2, HR2, HB2⟩
        · obtain rfl : j = 8 := by omega
          clear HG hlt hj8
          rw [mix_all s R, ← HD.out] at HW
          generalize hL : stw (Sha.digest s l) = L2 at *
          have hL8 : L2.length = 8 := by rw [← hL]; rfl
          have HL := Lib.hid hL; clear hL
          have hsL2 : (wcells L2).size = 8 := by rw [wcells_size, hL8]
          have hi2 : (Tryz.prog.info? 216).map (·.size) = some (wcells L2).size := hi8.trans (congrArg some hsL2.symm)
          have hoL2 := wcells_one L2
          generalize hC : wcells L2 = C at *
          have HC := Lib.hid hC; clear hC
          have HWC := Lib.hid (show wr.heap[n + 2]? = some (.cells C 216 (0, 0)) by rw [← HC.out]; exact HW.out)
          go_wp2_with (first
            | (guard_target =~ wpList _ _ _ ({ dst := _, op := Op.load 216 _, type := _, pos := _, after := _, guard := none } :: _) _ _; refine wpList_load_row rfl 216 _ rfl _ rfl _ _ _ _ HWC.out hu rfl hi2 ?_)
            | (guard_target =~ wpList _ _ _ ({ dst := _, op := Op.store 216 _ _, type := _, pos := _, after := _, guard := none } :: _) _ _; refine wpList_store_row rfl 216 _ _ rfl _ _ rfl rfl _ _ HR1.out hi2 hsL2.symm hoL2 ?_))
          refine bodyPost_ret (results_cell_row rfl _ _ (w.heap.size + 1) 216 _ _ _ rfl (heap_setRow _ HR1.out) hu rfl hi2) rfl ⟨by rw [HL.out, HC.out], ?_⟩
          exact below_row HBL.out (Nat.le_succ _) _
end Go.Proofs.YtidflagmdabfaaaGreatDoor.ShaD
namespace Go.Proofs.YtidflagmdabfaaaGreatDoor.Sha

/-- whole blocks, and what is left behind k of them -/
def st (k : Nat) (l : List UInt8) : St := blocks init k l
theorem st_app (k : Nat) (l r : List UInt8) (h : 64 * k ≤ l.length) : st k (l ++ r) = st k l := blocks_app k init l r h
theorem st_step (k : Nat) (l : List UInt8) : st (k + 1) l = digest (st k l) ((l.drop (64 * k)).take 64) := by
  unfold st
  rw [blocks_add 1 k]
  rfl
theorem st_ok (k : Nat) (l : List UInt8) : (st k l).ok := blocks_ok k l init_ok
/-- what stands behind a message of n bytes -/
def tail (n : Nat) : List UInt8 := 128 :: (List.replicate (zeros n) 0 ++ be8 (8 * n))
theorem pad_eq (l : List UInt8) : pad l = l ++ tail l.length := rfl
theorem tail_length (n : Nat) : (tail n).length = 1 + zeros n + 8 := by
  unfold tail be8
  simp only [List.length_append, List.length_cons, List.length_replicate, List.length_map, List.length_nil]
  omega
/-- the message's end, from block k on -/
def fin (k : Nat) (l : List UInt8) : List UInt8 := l.drop (64 * k) ++ tail l.length
theorem fin_eq (k : Nat) (l : List UInt8) (h : 64 * k ≤ l.length) : (pad l).drop (64 * k) = fin k l := by
  rw [pad_eq, List.drop_append_of_le_length h]
  rfl
theorem fin_mod (k : Nat) (l : List UInt8) (h : 64 * k ≤ l.length) : (fin k l).length % 64 = 0 := by
  rw [← fin_eq k l h, List.length_drop]
  have := pad_mod l
  omega
theorem sha_fin (k : Nat) (l : List UInt8) (h : 64 * k ≤ l.length) : sha l = out (blocks (st k l) ((fin k l).length / 64) (fin k l)) := by
  have h1 : (pad l).length / 64 = k + (fin k l).length / 64 := by
    rw [← fin_eq k l h, List.length_drop]
    have h2 := pad_mod l
    have h3 : l.length ≤ (pad l).length := by rw [pad_length]; omega
    omega
  unfold sha
  rw [h1, blocks_add, fin_eq k l h, pad_eq, blocks_app k init l _ h]
  rfl
theorem zeros_lt (n : Nat) : zeros n < 64 := by
  unfold zeros
  omega
/-- the zeros so far: j of them -/
theorem zeros_more {n r j : Nat} (hr : n % 64 = r % 64) (hj : j ≤ zeros n) : (r + 1 + j) % 64 = 56 ↔ j = zeros n := by
  unfold zeros at *
  omega
end Go.Proofs.YtidflagmdabfaaaGreatDoor.Sha
namespace Go.Proofs.YtidflagmdabfaaaGreatDoor.Ht
open Go

def rng (lo hi : Int) (c : UInt8) : Bool := decide (lo ≤ (c.toNat : Int)) && decide ((c.toNat : Int) ≤ hi)
/-- all of a range -/
def allR (lo hi : Int) (l : List UInt8) : Bool := l.all (rng lo hi)
def upc (c : UInt8) : Bool := rng 65 90 c
def nmc (c : UInt8) : Bool := upc c || rng 97 122 c || rng 48 57 c || c == 45
def lc (c : UInt8) : UInt8 := if upc c then c + 32 else c
def vlc (c : UInt8) : Bool := c == 9 || rng 32 126 c
def spc (c : UInt8) : Bool := c == 32 || c == 9
abbrev Fld := List UInt8 × List UInt8

/-- a text's parts between the separators -/
def parts (sep : List UInt8) : Nat → List UInt8 → List (List UInt8)
  | 0, l => [l]
  | k + 1, l => if Lib.index l sep = -1 then [l] else l.take (Lib.index l sep).toNat :: parts sep k (l.drop ((Lib.index l sep).toNat + sep.length))
def split (sep l : List UInt8) : List (List UInt8) := parts sep (Lib.count l sep) l

theorem parts_eq (sep : List UInt8) : ∀ (k : Nat) (s : ByteArray), (Lib.splitB ⟨sep.toArray⟩ 0 k s).map (·.data.toList) = parts sep k s.data.toList
  | 0, s => rfl
  | k + 1, s => by
    unfold Lib.splitB parts
    have e : Lib.indexB s ⟨sep.toArray⟩ = Lib.index s.data.toList sep := rfl
    rw [e]
    by_cases h : Lib.index s.data.toList sep = -1
    · rw [if_pos (beq_iff_eq.2 h), if_pos h]; rfl
    · rw [if_neg (fun h2 => h (beq_iff_eq.1 h2)), if_neg h, List.map_cons, parts_eq sep k]
      have h1 := Lib.index_room s.data.toList sep (by have := Lib.index_ge s.data.toList sep; omega)
      congr 1
      · rw [Lib.extract_eq]; simp
      · congr 1
        rw [Lib.extract_to_end]
        rfl
theorem split_eq (sep : List UInt8) (s : ByteArray) : (Lib.splitB ⟨sep.toArray⟩ 0 (Lib.countB s ⟨sep.toArray⟩) s).map (·.data.toList) = split sep s.data.toList := parts_eq sep _ s
theorem parts_ne (sep : List UInt8) (k : Nat) (l : List UInt8) : parts sep k l ≠ [] := by
  cases k with
  | zero => simp [parts]
  | succ k => unfold parts; split <;> simp
theorem split_ne (sep l : List UInt8) : split sep l ≠ [] := parts_ne _ _ _
theorem parts_size {sep : List UInt8} : ∀ (k : Nat) (l x : List UInt8), x ∈ parts sep k l → x.length ≤ l.length
  | 0, l, x, h => by simp [parts] at h; subst h; exact Nat.le_refl _
  | k + 1, l, x, h => by
    unfold parts at h
    split at h
    · simp at h; subst h; exact Nat.le_refl _
    · rcases List.mem_cons.1 h with rfl | h
      · rw [List.length_take]; omega
      · have := parts_size k _ x h
        rw [List.length_drop] at this
        omega
theorem split_size {sep l x : List UInt8} (h : x ∈ split sep l) : x.length ≤ l.length := parts_size _ _ _ h
theorem parts_length {sep : List UInt8} : ∀ (k : Nat) (l : List UInt8), (parts sep k l).length ≤ k + 1
  | 0, l => by simp [parts]
  | k + 1, l => by
    unfold parts
    split
    · simp
    · have := parts_length (sep := sep) k (l.drop ((Lib.index l sep).toNat + sep.length))
      simp only [List.length_cons]; omega
theorem split_length (sep l : List UInt8) : (split sep l).length ≤ l.length + 2 := by
  have h1 := parts_length (sep := sep) (Lib.count l sep) l
  have h2 := Lib.count_le l sep
  unfold split
  omega

/-- a name in small letters -/
def lower (n : List UInt8) : List UInt8 × Bool := if n.all nmc = true then (n.map lc, decide (0 < n.length)) else ([], false)
def trim (v : List UInt8) : List UInt8 := Lib.trimS v [32, 9]
/-- before and behind the first colon -/
def name (s : List UInt8) : List UInt8 := (Lib.cut s [58]).1
def value (s : List UInt8) : List UInt8 := (Lib.cut s [58]).2.1
def found (s : List UInt8) : Bool := (Lib.cut s [58]).2.2
/-- a line's field -/
def field (s : List UInt8) : Option Fld := if found s = true ∧ (name s).all nmc = true ∧ name s ≠ [] ∧ (value s).all vlc = true then some ((name s).map lc, trim (value s)) else none

def http : List UInt8 := [72, 84, 84, 80, 47, 49, 46, 49]
def okm (m : List UInt8) : Bool := decide (1 ≤ m.length) && decide (m.length ≤ 16) && allR 65 90 m
def okt (t : List UInt8) : Bool := Lib.hasPrefix t [47] && allR 33 126 t
/-- a first line: method and target -/
def first (s : List UInt8) : Option Fld := match split [32] s with
  | [m, t, v] => if v = http ∧ okm m = true ∧ okt t = true then some (m, t) else none
  | _ => none
def fields : List (List UInt8) → Option (List Fld)
  | [] => some []
  | l :: r => match field l with
    | none => none
    | some f => match fields r with
      | none => none
      | some fs => some (f :: fs)

theorem first_three {l m t v : List UInt8} (h : split [32] l = [m, t, v]) : first l = if v = http ∧ okm m = true ∧ okt t = true then some (m, t) else none := by
  unfold first
  rw [h]
theorem first_not {l : List UInt8} (h : (split [32] l).length ≠ 3) : first l = none := by
  unfold first
  split
  · rename_i e; rw [e] at h; simp at h
  · rfl
theorem three {α : Type} {l : List α} (h : l.length = 3) : ∃ a b c, l = [a, b, c] := by
  match l, h with
  | [a, b, c], _ => exact ⟨a, b, c, rfl⟩

inductive Er where | bad | large
deriving DecidableEq
inductive Hd where | no (e : Er) | ok (m t : List UInt8) (fs : List Fld)
deriving DecidableEq
/-- a head -/
def head (s : List UInt8) : Hd := match split [13, 10] s with
  | [] => .no .bad
  | l :: ls => match first l with
    | none => .no .bad
    | some mt => match fields ls with
      | none => .no .bad
      | some fs => if 32 < fs.length then .no .large else .ok mt.1 mt.2 fs

def cl : List UInt8 := [99, 111, 110, 116, 101, 110, 116, 45, 108, 101, 110, 103, 116, 104]
def te : List UInt8 := [116, 114, 97, 110, 115, 102, 101, 114, 45, 101, 110, 99, 111, 100, 105, 110, 103]
def cnt (fs : List Fld) (n : List UInt8) : Nat := (fs.filter fun f => f.1 == n).length
def get (fs : List Fld) (n : List UInt8) : Option (List UInt8) := (fs.find? fun f => f.1 == n).map (·.2)
inductive Sz where | no (e : Er) | ok (n : Nat)
deriving DecidableEq
def dec (l : List UInt8) : Nat := l.foldl (fun n c => n * 10 + (c.toNat - 48)) 0
/-- how long a body is -/
def size (fs : List Fld) : Sz := if 0 < cnt fs te ∨ 1 < cnt fs cl then .no .bad else match get fs cl with
  | none => .ok 0
  | some s => if 1 ≤ s.length ∧ s.length ≤ 9 ∧ allR 48 57 s = true then (if 1024 < dec s then .no .large else .ok (dec s)) else .no .bad

def crlf2 : List UInt8 := [13, 10, 13, 10]
inductive Res where | none | no (e : Er) | ok (m t : List UInt8) (fs : List Fld) (body : List UInt8) (n : Nat)
deriving DecidableEq
/-- the request with which bytes begin -/
def parse (b : List UInt8) : Res :=
  if Lib.index (b.take 2048) crlf2 = -1 then (if 2048 ≤ b.length then .no .large else .none) else
  match head (b.take (Lib.index (b.take 2048) crlf2).toNat) with
  | .no e => .no e
  | .ok m t fs => match size fs with
    | .no e => .no e
    | .ok k => if b.length - ((Lib.index (b.take 2048) crlf2).toNat + 4) < k then .none else
      .ok m t fs ((b.drop ((Lib.index (b.take 2048) crlf2).toNat + 4)).take k) ((Lib.index (b.take 2048) crlf2).toNat + 4 + k)

/-- "GET /a HTTP/1.1\r\nHost: x\r\n\r\nrest" -/
def small : List UInt8 := [71, 69, 84, 32, 47, 97, 32, 72, 84, 84, 80, 47, 49, 46, 49, 13, 10, 72, 111, 115, 116, 58, 32, 120, 13, 10, 13, 10, 114, 101, 115, 116]
theorem small_parse : parse small = .ok [71, 69, 84] [47, 97] [([104, 111, 115, 116], [120])] [] 28 := by decide +kernel
end Go.Proofs.YtidflagmdabfaaaGreatDoor.Ht
