/-
  The walk of package sha's state.digest. Plain: a digest of bytes that come piece by piece. A slice of bytes that its holder owns, wherever in its row it begins; what append makes of it.
-/
import Derived.Test.YtecnnlppinhmgaaGreatDoorSa01
import Derived.Test.YtecnnlppinhmgaaGreatDoorSa02
import Derived.Test.YtecnnlppinhmgaaGreatDoorSa03
import Derived.StillTailTactics
import Derived.BigQuiet
import Derived.WalkSmall
import Derived.ArgAppend
import Derived.Lib.EndianMore
namespace Go.Proofs.YtecnnlppinhmgaaGreatDoor.ShaD
open Go.RowKit Go.Proofs.YtecnnlppinhmgaaGreatDoor Go.Proofs.YtecnnlppinhmgaaGreatDoor.Sha Go.Proofs.YtecnnlppinhmgaaGreatDoor.ShaA Go.Proofs.YtecnnlppinhmgaaGreatDoor.ShaB Go.Proofs.YtecnnlppinhmgaaGreatDoor.ShaC

theorem heap_setRow_other {w : World} {g k : Nat} (cs : Array Value) (h : k ≠ g) : (w.setRow g cs).heap[k]? = w.heap[k]? := by
  simp [World.setRow, Array.getElem?_modify, Ne.symm h]

theorem lay2 {P : Program} {ops : Array Oper} {rest : List Oper} {a : Act} {Q : Exit → Act → World → Prop} {w3 : World} {o1 o2 L K : Array Value} {T : TypeId}
    (h : ∀ w4 : World, w4.heap.size = w3.heap.size + 2 → w4.heap[w3.heap.size]? = some (.cells L T (0, 0)) → w4.heap[w3.heap.size + 1]? = some (.cells K T (0, 0)) → Below w3.heap.size w3 w4 → wpList P ops Q rest a w4) :
    wpList P ops Q rest a ((((w3.alloc (.cells o1 T)).alloc (.cells o2 T)).setRow w3.heap.size L).setRow (w3.heap.size + 1) K) :=
  h _ (by simp) ((heap_setRow_other _ (by omega)).trans (heap_setRow _ (heap_alloc2_old _ _ _))) (heap_setRow _ ((heap_setRow_other _ (by omega)).trans (heap_alloc2_new _ _ _)))
    (below_row (below_row (((Below.refl _ _).alloc (Nat.le_refl _) _).alloc (by simp) _) (Nat.le_refl _) _) (Nat.le_succ _) _)

theorem alloc_at {w : World} {n : Nat} (hz : w.heap.size = n) (o : Obj) : (w.alloc o).heap[n]? = some o := hz ▸ heap_alloc_new w o
theorem lay1 {P : Program} {ops : Array Oper} {rest : List Oper} {a : Act} {Q : Exit → Act → World → Prop} {w4 : World} {n : Nat} {o1 L : Array Value} {T : TypeId} (hz : w4.heap.size = n)
    (h : ∀ w5 : World, w5.heap.size = n + 1 → w5.heap[n]? = some (.cells L T (0, 0)) → Below n w4 w5 → wpList P ops Q rest a w5) :
    wpList P ops Q rest a ((w4.alloc (.cells o1 T)).setRow n L) :=
  h _ (by simp [hz]) (heap_setRow _ (alloc_at hz _)) (below_row ((Below.refl _ _).alloc (Nat.le_of_eq hz.symm) _) (Nat.le_refl _) _)

theorem and_lt' {x y : Nat} (hx : x < M) : x &&& y < M := Nat.lt_of_le_of_lt Nat.and_le_left hx
theorem ch_eq (e f g : Nat) (he : e < M) (hf : f < M) (hg : g < M) : bits .xor .u32 (bits .and .u32 (e : Int) (f : Int)) (bits .and .u32 (bits .xor .u32 IntKind.u32.max (e : Int)) (g : Int)) = (ch e f g : Nat) := by
  have h1 : bits .xor .u32 IntKind.u32.max (e : Int) = ((e ^^^ 4294967295 : Nat) : Int) := by
    rw [Nat.xor_comm]
    exact u32_xor_nat 4294967295 e (by decide) he
  have hn : e ^^^ 4294967295 < M := xor_lt he (by decide)
  rw [h1, u32_and_nat e f he hf, u32_and_nat _ g hn hg]
  exact u32_xor_nat _ _ (and_lt hf) (and_lt hg)
theorem maj_eq (a b c : Nat) (ha : a < M) (hb : b < M) (hc : c < M) : bits .xor .u32 (bits .xor .u32 (bits .and .u32 (a : Int) (b : Int)) (bits .and .u32 (a : Int) (c : Int))) (bits .and .u32 (b : Int) (c : Int)) = (maj a b c : Nat) := by
  rw [u32_and_nat a b ha hb, u32_and_nat a c ha hc, u32_and_nat b c hb hc]
  exact xor3 _ _ _ (and_lt hb) (and_lt hc) (and_lt hc)
theorem t1_eq {X : St} (h : X.ok) (k w : Nat) : IntKind.u32.wrap (IntKind.u32.wrap (IntKind.u32.wrap (IntKind.u32.wrap ((X.h : Int) + bits .xor .u32 (bits .xor .u32 (rotr X.e 6 : Nat) (rotr X.e 11 : Nat)) (rotr X.e 25 : Nat)) + bits .xor .u32 (bits .and .u32 (X.e : Int) (X.f : Int)) (bits .and .u32 (bits .xor .u32 IntKind.u32.max (X.e : Int)) (X.g : Int))) + (k : Int)) + (w : Int)) = (t1 X k w : Nat) := by
  obtain ⟨_, _, _, _, he, hf, hg, _⟩ := h
  rw [xor3 _ _ _ (rotr_lt 6 he) (rotr_lt 11 he) (rotr_lt 25 he), ch_eq _ _ _ he hf hg, wrap_add, wrap_add, wrap_add, wrap_add]
  rfl
theorem t2_eq {X : St} (h : X.ok) : IntKind.u32.wrap (bits .xor .u32 (bits .xor .u32 (rotr X.a 2 : Nat) (rotr X.a 13 : Nat)) (rotr X.a 22 : Nat) + bits .xor .u32 (bits .xor .u32 (bits .and .u32 (X.a : Int) (X.b : Int)) (bits .and .u32 (X.a : Int) (X.c : Int))) (bits .and .u32 (X.b : Int) (X.c : Int))) = (t2 X : Nat) := by
  obtain ⟨ha, hb, hc, _, _, _, _, _⟩ := h
  rw [xor3 _ _ _ (rotr_lt 2 ha) (rotr_lt 13 ha) (rotr_lt 22 ha), maj_eq _ _ _ ha hb hc, wrap_add]
  rfl
theorem t1_eq' {X : St} (h : X.ok) (k w : Nat) : (((X.h : Int) + bits .xor .u32 (bits .xor .u32 (rotr X.e 6 : Nat) (rotr X.e 11 : Nat)) (rotr X.e 25 : Nat) + bits .xor .u32 (bits .and .u32 (X.e : Int) (X.f : Int)) (bits .and .u32 (bits .xor .u32 (if IntKind.u32.signed = true then -1 else IntKind.u32.max) (X.e : Int)) (X.g : Int)) + (k : Int)) % 4294967296 + (w : Int)) % 4294967296 = (t1 X k w : Nat) := by
  obtain ⟨_, _, _, _, he, hf, hg, _⟩ := h
  rw [if_neg (by decide), xor3 _ _ _ (rotr_lt 6 he) (rotr_lt 11 he) (rotr_lt 25 he), ch_eq _ _ _ he hf hg]
  unfold t1 e1
  generalize rotr X.e 6 ^^^ rotr X.e 11 ^^^ rotr X.e 25 = A
  generalize ch X.e X.f X.g = B
  unfold M
  omega
theorem t2_eq' {X : St} (h : X.ok) : (bits .xor .u32 (bits .xor .u32 (rotr X.a 2 : Nat) (rotr X.a 13 : Nat)) (rotr X.a 22 : Nat) + bits .xor .u32 (bits .xor .u32 (bits .and .u32 (X.a : Int) (X.b : Int)) (bits .and .u32 (X.a : Int) (X.c : Int))) (bits .and .u32 (X.b : Int) (X.c : Int))) % 4294967296 = (t2 X : Nat) := by
  obtain ⟨ha, hb, hc, _, _, _, _, _⟩ := h
  rw [xor3 _ _ _ (rotr_lt 2 ha) (rotr_lt 13 ha) (rotr_lt 22 ha), maj_eq _ _ _ ha hb hc]
  unfold t2 e0
  generalize rotr X.a 2 ^^^ rotr X.a 13 ^^^ rotr X.a 22 = A
  generalize maj X.a X.b X.c = B
  unfold M
  omega
theorem round_cells (X : St) (k w : Nat) : (#[.int .u32 (IntKind.u32.wrap ((t1 X k w : Nat) + (t2 X : Nat))), w32 X.a, w32 X.b, w32 X.c, .int .u32 (IntKind.u32.wrap ((X.d : Int) + (t1 X k w : Nat))), w32 X.e, w32 X.f, w32 X.g] : Array Value) = wcells (stw (round X k w)) := by
  rw [wrap_add, wrap_add]
  rfl

theorem rounds_succ (s : St) (w : List Nat) (t : Nat) : rounds s w (t + 1) = round (rounds s w t) (K.getD t 0) (w.getD t 0) := rfl
theorem Ws.setRow {B g : Nat} {t : TypeId} {w : World} {l : List Nat} (h : Ws B t w l) (hg : B ≠ g) (cs : Array Value) : Ws B t (w.setRow g cs) l := (heap_setRow_other cs hg).trans h
/-- the state while the eight sums are laid -/
def mix (s r : St) (j : Nat) : List Nat := (stw (add s r)).take j ++ (stw r).drop j
theorem region_tail {id : Nat} {Q : Exit → Act → World → Prop} {a : Act} {w : World} {l : List Oper} (n : Nat) (hB : Region.lexTailB .any l.toArray n = true)
    (h : wpStill Tryz.prog l.toArray w.drew (fun a' => wpList Tryz.prog l.toArray Q (l.drop n) a' w.drew) (l.take n) a) : (Code.region id l.toArray true).wp Tryz.prog Q a w :=
  wp_region_still_tail n (by kernel_rfl) hB h
theorem rotQ (x : Nat) (z : Int) (w : World) (n : Nat) (hx : x < M) (h0 : 0 < z.toNat) (h1 : z.toNat < 32) (hz : (z.toNat : Int) = z := by decide) : Calls Tryz.prog 124 #[w32 x, .int .i64 z] (w.drewN n) fun e w'' => e = .returned (w32 (rotr x z.toNat)) ∧ ∃ m, w'' = w.drewN m :=
  (rotI x z (w.drewN n) hx h0 h1 hz).mono fun _ _ h => ⟨h.1, n, h.2.symm⟩
theorem mix_zero (s r : St) : mix s r 0 = stw r := rfl
theorem mix_all (s r : St) : mix s r 8 = stw (add s r) := rfl
theorem lt8 {j : Nat} (h : j < 8) : j = 0 ∨ j = 1 ∨ j = 2 ∨ j = 3 ∨ j = 4 ∨ j = 5 ∨ j = 6 ∨ j = 7 := by omega
theorem mix_get (s r : St) {j : Nat} (h : j < 8) : (mix s r j)[j]? = some ((stw r).getD j 0) := by
  rcases lt8 h with rfl | rfl | rfl | rfl | rfl | rfl | rfl | rfl <;> rfl
theorem stw_get (s : St) {j : Nat} (h : j < 8) : (stw s)[j]? = some ((stw s).getD j 0) := by
  rcases lt8 h with rfl | rfl | rfl | rfl | rfl | rfl | rfl | rfl <;> rfl
theorem add_get (s r : St) {j : Nat} (h : j < 8) : (stw (add s r)).getD j 0 = ((stw r).getD j 0 + (stw s).getD j 0) % M := by
  rcases lt8 h with rfl | rfl | rfl | rfl | rfl | rfl | rfl | rfl <;> rfl
theorem mix_set (s r : St) {j : Nat} (h : j < 8) : (mix s r j).set j ((stw (add s r)).getD j 0) = mix s r (j + 1) := by
  rcases lt8 h with rfl | rfl | rfl | rfl | rfl | rfl | rfl | rfl <;> rfl

set_option maxHeartbeats 4000000 in
set_option maxRecDepth 100000 in
theorem digest (s : St) (hs : s.ok) (l : List UInt8) (g o c : Nat) (w : World) (hl : l.length = 64) (hb : ∀ (j : Nat) (x : UInt8), l[j]? = some x → w.cell? ⟨g, o + j, none⟩ = some (.int .u8 (x.toNat : Int))) (hg : g < w.heap.size) :
    Calls Tryz.prog 103 #[.agg (wcells (stw s)), .slice (some ⟨g, o, none⟩) 64 c] w fun e w' => e = .returned (.agg (wcells (stw (Sha.digest s l)))) ∧ Below w.heap.size w w' := by
  have hsz : (wcells (stw s)).size = 8 := rfl
  have hone := wcells_one (stw s)
  generalize hS : wcells (stw s) = S at *
  have HS := Lib.hid hS; clear hS
  have HB := Lib.hid hb; clear hb
  go_enter Tryz.func103, Tryz.ntmps103
  go_wp2_with fail
  have hB1 : Below w.heap.size w ((w.alloc (.cells S 167)).alloc (.cells #[.int .u32 0, .int .u32 0, .int .u32 0, .int .u32 0, .int .u32 0, .int .u32 0, .int .u32 0, .int .u32 0] 167)) := ((Below.refl _ _).alloc (Nat.le_refl _) _).alloc (by simp) _
  have h0 := heap_alloc2_old w (.cells S 167) (.cells #[.int .u32 0, .int .u32 0, .int .u32 0, .int .u32 0, .int .u32 0, .int .u32 0, .int .u32 0, .int .u32 0] 167)
  have h1 := heap_alloc2_new w (.cells S 167) (.cells #[.int .u32 0, .int .u32 0, .int .u32 0, .int .u32 0, .int .u32 0, .int .u32 0, .int .u32 0, .int .u32 0] 167)
  have z1 : w.heap.size + 2 ≤ ((w.alloc (.cells S 167)).alloc (.cells #[.int .u32 0, .int .u32 0, .int .u32 0, .int .u32 0, .int .u32 0, .int .u32 0, .int .u32 0, .int .u32 0] 167)).heap.size := by simp
  generalize (w.alloc (.cells S 167)).alloc (.cells #[.int .u32 0, .int .u32 0, .int .u32 0, .int .u32 0, .int .u32 0, .int .u32 0, .int .u32 0, .int .u32 0] 167) = w1 at *
  refine (schedule l g o c w1 hl (fun j x h => (hB1.cell hg).trans (HB.out j x h)) (by omega)).mono ?_
  rintro e w2 ⟨rfl, hb2⟩
  go_wp2_with fail
  refine (constants w2).mono ?_
  rintro e w3 ⟨rfl, hb3⟩
  have hsL : (wcells (sched l 64)).size = 64 := by rw [wcells_size, sched_length]
  have hoL := wcells_one (sched l 64)
  have hsK : (wcells K).size = 64 := rfl
  have hoK := wcells_one K
  generalize hL : wcells (sched l 64) = L at *
  have HL := Lib.hid hL; clear hL
  generalize hKK : wcells K = KK at *
  have HK := Lib.hid hKK; clear hKK
  have s2 := hb2.size
  have s3 := hb3.size
  have h0' : w3.heap[w.heap.size]? = some (.cells S 167 (0, 0)) := (hb3.block _ (by omega)).trans ((hb2.block _ (by omega)).trans h0)
  have h1' : w3.heap[w.heap.size + 1]? = some (.cells #[.int .u32 0, .int .u32 0, .int .u32 0, .int .u32 0, .int .u32 0, .int .u32 0, .int .u32 0, .int .u32 0] 167 (0, 0)) := (hb3.block _ (by omega)).trans ((hb2.block _ (by omega)).trans h1)
  have hB3 : Below w.heap.size w w3 := (hB1.trans (hb2.mono (by omega))).trans (hb3.mono (by omega))
  clear h0 h1 hB1 hb2 hb3
  have hu : Tryz.prog.underlying 167 = some (.array 8 90) := by kernel_rfl
  have hi8 : (Tryz.prog.info? 167).map (·.size) = some 8 := by kernel_rfl
  have hi64 : (Tryz.prog.info? 190).map (·.size) = some 64 := by kernel_rfl
  have hiS : (Tryz.prog.info? 167).map (·.size) = some S.size := hi8.trans (congrArg some hsz.symm)
  have hiL : (Tryz.prog.info? 190).map (·.size) = some L.size := hi64.trans (congrArg some hsL.symm)
  have hiK : (Tryz.prog.info? 190).map (·.size) = some KK.size := hi64.trans (congrArg some hsK.symm)
  go_wp2_with (first
    | (guard_target =~ wpList _ _ _ ({ dst := _, op := Op.store 190 (.tmp 5) _, type := _, pos := _, after := _, guard := none } :: _) _ _; refine wpList_store_row rfl 190 _ _ rfl _ _ rfl rfl _ _ (heap_alloc2_old _ _ _) hiL hsL.symm hoL ?_)
    | (guard_target =~ wpList _ _ _ ({ dst := _, op := Op.store 190 (.tmp 6) _, type := _, pos := _, after := _, guard := none } :: _) _ _; refine wpList_store_row rfl 190 _ _ rfl _ _ rfl rfl _ _ ((heap_setRow_other _ (by simp)).trans (heap_alloc2_new _ _ _)) hiK hsK.symm hoK ?_; refine lay2 ?_; intro w4 z4 hL4 hK4 hB4)
    | (guard_target =~ wpList _ _ _ ({ dst := _, op := Op.load 167 (.tmp 2), type := _, pos := _, after := _, guard := none } :: _) _ _; refine wpList_load_row rfl 167 _ rfl _ rfl _ _ _ _ ((hB4.block _ (by omega)).trans h0') hu rfl hiS ?_)
    | (guard_target =~ wpList _ _ _ ({ dst := _, op := Op.store 167 (.tmp 7) _, type := _, pos := _, after := _, guard := none } :: _) _ _; refine wpList_store_row rfl 167 _ _ rfl _ _ rfl rfl _ _ (alloc_at z4 _) hiS hsz.symm hone ?_; refine lay1 z4 ?_; intro w5 z5 hS5 hB5))
  have hS0 := ((hB5.block _ (by omega)).trans (hB4.block _ (by omega))).trans h0'
  have hR0 := ((hB5.block _ (by omega)).trans (hB4.block _ (by omega))).trans h1'
  have hL0 := (hB5.block _ (by omega)).trans hL4
  have hK0 := (hB5.block _ (by omega)).trans hK4
  have hB0 : Below w.heap.size w w5 := (hB3.trans (hB4.mono (by omega))).trans (hB5.mono (by omega))
  generalize w3.heap.size = n at *
  clear hB3 hB4 hB5 hL4 hK4 h0' h1' z4
  rw [← HS.out] at hS5 hS0
  rw [← HL.out] at hL0
  rw [← HK.out] at hK0
  go_loopg [17] 64 (fun m v wr => ∃ t : Nat, t + m = 64 ∧ v = .int .i64 t ∧ Hid (Ws (n + 2) 167 wr (stw (rounds s (sched l 64) t))) ∧ Hid (Ws n 190 wr (sched l 64)) ∧ Hid (Ws (n + 1) 190 wr K) ∧ Hid (Ws w.heap.size 167 wr (stw s)) ∧ Hid (wr.heap[w.heap.size + 1]? = w5.heap[w.heap.size + 1]?) ∧ Hid (Below w.heap.size w wr))
  case atStart => exact ⟨0, by omega, rfl, hS5, hL0, hK0, hS0, rfl, hB0⟩
  case round =>
    clear hS5 hL0 hK0 hS0 hB0
    obtain ⟨t, htm, rfl, HW, HL1, HK1, HS1, HR1, HBL⟩ := hrel
    have HG := Lib.hid htm
    have ht : t ≤ 64 := by omega
    clear htm
    by_cases hlt : t < 64
    · have gw : ∀ x : List Nat, t < x.length → x[t]? = some (x.getD t 0) := fun x hx => by
        rw [List.getD_eq_getElem?_getD, List.getElem?_eq_getElem hx]
        rfl
      have cl := HL1.out.cell (gw (sched l 64) (by rw [sched_length]; exact hlt))
      have ck := HK1.out.cell (gw K hlt)
      clear gw
      generalize hX : rounds s (sched l 64) t = X at *
      have HX := Lib.hid hX; clear hX
      have a0 := HW.out.cell (j := 0) (x := X.a) rfl
      have a1 := HW.out.cell (j := 1) (x := X.b) rfl
      have a2 := HW.out.cell (j := 2) (x := X.c) rfl
      have a3 := HW.out.cell (j := 3) (x := X.d) rfl
      have a4 := HW.out.cell (j := 4) (x := X.e) rfl
      have a5 := HW.out.cell (j := 5) (x := X.f) rfl
      have a6 := HW.out.cell (j := 6) (x := X.g) rfl
      have a7 := HW.out.cell (j := 7) (x := X.h) rfl
      generalize hlw : (sched l 64).getD t 0 = lw at *
      generalize hkk : K.getD t 0 = kk at *
      have HLW := Lib.hid hlw; clear hlw
      have HKK2 := Lib.hid hkk; clear hkk
      have y0 : (0 : Int) ≤ (t : Int) := by omega
      have y1 : (t : Int) < 64 := by omega
      have hok : X.ok := HX.out ▸ rounds_ok hs t
      have he : X.e < 4294967296 := hok.2.2.2.2.1
      have ha : X.a < 4294967296 := hok.1
      go_wp2_with fail
      go_quiet (first | (go_at_call 124; exact rotQ _ _ _ _ (by assumption) (by decide) (by decide)))
      clear cl ck
      obtain ⟨w7, hw7⟩ : ∃ w7, w7 = wr.drewN nq := ⟨_, rfl⟩
      rw [← hw7]
      have HW := Lib.hid (show Ws (n + 2) 167 w7 (stw X) by rw [hw7]; exact HW.out)
      have HL1 := Lib.hid (show Ws n 190 w7 (sched l 64) by rw [hw7]; exact HL1.out)
      have HK1 := Lib.hid (show Ws (n + 1) 190 w7 K by rw [hw7]; exact HK1.out)
      have HS1 := Lib.hid (show Ws w.heap.size 167 w7 (stw s) by rw [hw7]; exact HS1.out)
      have HR1 := Lib.hid (show w7.heap[w.heap.size + 1]? = w5.heap[w.heap.size + 1]? by rw [hw7]; exact HR1.out)
      have HBL := Lib.hid (show Below w.heap.size w w7 by rw [hw7]; exact below_drewN HBL.out nq)
      clear a0 a1 a2 a3 a4 a5 a6 a7 hw7
      have a0 := HW.out.cell (j := 0) (x := X.a) rfl
      have a1 := HW.out.cell (j := 1) (x := X.b) rfl
      have a2 := HW.out.cell (j := 2) (x := X.c) rfl
      have a3 := HW.out.cell (j := 3) (x := X.d) rfl
      have a4 := HW.out.cell (j := 4) (x := X.e) rfl
      have a5 := HW.out.cell (j := 5) (x := X.f) rfl
      have a6 := HW.out.cell (j := 6) (x := X.g) rfl
      have a7 := HW.out.cell (j := 7) (x := X.h) rfl
      rw [t1_eq' hok]
      obtain ⟨T1, hT1⟩ : ∃ T1, T1 = t1 X kk lw := ⟨_, rfl⟩
      rw [← hT1]
      have HT1 := Lib.hid hT1; clear hT1
      rw [show (if IntKind.u32.signed = true then (-1 : Int) else IntKind.u32.max) = IntKind.u32.max from rfl]
      go_wp2_with fail
      go_quiet (first | (go_at_call 124; exact rotQ _ _ _ _ (by assumption) (by decide) (by decide)))
      obtain ⟨w8, hw8⟩ : ∃ w8, w8 = w7.drewN nq := ⟨_, rfl⟩
      rw [← hw8]
      have HW := Lib.hid (show Ws (n + 2) 167 w8 (stw X) by rw [hw8]; exact HW.out)
      have HL1 := Lib.hid (show Ws n 190 w8 (sched l 64) by rw [hw8]; exact HL1.out)
      have HK1 := Lib.hid (show Ws (n + 1) 190 w8 K by rw [hw8]; exact HK1.out)
      have HS1 := Lib.hid (show Ws w.heap.size 167 w8 (stw s) by rw [hw8]; exact HS1.out)
      have HR1 := Lib.hid (show w8.heap[w.heap.size + 1]? = w5.heap[w.heap.size + 1]? by rw [hw8]; exact HR1.out)
      have HBL := Lib.hid (show Below w.heap.size w w8 by rw [hw8]; exact below_drewN HBL.out nq)
      clear a0 a1 a2 a3 a4 a5 a6 a7 hw8
      have a0 := HW.out.cell (j := 0) (x := X.a) rfl
      have a1 := HW.out.cell (j := 1) (x := X.b) rfl
      have a2 := HW.out.cell (j := 2) (x := X.c) rfl
      have a3 := HW.out.cell (j := 3) (x := X.d) rfl
      have a4 := HW.out.cell (j := 4) (x := X.e) rfl
      have a5 := HW.out.cell (j := 5) (x := X.f) rfl
      have a6 := HW.out.cell (j := 6) (x := X.g) rfl
      have a7 := HW.out.cell (j := 7) (x := X.h) rfl
      rw [t2_eq' hok]
      obtain ⟨T2, hT2⟩ : ∃ T2, T2 = t2 X := ⟨_, rfl⟩
      rw [← hT2]
      have HT2 := Lib.hid hT2; clear hT2
      have hsX : (wcells (stw X)).size = 8 := rfl
      have HRC := Lib.hid (show (#[.int .u32 (IntKind.u32.wrap ((T1 : Nat) + (T2 : Nat))), w32 X.a, w32 X.b, w32 X.c, .int .u32 (IntKind.u32.wrap ((X.d : Int) + (T1 : Nat))), w32 X.e, w32 X.f, w32 X.g] : Array Value) = wcells (stw (round X kk lw)) by
        rw [HT1.out, HT2.out]
        exact round_cells X kk lw)
      have HXX := Lib.hid (show rounds s (sched l 64) (t + 1) = round X kk lw by
        rw [rounds_succ, HX.out, HLW.out, HKK2.out])
      have hsr : (wcells (stw (round X kk lw))).size = 8 := rfl
      have hor := wcells_one (stw (round X kk lw))
      generalize round X kk lw = X2 at *
      go_wp2_with (first
        | (guard_target =~ wpList _ _ _ ({ dst := _, op := Op.build 167 _, type := _, pos := _, after := _, guard := none } :: _) _ _; refine wpList_build_as rfl 167 _ rfl #[.int .u32 (IntKind.u32.wrap ((T1 : Nat) + (T2 : Nat))), w32 X.a, w32 X.b, w32 X.c, .int .u32 (IntKind.u32.wrap ((X.d : Int) + (T1 : Nat))), w32 X.e, w32 X.f, w32 X.g] (by kernel_rfl) ?_; rw [HRC.out])
        | (guard_target =~ wpList _ _ _ ({ dst := _, op := Op.store 167 (.tmp 7) _, type := _, pos := _, after := _, guard := none } :: _) _ _; refine wpList_store_row rfl 167 _ _ rfl _ (wcells (stw X2)) rfl rfl _ _ HW.out hi8 hsX hor ?_))
      go_roundg (64 - (t + 1))
      case measure => have := HG.out; omega
      case rel =>
        refine ⟨t + 1, by omega, by go_num, ?_, Ws.setRow HL1.out (by omega) _, Ws.setRow HK1.out (by omega) _, Ws.setRow HS1.out (by omega) _, (heap_setRow_other _ (by omega)).trans HR1.out, below_row HBL.out (by omega) _⟩
        rw [HXX.out]
        exact heap_setRow _ HW.out
    · obtain rfl : t = 64 := by omega
      clear HG hlt ht
      have hR1 := HR1.out.trans hR0
      clear HR1 hR0 HL1 HK1
      have HD := Lib.hid (show Sha.digest s l = add s (rounds s (sched l 64) 64) from rfl)
      generalize rounds s (sched l 64) 64 = R at *
      rw [← mix_zero s R] at HW
      obtain ⟨W2, rfl⟩ : ∃ W2, W2 = wr := ⟨_, rfl⟩
      go_wp2_with fail
      go_loopg [102] 8 (fun m v wr => ∃ j : Nat, j + m = 8 ∧ v = .int .i64 j ∧ Hid (Ws (n + 2) 167 wr (mix s R j)) ∧ Hid (Ws w.heap.size 167 wr (stw s)) ∧ Hid (wr.heap[w.heap.size + 1]? = some (.cells #[.int .u32 0, .int .u32 0, .int .u32 0, .int .u32 0, .int .u32 0, .int .u32 0, .int .u32 0, .int .u32 0] 167 (0, 0))) ∧ Hid (Below w.heap.size w wr))
      case atStart => exact ⟨0, by omega, rfl, HW, HS1, hR1, HBL⟩
      case round =>
        clear HW HS1 hR1 HBL
        obtain ⟨j, hjm, rfl, HW, HS1, HR1, HBL⟩ := hrel
        have HG := Lib.hid hjm
        have hj8 : j ≤ 8 := by omega
        clear hjm
        by_cases hlt : j < 8
        · have ca := HW.out.drew.cell (mix_get s R hlt)
          have cs := HS1.out.drew.cell (stw_get s hlt)
          have fa := HW.out.drew.free j
          have HV := Lib.hid ((wrap_add ((stw R).getD j 0) ((stw s).getD j 0)).trans (congrArg (fun x : Nat => (x : Int)) (add_get s R hlt).symm))
          have HP := Lib.hid (show Ws (n + 2) 167 (wr.setCell ⟨n + 2, j, none⟩ (w32 ((stw (add s R)).getD j 0))).drew (mix s R (j + 1)) by
            have := HW.out.put j ((stw (add s R)).getD j 0)
            rw [mix_set s R hlt] at this
            exact this.drew)
          have HS2 := Lib.hid (show Ws w.heap.size 167 (wr.setCell ⟨n + 2, j, none⟩ (w32 ((stw (add s R)).getD j 0))).drew (stw s) from (Below.heap_setCell _ _ _ _ (by simp only; omega)).trans HS1.out)
          have HR2 := Lib.hid (show (wr.setCell ⟨n + 2, j, none⟩ (w32 ((stw (add s R)).getD j 0))).drew.heap[w.heap.size + 1]? = some (.cells #[.int .u32 0, .int .u32 0, .int .u32 0, .int .u32 0, .int .u32 0, .int .u32 0, .int .u32 0, .int .u32 0] 167 (0, 0)) from (Below.heap_setCell _ _ _ _ (by simp only; omega)).trans HR1.out)
          have HB2 := Lib.hid ((HBL.out.setCell (p := ⟨n + 2, j, none⟩) (by simp only; omega) (w32 ((stw (add s R)).getD j 0))).drew)
          have y0 : (0 : Int) ≤ (j : Int) := by omega
          have y1 : (j : Int) < 8 := by omega
          generalize (stw R).getD j 0 = ra at *
          generalize (stw s).getD j 0 = rs at *
          generalize (stw (add s R)).getD j 0 = rv at *
          go_wp2_with fail
          refine region_tail 8 (by kernel_rfl) ?_
          simp only [List.take_succ_cons, List.take_zero, List.drop_succ_cons, List.drop_zero]
          repeat still_step
          refine wpStill_nil ?_
          go_wp2_with fail
          rw [← IntKind.wrap_u32', HV.out]
          go_roundg (8 - (j + 1))
          case measure => have := HG.out; omega
          case rel => exact ⟨j + 1, by omega, by go_num, HP, HS2, HR2, HB2⟩
        · obtain rfl : j = 8 := by omega
          clear HG hlt hj8
          rw [mix_all s R, ← HD.out] at HW
          generalize hL : stw (Sha.digest s l) = L2 at *
          have hL8 : L2.length = 8 := by rw [← hL]; rfl
          have HL := Lib.hid hL; clear hL
          have hsL2 : (wcells L2).size = 8 := by rw [wcells_size, hL8]
          have hi2 : (Tryz.prog.info? 167).map (·.size) = some (wcells L2).size := hi8.trans (congrArg some hsL2.symm)
          have hoL2 := wcells_one L2
          generalize hC : wcells L2 = C at *
          have HC := Lib.hid hC; clear hC
          have HWC := Lib.hid (show wr.heap[n + 2]? = some (.cells C 167 (0, 0)) by rw [← HC.out]; exact HW.out)
          go_wp2_with (first
            | (guard_target =~ wpList _ _ _ ({ dst := _, op := Op.load 167 _, type := _, pos := _, after := _, guard := none } :: _) _ _; refine wpList_load_row rfl 167 _ rfl _ rfl _ _ _ _ HWC.out hu rfl hi2 ?_)
            | (guard_target =~ wpList _ _ _ ({ dst := _, op := Op.store 167 _ _, type := _, pos := _, after := _, guard := none } :: _) _ _; refine wpList_store_row rfl 167 _ _ rfl _ _ rfl rfl _ _ HR1.out hi2 hsL2.symm hoL2 ?_))
          refine bodyPost_ret (results_cell_row rfl _ _ (w.heap.size + 1) 167 _ _ _ rfl (heap_setRow _ HR1.out) hu rfl hi2) rfl ⟨by rw [HL.out, HC.out], ?_⟩
          exact below_row HBL.out (Nat.le_succ _) _
end Go.Proofs.YtecnnlppinhmgaaGreatDoor.ShaD
namespace Go.Proofs.YtecnnlppinhmgaaGreatDoor.Sha

/-- whole blocks, and what is left behind k of them -/
def st (k : Nat) (l : List UInt8) : St := blocks init k l
theorem st_app (k : Nat) (l r : List UInt8) (h : 64 * k ≤ l.length) : st k (l ++ r) = st k l := blocks_app k init l r h
theorem st_step (k : Nat) (l : List UInt8) : st (k + 1) l = digest (st k l) ((l.drop (64 * k)).take 64) := by
  unfold st
  rw [blocks_add 1 k]
  rfl
theorem st_ok (k : Nat) (l : List UInt8) : (st k l).ok := blocks_ok k l init_ok
/-- what stands behind a message of n bytes -/
def tail (n : Nat) : List UInt8 := 128 :: (List.replicate (zeros n) 0 ++ be8 (8 * n))
theorem pad_eq (l : List UInt8) : pad l = l ++ tail l.length := rfl
theorem tail_length (n : Nat) : (tail n).length = 1 + zeros n + 8 := by
  unfold tail be8
  simp only [List.length_append, List.length_cons, List.length_replicate, List.length_map, List.length_nil]
  omega
/-- the message's end, from block k on -/
def fin (k : Nat) (l : List UInt8) : List UInt8 := l.drop (64 * k) ++ tail l.length
theorem fin_eq (k : Nat) (l : List UInt8) (h : 64 * k ≤ l.length) : (pad l).drop (64 * k) = fin k l := by
  rw [pad_eq, List.drop_append_of_le_length h]
  rfl
theorem fin_mod (k : Nat) (l : List UInt8) (h : 64 * k ≤ l.length) : (fin k l).length % 64 = 0 := by
  rw [← fin_eq k l h, List.length_drop]
  have := pad_mod l
  omega
theorem sha_fin (k : Nat) (l : List UInt8) (h : 64 * k ≤ l.length) : sha l = out (blocks (st k l) ((fin k l).length / 64) (fin k l)) := by
  have h1 : (pad l).length / 64 = k + (fin k l).length / 64 := by
    rw [← fin_eq k l h, List.length_drop]
    have h2 := pad_mod l
    have h3 : l.length ≤ (pad l).length := by rw [pad_length]; omega
    omega
  unfold sha
  rw [h1, blocks_add, fin_eq k l h, pad_eq, blocks_app k init l _ h]
  rfl
theorem zeros_lt (n : Nat) : zeros n < 64 := by
  unfold zeros
  omega
/-- the zeros so far: j of them -/
theorem zeros_more {n r j : Nat} (hr : n % 64 = r % 64) (hj : j ≤ zeros n) : (r + 1 + j) % 64 = 56 ↔ j = zeros n := by
  unfold zeros at *
  omega
end Go.Proofs.YtecnnlppinhmgaaGreatDoor.Sha
namespace Go.Proofs.YtecnnlppinhmgaaGreatDoor.Lf
open Go.RowKit Go.Proofs.YtecnnlppinhmgaaGreatDoor Go.Proofs.YtecnnlppinhmgaaGreatDoor.HtW

/-- the bytes l lie at a, in a row of their holder's own, the spots behind them too -/
def Own (lo hi : Nat) (w : World) (a : Option Addr) (l : List UInt8) (c : Nat) : Prop :=
  (a = none ∧ l = [] ∧ c = 0) ∨ ∃ g o cur, a = some ⟨g, o, none⟩ ∧ lo ≤ g ∧ g < hi ∧ w.heap[g]? = some (.cells cur 5 (0, 0)) ∧ l.length ≤ c ∧ (c = 0 ∨ o + c ≤ cur.size) ∧ ∀ (j : Nat) x, l[j]? = some x → cur[o + j]? = some (.int .u8 (x.toNat : Int))
theorem Own.block {lo hi : Nat} {w w' : World} {a : Option Addr} {l : List UInt8} {c : Nat} (h : Own lo hi w a l c) (hk : ∀ k, lo ≤ k → k < hi → w'.heap[k]? = w.heap[k]?) : Own lo hi w' a l c :=
  h.imp id fun ⟨g, o, cur, h1, h2, h3, h4, h5⟩ => ⟨g, o, cur, h1, h2, h3, (hk g h2 h3).trans h4, h5⟩
theorem Own.bs {lo hi : Nat} {w : World} {a : Option Addr} {l : List UInt8} {c : Nat} (h : Own lo hi w a l c) : Bs w a l c := by
  rcases h with ⟨rfl, rfl, rfl⟩ | ⟨g, o, cur, rfl, h2, h3, h4, h5, h6, h7⟩
  · exact ⟨Nat.le_refl _, fun _ => rfl, .inl rfl⟩
  · refine ⟨h5, (fun h => by cases h), .inr ⟨g, o, rfl, (Array.getElem?_eq_some_iff.1 h4).1, fun j x hj => ?_⟩⟩
    rw [Lib.cell_of_heap h4]
    exact h7 j x hj
theorem Own.mono {lo hi lo' hi' : Nat} {w : World} {a : Option Addr} {l : List UInt8} {c : Nat} (h : Own lo hi w a l c) (h1 : lo' ≤ lo) (h2 : hi ≤ hi') : Own lo' hi' w a l c :=
  h.imp id fun ⟨g, o, cur, e1, e2, e3, e4⟩ => ⟨g, o, cur, e1, Nat.le_trans h1 e2, Nat.lt_of_lt_of_le e3 h2, e4⟩
/-- what lies outside the blocks from p on, below hi, stays -/
structure Out (p hi : Nat) (w w' : World) : Prop where
  os : w'.os = w.os
  tape : w'.tape = w.tape
  output : w'.output = w.output
  size : w.heap.size ≤ w'.heap.size
  block : ∀ k, k < w.heap.size → ¬ (p ≤ k ∧ k < hi) → w'.heap[k]? = w.heap[k]?
theorem Out.refl (p hi : Nat) (w : World) : Out p hi w w := ⟨rfl, rfl, rfl, Nat.le_refl _, fun _ _ _ => rfl⟩
theorem Out.below {p hi b : Nat} {w w' : World} (h : Out p hi w w') (hb : b ≤ p) (hs : b ≤ w.heap.size) : Below b w w' :=
  ⟨h.os, h.tape, h.output, h.size, fun k hk => h.block k (Nat.lt_of_lt_of_le hk hs) fun hh => by omega⟩
theorem Out.trans {p hi hi' : Nat} {a b c : World} (h : Out p hi a b) (k : Out p hi' b c) (hh : hi' ≤ hi ∨ a.heap.size ≤ hi' ∧ hi = a.heap.size ∨ hi' ≤ b.heap.size ∧ a.heap.size ≤ hi) : Out p hi a c :=
  ⟨k.os.trans h.os, k.tape.trans h.tape, k.output.trans h.output, Nat.le_trans h.size k.size, fun i hi1 hn => (k.block i (Nat.lt_of_lt_of_le hi1 h.size) fun hm => hn ⟨hm.1, by omega⟩).trans (h.block i hi1 hn)⟩
theorem Out.of_below {p hi : Nat} {w w' : World} (h : Below w.heap.size w w') : Out p hi w w' :=
  ⟨h.os, h.tape, h.output, h.size, fun k hk _ => h.block k hk⟩

theorem bc_get {l : List UInt8} {j : Nat} {x : UInt8} (h : l[j]? = some x) : (Lib.byteCells l)[j]? = some (.int .u8 (x.toNat : Int)) := by
  simp only [Lib.byteCells, List.getElem?_map, h, Option.map_some]
theorem append (lo hi : Nat) (w : World) (hlo : lo ≤ w.heap.size) (a : Option Addr) (l : List UInt8) (c : Nat) (h : Own lo hi w a l c) (aR : Option Addr) (r : List UInt8) (cR : Nat) (hB : Bs w aR r cR) (hlen : l.length + r.length ≤ 140737488355328) (ty : TypeId) :
    ∃ ar cr w', (Builtin.append_ #[24, 24] ty #[.slice a l.length c, .slice aR r.length cR]).run Tryz.prog w = .ok (.slice ar (l.length + r.length) cr) w' ∧ (Own lo hi w' ar (l ++ r) cr ∨ Own lo w'.heap.size w' ar (l ++ r) cr) ∧ Out lo hi w w' := by
  obtain ⟨i0, hi0, hz0, hz1, hz2⟩ := info_parts infoByte
  by_cases hbd : r = []
  · subst hbd
    refine ⟨a, c, w, ?_, .inl (by rw [List.append_nil]; exact h), Out.refl _ _ _⟩
    refine run_append_nothing w _ _ _ 5 i0 Tryz.underlying24 hi0 _ _ _ h.bs.1 _ ?_
    cases aR with
    | none => rw [hB.2.1 rfl]; exact Src.ofNil w Tryz.underlying24 0
    | some p => exact Src.ofSlice w Tryz.underlying24 p 0 cR [] (by simp) (fun j u h => by cases h) (fun u h => by cases h)
  · have hpos : 0 < r.length := List.length_pos_iff.2 hbd
    obtain ⟨p, rfl⟩ : ∃ p, aR = some p := by
      rcases hB.2.2 with h | ⟨b', o', h, _⟩
      · exact absurd h hbd
      · exact ⟨_, h⟩
    have hnl : (Lib.byteCells r).length = r.length := by simp [Lib.byteCells]
    have hone := HtX.byteCells_one r
    rcases h with ⟨rfl, rfl, rfl⟩ | ⟨g, o, cur, rfl, h2, h3, h4, h5, h6, h7⟩
    · obtain ⟨ar, cr, w', hrun, h1, h2, h3⟩ := HtX.run_append_bytes w w.heap.size (.slice none 0 0) [] r ⟨rfl, .inl ⟨rfl, rfl⟩⟩ (some p) cR hB (Nat.le_refl _) hlen ty
      refine ⟨ar, cr, w', hrun, .inr ?_, Out.of_below h3⟩
      rcases h1.2 with ⟨e1, e2⟩ | ⟨g, cap, cur, hv, hb, hg, hn, hm, hcs, htk⟩
      · simp at e2; exact absurd e2 hbd
      · simp only [Value.slice.injEq] at hv
        obtain ⟨rfl, hv2, rfl⟩ := hv
        simp only [List.nil_append] at *
        refine .inr ⟨g, 0, cur, rfl, Nat.le_trans hlo hb, (Array.getElem?_eq_some_iff.1 hg).1, hg, hn, .inr (by omega), fun j x hj => ?_⟩
        have := h1.cells (g := g) rfl j (.int .u8 (x.toNat : Int)) (bc_get hj)
        rw [addr_add, Lib.cell_of_heap hg] at this
        exact this
    · by_cases hr : l.length + r.length ≤ c
      · have hsp : ∀ j, j < (Lib.byteCells r).length → (w.cell? ⟨g, o + l.length + j, none⟩).isSome = true ∧ w.frozen? ⟨g, o + l.length + j, none⟩ = false := by
          intro j hj
          rw [hnl] at hj
          refine ⟨?_, ?_⟩
          · rw [Lib.cell_of_heap h4, Array.getElem?_eq_getElem (by omega)]
            rfl
          · exact Lib.frozen_of_heap h4 _
        have hrun := run_append_room_cells (P := Tryz.prog) w 24 ty 5 i0 Tryz.underlying24 hi0 g o l.length c p r.length cR (Lib.byteCells r) (by rw [hnl, hz1, Nat.mul_one]) hB.cells hone hr (fun j hj => by rw [hz1, Nat.mul_one]; exact (hsp j hj).1) (fun j hj => by rw [hz1, Nat.mul_one]; exact (hsp j hj).2)
        rw [hz1, Nat.mul_one] at hrun
        obtain ⟨cur', hc', hsz, hin, hout⟩ : ∃ cur' : Array Value, (w.setCells g (o + l.length) (Lib.byteCells r)).heap[g]? = some (.cells cur' 5 (0, 0)) ∧ cur'.size = cur.size ∧ (∀ (j : Nat) x, r[j]? = some x → cur'[o + l.length + j]? = some (.int .u8 (x.toNat : Int))) ∧ ∀ j, j < o + l.length → cur'[j]? = cur[j]? := by
          have key : ∀ (vs : List Value) (q : Nat) (w : World) (cur : Array Value), w.heap[g]? = some (.cells cur 5 (0, 0)) → q + vs.length ≤ cur.size → ∃ cur' : Array Value, (w.setCells g q vs).heap[g]? = some (.cells cur' 5 (0, 0)) ∧ cur'.size = cur.size ∧ (∀ (j : Nat) x, vs[j]? = some x → cur'[q + j]? = some x) ∧ ∀ j, j < q → cur'[j]? = cur[j]? := by
            intro vs
            induction vs with
            | nil => intro q w cur hc _; exact ⟨cur, hc, rfl, fun j x h => by simp at h, fun _ _ => rfl⟩
            | cons v vs ih =>
              intro q w cur hc hq
              rw [List.length_cons] at hq
              have h1 := heap_setCell_same w g q _ _ v hc
              obtain ⟨cur', e1, e2, e3, e4⟩ := ih (q + 1) _ _ h1 (by rw [Array.size_setIfInBounds]; omega)
              refine ⟨cur', e1, by rw [e2, Array.size_setIfInBounds], ?_, ?_⟩
              · intro j x hj
                cases j with
                | zero =>
                  simp at hj
                  subst hj
                  rw [Nat.add_zero, e4 q (by omega)]
                  simp [show q < cur.size by omega]
                | succ j =>
                  have := e3 j x (by simpa using hj)
                  rwa [show q + (j + 1) = q + 1 + j by omega]
              · intro j hj
                rw [e4 j (by omega), Array.getElem?_setIfInBounds_ne (by omega)]
          obtain ⟨cur', e1, e2, e3, e4⟩ := key (Lib.byteCells r) (o + l.length) w cur h4 (by rw [hnl]; omega)
          exact ⟨cur', e1, e2, fun j x hj => e3 j _ (by simp [Lib.byteCells, hj]), e4⟩
        refine ⟨some ⟨g, o, none⟩, c, _, hrun, .inl (.inr ⟨g, o, cur', rfl, h2, h3, hc', by rw [List.length_append]; exact hr, .inr (by omega), fun j x hj => ?_⟩), ?_⟩
        · rcases Nat.lt_or_ge j l.length with hj1 | hj1
          · rw [List.getElem?_append_left hj1] at hj
            rw [hout _ (by omega)]
            exact h7 j x hj
          · rw [List.getElem?_append_right hj1] at hj
            have := hin _ x hj
            rwa [show o + l.length + (j - l.length) = o + j by omega] at this
        · have hbl := Lib.below_setCells_w (B := 0) (Nat.zero_le g) (Lib.byteCells r) (o + l.length) w
          refine ⟨hbl.os, hbl.tape, hbl.output, hbl.size, fun k hk hn => ?_⟩
          have key : ∀ (vs : List Value) (q : Nat) (w : World), (w.setCells g q vs).heap[k]? = w.heap[k]? := by
            intro vs
            induction vs with
            | nil => intro q w; rfl
            | cons v vs ih => intro q w; rw [World.setCells, ih, heap_setCell_other _ _ _ _ (fun e => by simp only at e; omega)]
          exact key _ _ _
      · obtain ⟨v', w', hrun, r1, r2⟩ := run_append_arg_grows (P := Tryz.prog) w 24 ty 5 i0 _ 1 1 Tryz.underlying24 hi0 hz0 hz1 hz2 rfl (by decide) ⟨g, o, none⟩ l.length c (Lib.byteCells l) (by simp [Lib.byteCells]) (fun j u hj => (Own.bs (.inr ⟨g, o, cur, rfl, h2, h3, h4, h5, h6, h7⟩ : Own lo hi w _ l c)).cells j u hj) p r.length cR (Lib.byteCells r) (by rw [hnl, Nat.mul_one]) hB.cells (by omega) (by unfold maxLen; omega) (by omega)
        have r1' : w'.ownsRow w.heap.size 5 1 v' (l ++ r).length (Lib.byteCells (l ++ r)) := by
          rw [List.length_append, HtX.byteCells_append]
          exact r1
        obtain ⟨g', cap', cur', hv, hb', hg', hn, hm, hcs, htk⟩ := r1'.2.resolve_left (fun h => by have := h.2; rw [List.length_append] at this; omega)
        subst hv
        refine ⟨some ⟨g', 0, none⟩, cap', w', by rw [hrun, List.length_append], .inr (.inr ⟨g', 0, cur', rfl, by omega, (Array.getElem?_eq_some_iff.1 hg').1, hg', hn, .inr (by omega), fun j x hj => ?_⟩), ?_⟩
        · have := r1'.cells (g := g') rfl j (.int .u8 (x.toNat : Int)) (bc_get hj)
          rw [addr_add, Lib.cell_of_heap hg'] at this
          exact this
        · exact ⟨r2.os, r2.tape, r2.output, r2.size, fun k hk _ => r2.block k hk (fun h => by cases h)⟩
theorem wpList_own {ops : Array Oper} {rest : List Oper} {op : Oper} {A : Act} {Q : Exit → Act → World → Prop} (w : World) (hg : op.guard = none) (s x : Operand) (hop : op.op = Op.call { callee := Callee.builtin Builtin.append, args := #[s, x], argTypes := #[24, 24] })
    (lo hi : Nat) (hlo : lo ≤ w.heap.size) (hhi : hi ≤ w.heap.size) (a : Option Addr) (l : List UInt8) (c : Nat) (h : Own lo hi w a l c) (aR : Option Addr) (r : List UInt8) (cR : Nat) (hB : Bs w aR r cR) (hlen : l.length + r.length ≤ 140737488355328)
    (hs : A.eval s = .slice a l.length c) (hx : A.eval x = .slice aR r.length cR)
    (hK : ∀ ar cr w' n, n = (l ++ r).length → Own lo w'.heap.size w' ar (l ++ r) cr → Out lo hi w w' → wpList Tryz.prog ops Q rest (A.put op.dst (.slice ar n cr)) w') :
    wpList Tryz.prog ops Q (op :: rest) A w := by
  refine wpList_plain hg fun K hK' => ?_
  obtain ⟨ar, cr, w', hrun, h1, h2⟩ := append lo hi w hlo a l c h aR r cR hB hlen op.type
  unfold Oper.wp
  simp [execOp, hop, resolve, invoke, builtin, hs, hx, hrun, Result.andThen]
  refine hK' _ _ (hK ar cr w' _ List.length_append.symm ?_ h2)
  rcases h1 with h1 | h1
  · exact h1.mono (Nat.le_refl _) (Nat.le_trans hhi h2.size)
  · exact h1
theorem bs_out {w w' : World} {a : Option Addr} {l : List UInt8} {c p hi : Nat} (h : Bs w a l c) (ho : Out p hi w w') (hd : l ≠ [] → ∀ q, a = some q → ¬ (p ≤ q.block ∧ q.block < hi)) : Bs w' a l c := by
  by_cases hl : l = []
  · exact ⟨h.1, h.2.1, .inl hl⟩
  · exact ⟨h.1, h.2.1, h.2.2.imp id fun ⟨b, o, h1, h3, h4⟩ => ⟨b, o, h1, Nat.lt_of_lt_of_le h3 ho.size, fun j x hj => (World.cell?_of_block (a := ⟨b, o + j, none⟩) (ho.block b h3 (hd hl _ h1))).trans (h4 j x hj)⟩⟩
theorem Out.setCell {p hi : Nat} {w w' : World} (h : Out p hi w w') {q : Addr} (hq : q.block = p) (hp : p < hi) (u : Value) : Out p hi w (w'.setCell q u) :=
  ⟨h.os, h.tape, h.output, by simpa [World.setCell] using h.size, fun k hk hn => by
    rw [Below.heap_setCell _ _ _ _ (fun e => by subst e; omega)]
    exact h.block k hk hn⟩
theorem Out.mono {p hi p' hi' : Nat} {w w' : World} (h : Out p hi w w') (h1 : p' ≤ p) (h2 : hi ≤ hi') : Out p' hi' w w' :=
  ⟨h.os, h.tape, h.output, h.size, fun k hk hn => h.block k hk fun hm => hn ⟨by omega, by omega⟩⟩
theorem Out.drew {p hi : Nat} {w w' : World} (h : Out p hi w w') : Out p hi w w'.drew := ⟨h.os, h.tape, h.output, h.size, h.block⟩
theorem Own.drew {lo hi : Nat} {w : World} {a : Option Addr} {l : List UInt8} {c : Nat} (h : Own lo hi w a l c) : Own lo hi w.drew a l c := h
theorem Own.cut {lo hi : Nat} {w : World} {g o : Nat} {l : List UInt8} {c : Nat} (h : Own lo hi w (some ⟨g, o, none⟩) l c) (n : Nat) (hn : n ≤ l.length) (o' : Nat) (ho : n < c → o' = o + n * 1) : Own lo hi w (some ⟨g, o', none⟩) (l.drop n) (c - n) := by
  rcases h with ⟨h, _⟩ | ⟨g1, o1, cur, h1, h2, h3, h4, h5, h6, h7⟩
  · cases h
  · cases h1
    refine .inr ⟨g, o', cur, rfl, h2, h3, h4, by rw [List.length_drop]; omega, ?_, fun j x hj => ?_⟩
    · by_cases hc : n < c
      · right; have := ho hc; omega
      · left; omega
    · rw [List.getElem?_drop] at hj
      have hl := (List.getElem?_eq_some_iff.1 hj).1
      have := ho (by omega)
      rw [this, Nat.mul_one, Nat.add_assoc]
      exact h7 _ x hj
end Go.Proofs.YtecnnlppinhmgaaGreatDoor.Lf
