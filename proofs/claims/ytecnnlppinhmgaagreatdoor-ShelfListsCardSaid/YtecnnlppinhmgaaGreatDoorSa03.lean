/-
  The walk of package sha's schedule and constants. The walk of package sha's table of constants; whole arrays built, laid and read.
-/
import Derived.Test.YtecnnlppinhmgaaGreatDoorSa02
import Derived.Deep.LoopGhost
import Derived.Deep.RegionHeld3
import Derived.IntWalk
namespace Go.Proofs.YtecnnlppinhmgaaGreatDoor.ShaB
open Go.RowKit Go.Proofs.YtecnnlppinhmgaaGreatDoor Go.Proofs.YtecnnlppinhmgaaGreatDoor.Sha Go.Proofs.YtecnnlppinhmgaaGreatDoor.ShaA

/-- a list of words, as cells -/
def wcells (l : List Nat) : Array Value := (l.map w32).toArray
theorem wcells_get {l : List Nat} {j x : Nat} (h : l[j]? = some x) : (wcells l)[j]? = some (w32 x) := by
  unfold wcells
  rw [List.getElem?_toArray, List.getElem?_map, h]
  rfl
theorem wcells_set (l : List Nat) (j x : Nat) : (wcells l).setIfInBounds j (w32 x) = wcells (l.set j x) := by
  unfold wcells
  simp [List.map_set]
theorem wcells_size (l : List Nat) : (wcells l).size = l.length := by
  unfold wcells
  simp
theorem wcells_one (l : List Nat) : (wcells l).all (·.oneCell') = true := by
  rw [Array.all_eq_true_iff_forall_mem]
  intro v hv
  unfold wcells at hv
  rw [List.mem_toArray, List.mem_map] at hv
  obtain ⟨x, _, rfl⟩ := hv
  rfl
/-- words in an array's box -/
def Ws (B : Nat) (t : TypeId) (w : World) (l : List Nat) : Prop := w.heap[B]? = some (.cells (wcells l) t (0, 0))
theorem Ws.below {B : Nat} {t : TypeId} {w w' : World} {l : List Nat} (h : Ws B t w l) (hb : Below w.heap.size w w') : Ws B t w' l := (hb.block _ (Array.getElem?_eq_some_iff.1 h).1).trans h
theorem Ws.lt {B : Nat} {t : TypeId} {w : World} {l : List Nat} (h : Ws B t w l) : B < w.heap.size := (Array.getElem?_eq_some_iff.1 h).1
theorem Ws.cell {B : Nat} {t : TypeId} {w : World} {l : List Nat} (h : Ws B t w l) {j x : Nat} (hj : l[j]? = some x) : w.cell? ⟨B, j, none⟩ = some (w32 x) := by
  rw [Lib.cell_of_heap h, wcells_get hj]
theorem Ws.free {B : Nat} {t : TypeId} {w : World} {l : List Nat} (h : Ws B t w l) (j : Nat) : w.frozen? ⟨B, j, none⟩ = false := Lib.frozen_of_heap h j
theorem Ws.put {B : Nat} {t : TypeId} {w : World} {l : List Nat} (h : Ws B t w l) (j x : Nat) : Ws B t (w.setCell ⟨B, j, none⟩ (w32 x)) (l.set j x) := by
  unfold Ws at h ⊢
  rw [← wcells_set]
  exact heap_setCell_same w B j _ t _ h
theorem Ws.drew {B : Nat} {t : TypeId} {w : World} {l : List Nat} (h : Ws B t w l) : Ws B t w.drew l := h
/-- the words so far, and zeros -/
def sz (l : List UInt8) (t : Nat) : List Nat := sched l t ++ List.replicate (64 - t) 0
theorem sz_set (l : List UInt8) {t : Nat} (h : t < 64) : (sz l t).set t (next l (sched l t) t) = sz l (t + 1) := by
  unfold sz
  rw [List.set_append_right _ _ (by rw [sched_length]; exact Nat.le_refl _), sched_length, Nat.sub_self]
  obtain ⟨m, hm⟩ : ∃ m, 64 - t = m + 1 := ⟨63 - t, by omega⟩
  rw [hm, show 64 - (t + 1) = m by omega, sched, List.append_assoc]
  rfl
theorem sz_at (l : List UInt8) {j t : Nat} (h : j < t) : (sz l t)[j]? = some (next l (sched l j) j) := by
  unfold sz
  rw [List.getElem?_append_left (by rw [sched_length]; exact h)]
  exact sched_at l h
theorem sz_own (l : List UInt8) {t : Nat} (h : t < 64) : (sz l t)[t]? = some 0 := by
  unfold sz
  rw [List.getElem?_append_right (by rw [sched_length]; exact Nat.le_refl _), sched_length, Nat.sub_self]
  obtain ⟨m, hm⟩ : ∃ m, 64 - t = m + 1 := ⟨63 - t, by omega⟩
  rw [hm]
  rfl

theorem sz_length (l : List UInt8) : (sz l 0).length = 64 := by
  unfold sz
  rw [List.length_append, sched_length, List.length_replicate]
theorem heap_setRow {w : World} {g : Nat} {old : Array Value} {t : TypeId} {fr : Nat × Nat} (cs : Array Value) (h : w.heap[g]? = some (.cells old t fr)) : (w.setRow g cs).heap[g]? = some (.cells cs t fr) := by
  simp [World.setRow, Array.getElem?_modify, h]
theorem below_row {B g : Nat} {w0 w : World} (hb : Below B w0 w) (hBg : B ≤ g) (cs : Array Value) : Below B w0 (w.setRow g cs) :=
  hb.trans ⟨rfl, rfl, rfl, by simp [World.setRow], fun k hk => by simp [World.setRow, Array.getElem?_modify, show ¬ g = k by omega]⟩
theorem or_add {a b p : Nat} (i : Nat) (hp : 2 ^ i = p) (h : b < p) : (a * p) ||| b = a * p + b := by
  subst hp
  rw [← Nat.shiftLeft_eq, Nat.shiftLeft_add_eq_or_of_lt h]
theorem be4 (b0 b1 b2 b3 : UInt8) : bits .or .u32 (bits .or .u32 (bits .or .u32 (IntKind.u32.wrap (IntKind.u32.wrap (b0.toNat : Int) * 16777216)) (IntKind.u32.wrap (IntKind.u32.wrap (b1.toNat : Int) * 65536))) (IntKind.u32.wrap (IntKind.u32.wrap (b2.toNat : Int) * 256))) (IntKind.u32.wrap (b3.toNat : Int)) = (((((b0.toNat * 256 + b1.toNat) * 256 + b2.toNat) * 256 + b3.toNat : Nat)) : Int) := by
  have h0 := UInt8.toNat_lt b0
  have h1 := UInt8.toNat_lt b1
  have h2 := UInt8.toNat_lt b2
  have h3 := UInt8.toNat_lt b3
  generalize b0.toNat = x0 at *
  generalize b1.toNat = x1 at *
  generalize b2.toNat = x2 at *
  generalize b3.toNat = x3 at *
  have e0 : IntKind.u32.wrap (IntKind.u32.wrap (x0 : Int) * 16777216) = ((x0 * 16777216 : Nat) : Int) := by rw [IntKind.wrap_u32', IntKind.wrap_u32']; omega
  have e1 : IntKind.u32.wrap (IntKind.u32.wrap (x1 : Int) * 65536) = ((x1 * 65536 : Nat) : Int) := by rw [IntKind.wrap_u32', IntKind.wrap_u32']; omega
  have e2 : IntKind.u32.wrap (IntKind.u32.wrap (x2 : Int) * 256) = ((x2 * 256 : Nat) : Int) := by rw [IntKind.wrap_u32', IntKind.wrap_u32']; omega
  have e3 : IntKind.u32.wrap (x3 : Int) = (x3 : Int) := by rw [IntKind.wrap_u32']; omega
  rw [e0, e1, e2, e3]
  have o1 : x0 * 16777216 ||| x1 * 65536 = (x0 * 256 + x1) * 65536 := by
    rw [or_add (a := x0) (b := x1 * 65536) 24 (p := 16777216) (by decide) (by omega)]
    omega
  have o2 : (x0 * 256 + x1) * 65536 ||| x2 * 256 = ((x0 * 256 + x1) * 256 + x2) * 256 := by
    rw [or_add (a := x0 * 256 + x1) (b := x2 * 256) 16 (p := 65536) (by decide) (by omega)]
    omega
  have o3 : ((x0 * 256 + x1) * 256 + x2) * 256 ||| x3 = ((x0 * 256 + x1) * 256 + x2) * 256 + x3 := by
    rw [or_add (a := (x0 * 256 + x1) * 256 + x2) (b := x3) 8 (p := 256) (by decide) (by omega)]
  rw [u32_or_nat _ _ (by omega) (by omega), o1, u32_or_nat _ _ (by omega) (by omega), o2, u32_or_nat _ _ (by omega) (by omega), o3]

theorem xor3 (a b c : Nat) (ha : a < 4294967296) (hb : b < 4294967296) (hc : c < 4294967296) : bits .xor .u32 (bits .xor .u32 (a : Int) (b : Int)) (c : Int) = ((a ^^^ b ^^^ c : Nat) : Int) := by
  rw [u32_xor_nat a b ha hb, u32_xor_nat _ c (xor_lt ha hb) hc]
theorem wrap_add (a b : Nat) : IntKind.u32.wrap ((a : Int) + (b : Int)) = (((a + b) % M : Nat) : Int) := by
  rw [IntKind.wrap_u32']
  unfold M
  omega
theorem s0_eq (x : Nat) (hx : x < M) : bits .xor .u32 (bits .xor .u32 (rotr x 7 : Nat) (rotr x 18 : Nat)) ((x : Int) / 8) = (s0 x : Nat) := by
  rw [show (x : Int) / (8 : Int) = ((x >>> 3 : Nat) : Int) by rw [Nat.shiftRight_eq_div_pow]; omega]
  exact xor3 _ _ _ (rotr_lt 7 hx) (rotr_lt 18 hx) (shr_lt 3 hx)
theorem s1_eq (x : Nat) (hx : x < M) : bits .xor .u32 (bits .xor .u32 (rotr x 17 : Nat) (rotr x 19 : Nat)) ((x : Int) / 1024) = (s1 x : Nat) := by
  rw [show (x : Int) / (1024 : Int) = ((x >>> 10 : Nat) : Int) by rw [Nat.shiftRight_eq_div_pow]; omega]
  exact xor3 _ _ _ (rotr_lt 17 hx) (rotr_lt 19 hx) (shr_lt 10 hx)
theorem step (x16 x15 x7 x2 : Nat) (h15 : x15 < M) (h2 : x2 < M) : IntKind.u32.wrap (IntKind.u32.wrap (IntKind.u32.wrap ((x16 : Int) + bits .xor .u32 (bits .xor .u32 (rotr x15 7 : Nat) (rotr x15 18 : Nat)) ((x15 : Int) / 8)) + (x7 : Int)) + bits .xor .u32 (bits .xor .u32 (rotr x2 17 : Nat) (rotr x2 19 : Nat)) ((x2 : Int) / 1024)) = (((((x16 + s0 x15) % M + x7) % M + s1 x2) % M : Nat) : Int) := by
  rw [s0_eq _ h15, s1_eq _ h2, wrap_add, wrap_add, wrap_add]

set_option maxHeartbeats 4000000 in
set_option maxRecDepth 100000 in
theorem schedule (l : List UInt8) (g o c : Nat) (w : World) (hl : l.length = 64) (hb : ∀ (j : Nat) (x : UInt8), l[j]? = some x → w.cell? ⟨g, o + j, none⟩ = some (.int .u8 (x.toNat : Int))) (hg : g < w.heap.size) :
    Calls Tryz.prog 122 #[.slice (some ⟨g, o, none⟩) 64 c] w fun e w' => e = .returned (.agg (wcells (sched l 64))) ∧ Below w.heap.size w w' := by
  have HB := Lib.hid hb; clear hb
  go_enter Tryz.func122, Tryz.ntmps122
  go_wp2_with fail
  have hz : (#[.int .u32 0, .int .u32 0, .int .u32 0, .int .u32 0, .int .u32 0, .int .u32 0, .int .u32 0, .int .u32 0, .int .u32 0, .int .u32 0, .int .u32 0, .int .u32 0, .int .u32 0, .int .u32 0, .int .u32 0, .int .u32 0, .int .u32 0, .int .u32 0, .int .u32 0, .int .u32 0, .int .u32 0, .int .u32 0, .int .u32 0, .int .u32 0, .int .u32 0, .int .u32 0, .int .u32 0, .int .u32 0, .int .u32 0, .int .u32 0, .int .u32 0, .int .u32 0, .int .u32 0, .int .u32 0, .int .u32 0, .int .u32 0, .int .u32 0, .int .u32 0, .int .u32 0, .int .u32 0, .int .u32 0, .int .u32 0, .int .u32 0, .int .u32 0, .int .u32 0, .int .u32 0, .int .u32 0, .int .u32 0, .int .u32 0, .int .u32 0, .int .u32 0, .int .u32 0, .int .u32 0, .int .u32 0, .int .u32 0, .int .u32 0, .int .u32 0, .int .u32 0, .int .u32 0, .int .u32 0, .int .u32 0, .int .u32 0, .int .u32 0, .int .u32 0] : Array Value) = wcells (sz l 0) := by
    unfold sz
    rw [sched, List.nil_append]
    rfl
  have hB1 : Below w.heap.size w ((w.alloc (.cells #[.int .u32 0, .int .u32 0, .int .u32 0, .int .u32 0, .int .u32 0, .int .u32 0, .int .u32 0, .int .u32 0, .int .u32 0, .int .u32 0, .int .u32 0, .int .u32 0, .int .u32 0, .int .u32 0, .int .u32 0, .int .u32 0, .int .u32 0, .int .u32 0, .int .u32 0, .int .u32 0, .int .u32 0, .int .u32 0, .int .u32 0, .int .u32 0, .int .u32 0, .int .u32 0, .int .u32 0, .int .u32 0, .int .u32 0, .int .u32 0, .int .u32 0, .int .u32 0, .int .u32 0, .int .u32 0, .int .u32 0, .int .u32 0, .int .u32 0, .int .u32 0, .int .u32 0, .int .u32 0, .int .u32 0, .int .u32 0, .int .u32 0, .int .u32 0, .int .u32 0, .int .u32 0, .int .u32 0, .int .u32 0, .int .u32 0, .int .u32 0, .int .u32 0, .int .u32 0, .int .u32 0, .int .u32 0, .int .u32 0, .int .u32 0, .int .u32 0, .int .u32 0, .int .u32 0, .int .u32 0, .int .u32 0, .int .u32 0, .int .u32 0, .int .u32 0] 190)).alloc (.cells #[.int .u32 0, .int .u32 0, .int .u32 0, .int .u32 0, .int .u32 0, .int .u32 0, .int .u32 0, .int .u32 0, .int .u32 0, .int .u32 0, .int .u32 0, .int .u32 0, .int .u32 0, .int .u32 0, .int .u32 0, .int .u32 0, .int .u32 0, .int .u32 0, .int .u32 0, .int .u32 0, .int .u32 0, .int .u32 0, .int .u32 0, .int .u32 0, .int .u32 0, .int .u32 0, .int .u32 0, .int .u32 0, .int .u32 0, .int .u32 0, .int .u32 0, .int .u32 0, .int .u32 0, .int .u32 0, .int .u32 0, .int .u32 0, .int .u32 0, .int .u32 0, .int .u32 0, .int .u32 0, .int .u32 0, .int .u32 0, .int .u32 0, .int .u32 0, .int .u32 0, .int .u32 0, .int .u32 0, .int .u32 0, .int .u32 0, .int .u32 0, .int .u32 0, .int .u32 0, .int .u32 0, .int .u32 0, .int .u32 0, .int .u32 0, .int .u32 0, .int .u32 0, .int .u32 0, .int .u32 0, .int .u32 0, .int .u32 0, .int .u32 0, .int .u32 0] 190)) := ((Below.refl _ _).alloc (Nat.le_refl _) _).alloc (by simp) _
  have hs0 : Ws w.heap.size 190 ((w.alloc (.cells #[.int .u32 0, .int .u32 0, .int .u32 0, .int .u32 0, .int .u32 0, .int .u32 0, .int .u32 0, .int .u32 0, .int .u32 0, .int .u32 0, .int .u32 0, .int .u32 0, .int .u32 0, .int .u32 0, .int .u32 0, .int .u32 0, .int .u32 0, .int .u32 0, .int .u32 0, .int .u32 0, .int .u32 0, .int .u32 0, .int .u32 0, .int .u32 0, .int .u32 0, .int .u32 0, .int .u32 0, .int .u32 0, .int .u32 0, .int .u32 0, .int .u32 0, .int .u32 0, .int .u32 0, .int .u32 0, .int .u32 0, .int .u32 0, .int .u32 0, .int .u32 0, .int .u32 0, .int .u32 0, .int .u32 0, .int .u32 0, .int .u32 0, .int .u32 0, .int .u32 0, .int .u32 0, .int .u32 0, .int .u32 0, .int .u32 0, .int .u32 0, .int .u32 0, .int .u32 0, .int .u32 0, .int .u32 0, .int .u32 0, .int .u32 0, .int .u32 0, .int .u32 0, .int .u32 0, .int .u32 0, .int .u32 0, .int .u32 0, .int .u32 0, .int .u32 0] 190)).alloc (.cells #[.int .u32 0, .int .u32 0, .int .u32 0, .int .u32 0, .int .u32 0, .int .u32 0, .int .u32 0, .int .u32 0, .int .u32 0, .int .u32 0, .int .u32 0, .int .u32 0, .int .u32 0, .int .u32 0, .int .u32 0, .int .u32 0, .int .u32 0, .int .u32 0, .int .u32 0, .int .u32 0, .int .u32 0, .int .u32 0, .int .u32 0, .int .u32 0, .int .u32 0, .int .u32 0, .int .u32 0, .int .u32 0, .int .u32 0, .int .u32 0, .int .u32 0, .int .u32 0, .int .u32 0, .int .u32 0, .int .u32 0, .int .u32 0, .int .u32 0, .int .u32 0, .int .u32 0, .int .u32 0, .int .u32 0, .int .u32 0, .int .u32 0, .int .u32 0, .int .u32 0, .int .u32 0, .int .u32 0, .int .u32 0, .int .u32 0, .int .u32 0, .int .u32 0, .int .u32 0, .int .u32 0, .int .u32 0, .int .u32 0, .int .u32 0, .int .u32 0, .int .u32 0, .int .u32 0, .int .u32 0, .int .u32 0, .int .u32 0, .int .u32 0, .int .u32 0] 190)) (sz l 0) := by
    rw [hz]
    exact (Below.heap_alloc _ _ _ (by simp)).trans (heap_alloc_new _ _)
  have hs1 : Ws (w.heap.size + 1) 190 ((w.alloc (.cells #[.int .u32 0, .int .u32 0, .int .u32 0, .int .u32 0, .int .u32 0, .int .u32 0, .int .u32 0, .int .u32 0, .int .u32 0, .int .u32 0, .int .u32 0, .int .u32 0, .int .u32 0, .int .u32 0, .int .u32 0, .int .u32 0, .int .u32 0, .int .u32 0, .int .u32 0, .int .u32 0, .int .u32 0, .int .u32 0, .int .u32 0, .int .u32 0, .int .u32 0, .int .u32 0, .int .u32 0, .int .u32 0, .int .u32 0, .int .u32 0, .int .u32 0, .int .u32 0, .int .u32 0, .int .u32 0, .int .u32 0, .int .u32 0, .int .u32 0, .int .u32 0, .int .u32 0, .int .u32 0, .int .u32 0, .int .u32 0, .int .u32 0, .int .u32 0, .int .u32 0, .int .u32 0, .int .u32 0, .int .u32 0, .int .u32 0, .int .u32 0, .int .u32 0, .int .u32 0, .int .u32 0, .int .u32 0, .int .u32 0, .int .u32 0, .int .u32 0, .int .u32 0, .int .u32 0, .int .u32 0, .int .u32 0, .int .u32 0, .int .u32 0, .int .u32 0] 190)).alloc (.cells #[.int .u32 0, .int .u32 0, .int .u32 0, .int .u32 0, .int .u32 0, .int .u32 0, .int .u32 0, .int .u32 0, .int .u32 0, .int .u32 0, .int .u32 0, .int .u32 0, .int .u32 0, .int .u32 0, .int .u32 0, .int .u32 0, .int .u32 0, .int .u32 0, .int .u32 0, .int .u32 0, .int .u32 0, .int .u32 0, .int .u32 0, .int .u32 0, .int .u32 0, .int .u32 0, .int .u32 0, .int .u32 0, .int .u32 0, .int .u32 0, .int .u32 0, .int .u32 0, .int .u32 0, .int .u32 0, .int .u32 0, .int .u32 0, .int .u32 0, .int .u32 0, .int .u32 0, .int .u32 0, .int .u32 0, .int .u32 0, .int .u32 0, .int .u32 0, .int .u32 0, .int .u32 0, .int .u32 0, .int .u32 0, .int .u32 0, .int .u32 0, .int .u32 0, .int .u32 0, .int .u32 0, .int .u32 0, .int .u32 0, .int .u32 0, .int .u32 0, .int .u32 0, .int .u32 0, .int .u32 0, .int .u32 0, .int .u32 0, .int .u32 0, .int .u32 0] 190)) (sz l 0) := by
    rw [hz]
    have := heap_alloc_new (w.alloc (.cells (wcells (sz l 0)) 190)) (.cells (wcells (sz l 0)) 190)
    rwa [World.size_alloc] at this
  clear hz
  generalize (w.alloc (.cells #[.int .u32 0, .int .u32 0, .int .u32 0, .int .u32 0, .int .u32 0, .int .u32 0, .int .u32 0, .int .u32 0, .int .u32 0, .int .u32 0, .int .u32 0, .int .u32 0, .int .u32 0, .int .u32 0, .int .u32 0, .int .u32 0, .int .u32 0, .int .u32 0, .int .u32 0, .int .u32 0, .int .u32 0, .int .u32 0, .int .u32 0, .int .u32 0, .int .u32 0, .int .u32 0, .int .u32 0, .int .u32 0, .int .u32 0, .int .u32 0, .int .u32 0, .int .u32 0, .int .u32 0, .int .u32 0, .int .u32 0, .int .u32 0, .int .u32 0, .int .u32 0, .int .u32 0, .int .u32 0, .int .u32 0, .int .u32 0, .int .u32 0, .int .u32 0, .int .u32 0, .int .u32 0, .int .u32 0, .int .u32 0, .int .u32 0, .int .u32 0, .int .u32 0, .int .u32 0, .int .u32 0, .int .u32 0, .int .u32 0, .int .u32 0, .int .u32 0, .int .u32 0, .int .u32 0, .int .u32 0, .int .u32 0, .int .u32 0, .int .u32 0, .int .u32 0] 190)).alloc (.cells #[.int .u32 0, .int .u32 0, .int .u32 0, .int .u32 0, .int .u32 0, .int .u32 0, .int .u32 0, .int .u32 0, .int .u32 0, .int .u32 0, .int .u32 0, .int .u32 0, .int .u32 0, .int .u32 0, .int .u32 0, .int .u32 0, .int .u32 0, .int .u32 0, .int .u32 0, .int .u32 0, .int .u32 0, .int .u32 0, .int .u32 0, .int .u32 0, .int .u32 0, .int .u32 0, .int .u32 0, .int .u32 0, .int .u32 0, .int .u32 0, .int .u32 0, .int .u32 0, .int .u32 0, .int .u32 0, .int .u32 0, .int .u32 0, .int .u32 0, .int .u32 0, .int .u32 0, .int .u32 0, .int .u32 0, .int .u32 0, .int .u32 0, .int .u32 0, .int .u32 0, .int .u32 0, .int .u32 0, .int .u32 0, .int .u32 0, .int .u32 0, .int .u32 0, .int .u32 0, .int .u32 0, .int .u32 0, .int .u32 0, .int .u32 0, .int .u32 0, .int .u32 0, .int .u32 0, .int .u32 0, .int .u32 0, .int .u32 0, .int .u32 0, .int .u32 0] 190) = W at *
  have n1 : ¬ g = w.heap.size + 1 := by omega
  have n2 : ¬ w.heap.size + 1 = g := by omega
  go_loopg [8] 16 (fun m v wr => ∃ t : Nat, t + m = 16 ∧ v = .int .i64 t ∧ Hid (Ws (w.heap.size + 1) 190 wr (sz l t)) ∧ Hid (Ws w.heap.size 190 wr (sz l 0)) ∧ Hid (Below w.heap.size w wr))
  case atStart => exact ⟨0, by omega, rfl, hs1, hs0, hB1⟩
  case round =>
    clear hs0 hs1 hB1
    obtain ⟨t, htm, rfl, HW, HR, HBL⟩ := hrel
    have HG := Lib.hid htm
    have ht : t ≤ 16 := by omega
    clear htm
    by_cases hlt : t < 16
    · have hcell : ∀ j, j < 64 → ∃ x : UInt8, l.getD j 0 = x ∧ wr.drew.cell? ⟨g, o + j, none⟩ = some (.int .u8 (x.toNat : Int)) := fun j hj => by
        have h1 : l[j]? = some (l[j]'(by omega)) := List.getElem?_eq_getElem (by omega)
        refine ⟨l[j]'(by omega), by rw [List.getD_eq_getElem?_getD, h1]; rfl, ?_⟩
        exact (HBL.out.drew.cell (p := ⟨g, _, none⟩) hg).trans (HB.out j _ h1)
      obtain ⟨b0, g0, c0⟩ := hcell (4 * t) (by omega)
      obtain ⟨b1, g1, c1⟩ := hcell (4 * t + 1) (by omega)
      obtain ⟨b2, g2, c2⟩ := hcell (4 * t + 2) (by omega)
      obtain ⟨b3, g3, c3⟩ := hcell (4 * t + 3) (by omega)
      have HX := Lib.hid (show next l (sched l t) t = ((b0.toNat * 256 + b1.toNat) * 256 + b2.toNat) * 256 + b3.toNat by
        unfold next word
        rw [if_pos hlt, g0, g1, g2, g3])
      have cw := HW.out.drew.cell (sz_own l (t := t) (by omega))
      have fw := HW.out.drew.free t
      clear hcell g0 g1 g2 g3
      have HV := Lib.hid (be4 b0 b1 b2 b3)
      rw [← HX.out] at HV
      have hk : ∀ (v : Value) (k : Nat), (wr.setCell ⟨w.heap.size + 1, t, none⟩ v).drew.cell? ⟨g, k, none⟩ = wr.drew.cell? ⟨g, k, none⟩ := fun v k => World.cell?_of_block (a := ⟨g, k, none⟩) (Below.heap_setCell _ _ _ _ n1)
      have HP := Lib.hid (show Ws (w.heap.size + 1) 190 (wr.setCell ⟨w.heap.size + 1, t, none⟩ (w32 (next l (sched l t) t))).drew (sz l (t + 1)) by
        have := HW.out.put t (next l (sched l t) t)
        rw [sz_set l (by omega)] at this
        exact this.drew)
      have HR2 := Lib.hid (show Ws w.heap.size 190 (wr.setCell ⟨w.heap.size + 1, t, none⟩ (w32 (next l (sched l t) t))).drew (sz l 0) from (Below.heap_setCell _ _ _ _ (by simp)).trans HR.out)
      have HB2 := Lib.hid ((HBL.out.setCell (p := ⟨w.heap.size + 1, t, none⟩) (Nat.le_succ _) (w32 (next l (sched l t) t))).drew)
      have q0 : IntKind.i64.wrap (4 * (t : Int)) = 4 * (t : Int) := IntWalk.i64_in _ ⟨by omega, by omega⟩
      have q1 : IntKind.i64.wrap (4 * (t : Int) + 1) = 4 * (t : Int) + 1 := IntWalk.i64_in _ ⟨by omega, by omega⟩
      have q2 : IntKind.i64.wrap (4 * (t : Int) + 2) = 4 * (t : Int) + 2 := IntWalk.i64_in _ ⟨by omega, by omega⟩
      have q3 : IntKind.i64.wrap (4 * (t : Int) + 3) = 4 * (t : Int) + 3 := IntWalk.i64_in _ ⟨by omega, by omega⟩
      have p0 : (0 : Int) ≤ 4 * (t : Int) := by omega
      have p1 : (0 : Int) ≤ 4 * (t : Int) + 1 := by omega
      have p2 : (0 : Int) ≤ 4 * (t : Int) + 2 := by omega
      have p3 : (0 : Int) ≤ 4 * (t : Int) + 3 := by omega
      have r0 : 4 * (t : Int) < 64 := by omega
      have r1 : 4 * (t : Int) + 1 < 64 := by omega
      have r2 : 4 * (t : Int) + 2 < 64 := by omega
      have r3 : 4 * (t : Int) + 3 < 64 := by omega
      have u0 : (4 * (t : Int)).toNat = 4 * t := by omega
      have u1 : (4 * (t : Int) + 1).toNat = 4 * t + 1 := by omega
      have u2 : (4 * (t : Int) + 2).toNat = 4 * t + 2 := by omega
      have u3 : (4 * (t : Int) + 3).toNat = 4 * t + 3 := by omega
      have y0 : (0 : Int) ≤ (t : Int) := by omega
      have y1 : (t : Int) < 64 := by omega
      have y2 : (t : Int) < 16 := by omega
      go_wp2_with fail
      go_region_held3 (fun W => (W.cell? ⟨g, o + 4 * t, none⟩ = some (.int .u8 (b0.toNat : Int)) ∧ W.cell? ⟨g, o + (4 * t + 1), none⟩ = some (.int .u8 (b1.toNat : Int))) ∧ W.cell? ⟨g, o + (4 * t + 2), none⟩ = some (.int .u8 (b2.toNat : Int)) ∧ W.cell? ⟨g, o + (4 * t + 3), none⟩ = some (.int .u8 (b3.toNat : Int)))
        (first | exact ⟨⟨c0, c1⟩, c2, c3⟩ | exact ⟨⟨(hk _ _).trans c0, (hk _ _).trans c1⟩, (hk _ _).trans c2, (hk _ _).trans c3⟩)
        (fail)
      rw [HV.out]
      go_wp2_with fail
      go_roundg (16 - (t + 1))
      case measure => have := HG.out; omega
      case rel => exact ⟨t + 1, by omega, by go_num, HP, HR2, HB2⟩
    · obtain rfl : t = 16 := by omega
      clear HG hlt ht n1 n2
      obtain ⟨W2, rfl⟩ : ∃ W2, W2 = wr := ⟨_, rfl⟩
      go_wp2_with fail
      go_loopg [5] 48 (fun m v wr => ∃ t : Nat, t + m = 64 ∧ 16 ≤ t ∧ v = .int .i64 t ∧ Hid (Ws (w.heap.size + 1) 190 wr (sz l t)) ∧ Hid (Ws w.heap.size 190 wr (sz l 0)) ∧ Hid (Below w.heap.size w wr))
      case atStart => exact ⟨16, by omega, by omega, rfl, HW, HR, HBL⟩
      case round =>
        clear HW HR HBL
        obtain ⟨t, htm, h16, rfl, HW, HR, HBL⟩ := hrel
        have HG := Lib.hid htm
        have ht : t ≤ 64 := by omega
        clear htm
        by_cases hlt : t < 64
        · obtain ⟨j16, e16⟩ : ∃ j, j + 16 = t := ⟨t - 16, by omega⟩
          obtain ⟨j15, e15⟩ : ∃ j, j + 15 = t := ⟨t - 15, by omega⟩
          obtain ⟨j7, e7⟩ : ∃ j, j + 7 = t := ⟨t - 7, by omega⟩
          obtain ⟨j2, e2⟩ : ∃ j, j + 2 = t := ⟨t - 2, by omega⟩
          have hcell := fun (j : Nat) (hj : j < t) => HW.out.drew.cell (sz_at l (j := j) (t := t) hj)
          have a16 := hcell j16 (by omega)
          have a15 := hcell j15 (by omega)
          have a7 := hcell j7 (by omega)
          have a2 := hcell j2 (by omega)
          have gd : ∀ j, j < t → (sched l t).getD j 0 = next l (sched l j) j := fun j hj => by rw [List.getD_eq_getElem?_getD, sched_at l hj]; rfl
          have HX := Lib.hid (show next l (sched l t) t = (((next l (sched l j16) j16 + s0 (next l (sched l j15) j15)) % M + next l (sched l j7) j7) % M + s1 (next l (sched l j2) j2)) % M by
            conv => lhs; unfold next
            rw [if_neg (by omega), show t - 16 = j16 by omega, show t - 15 = j15 by omega, show t - 7 = j7 by omega, show t - 2 = j2 by omega, gd _ (by omega), gd _ (by omega), gd _ (by omega), gd _ (by omega)])
          have l16 := next_lt l (sched l j16) j16
          have l15 := next_lt l (sched l j15) j15
          have l7 := next_lt l (sched l j7) j7
          have l2 := next_lt l (sched l j2) j2
          generalize next l (sched l j16) j16 = x16 at *
          generalize next l (sched l j15) j15 = x15 at *
          generalize next l (sched l j7) j7 = x7 at *
          generalize next l (sched l j2) j2 = x2 at *
          have cw := HW.out.drew.cell (sz_own l (t := t) (by omega))
          have fw := HW.out.drew.free t
          clear hcell gd
          have q16 : IntKind.i64.wrap ((t : Int) - 16) = (j16 : Int) := (IntWalk.i64_in _ ⟨by omega, by omega⟩).trans (by omega)
          have q15 : IntKind.i64.wrap ((t : Int) - 15) = (j15 : Int) := (IntWalk.i64_in _ ⟨by omega, by omega⟩).trans (by omega)
          have q7 : IntKind.i64.wrap ((t : Int) - 7) = (j7 : Int) := (IntWalk.i64_in _ ⟨by omega, by omega⟩).trans (by omega)
          have q2 : IntKind.i64.wrap ((t : Int) - 2) = (j2 : Int) := (IntWalk.i64_in _ ⟨by omega, by omega⟩).trans (by omega)
          have r16 : (j16 : Int) < 64 := by omega
          have r15 : (j15 : Int) < 64 := by omega
          have r7 : (j7 : Int) < 64 := by omega
          have r2 : (j2 : Int) < 64 := by omega
          have p16 : (0 : Int) ≤ (j16 : Int) := by omega
          have p15 : (0 : Int) ≤ (j15 : Int) := by omega
          have p7 : (0 : Int) ≤ (j7 : Int) := by omega
          have p2 : (0 : Int) ≤ (j2 : Int) := by omega
          have E16 := Lib.hid e16
          have E15 := Lib.hid e15
          have E7 := Lib.hid e7
          have E2 := Lib.hid e2
          clear e16 e15 e7 e2
          have y0 : (0 : Int) ≤ (t : Int) := by omega
          have y1 : (t : Int) < 64 := by omega
          go_wp2_with fail
          go_region_held3 (fun W => W.cell? ⟨w.heap.size + 1, j15, none⟩ = some (w32 x15) ∧ W.cell? ⟨w.heap.size + 1, j2, none⟩ = some (w32 x2))
            (first | exact ⟨a15, a2⟩)
            (fail)
          have a16' : wr.drew.drew.cell? ⟨w.heap.size + 1, j16, none⟩ = some (w32 x16) := a16
          have a7' : wr.drew.drew.cell? ⟨w.heap.size + 1, j7, none⟩ = some (w32 x7) := a7
          have cw' : wr.drew.drew.cell? ⟨w.heap.size + 1, t, none⟩ = some (w32 0) := cw
          have fw' : wr.drew.drew.frozen? ⟨w.heap.size + 1, t, none⟩ = false := fw
          have hk : ∀ (v : Value) (j : Nat), j ≠ t → (wr.setCell ⟨w.heap.size + 1, t, none⟩ v).drew.drew.cell? ⟨w.heap.size + 1, j, none⟩ = wr.drew.drew.cell? ⟨w.heap.size + 1, j, none⟩ := fun v j hj => World.cell?_setCell_other wr ⟨_, t, none⟩ ⟨_, j, none⟩ v (fun h => hj (Addr.mk.inj h).2.1.symm)
          have n16 : j16 ≠ t := by have := E16.out; omega
          have n7 : j7 ≠ t := by have := E7.out; omega
          have HV := Lib.hid (step x16 x15 x7 x2 l15 l2)
          rw [← HX.out] at HV
          have HP := Lib.hid (show Ws (w.heap.size + 1) 190 (wr.setCell ⟨w.heap.size + 1, t, none⟩ (w32 (next l (sched l t) t))).drew.drew (sz l (t + 1)) by
            have := HW.out.put t (next l (sched l t) t)
            rw [sz_set l (by omega)] at this
            exact this.drew.drew)
          have HR2 := Lib.hid (show Ws w.heap.size 190 (wr.setCell ⟨w.heap.size + 1, t, none⟩ (w32 (next l (sched l t) t))).drew.drew (sz l 0) from (Below.heap_setCell _ _ _ _ (by simp)).trans HR.out)
          have HB2 := Lib.hid ((HBL.out.setCell (p := ⟨w.heap.size + 1, t, none⟩) (Nat.le_succ _) (w32 (next l (sched l t) t))).drew.drew)
          go_wp2_with fail
          go_region_held3 (fun W => W.cell? ⟨w.heap.size + 1, j16, none⟩ = some (w32 x16) ∧ W.cell? ⟨w.heap.size + 1, j7, none⟩ = some (w32 x7))
            (first | exact ⟨a16', a7'⟩ | exact ⟨(hk _ _ n16).trans a16', (hk _ _ n7).trans a7'⟩)
            (first | (go_at_call 124; refine (rotI _ _ _ (by assumption) (by decide) (by decide)).mono ?_; rintro e w' ⟨rfl, rfl⟩))
          rw [HV.out]
          go_wp2_with fail
          go_roundg (64 - (t + 1))
          case measure => have := HG.out; omega
          case rel => exact ⟨t + 1, by omega, by omega, by go_num, HP, HR2, HB2⟩
        · obtain rfl : t = 64 := by omega
          clear HG hlt ht h16
          rw [show sz l 64 = sched l 64 by unfold sz; exact List.append_nil _] at HW
          have hsz : (wcells (sched l 64)).size = 64 := by rw [wcells_size, sched_length]
          have hsz0 : (wcells (sz l 0)).size = 64 := by rw [wcells_size, sz_length]
          generalize hL : sched l 64 = L at *
          have HL := Lib.hid hL; clear hL
          generalize sz l 0 = Z at *
          have hu : Tryz.prog.underlying 190 = some (.array 64 90) := by kernel_rfl
          have hi0 : (Tryz.prog.info? 190).map (·.size) = some 64 := by kernel_rfl
          have hi : (Tryz.prog.info? 190).map (·.size) = some (wcells L).size := hi0.trans (congrArg some hsz.symm)
          go_wp2_with (first
            | (guard_target =~ wpList _ _ _ ({ dst := _, op := Op.load 190 _, type := _, pos := _, after := _, guard := none } :: _) _ _; refine wpList_load_row rfl 190 _ rfl _ rfl _ _ _ _ HW.out hu rfl hi ?_)
            | (guard_target =~ wpList _ _ _ ({ dst := _, op := Op.store 190 _ _, type := _, pos := _, after := _, guard := none } :: _) _ _; refine wpList_store_row rfl 190 _ _ rfl _ _ rfl rfl _ _ HR.out hi (hsz0.trans hsz.symm) (wcells_one _) ?_))
          refine bodyPost_ret (results_cell_row rfl _ _ w.heap.size 190 _ _ _ rfl (heap_setRow _ HR.out) hu rfl hi) rfl ⟨by rw [HL.out], ?_⟩
          exact below_row HBL.out (Nat.le_refl _) _
end Go.Proofs.YtecnnlppinhmgaaGreatDoor.ShaB
namespace Go.Proofs.YtecnnlppinhmgaaGreatDoor.ShaC
open Go.RowKit Go.Proofs.YtecnnlppinhmgaaGreatDoor Go.Proofs.YtecnnlppinhmgaaGreatDoor.Sha Go.Proofs.YtecnnlppinhmgaaGreatDoor.ShaA Go.Proofs.YtecnnlppinhmgaaGreatDoor.ShaB

theorem wpList_build_as {P : Program} {ops : Array Oper} {rest : List Oper} {o : Oper} {a : Act} {w : World} {Q : Exit → Act → World → Prop} (hg : o.guard = none) (t : TypeId) (parts : Array (Nat × Operand)) (ho : o.op = .build t parts) (cs : Array Value)
    (hb : P.built t (parts.map fun (i, x) => (i, a.eval x)).toList = some cs) (h : wpList P ops Q rest (a.put o.dst (.agg cs)) w) : wpList P ops Q (o :: rest) a w :=
  wpList_build hg t parts ho (by rw [hb]; rfl) (by rw [hb]; exact h)

set_option maxHeartbeats 1000000 in
set_option maxRecDepth 100000 in
theorem constants (w : World) : Calls Tryz.prog 123 #[] w fun e w' => e = .returned (.agg (wcells K)) ∧ Below w.heap.size w w' := by
  have hu : Tryz.prog.underlying 190 = some (.array 64 90) := by kernel_rfl
  have hi : (Tryz.prog.info? 190).map (·.size) = some (wcells K).size := by kernel_rfl
  have hK := wcells_one K
  have hKs : (wcells K).size = 64 := rfl
  go_enter Tryz.func123, Tryz.ntmps123
  go_wp2_with (first
    | (guard_target =~ wpList _ _ _ ({ dst := _, op := Op.build 190 _, type := _, pos := _, after := _, guard := none } :: _) _ _; refine wpList_build_as rfl 190 _ rfl (wcells K) (by kernel_rfl) ?_; generalize hL : wcells K = L at *; have HL := Lib.hid hL; clear hL)
    | (guard_target =~ wpList _ _ _ ({ dst := _, op := Op.store 190 _ _, type := _, pos := _, after := _, guard := none } :: _) _ _; refine wpList_store_row rfl 190 _ _ rfl _ _ rfl rfl _ _ (heap_alloc_new _ _) hi hKs.symm hK ?_))
  refine bodyPost_ret (results_cell_row rfl _ _ w.heap.size 190 _ _ _ rfl (heap_setRow _ (heap_alloc_new _ _)) hu rfl hi) rfl ⟨by rw [HL.out], ?_⟩
  exact below_row ((Below.refl _ _).alloc (Nat.le_refl _) _) (Nat.le_refl _) _
/-- a state's words -/
def stw (s : St) : List Nat := [s.a, s.b, s.c, s.d, s.e, s.f, s.g, s.h]

set_option maxHeartbeats 1000000 in
set_option maxRecDepth 100000 in
theorem start (w : World) : Calls Tryz.prog 102 #[] w fun e w' => e = .returned (.agg (wcells (stw init))) ∧ Below w.heap.size w w' := by
  have hu : Tryz.prog.underlying 167 = some (.array 8 90) := by kernel_rfl
  have hi : (Tryz.prog.info? 167).map (·.size) = some (wcells (stw init)).size := by kernel_rfl
  have hK := wcells_one (stw init)
  have hKs : (wcells (stw init)).size = 8 := rfl
  go_enter Tryz.func102, Tryz.ntmps102
  go_wp2_with (first
    | (guard_target =~ wpList _ _ _ ({ dst := _, op := Op.build 167 _, type := _, pos := _, after := _, guard := none } :: _) _ _; refine wpList_build_as rfl 167 _ rfl (wcells (stw init)) (by kernel_rfl) ?_; generalize hL : wcells (stw init) = L at *; have HL := Lib.hid hL; clear hL)
    | (guard_target =~ wpList _ _ _ ({ dst := _, op := Op.store 167 _ _, type := _, pos := _, after := _, guard := none } :: _) _ _; refine wpList_store_row rfl 167 _ _ rfl _ _ rfl rfl _ _ (heap_alloc_new _ _) hi hKs.symm hK ?_))
  refine bodyPost_ret (results_cell_row rfl _ _ w.heap.size 167 _ _ _ rfl (heap_setRow _ (heap_alloc_new _ _)) hu rfl hi) rfl ⟨by rw [HL.out], ?_⟩
  exact below_row ((Below.refl _ _).alloc (Nat.le_refl _) _) (Nat.le_refl _) _
end Go.Proofs.YtecnnlppinhmgaaGreatDoor.ShaC
