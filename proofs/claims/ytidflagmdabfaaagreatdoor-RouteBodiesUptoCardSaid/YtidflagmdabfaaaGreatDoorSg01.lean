/-
  Small lemmas on bytes, strings and cells, of no program. SHA-256 and keyed digests on lists of bytes. Plain: of no program. The walks of the two rot.
-/
import Derived.WalkKit
import Derived.Lib.Hide
import Derived.Lib.Strings
import Derived.Lib.Builder
import Derived.Lib.AppendStr
import Derived.Lib.UnsafeStr
import Derived.Laws.BitsLemmas
import Derived.Test.YtidflagmdabfaaaGreatDoorProg
import Derived.WalkSpells
import Derived.WalkLawsBesides
import Derived.WalkSmall
import Derived.Outline
import Derived.Below
import Derived.Laws.BitsAllLaws
namespace Go.Proofs.YtidflagmdabfaaaGreatDoor.Com
open Go.RowKit

theorem u8_ne {c d : UInt8} (h : c ≠ d) {n : Int} (hn : n = (d.toNat : Int)) : ((c.toNat : Int) == n) = false := by
  subst hn
  simp only [beq_eq_false_iff_ne, ne_eq]
  intro e
  exact h (UInt8.toNat_inj.1 (by omega))
theorem u8_bne {c d : UInt8} (h : c ≠ d) {n : Int} (hn : n = (d.toNat : Int)) : ((c.toNat : Int) != n) = true := by
  rw [bne, u8_ne h hn]; rfl
theorem mk_get0 (c : UInt8) (t : List UInt8) : ∀ h, (ByteArray.mk (c :: t).toArray)[0]'h = c := fun _ => rfl
theorem mk_drop1 (c : UInt8) (t : List UInt8) {n : Nat} (hn : n = t.length + 1) : (ByteArray.mk (c :: t).toArray).extract 1 n = ⟨t.toArray⟩ := by
  subst hn
  simp [ByteArray.extract, ByteArray.copySlice]
theorem take_succ (s : ByteArray) (k : Nat) (h : k < s.size) : s.data.toList.take (k + 1) = s.data.toList.take k ++ [s[k]] := by
  rw [List.take_succ_eq_append_getElem (by simpa using h)]; rfl
theorem byteCells_append (a b : List UInt8) : Lib.byteCells (a ++ b) = Lib.byteCells a ++ Lib.byteCells b := by simp [Lib.byteCells]
theorem byteCells_length (a : List UInt8) : (Lib.byteCells a).length = a.length := by simp [Lib.byteCells]
theorem byteCells_snoc (a : List UInt8) (c : UInt8) : Lib.byteCells (a ++ [c]) = Lib.byteCells a ++ [.int .u8 c.toNat] := by simp [Lib.byteCells]
theorem strCells_mk (a : List UInt8) : Lib.strCells ⟨a.toArray⟩ = Lib.byteCells a := by simp [Lib.strCells, Lib.byteCells]
theorem size_mk (a : List UInt8) : (ByteArray.mk a.toArray).size = a.length := by show a.toArray.size = _; simp
theorem mk_data (s : ByteArray) : (⟨s.data.toList.toArray⟩ : ByteArray) = s := by cases s; simp
theorem str_eq {v : Value} {a b : List UInt8} (hv : v = .string ⟨a.toArray⟩) (h : a = b) : Ending.returned v = .returned (.string ⟨b.toArray⟩) := by rw [hv, h]
theorem mk_append (a b : List UInt8) : (⟨a.toArray⟩ : ByteArray) ++ ⟨b.toArray⟩ = ⟨(a ++ b).toArray⟩ := by simp [ByteArray.mk_append_mk]
theorem toList_length (s : ByteArray) : s.data.toList.length = s.size := rfl
theorem cat {a b c : List UInt8} (h : c = a ++ b) : Value.string ((⟨a.toArray⟩ : ByteArray) ++ ⟨b.toArray⟩) = .string ⟨c.toArray⟩ := by rw [mk_append, h]
theorem extract_data (s : ByteArray) (i j : Nat) : (s.extract i j).data.toList = (s.data.toList.take j).drop i := by
  simp [ByteArray.data_extract, List.drop_take]
theorem extract_one (s : ByteArray) (k : Nat) (h : k < s.size) : s.extract k (k + 1) = ⟨[s[k]].toArray⟩ := by
  rw [← mk_data (s.extract k (k + 1)), extract_data, take_succ s k h, List.drop_append_of_le_length (by rw [List.length_take, toList_length]; omega), List.drop_eq_nil_of_le (by rw [List.length_take]; omega)]
  rfl
theorem take_all (s : ByteArray) (k : Nat) (h : k = s.size) : s.data.toList.take k = s.data.toList := List.take_of_length_le (by rw [toList_length, h]; exact Nat.le_refl _)
theorem builderAt_alloc {T e : TypeId} {B b : Nat} {p : Value} {bs : List Value} {w : World} (h : Lib.BuilderAt T e B b p bs w) (o : Obj) : Lib.BuilderAt T e B b p bs (w.alloc o) := by
  have hlt := h.lt
  obtain ⟨hB, v, hb, hown, hne⟩ := h
  exact ⟨hB, v, (Lib.alloc_old w o b hlt).trans hb, hown.alloc _, hne⟩
theorem isBuilder_alloc {T e : TypeId} {B b : Nat} {bs : List Value} {w : World} (h : Lib.IsBuilder T e B b bs w) (o : Obj) : Lib.IsBuilder T e B b bs (w.alloc o) :=
  h.imp (builderAt_alloc · o) (builderAt_alloc · o)
theorem toList_mk (l : List UInt8) : (ByteArray.mk l.toArray).toList = l := by simp
theorem toList_data (s : ByteArray) : s.toList = s.data.toList := by rw [← mk_data s, toList_mk]
theorem one_byte {P : Program} (w : World) (src dst e : TypeId) (hs : P.underlying src = some (.slice e)) (he : P.underlying e = some (.int .u8)) (hd : P.underlying dst = some .string) (j : Nat) (h : j < 256) :
    (convert src dst (.slice (some ⟨w.heap.size, 0, none⟩) 1 1)).run P (w.alloc (.cells #[.int .u8 (j : Int)] e)) = .ok (.string ⟨[UInt8.ofNat j].toArray⟩) (w.alloc (.cells #[.int .u8 (j : Int)] e)) := by
  refine run_convert_bytes_back (w.alloc (.cells #[.int .u8 (j : Int)] e)) src dst e ⟨w.heap.size, 0, none⟩ 1 [UInt8.ofNat j] hs he hd fun i hi => ?_
  obtain rfl : i = 0 := by simpa using hi
  have : (UInt8.ofNat j).toNat = j := by simp; omega
  simp [Addr.add, this]
theorem own_below {w w' : World} {base : Nat} {e : TypeId} {size : Nat} {v : Value} {n : Nat} {xs : List Value} (h : w.ownsRow base e size v n xs) (hb : Below w.heap.size w w') : w'.ownsRow base e size v n xs :=
  h.kept (row := none) ⟨hb.os, hb.tape, hb.output, hb.size, fun i hi _ => hb.block i hi⟩ (Classical.em _)
theorem cells_new (w : World) (v : Value) (t : TypeId) : ∀ (j : Nat) u, [v][j]? = some u → (w.alloc (.cells #[v] t)).cell? ((⟨w.heap.size, 0, none⟩ : Addr).add j) = some u := by
  intro j u hj
  match j, hj with
  | 0, hj => simp at hj; subst hj; simp [Addr.add]
theorem intercalate_nil (xs : List (List UInt8)) : ([] : List UInt8).intercalate xs = xs.flatten := by
  unfold List.intercalate
  induction xs with
  | nil => rfl
  | cons x r ih =>
    cases r with
    | nil => rfl
    | cons y r => simp only [List.intersperse_cons_cons, List.flatten_cons, List.nil_append]; rw [ih]; rfl
/-- a slice of strings, read at its elements -/
def Strs (w : World) (a : Option Addr) (xs : List ByteArray) : Prop :=
  xs = [] ∨ ∃ b o, a = some ⟨b, o, none⟩ ∧ b < w.heap.size ∧ ∀ j x, xs[j]? = some x → w.cell? ⟨b, o + j, none⟩ = some (.string x)
/-- the bytes of a list of strings, one behind the other -/
def flat (xs : List ByteArray) : List UInt8 := (xs.map (·.data.toList)).flatten
theorem flat_nil : flat [] = [] := rfl
theorem flat_snoc (xs : List ByteArray) (x : ByteArray) : flat (xs ++ [x]) = flat xs ++ x.data.toList := by simp [flat]
theorem flat_append (xs ys : List ByteArray) : flat (xs ++ ys) = flat xs ++ flat ys := by simp [flat]
theorem flat_one (x : ByteArray) : flat [x] = x.data.toList := by simp [flat]
theorem flat_take_le (xs : List ByteArray) (k : Nat) : (flat (xs.take k)).length ≤ (flat xs).length := by
  conv => rhs; rw [← List.take_append_drop k xs, flat_append]
  simp
theorem Strs.below {w w' : World} {a : Option Addr} {xs : List ByteArray} (h : Strs w a xs) (hb : Below w.heap.size w w') : Strs w' a xs := by
  rcases h with h | ⟨b, o, h1, h2, h3⟩
  · exact .inl h
  · exact .inr ⟨b, o, h1, Nat.lt_of_lt_of_le h2 hb.size, fun j x hx => (hb.cell (p := ⟨b, o + j, none⟩) h2).trans (h3 j x hx)⟩
theorem strs_of_own {w : World} {base : Nat} {e : TypeId} {v : Value} {ts : List ByteArray} (h : w.ownsRow base e 1 v ts.length (ts.map Value.string)) :
    ∃ A c, v = .slice A ts.length c ∧ ts.length ≤ c ∧ Strs w A ts := by
  rcases h.2 with ⟨rfl, h0⟩ | ⟨g, cap, cur, hv, hb, hg, hn, hm, hcs, htk⟩
  · rw [List.eq_nil_of_length_eq_zero h0]
    exact ⟨none, 0, rfl, Nat.le_refl _, .inl rfl⟩
  · refine ⟨some ⟨g, 0, none⟩, cap, hv, hn, .inr ⟨g, 0, rfl, (Array.getElem?_eq_some_iff.1 hg).1, fun j x hx => ?_⟩⟩
    have := h.cells (g := g) (by rw [hv]; rfl) j (.string x) (by rw [List.getElem?_map, hx]; rfl)
    rw [Nat.zero_add]
    by_cases h0 : j = 0
    · subst h0; simpa [Addr.add] using this
    · simpa [Addr.add, h0] using this

end Go.Proofs.YtidflagmdabfaaaGreatDoor.Com
namespace Go.Proofs.YtidflagmdabfaaaGreatDoor.Sha

abbrev M : Nat := 4294967296
/-- turned to the right -/
def rotr (x n : Nat) : Nat := (x >>> n) ||| ((x <<< (32 - n)) % M)
def s0 (x : Nat) : Nat := rotr x 7 ^^^ rotr x 18 ^^^ (x >>> 3)
def s1 (x : Nat) : Nat := rotr x 17 ^^^ rotr x 19 ^^^ (x >>> 10)
def e0 (x : Nat) : Nat := rotr x 2 ^^^ rotr x 13 ^^^ rotr x 22
def e1 (x : Nat) : Nat := rotr x 6 ^^^ rotr x 11 ^^^ rotr x 25
def ch (e f g : Nat) : Nat := (e &&& f) ^^^ ((e ^^^ 4294967295) &&& g)
def maj (a b c : Nat) : Nat := (a &&& b) ^^^ (a &&& c) ^^^ (b &&& c)
def K : List Nat := [
  0x428a2f98, 0x71374491, 0xb5c0fbcf, 0xe9b5dba5, 0x3956c25b, 0x59f111f1, 0x923f82a4, 0xab1c5ed5,
  0xd807aa98, 0x12835b01, 0x243185be, 0x550c7dc3, 0x72be5d74, 0x80deb1fe, 0x9bdc06a7, 0xc19bf174,
  0xe49b69c1, 0xefbe4786, 0x0fc19dc6, 0x240ca1cc, 0x2de92c6f, 0x4a7484aa, 0x5cb0a9dc, 0x76f988da,
  0x983e5152, 0xa831c66d, 0xb00327c8, 0xbf597fc7, 0xc6e00bf3, 0xd5a79147, 0x06ca6351, 0x14292967,
  0x27b70a85, 0x2e1b2138, 0x4d2c6dfc, 0x53380d13, 0x650a7354, 0x766a0abb, 0x81c2c92e, 0x92722c85,
  0xa2bfe8a1, 0xa81a664b, 0xc24b8b70, 0xc76c51a3, 0xd192e819, 0xd6990624, 0xf40e3585, 0x106aa070,
  0x19a4c116, 0x1e376c08, 0x2748774c, 0x34b0bcb5, 0x391c0cb3, 0x4ed8aa4a, 0x5b9cca4f, 0x682e6ff3,
  0x748f82ee, 0x78a5636f, 0x84c87814, 0x8cc70208, 0x90befffa, 0xa4506ceb, 0xbef9a3f7, 0xc67178f2]
/-- the eight words -/
structure St where
  a : Nat
  b : Nat
  c : Nat
  d : Nat
  e : Nat
  f : Nat
  g : Nat
  h : Nat
deriving DecidableEq
def St.ok (s : St) : Prop := s.a < M ∧ s.b < M ∧ s.c < M ∧ s.d < M ∧ s.e < M ∧ s.f < M ∧ s.g < M ∧ s.h < M
def init : St := ⟨0x6a09e667, 0xbb67ae85, 0x3c6ef372, 0xa54ff53a, 0x510e527f, 0x9b05688c, 0x1f83d9ab, 0x5be0cd19⟩
/-- a block's word -/
def word (l : List UInt8) (t : Nat) : Nat := (((l.getD (4 * t) 0).toNat * 256 + (l.getD (4 * t + 1) 0).toNat) * 256 + (l.getD (4 * t + 2) 0).toNat) * 256 + (l.getD (4 * t + 3) 0).toNat
/-- the word behind t words -/
def next (l : List UInt8) (w : List Nat) (t : Nat) : Nat :=
  if t < 16 then word l t else (((w.getD (t - 16) 0 + s0 (w.getD (t - 15) 0)) % M + w.getD (t - 7) 0) % M + s1 (w.getD (t - 2) 0)) % M
/-- the first t words -/
def sched (l : List UInt8) : Nat → List Nat
  | 0 => []
  | t + 1 => sched l t ++ [next l (sched l t) t]
def t1 (s : St) (k w : Nat) : Nat := ((((s.h + e1 s.e) % M + ch s.e s.f s.g) % M + k) % M + w) % M
def t2 (s : St) : Nat := (e0 s.a + maj s.a s.b s.c) % M
def round (s : St) (k w : Nat) : St := ⟨(t1 s k w + t2 s) % M, s.a, s.b, s.c, (s.d + t1 s k w) % M, s.e, s.f, s.g⟩
/-- the state behind t rounds -/
def rounds (s : St) (w : List Nat) : Nat → St
  | 0 => s
  | t + 1 => round (rounds s w t) (K.getD t 0) (w.getD t 0)
def add (s r : St) : St := ⟨(r.a + s.a) % M, (r.b + s.b) % M, (r.c + s.c) % M, (r.d + s.d) % M, (r.e + s.e) % M, (r.f + s.f) % M, (r.g + s.g) % M, (r.h + s.h) % M⟩
/-- the state behind a block -/
def digest (s : St) (l : List UInt8) : St := add s (rounds s (sched l 64) 64)
/-- the state behind n blocks -/
def blocks (s : St) : Nat → List UInt8 → St
  | 0, _ => s
  | n + 1, l => blocks (digest s (l.take 64)) n (l.drop 64)
/-- a number as eight bytes -/
def be8 (n : Nat) : List UInt8 := [56, 48, 40, 32, 24, 16, 8, 0].map fun i => UInt8.ofNat (n / 2 ^ i)
/-- how many zeros stand behind the mark -/
def zeros (n : Nat) : Nat := (55 + 64 - n % 64) % 64
/-- a message, filled up -/
def pad (l : List UInt8) : List UInt8 := l ++ 128 :: (List.replicate (zeros l.length) 0 ++ be8 (8 * l.length))
def bytes4 (x : Nat) : List UInt8 := [UInt8.ofNat (x / 16777216), UInt8.ofNat (x / 65536), UInt8.ofNat (x / 256), UInt8.ofNat x]
def out (s : St) : List UInt8 := bytes4 s.a ++ bytes4 s.b ++ bytes4 s.c ++ bytes4 s.d ++ bytes4 s.e ++ bytes4 s.f ++ bytes4 s.g ++ bytes4 s.h
/-- the digest -/
def sha (l : List UInt8) : List UInt8 := out (blocks init ((pad l).length / 64) (pad l))

theorem xor_lt {x y : Nat} (hx : x < M) (hy : y < M) : x ^^^ y < M := Nat.xor_lt_two_pow (n := 32) hx hy
theorem and_lt {x y : Nat} (hy : y < M) : x &&& y < M := Nat.lt_of_le_of_lt Nat.and_le_right hy
theorem or_lt {x y : Nat} (hx : x < M) (hy : y < M) : x ||| y < M := Nat.or_lt_two_pow (n := 32) hx hy
theorem shr_lt {x : Nat} (n : Nat) (hx : x < M) : x >>> n < M := Nat.lt_of_le_of_lt (Nat.shiftRight_le _ _) hx
theorem rotr_lt {x : Nat} (n : Nat) (hx : x < M) : rotr x n < M := or_lt (shr_lt n hx) (Nat.mod_lt _ (by decide))
theorem s0_lt {x : Nat} (hx : x < M) : s0 x < M := xor_lt (xor_lt (rotr_lt _ hx) (rotr_lt _ hx)) (shr_lt _ hx)
theorem s1_lt {x : Nat} (hx : x < M) : s1 x < M := xor_lt (xor_lt (rotr_lt _ hx) (rotr_lt _ hx)) (shr_lt _ hx)
theorem e0_lt {x : Nat} (hx : x < M) : e0 x < M := xor_lt (xor_lt (rotr_lt _ hx) (rotr_lt _ hx)) (rotr_lt _ hx)
theorem e1_lt {x : Nat} (hx : x < M) : e1 x < M := xor_lt (xor_lt (rotr_lt _ hx) (rotr_lt _ hx)) (rotr_lt _ hx)
theorem ch_lt {e f g : Nat} (hf : f < M) (hg : g < M) : ch e f g < M := xor_lt (and_lt hf) (and_lt hg)
theorem maj_lt {a b c : Nat} (hb : b < M) (hc : c < M) : maj a b c < M := xor_lt (xor_lt (and_lt hb) (and_lt hc)) (and_lt hc)
theorem word_lt (l : List UInt8) (t : Nat) : word l t < M := by
  have h0 := UInt8.toNat_lt (l.getD (4 * t) 0)
  have h1 := UInt8.toNat_lt (l.getD (4 * t + 1) 0)
  have h2 := UInt8.toNat_lt (l.getD (4 * t + 2) 0)
  have h3 := UInt8.toNat_lt (l.getD (4 * t + 3) 0)
  show word l t < 4294967296
  unfold word
  omega
theorem next_lt (l : List UInt8) (w : List Nat) (t : Nat) : next l w t < M := by
  unfold next
  split
  · exact word_lt l t
  · exact Nat.mod_lt _ (by decide)
theorem sched_length (l : List UInt8) : ∀ t, (sched l t).length = t
  | 0 => rfl
  | t + 1 => by rw [sched, List.length_append, sched_length l t]; rfl
theorem sched_lt (l : List UInt8) : ∀ t, ∀ x ∈ sched l t, x < M
  | 0, x, h => by simp [sched] at h
  | t + 1, x, h => by
    rw [sched] at h
    rcases List.mem_append.1 h with h | h
    · exact sched_lt l t x h
    · obtain rfl := List.mem_singleton.1 h
      exact next_lt _ _ _
theorem sched_at (l : List UInt8) {j : Nat} : ∀ {t : Nat}, j < t → (sched l t)[j]? = some (next l (sched l j) j)
  | 0, h => absurd h (Nat.not_lt_zero _)
  | t + 1, h => by
    rw [sched]
    rcases Nat.lt_or_ge j t with h2 | h2
    · rw [List.getElem?_append_left (by rw [sched_length]; exact h2)]
      exact sched_at l h2
    · obtain rfl : j = t := by omega
      rw [List.getElem?_append_right (by rw [sched_length]; exact Nat.le_refl _), sched_length, Nat.sub_self]
      rfl
theorem getD_lt {w : List Nat} (h : ∀ x ∈ w, x < M) (j : Nat) : w.getD j 0 < M := by
  rw [List.getD_eq_getElem?_getD]
  cases e : w[j]? with
  | none => decide
  | some x => exact h x (List.mem_of_getElem? e)
theorem K_lt : ∀ x ∈ K, x < M := by decide +kernel
theorem K_length : K.length = 64 := rfl
theorem round_ok {s : St} {k w : Nat} (h : s.ok) : (round s k w).ok := by
  obtain ⟨h0, h1, h2, h3, h4, h5, h6, h7⟩ := h
  exact ⟨Nat.mod_lt _ (by decide), h0, h1, h2, Nat.mod_lt _ (by decide), h4, h5, h6⟩
theorem rounds_ok {s : St} {w : List Nat} (h : s.ok) : ∀ t, (rounds s w t).ok
  | 0 => h
  | t + 1 => round_ok (rounds_ok h t)
theorem add_ok (s r : St) : (add s r).ok := by
  refine ⟨?_, ?_, ?_, ?_, ?_, ?_, ?_, ?_⟩ <;> exact Nat.mod_lt _ (by decide)
theorem digest_ok (s : St) (l : List UInt8) : (digest s l).ok := add_ok _ _
theorem init_ok : init.ok := ⟨by decide, by decide, by decide, by decide, by decide, by decide, by decide, by decide⟩
theorem blocks_ok : ∀ (n : Nat) {s : St} (l : List UInt8), s.ok → (blocks s n l).ok
  | 0, _, _, h => h
  | n + 1, _, _, _ => blocks_ok n _ (digest_ok _ _)
theorem blocks_add (m : Nat) : ∀ (n : Nat) (s : St) (l : List UInt8), blocks s (n + m) l = blocks (blocks s n l) m (l.drop (64 * n))
  | 0, s, l => by simp [blocks]
  | n + 1, s, l => by
    rw [show n + 1 + m = (n + m) + 1 by omega, blocks, blocks_add m n, blocks, List.drop_drop, show 64 + 64 * n = 64 * (n + 1) by omega]
theorem blocks_app : ∀ (n : Nat) (s : St) (l r : List UInt8), 64 * n ≤ l.length → blocks s n (l ++ r) = blocks s n l
  | 0, s, l, r, _ => rfl
  | n + 1, s, l, r, h => by
    rw [blocks, blocks, List.take_append_of_le_length (by omega), List.drop_append_of_le_length (by omega)]
    exact blocks_app n _ _ r (by rw [List.length_drop]; omega)
theorem zeros_spec (n : Nat) : (n + 1 + zeros n) % 64 = 56 := by
  unfold zeros
  omega
theorem pad_length (l : List UInt8) : (pad l).length = l.length + 1 + zeros l.length + 8 := by
  unfold pad be8
  simp only [List.length_append, List.length_cons, List.length_replicate, List.length_map, List.length_nil]
  omega
theorem pad_mod (l : List UInt8) : (pad l).length % 64 = 0 := by
  have := zeros_spec l.length
  rw [pad_length]
  omega
theorem out_length (s : St) : (out s).length = 32 := rfl
theorem sha_length (l : List UInt8) : (sha l).length = 32 := rfl

/-- keyed -/
def key64 (k : List UInt8) : List UInt8 := let k' := if 64 < k.length then sha k else k
  k' ++ List.replicate (64 - k'.length) 0
def mac (k m : List UInt8) : List UInt8 := sha ((key64 k).map (· ^^^ 92) ++ sha ((key64 k).map (· ^^^ 54) ++ m))
theorem mac_length (k m : List UInt8) : (mac k m).length = 32 := rfl
end Go.Proofs.YtidflagmdabfaaaGreatDoor.Sha
namespace Go.Proofs.YtidflagmdabfaaaGreatDoor.ShaA
open Go.RowKit Go.Proofs.YtidflagmdabfaaaGreatDoor Go.Proofs.YtidflagmdabfaaaGreatDoor.Sha

abbrev w32 (x : Nat) : Value := .int .u32 (x : Int)
theorem ret_int {k : IntKind} {a b : Int} (h : a = b) : Ending.returned (.int k a) = .returned (.int k b) := by rw [h]
theorem or32 (x n : Nat) (hx : x < 4294967296) : bits .or .u32 ((x : Int) / 2 ^ n) ((x : Int) * 2 ^ (32 - n) % 4294967296) = (rotr x n : Nat) := by
  have e1 : ((x : Int) / 2 ^ n) = ((x / 2 ^ n : Nat) : Int) := by rw [Int.natCast_ediv, Int.natCast_pow]; rfl
  have e2 : ((x : Int) * 2 ^ (32 - n) % 4294967296) = ((x * 2 ^ (32 - n) % 4294967296 : Nat) : Int) := by rw [Int.natCast_emod, Int.natCast_mul, Int.natCast_pow]; rfl
  rw [e1, e2, u32_or_nat _ _ (Nat.lt_of_le_of_lt (Nat.div_le_self _ _) hx) (Nat.mod_lt _ (by decide))]
  unfold rotr
  rw [Nat.shiftRight_eq_div_pow, Nat.shiftLeft_eq]
theorem or32' (x n : Nat) (hx : x < 4294967296) : bits .or .u32 ((x : Int) * 2 ^ (32 - n) % 4294967296) ((x : Int) / 2 ^ n) = (rotr x n : Nat) := by
  rw [← or32 x n hx]
  have e1 : ((x : Int) / 2 ^ n) = ((x / 2 ^ n : Nat) : Int) := by rw [Int.natCast_ediv, Int.natCast_pow]; rfl
  have e2 : ((x : Int) * 2 ^ (32 - n) % 4294967296) = ((x * 2 ^ (32 - n) % 4294967296 : Nat) : Int) := by rw [Int.natCast_emod, Int.natCast_mul, Int.natCast_pow]; rfl
  rw [e1, e2, u32_or_nat _ _ (Nat.lt_of_le_of_lt (Nat.div_le_self _ _) hx) (Nat.mod_lt _ (by decide)), u32_or_nat _ _ (Nat.mod_lt _ (by decide)) (Nat.lt_of_le_of_lt (Nat.div_le_self _ _) hx), Nat.or_comm]
theorem and31 (n : Nat) (h0 : 0 < n) (h1 : n < 32) : bits .and .u64 (IntKind.u64.wrap (-(n : Int))) 31 = ((32 - n : Nat) : Int) := by
  have e : IntKind.u64.wrap (-(n : Int)) = ((18446744073709551616 - n : Nat) : Int) := by rw [IntKind.wrap_u64]; omega
  rw [e, show (31 : Int) = ((31 : Nat) : Int) from rfl, u64_and_nat _ _ (by omega) (by decide)]
  have : (18446744073709551616 - n) &&& 31 = (18446744073709551616 - n) % 32 := Nat.and_two_pow_sub_one_eq_mod _ 5
  rw [this]
  omega
set_option maxRecDepth 100000 in
theorem rotl (x n : Nat) (hx : x < 4294967296) (h0 : 0 < n) (h1 : n < 32) (w : World) : Calls Tryz.prog 228 #[w32 x, .int .i64 (-(n : Int))] w fun e w' => e = .returned (w32 (rotr x n)) ∧ w = w' := by
  have ha := and31 n h0 h1
  obtain ⟨s, hs⟩ : ∃ s, 32 - n = s := ⟨_, rfl⟩
  have hs0 : 0 < s := by omega
  have hs1 : s < 32 := by omega
  have hn : n = 32 - s := by omega
  rw [hs] at ha
  have HN := Lib.hid (show bits .or .u32 ((x : Int) * 2 ^ s % 4294967296) ((x : Int) / 2 ^ (32 - s)) = (rotr x n : Nat) by
    have := or32' x n hx
    rw [hs] at this
    rw [← hn]
    exact this)
  clear hs hn
  go_enter Tryz.func228, Tryz.ntmps228
  go_wp2
  go_ret
  exact ⟨ret_int HN.out, rfl⟩
set_option maxRecDepth 100000 in
theorem rot (x n : Nat) (hx : x < 4294967296) (h0 : 0 < n) (h1 : n < 32) (w : World) : Calls Tryz.prog 203 #[w32 x, .int .i64 n] w fun e w' => e = .returned (w32 (rotr x n)) ∧ w = w' := by
  go_enter Tryz.func203, Tryz.ntmps203
  go_wp2_with fail
  refine (rotl x n hx h0 h1 w).mono ?_
  rintro e w1 ⟨rfl, rfl⟩
  go_wp2_with fail
  go_ret
  exact ⟨rfl, rfl⟩
theorem rotC (x n : Nat) (z : Int) (w : World) (hx : x < 4294967296) (h0 : 0 < n) (h1 : n < 32) (hz : z = n) : Calls Tryz.prog 203 #[w32 x, .int .i64 z] w fun e w' => e = .returned (w32 (rotr x n)) ∧ w = w' := by
  subst hz
  exact rot x n hx h0 h1 w
theorem rotI (x : Nat) (z : Int) (w : World) (hx : x < 4294967296) (h0 : 0 < z.toNat) (h1 : z.toNat < 32) (hz : (z.toNat : Int) = z := by decide) : Calls Tryz.prog 203 #[w32 x, .int .i64 z] w fun e w' => e = .returned (w32 (rotr x z.toNat)) ∧ w = w' :=
  rotC x z.toNat z w hx h0 h1 hz.symm
set_option maxRecDepth 100000 in
theorem rrot (x n : Nat) (hx : x < 4294967296) (h0 : 0 < n) (h1 : n < 32) (w : World) : Calls Tryz.prog 133 #[w32 x, .int .u64 n] w fun e w' => e = .returned (w32 (rotr x n)) ∧ w = w' := by
  have HN := Lib.hid (or32 x n hx)
  go_enter Tryz.func133, Tryz.ntmps133
  go_wp2
  go_ret
  exact ⟨ret_int HN.out, rfl⟩
end Go.Proofs.YtidflagmdabfaaaGreatDoor.ShaA
