/-
  The walk of bollardref17's Encode. The walk of bollardref17's Canonical. Plain: the document's way to a digest, step by step, is the program's. The walks of the document's message and constants (package bollardref03).
-/
import Derived.Test.YtidflagmdabfaaaGreatDoorSg02
import Derived.Test.YtidflagmdabfaaaGreatDoorSg03
import Derived.Test.YtidflagmdabfaaaGreatDoorSg04
import Derived.Test.YtidflagmdabfaaaGreatDoorSg05
import Derived.Test.YtidflagmdabfaaaGreatDoorSg13
import Derived.Test.YtidflagmdabfaaaGreatDoorSg14
import Derived.Test.YtidflagmdabfaaaGreatDoorSc02
import Derived.RegionTactic
import Derived.BigRegion
import Derived.Deep.RegionHeld3
import Derived.Deep.RegionLaw
import Derived.Deep.AppendLies
import Derived.IntWalk
import Derived.Deep.CutRange
import Derived.Deep.CutBlock
namespace Go.Proofs.YtidflagmdabfaaaGreatDoor.UriS
open Go.RowKit Go.Proofs.YtidflagmdabfaaaGreatDoor

/-- a byte that stands for itself -/
def Ok (slash : Bool) (n : Nat) : Prop :=
  (97 ≤ n ∧ n ≤ 122) ∨ (65 ≤ n ∧ n ≤ 90) ∨ (48 ≤ n ∧ n ≤ 57) ∨ (45 ≤ n ∧ n ≤ 45) ∨ (95 ≤ n ∧ n ≤ 95) ∨ (46 ≤ n ∧ n ≤ 46) ∨ (126 ≤ n ∧ n ≤ 126) ∨ (47 ≤ n ∧ n ≤ 47 ∧ slash = true)
/-- a byte that does not -/
def Not (slash : Bool) (n : Nat) : Prop :=
  n < 45 ∨ (47 ≤ n ∧ n < 48 ∧ slash = false) ∨ (58 ≤ n ∧ n < 65) ∨ (91 ≤ n ∧ n < 95) ∨ (96 ≤ n ∧ n < 97) ∨ (123 ≤ n ∧ n < 126) ∨ 127 ≤ n
theorem self_ok {slash : Bool} {c : UInt8} (h : UriD.self slash c = true) : Ok slash c.toNat := by
  simp only [UriD.self, UriD.pl, Bool.or_eq_true, Bool.and_eq_true, decide_eq_true_eq, beq_iff_eq] at h
  unfold Ok
  rcases h with ((((((h | h) | h) | rfl) | rfl) | rfl) | rfl) | ⟨rfl, h⟩
  · exact .inl h
  · exact .inr (.inl h)
  · exact .inr (.inr (.inl h))
  · right; right; right; left; exact ⟨by decide, by decide⟩
  · right; right; right; right; left; exact ⟨by decide, by decide⟩
  · right; right; right; right; right; left; exact ⟨by decide, by decide⟩
  · right; right; right; right; right; right; left; exact ⟨by decide, by decide⟩
  · right; right; right; right; right; right; right; exact ⟨by decide, by decide, h⟩
theorem self_not {slash : Bool} {c : UInt8} (h : UriD.self slash c = false) : Not slash c.toNat := by
  have n1 : c.toNat ≠ 45 := fun e => by
    obtain rfl : c = 45 := UInt8.toNat_inj.1 e
    cases slash <;> exact absurd h (by decide)
  have n2 : c.toNat ≠ 95 := fun e => by
    obtain rfl : c = 95 := UInt8.toNat_inj.1 e
    cases slash <;> exact absurd h (by decide)
  have n3 : c.toNat ≠ 46 := fun e => by
    obtain rfl : c = 46 := UInt8.toNat_inj.1 e
    cases slash <;> exact absurd h (by decide)
  have n4 : c.toNat ≠ 126 := fun e => by
    obtain rfl : c = 126 := UInt8.toNat_inj.1 e
    cases slash <;> exact absurd h (by decide)
  have n5 : c.toNat = 47 → slash = false := fun e => by
    obtain rfl : c = 47 := UInt8.toNat_inj.1 e
    cases slash
    · rfl
    · exact absurd h (by decide)
  simp only [UriD.self, UriD.pl, Bool.or_eq_false_iff, Bool.and_eq_false_iff, decide_eq_false_iff_not] at h
  have h1 := h.1.1.1.1.1.1.1
  have h2 := h.1.1.1.1.1.1.2
  have h3 := h.1.1.1.1.1.2
  unfold Not
  by_cases e : c.toNat = 47
  · exact .inr (.inl ⟨by omega, by omega, n5 e⟩)
  · omega

theorem refDig {i : Nat} {h : i < (ByteArray.mk #[48, 49, 50, 51, 52, 53, 54, 55, 56, 57, 65, 66, 67, 68, 69, 70]).size} : ((ByteArray.mk #[48, 49, 50, 51, 52, 53, 54, 55, 56, 57, 65, 66, 67, 68, 69, 70])[i]'h) = UriD.hx i := UriD.dig_get h

theorem own_drew {w : World} {base : Nat} {e : TypeId} {size : Nat} {v : Value} {n : Nat} {xs : List Value} (h : w.ownsRow base e size v n xs) : w.drew.ownsRow base e size v n xs := h
theorem cells_drew {w : World} {p : Addr} {xs : List Value} (h : ∀ (j : Nat) u, xs[j]? = some u → w.cell? (p.add j) = some u) : ∀ (j : Nat) u, xs[j]? = some u → w.drew.cell? (p.add j) = some u := h

theorem cells3 (w : World) (a b c : Value) (t : TypeId) : ∀ (j : Nat) u, [a, b, c][j]? = some u → (w.alloc (.cells #[a, b, c] t)).cell? ((⟨w.heap.size, 0, none⟩ : Addr).add j) = some u := by
  intro j u hj
  have h := heap_alloc_new w (.cells #[a, b, c] t)
  rw [UriA.addr_add, Nat.zero_add, Lib.cell_of_heap h]
  simpa using hj
theorem one3 (a b c : Int) : ∀ u ∈ [Value.int .u8 a, .int .u8 b, .int .u8 c], u.oneCell' = true := by
  intro u hu
  simp only [List.mem_cons, List.not_mem_nil, or_false] at hu
  rcases hu with rfl | rfl | rfl
  · rfl
  · rfl
  · rfl

set_option maxHeartbeats 8000000 in
set_option maxRecDepth 100000 in
theorem encode (s : ByteArray) (slash : Bool) (w : World) (hs : s.size ≤ 16777216) :
    Calls Tryz.prog 131 #[.string s, .bool slash] w fun e w' => e = .returned (.string ⟨(UriD.enc slash s.data.toList).toArray⟩) ∧ Below w.heap.size w w' := by
  obtain ⟨i0, hi, hz0, hz1, hz2⟩ := info_parts UriA.infoByte
  go_enter Tryz.func131, Tryz.ntmps131
  go_wp2_with fail
  go_loopg [5, 7] s.size (fun g v i wr => ∃ k : Nat, k + g = s.size ∧ i = .int .i64 k ∧ wr.ownsRow w.heap.size 5 1 v (UriD.enc slash (s.data.toList.take k)).length (Lib.byteCells (UriD.enc slash (s.data.toList.take k))) ∧ Below w.heap.size w wr)
  case atStart => exact ⟨0, by simp, rfl, ⟨rfl, .inr ⟨w.heap.size, 0, _, rfl, Nat.le_refl _, heap_alloc_new _ _, Nat.le_refl _, by unfold maxLen; omega, rfl, rfl⟩⟩, (Below.refl _ w).alloc (Nat.le_refl _) _⟩
  case round =>
    obtain ⟨k, hkg, rfl, hown, hb⟩ := hrel
    have HG := Lib.hid hkg
    have hsz := hb.size
    by_cases hlt : k < s.size
    · have HN := Lib.hid (show UriD.enc slash (s.data.toList.take (k + 1)) = UriD.enc slash (s.data.toList.take k) ++ UriD.enc1 slash s[k] by rw [Com.take_succ s k hlt, UriD.enc_snoc])
      have hl : (UriD.enc slash (s.data.toList.take k)).length ≤ 3 * s.size := by
        have h1 := UriD.enc_len slash (s.data.toList.take k)
        have h2 : (s.data.toList.take k).length ≤ k := List.length_take_le _ _
        omega
      have hc := UInt8.toNat_lt s[k]
      cases hp : UriD.self slash s[k]
      · have hnot := self_not hp
        have HE := Lib.hid (show UriD.enc1 slash s[k] = [37, UriD.hx (s[k].toNat / 16), UriD.hx (s[k].toNat % 16)] by simp [UriD.enc1, hp])
        generalize hout : UriD.enc slash (s.data.toList.take k) = out at *
        have q1 : (s[k].toNat : Int) / 16 < 16 := by omega
        have q2 : (s[k].toNat : Int) % 16 < 16 := by omega
        have q3 : (0 : Int) ≤ (s[k].toNat : Int) / 16 := by omega
        have d1 : ((s[k].toNat : Int) / 16).toNat = s[k].toNat / 16 := by omega
        have d2 : ((s[k].toNat : Int) % 16).toNat = s[k].toNat % 16 := by omega
        have q5 : IntKind.u8.wrap ((s[k].toNat : Int) / 16) = (s[k].toNat : Int) / 16 := IntWalk.u8_in _ ⟨by omega, by omega⟩
        have q6 : IntKind.u8.wrap ((s[k].toNat : Int) % 16) = (s[k].toNat : Int) % 16 := IntWalk.u8_in _ ⟨by omega, by omega⟩
        have q7 : (s[k].toNat : Int).tmod 16 = (s[k].toNat : Int) % 16 := Int.tmod_eq_emod_of_nonneg (by omega)
        have q4 : (0 : Int) ≤ (s[k].toNat : Int) % 16 := by omega
        clear hp hout hkg
        rcases hnot with h1 | ⟨h1, h2, rfl⟩ | ⟨h1, h2⟩ | ⟨h1, h2⟩ | ⟨h1, h2⟩ | ⟨h1, h2⟩ | h1
        all_goals
          have t45 : ((s[k].toNat : Int) == 45) = false := by simp; omega
          have t95 : ((s[k].toNat : Int) == 95) = false := by simp; omega
          have t46 : ((s[k].toNat : Int) == 46) = false := by simp; omega
          have t126 : ((s[k].toNat : Int) == 126) = false := by simp; omega
          first
            | have t47 : ((s[k].toNat : Int) == 47) = false := by simp; omega
            | have t47 : ((s[k].toNat : Int) == 47) = true := by simp; omega
        all_goals
          go_wp2_with fail
          go_region_held3 (fun _ => True)
            (first | trivial | go_keep)
            (first | (refine step_append_lies _ (by rfl) (.tmp 68) (.tmp 77) _ (by rfl) w.heap.size 5 i0 _ 1 1 Tryz.underlying23 hi hz0 hz1 hz2 rfl (by omega) u5 out.length (Lib.byteCells out) (by rfl) (own_drew (hown.alloc _)) ⟨wr.heap.size, 0, none⟩ 3 3 _ (by rfl) (by rfl) (cells_drew (cells3 _ _ _ _ _)) (one3 _ _ _) (by omega) (by unfold maxLen; omega) (by omega) (by show w.heap.size ≤ (World.alloc wr _).heap.size; rw [World.size_alloc]; omega) (wr.heap.size + 1) (by show (World.alloc wr _).heap.size = _; rw [World.size_alloc]) ?_; intro gg cap w7 hown7 hg7 hat hlt7))
          all_goals
            rw [UriD.dig_get, UriD.dig_get] at hown7
            have hown1 : w7.ownsRow w.heap.size 5 1 (.slice (some ⟨gg, 0, none⟩) (out.length + 3) cap) (out ++ [37, UriD.hx (s[k].toNat / 16), UriD.hx (s[k].toNat % 16)]).length (Lib.byteCells (out ++ [37, UriD.hx (s[k].toNat / 16), UriD.hx (s[k].toNat % 16)])) := by
              simpa [Lib.byteCells] using hown7
            have hb1 : Below w.heap.size w w7 := ((hb.alloc hb.size _).drew).grown hg7 (by show w.heap.size ≤ (World.alloc wr _).heap.size; rw [World.size_alloc]; omega) (fun j hj => (hown.lt j hj).1)
            have HO1 := Lib.hid hown1; clear hown1 hown7 hg7 hat hlt7
            go_wp2
            go_roundg (s.size - (k + 1))
            case measure => have := HG.out; omega
            case rel => exact ⟨k + 1, by have := HG.out; omega, by go_num, by rw [HN.out, HE.out]; exact HO1.out, hb1⟩
      · have hok := self_ok hp
        have HE := Lib.hid (show UriD.enc1 slash s[k] = [s[k]] by simp [UriD.enc1, hp])
        generalize hout : UriD.enc slash (s.data.toList.take k) = out at *
        clear hp hout hkg
        rcases hok with ⟨h1, h2⟩ | ⟨h1, h2⟩ | ⟨h1, h2⟩ | ⟨h1, h2⟩ | ⟨h1, h2⟩ | ⟨h1, h2⟩ | ⟨h1, h2⟩ | ⟨h1, h2, rfl⟩
        all_goals
          first
            | have t45 : ((s[k].toNat : Int) == 45) = false := by simp; omega
            | have t45 : ((s[k].toNat : Int) == 45) = true := by simp; omega
          first
            | have t95 : ((s[k].toNat : Int) == 95) = false := by simp; omega
            | have t95 : ((s[k].toNat : Int) == 95) = true := by simp; omega
          first
            | have t46 : ((s[k].toNat : Int) == 46) = false := by simp; omega
            | have t46 : ((s[k].toNat : Int) == 46) = true := by simp; omega
          first
            | have t126 : ((s[k].toNat : Int) == 126) = false := by simp; omega
            | have t126 : ((s[k].toNat : Int) == 126) = true := by simp; omega
          first
            | have t47 : ((s[k].toNat : Int) == 47) = false := by simp; omega
            | have t47 : ((s[k].toNat : Int) == 47) = true := by simp; omega
        all_goals
          go_wp2_with (at_builtin; refine wpList_append_own _ rfl _ _ 23 rfl w.heap.size 5 i0 (.int .u8 0) 1 1 Tryz.underlying23 hi hz0 hz1 hz2 rfl (by decide) _ _ _ rfl (hown.alloc _) ⟨wr.heap.size, 0, none⟩ 1 1 [.int .u8 (s[k].toNat : Int)] rfl rfl (Com.cells_new _ _ _) (by simp [Value.oneCell']) (by unfold maxLen; omega) (by omega) (by simp; omega) ?_; intro v' w1 hown' hgrow _)
          have hown1 : w1.ownsRow w.heap.size 5 1 v' (out ++ [s[k]]).length (Lib.byteCells (out ++ [s[k]])) := by simpa [Lib.byteCells] using hown'
          have hb1 : Below w.heap.size w w1 := (hb.alloc hb.size _).grown hgrow (by simp; omega) (fun j hj => (hown.lt j hj).1)
          have HO1 := Lib.hid hown1; clear hown1 hown'
          go_roundg (s.size - (k + 1))
          case measure => have := HG.out; omega
          case rel => exact ⟨k + 1, by omega, by go_num, by rw [HN.out, HE.out]; exact HO1.out, hb1⟩
    · have HK := Lib.hid (show s.data.toList.take k = s.data.toList from List.take_of_length_le (by rw [Com.toList_length]; omega))
      rw [HK.out] at hown
      obtain ⟨A, c, rfl, hbs⟩ := UriA.bs_own hown
      have kc := UriA.to_string hbs
      go_wp2_with fail
      go_ret
      exact ⟨rfl, hb⟩
end Go.Proofs.YtidflagmdabfaaaGreatDoor.UriS
namespace Go.Proofs.YtidflagmdabfaaaGreatDoor.UriX
open Go.RowKit Go.Proofs.YtidflagmdabfaaaGreatDoor Go.Proofs.YtidflagmdabfaaaGreatDoor.UriC Go.Proofs.YtidflagmdabfaaaGreatDoor.UriN Go.Proofs.YtidflagmdabfaaaGreatDoor.UriO Go.Proofs.YtidflagmdabfaaaGreatDoor.UriR Go.Proofs.YtidflagmdabfaaaGreatDoor.UriQ

theorem join_snoc (l : List (List UInt8)) (x sep : List UInt8) : Lib.join (l ++ [x]) sep = if l = [] then x else Lib.join l sep ++ sep ++ x := by
  cases l with
  | nil => simp [Lib.join_one]
  | cons y r =>
    rw [List.cons_append, Lib.join_cons, Lib.join_cons, if_neg (by simp)]
    simp [Lib.joinTail]
theorem join_take_le (l : List (List UInt8)) (k : Nat) (sep : List UInt8) : (Lib.join (l.take k) sep).length ≤ (Lib.join l sep).length := by
  cases l with
  | nil => simp
  | cons y r =>
    cases k with
    | zero => simp [Lib.join_nil]
    | succ k =>
      rw [List.take_succ_cons, Lib.join_cons, Lib.join_cons, List.length_append, List.length_append]
      have := Lib.joinTail_take_le sep r k
      omega
theorem encodeR (l : List UInt8) (slash : Bool) (w0 : World) (g : Nat) (v0 v1 : Value) (w : World) (hs : l.length ≤ 16777216) (ht : Below w0.heap.size w0 w) (h0 : w.cell? ⟨g, 0, none⟩ = some v0) (h1 : w.cell? ⟨g, 1, none⟩ = some v1) :
    Calls Tryz.prog 131 #[.string ⟨l.toArray⟩, .bool slash] w fun e w' => e = .returned (.string ⟨(UriD.enc slash l).toArray⟩) ∧ (w'.cell? ⟨g, 0, none⟩ = some v0 ∧ w'.cell? ⟨g, 1, none⟩ = some v1) ∧ Below w0.heap.size w0 w' :=
  (UriS.encode ⟨l.toArray⟩ slash w (by rw [Com.size_mk]; exact hs)).mono fun _ _ ⟨he, hb⟩ => ⟨he, ⟨(hb.cell (World.block_lt_of_cell? w _ h0)).trans h0, (hb.cell (World.block_lt_of_cell? w _ h1)).trans h1⟩, ht.trans (hb.mono ht.size)⟩
theorem add_eq (S : List UInt8) (q : Pr) : ((⟨S.toArray⟩ : ByteArray) ++ (((⟨(UriD.enc false q.1).toArray⟩ : ByteArray) ++ ⟨#[61]⟩) ++ ⟨(UriD.enc false q.2).toArray⟩)) = ⟨(S ++ pt q).toArray⟩ := by
  rw [UriP.pt_eq, Com.mk_append]

set_option maxHeartbeats 8000000 in
set_option maxRecDepth 100000 in
theorem canonical (p : ByteArray) {a : Option Addr} {ps : List Pr} (c : Nat) (w : World) (hp : Pairs w a ps) (hl : ps.length ≤ 16777216) (hpl : p.size ≤ 16777216) (hq : ∀ q ∈ ps, q.1.length ≤ 16777216 ∧ q.2.length ≤ 16777216) (hj : (qt ps).length ≤ 140737488355328) :
    Calls Tryz.prog 75 #[.agg #[.string p, .slice a ps.length c]] w fun e w' => e = .returned (.tuple #[.string ⟨(UriD.enc true p.data.toList).toArray⟩, .string ⟨(qt ps).toArray⟩]) ∧ Below w.heap.size w w' := by
  go_enter Tryz.func75, Tryz.ntmps75
  go_wp2_with fail
  have hb0 : Below w.heap.size w (w.alloc (.cells #[.string p, .slice a ps.length c] 97)) := (Below.refl _ w).alloc (Nat.le_refl _) _
  refine (UriT.sorted c _ (UriL.Pairs.below hp hb0) hl).mono ?_
  rintro e w1 ⟨⟨v, rfl, hown⟩, hb1⟩
  have hU1 : UriK.Ub w.heap.size w1 (.string p) (.slice a ps.length c) := (hb1.block _ (by simp)).trans (heap_alloc_new _ _)
  have hB1 : Below w.heap.size w w1 := hb0.trans (hb1.mono (by simp))
  rw [← srt_length ps] at hown
  obtain ⟨a', c', rfl, hcc, hpp⟩ := pairs_of_own hown
  have hsl := srt_length ps
  have hsm : ∀ q ∈ srt ps, q.1.length ≤ 16777216 ∧ q.2.length ≤ 16777216 := fun q h => hq q (srt_mem h)
  have hjt : ∀ k, (Lib.join (((srt ps).map pt).take k) [38]).length ≤ 140737488355328 := fun k => Nat.le_trans (join_take_le _ k _) hj
  have HQT := Lib.hid (show qt ps = Lib.join ((srt ps).map pt) [38] from rfl)
  generalize hss : srt ps = ss at *
  have hssl : ss.length ≤ 16777216 := by omega
  have HPP := Lib.hid hpp; have HSM := Lib.hid hsm; have HJT := Lib.hid hjt; have HU := Lib.hid hU1; have HB := Lib.hid hB1
  have hwl := hU1.lt
  clear hown hss hp hq hb0 hb1 hU1 hB1 hpp hsm hjt hj hsl
  go_wp2_with fail
  go_loopg [4, 5, 11] ss.length (fun g v4 _ v11 wr => ∃ k : Nat, k + g = ss.length ∧ v11 = .int .i64 k ∧ v4 = .string ⟨(Lib.join ((ss.map pt).take k) [38]).toArray⟩ ∧ Below w1.heap.size w1 wr)
  case atStart => exact ⟨0, by simp, rfl, rfl, Below.refl _ _⟩
  case round =>
    obtain ⟨k, hkg, rfl, rfl, hb⟩ := hrel
    have HG := Lib.hid hkg; clear hkg
    have hsz := hb.size
    by_cases hlt : k < ss.length
    · obtain ⟨q, hqk⟩ : ∃ q, ss[k]? = some q := ⟨ss[k], List.getElem?_eq_getElem hlt⟩
      obtain ⟨b, o, rfl, hbb, d0, d1⟩ := cells_at HPP.out hqk
      have c0 := (hb.cell (p := ⟨b, o + k * 2, none⟩) hbb).trans d0
      have c1 := (hb.cell (p := ⟨b, o + k * 2 + 1, none⟩) hbb).trans d1
      obtain ⟨n1, n2⟩ := HSM.out q (List.mem_of_getElem? hqk)
      have hSl := HJT.out k
      have HTK := Lib.hid (show (ss.map pt).take (k + 1) = (ss.map pt).take k ++ [pt q] by rw [List.take_add_one, List.getElem?_map, hqk]; rfl)
      have HNE := Lib.hid (show k ≠ 0 → (ss.map pt).take k ≠ [] from fun h e => by
        have := congrArg List.length e
        rw [List.length_take, List.length_map, List.length_nil] at this
        omega)
      have HZ := Lib.hid (show k = 0 → (ss.map pt).take k = [] from fun h => by rw [h]; rfl)
      generalize (ss.map pt).take k = tk at *
      generalize hS : Lib.join tk [38] = S at *
      have HS := Lib.hid hS
      obtain ⟨nm, vl⟩ := q
      simp only at c0 c1 n1 n2
      have e1 := UriD.enc_len false nm
      have e2 := UriD.enc_len false vl
      have s1 : ¬ 9223372036854775807 < (UriD.enc false nm).length + 1 := by omega
      have s2 : ¬ 9223372036854775807 < (UriD.enc false nm).length + 1 + (UriD.enc false vl).length := by omega
      have HT : Below wr.heap.size wr (wr.alloc (.cells #[.string ⟨nm.toArray⟩, .string ⟨vl.toArray⟩] 152)) := (Below.refl _ _).alloc (Nat.le_refl _) _
      clear d0 d1 hqk hS
      by_cases hk0 : k = 0
      · subst hk0
        simp only [Nat.zero_mul, Nat.add_zero] at c0 c1
        have s3 : ¬ 9223372036854775807 < S.length + ((UriD.enc false nm).length + 1 + (UriD.enc false vl).length) := by omega
        go_wp2_with fail
        go_region_held3 (fun w' => w'.cell? ⟨wr.heap.size, 0, none⟩ = some (.string ⟨nm.toArray⟩) ∧ w'.cell? ⟨wr.heap.size, 1, none⟩ = some (.string ⟨vl.toArray⟩))
          (first | go_keep)
          (first
            | (go_at_call 131; refine (encodeR _ _ wr wr.heap.size (.string ⟨nm.toArray⟩) (.string ⟨vl.toArray⟩) _ ?_ ?_ ?_ ?_).mono ?_; (first | exact n1 | exact n2); (first | assumption | exact HT | exact HT.drew); (simp [*]); (simp [*]); rintro e w6 ⟨rfl, k6, t6⟩))
        have B6 := hb.trans (t6.mono hsz)
        clear c0 c1 HT t6 k6 hb
        go_wp2
        go_roundg (ss.length - (0 + 1))
        case measure => have := HG.out; omega
        case rel =>
          refine ⟨0 + 1, by omega, by go_num, ?_, B6⟩
          rw [HTK.out, join_snoc, if_pos (HZ.out (by trivial))]
          have hS0 := HS.out
          rw [HZ.out (by trivial), Lib.join_nil] at hS0
          subst hS0
          exact congrArg Value.string (add_eq [] (nm, vl))
      · have s0 : ¬ 9223372036854775807 < S.length + 1 := by omega
        have s3 : ¬ 9223372036854775807 < S.length + 1 + ((UriD.enc false nm).length + 1 + (UriD.enc false vl).length) := by omega
        have hk1 : 0 < k := by omega
        go_wp2_with fail
        go_region_held3 (fun w' => w'.cell? ⟨wr.heap.size, 0, none⟩ = some (.string ⟨nm.toArray⟩) ∧ w'.cell? ⟨wr.heap.size, 1, none⟩ = some (.string ⟨vl.toArray⟩))
          (first | go_keep)
          (first
            | (go_at_call 131; refine (encodeR _ _ wr wr.heap.size (.string ⟨nm.toArray⟩) (.string ⟨vl.toArray⟩) _ ?_ ?_ ?_ ?_).mono ?_; (first | exact n1 | exact n2); (first | assumption | exact HT | exact HT.drew); (simp [*]); (simp [*]); rintro e w6 ⟨rfl, k6, t6⟩))
        have B6 := hb.trans (t6.mono hsz)
        clear c0 c1 HT t6 k6 hb
        go_wp2
        go_roundg (ss.length - (k + 1))
        case measure => have := HG.out; omega
        case rel =>
          refine ⟨k + 1, by omega, by go_num, ?_, B6⟩
          rw [HTK.out, join_snoc, if_neg (HNE.out hk0), HS.out, ← add_eq (S ++ [38]) (nm, vl), ← Com.mk_append S [38]]
    · have HK := Lib.hid (show (ss.map pt).take k = ss.map pt from List.take_of_length_le (by rw [List.length_map]; omega))
      rw [HK.out]
      rw [← HQT.out]
      have hbw : Below w.heap.size w wr := HB.out.trans (hb.mono HB.out.size)
      obtain ⟨d0, d1, _⟩ := (HU.out.below hb).cells
      have HBW := Lib.hid hbw
      clear hbw hb
      go_wp2_with fail
      refine (UriS.encode p true _ hpl).mono ?_
      rintro e w3 ⟨rfl, hb3⟩
      have hB3 := HBW.out.trans (hb3.mono HBW.out.size)
      clear hb3 d0 d1
      go_wp2_with fail
      go_ret2
      exact ⟨rfl, hB3⟩
end Go.Proofs.YtidflagmdabfaaaGreatDoor.UriX
namespace Go.Proofs.YtidflagmdabfaaaGreatDoor.RsP
open Go.RowKit Go.Proofs.YtidflagmdabfaaaGreatDoor.Sha Go.Proofs.YtidflagmdabfaaaGreatDoor.ShaA Go.Proofs.YtidflagmdabfaaaGreatDoor.ShaB Go.Proofs.YtidflagmdabfaaaGreatDoor.ShaC

theorem lt8 {j : Nat} (h : j < 8) : j = 0 ∨ j = 1 ∨ j = 2 ∨ j = 3 ∨ j = 4 ∨ j = 5 ∨ j = 6 ∨ j = 7 := by omega
/-! the message -/
def fill (b : List UInt8) (z : Nat) : List UInt8 := b ++ 128 :: List.replicate z 0
theorem fill_length (b : List UInt8) (z : Nat) : (fill b z).length = b.length + 1 + z := by
  unfold fill
  simp only [List.length_append, List.length_cons, List.length_replicate]
  omega
theorem fill_succ (b : List UInt8) (z : Nat) : fill b z ++ [0] = fill b (z + 1) := by
  unfold fill
  rw [List.append_assoc, List.cons_append, ← List.replicate_succ']
theorem fill_more {n z : Nat} (h : z < zeros n) : (n + 1 + z) % 64 ≠ 56 := by
  unfold zeros at h
  omega
theorem fill_done {n z : Nat} (h : z ≤ zeros n) (hm : (n + 1 + z) % 64 = 56) : z = zeros n := by
  unfold zeros at h ⊢
  omega
def tail (b : List UInt8) (i : Nat) : List UInt8 := fill b (zeros b.length) ++ (be8 (8 * b.length)).take i
theorem tail_zero (b : List UInt8) : tail b 0 = fill b (zeros b.length) := by
  unfold tail
  rw [List.take_zero, List.append_nil]
theorem tail_all (b : List UInt8) : tail b 8 = pad b := by
  unfold tail pad fill
  rw [show (be8 (8 * b.length)).take 8 = be8 (8 * b.length) from rfl, List.append_assoc, List.cons_append]
theorem tail_length (b : List UInt8) {i : Nat} (hi : i ≤ 8) : (tail b i).length = b.length + 1 + zeros b.length + i := by
  unfold tail
  rw [List.length_append, fill_length, List.length_take]
  have : (be8 (8 * b.length)).length = 8 := rfl
  omega
theorem tail_succ (b : List UInt8) {i : Nat} (hi : i < 8) : tail b i ++ [UInt8.ofNat (8 * b.length / 2 ^ (56 - 8 * i))] = tail b (i + 1) := by
  unfold tail
  rw [List.append_assoc, List.take_add_one]
  congr 2
  rcases lt8 hi with rfl | rfl | rfl | rfl | rfl | rfl | rfl | rfl <;> rfl

/-! the eight words moved on -/
def sh (s : St) : Nat → List Nat
  | 0 => [s.a, s.a, s.b, s.c, s.d, s.e, s.f, s.g]
  | 1 => [s.a, s.b, s.b, s.c, s.d, s.e, s.f, s.g]
  | 2 => [s.a, s.b, s.c, s.c, s.d, s.e, s.f, s.g]
  | 3 => [s.a, s.b, s.c, s.d, s.d, s.e, s.f, s.g]
  | 4 => [s.a, s.b, s.c, s.d, s.e, s.e, s.f, s.g]
  | 5 => [s.a, s.b, s.c, s.d, s.e, s.f, s.f, s.g]
  | 6 => [s.a, s.b, s.c, s.d, s.e, s.f, s.g, s.g]
  | _ => [s.a, s.b, s.c, s.d, s.e, s.f, s.g, s.h]
theorem sh_get (s : St) {i : Nat} (h : i < 7) : (sh s (i + 1))[i]? = some ((stw s).getD i 0) := by
  match i, h with
  | 0, _ => rfl
  | 1, _ => rfl
  | 2, _ => rfl
  | 3, _ => rfl
  | 4, _ => rfl
  | 5, _ => rfl
  | 6, _ => rfl
theorem sh_set (s : St) {i : Nat} (h : i < 7) : (sh s (i + 1)).set (i + 1) ((stw s).getD i 0) = sh s i := by
  match i, h with
  | 0, _ => rfl
  | 1, _ => rfl
  | 2, _ => rfl
  | 3, _ => rfl
  | 4, _ => rfl
  | 5, _ => rfl
  | 6, _ => rfl
theorem sh_start (s : St) : sh s 7 = stw s := rfl
theorem sh_round (s : St) (k w : Nat) : ((sh s 0).set 4 ((s.d + t1 s k w) % M)).set 0 ((t1 s k w + t2 s) % M) = stw (round s k w) := rfl
/-- the sums while they are laid, the other way round -/
def mix2 (s r : St) (j : Nat) : List Nat := (stw (add s r)).take j ++ (stw s).drop j
theorem mix2_zero (s r : St) : mix2 s r 0 = stw s := rfl
theorem mix2_all (s r : St) : mix2 s r 8 = stw (add s r) := rfl
theorem mix2_get (s r : St) {j : Nat} (h : j < 8) : (mix2 s r j)[j]? = some ((stw s).getD j 0) := by
  rcases lt8 h with rfl | rfl | rfl | rfl | rfl | rfl | rfl | rfl <;> rfl
theorem mix2_set (s r : St) {j : Nat} (h : j < 8) : (mix2 s r j).set j ((stw (add s r)).getD j 0) = mix2 s r (j + 1) := by
  rcases lt8 h with rfl | rfl | rfl | rfl | rfl | rfl | rfl | rfl <;> rfl

/-! a block's words -/
/-- a word while its bytes come in -/
def wd (l : List UInt8) (t i : Nat) : Nat := ((l.drop (4 * t)).take i).foldl (fun n c => n * 256 + c.toNat) 0
theorem wd_zero (l : List UInt8) (t : Nat) : wd l t 0 = 0 := rfl
theorem wd_succ (l : List UInt8) (t : Nat) {i : Nat} {c : UInt8} (h : l[4 * t + i]? = some c) : wd l t (i + 1) = wd l t i * 256 + c.toNat := by
  unfold wd
  rw [List.take_add_one, List.getElem?_drop, h]
  simp only [Option.toList_some, List.foldl_append, List.foldl_cons, List.foldl_nil]
theorem wd_lt (l : List UInt8) (t : Nat) : ∀ i, wd l t i < 256 ^ i
  | 0 => Nat.lt_succ_self 0
  | i + 1 => by
    have ih := wd_lt l t i
    cases h : l[4 * t + i]? with
    | none =>
      have e : wd l t (i + 1) = wd l t i := by
        unfold wd
        rw [List.take_add_one, List.getElem?_drop, h]
        simp
      rw [e, Nat.pow_succ]
      omega
    | some c =>
      rw [wd_succ l t h, Nat.pow_succ]
      have := UInt8.toNat_lt c
      omega
theorem wd_all (l : List UInt8) {t : Nat} (h : 4 * t + 3 < l.length) : wd l t 4 = word l t := by
  have g : ∀ i, i < 4 → l[4 * t + i]? = some (l.getD (4 * t + i) 0) := fun i hi => by
    rw [List.getD_eq_getElem?_getD, List.getElem?_eq_getElem (by omega)]
    rfl
  rw [wd_succ l t (g 3 (by omega)), wd_succ l t (g 2 (by omega)), wd_succ l t (g 1 (by omega)), wd_succ l t (g 0 (by omega)), wd_zero]
  unfold word
  rw [Nat.zero_mul, Nat.zero_add]
  rfl

/-! the digest's bytes -/
theorem out_at (s : St) : ∀ i, i < 32 → (out s)[i]? = some (UInt8.ofNat ((stw s).getD (i / 4) 0 / 2 ^ (24 - 8 * (i % 4)))) := by
  intro i hi
  have h : i = 0 ∨ i = 1 ∨ i = 2 ∨ i = 3 ∨ i = 4 ∨ i = 5 ∨ i = 6 ∨ i = 7 ∨ i = 8 ∨ i = 9 ∨ i = 10 ∨ i = 11 ∨ i = 12 ∨ i = 13 ∨ i = 14 ∨ i = 15 ∨ i = 16 ∨ i = 17 ∨ i = 18 ∨ i = 19 ∨ i = 20 ∨ i = 21 ∨ i = 22 ∨ i = 23 ∨ i = 24 ∨ i = 25 ∨ i = 26 ∨ i = 27 ∨ i = 28 ∨ i = 29 ∨ i = 30 ∨ i = 31 := by omega
  have e : ∀ x : Nat, x / 2 ^ 0 = x := fun x => Nat.div_one x
  rcases h with rfl | rfl | rfl | rfl | rfl | rfl | rfl | rfl | rfl | rfl | rfl | rfl | rfl | rfl | rfl | rfl | rfl | rfl | rfl | rfl | rfl | rfl | rfl | rfl | rfl | rfl | rfl | rfl | rfl | rfl | rfl | rfl <;> first | rfl | (simp only [show (24 - 8 * (3 % 4)) = 0 from rfl]; rfl) | (show _ = some (UInt8.ofNat (_ / 2 ^ 0)); rw [e]; rfl)
end Go.Proofs.YtidflagmdabfaaaGreatDoor.RsP
namespace Go.Proofs.YtidflagmdabfaaaGreatDoor.RsA
open Go.RowKit Go.Proofs.YtidflagmdabfaaaGreatDoor Go.Proofs.YtidflagmdabfaaaGreatDoor.Sha Go.Proofs.YtidflagmdabfaaaGreatDoor.ShaA Go.Proofs.YtidflagmdabfaaaGreatDoor.ShaB Go.Proofs.YtidflagmdabfaaaGreatDoor.ShaC  Go.Proofs.YtidflagmdabfaaaGreatDoor.RsP Go.Proofs.YtidflagmdabfaaaGreatDoor.HtW Go.Proofs.YtidflagmdabfaaaGreatDoor.App

theorem byte_div (L : Nat) (i : Nat) : ((UInt8.ofNat (8 * L / 2 ^ i)).toNat : Int) = IntKind.u8.wrap (Int.tdiv ((8 * L : Nat) : Int) ((2 ^ i : Nat) : Int)) := by
  rw [IntKind.wrap_u8', UInt8.toNat_ofNat', Int.tdiv_eq_ediv_of_nonneg (by omega)]
  rfl
set_option maxHeartbeats 4000000 in
set_option maxRecDepth 100000 in
theorem message (b : List UInt8) {a : Option Addr} (c : Nat) (w : World) (hb : Bs w a b c) (hl : b.length ≤ 140737488350000) :
    Calls Tryz.prog 132 #[.slice a b.length c] w fun e w' => ∃ am cm, e = .returned (.slice am (pad b).length cm) ∧ w'.ownsRow w.heap.size 5 1 (.slice am (pad b).length cm) (pad b).length (Lib.byteCells (pad b)) ∧ Below w.heap.size w w' := by
  have HB := Lib.hid hb; clear hb
  go_enter Tryz.func132, Tryz.ntmps132
  go_wp2_with (first
    | (at_builtin; refine append_one w1 rfl (.tmp 8) (.tmp 9) rfl w.heap.size b 128 rfl ho1 (by have := hb1.size; simp at this; omega) (by omega) rfl rfl ?_; intro ar2 cr2 w2 n2 hn2 ho2 hb2)
    | (at_builtin; refine append_more _ rfl (.tmp 6) (.tmp 7) rfl w.heap.size [] b (HtX.own_fresh w _ (Nat.le_refl _)) a c (HB.out.below ((Below.refl _ _).alloc (Nat.le_refl _) _)) (by simp) (by simp; omega) rfl rfl ?_; intro ar cr w1 n1 hn1 ho1 hb1; rw [List.nil_append] at hn1 ho1; subst hn1))
  have hz1 := hb1.size
  simp at hz1
  have HB2 := Lib.hid (show Below w.heap.size w w2 from ((Below.refl _ _).alloc (Nat.le_refl _) _).trans ((hb1.trans hb2)))
  have e0 : b ++ [128] = fill b 0 := rfl
  rw [e0] at hn2 ho2
  subst hn2
  have HO2 := Lib.hid ho2
  clear ho1 ho2 hb1 hb2 hz1 e0
  go_loopg [3] (zeros b.length) (fun g v3 wr => ∃ (z : Nat) (ar : Option Addr) (cr : Nat), z + g = zeros b.length ∧ v3 = .slice ar (fill b z).length cr ∧ Hid (wr.ownsRow w.heap.size 5 1 (.slice ar (fill b z).length cr) (fill b z).length (Lib.byteCells (fill b z))) ∧ Hid (Below w.heap.size w wr))
  case atStart => exact ⟨0, ar2, cr2, by omega, congrArg (fun n => Value.slice ar2 n cr2) (by rw [fill_length]), HO2, HB2⟩
  case round =>
    clear HO2 HB2
    obtain ⟨z, az, cz, hzg, rfl, HO, HU⟩ := hrel
    have HG := Lib.hid hzg
    have hfl := fill_length b z
    have hzz : zeros b.length < 64 := Nat.mod_lt _ (by decide)
    have hbase := HU.out.size
    obtain ⟨X, hX⟩ : ∃ X, (fill b z).length = X := ⟨_, rfl⟩
    rw [hX] at hfl HO ⊢
    have hrem : Int.tmod (X : Int) 64 = ((X % 64 : Nat) : Int) := by
      rw [Int.tmod_eq_emod_of_nonneg (by omega)]
      rfl
    by_cases hm : X % 64 = 56
    · have hz := fill_done (show z ≤ zeros b.length by omega) (by rw [← hfl]; exact hm)
      subst hz
      rw [hm] at hrem
      have hm2 : (X : Int) % 64 = 56 := by omega
      have HM : Hid (tail b 0 = fill b (zeros b.length)) := tail_zero b
      have HX := Lib.hid (hX.symm.trans (congrArg List.length HM.out.symm))
      rw [← HM.out] at HO
      clear hfl hX hm hzg
      have h8 : IntKind.u64.wrap ((b.length : Int) * 8) = ((8 * b.length : Nat) : Int) := by rw [IntKind.wrap_u64]; omega
      have h8' : IntKind.u64.wrap (b.length : Int) = (b.length : Int) := by rw [IntKind.wrap_u64]; omega
      go_wp2_with fail
      clear h8 h8' hrem hm2
      rw [HX.out]
      rw [HX.out] at HO
      have HBB := Lib.hid hbase
      clear hbase HX
      go_loopg [3, 5] 8 (fun g v3 v5 wr => ∃ (i : Nat) (ar : Option Addr) (cr : Nat), i + g = 8 ∧ v5 = .int .i64 i ∧ v3 = .slice ar (tail b i).length cr ∧ Hid (wr.ownsRow w.heap.size 5 1 (.slice ar (tail b i).length cr) (tail b i).length (Lib.byteCells (tail b i))) ∧ Hid (Below w.heap.size w wr))
      case atStart => exact ⟨0, az, cz, by omega, rfl, rfl, HO, HU⟩
      case round =>
        clear HO HU
        obtain ⟨i, a3, c3, hig, rfl, rfl, HO, HU⟩ := hrel
        have HG := Lib.hid hig
        have hbase := HU.out.size
        have htl := tail_length b (i := i) (by omega)
        obtain ⟨X, hX⟩ : ∃ X, (tail b i).length = X := ⟨_, rfl⟩
        rw [hX] at HO htl ⊢
        have HX := Lib.hid hX
        by_cases hlt : i < 8
        · have hXl : X + 1 ≤ 140737488355328 := by omega
          have hi8 := lt8 hlt
          rw [← hX] at HO
          clear hX hig hlt htl
          rcases hi8 with rfl | rfl | rfl | rfl | rfl | rfl | rfl | rfl
          · have HT : Hid (tail b 0 ++ [UInt8.ofNat (8 * b.length / 72057594037927936)] = tail b 1) := tail_succ b (i := 0) (by decide)
            go_wp2_with (at_builtin; refine append_one wr rfl (.tmp 26) (.tmp 35) rfl w.heap.size (tail b 0) (UInt8.ofNat (8 * b.length / 72057594037927936)) ?hz0 HO.out hbase (by rw [HX.out]; exact hXl) (by rw [HX.out]; rfl) rfl ?_; rotate_left; intro ar3 cr3 w3 n3 hn3 ho3 hb3)
            · go_roundg 7
              case measure => have := HG.out; omega
              case rel =>
                rw [HT.out] at hn3 ho3
                subst hn3
                exact ⟨1, ar3, cr3, by omega, rfl, congrArg (fun n => Value.slice ar3 n cr3) (by rw [tail_length b (by decide), tail_length b (by decide)]), ho3, HU.out.trans hb3⟩
            · rw [UInt8.toNat_ofNat']; omega
          · have HT : Hid (tail b 1 ++ [UInt8.ofNat (8 * b.length / 281474976710656)] = tail b 2) := tail_succ b (i := 1) (by decide)
            go_wp2_with (at_builtin; refine append_one wr rfl (.tmp 26) (.tmp 35) rfl w.heap.size (tail b 1) (UInt8.ofNat (8 * b.length / 281474976710656)) ?hz1 HO.out hbase (by rw [HX.out]; exact hXl) (by rw [HX.out]; rfl) rfl ?_; rotate_left; intro ar3 cr3 w3 n3 hn3 ho3 hb3)
            · go_roundg 6
              case measure => have := HG.out; omega
              case rel =>
                rw [HT.out] at hn3 ho3
                subst hn3
                exact ⟨2, ar3, cr3, by omega, rfl, congrArg (fun n => Value.slice ar3 n cr3) (by rw [tail_length b (by decide), tail_length b (by decide)]), ho3, HU.out.trans hb3⟩
            · rw [UInt8.toNat_ofNat']; omega
          · have HT : Hid (tail b 2 ++ [UInt8.ofNat (8 * b.length / 1099511627776)] = tail b 3) := tail_succ b (i := 2) (by decide)
            go_wp2_with (at_builtin; refine append_one wr rfl (.tmp 26) (.tmp 35) rfl w.heap.size (tail b 2) (UInt8.ofNat (8 * b.length / 1099511627776)) ?hz2 HO.out hbase (by rw [HX.out]; exact hXl) (by rw [HX.out]; rfl) rfl ?_; rotate_left; intro ar3 cr3 w3 n3 hn3 ho3 hb3)
            · go_roundg 5
              case measure => have := HG.out; omega
              case rel =>
                rw [HT.out] at hn3 ho3
                subst hn3
                exact ⟨3, ar3, cr3, by omega, rfl, congrArg (fun n => Value.slice ar3 n cr3) (by rw [tail_length b (by decide), tail_length b (by decide)]), ho3, HU.out.trans hb3⟩
            · rw [UInt8.toNat_ofNat']; omega
          · have HT : Hid (tail b 3 ++ [UInt8.ofNat (8 * b.length / 4294967296)] = tail b 4) := tail_succ b (i := 3) (by decide)
            go_wp2_with (at_builtin; refine append_one wr rfl (.tmp 26) (.tmp 35) rfl w.heap.size (tail b 3) (UInt8.ofNat (8 * b.length / 4294967296)) ?hz3 HO.out hbase (by rw [HX.out]; exact hXl) (by rw [HX.out]; rfl) rfl ?_; rotate_left; intro ar3 cr3 w3 n3 hn3 ho3 hb3)
            · go_roundg 4
              case measure => have := HG.out; omega
              case rel =>
                rw [HT.out] at hn3 ho3
                subst hn3
                exact ⟨4, ar3, cr3, by omega, rfl, congrArg (fun n => Value.slice ar3 n cr3) (by rw [tail_length b (by decide), tail_length b (by decide)]), ho3, HU.out.trans hb3⟩
            · rw [UInt8.toNat_ofNat']; omega
          · have HT : Hid (tail b 4 ++ [UInt8.ofNat (8 * b.length / 16777216)] = tail b 5) := tail_succ b (i := 4) (by decide)
            go_wp2_with (at_builtin; refine append_one wr rfl (.tmp 26) (.tmp 35) rfl w.heap.size (tail b 4) (UInt8.ofNat (8 * b.length / 16777216)) ?hz4 HO.out hbase (by rw [HX.out]; exact hXl) (by rw [HX.out]; rfl) rfl ?_; rotate_left; intro ar3 cr3 w3 n3 hn3 ho3 hb3)
            · go_roundg 3
              case measure => have := HG.out; omega
              case rel =>
                rw [HT.out] at hn3 ho3
                subst hn3
                exact ⟨5, ar3, cr3, by omega, rfl, congrArg (fun n => Value.slice ar3 n cr3) (by rw [tail_length b (by decide), tail_length b (by decide)]), ho3, HU.out.trans hb3⟩
            · rw [UInt8.toNat_ofNat']; omega
          · have HT : Hid (tail b 5 ++ [UInt8.ofNat (8 * b.length / 65536)] = tail b 6) := tail_succ b (i := 5) (by decide)
            go_wp2_with (at_builtin; refine append_one wr rfl (.tmp 26) (.tmp 35) rfl w.heap.size (tail b 5) (UInt8.ofNat (8 * b.length / 65536)) ?hz5 HO.out hbase (by rw [HX.out]; exact hXl) (by rw [HX.out]; rfl) rfl ?_; rotate_left; intro ar3 cr3 w3 n3 hn3 ho3 hb3)
            · go_roundg 2
              case measure => have := HG.out; omega
              case rel =>
                rw [HT.out] at hn3 ho3
                subst hn3
                exact ⟨6, ar3, cr3, by omega, rfl, congrArg (fun n => Value.slice ar3 n cr3) (by rw [tail_length b (by decide), tail_length b (by decide)]), ho3, HU.out.trans hb3⟩
            · rw [UInt8.toNat_ofNat']; omega
          · have HT : Hid (tail b 6 ++ [UInt8.ofNat (8 * b.length / 256)] = tail b 7) := tail_succ b (i := 6) (by decide)
            go_wp2_with (at_builtin; refine append_one wr rfl (.tmp 26) (.tmp 35) rfl w.heap.size (tail b 6) (UInt8.ofNat (8 * b.length / 256)) ?hz6 HO.out hbase (by rw [HX.out]; exact hXl) (by rw [HX.out]; rfl) rfl ?_; rotate_left; intro ar3 cr3 w3 n3 hn3 ho3 hb3)
            · go_roundg 1
              case measure => have := HG.out; omega
              case rel =>
                rw [HT.out] at hn3 ho3
                subst hn3
                exact ⟨7, ar3, cr3, by omega, rfl, congrArg (fun n => Value.slice ar3 n cr3) (by rw [tail_length b (by decide), tail_length b (by decide)]), ho3, HU.out.trans hb3⟩
            · rw [UInt8.toNat_ofNat']; omega
          · have HT : Hid (tail b 7 ++ [UInt8.ofNat (8 * b.length / 1)] = tail b 8) := tail_succ b (i := 7) (by decide)
            go_wp2_with (at_builtin; refine append_one wr rfl (.tmp 26) (.tmp 35) rfl w.heap.size (tail b 7) (UInt8.ofNat (8 * b.length / 1)) ?hz7 HO.out hbase (by rw [HX.out]; exact hXl) (by rw [HX.out]; rfl) rfl ?_; rotate_left; intro ar3 cr3 w3 n3 hn3 ho3 hb3)
            · go_roundg 0
              case measure => have := HG.out; omega
              case rel =>
                rw [HT.out] at hn3 ho3
                subst hn3
                exact ⟨8, ar3, cr3, by omega, rfl, congrArg (fun n => Value.slice ar3 n cr3) (by rw [tail_length b (by decide), tail_length b (by decide)]), ho3, HU.out.trans hb3⟩
            · rw [UInt8.toNat_ofNat']; omega
        · obtain rfl : i = 8 := by omega
          have HT : Hid (tail b 8 = pad b) := tail_all b
          rw [← hX, HT.out] at HO
          rw [← hX, HT.out]
          clear hX hig hlt htl HX
          go_wp2_with fail
          go_ret
          exact ⟨a3, c3, rfl, HO.out, HU.out⟩
    · have hm1 : ¬ ((X % 64 : Nat) : Int) = 56 := by omega
      have hm2 : ¬ (X : Int) % 64 = 56 := by omega
      have HE := Lib.hid (fill_succ b z)
      have HF := Lib.hid (fill_length b (z + 1))
      have hzlt : z < zeros b.length := by
        have : z ≠ zeros b.length := fun e => hm (by rw [hfl, e]; exact zeros_spec b.length)
        omega
      have HX := Lib.hid hX
      rw [← hX] at HO
      clear hm hzg hX
      go_wp2_with (at_builtin; refine append_one wr rfl (.tmp 15) (.tmp 16) rfl w.heap.size (fill b z) 0 rfl HO.out hbase (by rw [HX.out]; omega) (by rw [HX.out]; rfl) rfl ?_; intro ar3 cr3 w3 n3 hn3 ho3 hb3)
      go_roundg (zeros b.length - (z + 1))
      case measure => have := HG.out; omega
      case rel =>
        rw [HE.out] at hn3 ho3
        subst hn3
        exact ⟨z + 1, ar3, cr3, by omega, congrArg (fun n => Value.slice ar3 n cr3) (by rw [fill_length, fill_length]; omega), ho3, HU.out.trans hb3⟩
/-- the constants as the code lays them -/
def kcells : Array Value := #[.int .u32 1116352408, .int .u32 1899447441, .int .u32 3049323471, .int .u32 3921009573, .int .u32 961987163, .int .u32 1508970993, .int .u32 2453635748, .int .u32 2870763221, .int .u32 3624381080, .int .u32 310598401, .int .u32 607225278, .int .u32 1426881987, .int .u32 1925078388, .int .u32 2162078206, .int .u32 2614888103, .int .u32 3248222580, .int .u32 3835390401, .int .u32 4022224774, .int .u32 264347078, .int .u32 604807628, .int .u32 770255983, .int .u32 1249150122, .int .u32 1555081692, .int .u32 1996064986, .int .u32 2554220882, .int .u32 2821834349, .int .u32 2952996808, .int .u32 3210313671, .int .u32 3336571891, .int .u32 3584528711, .int .u32 113926993, .int .u32 338241895, .int .u32 666307205, .int .u32 773529912, .int .u32 1294757372, .int .u32 1396182291, .int .u32 1695183700, .int .u32 1986661051, .int .u32 2177026350, .int .u32 2456956037, .int .u32 2730485921, .int .u32 2820302411, .int .u32 3259730800, .int .u32 3345764771, .int .u32 3516065817, .int .u32 3600352804, .int .u32 4094571909, .int .u32 275423344, .int .u32 430227734, .int .u32 506948616, .int .u32 659060556, .int .u32 883997877, .int .u32 958139571, .int .u32 1322822218, .int .u32 1537002063, .int .u32 1747873779, .int .u32 1955562222, .int .u32 2024104815, .int .u32 2227730452, .int .u32 2361852424, .int .u32 2428436474, .int .u32 2756734187, .int .u32 3204031479, .int .u32 3329325298]
theorem kcells_eq : kcells = wcells K := rfl
theorem kcells_get {t : Nat} (h : t < 64) : kcells[t]? = some (w32 (K.getD t 0)) := by
  rw [kcells_eq]
  refine wcells_get ?_
  rw [List.getD_eq_getElem?_getD, List.getElem?_eq_getElem (show t < K.length from h)]
  rfl
set_option maxHeartbeats 4000000 in
set_option maxRecDepth 100000 in
theorem k (t : Nat) (ht : t < 64) (w : World) :
    Calls Tryz.prog 134 #[.int .i64 t] w fun e w' => e = .returned (w32 (K.getD t 0)) ∧ Below w.heap.size w w' := by
  have hc : (w.alloc (.cells kcells 193)).cell? ⟨w.heap.size, t, none⟩ = some (w32 (K.getD t 0)) := by rw [Lib.cell_of_heap (heap_alloc_new _ _), kcells_get ht]
  have hb := (Below.refl w.heap.size w).alloc (Nat.le_refl _) (.cells kcells 193)
  generalize K.getD t 0 = kk at *
  go_enter Tryz.func134, Tryz.ntmps134
  go_upto_region 2 with fail
  change Code.wp _ _ _ _ (w.alloc (.cells kcells 193))
  generalize w.alloc (.cells kcells 193) = w1 at *
  go_wp2_with fail
  go_ret
  exact ⟨rfl, hb⟩
end Go.Proofs.YtidflagmdabfaaaGreatDoor.RsA
